/- the functions do what their models say -/
import Derived.Test.YteocnbeefedbkaaDoorQh1
set_option linter.unusedSimpArgs false
set_option linter.unusedVariables false
set_option maxRecDepth 100000
set_option maxHeartbeats 4000000
namespace Go.Proofs.YteocnbeefedbkaaDoor
open Go.VS

theorem ok_slices_partialInsertionSortCmpFunc_impl_Span {rn : Nat} {oq : Option Nat} {data : List Span} {a : Int} {b_ : Int} {f3 : Nat} {cs3 : List PV} {r : Bool × List Span} {fm : Span → Span → Option Int} (h : M.slices_partialInsertionSortCmpFunc_impl_Span data a b_ fm = some r) (hoq : oq = none → data = []) (hok3 : callOK Tryd.prog f3 = true) (hf3 : ∀ x0 x1 r, fm x0 x1 = some r → Does Tryd.prog f3 (encSpan x0 :: encSpan x1 :: cs3) [] rn (fun x H => x = .int .i64 r ∧ H = [])) : Does Tryd.prog 160 [optS 3 oq (List.length data), .int .i64 a, .int .i64 b_, .fn f3 cs3] (optH 3 oq (List.map encSpan data)) rn (fun x H => x = .bool r.1 ∧ H = optH 3 oq (List.map encSpan r.2)) := by
 have hm0 := h; clear h; unfold M.slices_partialInsertionSortCmpFunc_impl_Span at hm0
 try dsimp only at hm0
 refine Does.intro (N := 141) Tryd.func160 rfl rfl rfl rfl ?_
 intro w0 S0 L0
 replace hm0 := asrt_some hm0; rcases hm0 with ⟨hnz, hm0⟩
 rcases oq with _ | oq
 ·
  exfalso
  rw [hoq rfl] at hnz
  exact absurd hnz (by decide)
 ·
  refine V.seq ?_
  refine V.region ?_
  refine VO.cons rfl (V1.assign rfl rfl rfl lt0 ?_)
  refine VO.nil ?_
  refine V.seq ?_
  refine V.region ?_
  refine VO.cons rfl (V1.move rfl rfl rfl lt0 ?_)
  refine VO.cons rfl (V1.int rfl rfl rfl rfl rfl lt0 ?_)
  refine VO.cons rfl (V1.assign rfl rfl rfl lt0 ?_)
  refine VO.nil ?_
  refine V.seq ?_
  refine V.seq ?_
  refine V.region ?_
  refine VO.cons rfl (V1.assign rfl rfl rfl lt0 ?_)
  refine VO.nil ?_
  replace hm0 := bindO hm0; rcases hm0 with ⟨e0, he1, hm0⟩
  refine V.cutT (D := (List Span) × (Unit)) (fun ⟨data0, _⟩ => ⟨141, [(0, .sref oq 3 0 (List.length data0))], [(oq, ⟨3, List.map encSpan data0⟩)]⟩) (fun ⟨data0, _⟩ => (.inl data0 = e0)) ?_ ?_
  ·
   refine V.block ?_
   refine V.keep 141 [0, 9, 10, 1, 2, 3] [0] (E0 := [(0, .sref oq 3 0 (List.length data)), (9, .int .i64 (IntKind.i64.wrap (a + (1 : Int)))), (10, .int .i64 (0 : Int)), (1, .int .i64 a), (2, .int .i64 b_), (3, .fn f3 cs3)]) (H0 := [(oq, ⟨3, List.map encSpan data⟩)]) rfl (⟨_, _, rfl, rfl, _, _, rfl, rfl, _, _, rfl, rfl, _, _, rfl, rfl, _, _, rfl, rfl, _, _, rfl, rfl, rfl⟩) (⟨_, _, rfl, rfl, rfl⟩) rfl ?_
   refine V.loopE (D := Nat × (List Span × Int × Int) × (Unit)) (fun ⟨n0, ⟨data1, i, j_⟩, _⟩ => [(0, .sref oq 3 0 (List.length data1)), (9, .int .i64 i), (10, .int .i64 j_)]) (fun ⟨n0, ⟨data1, i, j_⟩, _⟩ => [(oq, ⟨3, List.map encSpan data1⟩)]) (fun ⟨n0, ⟨data1, i, j_⟩, _⟩ => loopO (M.slices_partialInsertionSortCmpFunc_impl_Span_l0 a b_ fm) n0 (data1, i, j_) = some e0) (fun ⟨n0, _, _⟩ => n0) (rounds, (data, (IntKind.i64.wrap (a + (1 : Int))), (0 : Int)), ()) rfl he1 ?_
   rintro ⟨n0, ⟨data1, i, j_⟩, _⟩ hP0
   obtain ⟨m0, y0, rfl, hm1, hl1, hr1⟩ := loop_head hP0
   unfold M.slices_partialInsertionSortCmpFunc_impl_Span_l0 at hm1; dsimp only at hm1
   show V _ _ _ ⟨141, [(0, .sref oq 3 0 (List.length data1)), (9, .int .i64 i), (10, .int .i64 j_), (1, .int .i64 a), (2, .int .i64 b_), (3, .fn f3 cs3)], [(oq, ⟨3, List.map encSpan data1⟩)]⟩
   refine V.seq ?_
   refine V.seq ?_
   refine V.region ?_
   refine VO.cons rfl (V1.move rfl rfl rfl lt0 ?_)
   refine VO.cons rfl (V1.int rfl rfl rfl rfl rfl lt0 ?_)
   refine VO.nil ?_
   refine V.cond rfl (fun hc0 => ?_) (fun hc0 => ?_)
   ·
    replace hm1 := cond_t hc0 hm1
    refine V.skip ?_
    refine V.seq ?_
    replace hm1 := bindO hm1; rcases hm1 with ⟨j0, hm2, hm1⟩
    refine V.cutT (D := (List Span × Int) × (Unit)) (fun ⟨⟨data2, i0⟩, _⟩ => ⟨141, [(0, .sref oq 3 0 (List.length data2)), (9, .int .i64 i0), (1, .int .i64 a), (2, .int .i64 b_), (3, .fn f3 cs3), (10, .int .i64 j_)], [(oq, ⟨3, List.map encSpan data2⟩)]⟩) (fun ⟨⟨data2, i0⟩, _⟩ => (.inl (data2, i0) = j0)) ?_ ?_
    ·
     refine V.block ?_
     refine V.seq ?_
     replace hm2 := bindO hm2; rcases hm2 with ⟨e1, he3, hm2⟩
     refine V.cutT (D := (Int) × (Unit)) (fun ⟨i1, _⟩ => ⟨141, [(9, .int .i64 i1), (0, .sref oq 3 0 (List.length data1)), (1, .int .i64 a), (2, .int .i64 b_), (3, .fn f3 cs3), (10, .int .i64 j_)], [(oq, ⟨3, List.map encSpan data1⟩)]⟩) (fun ⟨i1, _⟩ => (i1 = e1)) ?_ ?_
     ·
      refine V.block ?_
      refine V.keep 141 [9, 0, 1, 2, 3, 10] [0] (E0 := [(9, .int .i64 i), (0, .sref oq 3 0 (List.length data1)), (1, .int .i64 a), (2, .int .i64 b_), (3, .fn f3 cs3), (10, .int .i64 j_)]) (H0 := [(oq, ⟨3, List.map encSpan data1⟩)]) rfl (⟨_, _, rfl, rfl, _, _, rfl, rfl, _, _, rfl, rfl, _, _, rfl, rfl, _, _, rfl, rfl, _, _, rfl, rfl, rfl⟩) (⟨_, _, rfl, rfl, rfl⟩) rfl ?_
      refine V.loopE (D := Nat × (Int) × (Unit)) (fun ⟨n1, i2, _⟩ => [(9, .int .i64 i2)]) (fun ⟨n1, i2, _⟩ => []) (fun ⟨n1, i2, _⟩ => loopO (M.slices_partialInsertionSortCmpFunc_impl_Span_l1 b_ fm data1) n1 i2 = some e1) (fun ⟨n1, _, _⟩ => n1) (rounds, i, ()) rfl he3 ?_
      rintro ⟨n1, i2, _⟩ hP1
      obtain ⟨m1, y1, rfl, hm3, hl3, hr3⟩ := loop_head hP1
      unfold M.slices_partialInsertionSortCmpFunc_impl_Span_l1 at hm3; dsimp only at hm3
      show V _ _ _ ⟨141, [(9, .int .i64 i2), (0, .sref oq 3 0 (List.length data1)), (1, .int .i64 a), (2, .int .i64 b_), (3, .fn f3 cs3), (10, .int .i64 j_)], [(oq, ⟨3, List.map encSpan data1⟩)]⟩
      refine V.seq ?_
      refine V.seq ?_
      replace hm3 := asrt_some hm3; rcases hm3 with ⟨hh0, hm3⟩
      replace hm3 := asrt_some hm3; rcases hm3 with ⟨hh1, hm3⟩
      replace hm3 := bindO hm3; rcases hm3 with ⟨y2, hh2, hm3⟩
      refine V.regionM 141 18 [⟨[(9, none)], [], none⟩, ⟨[(2, none)], [], none⟩, ⟨[(19, some 1), (20, some 0)], [], none⟩, ⟨[(21, some 0)], [], none⟩, ⟨[(3, none)], [(0, true)], none⟩, ⟨[(0, none)], [(1, true)], none⟩, ⟨[(9, none)], [(2, true)], none⟩, ⟨[(24, some 1), (25, some 0)], [(3, true)], none⟩, ⟨[(26, some 0)], [(4, true)], none⟩, ⟨[(0, none)], [(5, true)], none⟩, ⟨[(9, none)], [(6, true)], none⟩, ⟨[(29, some 0)], [(7, true)], none⟩, ⟨[(28, some 2), (30, some 0)], [(8, true)], none⟩, ⟨[(31, some 0)], [(9, true)], none⟩, ⟨[(23, some 9), (27, some 5), (32, some 0)], [(10, true)], none⟩, ⟨[(33, some 0)], [(11, true)], none⟩, ⟨[(34, some 0)], [(12, true)], none⟩, ⟨[], [], some (true, 22, 35, 13, 0)⟩] [(0, none), (1, none), (2, none), (3, none), (9, none), (10, none), (36, some 0)] (⟨_, rfl, ⟨_, rfl, ⟨_, rfl, ⟨_, rfl, ⟨_, rfl, ⟨_, rfl, ⟨_, rfl, ⟨_, rfl, ⟨_, rfl, ⟨_, rfl, ⟨_, rfl, ⟨_, rfl, ⟨_, rfl, ⟨_, rfl, ⟨_, rfl, ⟨_, rfl, ⟨_, rfl, ⟨_, rfl, ⟨rfl, rfl⟩⟩⟩⟩⟩⟩⟩⟩⟩⟩⟩⟩⟩⟩⟩⟩⟩⟩⟩) mixed_orders rfl (by decide +kernel) (fun hck5 => ?_)
      refine VP.step (p := ?pv12340) rfl rfl rfl (⟨_, _, rfl, rfl, rfl⟩) ?hv12340 ?rest12340 hck5
      case hv12340 =>
       intro E1
       refine (V1.move rfl rfl rfl lt0 ?_)
       exact rfl
      refine VP.step (p := ?pv12341) rfl rfl rfl (⟨_, _, rfl, rfl, rfl⟩) ?hv12341 ?rest12341 hck5
      case hv12341 =>
       intro E1
       refine (V1.move rfl rfl rfl lt0 ?_)
       exact rfl
      refine VP.step (p := ?pv12342) rfl rfl rfl (⟨_, _, rfl, rfl, _, _, rfl, rfl, rfl⟩) ?hv12342 ?rest12342 hck5
      case hv12342 =>
       intro E1
       refine (V1.int rfl rfl rfl rfl rfl lt0 ?_)
       exact rfl
      refine VP.step (p := ?pv12343) rfl rfl rfl (⟨_, _, rfl, rfl, rfl⟩) ?hv12343 ?rest12343 hck5
      case hv12343 =>
       intro E1
       refine (V1.move rfl rfl rfl lt0 ?_)
       exact rfl
      refine VP.step (p := ?pv12344) rfl rfl rfl (⟨_, _, rfl, rfl, rfl⟩) ?hv12344 ?rest12344 hck5
      case hv12344 =>
       refine ⟨_, rfl, fun hg0 => ?_⟩
       intro E1
       refine (V1.move rfl rfl rfl lt0 ?_)
       exact rfl
      refine VP.step (p := ?pv12345) rfl rfl rfl (⟨_, _, rfl, rfl, rfl⟩) ?hv12345 ?rest12345 hck5
      case hv12345 =>
       refine ⟨_, rfl, fun hg0 => ?_⟩
       intro E1
       refine (V1.move rfl rfl rfl lt0 ?_)
       exact rfl
      refine VP.step (p := ?pv12346) rfl rfl rfl (⟨_, _, rfl, rfl, rfl⟩) ?hv12346 ?rest12346 hck5
      case hv12346 =>
       refine ⟨_, rfl, fun hg0 => ?_⟩
       intro E1
       refine (V1.move rfl rfl rfl lt0 ?_)
       exact rfl
      refine VP.step (p := ?pv12347) rfl rfl rfl (⟨_, _, rfl, rfl, _, _, rfl, rfl, rfl⟩) ?hv12347 ?rest12347 hck5
      case hv12347 =>
       refine ⟨_, rfl, fun hg0 => ?_⟩
       intro E1
       refine (V1.indexSr rfl rfl esz_58 rfl rfl (hh0 hg0) lt0 ?_)
       exact rfl
      refine VP.step (p := ?pv12348) rfl rfl rfl (⟨_, _, rfl, rfl, rfl⟩) ?hv12348 ?rest12348 hck5
      case hv12348 =>
       refine ⟨_, rfl, fun hg0 => ?_⟩
       intro E1
       refine (V1.loadMapAll (k := 0) (f := encSpan) rfl rfl tyk_66 rfl rfl (by simpa using natLt (hh0 hg0).1 (hh0 hg0).2) rfl lt0 ?_)
       exact rfl
      refine VP.step (p := ?pv12349) rfl rfl rfl (⟨_, _, rfl, rfl, rfl⟩) ?hv12349 ?rest12349 hck5
      case hv12349 =>
       refine ⟨_, rfl, fun hg0 => ?_⟩
       intro E1
       refine (V1.move rfl rfl rfl lt0 ?_)
       exact rfl
      refine VP.step (p := ?pv12350) rfl rfl rfl (⟨_, _, rfl, rfl, rfl⟩) ?hv12350 ?rest12350 hck5
      case hv12350 =>
       refine ⟨_, rfl, fun hg0 => ?_⟩
       intro E1
       refine (V1.move rfl rfl rfl lt0 ?_)
       exact rfl
      refine VP.step (p := ?pv12351) rfl rfl rfl (⟨_, _, rfl, rfl, rfl⟩) ?hv12351 ?rest12351 hck5
      case hv12351 =>
       refine ⟨_, rfl, fun hg0 => ?_⟩
       intro E1
       refine (V1.int rfl rfl rfl rfl rfl lt0 ?_)
       exact rfl
      refine VP.step (p := ?pv12352) rfl rfl rfl (⟨_, _, rfl, rfl, _, _, rfl, rfl, rfl⟩) ?hv12352 ?rest12352 hck5
      case hv12352 =>
       refine ⟨_, rfl, fun hg0 => ?_⟩
       intro E1
       refine (V1.indexSr rfl rfl esz_58 rfl rfl (hh1 hg0) lt0 ?_)
       exact rfl
      refine VP.step (p := ?pv12353) rfl rfl rfl (⟨_, _, rfl, rfl, rfl⟩) ?hv12353 ?rest12353 hck5
      case hv12353 =>
       refine ⟨_, rfl, fun hg0 => ?_⟩
       intro E1
       refine (V1.loadMapAll (k := 0) (f := encSpan) rfl rfl tyk_66 rfl rfl (by simpa using natLt (hh1 hg0).1 (hh1 hg0).2) rfl lt0 ?_)
       exact rfl
      refine VP.step (p := ?pv12354) rfl rfl rfl (⟨_, _, rfl, rfl, _, _, rfl, rfl, _, _, rfl, rfl, rfl⟩) ?hv12354 ?rest12354 hck5
      case hv12354 =>
       refine ⟨_, rfl, fun hg0 => ?_⟩
       intro E1
       refine (V1.callG (τ := 0) (Bw := []) rfl lt0 (run_callFn rfl rfl rfl hok3 rfl) (.refl _) (Lends.same _) (fun _ h => by cases h) ((hf3 _ _  _) (cond_t hg0 hh2)) (.inl rfl) (.inl rfl) ?_)
       rintro _ _ ⟨rfl, rfl⟩
       exact rfl
      refine VP.step (p := ?pv12355) rfl rfl rfl (⟨_, _, rfl, rfl, rfl⟩) ?hv12355 ?rest12355 hck5
      case hv12355 =>
       refine ⟨_, rfl, fun hg0 => ?_⟩
       intro E1
       refine (V1.int rfl rfl rfl rfl rfl lt0 ?_)
       exact rfl
      refine VP.step (p := ?pv12356) rfl rfl rfl (⟨_, _, rfl, rfl, rfl⟩) ?hv12356 ?rest12356 hck5
      case hv12356 =>
       refine ⟨_, rfl, fun hg0 => ?_⟩
       intro E1
       refine (V1.not rfl rfl rfl lt0 ?_)
       exact rfl
      refine VP.pickAnd rfl rfl rfl rfl rfl rfl (trivial) ?_ hck5
      refine VP.fin rfl (⟨_, _, rfl, rfl, _, _, rfl, rfl, _, _, rfl, rfl, _, _, rfl, rfl, _, _, rfl, rfl, _, _, rfl, rfl, _, _, rfl, rfl, rfl⟩) ?_
      refine VO.nil ?_
      refine V.cond rfl (fun hc1 => ?_) (fun hc1 => ?_)
      ·
       replace hm3 := cond_t hc1 hm3
       refine V.skip ?_
       refine V.block ?_
       refine V.region ?_
       refine VO.cons rfl (V1.move rfl rfl rfl lt0 ?_)
       refine VO.cons rfl (V1.int rfl rfl rfl rfl rfl lt0 ?_)
       refine VO.cons rfl (V1.assign rfl rfl rfl lt0 ?_)
       refine VO.nil ?_
       exact ⟨(m1, (IntKind.i64.wrap (i2 + (1 : Int))), ()), hl3 _ (Option.some.inj hm3).symm, Nat.lt_succ_self _, Keeps.mk (ks := [0]) rfl ⟨rfl, rfl, rfl, rfl, rfl, rfl, trivial⟩ (⟨_, _, rfl, rfl, rfl⟩) rfl⟩
      ·
       replace hm3 := cond_f hc1 hm3
       refine V.exit ?_
       obtain rfl := hr3 _ (Option.some.inj hm3).symm
       exact ⟨(i2, ()), rfl, Keeps.mk (ks := [0]) rfl ⟨rfl, rfl, rfl, rfl, rfl, rfl, trivial⟩ (⟨_, _, rfl, rfl, rfl⟩) rfl⟩
     ·
      rintro ⟨i1, _⟩ rfl
      try dsimp only at hm2
      refine V.seq ?_
      refine V.seq ?_
      refine V.region ?_
      refine VO.cons rfl (V1.move rfl rfl rfl lt0 ?_)
      refine VO.cons rfl (V1.move rfl rfl rfl lt0 ?_)
      refine VO.cons rfl (V1.int rfl rfl rfl rfl rfl lt0 ?_)
      refine VO.nil ?_
      refine V.cond rfl (fun hc2 => ?_) (fun hc2 => ?_)
      ·
       replace hm2 := cond_t hc2 hm2
       refine V.seq ?_
       refine V.region ?_
       refine VO.cons rfl (V1.assign rfl rfl rfl lt0 ?_)
       refine VO.nil ?_
       refine V.keep 141 [8] [0] (E0 := [(8, .bool true)]) (H0 := [(oq, ⟨3, List.map encSpan data1⟩)]) rfl (⟨_, _, rfl, rfl, rfl⟩) (⟨_, _, rfl, rfl, rfl⟩) rfl ?_
       refine V.ret ?_
       obtain rfl := Option.some.inj hm2
       change some _ = some _ at hm1
       obtain rfl := hr1 _ (Option.some.inj hm1).symm
       change some _ = some _ at hm0
       obtain rfl := Option.some.inj hm0
       exact ⟨_, _, ⟨_, _, rfl, rfl, rfl⟩, List.Sublist.refl _, rfl, rfl⟩
      ·
       replace hm2 := cond_f hc2 hm2
       refine V.skip ?_
       refine V.seq ?_
       refine V.seq ?_
       refine V.region ?_
       refine VO.cons rfl (V1.move rfl rfl rfl lt0 ?_)
       refine VO.cons rfl (V1.move rfl rfl rfl lt0 ?_)
       refine VO.cons rfl (V1.int rfl rfl rfl rfl rfl lt0 ?_)
       refine VO.cons rfl (V1.int rfl rfl rfl rfl rfl lt0 ?_)
       refine VO.nil ?_
       refine V.keep 141 [0, 1, 2, 3, 9, 10, 45] [0] (E0 := [(0, .sref oq 3 0 (List.length data1)), (1, .int .i64 a), (2, .int .i64 b_), (3, .fn f3 cs3), (9, .int .i64 i1), (10, .int .i64 j_), (45, .bool (decide ((IntKind.i64.wrap (b_ - a)) < (50 : Int))))]) (H0 := [(oq, ⟨3, List.map encSpan data1⟩)]) rfl (⟨_, _, rfl, rfl, _, _, rfl, rfl, _, _, rfl, rfl, _, _, rfl, rfl, _, _, rfl, rfl, _, _, rfl, rfl, _, _, rfl, rfl, rfl⟩) (⟨_, _, rfl, rfl, rfl⟩) rfl ?_
       refine V.cond rfl (fun hc3 => ?_) (fun hc3 => ?_)
       ·
        replace hm2 := cond_t hc3 hm2
        refine V.seq ?_
        refine V.region ?_
        refine VO.cons rfl (V1.assign rfl rfl rfl lt0 ?_)
        refine VO.nil ?_
        refine V.keep 141 [8] [0] (E0 := [(8, .bool false)]) (H0 := [(oq, ⟨3, List.map encSpan data1⟩)]) rfl (⟨_, _, rfl, rfl, rfl⟩) (⟨_, _, rfl, rfl, rfl⟩) rfl ?_
        refine V.ret ?_
        obtain rfl := Option.some.inj hm2
        change some _ = some _ at hm1
        obtain rfl := hr1 _ (Option.some.inj hm1).symm
        change some _ = some _ at hm0
        obtain rfl := Option.some.inj hm0
        exact ⟨_, _, ⟨_, _, rfl, rfl, rfl⟩, List.Sublist.refl _, rfl, rfl⟩
       ·
        replace hm2 := cond_f hc3 hm2
        refine V.skip ?_
        refine V.seq ?_
        replace hm2 := asrt_some hm2; rcases hm2 with ⟨hh3, hm2⟩
        replace hm2 := asrt_some hm2; rcases hm2 with ⟨hh4, hm2⟩
        replace hm2 := asrt_some hm2; rcases hm2 with ⟨hh5, hm2⟩
        replace hm2 := asrt_some hm2; rcases hm2 with ⟨hh6, hm2⟩
        replace hm2 := bindO hm2; rcases hm2 with ⟨j1, hm3, hm2⟩
        refine V.cutT (D := (List Span) × (Unit)) (fun ⟨data3, _⟩ => ⟨141, [(0, .sref oq 3 0 (List.length data3)), (1, .int .i64 a), (2, .int .i64 b_), (3, .fn f3 cs3), (9, .int .i64 i1), (10, .int .i64 j_)], [(oq, ⟨3, List.map encSpan data3⟩)]⟩) (fun ⟨data3, _⟩ => (data3 = j1)) ?_ ?_
        ·
         refine V.regionS [] 141 16 [⟨[(0, none)], false⟩, ⟨[(9, none)], false⟩, ⟨[(0, none)], false⟩, ⟨[(9, none)], false⟩, ⟨[(49, some 3)], false⟩, ⟨[(0, none)], false⟩, ⟨[(9, none)], false⟩, ⟨[(52, some 6)], false⟩, ⟨[(51, some 5), (53, some 7)], false⟩, ⟨[(54, some 8)], true⟩, ⟨[(0, none)], false⟩, ⟨[(9, none)], false⟩, ⟨[(56, some 10), (57, some 11)], false⟩, ⟨[(58, some 12)], true⟩, ⟨[(46, some 0), (47, some 1)], false⟩, ⟨[(55, some 9), (60, some 14)], true⟩] [(0, none), (1, none), (2, none), (3, none), (9, none), (10, none), (48, some 2), (50, some 4), (59, some 13)] 3 (⟨_, rfl, ⟨_, rfl, ⟨_, rfl, ⟨_, rfl, ⟨_, rfl, ⟨_, rfl, ⟨_, rfl, ⟨_, rfl, ⟨_, rfl, ⟨_, rfl, ⟨_, rfl, ⟨_, rfl, ⟨_, rfl, ⟨_, rfl, ⟨_, rfl, ⟨_, rfl, ⟨rfl, rfl⟩⟩⟩⟩⟩⟩⟩⟩⟩⟩⟩⟩⟩⟩⟩⟩⟩) mixed_orders rfl (by decide +kernel) ?_
         refine WalkP.step (p := ?pv12371) 0 rfl rfl rfl rfl rfl (⟨_, _, rfl, rfl, rfl⟩) ?hv12371 ?rest12371
         case hv12371 =>
          intro E1 H1 hI1
          refine (V1.move rfl rfl rfl lt0 ?_)
          exact rfl
         refine WalkP.step (p := ?pv12372) 1 rfl rfl rfl rfl rfl (⟨_, _, rfl, rfl, rfl⟩) ?hv12372 ?rest12372
         case hv12372 =>
          intro E1 H1 hI1
          refine (V1.move rfl rfl rfl lt0 ?_)
          exact rfl
         refine WalkP.step (p := ?pv12373) 2 rfl rfl rfl rfl rfl (⟨_, _, rfl, rfl, rfl⟩) ?hv12373 ?rest12373
         case hv12373 =>
          intro E1 H1 hI1
          refine (V1.move rfl rfl rfl lt0 ?_)
          exact rfl
         refine WalkP.step (p := ?pv12374) 3 rfl rfl rfl rfl rfl (⟨_, _, rfl, rfl, rfl⟩) ?hv12374 ?rest12374
         case hv12374 =>
          intro E1 H1 hI1
          refine (V1.move rfl rfl rfl lt0 ?_)
          exact rfl
         refine WalkP.step (p := ?pv12375) 4 rfl rfl rfl rfl rfl (⟨_, _, rfl, rfl, rfl⟩) ?hv12375 ?rest12375
         case hv12375 =>
          intro E1 H1 hI1
          refine (V1.int rfl rfl rfl rfl rfl lt0 ?_)
          exact rfl
         refine WalkP.step (p := ?pv12376) 5 rfl rfl rfl rfl rfl (⟨_, _, rfl, rfl, rfl⟩) ?hv12376 ?rest12376
         case hv12376 =>
          intro E1 H1 hI1
          refine (V1.move rfl rfl rfl lt0 ?_)
          exact rfl
         refine WalkP.step (p := ?pv12377) 6 rfl rfl rfl rfl rfl (⟨_, _, rfl, rfl, rfl⟩) ?hv12377 ?rest12377
         case hv12377 =>
          intro E1 H1 hI1
          refine (V1.move rfl rfl rfl lt0 ?_)
          exact rfl
         refine WalkP.step (p := ?pv12378) 7 rfl rfl rfl rfl rfl (⟨_, _, rfl, rfl, rfl⟩) ?hv12378 ?rest12378
         case hv12378 =>
          intro E1 H1 hI1
          refine (V1.int rfl rfl rfl rfl rfl lt0 ?_)
          exact rfl
         refine WalkP.step (p := ?pv12379) 8 rfl rfl rfl rfl rfl (⟨_, _, rfl, rfl, _, _, rfl, rfl, rfl⟩) ?hv12379 ?rest12379
         case hv12379 =>
          intro E1 H1 hI1
          refine (V1.indexSr rfl rfl esz_58 rfl rfl hh3 lt0 ?_)
          exact rfl
         refine WalkP.step (p := ?pv12380) 10 rfl rfl rfl rfl rfl (⟨_, _, rfl, rfl, rfl⟩) ?hv12380 ?rest12380
         case hv12380 =>
          intro E1 H1 hI1
          refine (V1.move rfl rfl rfl lt0 ?_)
          exact rfl
         refine WalkP.step (p := ?pv12381) 11 rfl rfl rfl rfl rfl (⟨_, _, rfl, rfl, rfl⟩) ?hv12381 ?rest12381
         case hv12381 =>
          intro E1 H1 hI1
          refine (V1.move rfl rfl rfl lt0 ?_)
          exact rfl
         refine WalkP.step (p := ?pv12382) 12 rfl rfl rfl rfl rfl (⟨_, _, rfl, rfl, _, _, rfl, rfl, rfl⟩) ?hv12382 ?rest12382
         case hv12382 =>
          intro E1 H1 hI1
          refine (V1.indexSr rfl rfl esz_58 rfl rfl hh4 lt0 ?_)
          exact rfl
         refine WalkP.nil ?_
         refine NodeS.branch [9, 13] inNil rfl rfl rfl ⟨?_, ?_, trivial⟩
         ·
          refine ⟨_, _, _, _, rfl, rfl, rfl, (⟨_, _, rfl, rfl, rfl⟩), fun E1 => ?_⟩
          refine (V1.loadMapAll (k := 0) (f := encSpan) rfl rfl tyk_66 rfl rfl (by simpa using natLt hh3.1 hh3.2) rfl lt0 ?_)
          refine ⟨_, _, rfl, ?_⟩
          refine WalkP.nil ?_
          refine NodeS.branch [13] inNil rfl rfl rfl ⟨?_, trivial⟩
          ·
           refine ⟨_, _, _, _, rfl, rfl, rfl, (⟨_, _, rfl, rfl, rfl⟩), fun E1 => ?_⟩
           refine (V1.loadMapAll (k := 0) (f := encSpan) rfl rfl tyk_66 rfl rfl (by simpa using natLt hh4.1 hh4.2) rfl lt0 ?_)
           refine ⟨_, _, rfl, ?_⟩
           refine WalkP.step (p := ?pv12383) 14 rfl rfl rfl rfl rfl (⟨_, _, rfl, rfl, _, _, rfl, rfl, rfl⟩) ?hv12383 ?rest12383
           case hv12383 =>
            intro E1 H1 hI1
            refine (V1.indexSr rfl rfl esz_58 rfl rfl hh5 lt0 ?_)
            exact rfl
           refine WalkP.nil ?_
           refine NodeS.branch [15] inNil rfl rfl rfl ⟨?_, trivial⟩
           ·
            refine ⟨_, _, _, _, rfl, rfl, rfl, (⟨_, _, rfl, rfl, _, _, rfl, rfl, rfl⟩), fun E1 => ?_⟩
            refine (V1.storeMap (k := 0) (f := encSpan) (x := (data1.getD (Int.toNat (IntKind.i64.wrap (i1 - (1 : Int)))) default)) rfl rfl tyk_66 rfl rfl (by simpa using natLt hh5.1 hh5.2) rfl rfl ?_)
            refine ⟨.undef, _, rfl, ?_⟩
            refine WalkP.nil ?_
            refine NodeS.fin inNil rfl rfl rfl (⟨_, _, rfl, rfl, _, _, rfl, rfl, _, _, rfl, rfl, _, _, rfl, rfl, _, _, rfl, rfl, _, _, rfl, rfl, _, _, rfl, rfl, _, _, rfl, rfl, _, _, rfl, rfl, rfl⟩) ?_
            refine VO.weakenK (Keeps.say 0 (y := .sref oq 3 0 (List.length (data1.set (Int.toNat i1) (data1.getD (Int.toNat (IntKind.i64.wrap (i1 - (1 : Int)))) default)))) rfl (by simp [optS])) ?_
            refine VO.weakenK (Keeps.say 48 (y := .sref oq 3 0 (List.length (data1.set (Int.toNat i1) (data1.getD (Int.toNat (IntKind.i64.wrap (i1 - (1 : Int)))) default)))) rfl (by simp [optS])) ?_
            refine VO.cons rfl (V1.indexSr rfl rfl esz_58 rfl rfl hh6 lt0 ?_)
            refine VO.cons rfl (V1.storeMap (k := 0) (f := encSpan) (x := (data1.getD (Int.toNat i1) default)) rfl rfl tyk_66 rfl rfl (by simpa using natLt hh6.1 hh6.2) rfl rfl ?_)
            refine VO.weakenK (Keeps.say 0 (y := .sref oq 3 0 (List.length ((data1.set (Int.toNat i1) (data1.getD (Int.toNat (IntKind.i64.wrap (i1 - (1 : Int)))) default)).set (Int.toNat (IntKind.i64.wrap (i1 - (1 : Int)))) (data1.getD (Int.toNat i1) default)))) rfl (by simp [optS])) ?_
            refine VO.nil ?_
            exact ⟨(((data1.set (Int.toNat i1) (data1.getD (Int.toNat (IntKind.i64.wrap (i1 - (1 : Int)))) default)).set (Int.toNat (IntKind.i64.wrap (i1 - (1 : Int)))) (data1.getD (Int.toNat i1) default)), ()), Option.some.inj hm3, Keeps.mk (ks := [0]) rfl ⟨(someSref (by simp)), rfl, rfl, rfl, rfl, rfl, trivial⟩ (⟨_, _, rfl, rfl, rfl⟩) rfl⟩
         ·
          refine ⟨_, _, _, _, rfl, rfl, rfl, (⟨_, _, rfl, rfl, rfl⟩), fun E1 => ?_⟩
          refine (V1.loadMapAll (k := 0) (f := encSpan) rfl rfl tyk_66 rfl rfl (by simpa using natLt hh4.1 hh4.2) rfl lt0 ?_)
          refine ⟨_, _, rfl, ?_⟩
          refine WalkP.nil ?_
          refine NodeS.branch [9] inNil rfl rfl rfl ⟨?_, trivial⟩
          ·
           refine ⟨_, _, _, _, rfl, rfl, rfl, (⟨_, _, rfl, rfl, rfl⟩), fun E1 => ?_⟩
           refine (V1.loadMapAll (k := 0) (f := encSpan) rfl rfl tyk_66 rfl rfl (by simpa using natLt hh3.1 hh3.2) rfl lt0 ?_)
           refine ⟨_, _, rfl, ?_⟩
           refine WalkP.step (p := ?pv12384) 14 rfl rfl rfl rfl rfl (⟨_, _, rfl, rfl, _, _, rfl, rfl, rfl⟩) ?hv12384 ?rest12384
           case hv12384 =>
            intro E1 H1 hI1
            refine (V1.indexSr rfl rfl esz_58 rfl rfl hh5 lt0 ?_)
            exact rfl
           refine WalkP.nil ?_
           refine NodeS.branch [15] inNil rfl rfl rfl ⟨?_, trivial⟩
           ·
            refine ⟨_, _, _, _, rfl, rfl, rfl, (⟨_, _, rfl, rfl, _, _, rfl, rfl, rfl⟩), fun E1 => ?_⟩
            refine (V1.storeMap (k := 0) (f := encSpan) (x := (data1.getD (Int.toNat (IntKind.i64.wrap (i1 - (1 : Int)))) default)) rfl rfl tyk_66 rfl rfl (by simpa using natLt hh5.1 hh5.2) rfl rfl ?_)
            refine ⟨.undef, _, rfl, ?_⟩
            refine WalkP.nil ?_
            refine NodeS.fin inNil rfl rfl rfl (⟨_, _, rfl, rfl, _, _, rfl, rfl, _, _, rfl, rfl, _, _, rfl, rfl, _, _, rfl, rfl, _, _, rfl, rfl, _, _, rfl, rfl, _, _, rfl, rfl, _, _, rfl, rfl, rfl⟩) ?_
            refine VO.weakenK (Keeps.say 0 (y := .sref oq 3 0 (List.length (data1.set (Int.toNat i1) (data1.getD (Int.toNat (IntKind.i64.wrap (i1 - (1 : Int)))) default)))) rfl (by simp [optS])) ?_
            refine VO.weakenK (Keeps.say 48 (y := .sref oq 3 0 (List.length (data1.set (Int.toNat i1) (data1.getD (Int.toNat (IntKind.i64.wrap (i1 - (1 : Int)))) default)))) rfl (by simp [optS])) ?_
            refine VO.cons rfl (V1.indexSr rfl rfl esz_58 rfl rfl hh6 lt0 ?_)
            refine VO.cons rfl (V1.storeMap (k := 0) (f := encSpan) (x := (data1.getD (Int.toNat i1) default)) rfl rfl tyk_66 rfl rfl (by simpa using natLt hh6.1 hh6.2) rfl rfl ?_)
            refine VO.weakenK (Keeps.say 0 (y := .sref oq 3 0 (List.length ((data1.set (Int.toNat i1) (data1.getD (Int.toNat (IntKind.i64.wrap (i1 - (1 : Int)))) default)).set (Int.toNat (IntKind.i64.wrap (i1 - (1 : Int)))) (data1.getD (Int.toNat i1) default)))) rfl (by simp [optS])) ?_
            refine VO.nil ?_
            exact ⟨(((data1.set (Int.toNat i1) (data1.getD (Int.toNat (IntKind.i64.wrap (i1 - (1 : Int)))) default)).set (Int.toNat (IntKind.i64.wrap (i1 - (1 : Int)))) (data1.getD (Int.toNat i1) default)), ()), Option.some.inj hm3, Keeps.mk (ks := [0]) rfl ⟨(someSref (by simp)), rfl, rfl, rfl, rfl, rfl, trivial⟩ (⟨_, _, rfl, rfl, rfl⟩) rfl⟩
        ·
         rintro ⟨data3, _⟩ rfl
         try dsimp only at hm2
         refine V.seq ?_
         replace hm2 := bindO hm2; rcases hm2 with ⟨j2, hm3, hm2⟩
         refine V.cutT (D := (List Span) × (Unit)) (fun ⟨data4, _⟩ => ⟨141, [(0, .sref oq 3 0 (List.length data4)), (1, .int .i64 a), (2, .int .i64 b_), (3, .fn f3 cs3), (9, .int .i64 i1), (10, .int .i64 j_)], [(oq, ⟨3, List.map encSpan data4⟩)]⟩) (fun ⟨data4, _⟩ => (data4 = j2)) ?_ ?_
         ·
          refine V.seq ?_
          refine V.region ?_
          refine VO.cons rfl (V1.move rfl rfl rfl lt0 ?_)
          refine VO.cons rfl (V1.move rfl rfl rfl lt0 ?_)
          refine VO.cons rfl (V1.int rfl rfl rfl rfl rfl lt0 ?_)
          refine VO.cons rfl (V1.int rfl rfl rfl rfl rfl lt0 ?_)
          refine VO.nil ?_
          refine V.cond rfl (fun hc4 => ?_) (fun hc4 => ?_)
          ·
           replace hm3 := cond_t hc4 hm3
           refine V.seq ?_
           refine V.region ?_
           refine VO.cons rfl (V1.move rfl rfl rfl lt0 ?_)
           refine VO.cons rfl (V1.int rfl rfl rfl rfl rfl lt0 ?_)
           refine VO.cons rfl (V1.assign rfl rfl rfl lt0 ?_)
           refine VO.nil ?_
           refine V.keep 141 [0, 1, 2, 3, 9, 10, 11] [0] (E0 := [(0, .sref oq 3 0 (List.length data3)), (1, .int .i64 a), (2, .int .i64 b_), (3, .fn f3 cs3), (9, .int .i64 i1), (10, .int .i64 j_), (11, .int .i64 (IntKind.i64.wrap (i1 - (1 : Int))))]) (H0 := [(oq, ⟨3, List.map encSpan data3⟩)]) rfl (⟨_, _, rfl, rfl, _, _, rfl, rfl, _, _, rfl, rfl, _, _, rfl, rfl, _, _, rfl, rfl, _, _, rfl, rfl, _, _, rfl, rfl, rfl⟩) (⟨_, _, rfl, rfl, rfl⟩) rfl ?_
           replace hm3 := bindO hm3; rcases hm3 with ⟨e2, he4, hm3⟩
           refine V.cutT (D := (List Span) × (Unit)) (fun ⟨data5, _⟩ => ⟨141, [(0, .sref oq 3 0 (List.length data5)), (1, .int .i64 a), (2, .int .i64 b_), (3, .fn f3 cs3), (9, .int .i64 i1), (10, .int .i64 j_)], [(oq, ⟨3, List.map encSpan data5⟩)]⟩) (fun ⟨data5, _⟩ => (data5 = e2)) ?_ ?_
           ·
            refine V.block ?_
            refine V.keep 141 [0, 11, 1, 2, 3, 9, 10] [0] (E0 := [(0, .sref oq 3 0 (List.length data3)), (11, .int .i64 (IntKind.i64.wrap (i1 - (1 : Int)))), (1, .int .i64 a), (2, .int .i64 b_), (3, .fn f3 cs3), (9, .int .i64 i1), (10, .int .i64 j_)]) (H0 := [(oq, ⟨3, List.map encSpan data3⟩)]) rfl (⟨_, _, rfl, rfl, _, _, rfl, rfl, _, _, rfl, rfl, _, _, rfl, rfl, _, _, rfl, rfl, _, _, rfl, rfl, _, _, rfl, rfl, rfl⟩) (⟨_, _, rfl, rfl, rfl⟩) rfl ?_
            refine V.loopE (D := Nat × (List Span × Int) × (Unit)) (fun ⟨n2, ⟨data6, j_0⟩, _⟩ => [(0, .sref oq 3 0 (List.length data6)), (11, .int .i64 j_0)]) (fun ⟨n2, ⟨data6, j_0⟩, _⟩ => [(oq, ⟨3, List.map encSpan data6⟩)]) (fun ⟨n2, ⟨data6, j_0⟩, _⟩ => loopO (M.slices_partialInsertionSortCmpFunc_impl_Span_l2 fm) n2 (data6, j_0) = some e2) (fun ⟨n2, _, _⟩ => n2) (rounds, (data3, (IntKind.i64.wrap (i1 - (1 : Int)))), ()) rfl he4 ?_
            rintro ⟨n2, ⟨data6, j_0⟩, _⟩ hP2
            obtain ⟨m2, y3, rfl, hm4, hl4, hr4⟩ := loop_head hP2
            unfold M.slices_partialInsertionSortCmpFunc_impl_Span_l2 at hm4; dsimp only at hm4
            show V _ _ _ ⟨141, [(0, .sref oq 3 0 (List.length data6)), (11, .int .i64 j_0), (1, .int .i64 a), (2, .int .i64 b_), (3, .fn f3 cs3), (9, .int .i64 i1), (10, .int .i64 j_)], [(oq, ⟨3, List.map encSpan data6⟩)]⟩
            refine V.seq ?_
            refine V.seq ?_
            refine V.region ?_
            refine VO.cons rfl (V1.move rfl rfl rfl lt0 ?_)
            refine VO.cons rfl (V1.int rfl rfl rfl rfl rfl lt0 ?_)
            refine VO.nil ?_
            refine V.cond rfl (fun hc5 => ?_) (fun hc5 => ?_)
            ·
             replace hm4 := cond_t hc5 hm4
             refine V.skip ?_
             refine V.seq ?_
             refine V.block ?_
             refine V.seq ?_
             refine V.seq ?_
             replace hm4 := asrt_some hm4; rcases hm4 with ⟨hh7, hm4⟩
             replace hm4 := asrt_some hm4; rcases hm4 with ⟨hh8, hm4⟩
             replace hm4 := bindO hm4; rcases hm4 with ⟨y4, hh9, hm4⟩
             refine V.regionM 141 10 [⟨[(3, none)], [], none⟩, ⟨[(0, none)], [], none⟩, ⟨[(11, none)], [], none⟩, ⟨[(73, some 1), (74, some 0)], [], none⟩, ⟨[(75, some 0)], [], none⟩, ⟨[(0, none)], [], none⟩, ⟨[(11, none)], [], none⟩, ⟨[(78, some 0)], [], none⟩, ⟨[(77, some 2), (79, some 0)], [], none⟩, ⟨[(80, some 0)], [], none⟩] [(0, none), (1, none), (2, none), (3, none), (9, none), (10, none), (11, none), (72, some 9), (76, some 5), (81, some 0)] (⟨_, rfl, ⟨_, rfl, ⟨_, rfl, ⟨_, rfl, ⟨_, rfl, ⟨_, rfl, ⟨_, rfl, ⟨_, rfl, ⟨_, rfl, ⟨_, rfl, ⟨rfl, rfl⟩⟩⟩⟩⟩⟩⟩⟩⟩⟩⟩) mixed_orders rfl (by decide +kernel) (fun hck16 => ?_)
             refine VP.step (p := ?pv12651) rfl rfl rfl (⟨_, _, rfl, rfl, rfl⟩) ?hv12651 ?rest12651 hck16
             case hv12651 =>
              intro E1
              refine (V1.move rfl rfl rfl lt0 ?_)
              exact rfl
             refine VP.step (p := ?pv12652) rfl rfl rfl (⟨_, _, rfl, rfl, rfl⟩) ?hv12652 ?rest12652 hck16
             case hv12652 =>
              intro E1
              refine (V1.move rfl rfl rfl lt0 ?_)
              exact rfl
             refine VP.step (p := ?pv12653) rfl rfl rfl (⟨_, _, rfl, rfl, rfl⟩) ?hv12653 ?rest12653 hck16
             case hv12653 =>
              intro E1
              refine (V1.move rfl rfl rfl lt0 ?_)
              exact rfl
             refine VP.step (p := ?pv12654) rfl rfl rfl (⟨_, _, rfl, rfl, _, _, rfl, rfl, rfl⟩) ?hv12654 ?rest12654 hck16
             case hv12654 =>
              intro E1
              refine (V1.indexSr rfl rfl esz_58 rfl rfl hh7 lt0 ?_)
              exact rfl
             refine VP.step (p := ?pv12655) rfl rfl rfl (⟨_, _, rfl, rfl, rfl⟩) ?hv12655 ?rest12655 hck16
             case hv12655 =>
              intro E1
              refine (V1.loadMapAll (k := 0) (f := encSpan) rfl rfl tyk_66 rfl rfl (by simpa using natLt hh7.1 hh7.2) rfl lt0 ?_)
              exact rfl
             refine VP.step (p := ?pv12656) rfl rfl rfl (⟨_, _, rfl, rfl, rfl⟩) ?hv12656 ?rest12656 hck16
             case hv12656 =>
              intro E1
              refine (V1.move rfl rfl rfl lt0 ?_)
              exact rfl
             refine VP.step (p := ?pv12657) rfl rfl rfl (⟨_, _, rfl, rfl, rfl⟩) ?hv12657 ?rest12657 hck16
             case hv12657 =>
              intro E1
              refine (V1.move rfl rfl rfl lt0 ?_)
              exact rfl
             refine VP.step (p := ?pv12658) rfl rfl rfl (⟨_, _, rfl, rfl, rfl⟩) ?hv12658 ?rest12658 hck16
             case hv12658 =>
              intro E1
              refine (V1.int rfl rfl rfl rfl rfl lt0 ?_)
              exact rfl
             refine VP.step (p := ?pv12659) rfl rfl rfl (⟨_, _, rfl, rfl, _, _, rfl, rfl, rfl⟩) ?hv12659 ?rest12659 hck16
             case hv12659 =>
              intro E1
              refine (V1.indexSr rfl rfl esz_58 rfl rfl hh8 lt0 ?_)
              exact rfl
             refine VP.step (p := ?pv12660) rfl rfl rfl (⟨_, _, rfl, rfl, rfl⟩) ?hv12660 ?rest12660 hck16
             case hv12660 =>
              intro E1
              refine (V1.loadMapAll (k := 0) (f := encSpan) rfl rfl tyk_66 rfl rfl (by simpa using natLt hh8.1 hh8.2) rfl lt0 ?_)
              exact rfl
             refine VP.fin rfl (⟨_, _, rfl, rfl, _, _, rfl, rfl, _, _, rfl, rfl, _, _, rfl, rfl, _, _, rfl, rfl, _, _, rfl, rfl, _, _, rfl, rfl, _, _, rfl, rfl, _, _, rfl, rfl, _, _, rfl, rfl, rfl⟩) ?_
             refine VO.cons rfl (V1.callG (τ := 0) (Bw := []) rfl lt0 (run_callFn rfl rfl rfl hok3 rfl) (.refl _) (Lends.same _) (fun _ h => by cases h) ((hf3 _ _  _) hh9) (.inl rfl) (.inl rfl) ?_)
             rintro _ _ ⟨rfl, rfl⟩
             refine VO.cons rfl (V1.int rfl rfl rfl rfl rfl lt0 ?_)
             refine VO.cons rfl (V1.not rfl rfl rfl lt0 ?_)
             refine VO.nil ?_
             refine V.keep 141 [0, 1, 2, 3, 9, 10, 11, 84] [0] (E0 := [(0, .sref oq 3 0 (List.length data6)), (1, .int .i64 a), (2, .int .i64 b_), (3, .fn f3 cs3), (9, .int .i64 i1), (10, .int .i64 j_), (11, .int .i64 j_0), (84, .bool (!(decide (y4 < (0 : Int)))))]) (H0 := [(oq, ⟨3, List.map encSpan data6⟩)]) rfl (⟨_, _, rfl, rfl, _, _, rfl, rfl, _, _, rfl, rfl, _, _, rfl, rfl, _, _, rfl, rfl, _, _, rfl, rfl, _, _, rfl, rfl, _, _, rfl, rfl, rfl⟩) (⟨_, _, rfl, rfl, rfl⟩) rfl ?_
             refine V.cond rfl (fun hc6 => ?_) (fun hc6 => ?_)
             ·
              replace hm4 := cond_t hc6 hm4
              refine V.exit ?_
              obtain rfl := hr4 _ (Option.some.inj hm4).symm
              exact ⟨(data6, ()), rfl, Keeps.mk (ks := [0]) rfl ⟨(someSref (by simp)), rfl, rfl, rfl, rfl, rfl, trivial⟩ (⟨_, _, rfl, rfl, rfl⟩) rfl⟩
             ·
              replace hm4 := cond_f hc6 hm4
              refine V.skip ?_
              replace hm4 := asrt_some hm4; rcases hm4 with ⟨hh10, hm4⟩
              replace hm4 := asrt_some hm4; rcases hm4 with ⟨hh11, hm4⟩
              replace hm4 := asrt_some hm4; rcases hm4 with ⟨hh12, hm4⟩
              replace hm4 := asrt_some hm4; rcases hm4 with ⟨hh13, hm4⟩
              replace hm4 := bindO hm4; rcases hm4 with ⟨j3, hm5, hm4⟩
              refine V.cutT (D := (List Span) × (Unit)) (fun ⟨data7, _⟩ => ⟨141, [(0, .sref oq 3 0 (List.length data7)), (1, .int .i64 a), (2, .int .i64 b_), (3, .fn f3 cs3), (9, .int .i64 i1), (10, .int .i64 j_), (11, .int .i64 j_0)], [(oq, ⟨3, List.map encSpan data7⟩)]⟩) (fun ⟨data7, _⟩ => (data7 = j3)) ?_ ?_
              ·
               refine V.regionS [] 141 16 [⟨[(0, none)], false⟩, ⟨[(11, none)], false⟩, ⟨[(0, none)], false⟩, ⟨[(11, none)], false⟩, ⟨[(88, some 3)], false⟩, ⟨[(0, none)], false⟩, ⟨[(11, none)], false⟩, ⟨[(91, some 6)], false⟩, ⟨[(90, some 5), (92, some 7)], false⟩, ⟨[(93, some 8)], true⟩, ⟨[(0, none)], false⟩, ⟨[(11, none)], false⟩, ⟨[(95, some 10), (96, some 11)], false⟩, ⟨[(97, some 12)], true⟩, ⟨[(85, some 0), (86, some 1)], false⟩, ⟨[(94, some 9), (99, some 14)], true⟩] [(0, none), (1, none), (2, none), (3, none), (9, none), (10, none), (11, none), (87, some 2), (89, some 4), (98, some 13)] 3 (⟨_, rfl, ⟨_, rfl, ⟨_, rfl, ⟨_, rfl, ⟨_, rfl, ⟨_, rfl, ⟨_, rfl, ⟨_, rfl, ⟨_, rfl, ⟨_, rfl, ⟨_, rfl, ⟨_, rfl, ⟨_, rfl, ⟨_, rfl, ⟨_, rfl, ⟨_, rfl, ⟨rfl, rfl⟩⟩⟩⟩⟩⟩⟩⟩⟩⟩⟩⟩⟩⟩⟩⟩⟩) mixed_orders rfl (by decide +kernel) ?_
               refine WalkP.step (p := ?pv12675) 0 rfl rfl rfl rfl rfl (⟨_, _, rfl, rfl, rfl⟩) ?hv12675 ?rest12675
               case hv12675 =>
                intro E1 H1 hI1
                refine (V1.move rfl rfl rfl lt0 ?_)
                exact rfl
               refine WalkP.step (p := ?pv12676) 1 rfl rfl rfl rfl rfl (⟨_, _, rfl, rfl, rfl⟩) ?hv12676 ?rest12676
               case hv12676 =>
                intro E1 H1 hI1
                refine (V1.move rfl rfl rfl lt0 ?_)
                exact rfl
               refine WalkP.step (p := ?pv12677) 2 rfl rfl rfl rfl rfl (⟨_, _, rfl, rfl, rfl⟩) ?hv12677 ?rest12677
               case hv12677 =>
                intro E1 H1 hI1
                refine (V1.move rfl rfl rfl lt0 ?_)
                exact rfl
               refine WalkP.step (p := ?pv12678) 3 rfl rfl rfl rfl rfl (⟨_, _, rfl, rfl, rfl⟩) ?hv12678 ?rest12678
               case hv12678 =>
                intro E1 H1 hI1
                refine (V1.move rfl rfl rfl lt0 ?_)
                exact rfl
               refine WalkP.step (p := ?pv12679) 4 rfl rfl rfl rfl rfl (⟨_, _, rfl, rfl, rfl⟩) ?hv12679 ?rest12679
               case hv12679 =>
                intro E1 H1 hI1
                refine (V1.int rfl rfl rfl rfl rfl lt0 ?_)
                exact rfl
               refine WalkP.step (p := ?pv12680) 5 rfl rfl rfl rfl rfl (⟨_, _, rfl, rfl, rfl⟩) ?hv12680 ?rest12680
               case hv12680 =>
                intro E1 H1 hI1
                refine (V1.move rfl rfl rfl lt0 ?_)
                exact rfl
               refine WalkP.step (p := ?pv12681) 6 rfl rfl rfl rfl rfl (⟨_, _, rfl, rfl, rfl⟩) ?hv12681 ?rest12681
               case hv12681 =>
                intro E1 H1 hI1
                refine (V1.move rfl rfl rfl lt0 ?_)
                exact rfl
               refine WalkP.step (p := ?pv12682) 7 rfl rfl rfl rfl rfl (⟨_, _, rfl, rfl, rfl⟩) ?hv12682 ?rest12682
               case hv12682 =>
                intro E1 H1 hI1
                refine (V1.int rfl rfl rfl rfl rfl lt0 ?_)
                exact rfl
               refine WalkP.step (p := ?pv12683) 8 rfl rfl rfl rfl rfl (⟨_, _, rfl, rfl, _, _, rfl, rfl, rfl⟩) ?hv12683 ?rest12683
               case hv12683 =>
                intro E1 H1 hI1
                refine (V1.indexSr rfl rfl esz_58 rfl rfl hh10 lt0 ?_)
                exact rfl
               refine WalkP.step (p := ?pv12684) 10 rfl rfl rfl rfl rfl (⟨_, _, rfl, rfl, rfl⟩) ?hv12684 ?rest12684
               case hv12684 =>
                intro E1 H1 hI1
                refine (V1.move rfl rfl rfl lt0 ?_)
                exact rfl
               refine WalkP.step (p := ?pv12685) 11 rfl rfl rfl rfl rfl (⟨_, _, rfl, rfl, rfl⟩) ?hv12685 ?rest12685
               case hv12685 =>
                intro E1 H1 hI1
                refine (V1.move rfl rfl rfl lt0 ?_)
                exact rfl
               refine WalkP.step (p := ?pv12686) 12 rfl rfl rfl rfl rfl (⟨_, _, rfl, rfl, _, _, rfl, rfl, rfl⟩) ?hv12686 ?rest12686
               case hv12686 =>
                intro E1 H1 hI1
                refine (V1.indexSr rfl rfl esz_58 rfl rfl hh11 lt0 ?_)
                exact rfl
               refine WalkP.nil ?_
               refine NodeS.branch [9, 13] inNil rfl rfl rfl ⟨?_, ?_, trivial⟩
               ·
                refine ⟨_, _, _, _, rfl, rfl, rfl, (⟨_, _, rfl, rfl, rfl⟩), fun E1 => ?_⟩
                refine (V1.loadMapAll (k := 0) (f := encSpan) rfl rfl tyk_66 rfl rfl (by simpa using natLt hh10.1 hh10.2) rfl lt0 ?_)
                refine ⟨_, _, rfl, ?_⟩
                refine WalkP.nil ?_
                refine NodeS.branch [13] inNil rfl rfl rfl ⟨?_, trivial⟩
                ·
                 refine ⟨_, _, _, _, rfl, rfl, rfl, (⟨_, _, rfl, rfl, rfl⟩), fun E1 => ?_⟩
                 refine (V1.loadMapAll (k := 0) (f := encSpan) rfl rfl tyk_66 rfl rfl (by simpa using natLt hh11.1 hh11.2) rfl lt0 ?_)
                 refine ⟨_, _, rfl, ?_⟩
                 refine WalkP.step (p := ?pv12687) 14 rfl rfl rfl rfl rfl (⟨_, _, rfl, rfl, _, _, rfl, rfl, rfl⟩) ?hv12687 ?rest12687
                 case hv12687 =>
                  intro E1 H1 hI1
                  refine (V1.indexSr rfl rfl esz_58 rfl rfl hh12 lt0 ?_)
                  exact rfl
                 refine WalkP.nil ?_
                 refine NodeS.branch [15] inNil rfl rfl rfl ⟨?_, trivial⟩
                 ·
                  refine ⟨_, _, _, _, rfl, rfl, rfl, (⟨_, _, rfl, rfl, _, _, rfl, rfl, rfl⟩), fun E1 => ?_⟩
                  refine (V1.storeMap (k := 0) (f := encSpan) (x := (data6.getD (Int.toNat (IntKind.i64.wrap (j_0 - (1 : Int)))) default)) rfl rfl tyk_66 rfl rfl (by simpa using natLt hh12.1 hh12.2) rfl rfl ?_)
                  refine ⟨.undef, _, rfl, ?_⟩
                  refine WalkP.nil ?_
                  refine NodeS.fin inNil rfl rfl rfl (⟨_, _, rfl, rfl, _, _, rfl, rfl, _, _, rfl, rfl, _, _, rfl, rfl, _, _, rfl, rfl, _, _, rfl, rfl, _, _, rfl, rfl, _, _, rfl, rfl, _, _, rfl, rfl, _, _, rfl, rfl, rfl⟩) ?_
                  refine VO.weakenK (Keeps.say 0 (y := .sref oq 3 0 (List.length (data6.set (Int.toNat j_0) (data6.getD (Int.toNat (IntKind.i64.wrap (j_0 - (1 : Int)))) default)))) rfl (by simp [optS])) ?_
                  refine VO.weakenK (Keeps.say 87 (y := .sref oq 3 0 (List.length (data6.set (Int.toNat j_0) (data6.getD (Int.toNat (IntKind.i64.wrap (j_0 - (1 : Int)))) default)))) rfl (by simp [optS])) ?_
                  refine VO.cons rfl (V1.indexSr rfl rfl esz_58 rfl rfl hh13 lt0 ?_)
                  refine VO.cons rfl (V1.storeMap (k := 0) (f := encSpan) (x := (data6.getD (Int.toNat j_0) default)) rfl rfl tyk_66 rfl rfl (by simpa using natLt hh13.1 hh13.2) rfl rfl ?_)
                  refine VO.weakenK (Keeps.say 0 (y := .sref oq 3 0 (List.length ((data6.set (Int.toNat j_0) (data6.getD (Int.toNat (IntKind.i64.wrap (j_0 - (1 : Int)))) default)).set (Int.toNat (IntKind.i64.wrap (j_0 - (1 : Int)))) (data6.getD (Int.toNat j_0) default)))) rfl (by simp [optS])) ?_
                  refine VO.nil ?_
                  exact ⟨(((data6.set (Int.toNat j_0) (data6.getD (Int.toNat (IntKind.i64.wrap (j_0 - (1 : Int)))) default)).set (Int.toNat (IntKind.i64.wrap (j_0 - (1 : Int)))) (data6.getD (Int.toNat j_0) default)), ()), Option.some.inj hm5, Keeps.mk (ks := [0]) rfl ⟨(someSref (by simp)), rfl, rfl, rfl, rfl, rfl, rfl, trivial⟩ (⟨_, _, rfl, rfl, rfl⟩) rfl⟩
               ·
                refine ⟨_, _, _, _, rfl, rfl, rfl, (⟨_, _, rfl, rfl, rfl⟩), fun E1 => ?_⟩
                refine (V1.loadMapAll (k := 0) (f := encSpan) rfl rfl tyk_66 rfl rfl (by simpa using natLt hh11.1 hh11.2) rfl lt0 ?_)
                refine ⟨_, _, rfl, ?_⟩
                refine WalkP.nil ?_
                refine NodeS.branch [9] inNil rfl rfl rfl ⟨?_, trivial⟩
                ·
                 refine ⟨_, _, _, _, rfl, rfl, rfl, (⟨_, _, rfl, rfl, rfl⟩), fun E1 => ?_⟩
                 refine (V1.loadMapAll (k := 0) (f := encSpan) rfl rfl tyk_66 rfl rfl (by simpa using natLt hh10.1 hh10.2) rfl lt0 ?_)
                 refine ⟨_, _, rfl, ?_⟩
                 refine WalkP.step (p := ?pv12688) 14 rfl rfl rfl rfl rfl (⟨_, _, rfl, rfl, _, _, rfl, rfl, rfl⟩) ?hv12688 ?rest12688
                 case hv12688 =>
                  intro E1 H1 hI1
                  refine (V1.indexSr rfl rfl esz_58 rfl rfl hh12 lt0 ?_)
                  exact rfl
                 refine WalkP.nil ?_
                 refine NodeS.branch [15] inNil rfl rfl rfl ⟨?_, trivial⟩
                 ·
                  refine ⟨_, _, _, _, rfl, rfl, rfl, (⟨_, _, rfl, rfl, _, _, rfl, rfl, rfl⟩), fun E1 => ?_⟩
                  refine (V1.storeMap (k := 0) (f := encSpan) (x := (data6.getD (Int.toNat (IntKind.i64.wrap (j_0 - (1 : Int)))) default)) rfl rfl tyk_66 rfl rfl (by simpa using natLt hh12.1 hh12.2) rfl rfl ?_)
                  refine ⟨.undef, _, rfl, ?_⟩
                  refine WalkP.nil ?_
                  refine NodeS.fin inNil rfl rfl rfl (⟨_, _, rfl, rfl, _, _, rfl, rfl, _, _, rfl, rfl, _, _, rfl, rfl, _, _, rfl, rfl, _, _, rfl, rfl, _, _, rfl, rfl, _, _, rfl, rfl, _, _, rfl, rfl, _, _, rfl, rfl, rfl⟩) ?_
                  refine VO.weakenK (Keeps.say 0 (y := .sref oq 3 0 (List.length (data6.set (Int.toNat j_0) (data6.getD (Int.toNat (IntKind.i64.wrap (j_0 - (1 : Int)))) default)))) rfl (by simp [optS])) ?_
                  refine VO.weakenK (Keeps.say 87 (y := .sref oq 3 0 (List.length (data6.set (Int.toNat j_0) (data6.getD (Int.toNat (IntKind.i64.wrap (j_0 - (1 : Int)))) default)))) rfl (by simp [optS])) ?_
                  refine VO.cons rfl (V1.indexSr rfl rfl esz_58 rfl rfl hh13 lt0 ?_)
                  refine VO.cons rfl (V1.storeMap (k := 0) (f := encSpan) (x := (data6.getD (Int.toNat j_0) default)) rfl rfl tyk_66 rfl rfl (by simpa using natLt hh13.1 hh13.2) rfl rfl ?_)
                  refine VO.weakenK (Keeps.say 0 (y := .sref oq 3 0 (List.length ((data6.set (Int.toNat j_0) (data6.getD (Int.toNat (IntKind.i64.wrap (j_0 - (1 : Int)))) default)).set (Int.toNat (IntKind.i64.wrap (j_0 - (1 : Int)))) (data6.getD (Int.toNat j_0) default)))) rfl (by simp [optS])) ?_
                  refine VO.nil ?_
                  exact ⟨(((data6.set (Int.toNat j_0) (data6.getD (Int.toNat (IntKind.i64.wrap (j_0 - (1 : Int)))) default)).set (Int.toNat (IntKind.i64.wrap (j_0 - (1 : Int)))) (data6.getD (Int.toNat j_0) default)), ()), Option.some.inj hm5, Keeps.mk (ks := [0]) rfl ⟨(someSref (by simp)), rfl, rfl, rfl, rfl, rfl, rfl, trivial⟩ (⟨_, _, rfl, rfl, rfl⟩) rfl⟩
              ·
               rintro ⟨data7, _⟩ rfl
               try dsimp only at hm4
               refine V.region ?_
               refine VO.cons rfl (V1.move rfl rfl rfl lt0 ?_)
               refine VO.cons rfl (V1.int rfl rfl rfl rfl rfl lt0 ?_)
               refine VO.cons rfl (V1.assign rfl rfl rfl lt0 ?_)
               refine VO.nil ?_
               exact ⟨(m2, (data7, (IntKind.i64.wrap (j_0 - (1 : Int)))), ()), hl4 _ (Option.some.inj hm4).symm, Nat.lt_succ_self _, Keeps.mk (ks := [0]) rfl ⟨(someSref (by simp)), rfl, rfl, rfl, rfl, rfl, rfl, trivial⟩ (⟨_, _, rfl, rfl, rfl⟩) rfl⟩
            ·
             replace hm4 := cond_f hc5 hm4
             refine V.exit ?_
             obtain rfl := hr4 _ (Option.some.inj hm4).symm
             exact ⟨(data6, ()), rfl, Keeps.mk (ks := [0]) rfl ⟨(someSref (by simp)), rfl, rfl, rfl, rfl, rfl, trivial⟩ (⟨_, _, rfl, rfl, rfl⟩) rfl⟩
           ·
            rintro ⟨data5, _⟩ rfl
            try dsimp only at hm3
            exact ⟨(data5, ()), Option.some.inj hm3, Keeps.mk (ks := [0]) rfl ⟨(someSref (by simp)), rfl, rfl, rfl, rfl, rfl, trivial⟩ (⟨_, _, rfl, rfl, rfl⟩) rfl⟩
          ·
           replace hm3 := cond_f hc4 hm3
           refine V.skip ?_
           exact ⟨(data3, ()), Option.some.inj hm3, Keeps.mk (ks := [0]) rfl ⟨(someSref (by simp)), rfl, rfl, rfl, rfl, rfl, trivial⟩ (⟨_, _, rfl, rfl, rfl⟩) rfl⟩
         ·
          rintro ⟨data4, _⟩ rfl
          try dsimp only at hm2
          refine V.seq ?_
          refine V.region ?_
          refine VO.cons rfl (V1.move rfl rfl rfl lt0 ?_)
          refine VO.cons rfl (V1.move rfl rfl rfl lt0 ?_)
          refine VO.cons rfl (V1.int rfl rfl rfl rfl rfl lt0 ?_)
          refine VO.cons rfl (V1.int rfl rfl rfl rfl rfl lt0 ?_)
          refine VO.nil ?_
          refine V.cond rfl (fun hc7 => ?_) (fun hc7 => ?_)
          ·
           replace hm2 := cond_t hc7 hm2
           refine V.seq ?_
           refine V.region ?_
           refine VO.cons rfl (V1.move rfl rfl rfl lt0 ?_)
           refine VO.cons rfl (V1.int rfl rfl rfl rfl rfl lt0 ?_)
           refine VO.cons rfl (V1.assign rfl rfl rfl lt0 ?_)
           refine VO.nil ?_
           refine V.keep 141 [0, 1, 2, 3, 9, 10, 12] [0] (E0 := [(0, .sref oq 3 0 (List.length data4)), (1, .int .i64 a), (2, .int .i64 b_), (3, .fn f3 cs3), (9, .int .i64 i1), (10, .int .i64 j_), (12, .int .i64 (IntKind.i64.wrap (i1 + (1 : Int))))]) (H0 := [(oq, ⟨3, List.map encSpan data4⟩)]) rfl (⟨_, _, rfl, rfl, _, _, rfl, rfl, _, _, rfl, rfl, _, _, rfl, rfl, _, _, rfl, rfl, _, _, rfl, rfl, _, _, rfl, rfl, rfl⟩) (⟨_, _, rfl, rfl, rfl⟩) rfl ?_
           replace hm2 := bindO hm2; rcases hm2 with ⟨e3, he3, hm2⟩
           refine V.cutT (D := (List Span) × (Unit)) (fun ⟨data8, _⟩ => ⟨141, [(0, .sref oq 3 0 (List.length data8)), (1, .int .i64 a), (2, .int .i64 b_), (3, .fn f3 cs3), (9, .int .i64 i1), (10, .int .i64 j_)], [(oq, ⟨3, List.map encSpan data8⟩)]⟩) (fun ⟨data8, _⟩ => (data8 = e3)) ?_ ?_
           ·
            refine V.block ?_
            refine V.keep 141 [0, 12, 1, 2, 3, 9, 10] [0] (E0 := [(0, .sref oq 3 0 (List.length data4)), (12, .int .i64 (IntKind.i64.wrap (i1 + (1 : Int)))), (1, .int .i64 a), (2, .int .i64 b_), (3, .fn f3 cs3), (9, .int .i64 i1), (10, .int .i64 j_)]) (H0 := [(oq, ⟨3, List.map encSpan data4⟩)]) rfl (⟨_, _, rfl, rfl, _, _, rfl, rfl, _, _, rfl, rfl, _, _, rfl, rfl, _, _, rfl, rfl, _, _, rfl, rfl, _, _, rfl, rfl, rfl⟩) (⟨_, _, rfl, rfl, rfl⟩) rfl ?_
            refine V.loopE (D := Nat × (List Span × Int) × (Unit)) (fun ⟨n3, ⟨data9, j_1⟩, _⟩ => [(0, .sref oq 3 0 (List.length data9)), (12, .int .i64 j_1)]) (fun ⟨n3, ⟨data9, j_1⟩, _⟩ => [(oq, ⟨3, List.map encSpan data9⟩)]) (fun ⟨n3, ⟨data9, j_1⟩, _⟩ => loopO (M.slices_partialInsertionSortCmpFunc_impl_Span_l3 b_ fm) n3 (data9, j_1) = some e3) (fun ⟨n3, _, _⟩ => n3) (rounds, (data4, (IntKind.i64.wrap (i1 + (1 : Int)))), ()) rfl he3 ?_
            rintro ⟨n3, ⟨data9, j_1⟩, _⟩ hP3
            obtain ⟨m3, y5, rfl, hm3, hl3, hr3⟩ := loop_head hP3
            unfold M.slices_partialInsertionSortCmpFunc_impl_Span_l3 at hm3; dsimp only at hm3
            show V _ _ _ ⟨141, [(0, .sref oq 3 0 (List.length data9)), (12, .int .i64 j_1), (1, .int .i64 a), (2, .int .i64 b_), (3, .fn f3 cs3), (9, .int .i64 i1), (10, .int .i64 j_)], [(oq, ⟨3, List.map encSpan data9⟩)]⟩
            refine V.seq ?_
            refine V.seq ?_
            refine V.region ?_
            refine VO.cons rfl (V1.move rfl rfl rfl lt0 ?_)
            refine VO.cons rfl (V1.move rfl rfl rfl lt0 ?_)
            refine VO.cons rfl (V1.int rfl rfl rfl rfl rfl lt0 ?_)
            refine VO.nil ?_
            refine V.cond rfl (fun hc8 => ?_) (fun hc8 => ?_)
            ·
             replace hm3 := cond_t hc8 hm3
             refine V.skip ?_
             refine V.seq ?_
             refine V.block ?_
             refine V.seq ?_
             refine V.seq ?_
             replace hm3 := asrt_some hm3; rcases hm3 with ⟨hh14, hm3⟩
             replace hm3 := asrt_some hm3; rcases hm3 with ⟨hh15, hm3⟩
             replace hm3 := bindO hm3; rcases hm3 with ⟨y6, hh16, hm3⟩
             refine V.regionM 141 10 [⟨[(3, none)], [], none⟩, ⟨[(0, none)], [], none⟩, ⟨[(12, none)], [], none⟩, ⟨[(113, some 1), (114, some 0)], [], none⟩, ⟨[(115, some 0)], [], none⟩, ⟨[(0, none)], [], none⟩, ⟨[(12, none)], [], none⟩, ⟨[(118, some 0)], [], none⟩, ⟨[(117, some 2), (119, some 0)], [], none⟩, ⟨[(120, some 0)], [], none⟩] [(0, none), (1, none), (2, none), (3, none), (9, none), (10, none), (12, none), (112, some 9), (116, some 5), (121, some 0)] (⟨_, rfl, ⟨_, rfl, ⟨_, rfl, ⟨_, rfl, ⟨_, rfl, ⟨_, rfl, ⟨_, rfl, ⟨_, rfl, ⟨_, rfl, ⟨_, rfl, ⟨rfl, rfl⟩⟩⟩⟩⟩⟩⟩⟩⟩⟩⟩) mixed_orders rfl (by decide +kernel) (fun hck22 => ?_)
             refine VP.step (p := ?pv12803) rfl rfl rfl (⟨_, _, rfl, rfl, rfl⟩) ?hv12803 ?rest12803 hck22
             case hv12803 =>
              intro E1
              refine (V1.move rfl rfl rfl lt0 ?_)
              exact rfl
             refine VP.step (p := ?pv12804) rfl rfl rfl (⟨_, _, rfl, rfl, rfl⟩) ?hv12804 ?rest12804 hck22
             case hv12804 =>
              intro E1
              refine (V1.move rfl rfl rfl lt0 ?_)
              exact rfl
             refine VP.step (p := ?pv12805) rfl rfl rfl (⟨_, _, rfl, rfl, rfl⟩) ?hv12805 ?rest12805 hck22
             case hv12805 =>
              intro E1
              refine (V1.move rfl rfl rfl lt0 ?_)
              exact rfl
             refine VP.step (p := ?pv12806) rfl rfl rfl (⟨_, _, rfl, rfl, _, _, rfl, rfl, rfl⟩) ?hv12806 ?rest12806 hck22
             case hv12806 =>
              intro E1
              refine (V1.indexSr rfl rfl esz_58 rfl rfl hh14 lt0 ?_)
              exact rfl
             refine VP.step (p := ?pv12807) rfl rfl rfl (⟨_, _, rfl, rfl, rfl⟩) ?hv12807 ?rest12807 hck22
             case hv12807 =>
              intro E1
              refine (V1.loadMapAll (k := 0) (f := encSpan) rfl rfl tyk_66 rfl rfl (by simpa using natLt hh14.1 hh14.2) rfl lt0 ?_)
              exact rfl
             refine VP.step (p := ?pv12808) rfl rfl rfl (⟨_, _, rfl, rfl, rfl⟩) ?hv12808 ?rest12808 hck22
             case hv12808 =>
              intro E1
              refine (V1.move rfl rfl rfl lt0 ?_)
              exact rfl
             refine VP.step (p := ?pv12809) rfl rfl rfl (⟨_, _, rfl, rfl, rfl⟩) ?hv12809 ?rest12809 hck22
             case hv12809 =>
              intro E1
              refine (V1.move rfl rfl rfl lt0 ?_)
              exact rfl
             refine VP.step (p := ?pv12810) rfl rfl rfl (⟨_, _, rfl, rfl, rfl⟩) ?hv12810 ?rest12810 hck22
             case hv12810 =>
              intro E1
              refine (V1.int rfl rfl rfl rfl rfl lt0 ?_)
              exact rfl
             refine VP.step (p := ?pv12811) rfl rfl rfl (⟨_, _, rfl, rfl, _, _, rfl, rfl, rfl⟩) ?hv12811 ?rest12811 hck22
             case hv12811 =>
              intro E1
              refine (V1.indexSr rfl rfl esz_58 rfl rfl hh15 lt0 ?_)
              exact rfl
             refine VP.step (p := ?pv12812) rfl rfl rfl (⟨_, _, rfl, rfl, rfl⟩) ?hv12812 ?rest12812 hck22
             case hv12812 =>
              intro E1
              refine (V1.loadMapAll (k := 0) (f := encSpan) rfl rfl tyk_66 rfl rfl (by simpa using natLt hh15.1 hh15.2) rfl lt0 ?_)
              exact rfl
             refine VP.fin rfl (⟨_, _, rfl, rfl, _, _, rfl, rfl, _, _, rfl, rfl, _, _, rfl, rfl, _, _, rfl, rfl, _, _, rfl, rfl, _, _, rfl, rfl, _, _, rfl, rfl, _, _, rfl, rfl, _, _, rfl, rfl, rfl⟩) ?_
             refine VO.cons rfl (V1.callG (τ := 0) (Bw := []) rfl lt0 (run_callFn rfl rfl rfl hok3 rfl) (.refl _) (Lends.same _) (fun _ h => by cases h) ((hf3 _ _  _) hh16) (.inl rfl) (.inl rfl) ?_)
             rintro _ _ ⟨rfl, rfl⟩
             refine VO.cons rfl (V1.int rfl rfl rfl rfl rfl lt0 ?_)
             refine VO.cons rfl (V1.not rfl rfl rfl lt0 ?_)
             refine VO.nil ?_
             refine V.keep 141 [0, 1, 2, 3, 9, 10, 12, 124] [0] (E0 := [(0, .sref oq 3 0 (List.length data9)), (1, .int .i64 a), (2, .int .i64 b_), (3, .fn f3 cs3), (9, .int .i64 i1), (10, .int .i64 j_), (12, .int .i64 j_1), (124, .bool (!(decide (y6 < (0 : Int)))))]) (H0 := [(oq, ⟨3, List.map encSpan data9⟩)]) rfl (⟨_, _, rfl, rfl, _, _, rfl, rfl, _, _, rfl, rfl, _, _, rfl, rfl, _, _, rfl, rfl, _, _, rfl, rfl, _, _, rfl, rfl, _, _, rfl, rfl, rfl⟩) (⟨_, _, rfl, rfl, rfl⟩) rfl ?_
             refine V.cond rfl (fun hc9 => ?_) (fun hc9 => ?_)
             ·
              replace hm3 := cond_t hc9 hm3
              refine V.exit ?_
              obtain rfl := hr3 _ (Option.some.inj hm3).symm
              exact ⟨(data9, ()), rfl, Keeps.mk (ks := [0]) rfl ⟨(someSref (by simp)), rfl, rfl, rfl, rfl, rfl, trivial⟩ (⟨_, _, rfl, rfl, rfl⟩) rfl⟩
             ·
              replace hm3 := cond_f hc9 hm3
              refine V.skip ?_
              replace hm3 := asrt_some hm3; rcases hm3 with ⟨hh17, hm3⟩
              replace hm3 := asrt_some hm3; rcases hm3 with ⟨hh18, hm3⟩
              replace hm3 := asrt_some hm3; rcases hm3 with ⟨hh19, hm3⟩
              replace hm3 := asrt_some hm3; rcases hm3 with ⟨hh20, hm3⟩
              replace hm3 := bindO hm3; rcases hm3 with ⟨j4, hm4, hm3⟩
              refine V.cutT (D := (List Span) × (Unit)) (fun ⟨data10, _⟩ => ⟨141, [(0, .sref oq 3 0 (List.length data10)), (1, .int .i64 a), (2, .int .i64 b_), (3, .fn f3 cs3), (9, .int .i64 i1), (10, .int .i64 j_), (12, .int .i64 j_1)], [(oq, ⟨3, List.map encSpan data10⟩)]⟩) (fun ⟨data10, _⟩ => (data10 = j4)) ?_ ?_
              ·
               refine V.regionS [] 141 16 [⟨[(0, none)], false⟩, ⟨[(12, none)], false⟩, ⟨[(0, none)], false⟩, ⟨[(12, none)], false⟩, ⟨[(128, some 3)], false⟩, ⟨[(0, none)], false⟩, ⟨[(12, none)], false⟩, ⟨[(131, some 6)], false⟩, ⟨[(130, some 5), (132, some 7)], false⟩, ⟨[(133, some 8)], true⟩, ⟨[(0, none)], false⟩, ⟨[(12, none)], false⟩, ⟨[(135, some 10), (136, some 11)], false⟩, ⟨[(137, some 12)], true⟩, ⟨[(125, some 0), (126, some 1)], false⟩, ⟨[(134, some 9), (139, some 14)], true⟩] [(0, none), (1, none), (2, none), (3, none), (9, none), (10, none), (12, none), (127, some 2), (129, some 4), (138, some 13)] 3 (⟨_, rfl, ⟨_, rfl, ⟨_, rfl, ⟨_, rfl, ⟨_, rfl, ⟨_, rfl, ⟨_, rfl, ⟨_, rfl, ⟨_, rfl, ⟨_, rfl, ⟨_, rfl, ⟨_, rfl, ⟨_, rfl, ⟨_, rfl, ⟨_, rfl, ⟨_, rfl, ⟨rfl, rfl⟩⟩⟩⟩⟩⟩⟩⟩⟩⟩⟩⟩⟩⟩⟩⟩⟩) mixed_orders rfl (by decide +kernel) ?_
               refine WalkP.step (p := ?pv12827) 0 rfl rfl rfl rfl rfl (⟨_, _, rfl, rfl, rfl⟩) ?hv12827 ?rest12827
               case hv12827 =>
                intro E1 H1 hI1
                refine (V1.move rfl rfl rfl lt0 ?_)
                exact rfl
               refine WalkP.step (p := ?pv12828) 1 rfl rfl rfl rfl rfl (⟨_, _, rfl, rfl, rfl⟩) ?hv12828 ?rest12828
               case hv12828 =>
                intro E1 H1 hI1
                refine (V1.move rfl rfl rfl lt0 ?_)
                exact rfl
               refine WalkP.step (p := ?pv12829) 2 rfl rfl rfl rfl rfl (⟨_, _, rfl, rfl, rfl⟩) ?hv12829 ?rest12829
               case hv12829 =>
                intro E1 H1 hI1
                refine (V1.move rfl rfl rfl lt0 ?_)
                exact rfl
               refine WalkP.step (p := ?pv12830) 3 rfl rfl rfl rfl rfl (⟨_, _, rfl, rfl, rfl⟩) ?hv12830 ?rest12830
               case hv12830 =>
                intro E1 H1 hI1
                refine (V1.move rfl rfl rfl lt0 ?_)
                exact rfl
               refine WalkP.step (p := ?pv12831) 4 rfl rfl rfl rfl rfl (⟨_, _, rfl, rfl, rfl⟩) ?hv12831 ?rest12831
               case hv12831 =>
                intro E1 H1 hI1
                refine (V1.int rfl rfl rfl rfl rfl lt0 ?_)
                exact rfl
               refine WalkP.step (p := ?pv12832) 5 rfl rfl rfl rfl rfl (⟨_, _, rfl, rfl, rfl⟩) ?hv12832 ?rest12832
               case hv12832 =>
                intro E1 H1 hI1
                refine (V1.move rfl rfl rfl lt0 ?_)
                exact rfl
               refine WalkP.step (p := ?pv12833) 6 rfl rfl rfl rfl rfl (⟨_, _, rfl, rfl, rfl⟩) ?hv12833 ?rest12833
               case hv12833 =>
                intro E1 H1 hI1
                refine (V1.move rfl rfl rfl lt0 ?_)
                exact rfl
               refine WalkP.step (p := ?pv12834) 7 rfl rfl rfl rfl rfl (⟨_, _, rfl, rfl, rfl⟩) ?hv12834 ?rest12834
               case hv12834 =>
                intro E1 H1 hI1
                refine (V1.int rfl rfl rfl rfl rfl lt0 ?_)
                exact rfl
               refine WalkP.step (p := ?pv12835) 8 rfl rfl rfl rfl rfl (⟨_, _, rfl, rfl, _, _, rfl, rfl, rfl⟩) ?hv12835 ?rest12835
               case hv12835 =>
                intro E1 H1 hI1
                refine (V1.indexSr rfl rfl esz_58 rfl rfl hh17 lt0 ?_)
                exact rfl
               refine WalkP.step (p := ?pv12836) 10 rfl rfl rfl rfl rfl (⟨_, _, rfl, rfl, rfl⟩) ?hv12836 ?rest12836
               case hv12836 =>
                intro E1 H1 hI1
                refine (V1.move rfl rfl rfl lt0 ?_)
                exact rfl
               refine WalkP.step (p := ?pv12837) 11 rfl rfl rfl rfl rfl (⟨_, _, rfl, rfl, rfl⟩) ?hv12837 ?rest12837
               case hv12837 =>
                intro E1 H1 hI1
                refine (V1.move rfl rfl rfl lt0 ?_)
                exact rfl
               refine WalkP.step (p := ?pv12838) 12 rfl rfl rfl rfl rfl (⟨_, _, rfl, rfl, _, _, rfl, rfl, rfl⟩) ?hv12838 ?rest12838
               case hv12838 =>
                intro E1 H1 hI1
                refine (V1.indexSr rfl rfl esz_58 rfl rfl hh18 lt0 ?_)
                exact rfl
               refine WalkP.nil ?_
               refine NodeS.branch [9, 13] inNil rfl rfl rfl ⟨?_, ?_, trivial⟩
               ·
                refine ⟨_, _, _, _, rfl, rfl, rfl, (⟨_, _, rfl, rfl, rfl⟩), fun E1 => ?_⟩
                refine (V1.loadMapAll (k := 0) (f := encSpan) rfl rfl tyk_66 rfl rfl (by simpa using natLt hh17.1 hh17.2) rfl lt0 ?_)
                refine ⟨_, _, rfl, ?_⟩
                refine WalkP.nil ?_
                refine NodeS.branch [13] inNil rfl rfl rfl ⟨?_, trivial⟩
                ·
                 refine ⟨_, _, _, _, rfl, rfl, rfl, (⟨_, _, rfl, rfl, rfl⟩), fun E1 => ?_⟩
                 refine (V1.loadMapAll (k := 0) (f := encSpan) rfl rfl tyk_66 rfl rfl (by simpa using natLt hh18.1 hh18.2) rfl lt0 ?_)
                 refine ⟨_, _, rfl, ?_⟩
                 refine WalkP.step (p := ?pv12839) 14 rfl rfl rfl rfl rfl (⟨_, _, rfl, rfl, _, _, rfl, rfl, rfl⟩) ?hv12839 ?rest12839
                 case hv12839 =>
                  intro E1 H1 hI1
                  refine (V1.indexSr rfl rfl esz_58 rfl rfl hh19 lt0 ?_)
                  exact rfl
                 refine WalkP.nil ?_
                 refine NodeS.branch [15] inNil rfl rfl rfl ⟨?_, trivial⟩
                 ·
                  refine ⟨_, _, _, _, rfl, rfl, rfl, (⟨_, _, rfl, rfl, _, _, rfl, rfl, rfl⟩), fun E1 => ?_⟩
                  refine (V1.storeMap (k := 0) (f := encSpan) (x := (data9.getD (Int.toNat (IntKind.i64.wrap (j_1 - (1 : Int)))) default)) rfl rfl tyk_66 rfl rfl (by simpa using natLt hh19.1 hh19.2) rfl rfl ?_)
                  refine ⟨.undef, _, rfl, ?_⟩
                  refine WalkP.nil ?_
                  refine NodeS.fin inNil rfl rfl rfl (⟨_, _, rfl, rfl, _, _, rfl, rfl, _, _, rfl, rfl, _, _, rfl, rfl, _, _, rfl, rfl, _, _, rfl, rfl, _, _, rfl, rfl, _, _, rfl, rfl, _, _, rfl, rfl, _, _, rfl, rfl, rfl⟩) ?_
                  refine VO.weakenK (Keeps.say 0 (y := .sref oq 3 0 (List.length (data9.set (Int.toNat j_1) (data9.getD (Int.toNat (IntKind.i64.wrap (j_1 - (1 : Int)))) default)))) rfl (by simp [optS])) ?_
                  refine VO.weakenK (Keeps.say 127 (y := .sref oq 3 0 (List.length (data9.set (Int.toNat j_1) (data9.getD (Int.toNat (IntKind.i64.wrap (j_1 - (1 : Int)))) default)))) rfl (by simp [optS])) ?_
                  refine VO.cons rfl (V1.indexSr rfl rfl esz_58 rfl rfl hh20 lt0 ?_)
                  refine VO.cons rfl (V1.storeMap (k := 0) (f := encSpan) (x := (data9.getD (Int.toNat j_1) default)) rfl rfl tyk_66 rfl rfl (by simpa using natLt hh20.1 hh20.2) rfl rfl ?_)
                  refine VO.weakenK (Keeps.say 0 (y := .sref oq 3 0 (List.length ((data9.set (Int.toNat j_1) (data9.getD (Int.toNat (IntKind.i64.wrap (j_1 - (1 : Int)))) default)).set (Int.toNat (IntKind.i64.wrap (j_1 - (1 : Int)))) (data9.getD (Int.toNat j_1) default)))) rfl (by simp [optS])) ?_
                  refine VO.nil ?_
                  exact ⟨(((data9.set (Int.toNat j_1) (data9.getD (Int.toNat (IntKind.i64.wrap (j_1 - (1 : Int)))) default)).set (Int.toNat (IntKind.i64.wrap (j_1 - (1 : Int)))) (data9.getD (Int.toNat j_1) default)), ()), Option.some.inj hm4, Keeps.mk (ks := [0]) rfl ⟨(someSref (by simp)), rfl, rfl, rfl, rfl, rfl, rfl, trivial⟩ (⟨_, _, rfl, rfl, rfl⟩) rfl⟩
               ·
                refine ⟨_, _, _, _, rfl, rfl, rfl, (⟨_, _, rfl, rfl, rfl⟩), fun E1 => ?_⟩
                refine (V1.loadMapAll (k := 0) (f := encSpan) rfl rfl tyk_66 rfl rfl (by simpa using natLt hh18.1 hh18.2) rfl lt0 ?_)
                refine ⟨_, _, rfl, ?_⟩
                refine WalkP.nil ?_
                refine NodeS.branch [9] inNil rfl rfl rfl ⟨?_, trivial⟩
                ·
                 refine ⟨_, _, _, _, rfl, rfl, rfl, (⟨_, _, rfl, rfl, rfl⟩), fun E1 => ?_⟩
                 refine (V1.loadMapAll (k := 0) (f := encSpan) rfl rfl tyk_66 rfl rfl (by simpa using natLt hh17.1 hh17.2) rfl lt0 ?_)
                 refine ⟨_, _, rfl, ?_⟩
                 refine WalkP.step (p := ?pv12840) 14 rfl rfl rfl rfl rfl (⟨_, _, rfl, rfl, _, _, rfl, rfl, rfl⟩) ?hv12840 ?rest12840
                 case hv12840 =>
                  intro E1 H1 hI1
                  refine (V1.indexSr rfl rfl esz_58 rfl rfl hh19 lt0 ?_)
                  exact rfl
                 refine WalkP.nil ?_
                 refine NodeS.branch [15] inNil rfl rfl rfl ⟨?_, trivial⟩
                 ·
                  refine ⟨_, _, _, _, rfl, rfl, rfl, (⟨_, _, rfl, rfl, _, _, rfl, rfl, rfl⟩), fun E1 => ?_⟩
                  refine (V1.storeMap (k := 0) (f := encSpan) (x := (data9.getD (Int.toNat (IntKind.i64.wrap (j_1 - (1 : Int)))) default)) rfl rfl tyk_66 rfl rfl (by simpa using natLt hh19.1 hh19.2) rfl rfl ?_)
                  refine ⟨.undef, _, rfl, ?_⟩
                  refine WalkP.nil ?_
                  refine NodeS.fin inNil rfl rfl rfl (⟨_, _, rfl, rfl, _, _, rfl, rfl, _, _, rfl, rfl, _, _, rfl, rfl, _, _, rfl, rfl, _, _, rfl, rfl, _, _, rfl, rfl, _, _, rfl, rfl, _, _, rfl, rfl, _, _, rfl, rfl, rfl⟩) ?_
                  refine VO.weakenK (Keeps.say 0 (y := .sref oq 3 0 (List.length (data9.set (Int.toNat j_1) (data9.getD (Int.toNat (IntKind.i64.wrap (j_1 - (1 : Int)))) default)))) rfl (by simp [optS])) ?_
                  refine VO.weakenK (Keeps.say 127 (y := .sref oq 3 0 (List.length (data9.set (Int.toNat j_1) (data9.getD (Int.toNat (IntKind.i64.wrap (j_1 - (1 : Int)))) default)))) rfl (by simp [optS])) ?_
                  refine VO.cons rfl (V1.indexSr rfl rfl esz_58 rfl rfl hh20 lt0 ?_)
                  refine VO.cons rfl (V1.storeMap (k := 0) (f := encSpan) (x := (data9.getD (Int.toNat j_1) default)) rfl rfl tyk_66 rfl rfl (by simpa using natLt hh20.1 hh20.2) rfl rfl ?_)
                  refine VO.weakenK (Keeps.say 0 (y := .sref oq 3 0 (List.length ((data9.set (Int.toNat j_1) (data9.getD (Int.toNat (IntKind.i64.wrap (j_1 - (1 : Int)))) default)).set (Int.toNat (IntKind.i64.wrap (j_1 - (1 : Int)))) (data9.getD (Int.toNat j_1) default)))) rfl (by simp [optS])) ?_
                  refine VO.nil ?_
                  exact ⟨(((data9.set (Int.toNat j_1) (data9.getD (Int.toNat (IntKind.i64.wrap (j_1 - (1 : Int)))) default)).set (Int.toNat (IntKind.i64.wrap (j_1 - (1 : Int)))) (data9.getD (Int.toNat j_1) default)), ()), Option.some.inj hm4, Keeps.mk (ks := [0]) rfl ⟨(someSref (by simp)), rfl, rfl, rfl, rfl, rfl, rfl, trivial⟩ (⟨_, _, rfl, rfl, rfl⟩) rfl⟩
              ·
               rintro ⟨data10, _⟩ rfl
               try dsimp only at hm3
               refine V.region ?_
               refine VO.cons rfl (V1.move rfl rfl rfl lt0 ?_)
               refine VO.cons rfl (V1.int rfl rfl rfl rfl rfl lt0 ?_)
               refine VO.cons rfl (V1.assign rfl rfl rfl lt0 ?_)
               refine VO.nil ?_
               exact ⟨(m3, (data10, (IntKind.i64.wrap (j_1 + (1 : Int)))), ()), hl3 _ (Option.some.inj hm3).symm, Nat.lt_succ_self _, Keeps.mk (ks := [0]) rfl ⟨(someSref (by simp)), rfl, rfl, rfl, rfl, rfl, rfl, trivial⟩ (⟨_, _, rfl, rfl, rfl⟩) rfl⟩
            ·
             replace hm3 := cond_f hc8 hm3
             refine V.exit ?_
             obtain rfl := hr3 _ (Option.some.inj hm3).symm
             exact ⟨(data9, ()), rfl, Keeps.mk (ks := [0]) rfl ⟨(someSref (by simp)), rfl, rfl, rfl, rfl, rfl, trivial⟩ (⟨_, _, rfl, rfl, rfl⟩) rfl⟩
           ·
            rintro ⟨data8, _⟩ rfl
            try dsimp only at hm2
            exact ⟨((data8, i1), ()), Option.some.inj hm2, Keeps.mk (ks := [0]) rfl ⟨(someSref (by simp)), rfl, rfl, rfl, rfl, rfl, trivial⟩ (⟨_, _, rfl, rfl, rfl⟩) rfl⟩
          ·
           replace hm2 := cond_f hc7 hm2
           refine V.skip ?_
           exact ⟨((data4, i1), ()), Option.some.inj hm2, Keeps.mk (ks := [0]) rfl ⟨(someSref (by simp)), rfl, rfl, rfl, rfl, rfl, trivial⟩ (⟨_, _, rfl, rfl, rfl⟩) rfl⟩
    ·
     rintro ⟨⟨data2, i0⟩, _⟩ rfl
     try dsimp only at hm1
     refine V.region ?_
     refine VO.cons rfl (V1.move rfl rfl rfl lt0 ?_)
     refine VO.cons rfl (V1.int rfl rfl rfl rfl rfl lt0 ?_)
     refine VO.cons rfl (V1.assign rfl rfl rfl lt0 ?_)
     refine VO.nil ?_
     exact ⟨(m0, (data2, i0, (IntKind.i64.wrap (j_ + (1 : Int)))), ()), hl1 _ (Option.some.inj hm1).symm, Nat.lt_succ_self _, Keeps.mk (ks := [0]) rfl ⟨(someSref (by simp)), rfl, rfl, rfl, rfl, rfl, trivial⟩ (⟨_, _, rfl, rfl, rfl⟩) rfl⟩
   ·
    replace hm1 := cond_f hc0 hm1
    refine V.exit ?_
    obtain rfl := hr1 _ (Option.some.inj hm1).symm
    exact ⟨(data1, ()), rfl, Keeps.mk (ks := [0]) rfl ⟨(someSref (by simp)), trivial⟩ (⟨_, _, rfl, rfl, rfl⟩) rfl⟩
  ·
   rintro ⟨data0, _⟩ rfl
   try dsimp only at hm0
   refine V.seq ?_
   refine V.region ?_
   refine VO.cons rfl (V1.assign rfl rfl rfl lt0 ?_)
   refine VO.nil ?_
   refine V.keep 141 [8] [0] (E0 := [(8, .bool false)]) (H0 := [(oq, ⟨3, List.map encSpan data0⟩)]) rfl (⟨_, _, rfl, rfl, rfl⟩) (⟨_, _, rfl, rfl, rfl⟩) rfl ?_
   refine V.ret ?_
   obtain rfl := Option.some.inj hm0
   exact ⟨_, _, ⟨_, _, rfl, rfl, rfl⟩, List.Sublist.refl _, rfl, rfl⟩

theorem ok_slices_pdqsortCmpFunc_impl_Span {rn : Nat} {oq : Option Nat} {data : List Span} {a : Int} {b_ : Int} {limit : Int} {f4 : Nat} {cs4 : List PV} {r : List Span} {fm : Span → Span → Option Int} (h : M.slices_pdqsortCmpFunc_impl_Span data a b_ limit fm = some r) (hoq : oq = none → data = []) (hok4 : callOK Tryd.prog f4 = true) (hf4 : ∀ x0 x1 r, fm x0 x1 = some r → Does Tryd.prog f4 (encSpan x0 :: encSpan x1 :: cs4) [] rn (fun x H => x = .int .i64 r ∧ H = [])) : Does Tryd.prog 134 [optS 3 oq (List.length data), .int .i64 a, .int .i64 b_, .int .i64 limit, .fn f4 cs4] (optH 3 oq (List.map encSpan data)) rn (fun x H => x = .tup [] ∧ H = optH 3 oq (List.map encSpan r)) := by
 have hm0 := h; clear h; unfold M.slices_pdqsortCmpFunc_impl_Span at hm0
 try dsimp only at hm0
 refine Does.intro (N := 148) Tryd.func134 rfl rfl rfl rfl ?_
 intro w0 S0 L0
 rcases oq with _ | oq
 ·
  refine V.seq ?_
  refine V.region ?_
  refine VO.cons rfl (V1.assign rfl rfl rfl lt0 ?_)
  refine VO.nil ?_
  refine V.seq ?_
  refine V.region ?_
  refine VO.cons rfl (V1.assign rfl rfl rfl lt0 ?_)
  refine VO.nil ?_
  replace hm0 := bindO hm0; rcases hm0 with ⟨e0, he1, hm0⟩
  refine V.block ?_
  refine V.keep 148 [1, 2, 3, 10, 11, 0, 4] [] (E0 := [(1, .int .i64 a), (2, .int .i64 b_), (3, .int .i64 limit), (10, .bool true), (11, .bool true), (0, .nils), (4, .fn f4 cs4)]) (H0 := []) rfl (⟨_, _, rfl, rfl, _, _, rfl, rfl, _, _, rfl, rfl, _, _, rfl, rfl, _, _, rfl, rfl, _, _, rfl, rfl, _, _, rfl, rfl, rfl⟩) (rfl) rfl ?_
  refine V.loopE (D := Nat × (Int × Int × Int × Bool × Bool) × (Unit)) (fun ⟨n0, ⟨a0, b_0, limit0, wasBalanced, wasPartitioned⟩, _⟩ => [(1, .int .i64 a0), (2, .int .i64 b_0), (3, .int .i64 limit0), (10, .bool wasBalanced), (11, .bool wasPartitioned)]) (fun ⟨n0, ⟨a0, b_0, limit0, wasBalanced, wasPartitioned⟩, _⟩ => []) (fun ⟨n0, ⟨a0, b_0, limit0, wasBalanced, wasPartitioned⟩, _⟩ => loopO (M.slices_pdqsortCmpFunc_impl_Span_l0 data fm) n0 (a0, b_0, limit0, wasBalanced, wasPartitioned) = some e0) (fun ⟨n0, _, _⟩ => n0) (rounds, (a, b_, limit, true, true), ()) rfl he1 ?_
  rintro ⟨n0, ⟨a0, b_0, limit0, wasBalanced, wasPartitioned⟩, _⟩ hP0
  obtain ⟨m0, y0, rfl, hm1, hl1, hr1⟩ := loop_head hP0
  unfold M.slices_pdqsortCmpFunc_impl_Span_l0 at hm1; dsimp only at hm1
  show V _ _ _ ⟨148, [(1, .int .i64 a0), (2, .int .i64 b_0), (3, .int .i64 limit0), (10, .bool wasBalanced), (11, .bool wasPartitioned), (0, .nils), (4, .fn f4 cs4)], []⟩
  refine V.block ?_
  refine V.seq ?_
  refine V.region ?_
  refine VO.cons rfl (V1.move rfl rfl rfl lt0 ?_)
  refine VO.cons rfl (V1.move rfl rfl rfl lt0 ?_)
  refine VO.cons rfl (V1.int rfl rfl rfl rfl rfl lt0 ?_)
  refine VO.cons rfl (V1.assign rfl rfl rfl lt0 ?_)
  refine VO.nil ?_
  refine V.seq ?_
  refine V.seq ?_
  refine V.region ?_
  refine VO.cons rfl (V1.move rfl rfl rfl lt0 ?_)
  refine VO.cons rfl (V1.int rfl rfl rfl rfl rfl lt0 ?_)
  refine VO.nil ?_
  refine V.keep 148 [0, 1, 2, 3, 4, 10, 11, 12, 25] [] (E0 := [(0, .nils), (1, .int .i64 a0), (2, .int .i64 b_0), (3, .int .i64 limit0), (4, .fn f4 cs4), (10, .bool wasBalanced), (11, .bool wasPartitioned), (12, .int .i64 (IntKind.i64.wrap (b_0 - a0))), (25, .bool (decide ((IntKind.i64.wrap (b_0 - a0)) ≤ (12 : Int))))]) (H0 := []) rfl (⟨_, _, rfl, rfl, _, _, rfl, rfl, _, _, rfl, rfl, _, _, rfl, rfl, _, _, rfl, rfl, _, _, rfl, rfl, _, _, rfl, rfl, _, _, rfl, rfl, _, _, rfl, rfl, rfl⟩) (rfl) rfl ?_
  refine V.cond rfl (fun hc0 => ?_) (fun hc0 => ?_)
  ·
   replace hm1 := cond_t hc0 hm1
   refine V.seq ?_
   replace hm1 := bindO hm1; rcases hm1 with ⟨y1, hh0, hm1⟩
   replace hm1 := asrt_some hm1; rcases hm1 with ⟨hh1, hm1⟩
   refine V.region ?_
   refine VO.cons rfl (V1.move rfl rfl rfl lt0 ?_)
   refine VO.cons rfl (V1.move rfl rfl rfl lt0 ?_)
   refine VO.cons rfl (V1.move rfl rfl rfl lt0 ?_)
   refine VO.cons rfl (V1.move rfl rfl rfl lt0 ?_)
   refine VO.cons rfl (V1.call rfl rfl rfl cok_155 rfl (ok_slices_insertionSortCmpFunc_impl_Span hh0 (oq := none) (data := data) (fun _ => (hoq rfl)) (fm := fm) hok4 hf4) rfl lt0 ?_)
   rintro _ _ ⟨rfl, rfl⟩
   refine VO.nil ?_
   refine V.keep 148 [] [] (E0 := []) (H0 := []) rfl (rfl) (rfl) rfl ?_
   refine V.ret ?_
   obtain rfl := hr1 _ (Option.some.inj hm1).symm
   change some _ = some _ at hm0
   obtain rfl := Option.some.inj hm0
   exact ⟨_, _, rfl, List.Sublist.refl _, rfl, rfl⟩
  ·
   replace hm1 := cond_f hc0 hm1
   refine V.skip ?_
   refine V.seq ?_
   refine V.seq ?_
   refine V.region ?_
   refine VO.cons rfl (V1.move rfl rfl rfl lt0 ?_)
   refine VO.cons rfl (V1.int rfl rfl rfl rfl rfl lt0 ?_)
   refine VO.nil ?_
   replace hm1 := asrt_some hm1; rcases hm1 with ⟨hh2, hm1⟩
   refine V.cond rfl (fun hc => by rw [hh2] at hc; cases hc) (fun _ => ?_)
   refine V.skip ?_
   refine V.seq ?_
   replace hm1 := bindO hm1; rcases hm1 with ⟨j0, hm2, hm1⟩
   refine V.cutT (D := (Unit) × (Unit)) (fun ⟨_, _⟩ => ⟨148, [(0, .nils), (1, .int .i64 a0), (2, .int .i64 b_0), (3, .int .i64 limit0), (4, .fn f4 cs4), (10, .bool wasBalanced), (11, .bool wasPartitioned), (12, .int .i64 (IntKind.i64.wrap (b_0 - a0)))], []⟩) (fun ⟨_, _⟩ => (() = j0)) ?_ ?_
   ·
    refine V.seq ?_
    refine V.region ?_
    refine VO.cons rfl (V1.move rfl rfl rfl lt0 ?_)
    refine VO.cons rfl (V1.not rfl rfl rfl lt0 ?_)
    refine VO.nil ?_
    refine V.keep 148 [0, 1, 2, 3, 4, 10, 11, 12, 39] [] (E0 := [(0, .nils), (1, .int .i64 a0), (2, .int .i64 b_0), (3, .int .i64 limit0), (4, .fn f4 cs4), (10, .bool wasBalanced), (11, .bool wasPartitioned), (12, .int .i64 (IntKind.i64.wrap (b_0 - a0))), (39, .bool (!wasBalanced))]) (H0 := []) rfl (⟨_, _, rfl, rfl, _, _, rfl, rfl, _, _, rfl, rfl, _, _, rfl, rfl, _, _, rfl, rfl, _, _, rfl, rfl, _, _, rfl, rfl, _, _, rfl, rfl, _, _, rfl, rfl, rfl⟩) (rfl) rfl ?_
    replace hm2 := asrt_some hm2; rcases hm2 with ⟨hh3, hm2⟩
    refine V.cond rfl (fun hc => by rw [hh3] at hc; cases hc) (fun _ => ?_)
    refine V.skip ?_
    exact ⟨((), ()), Option.some.inj hm2, Keeps.mk (ks := []) rfl ⟨rfl, rfl, rfl, rfl, rfl, rfl, rfl, rfl, trivial⟩ (rfl) rfl⟩
   ·
    rintro ⟨_, _⟩ rfl
    try dsimp only at hm1
    refine V.seq ?_
    replace hm1 := bindO hm1; rcases hm1 with ⟨y2, hh4, hm1⟩
    refine V.region ?_
    refine VO.cons rfl (V1.move rfl rfl rfl lt0 ?_)
    refine VO.cons rfl (V1.move rfl rfl rfl lt0 ?_)
    refine VO.cons rfl (V1.move rfl rfl rfl lt0 ?_)
    refine VO.cons rfl (V1.move rfl rfl rfl lt0 ?_)
    refine VO.weakenK (Keeps.nilsE (l := data) 48 rn 3 encSpan (hoq rfl) rfl rfl) ?_
    refine VO.cons rfl (V1.call rfl rfl rfl cok_158 rfl (ok_slices_choosePivotCmpFunc_impl_Span hh4 (fm := fm) hok4 hf4) rfl lt0 ?_)
    rintro _ _ ⟨rfl, rfl⟩
    refine VO.cons rfl (V1.move rfl rfl rfl lt0 ?_)
    refine VO.cons rfl (V1.extract rfl rfl rfl rfl lt0 ?_)
    refine VO.cons rfl (V1.extract rfl rfl rfl rfl lt0 ?_)
    refine VO.cons rfl (V1.assign rfl rfl rfl lt0 ?_)
    refine VO.cons rfl (V1.assign rfl rfl rfl lt0 ?_)
    refine VO.nil ?_
    refine V.keep 148 [0, 1, 2, 3, 4, 10, 11, 12, 13, 14] [] (E0 := [(0, .nils), (1, .int .i64 a0), (2, .int .i64 b_0), (3, .int .i64 limit0), (4, .fn f4 cs4), (10, .bool wasBalanced), (11, .bool wasPartitioned), (12, .int .i64 (IntKind.i64.wrap (b_0 - a0))), (13, .int .i64 y2.1), (14, .int .i64 y2.2)]) (H0 := []) rfl (⟨_, _, rfl, rfl, _, _, rfl, rfl, _, _, rfl, rfl, _, _, rfl, rfl, _, _, rfl, rfl, _, _, rfl, rfl, _, _, rfl, rfl, _, _, rfl, rfl, _, _, rfl, rfl, _, _, rfl, rfl, rfl⟩) (rfl) rfl ?_
    refine V.seq ?_
    replace hm1 := bindO hm1; rcases hm1 with ⟨j1, hm2, hm1⟩
    refine V.cutT (D := (Unit) × (Unit)) (fun ⟨_, _⟩ => ⟨148, [(0, .nils), (1, .int .i64 a0), (2, .int .i64 b_0), (3, .int .i64 limit0), (4, .fn f4 cs4), (10, .bool wasBalanced), (11, .bool wasPartitioned), (12, .int .i64 (IntKind.i64.wrap (b_0 - a0))), (13, .int .i64 y2.1), (14, .int .i64 y2.2)], []⟩) (fun ⟨_, _⟩ => (() = j1)) ?_ ?_
    ·
     refine V.seq ?_
     refine V.region ?_
     refine VO.cons rfl (V1.move rfl rfl rfl lt0 ?_)
     refine VO.cons rfl (V1.int rfl rfl rfl rfl rfl lt0 ?_)
     refine VO.nil ?_
     replace hm2 := asrt_some hm2; rcases hm2 with ⟨hh5, hm2⟩
     refine V.cond rfl (fun hc => by rw [hh5] at hc; cases hc) (fun _ => ?_)
     refine V.skip ?_
     exact ⟨((), ()), Option.some.inj hm2, Keeps.mk (ks := []) rfl ⟨rfl, rfl, rfl, rfl, rfl, rfl, rfl, rfl, rfl, rfl, trivial⟩ (rfl) rfl⟩
    ·
     rintro ⟨_, _⟩ rfl
     try dsimp only at hm1
     refine V.seq ?_
     refine V.seq ?_
     refine V.region ?_
     refine VO.cons rfl (V1.move rfl rfl rfl lt0 ?_)
     refine VO.cons rfl (V1.move rfl rfl rfl lt0 ?_)
     apply VO.and (n := 1) rfl rfl rfl rfl rfl rfl lt0 (.none rfl)
     ·
      intro hg0
      refine VO.step (.some rfl rfl rfl) (V1.move rfl rfl rfl lt0 ?_)
      exact VO.nil ⟨rfl, rfl, rfl, rfl, .inr ⟨rfl, .inr ⟨rfl, .inl rfl⟩⟩⟩
     refine VO.cons rfl (V1.move rfl rfl rfl lt0 ?_)
     apply VO.and (n := 2) rfl rfl rfl rfl rfl rfl lt0 (.none rfl)
     ·
      intro hg1
      refine VO.step (.some rfl rfl rfl) (V1.move rfl rfl rfl lt0 ?_)
      refine VO.step (.some rfl rfl rfl) (V1.int rfl rfl rfl rfl rfl lt0 ?_)
      exact VO.nil ⟨rfl, rfl, rfl, rfl, .inr ⟨rfl, .inr ⟨rfl, .inr ⟨rfl, .inl rfl⟩⟩⟩⟩
     refine VO.nil ?_
     refine V.keep 148 [0, 1, 2, 3, 4, 10, 11, 12, 13, 75] [] (E0 := [(0, .nils), (1, .int .i64 a0), (2, .int .i64 b_0), (3, .int .i64 limit0), (4, .fn f4 cs4), (10, .bool wasBalanced), (11, .bool wasPartitioned), (12, .int .i64 (IntKind.i64.wrap (b_0 - a0))), (13, .int .i64 y2.1), (75, .bool ((wasBalanced && wasPartitioned) && (y2.2 == (1 : Int))))]) (H0 := []) rfl (⟨_, _, rfl, rfl, _, _, rfl, rfl, _, _, rfl, rfl, _, _, rfl, rfl, _, _, rfl, rfl, _, _, rfl, rfl, _, _, rfl, rfl, _, _, rfl, rfl, _, _, rfl, rfl, _, _, rfl, rfl, rfl⟩) (rfl) rfl ?_
     replace hm1 := asrt_some hm1; rcases hm1 with ⟨hh6, hm1⟩
     refine V.cond rfl (fun _ => ?_) (fun hc => by rw [hh6] at hc; cases hc)
     refine V.seq ?_
     replace hm1 := bindO hm1; rcases hm1 with ⟨y3, hh7, hm1⟩
     replace hm1 := asrt_some hm1; rcases hm1 with ⟨hh8, hm1⟩
     refine V.region ?_
     refine VO.cons rfl (V1.move rfl rfl rfl lt0 ?_)
     refine VO.cons rfl (V1.move rfl rfl rfl lt0 ?_)
     refine VO.cons rfl (V1.move rfl rfl rfl lt0 ?_)
     refine VO.cons rfl (V1.move rfl rfl rfl lt0 ?_)
     refine VO.cons rfl (V1.call rfl rfl rfl cok_160 rfl (ok_slices_partialInsertionSortCmpFunc_impl_Span hh7 (oq := none) (data := data) (fun _ => (hoq rfl)) (fm := fm) hok4 hf4) rfl lt0 ?_)
     rintro _ _ ⟨rfl, rfl⟩
     refine VO.nil ?_
     refine V.keep 148 [0, 1, 2, 3, 4, 10, 11, 12, 13, 80] [] (E0 := [(0, .nils), (1, .int .i64 a0), (2, .int .i64 b_0), (3, .int .i64 limit0), (4, .fn f4 cs4), (10, .bool wasBalanced), (11, .bool wasPartitioned), (12, .int .i64 (IntKind.i64.wrap (b_0 - a0))), (13, .int .i64 y2.1), (80, .bool y3.1)]) (H0 := []) rfl (⟨_, _, rfl, rfl, _, _, rfl, rfl, _, _, rfl, rfl, _, _, rfl, rfl, _, _, rfl, rfl, _, _, rfl, rfl, _, _, rfl, rfl, _, _, rfl, rfl, _, _, rfl, rfl, _, _, rfl, rfl, rfl⟩) (rfl) rfl ?_
     replace hm1 := asrt_some hm1; rcases hm1 with ⟨hh9, hm1⟩
     refine V.cond rfl (fun _ => ?_) (fun hc => by rw [hh9] at hc; cases hc)
     refine V.keep 148 [] [] (E0 := []) (H0 := []) rfl (rfl) (rfl) rfl ?_
     refine V.ret ?_
     obtain rfl := hr1 _ (Option.some.inj hm1).symm
     change some _ = some _ at hm0
     obtain rfl := Option.some.inj hm0
     exact ⟨_, _, rfl, List.Sublist.refl _, rfl, rfl⟩
 ·
  refine V.seq ?_
  refine V.region ?_
  refine VO.cons rfl (V1.assign rfl rfl rfl lt0 ?_)
  refine VO.nil ?_
  refine V.seq ?_
  refine V.region ?_
  refine VO.cons rfl (V1.assign rfl rfl rfl lt0 ?_)
  refine VO.nil ?_
  replace hm0 := bindO hm0; rcases hm0 with ⟨e0, he1, hm0⟩
  refine V.block ?_
  refine V.keep 148 [1, 2, 3, 10, 11, 0, 4] [0] (E0 := [(1, .int .i64 a), (2, .int .i64 b_), (3, .int .i64 limit), (10, .bool true), (11, .bool true), (0, .sref oq 3 0 (List.length data)), (4, .fn f4 cs4)]) (H0 := [(oq, ⟨3, List.map encSpan data⟩)]) rfl (⟨_, _, rfl, rfl, _, _, rfl, rfl, _, _, rfl, rfl, _, _, rfl, rfl, _, _, rfl, rfl, _, _, rfl, rfl, _, _, rfl, rfl, rfl⟩) (⟨_, _, rfl, rfl, rfl⟩) rfl ?_
  refine V.loopE (D := Nat × (Int × Int × Int × Bool × Bool) × (Unit)) (fun ⟨n0, ⟨a0, b_0, limit0, wasBalanced, wasPartitioned⟩, _⟩ => [(1, .int .i64 a0), (2, .int .i64 b_0), (3, .int .i64 limit0), (10, .bool wasBalanced), (11, .bool wasPartitioned)]) (fun ⟨n0, ⟨a0, b_0, limit0, wasBalanced, wasPartitioned⟩, _⟩ => []) (fun ⟨n0, ⟨a0, b_0, limit0, wasBalanced, wasPartitioned⟩, _⟩ => loopO (M.slices_pdqsortCmpFunc_impl_Span_l0 data fm) n0 (a0, b_0, limit0, wasBalanced, wasPartitioned) = some e0) (fun ⟨n0, _, _⟩ => n0) (rounds, (a, b_, limit, true, true), ()) rfl he1 ?_
  rintro ⟨n0, ⟨a0, b_0, limit0, wasBalanced, wasPartitioned⟩, _⟩ hP0
  obtain ⟨m0, y0, rfl, hm1, hl1, hr1⟩ := loop_head hP0
  unfold M.slices_pdqsortCmpFunc_impl_Span_l0 at hm1; dsimp only at hm1
  show V _ _ _ ⟨148, [(1, .int .i64 a0), (2, .int .i64 b_0), (3, .int .i64 limit0), (10, .bool wasBalanced), (11, .bool wasPartitioned), (0, .sref oq 3 0 (List.length data)), (4, .fn f4 cs4)], [(oq, ⟨3, List.map encSpan data⟩)]⟩
  refine V.block ?_
  refine V.seq ?_
  refine V.region ?_
  refine VO.cons rfl (V1.move rfl rfl rfl lt0 ?_)
  refine VO.cons rfl (V1.move rfl rfl rfl lt0 ?_)
  refine VO.cons rfl (V1.int rfl rfl rfl rfl rfl lt0 ?_)
  refine VO.cons rfl (V1.assign rfl rfl rfl lt0 ?_)
  refine VO.nil ?_
  refine V.seq ?_
  refine V.seq ?_
  refine V.region ?_
  refine VO.cons rfl (V1.move rfl rfl rfl lt0 ?_)
  refine VO.cons rfl (V1.int rfl rfl rfl rfl rfl lt0 ?_)
  refine VO.nil ?_
  refine V.keep 148 [0, 1, 2, 3, 4, 10, 11, 12, 25] [0] (E0 := [(0, .sref oq 3 0 (List.length data)), (1, .int .i64 a0), (2, .int .i64 b_0), (3, .int .i64 limit0), (4, .fn f4 cs4), (10, .bool wasBalanced), (11, .bool wasPartitioned), (12, .int .i64 (IntKind.i64.wrap (b_0 - a0))), (25, .bool (decide ((IntKind.i64.wrap (b_0 - a0)) ≤ (12 : Int))))]) (H0 := [(oq, ⟨3, List.map encSpan data⟩)]) rfl (⟨_, _, rfl, rfl, _, _, rfl, rfl, _, _, rfl, rfl, _, _, rfl, rfl, _, _, rfl, rfl, _, _, rfl, rfl, _, _, rfl, rfl, _, _, rfl, rfl, _, _, rfl, rfl, rfl⟩) (⟨_, _, rfl, rfl, rfl⟩) rfl ?_
  refine V.cond rfl (fun hc0 => ?_) (fun hc0 => ?_)
  ·
   replace hm1 := cond_t hc0 hm1
   refine V.seq ?_
   replace hm1 := bindO hm1; rcases hm1 with ⟨y1, hh0, hm1⟩
   replace hm1 := asrt_some hm1; rcases hm1 with ⟨hh1, hm1⟩
   refine V.region ?_
   refine VO.cons rfl (V1.move rfl rfl rfl lt0 ?_)
   refine VO.cons rfl (V1.move rfl rfl rfl lt0 ?_)
   refine VO.cons rfl (V1.move rfl rfl rfl lt0 ?_)
   refine VO.cons rfl (V1.move rfl rfl rfl lt0 ?_)
   refine VO.cons rfl (V1.callM 0 (rn + 1) [] [.sref oq 3 0 (List.length data), .int .i64 a0, .int .i64 b_0, .fn f4 cs4] (p := (oq, ⟨3, List.map encSpan data⟩)) rfl rfl rfl cok_155 rfl rfl ⟨_, _, rfl, .same _, ⟨_, _, rfl, .same _, ⟨_, _, rfl, .same _, ⟨_, _, rfl, .same _, rfl⟩⟩⟩⟩ bwNil (ok_slices_insertionSortCmpFunc_impl_Span hh0 (oq := some oq) (fun e => by cases e) (fm := fm) hok4 hf4) rfl (.inl rfl) lt0 ?_)
   rintro _ _ ⟨rfl, rfl⟩
   refine VO.weakenK (Keeps.say 0 (y := .sref oq 3 0 (List.length y1)) rfl (congrArg (PV.sref oq 3 0) hh1.symm)) ?_
   refine VO.nil ?_
   refine V.keep 148 [] [0] (E0 := []) (H0 := [(oq, ⟨3, List.map encSpan y1⟩)]) rfl (rfl) (⟨_, _, rfl, rfl, rfl⟩) rfl ?_
   refine V.ret ?_
   obtain rfl := hr1 _ (Option.some.inj hm1).symm
   change some _ = some _ at hm0
   obtain rfl := Option.some.inj hm0
   exact ⟨_, _, rfl, List.Sublist.refl _, rfl, rfl⟩
  ·
   replace hm1 := cond_f hc0 hm1
   refine V.skip ?_
   refine V.seq ?_
   refine V.seq ?_
   refine V.region ?_
   refine VO.cons rfl (V1.move rfl rfl rfl lt0 ?_)
   refine VO.cons rfl (V1.int rfl rfl rfl rfl rfl lt0 ?_)
   refine VO.nil ?_
   replace hm1 := asrt_some hm1; rcases hm1 with ⟨hh2, hm1⟩
   refine V.cond rfl (fun hc => by rw [hh2] at hc; cases hc) (fun _ => ?_)
   refine V.skip ?_
   refine V.seq ?_
   replace hm1 := bindO hm1; rcases hm1 with ⟨j0, hm2, hm1⟩
   refine V.cutT (D := (Unit) × (Unit)) (fun ⟨_, _⟩ => ⟨148, [(0, .sref oq 3 0 (List.length data)), (1, .int .i64 a0), (2, .int .i64 b_0), (3, .int .i64 limit0), (4, .fn f4 cs4), (10, .bool wasBalanced), (11, .bool wasPartitioned), (12, .int .i64 (IntKind.i64.wrap (b_0 - a0)))], [(oq, ⟨3, List.map encSpan data⟩)]⟩) (fun ⟨_, _⟩ => (() = j0)) ?_ ?_
   ·
    refine V.seq ?_
    refine V.region ?_
    refine VO.cons rfl (V1.move rfl rfl rfl lt0 ?_)
    refine VO.cons rfl (V1.not rfl rfl rfl lt0 ?_)
    refine VO.nil ?_
    refine V.keep 148 [0, 1, 2, 3, 4, 10, 11, 12, 39] [0] (E0 := [(0, .sref oq 3 0 (List.length data)), (1, .int .i64 a0), (2, .int .i64 b_0), (3, .int .i64 limit0), (4, .fn f4 cs4), (10, .bool wasBalanced), (11, .bool wasPartitioned), (12, .int .i64 (IntKind.i64.wrap (b_0 - a0))), (39, .bool (!wasBalanced))]) (H0 := [(oq, ⟨3, List.map encSpan data⟩)]) rfl (⟨_, _, rfl, rfl, _, _, rfl, rfl, _, _, rfl, rfl, _, _, rfl, rfl, _, _, rfl, rfl, _, _, rfl, rfl, _, _, rfl, rfl, _, _, rfl, rfl, _, _, rfl, rfl, rfl⟩) (⟨_, _, rfl, rfl, rfl⟩) rfl ?_
    replace hm2 := asrt_some hm2; rcases hm2 with ⟨hh3, hm2⟩
    refine V.cond rfl (fun hc => by rw [hh3] at hc; cases hc) (fun _ => ?_)
    refine V.skip ?_
    exact ⟨((), ()), Option.some.inj hm2, Keeps.mk (ks := [0]) rfl ⟨rfl, rfl, rfl, rfl, rfl, rfl, rfl, rfl, trivial⟩ (⟨_, _, rfl, rfl, rfl⟩) rfl⟩
   ·
    rintro ⟨_, _⟩ rfl
    try dsimp only at hm1
    refine V.seq ?_
    replace hm1 := bindO hm1; rcases hm1 with ⟨y2, hh4, hm1⟩
    refine V.region ?_
    refine VO.cons rfl (V1.move rfl rfl rfl lt0 ?_)
    refine VO.cons rfl (V1.move rfl rfl rfl lt0 ?_)
    refine VO.cons rfl (V1.move rfl rfl rfl lt0 ?_)
    refine VO.cons rfl (V1.move rfl rfl rfl lt0 ?_)
    refine VO.cons rfl (V1.callL (rn + 1) [oq] [.vl (rn + 1) 3 (List.map encSpan data), .int .i64 a0, .int .i64 b_0, .fn f4 cs4] rfl rfl rfl cok_158 rfl ⟨_, _, rfl, Lend.srMap 0 rfl (fun _ => rfl) (.head _), ⟨_, _, rfl, .same _, ⟨_, _, rfl, .same _, ⟨_, _, rfl, .same _, rfl⟩⟩⟩⟩ (bwCons (k := 0) rfl bwNil) (ok_slices_choosePivotCmpFunc_impl_Span hh4 (fm := fm) hok4 hf4) rfl (⟨(by first | omega | (dsimp only; omega)), by rintro _ _ ⟨rfl, rfl⟩; exact ⟨rfl, by simp⟩⟩) lt0 ?_)
    rintro _ _ ⟨rfl, rfl⟩
    refine VO.cons rfl (V1.move rfl rfl rfl lt0 ?_)
    refine VO.cons rfl (V1.extract rfl rfl rfl rfl lt0 ?_)
    refine VO.cons rfl (V1.extract rfl rfl rfl rfl lt0 ?_)
    refine VO.cons rfl (V1.assign rfl rfl rfl lt0 ?_)
    refine VO.cons rfl (V1.assign rfl rfl rfl lt0 ?_)
    refine VO.nil ?_
    refine V.keep 148 [0, 1, 2, 3, 4, 10, 11, 12, 13, 14] [0] (E0 := [(0, .sref oq 3 0 (List.length data)), (1, .int .i64 a0), (2, .int .i64 b_0), (3, .int .i64 limit0), (4, .fn f4 cs4), (10, .bool wasBalanced), (11, .bool wasPartitioned), (12, .int .i64 (IntKind.i64.wrap (b_0 - a0))), (13, .int .i64 y2.1), (14, .int .i64 y2.2)]) (H0 := [(oq, ⟨3, List.map encSpan data⟩)]) rfl (⟨_, _, rfl, rfl, _, _, rfl, rfl, _, _, rfl, rfl, _, _, rfl, rfl, _, _, rfl, rfl, _, _, rfl, rfl, _, _, rfl, rfl, _, _, rfl, rfl, _, _, rfl, rfl, _, _, rfl, rfl, rfl⟩) (⟨_, _, rfl, rfl, rfl⟩) rfl ?_
    refine V.seq ?_
    replace hm1 := bindO hm1; rcases hm1 with ⟨j1, hm2, hm1⟩
    refine V.cutT (D := (Unit) × (Unit)) (fun ⟨_, _⟩ => ⟨148, [(0, .sref oq 3 0 (List.length data)), (1, .int .i64 a0), (2, .int .i64 b_0), (3, .int .i64 limit0), (4, .fn f4 cs4), (10, .bool wasBalanced), (11, .bool wasPartitioned), (12, .int .i64 (IntKind.i64.wrap (b_0 - a0))), (13, .int .i64 y2.1), (14, .int .i64 y2.2)], [(oq, ⟨3, List.map encSpan data⟩)]⟩) (fun ⟨_, _⟩ => (() = j1)) ?_ ?_
    ·
     refine V.seq ?_
     refine V.region ?_
     refine VO.cons rfl (V1.move rfl rfl rfl lt0 ?_)
     refine VO.cons rfl (V1.int rfl rfl rfl rfl rfl lt0 ?_)
     refine VO.nil ?_
     replace hm2 := asrt_some hm2; rcases hm2 with ⟨hh5, hm2⟩
     refine V.cond rfl (fun hc => by rw [hh5] at hc; cases hc) (fun _ => ?_)
     refine V.skip ?_
     exact ⟨((), ()), Option.some.inj hm2, Keeps.mk (ks := [0]) rfl ⟨rfl, rfl, rfl, rfl, rfl, rfl, rfl, rfl, rfl, rfl, trivial⟩ (⟨_, _, rfl, rfl, rfl⟩) rfl⟩
    ·
     rintro ⟨_, _⟩ rfl
     try dsimp only at hm1
     refine V.seq ?_
     refine V.seq ?_
     refine V.region ?_
     refine VO.cons rfl (V1.move rfl rfl rfl lt0 ?_)
     refine VO.cons rfl (V1.move rfl rfl rfl lt0 ?_)
     apply VO.and (n := 1) rfl rfl rfl rfl rfl rfl lt0 (.none rfl)
     ·
      intro hg0
      refine VO.step (.some rfl rfl rfl) (V1.move rfl rfl rfl lt0 ?_)
      exact VO.nil ⟨rfl, rfl, rfl, rfl, .inr ⟨rfl, .inr ⟨rfl, .inl rfl⟩⟩⟩
     refine VO.cons rfl (V1.move rfl rfl rfl lt0 ?_)
     apply VO.and (n := 2) rfl rfl rfl rfl rfl rfl lt0 (.none rfl)
     ·
      intro hg1
      refine VO.step (.some rfl rfl rfl) (V1.move rfl rfl rfl lt0 ?_)
      refine VO.step (.some rfl rfl rfl) (V1.int rfl rfl rfl rfl rfl lt0 ?_)
      exact VO.nil ⟨rfl, rfl, rfl, rfl, .inr ⟨rfl, .inr ⟨rfl, .inr ⟨rfl, .inl rfl⟩⟩⟩⟩
     refine VO.nil ?_
     refine V.keep 148 [0, 1, 2, 3, 4, 10, 11, 12, 13, 75] [0] (E0 := [(0, .sref oq 3 0 (List.length data)), (1, .int .i64 a0), (2, .int .i64 b_0), (3, .int .i64 limit0), (4, .fn f4 cs4), (10, .bool wasBalanced), (11, .bool wasPartitioned), (12, .int .i64 (IntKind.i64.wrap (b_0 - a0))), (13, .int .i64 y2.1), (75, .bool ((wasBalanced && wasPartitioned) && (y2.2 == (1 : Int))))]) (H0 := [(oq, ⟨3, List.map encSpan data⟩)]) rfl (⟨_, _, rfl, rfl, _, _, rfl, rfl, _, _, rfl, rfl, _, _, rfl, rfl, _, _, rfl, rfl, _, _, rfl, rfl, _, _, rfl, rfl, _, _, rfl, rfl, _, _, rfl, rfl, _, _, rfl, rfl, rfl⟩) (⟨_, _, rfl, rfl, rfl⟩) rfl ?_
     replace hm1 := asrt_some hm1; rcases hm1 with ⟨hh6, hm1⟩
     refine V.cond rfl (fun _ => ?_) (fun hc => by rw [hh6] at hc; cases hc)
     refine V.seq ?_
     replace hm1 := bindO hm1; rcases hm1 with ⟨y3, hh7, hm1⟩
     replace hm1 := asrt_some hm1; rcases hm1 with ⟨hh8, hm1⟩
     refine V.region ?_
     refine VO.cons rfl (V1.move rfl rfl rfl lt0 ?_)
     refine VO.cons rfl (V1.move rfl rfl rfl lt0 ?_)
     refine VO.cons rfl (V1.move rfl rfl rfl lt0 ?_)
     refine VO.cons rfl (V1.move rfl rfl rfl lt0 ?_)
     refine VO.cons rfl (V1.callM 0 (rn + 1) [] [.sref oq 3 0 (List.length data), .int .i64 a0, .int .i64 b_0, .fn f4 cs4] (p := (oq, ⟨3, List.map encSpan data⟩)) rfl rfl rfl cok_160 rfl rfl ⟨_, _, rfl, .same _, ⟨_, _, rfl, .same _, ⟨_, _, rfl, .same _, ⟨_, _, rfl, .same _, rfl⟩⟩⟩⟩ bwNil (ok_slices_partialInsertionSortCmpFunc_impl_Span hh7 (oq := some oq) (fun e => by cases e) (fm := fm) hok4 hf4) rfl (.inl rfl) lt0 ?_)
     rintro _ _ ⟨rfl, rfl⟩
     refine VO.weakenK (Keeps.say 0 (y := .sref oq 3 0 (List.length y3.2)) rfl (congrArg (PV.sref oq 3 0) hh8.symm)) ?_
     refine VO.nil ?_
     refine V.keep 148 [0, 1, 2, 3, 4, 10, 11, 12, 13, 80] [0] (E0 := [(0, .sref oq 3 0 (List.length y3.2)), (1, .int .i64 a0), (2, .int .i64 b_0), (3, .int .i64 limit0), (4, .fn f4 cs4), (10, .bool wasBalanced), (11, .bool wasPartitioned), (12, .int .i64 (IntKind.i64.wrap (b_0 - a0))), (13, .int .i64 y2.1), (80, .bool y3.1)]) (H0 := [(oq, ⟨3, List.map encSpan y3.2⟩)]) rfl (⟨_, _, rfl, rfl, _, _, rfl, rfl, _, _, rfl, rfl, _, _, rfl, rfl, _, _, rfl, rfl, _, _, rfl, rfl, _, _, rfl, rfl, _, _, rfl, rfl, _, _, rfl, rfl, _, _, rfl, rfl, rfl⟩) (⟨_, _, rfl, rfl, rfl⟩) rfl ?_
     replace hm1 := asrt_some hm1; rcases hm1 with ⟨hh9, hm1⟩
     refine V.cond rfl (fun _ => ?_) (fun hc => by rw [hh9] at hc; cases hc)
     refine V.keep 148 [] [0] (E0 := []) (H0 := [(oq, ⟨3, List.map encSpan y3.2⟩)]) rfl (rfl) (⟨_, _, rfl, rfl, rfl⟩) rfl ?_
     refine V.ret ?_
     obtain rfl := hr1 _ (Option.some.inj hm1).symm
     change some _ = some _ at hm0
     obtain rfl := Option.some.inj hm0
     exact ⟨_, _, rfl, List.Sublist.refl _, rfl, rfl⟩

theorem ok_slices_SortFunc_impl_Span_impl_Span {rn : Nat} {oq : Option Nat} {x : List Span} {f1 : Nat} {cs1 : List PV} {r : List Span} {fm : Span → Span → Option Int} (h : M.slices_SortFunc_impl_Span_impl_Span x fm = some r) (hoq : oq = none → x = []) (hok1 : callOK Tryd.prog f1 = true) (hf1 : ∀ x0 x1 r, fm x0 x1 = some r → Does Tryd.prog f1 (encSpan x0 :: encSpan x1 :: cs1) [] rn (fun x H => x = .int .i64 r ∧ H = [])) : Does Tryd.prog 99 [optS 3 oq (List.length x), .fn f1 cs1] (optH 3 oq (List.map encSpan x)) rn (fun x H => x = .tup [] ∧ H = optH 3 oq (List.map encSpan r)) := by
 have hm0 := h; clear h; unfold M.slices_SortFunc_impl_Span_impl_Span at hm0
 try dsimp only at hm0
 refine Does.intro (N := 14) Tryd.func99 rfl rfl rfl rfl ?_
 intro w0 S0 L0
 rcases oq with _ | oq
 ·
  refine V.seq ?_
  refine V.region ?_
  refine VO.cons rfl (V1.move rfl rfl rfl lt0 ?_)
  refine VO.cons rfl (V1.lenNilsE (l := x) (hoq rfl) rfl rfl rfl rfl rfl rfl isl_58 lt0 ?_)
  refine VO.cons rfl (V1.assign rfl rfl rfl lt0 ?_)
  refine VO.nil ?_
  replace hm0 := bindO hm0; rcases hm0 with ⟨y0, hh0, hm0⟩
  replace hm0 := bindO hm0; rcases hm0 with ⟨y1, hh1, hm0⟩
  replace hm0 := asrt_some hm0; rcases hm0 with ⟨hh2, hm0⟩
  refine V.region ?_
  refine VO.cons rfl (V1.move rfl rfl rfl lt0 ?_)
  refine VO.cons rfl (V1.move rfl rfl rfl lt0 ?_)
  refine VO.cons rfl (V1.move rfl rfl rfl lt0 ?_)
  refine VO.cons rfl (V1.conv rfl rfl und_3 und_128 rfl lt0 ?_)
  refine VO.cons rfl (V1.call rfl rfl rfl cok_135 rfl (ok_math_bits_Len hh0) rfl lt0 ?_)
  rintro _ _ ⟨rfl, rfl⟩
  refine VO.cons rfl (V1.move rfl rfl rfl lt0 ?_)
  refine VO.cons rfl (V1.call rfl rfl rfl cok_134 rfl (ok_slices_pdqsortCmpFunc_impl_Span hh1 (oq := none) (data := x) (fun _ => (hoq rfl)) (fm := fm) hok1 hf1) rfl lt0 ?_)
  rintro _ _ ⟨rfl, rfl⟩
  refine VO.nil ?_
  obtain rfl := Option.some.inj hm0
  exact ⟨_, [], rfl, List.nil_sublist _, rfl, rfl⟩
 ·
  refine V.seq ?_
  refine V.region ?_
  refine VO.cons rfl (V1.move rfl rfl rfl lt0 ?_)
  refine VO.cons rfl (V1.lenSref rfl rfl rfl rfl rfl rfl isl_58 lt0 ?_)
  refine VO.cons rfl (V1.assign rfl rfl rfl lt0 ?_)
  refine VO.nil ?_
  replace hm0 := bindO hm0; rcases hm0 with ⟨y0, hh0, hm0⟩
  replace hm0 := bindO hm0; rcases hm0 with ⟨y1, hh1, hm0⟩
  replace hm0 := asrt_some hm0; rcases hm0 with ⟨hh2, hm0⟩
  refine V.region ?_
  refine VO.cons rfl (V1.move rfl rfl rfl lt0 ?_)
  refine VO.cons rfl (V1.move rfl rfl rfl lt0 ?_)
  refine VO.cons rfl (V1.move rfl rfl rfl lt0 ?_)
  refine VO.cons rfl (V1.conv rfl rfl und_3 und_128 rfl lt0 ?_)
  refine VO.cons rfl (V1.call rfl rfl rfl cok_135 rfl (ok_math_bits_Len hh0) rfl lt0 ?_)
  rintro _ _ ⟨rfl, rfl⟩
  refine VO.cons rfl (V1.move rfl rfl rfl lt0 ?_)
  refine VO.cons rfl (V1.callM 0 (rn + 1) [] [.sref oq 3 0 (List.length x), .int .i64 (0 : Int), .int .i64 (x.length : Int), .int .i64 y0, .fn f1 cs1] (p := (oq, ⟨3, List.map encSpan x⟩)) rfl rfl rfl cok_134 rfl rfl ⟨_, _, rfl, .same _, ⟨_, _, rfl, .same _, ⟨_, _, rfl, .same _, ⟨_, _, rfl, .same _, ⟨_, _, rfl, .same _, rfl⟩⟩⟩⟩⟩ bwNil (ok_slices_pdqsortCmpFunc_impl_Span hh1 (oq := some oq) (fun e => by cases e) (fm := fm) hok1 hf1) rfl (.inl rfl) lt0 ?_)
  rintro _ _ ⟨rfl, rfl⟩
  refine VO.weakenK (Keeps.say 0 (y := .sref oq 3 0 (List.length y1)) rfl (congrArg (PV.sref oq 3 0) hh2.symm)) ?_
  refine VO.nil ?_
  obtain rfl := Option.some.inj hm0
  exact ⟨_, _, rfl, (sub1 (k := 0) rfl), rfl, rfl⟩

theorem ok_cmp_isNaN_int {rn : Nat} {x : Int} {r : Bool} (h : M.cmp_isNaN_int x = some r) : Does Tryd.prog 123 [.int .i64 x] [] rn (fun x H => x = .bool r ∧ H = []) := by
 have hm0 := h; clear h; unfold M.cmp_isNaN_int at hm0
 try dsimp only at hm0
 refine Does.intro (N := 6) Tryd.func123 rfl rfl rfl rfl ?_
 intro w0 S0 L0
 refine V.seq ?_
 refine V.region ?_
 refine VO.cons rfl (V1.assign rfl rfl rfl lt0 ?_)
 refine VO.nil ?_
 refine V.seq ?_
 refine V.region ?_
 refine VO.cons rfl (V1.move rfl rfl rfl lt0 ?_)
 refine VO.cons rfl (V1.move rfl rfl rfl lt0 ?_)
 refine VO.cons rfl (V1.int rfl rfl rfl rfl rfl lt0 ?_)
 refine VO.cons rfl (V1.assign rfl rfl rfl lt0 ?_)
 refine VO.nil ?_
 refine V.ret ?_
 obtain rfl := Option.some.inj hm0
 exact ⟨_, [], ⟨_, _, rfl, rfl, rfl⟩, List.nil_sublist _, rfl, rfl⟩

theorem ok_cmp_Compare_int {rn : Nat} {x : Int} {y : Int} {r : Int} (h : M.cmp_Compare_int x y = some r) : Does Tryd.prog 79 [.int .i64 x, .int .i64 y] [] rn (fun x H => x = .int .i64 r ∧ H = []) := by
 have hm0 := h; clear h; unfold M.cmp_Compare_int at hm0
 try dsimp only at hm0
 refine Does.intro (N := 20) Tryd.func79 rfl rfl rfl rfl ?_
 intro w0 S0 L0
 refine V.seq ?_
 refine V.region ?_
 refine VO.cons rfl (V1.assign rfl rfl rfl lt0 ?_)
 refine VO.nil ?_
 refine V.seq ?_
 replace hm0 := bindO hm0; rcases hm0 with ⟨y0, hh0, hm0⟩
 refine V.region ?_
 refine VO.cons rfl (V1.move rfl rfl rfl lt0 ?_)
 refine VO.cons rfl (V1.call rfl rfl rfl cok_123 rfl (ok_cmp_isNaN_int hh0) rfl lt0 ?_)
 rintro _ _ ⟨rfl, rfl⟩
 refine VO.cons rfl (V1.assign rfl rfl rfl lt0 ?_)
 refine VO.nil ?_
 refine V.seq ?_
 replace hm0 := bindO hm0; rcases hm0 with ⟨y1, hh1, hm0⟩
 refine V.region ?_
 refine VO.cons rfl (V1.move rfl rfl rfl lt0 ?_)
 refine VO.cons rfl (V1.call rfl rfl rfl cok_123 rfl (ok_cmp_isNaN_int hh1) rfl lt0 ?_)
 rintro _ _ ⟨rfl, rfl⟩
 refine VO.cons rfl (V1.assign rfl rfl rfl lt0 ?_)
 refine VO.nil ?_
 refine V.keep 20 [0, 1, 5, 6] [] (E0 := [(0, .int .i64 x), (1, .int .i64 y), (5, .bool y0), (6, .bool y1)]) (H0 := []) rfl (⟨_, _, rfl, rfl, _, _, rfl, rfl, _, _, rfl, rfl, _, _, rfl, rfl, rfl⟩) (rfl) rfl ?_
 refine V.seq ?_
 refine V.seq ?_
 refine V.region ?_
 refine VO.cons rfl (V1.move rfl rfl rfl lt0 ?_)
 refine VO.nil ?_
 refine V.cond rfl (fun hc0 => ?_) (fun hc0 => ?_)
 ·
  replace hm0 := cond_t hc0 hm0
  refine V.seq ?_
  refine V.seq ?_
  refine V.region ?_
  refine VO.cons rfl (V1.move rfl rfl rfl lt0 ?_)
  refine VO.nil ?_
  refine V.keep 20 [12] [] (E0 := [(12, .bool y1)]) (H0 := []) rfl (⟨_, _, rfl, rfl, rfl⟩) (rfl) rfl ?_
  refine V.cond rfl (fun hc1 => ?_) (fun hc1 => ?_)
  ·
   replace hm0 := cond_t hc1 hm0
   refine V.seq ?_
   refine V.region ?_
   refine VO.cons rfl (V1.assign rfl rfl rfl lt0 ?_)
   refine VO.nil ?_
   refine V.ret ?_
   obtain rfl := Option.some.inj hm0
   exact ⟨_, [], ⟨_, _, rfl, rfl, rfl⟩, List.nil_sublist _, rfl, rfl⟩
  ·
   replace hm0 := cond_f hc1 hm0
   refine V.skip ?_
   refine V.seq ?_
   refine V.region ?_
   refine VO.cons rfl (V1.assign rfl rfl rfl lt0 ?_)
   refine VO.nil ?_
   refine V.ret ?_
   obtain rfl := Option.some.inj hm0
   exact ⟨_, [], ⟨_, _, rfl, rfl, rfl⟩, List.nil_sublist _, rfl, rfl⟩
 ·
  replace hm0 := cond_f hc0 hm0
  refine V.skip ?_
  refine V.seq ?_
  refine V.seq ?_
  refine V.region ?_
  refine VO.cons rfl (V1.move rfl rfl rfl lt0 ?_)
  refine VO.nil ?_
  refine V.cond rfl (fun hc2 => ?_) (fun hc2 => ?_)
  ·
   replace hm0 := cond_t hc2 hm0
   refine V.seq ?_
   refine V.region ?_
   refine VO.cons rfl (V1.assign rfl rfl rfl lt0 ?_)
   refine VO.nil ?_
   refine V.ret ?_
   obtain rfl := Option.some.inj hm0
   exact ⟨_, [], ⟨_, _, rfl, rfl, rfl⟩, List.nil_sublist _, rfl, rfl⟩
  ·
   replace hm0 := cond_f hc2 hm0
   refine V.skip ?_
   refine V.keep 20 [0, 1] [] (E0 := [(0, .int .i64 x), (1, .int .i64 y)]) (H0 := []) rfl (⟨_, _, rfl, rfl, _, _, rfl, rfl, rfl⟩) (rfl) rfl ?_
   refine V.seq ?_
   refine V.seq ?_
   refine V.region ?_
   refine VO.cons rfl (V1.move rfl rfl rfl lt0 ?_)
   refine VO.cons rfl (V1.move rfl rfl rfl lt0 ?_)
   refine VO.cons rfl (V1.int rfl rfl rfl rfl rfl lt0 ?_)
   refine VO.nil ?_
   refine V.cond rfl (fun hc3 => ?_) (fun hc3 => ?_)
   ·
    replace hm0 := cond_t hc3 hm0
    refine V.seq ?_
    refine V.region ?_
    refine VO.cons rfl (V1.assign rfl rfl rfl lt0 ?_)
    refine VO.nil ?_
    refine V.ret ?_
    obtain rfl := Option.some.inj hm0
    exact ⟨_, [], ⟨_, _, rfl, rfl, rfl⟩, List.nil_sublist _, rfl, rfl⟩
   ·
    replace hm0 := cond_f hc3 hm0
    refine V.skip ?_
    refine V.seq ?_
    refine V.seq ?_
    refine V.region ?_
    refine VO.cons rfl (V1.move rfl rfl rfl lt0 ?_)
    refine VO.cons rfl (V1.move rfl rfl rfl lt0 ?_)
    refine VO.cons rfl (V1.int rfl rfl rfl rfl rfl lt0 ?_)
    refine VO.nil ?_
    refine V.keep 20 [19] [] (E0 := [(19, .bool (decide (x > y)))]) (H0 := []) rfl (⟨_, _, rfl, rfl, rfl⟩) (rfl) rfl ?_
    refine V.cond rfl (fun hc4 => ?_) (fun hc4 => ?_)
    ·
     replace hm0 := cond_t hc4 hm0
     refine V.seq ?_
     refine V.region ?_
     refine VO.cons rfl (V1.assign rfl rfl rfl lt0 ?_)
     refine VO.nil ?_
     refine V.ret ?_
     obtain rfl := Option.some.inj hm0
     exact ⟨_, [], ⟨_, _, rfl, rfl, rfl⟩, List.nil_sublist _, rfl, rfl⟩
    ·
     replace hm0 := cond_f hc4 hm0
     refine V.skip ?_
     refine V.seq ?_
     refine V.region ?_
     refine VO.cons rfl (V1.assign rfl rfl rfl lt0 ?_)
     refine VO.nil ?_
     refine V.ret ?_
     obtain rfl := Option.some.inj hm0
     exact ⟨_, [], ⟨_, _, rfl, rfl, rfl⟩, List.nil_sublist _, rfl, rfl⟩

theorem ok_impl_HideWord_1 {rn : Nat} {a : Span} {b_ : Span} {r : Int} (h : M.impl_HideWord_1 a b_ = some r) : Does Tryd.prog 100 [encSpan a, encSpan b_] [] rn (fun x H => x = .int .i64 r ∧ H = []) := by
 have hm0 := h; clear h; unfold M.impl_HideWord_1 at hm0
 try dsimp only at hm0
 refine Does.intro (N := 10) Tryd.func100 rfl rfl rfl rfl ?_
 intro w0 S0 L0
 refine V.seq ?_
 refine V.region ?_
 refine VO.cons rfl (V1.boxN (n := 3) rfl rfl rfl rfl rfl lt0 ?_)
 intro b0
 refine VO.cons rfl (V1.boxN (n := 3) rfl rfl rfl rfl rfl lt0 ?_)
 intro b1
 refine VO.cons rfl (V1.assign rfl rfl rfl lt0 ?_)
 refine VO.nil ?_
 refine V.seq ?_
 replace hm0 := bindO hm0; rcases hm0 with ⟨y0, hh0, hm0⟩
 refine V.region ?_
 refine VO.cons rfl (V1.fieldRef rfl rfl fo_66_0 rfl lt0 ?_)
 refine VO.cons rfl (V1.loadRef (k := 1) rfl rfl tyk_3 rfl rfl rfl rfl rfl lt0 ?_)
 refine VO.cons rfl (V1.fieldRef rfl rfl fo_66_0 rfl lt0 ?_)
 refine VO.cons rfl (V1.loadRef (k := 0) rfl rfl tyk_3 rfl rfl rfl rfl rfl lt0 ?_)
 refine VO.cons rfl (V1.call rfl rfl rfl cok_79 rfl (ok_cmp_Compare_int hh0) rfl lt0 ?_)
 rintro _ _ ⟨rfl, rfl⟩
 refine VO.cons rfl (V1.assign rfl rfl rfl lt0 ?_)
 refine VO.nil ?_
 refine V.ret ?_
 obtain rfl := Option.some.inj hm0
 exact ⟨_, [], ⟨_, _, rfl, rfl, rfl⟩, List.nil_sublist _, rfl, rfl⟩

theorem ok_impl_HideWord {ρ1 rn : Nat} {text : List UInt8} {spans : List Span} {word : List UInt8} {reason : Int} {r : List Span × Bool} (h : M.impl_HideWord text spans word reason = some r) : Does Tryd.prog 37 [.str text, .vl ρ1 3 (List.map encSpan spans), .str word, .int .i64 reason] [] rn (fun x H => ∃ (ob0_ : Option Nat), (ob0_ = none → r.1 = []) ∧ x = .tup [optS 3 ob0_ (List.length r.1), .bool r.2] ∧ H = optH 3 ob0_ (List.map encSpan r.1)) := by
 have hm0 := h; clear h; unfold M.impl_HideWord at hm0
 try dsimp only at hm0
 refine Does.intro (N := 63) Tryd.func37 rfl rfl rfl rfl ?_
 intro w0 S0 L0
 refine V.seq ?_
 refine V.region ?_
 refine VO.cons rfl (V1.assign rfl rfl rfl lt0 ?_)
 refine VO.cons rfl (V1.assign rfl rfl rfl lt0 ?_)
 refine VO.nil ?_
 refine V.seq ?_
 refine V.seq ?_
 replace hm0 := bindO hm0; rcases hm0 with ⟨y0, hh0, hm0⟩
 replace hm0 := bindO hm0; rcases hm0 with ⟨y1, hh1, hm0⟩
 replace hm0 := bindO hm0; rcases hm0 with ⟨y2, hh2, hm0⟩
 refine V.region ?_
 refine VO.cons rfl (V1.move rfl rfl rfl lt0 ?_)
 refine VO.cons rfl (V1.move rfl rfl rfl lt0 ?_)
 refine VO.cons rfl (V1.call rfl rfl rfl cok_93 rfl (ok_impl_AreSpans hh0) rfl lt0 ?_)
 rintro _ _ ⟨rfl, rfl⟩
 refine VO.cons rfl (V1.not rfl rfl rfl lt0 ?_)
 refine VO.cons rfl (V1.move rfl rfl rfl lt0 ?_)
 apply VO.or (n := 3) rfl rfl rfl rfl rfl rfl lt0 (.none rfl)
 ·
  intro hg0
  refine VO.step (.some rfl rfl rfl) (V1.move rfl rfl rfl lt0 ?_)
  refine VO.step (.some rfl rfl rfl) (V1.call rfl rfl rfl cok_94 rfl (ok_impl_isWord (cond_f hg0 hh1)) rfl lt0 ?_)
  rintro _ _ ⟨rfl, rfl⟩
  refine VO.step (.some rfl rfl rfl) (V1.not rfl rfl rfl lt0 ?_)
  exact VO.nil ⟨rfl, rfl, rfl, rfl, .inr ⟨rfl, .inr ⟨rfl, .inr ⟨rfl, .inr ⟨rfl, .inl rfl⟩⟩⟩⟩⟩
 refine VO.cons rfl (V1.move rfl rfl rfl lt0 ?_)
 apply VO.or (n := 3) rfl rfl rfl rfl rfl rfl lt0 (.none rfl)
 ·
  intro hg1
  refine VO.step (.some rfl rfl rfl) (V1.move rfl rfl rfl lt0 ?_)
  refine VO.step (.some rfl rfl rfl) (V1.call rfl rfl rfl cok_95 rfl (ok_impl_isReason (cond_f hg1 hh2)) rfl lt0 ?_)
  rintro _ _ ⟨rfl, rfl⟩
  refine VO.step (.some rfl rfl rfl) (V1.not rfl rfl rfl lt0 ?_)
  exact VO.nil ⟨rfl, rfl, rfl, rfl, .inr ⟨rfl, .inr ⟨rfl, .inr ⟨rfl, .inr ⟨rfl, .inl rfl⟩⟩⟩⟩⟩
 refine VO.nil ?_
 refine V.keep 63 [0, 1, 2, 3, 26] [] (E0 := [(0, .str text), (1, .vl ρ1 3 (List.map encSpan spans)), (2, .str word), (3, .int .i64 reason), (26, .bool (((!y0) || (!y1)) || (!y2)))]) (H0 := []) rfl (⟨_, _, rfl, rfl, _, _, rfl, rfl, _, _, rfl, rfl, _, _, rfl, rfl, _, _, rfl, rfl, rfl⟩) (rfl) rfl ?_
 refine V.cond rfl (fun hc0 => ?_) (fun hc0 => ?_)
 ·
  replace hm0 := cond_t hc0 hm0
  refine V.seq ?_
  refine V.region ?_
  refine VO.cons rfl (V1.assign rfl rfl rfl lt0 ?_)
  refine VO.cons rfl (V1.assign rfl rfl rfl lt0 ?_)
  refine VO.nil ?_
  refine V.keep 63 [8, 9] [] (E0 := [(8, .nils), (9, .bool false)]) (H0 := []) rfl (⟨_, _, rfl, rfl, _, _, rfl, rfl, rfl⟩) (rfl) rfl ?_
  refine V.ret ?_
  obtain rfl := Option.some.inj hm0
  exact ⟨_, _, ⟨_, _, rfl, rfl, _, _, rfl, rfl, rfl⟩, List.Sublist.refl _, none, (fun _ => rfl), rfl, rfl⟩
 ·
  replace hm0 := cond_f hc0 hm0
  refine V.skip ?_
  refine V.seq ?_
  replace hm0 := bindO hm0; rcases hm0 with ⟨y3, hh3, hm0⟩
  refine V.region ?_
  refine VO.cons rfl (V1.move rfl rfl rfl lt0 ?_)
  refine VO.cons rfl (V1.permK (V1.call rfl rfl rfl cok_96 rfl (ok_slices_Clone_impl_Span_impl_Span hh3) rfl lt0 ?_))
  rintro _ _ ⟨ob0, hob0, rfl, rfl⟩
  refine ⟨_, ?_, Keeps.optBack (n := 3) (ob := ob0) (xs := List.map encSpan y3) (H1 := []) (H2 := []) rfl⟩
  refine VO.cons rfl (V1.assign rfl rfl rfl lt0 ?_)
  refine VO.nil ?_
  rcases ob0 with _ | ob0
  ·
   refine V.seq ?_
   refine V.seq ?_
   replace hm0 := bindO hm0; rcases hm0 with ⟨y4, hh4, hm0⟩
   refine V.region ?_
   refine VO.cons rfl (V1.move rfl rfl rfl lt0 ?_)
   refine VO.cons rfl (V1.move rfl rfl rfl lt0 ?_)
   refine VO.cons rfl (V1.permK (V1.call rfl rfl rfl cok_97 rfl (ok_impl_placesOf hh4) rfl lt0 ?_))
   rintro _ _ ⟨ob1, hob1, rfl, rfl⟩
   refine ⟨_, ?_, Keeps.optBack (n := 1) (ob := ob1) (xs := List.map encInt y4) (H1 := []) (H2 := []) rfl⟩
   refine VO.weakenK (Keeps.optFront (n := 1) (ob := ob1) (xs := (List.map encInt y4)) (H1 := []) rfl) ?_
   refine VO.weakenK (Keeps.optVl 31 [] rn (f := encInt) (l := y4) (ob := ob1) (H1 := []) hob1 rfl rfl ⟨rfl, trivial⟩ (fun _ => rfl) rfl iNil) ?_
   refine VO.cons rfl (V1.lenMap rfl rfl rfl rfl rfl rfl isl_27 lt0 ?_)
   refine VO.cons rfl (V1.move rfl rfl rfl lt0 ?_)
   refine VO.nil ?_
   refine V.keep 63 [0, 1, 2, 3, 10, 31, 32, 33] [] (E0 := [(0, .str text), (1, .vl ρ1 3 (List.map encSpan spans)), (2, .str word), (3, .int .i64 reason), (10, .nils), (31, .vl rn 1 (List.map encInt y4)), (32, .int .i64 (y4.length : Int)), (33, .int .i64 (0 : Int))]) (H0 := []) rfl (⟨_, _, rfl, rfl, _, _, rfl, rfl, _, _, rfl, rfl, _, _, rfl, rfl, _, _, rfl, rfl, _, _, rfl, rfl, _, _, rfl, rfl, _, _, rfl, rfl, rfl⟩) (rfl) rfl ?_
   replace hm0 := bindO hm0; rcases hm0 with ⟨e0, he1, hm0⟩
   refine V.cutT (D := (List Span) × (Option Nat)) (fun ⟨out_, ob2⟩ => ⟨63, [(10, optS 3 ob2 (List.length out_)), (0, .str text)], optH 3 ob2 (List.map encSpan out_)⟩) (fun ⟨out_, ob2⟩ => (out_ = e0) ∧ (ob2 = none → out_ = [])) ?_ ?_
   ·
    refine V.block ?_
    refine V.keep 63 [10, 33, 0, 1, 2, 3, 31, 32] [] (E0 := [(10, .nils), (33, .int .i64 (0 : Int)), (0, .str text), (1, .vl ρ1 3 (List.map encSpan spans)), (2, .str word), (3, .int .i64 reason), (31, .vl rn 1 (List.map encInt y4)), (32, .int .i64 (y4.length : Int))]) (H0 := []) rfl (⟨_, _, rfl, rfl, _, _, rfl, rfl, _, _, rfl, rfl, _, _, rfl, rfl, _, _, rfl, rfl, _, _, rfl, rfl, _, _, rfl, rfl, _, _, rfl, rfl, rfl⟩) (rfl) rfl ?_
    refine V.loopE (D := Nat × (List Span × Int) × (Option Nat)) (fun ⟨n0, ⟨out_0, v⟩, ob3⟩ => [(10, optS 3 ob3 (List.length out_0)), (33, .int .i64 v)]) (fun ⟨n0, ⟨out_0, v⟩, ob3⟩ => optH 3 ob3 (List.map encSpan out_0)) (fun ⟨n0, ⟨out_0, v⟩, ob3⟩ => loopO (M.impl_HideWord_l0 spans word reason y4) n0 (out_0, v) = some e0 ∧ (ob3 = none → out_0 = [])) (fun ⟨n0, _, _⟩ => n0) (rounds, (y3, (0 : Int)), none) rfl ⟨he1, (fun _ => (hob0 rfl))⟩ ?_
    rintro ⟨n0, ⟨out_0, v⟩, ob3⟩ ⟨hP0, hob3⟩
    obtain ⟨m0, y5, rfl, hm1, hl1, hr1⟩ := loop_head hP0
    unfold M.impl_HideWord_l0 at hm1; dsimp only at hm1
    rcases ob3 with _ | ob3
    ·
     replace hob3 := hob3 rfl
     show V _ _ _ ⟨63, [(10, .nils), (33, .int .i64 v), (0, .str text), (1, .vl ρ1 3 (List.map encSpan spans)), (2, .str word), (3, .int .i64 reason), (31, .vl rn 1 (List.map encInt y4)), (32, .int .i64 (y4.length : Int))], []⟩
     refine V.seq ?_
     refine V.region ?_
     refine VO.cons rfl (V1.int rfl rfl rfl rfl rfl lt0 ?_)
     refine VO.nil ?_
     refine V.seq ?_
     refine V.cond rfl (fun hc1 => ?_) (fun hc1 => ?_)
     ·
      replace hm1 := cond_t hc1 hm1
      refine V.skip ?_
      refine V.seq ?_
      replace hm1 := bindO hm1; rcases hm1 with ⟨j0, hm2, hm1⟩
      refine V.cutT (D := (List Span) × (Option Nat)) (fun ⟨out_1, ob4⟩ => ⟨63, [(10, optS 3 ob4 (List.length out_1)), (0, .str text), (1, .vl ρ1 3 (List.map encSpan spans)), (2, .str word), (3, .int .i64 reason), (31, .vl rn 1 (List.map encInt y4)), (32, .int .i64 (y4.length : Int)), (33, .int .i64 v)], optH 3 ob4 (List.map encSpan out_1)⟩) (fun ⟨out_1, ob4⟩ => (out_1 = j0) ∧ (ob4 = none → out_1 = [])) ?_ ?_
      ·
       refine V.block ?_
       refine V.seq ?_
       replace hm2 := asrt_some hm2; rcases hm2 with ⟨hh5, hm2⟩
       refine V.region ?_
       refine VO.cons rfl (V1.indexI rfl rfl esz_27 rfl rfl hh5 lt0 ?_)
       refine VO.cons rfl (V1.loadPin rfl rfl tyk_3 rfl rfl lt0 ?_)
       refine VO.cons rfl (V1.assign rfl rfl rfl lt0 ?_)
       refine VO.nil ?_
       refine V.seq ?_
       replace hm2 := bindO hm2; rcases hm2 with ⟨y6, hh6, hm2⟩
       refine V.region ?_
       refine VO.cons rfl (V1.move rfl rfl rfl lt0 ?_)
       refine VO.cons rfl (V1.move rfl rfl rfl lt0 ?_)
       refine VO.cons rfl (V1.move rfl rfl rfl lt0 ?_)
       refine VO.cons rfl (V1.move rfl rfl rfl lt0 ?_)
       refine VO.cons rfl (V1.lenStr rfl rfl rfl rfl rfl rfl istr_9 lt0 ?_)
       refine VO.cons rfl (V1.int rfl rfl rfl rfl rfl lt0 ?_)
       refine VO.cons rfl (V1.call rfl rfl rfl cok_98 rfl (ok_impl_isTouched hh6) rfl lt0 ?_)
       rintro _ _ ⟨rfl, rfl⟩
       refine VO.cons rfl (V1.not rfl rfl rfl lt0 ?_)
       refine VO.nil ?_
       refine V.keep 63 [0, 1, 2, 3, 10, 12, 31, 32, 33, 44] [] (E0 := [(0, .str text), (1, .vl ρ1 3 (List.map encSpan spans)), (2, .str word), (3, .int .i64 reason), (10, .nils), (12, .int .i64 (y4.getD (Int.toNat v) default)), (31, .vl rn 1 (List.map encInt y4)), (32, .int .i64 (y4.length : Int)), (33, .int .i64 v), (44, .bool (!y6))]) (H0 := []) rfl (⟨_, _, rfl, rfl, _, _, rfl, rfl, _, _, rfl, rfl, _, _, rfl, rfl, _, _, rfl, rfl, _, _, rfl, rfl, _, _, rfl, rfl, _, _, rfl, rfl, _, _, rfl, rfl, _, _, rfl, rfl, rfl⟩) (rfl) rfl ?_
       refine V.cond rfl (fun hc2 => ?_) (fun hc2 => ?_)
       ·
        replace hm2 := cond_t hc2 hm2
        replace hm2 := asrt_some hm2; rcases hm2 with ⟨hh7, hm2⟩
        refine V.region ?_
        refine VO.cons rfl (V1.move rfl rfl rfl lt0 ?_)
        refine VO.cons rfl (V1.move rfl rfl rfl lt0 ?_)
        refine VO.cons rfl (V1.move rfl rfl rfl lt0 ?_)
        refine VO.cons rfl (V1.move rfl rfl rfl lt0 ?_)
        refine VO.cons rfl (V1.lenStr rfl rfl rfl rfl rfl rfl istr_9 lt0 ?_)
        refine VO.cons rfl (V1.int rfl rfl rfl rfl rfl lt0 ?_)
        refine VO.cons rfl (V1.move rfl rfl rfl lt0 ?_)
        refine VO.cons rfl (V1.build rfl rfl zk_66 pl_66 rfl rfl lt0 ?_)
        refine VO.cons rfl (V1.buildSliceT (f := encSpan) ([(⟨(y4.getD (Int.toNat v) default), (IntKind.i64.wrap ((y4.getD (Int.toNat v) default) + (word.length : Int))), reason⟩ : Span)] : List Span) rfl rfl esz_58 zk_66 rfl rfl rfl rfl rfl rfl rfl lt0 ?_)
        intro b0
        refine VO.cons rfl (V1.appendNilE (f := encSpan) (l := out_0) (m := ([(⟨(y4.getD (Int.toNat v) default), (IntKind.i64.wrap ((y4.getD (Int.toNat v) default) + (word.length : Int))), reason⟩ : Span)] : List Span)) hob3 rfl rfl rfl rfl rfl esz_58 eby_58 zk_66 rfl rfl rfl (SrcOf.srMap (k := 0) rfl isl_58) rfl hh7 lt0 ?_)
        intro b1
        refine VO.cons rfl (V1.assign rfl rfl rfl lt0 ?_)
        refine VO.nil ?_
        exact ⟨((out_0 ++ ([(⟨(y4.getD (Int.toNat v) default), (IntKind.i64.wrap ((y4.getD (Int.toNat v) default) + (word.length : Int))), reason⟩ : Span)] : List Span)), (some b1)), ⟨Option.some.inj hm2, (fun e => by cases e)⟩, Keeps.mk (ks := [0]) rfl ⟨rfl, rfl, rfl, rfl, rfl, rfl, rfl, rfl, trivial⟩ (⟨_, _, rfl, rfl, rfl⟩) rfl⟩
       ·
        replace hm2 := cond_f hc2 hm2
        refine V.skip ?_
        exact ⟨(out_0, none), ⟨Option.some.inj hm2, (fun _ => hob3)⟩, Keeps.mk (ks := []) rfl ⟨rfl, rfl, rfl, rfl, rfl, rfl, rfl, rfl, trivial⟩ (rfl) rfl⟩
      ·
       rintro ⟨out_1, ob4⟩ ⟨rfl, hob4⟩
       try dsimp only at hm1
       rcases ob4 with _ | ob4
       ·
        replace hob4 := hob4 rfl
        refine V.region ?_
        refine VO.cons rfl (V1.int rfl rfl rfl rfl rfl lt0 ?_)
        refine VO.cons rfl (V1.move rfl rfl rfl lt0 ?_)
        refine VO.nil ?_
        exact ⟨(m0, (out_1, (IntKind.i64.wrap (v + (1 : Int)))), none), ⟨hl1 _ (Option.some.inj hm1).symm, (fun _ => hob4)⟩, Nat.lt_succ_self _, Keeps.mk (ks := []) rfl ⟨rfl, rfl, rfl, rfl, rfl, rfl, rfl, rfl, trivial⟩ (rfl) rfl⟩
       ·
        refine V.region ?_
        refine VO.cons rfl (V1.int rfl rfl rfl rfl rfl lt0 ?_)
        refine VO.cons rfl (V1.move rfl rfl rfl lt0 ?_)
        refine VO.nil ?_
        exact ⟨(m0, (out_1, (IntKind.i64.wrap (v + (1 : Int)))), (some ob4)), ⟨hl1 _ (Option.some.inj hm1).symm, (fun e => by cases e)⟩, Nat.lt_succ_self _, Keeps.mk (ks := [0]) rfl ⟨rfl, rfl, rfl, rfl, rfl, rfl, rfl, rfl, trivial⟩ (⟨_, _, rfl, rfl, rfl⟩) rfl⟩
     ·
      replace hm1 := cond_f hc1 hm1
      refine V.exit ?_
      obtain rfl := hr1 _ (Option.some.inj hm1).symm
      exact ⟨(out_0, none), ⟨rfl, (fun _ => hob3)⟩, Keeps.mk (ks := []) rfl ⟨rfl, rfl, trivial⟩ (rfl) rfl⟩
    ·
     show V _ _ _ ⟨63, [(10, .sref ob3 3 0 (List.length out_0)), (33, .int .i64 v), (0, .str text), (1, .vl ρ1 3 (List.map encSpan spans)), (2, .str word), (3, .int .i64 reason), (31, .vl rn 1 (List.map encInt y4)), (32, .int .i64 (y4.length : Int))], [(ob3, ⟨3, List.map encSpan out_0⟩)]⟩
     refine V.seq ?_
     refine V.region ?_
     refine VO.cons rfl (V1.int rfl rfl rfl rfl rfl lt0 ?_)
     refine VO.nil ?_
     refine V.seq ?_
     refine V.cond rfl (fun hc1 => ?_) (fun hc1 => ?_)
     ·
      replace hm1 := cond_t hc1 hm1
      refine V.skip ?_
      refine V.seq ?_
      replace hm1 := bindO hm1; rcases hm1 with ⟨j0, hm2, hm1⟩
      refine V.cutT (D := (List Span) × (Nat)) (fun ⟨out_1, b0⟩ => ⟨63, [(10, .sref b0 3 0 (List.length out_1)), (0, .str text), (1, .vl ρ1 3 (List.map encSpan spans)), (2, .str word), (3, .int .i64 reason), (31, .vl rn 1 (List.map encInt y4)), (32, .int .i64 (y4.length : Int)), (33, .int .i64 v)], [(b0, ⟨3, List.map encSpan out_1⟩)]⟩) (fun ⟨out_1, b0⟩ => (out_1 = j0)) ?_ ?_
      ·
       refine V.block ?_
       refine V.seq ?_
       replace hm2 := asrt_some hm2; rcases hm2 with ⟨hh5, hm2⟩
       refine V.region ?_
       refine VO.cons rfl (V1.indexI rfl rfl esz_27 rfl rfl hh5 lt0 ?_)
       refine VO.cons rfl (V1.loadPin rfl rfl tyk_3 rfl rfl lt0 ?_)
       refine VO.cons rfl (V1.assign rfl rfl rfl lt0 ?_)
       refine VO.nil ?_
       refine V.seq ?_
       replace hm2 := bindO hm2; rcases hm2 with ⟨y6, hh6, hm2⟩
       refine V.region ?_
       refine VO.cons rfl (V1.move rfl rfl rfl lt0 ?_)
       refine VO.cons rfl (V1.move rfl rfl rfl lt0 ?_)
       refine VO.cons rfl (V1.move rfl rfl rfl lt0 ?_)
       refine VO.cons rfl (V1.move rfl rfl rfl lt0 ?_)
       refine VO.cons rfl (V1.lenStr rfl rfl rfl rfl rfl rfl istr_9 lt0 ?_)
       refine VO.cons rfl (V1.int rfl rfl rfl rfl rfl lt0 ?_)
       refine VO.cons rfl (V1.call rfl rfl rfl cok_98 rfl (ok_impl_isTouched hh6) rfl lt0 ?_)
       rintro _ _ ⟨rfl, rfl⟩
       refine VO.cons rfl (V1.not rfl rfl rfl lt0 ?_)
       refine VO.nil ?_
       refine V.keep 63 [0, 1, 2, 3, 10, 12, 31, 32, 33, 44] [0] (E0 := [(0, .str text), (1, .vl ρ1 3 (List.map encSpan spans)), (2, .str word), (3, .int .i64 reason), (10, .sref ob3 3 0 (List.length out_0)), (12, .int .i64 (y4.getD (Int.toNat v) default)), (31, .vl rn 1 (List.map encInt y4)), (32, .int .i64 (y4.length : Int)), (33, .int .i64 v), (44, .bool (!y6))]) (H0 := [(ob3, ⟨3, List.map encSpan out_0⟩)]) rfl (⟨_, _, rfl, rfl, _, _, rfl, rfl, _, _, rfl, rfl, _, _, rfl, rfl, _, _, rfl, rfl, _, _, rfl, rfl, _, _, rfl, rfl, _, _, rfl, rfl, _, _, rfl, rfl, _, _, rfl, rfl, rfl⟩) (⟨_, _, rfl, rfl, rfl⟩) rfl ?_
       refine V.cond rfl (fun hc2 => ?_) (fun hc2 => ?_)
       ·
        replace hm2 := cond_t hc2 hm2
        replace hm2 := asrt_some hm2; rcases hm2 with ⟨hh7, hm2⟩
        refine V.region ?_
        refine VO.cons rfl (V1.move rfl rfl rfl lt0 ?_)
        refine VO.cons rfl (V1.move rfl rfl rfl lt0 ?_)
        refine VO.cons rfl (V1.move rfl rfl rfl lt0 ?_)
        refine VO.cons rfl (V1.move rfl rfl rfl lt0 ?_)
        refine VO.cons rfl (V1.lenStr rfl rfl rfl rfl rfl rfl istr_9 lt0 ?_)
        refine VO.cons rfl (V1.int rfl rfl rfl rfl rfl lt0 ?_)
        refine VO.cons rfl (V1.move rfl rfl rfl lt0 ?_)
        refine VO.cons rfl (V1.build rfl rfl zk_66 pl_66 rfl rfl lt0 ?_)
        refine VO.cons rfl (V1.buildSliceT (f := encSpan) ([(⟨(y4.getD (Int.toNat v) default), (IntKind.i64.wrap ((y4.getD (Int.toNat v) default) + (word.length : Int))), reason⟩ : Span)] : List Span) rfl rfl esz_58 zk_66 rfl rfl rfl rfl rfl rfl rfl lt0 ?_)
        intro b1
        refine VO.cons rfl (V1.appendMap (k := 1) (f := encSpan) (l := out_0) (m := ([(⟨(y4.getD (Int.toNat v) default), (IntKind.i64.wrap ((y4.getD (Int.toNat v) default) + (word.length : Int))), reason⟩ : Span)] : List Span)) rfl rfl rfl rfl rfl esz_58 eby_58 zk_66 rfl rfl rfl (SrcOf.srMap (k := 0) rfl isl_58) hh7 lt0 ?_)
        intro b2
        refine VO.cons rfl (V1.assign rfl rfl rfl lt0 ?_)
        refine VO.nil ?_
        exact ⟨((out_0 ++ ([(⟨(y4.getD (Int.toNat v) default), (IntKind.i64.wrap ((y4.getD (Int.toNat v) default) + (word.length : Int))), reason⟩ : Span)] : List Span)), b2), Option.some.inj hm2, Keeps.mk (ks := [0]) rfl ⟨rfl, rfl, rfl, rfl, rfl, rfl, rfl, rfl, trivial⟩ (⟨_, _, rfl, rfl, rfl⟩) rfl⟩
       ·
        replace hm2 := cond_f hc2 hm2
        refine V.skip ?_
        exact ⟨(out_0, ob3), Option.some.inj hm2, Keeps.mk (ks := [0]) rfl ⟨rfl, rfl, rfl, rfl, rfl, rfl, rfl, rfl, trivial⟩ (⟨_, _, rfl, rfl, rfl⟩) rfl⟩
      ·
       rintro ⟨out_1, b0⟩ rfl
       try dsimp only at hm1
       refine V.region ?_
       refine VO.cons rfl (V1.int rfl rfl rfl rfl rfl lt0 ?_)
       refine VO.cons rfl (V1.move rfl rfl rfl lt0 ?_)
       refine VO.nil ?_
       exact ⟨(m0, (out_1, (IntKind.i64.wrap (v + (1 : Int)))), (some b0)), ⟨hl1 _ (Option.some.inj hm1).symm, (fun e => by cases e)⟩, Nat.lt_succ_self _, Keeps.mk (ks := [0]) rfl ⟨rfl, rfl, rfl, rfl, rfl, rfl, rfl, rfl, trivial⟩ (⟨_, _, rfl, rfl, rfl⟩) rfl⟩
     ·
      replace hm1 := cond_f hc1 hm1
      refine V.exit ?_
      obtain rfl := hr1 _ (Option.some.inj hm1).symm
      exact ⟨(out_0, (some ob3)), ⟨rfl, (fun e => by cases e)⟩, Keeps.mk (ks := [0]) rfl ⟨rfl, rfl, trivial⟩ (⟨_, _, rfl, rfl, rfl⟩) rfl⟩
   ·
    rintro ⟨out_, ob2⟩ ⟨rfl, hob2⟩
    try dsimp only at hm0
    rcases ob2 with _ | ob2
    ·
     replace hob2 := hob2 rfl
     refine V.seq ?_
     replace hm0 := bindO hm0; rcases hm0 with ⟨y7, hh8, hm0⟩
     replace hm0 := asrt_some hm0; rcases hm0 with ⟨hh9, hm0⟩
     refine V.region ?_
     refine VO.cons rfl (V1.move rfl rfl rfl lt0 ?_)
     refine VO.cons rfl (V1.call rfl rfl rfl cok_99 rfl (ok_slices_SortFunc_impl_Span_impl_Span hh8 (oq := none) (x := out_) (fun _ => hob2) (fm := (fun x0 x1 => M.impl_HideWord_1 x0 x1)) cok_100 (fun _ _ _ h => ok_impl_HideWord_1 h)) rfl lt0 ?_)
     rintro _ _ ⟨rfl, rfl⟩
     refine VO.nil ?_
     refine V.seq ?_
     refine V.seq ?_
     replace hm0 := bindO hm0; rcases hm0 with ⟨y8, hh10, hm0⟩
     refine V.region ?_
     refine VO.cons rfl (V1.move rfl rfl rfl lt0 ?_)
     refine VO.cons rfl (V1.move rfl rfl rfl lt0 ?_)
     refine VO.weakenK (Keeps.nilsE (l := y7) 59 rn 3 encSpan (List.length_eq_zero_iff.1 (hh9.trans (congrArg List.length hob2))) rfl rfl) ?_
     refine VO.cons rfl (V1.call rfl rfl rfl cok_93 rfl (ok_impl_AreSpans hh10) rfl lt0 ?_)
     rintro _ _ ⟨rfl, rfl⟩
     refine VO.cons rfl (V1.not rfl rfl rfl lt0 ?_)
     refine VO.nil ?_
     refine V.keep 63 [10, 61] [] (E0 := [(10, .nils), (61, .bool (!y8))]) (H0 := []) rfl (⟨_, _, rfl, rfl, _, _, rfl, rfl, rfl⟩) (rfl) rfl ?_
     refine V.cond rfl (fun hc3 => ?_) (fun hc3 => ?_)
     ·
      replace hm0 := cond_t hc3 hm0
      refine V.seq ?_
      refine V.region ?_
      refine VO.cons rfl (V1.assign rfl rfl rfl lt0 ?_)
      refine VO.cons rfl (V1.assign rfl rfl rfl lt0 ?_)
      refine VO.nil ?_
      refine V.keep 63 [8, 9] [] (E0 := [(8, .nils), (9, .bool false)]) (H0 := []) rfl (⟨_, _, rfl, rfl, _, _, rfl, rfl, rfl⟩) (rfl) rfl ?_
      refine V.ret ?_
      obtain rfl := Option.some.inj hm0
      exact ⟨_, _, ⟨_, _, rfl, rfl, _, _, rfl, rfl, rfl⟩, List.Sublist.refl _, none, (fun _ => rfl), rfl, rfl⟩
     ·
      replace hm0 := cond_f hc3 hm0
      refine V.skip ?_
      refine V.seq ?_
      refine V.region ?_
      refine VO.cons rfl (V1.move rfl rfl rfl lt0 ?_)
      refine VO.cons rfl (V1.assign rfl rfl rfl lt0 ?_)
      refine VO.cons rfl (V1.assign rfl rfl rfl lt0 ?_)
      refine VO.nil ?_
      refine V.keep 63 [8, 9] [] (E0 := [(8, .nils), (9, .bool true)]) (H0 := []) rfl (⟨_, _, rfl, rfl, _, _, rfl, rfl, rfl⟩) (rfl) rfl ?_
      refine V.ret ?_
      obtain rfl := Option.some.inj hm0
      exact ⟨_, _, ⟨_, _, rfl, rfl, _, _, rfl, rfl, rfl⟩, List.Sublist.refl _, none, (fun _ => (List.length_eq_zero_iff.1 (hh9.trans (congrArg List.length hob2)))), rfl, rfl⟩
    ·
     refine V.seq ?_
     replace hm0 := bindO hm0; rcases hm0 with ⟨y7, hh8, hm0⟩
     replace hm0 := asrt_some hm0; rcases hm0 with ⟨hh9, hm0⟩
     refine V.region ?_
     refine VO.cons rfl (V1.move rfl rfl rfl lt0 ?_)
     refine VO.cons rfl (V1.callM 0 (rn + 1) [] [.sref ob2 3 0 (List.length out_), .fn 100 []] (p := (ob2, ⟨3, List.map encSpan out_⟩)) rfl rfl rfl cok_99 rfl rfl ⟨_, _, rfl, .same _, ⟨_, _, rfl, Lend.fn rfl, rfl⟩⟩ bwNil (ok_slices_SortFunc_impl_Span_impl_Span hh8 (oq := some ob2) (fun e => by cases e) (fm := (fun x0 x1 => M.impl_HideWord_1 x0 x1)) cok_100 (fun _ _ _ h => ok_impl_HideWord_1 h)) rfl (.inl rfl) lt0 ?_)
     rintro _ _ ⟨rfl, rfl⟩
     refine VO.weakenK (Keeps.say 10 (y := .sref ob2 3 0 (List.length y7)) rfl (congrArg (PV.sref ob2 3 0) hh9.symm)) ?_
     refine VO.nil ?_
     refine V.seq ?_
     refine V.seq ?_
     replace hm0 := bindO hm0; rcases hm0 with ⟨y8, hh10, hm0⟩
     refine V.region ?_
     refine VO.cons rfl (V1.move rfl rfl rfl lt0 ?_)
     refine VO.cons rfl (V1.move rfl rfl rfl lt0 ?_)
     refine VO.cons rfl (V1.callL (rn + 1) [ob2] [.str text, .vl (rn + 1) 3 (List.map encSpan y7)] rfl rfl rfl cok_93 rfl ⟨_, _, rfl, .same _, ⟨_, _, rfl, Lend.srMap 0 rfl (fun _ => rfl) (.head _), rfl⟩⟩ (bwCons (k := 0) rfl bwNil) (ok_impl_AreSpans hh10) rfl (⟨(by first | omega | (dsimp only; omega)), by rintro _ _ ⟨rfl, rfl⟩; exact ⟨rfl, by simp⟩⟩) lt0 ?_)
     rintro _ _ ⟨rfl, rfl⟩
     refine VO.cons rfl (V1.not rfl rfl rfl lt0 ?_)
     refine VO.nil ?_
     refine V.keep 63 [10, 61] [0] (E0 := [(10, .sref ob2 3 0 (List.length y7)), (61, .bool (!y8))]) (H0 := [(ob2, ⟨3, List.map encSpan y7⟩)]) rfl (⟨_, _, rfl, rfl, _, _, rfl, rfl, rfl⟩) (⟨_, _, rfl, rfl, rfl⟩) rfl ?_
     refine V.cond rfl (fun hc3 => ?_) (fun hc3 => ?_)
     ·
      replace hm0 := cond_t hc3 hm0
      refine V.seq ?_
      refine V.region ?_
      refine VO.cons rfl (V1.assign rfl rfl rfl lt0 ?_)
      refine VO.cons rfl (V1.assign rfl rfl rfl lt0 ?_)
      refine VO.nil ?_
      refine V.keep 63 [8, 9] [] (E0 := [(8, .nils), (9, .bool false)]) (H0 := []) rfl (⟨_, _, rfl, rfl, _, _, rfl, rfl, rfl⟩) (rfl) rfl ?_
      refine V.ret ?_
      obtain rfl := Option.some.inj hm0
      exact ⟨_, _, ⟨_, _, rfl, rfl, _, _, rfl, rfl, rfl⟩, List.Sublist.refl _, none, (fun _ => rfl), rfl, rfl⟩
     ·
      replace hm0 := cond_f hc3 hm0
      refine V.skip ?_
      refine V.seq ?_
      refine V.region ?_
      refine VO.cons rfl (V1.move rfl rfl rfl lt0 ?_)
      refine VO.cons rfl (V1.assign rfl rfl rfl lt0 ?_)
      refine VO.cons rfl (V1.assign rfl rfl rfl lt0 ?_)
      refine VO.nil ?_
      refine V.keep 63 [8, 9] [0] (E0 := [(8, .sref ob2 3 0 (List.length y7)), (9, .bool true)]) (H0 := [(ob2, ⟨3, List.map encSpan y7⟩)]) rfl (⟨_, _, rfl, rfl, _, _, rfl, rfl, rfl⟩) (⟨_, _, rfl, rfl, rfl⟩) rfl ?_
      refine V.ret ?_
      obtain rfl := Option.some.inj hm0
      exact ⟨_, _, ⟨_, _, rfl, rfl, _, _, rfl, rfl, rfl⟩, List.Sublist.refl _, some ob2, (fun e => by cases e), rfl, rfl⟩
  ·
   refine V.seq ?_
   refine V.seq ?_
   replace hm0 := bindO hm0; rcases hm0 with ⟨y4, hh4, hm0⟩
   refine V.region ?_
   refine VO.cons rfl (V1.move rfl rfl rfl lt0 ?_)
   refine VO.cons rfl (V1.move rfl rfl rfl lt0 ?_)
   refine VO.cons rfl (V1.permK (V1.call rfl rfl rfl cok_97 rfl (ok_impl_placesOf hh4) rfl lt0 ?_))
   rintro _ _ ⟨ob1, hob1, rfl, rfl⟩
   refine ⟨_, ?_, Keeps.optBack (n := 1) (ob := ob1) (xs := List.map encInt y4) (H1 := []) (H2 := [(ob0, ⟨3, List.map encSpan y3⟩)]) rfl⟩
   refine VO.weakenK (Keeps.optFront (n := 1) (ob := ob1) (xs := (List.map encInt y4)) (H1 := [(ob0, ⟨3, List.map encSpan y3⟩)]) rfl) ?_
   refine VO.weakenK (Keeps.optVl 31 [] rn (f := encInt) (l := y4) (ob := ob1) (H1 := []) hob1 rfl rfl ⟨rfl, trivial⟩ (fun _ => rfl) rfl iNil) ?_
   refine VO.cons rfl (V1.lenMap rfl rfl rfl rfl rfl rfl isl_27 lt0 ?_)
   refine VO.cons rfl (V1.move rfl rfl rfl lt0 ?_)
   refine VO.nil ?_
   refine V.keep 63 [0, 1, 2, 3, 10, 31, 32, 33] [0] (E0 := [(0, .str text), (1, .vl ρ1 3 (List.map encSpan spans)), (2, .str word), (3, .int .i64 reason), (10, .sref ob0 3 0 (List.length y3)), (31, .vl rn 1 (List.map encInt y4)), (32, .int .i64 (y4.length : Int)), (33, .int .i64 (0 : Int))]) (H0 := [(ob0, ⟨3, List.map encSpan y3⟩)]) rfl (⟨_, _, rfl, rfl, _, _, rfl, rfl, _, _, rfl, rfl, _, _, rfl, rfl, _, _, rfl, rfl, _, _, rfl, rfl, _, _, rfl, rfl, _, _, rfl, rfl, rfl⟩) (⟨_, _, rfl, rfl, rfl⟩) rfl ?_
   replace hm0 := bindO hm0; rcases hm0 with ⟨e0, he1, hm0⟩
   refine V.cutT (D := (List Span) × (Nat)) (fun ⟨out_, b0⟩ => ⟨63, [(10, .sref b0 3 0 (List.length out_)), (0, .str text)], [(b0, ⟨3, List.map encSpan out_⟩)]⟩) (fun ⟨out_, b0⟩ => (out_ = e0)) ?_ ?_
   ·
    refine V.block ?_
    refine V.keep 63 [10, 33, 0, 1, 2, 3, 31, 32] [0] (E0 := [(10, .sref ob0 3 0 (List.length y3)), (33, .int .i64 (0 : Int)), (0, .str text), (1, .vl ρ1 3 (List.map encSpan spans)), (2, .str word), (3, .int .i64 reason), (31, .vl rn 1 (List.map encInt y4)), (32, .int .i64 (y4.length : Int))]) (H0 := [(ob0, ⟨3, List.map encSpan y3⟩)]) rfl (⟨_, _, rfl, rfl, _, _, rfl, rfl, _, _, rfl, rfl, _, _, rfl, rfl, _, _, rfl, rfl, _, _, rfl, rfl, _, _, rfl, rfl, _, _, rfl, rfl, rfl⟩) (⟨_, _, rfl, rfl, rfl⟩) rfl ?_
    refine V.loopE (D := Nat × (List Span × Int) × (Nat)) (fun ⟨n0, ⟨out_0, v⟩, b1⟩ => [(10, .sref b1 3 0 (List.length out_0)), (33, .int .i64 v)]) (fun ⟨n0, ⟨out_0, v⟩, b1⟩ => [(b1, ⟨3, List.map encSpan out_0⟩)]) (fun ⟨n0, ⟨out_0, v⟩, b1⟩ => loopO (M.impl_HideWord_l0 spans word reason y4) n0 (out_0, v) = some e0) (fun ⟨n0, _, _⟩ => n0) (rounds, (y3, (0 : Int)), ob0) rfl he1 ?_
    rintro ⟨n0, ⟨out_0, v⟩, b1⟩ hP0
    obtain ⟨m0, y5, rfl, hm1, hl1, hr1⟩ := loop_head hP0
    unfold M.impl_HideWord_l0 at hm1; dsimp only at hm1
    show V _ _ _ ⟨63, [(10, .sref b1 3 0 (List.length out_0)), (33, .int .i64 v), (0, .str text), (1, .vl ρ1 3 (List.map encSpan spans)), (2, .str word), (3, .int .i64 reason), (31, .vl rn 1 (List.map encInt y4)), (32, .int .i64 (y4.length : Int))], [(b1, ⟨3, List.map encSpan out_0⟩)]⟩
    refine V.seq ?_
    refine V.region ?_
    refine VO.cons rfl (V1.int rfl rfl rfl rfl rfl lt0 ?_)
    refine VO.nil ?_
    refine V.seq ?_
    refine V.cond rfl (fun hc1 => ?_) (fun hc1 => ?_)
    ·
     replace hm1 := cond_t hc1 hm1
     refine V.skip ?_
     refine V.seq ?_
     replace hm1 := bindO hm1; rcases hm1 with ⟨j0, hm2, hm1⟩
     refine V.cutT (D := (List Span) × (Nat)) (fun ⟨out_1, b2⟩ => ⟨63, [(10, .sref b2 3 0 (List.length out_1)), (0, .str text), (1, .vl ρ1 3 (List.map encSpan spans)), (2, .str word), (3, .int .i64 reason), (31, .vl rn 1 (List.map encInt y4)), (32, .int .i64 (y4.length : Int)), (33, .int .i64 v)], [(b2, ⟨3, List.map encSpan out_1⟩)]⟩) (fun ⟨out_1, b2⟩ => (out_1 = j0)) ?_ ?_
     ·
      refine V.block ?_
      refine V.seq ?_
      replace hm2 := asrt_some hm2; rcases hm2 with ⟨hh5, hm2⟩
      refine V.region ?_
      refine VO.cons rfl (V1.indexI rfl rfl esz_27 rfl rfl hh5 lt0 ?_)
      refine VO.cons rfl (V1.loadPin rfl rfl tyk_3 rfl rfl lt0 ?_)
      refine VO.cons rfl (V1.assign rfl rfl rfl lt0 ?_)
      refine VO.nil ?_
      refine V.seq ?_
      replace hm2 := bindO hm2; rcases hm2 with ⟨y6, hh6, hm2⟩
      refine V.region ?_
      refine VO.cons rfl (V1.move rfl rfl rfl lt0 ?_)
      refine VO.cons rfl (V1.move rfl rfl rfl lt0 ?_)
      refine VO.cons rfl (V1.move rfl rfl rfl lt0 ?_)
      refine VO.cons rfl (V1.move rfl rfl rfl lt0 ?_)
      refine VO.cons rfl (V1.lenStr rfl rfl rfl rfl rfl rfl istr_9 lt0 ?_)
      refine VO.cons rfl (V1.int rfl rfl rfl rfl rfl lt0 ?_)
      refine VO.cons rfl (V1.call rfl rfl rfl cok_98 rfl (ok_impl_isTouched hh6) rfl lt0 ?_)
      rintro _ _ ⟨rfl, rfl⟩
      refine VO.cons rfl (V1.not rfl rfl rfl lt0 ?_)
      refine VO.nil ?_
      refine V.keep 63 [0, 1, 2, 3, 10, 12, 31, 32, 33, 44] [0] (E0 := [(0, .str text), (1, .vl ρ1 3 (List.map encSpan spans)), (2, .str word), (3, .int .i64 reason), (10, .sref b1 3 0 (List.length out_0)), (12, .int .i64 (y4.getD (Int.toNat v) default)), (31, .vl rn 1 (List.map encInt y4)), (32, .int .i64 (y4.length : Int)), (33, .int .i64 v), (44, .bool (!y6))]) (H0 := [(b1, ⟨3, List.map encSpan out_0⟩)]) rfl (⟨_, _, rfl, rfl, _, _, rfl, rfl, _, _, rfl, rfl, _, _, rfl, rfl, _, _, rfl, rfl, _, _, rfl, rfl, _, _, rfl, rfl, _, _, rfl, rfl, _, _, rfl, rfl, _, _, rfl, rfl, rfl⟩) (⟨_, _, rfl, rfl, rfl⟩) rfl ?_
      refine V.cond rfl (fun hc2 => ?_) (fun hc2 => ?_)
      ·
       replace hm2 := cond_t hc2 hm2
       replace hm2 := asrt_some hm2; rcases hm2 with ⟨hh7, hm2⟩
       refine V.region ?_
       refine VO.cons rfl (V1.move rfl rfl rfl lt0 ?_)
       refine VO.cons rfl (V1.move rfl rfl rfl lt0 ?_)
       refine VO.cons rfl (V1.move rfl rfl rfl lt0 ?_)
       refine VO.cons rfl (V1.move rfl rfl rfl lt0 ?_)
       refine VO.cons rfl (V1.lenStr rfl rfl rfl rfl rfl rfl istr_9 lt0 ?_)
       refine VO.cons rfl (V1.int rfl rfl rfl rfl rfl lt0 ?_)
       refine VO.cons rfl (V1.move rfl rfl rfl lt0 ?_)
       refine VO.cons rfl (V1.build rfl rfl zk_66 pl_66 rfl rfl lt0 ?_)
       refine VO.cons rfl (V1.buildSliceT (f := encSpan) ([(⟨(y4.getD (Int.toNat v) default), (IntKind.i64.wrap ((y4.getD (Int.toNat v) default) + (word.length : Int))), reason⟩ : Span)] : List Span) rfl rfl esz_58 zk_66 rfl rfl rfl rfl rfl rfl rfl lt0 ?_)
       intro b3
       refine VO.cons rfl (V1.appendMap (k := 1) (f := encSpan) (l := out_0) (m := ([(⟨(y4.getD (Int.toNat v) default), (IntKind.i64.wrap ((y4.getD (Int.toNat v) default) + (word.length : Int))), reason⟩ : Span)] : List Span)) rfl rfl rfl rfl rfl esz_58 eby_58 zk_66 rfl rfl rfl (SrcOf.srMap (k := 0) rfl isl_58) hh7 lt0 ?_)
       intro b4
       refine VO.cons rfl (V1.assign rfl rfl rfl lt0 ?_)
       refine VO.nil ?_
       exact ⟨((out_0 ++ ([(⟨(y4.getD (Int.toNat v) default), (IntKind.i64.wrap ((y4.getD (Int.toNat v) default) + (word.length : Int))), reason⟩ : Span)] : List Span)), b4), Option.some.inj hm2, Keeps.mk (ks := [0]) rfl ⟨rfl, rfl, rfl, rfl, rfl, rfl, rfl, rfl, trivial⟩ (⟨_, _, rfl, rfl, rfl⟩) rfl⟩
      ·
       replace hm2 := cond_f hc2 hm2
       refine V.skip ?_
       exact ⟨(out_0, b1), Option.some.inj hm2, Keeps.mk (ks := [0]) rfl ⟨rfl, rfl, rfl, rfl, rfl, rfl, rfl, rfl, trivial⟩ (⟨_, _, rfl, rfl, rfl⟩) rfl⟩
     ·
      rintro ⟨out_1, b2⟩ rfl
      try dsimp only at hm1
      refine V.region ?_
      refine VO.cons rfl (V1.int rfl rfl rfl rfl rfl lt0 ?_)
      refine VO.cons rfl (V1.move rfl rfl rfl lt0 ?_)
      refine VO.nil ?_
      exact ⟨(m0, (out_1, (IntKind.i64.wrap (v + (1 : Int)))), b2), hl1 _ (Option.some.inj hm1).symm, Nat.lt_succ_self _, Keeps.mk (ks := [0]) rfl ⟨rfl, rfl, rfl, rfl, rfl, rfl, rfl, rfl, trivial⟩ (⟨_, _, rfl, rfl, rfl⟩) rfl⟩
    ·
     replace hm1 := cond_f hc1 hm1
     refine V.exit ?_
     obtain rfl := hr1 _ (Option.some.inj hm1).symm
     exact ⟨(out_0, b1), rfl, Keeps.mk (ks := [0]) rfl ⟨rfl, rfl, trivial⟩ (⟨_, _, rfl, rfl, rfl⟩) rfl⟩
   ·
    rintro ⟨out_, b0⟩ rfl
    try dsimp only at hm0
    refine V.seq ?_
    replace hm0 := bindO hm0; rcases hm0 with ⟨y7, hh8, hm0⟩
    replace hm0 := asrt_some hm0; rcases hm0 with ⟨hh9, hm0⟩
    refine V.region ?_
    refine VO.cons rfl (V1.move rfl rfl rfl lt0 ?_)
    refine VO.cons rfl (V1.callM 0 (rn + 1) [] [.sref b0 3 0 (List.length out_), .fn 100 []] (p := (b0, ⟨3, List.map encSpan out_⟩)) rfl rfl rfl cok_99 rfl rfl ⟨_, _, rfl, .same _, ⟨_, _, rfl, Lend.fn rfl, rfl⟩⟩ bwNil (ok_slices_SortFunc_impl_Span_impl_Span hh8 (oq := some b0) (fun e => by cases e) (fm := (fun x0 x1 => M.impl_HideWord_1 x0 x1)) cok_100 (fun _ _ _ h => ok_impl_HideWord_1 h)) rfl (.inl rfl) lt0 ?_)
    rintro _ _ ⟨rfl, rfl⟩
    refine VO.weakenK (Keeps.say 10 (y := .sref b0 3 0 (List.length y7)) rfl (congrArg (PV.sref b0 3 0) hh9.symm)) ?_
    refine VO.nil ?_
    refine V.seq ?_
    refine V.seq ?_
    replace hm0 := bindO hm0; rcases hm0 with ⟨y8, hh10, hm0⟩
    refine V.region ?_
    refine VO.cons rfl (V1.move rfl rfl rfl lt0 ?_)
    refine VO.cons rfl (V1.move rfl rfl rfl lt0 ?_)
    refine VO.cons rfl (V1.callL (rn + 1) [b0] [.str text, .vl (rn + 1) 3 (List.map encSpan y7)] rfl rfl rfl cok_93 rfl ⟨_, _, rfl, .same _, ⟨_, _, rfl, Lend.srMap 0 rfl (fun _ => rfl) (.head _), rfl⟩⟩ (bwCons (k := 0) rfl bwNil) (ok_impl_AreSpans hh10) rfl (⟨(by first | omega | (dsimp only; omega)), by rintro _ _ ⟨rfl, rfl⟩; exact ⟨rfl, by simp⟩⟩) lt0 ?_)
    rintro _ _ ⟨rfl, rfl⟩
    refine VO.cons rfl (V1.not rfl rfl rfl lt0 ?_)
    refine VO.nil ?_
    refine V.keep 63 [10, 61] [0] (E0 := [(10, .sref b0 3 0 (List.length y7)), (61, .bool (!y8))]) (H0 := [(b0, ⟨3, List.map encSpan y7⟩)]) rfl (⟨_, _, rfl, rfl, _, _, rfl, rfl, rfl⟩) (⟨_, _, rfl, rfl, rfl⟩) rfl ?_
    refine V.cond rfl (fun hc3 => ?_) (fun hc3 => ?_)
    ·
     replace hm0 := cond_t hc3 hm0
     refine V.seq ?_
     refine V.region ?_
     refine VO.cons rfl (V1.assign rfl rfl rfl lt0 ?_)
     refine VO.cons rfl (V1.assign rfl rfl rfl lt0 ?_)
     refine VO.nil ?_
     refine V.keep 63 [8, 9] [] (E0 := [(8, .nils), (9, .bool false)]) (H0 := []) rfl (⟨_, _, rfl, rfl, _, _, rfl, rfl, rfl⟩) (rfl) rfl ?_
     refine V.ret ?_
     obtain rfl := Option.some.inj hm0
     exact ⟨_, _, ⟨_, _, rfl, rfl, _, _, rfl, rfl, rfl⟩, List.Sublist.refl _, none, (fun _ => rfl), rfl, rfl⟩
    ·
     replace hm0 := cond_f hc3 hm0
     refine V.skip ?_
     refine V.seq ?_
     refine V.region ?_
     refine VO.cons rfl (V1.move rfl rfl rfl lt0 ?_)
     refine VO.cons rfl (V1.assign rfl rfl rfl lt0 ?_)
     refine VO.cons rfl (V1.assign rfl rfl rfl lt0 ?_)
     refine VO.nil ?_
     refine V.keep 63 [8, 9] [0] (E0 := [(8, .sref b0 3 0 (List.length y7)), (9, .bool true)]) (H0 := [(b0, ⟨3, List.map encSpan y7⟩)]) rfl (⟨_, _, rfl, rfl, _, _, rfl, rfl, rfl⟩) (⟨_, _, rfl, rfl, rfl⟩) rfl ?_
     refine V.ret ?_
     obtain rfl := Option.some.inj hm0
     exact ⟨_, _, ⟨_, _, rfl, rfl, _, _, rfl, rfl, rfl⟩, List.Sublist.refl _, some b0, (fun e => by cases e), rfl, rfl⟩

theorem ok_spec_l1In {rn : Nat} {x : Int} {a : Int} {b_ : Int} {r : Bool} (h : M.spec_l1In x a b_ = some r) : Does Tryd.prog 75 [.int .i64 x, .int .i64 a, .int .i64 b_] [] rn (fun x H => x = .bool r ∧ H = []) := by
 have hm0 := h; clear h; unfold M.spec_l1In at hm0
 try dsimp only at hm0
 refine Does.intro (N := 15) Tryd.func75 rfl rfl rfl rfl ?_
 intro w0 S0 L0
 refine V.seq ?_
 refine V.region ?_
 refine VO.cons rfl (V1.assign rfl rfl rfl lt0 ?_)
 refine VO.nil ?_
 refine V.seq ?_
 refine V.region ?_
 refine VO.cons rfl (V1.move rfl rfl rfl lt0 ?_)
 refine VO.cons rfl (V1.move rfl rfl rfl lt0 ?_)
 refine VO.cons rfl (V1.int rfl rfl rfl rfl rfl lt0 ?_)
 refine VO.cons rfl (V1.move rfl rfl rfl lt0 ?_)
 apply VO.and (n := 3) rfl rfl rfl rfl rfl rfl lt0 (.none rfl)
 ·
  intro hg0
  refine VO.step (.some rfl rfl rfl) (V1.move rfl rfl rfl lt0 ?_)
  refine VO.step (.some rfl rfl rfl) (V1.move rfl rfl rfl lt0 ?_)
  refine VO.step (.some rfl rfl rfl) (V1.int rfl rfl rfl rfl rfl lt0 ?_)
  exact VO.nil ⟨rfl, rfl, rfl, rfl, .inr ⟨rfl, .inr ⟨rfl, .inr ⟨rfl, .inr ⟨rfl, .inl rfl⟩⟩⟩⟩⟩
 refine VO.cons rfl (V1.assign rfl rfl rfl lt0 ?_)
 refine VO.nil ?_
 refine V.ret ?_
 obtain rfl := Option.some.inj hm0
 exact ⟨_, [], ⟨_, _, rfl, rfl, rfl⟩, List.nil_sublist _, rfl, rfl⟩

theorem ok_spec_l15Letter {rn : Nat} {b_ : Int} {r : Bool} (h : M.spec_l15Letter b_ = some r) : Does Tryd.prog 136 [.int .u8 b_] [] rn (fun x H => x = .bool r ∧ H = []) := by
 have hm0 := h; clear h; unfold M.spec_l15Letter at hm0
 try dsimp only at hm0
 refine Does.intro (N := 9) Tryd.func136 rfl rfl rfl rfl ?_
 intro w0 S0 L0
 refine V.seq ?_
 refine V.region ?_
 refine VO.cons rfl (V1.assign rfl rfl rfl lt0 ?_)
 refine VO.nil ?_
 refine V.seq ?_
 refine V.region ?_
 refine VO.cons rfl (V1.move rfl rfl rfl lt0 ?_)
 refine VO.cons rfl (V1.int rfl rfl rfl rfl rfl lt0 ?_)
 refine VO.cons rfl (V1.move rfl rfl rfl lt0 ?_)
 apply VO.and (n := 2) rfl rfl rfl rfl rfl rfl lt0 (.none rfl)
 ·
  intro hg0
  refine VO.step (.some rfl rfl rfl) (V1.move rfl rfl rfl lt0 ?_)
  refine VO.step (.some rfl rfl rfl) (V1.int rfl rfl rfl rfl rfl lt0 ?_)
  exact VO.nil ⟨rfl, rfl, rfl, rfl, .inr ⟨rfl, .inr ⟨rfl, .inr ⟨rfl, .inl rfl⟩⟩⟩⟩
 refine VO.cons rfl (V1.assign rfl rfl rfl lt0 ?_)
 refine VO.nil ?_
 refine V.ret ?_
 obtain rfl := Option.some.inj hm0
 exact ⟨_, [], ⟨_, _, rfl, rfl, rfl⟩, List.nil_sublist _, rfl, rfl⟩

theorem ok_spec_l15Text {rn : Nat} {text : List UInt8} {r : Bool} (h : M.spec_l15Text text = some r) : Does Tryd.prog 109 [.str text] [] rn (fun x H => x = .bool r ∧ H = []) := by
 have hm0 := h; clear h; unfold M.spec_l15Text at hm0
 try dsimp only at hm0
 refine Does.intro (N := 24) Tryd.func109 rfl rfl rfl rfl ?_
 intro w0 S0 L0
 refine V.seq ?_
 refine V.region ?_
 refine VO.cons rfl (V1.assign rfl rfl rfl lt0 ?_)
 refine VO.nil ?_
 refine V.seq ?_
 refine V.seq ?_
 refine V.region ?_
 refine VO.cons rfl (V1.assign rfl rfl rfl lt0 ?_)
 refine VO.nil ?_
 replace hm0 := bindO hm0; rcases hm0 with ⟨e0, he1, hm0⟩
 refine V.cutT (D := (Unit) × (Unit)) (fun ⟨_, _⟩ => ⟨24, [(0, .str text)], []⟩) (fun ⟨_, _⟩ => (.inl () = e0)) ?_ ?_
 ·
  refine V.block ?_
  refine V.keep 24 [3, 0] [] (E0 := [(3, .int .i64 (0 : Int)), (0, .str text)]) (H0 := []) rfl (⟨_, _, rfl, rfl, _, _, rfl, rfl, rfl⟩) (rfl) rfl ?_
  refine V.loopE (D := Nat × (Int) × (Unit)) (fun ⟨n0, i, _⟩ => [(3, .int .i64 i)]) (fun ⟨n0, i, _⟩ => []) (fun ⟨n0, i, _⟩ => loopO (M.spec_l15Text_l0 text) n0 i = some e0) (fun ⟨n0, _, _⟩ => n0) (rounds, (0 : Int), ()) rfl he1 ?_
  rintro ⟨n0, i, _⟩ hP0
  obtain ⟨m0, y0, rfl, hm1, hl1, hr1⟩ := loop_head hP0
  unfold M.spec_l15Text_l0 at hm1; dsimp only at hm1
  show V _ _ _ ⟨24, [(3, .int .i64 i), (0, .str text)], []⟩
  refine V.seq ?_
  refine V.seq ?_
  refine V.region ?_
  refine VO.cons rfl (V1.move rfl rfl rfl lt0 ?_)
  refine VO.cons rfl (V1.move rfl rfl rfl lt0 ?_)
  refine VO.cons rfl (V1.lenStr rfl rfl rfl rfl rfl rfl istr_9 lt0 ?_)
  refine VO.cons rfl (V1.int rfl rfl rfl rfl rfl lt0 ?_)
  refine VO.nil ?_
  refine V.cond rfl (fun hc0 => ?_) (fun hc0 => ?_)
  ·
   replace hm1 := cond_t hc0 hm1
   refine V.skip ?_
   refine V.keep 24 [0, 3] [] (E0 := [(0, .str text), (3, .int .i64 i)]) (H0 := []) rfl (⟨_, _, rfl, rfl, _, _, rfl, rfl, rfl⟩) (rfl) rfl ?_
   refine V.seq ?_
   refine V.block ?_
   refine V.seq ?_
   replace hm1 := asrt_some hm1; rcases hm1 with ⟨hh0, hm1⟩
   replace hm1 := bindO hm1; rcases hm1 with ⟨y1, hh1, hm1⟩
   replace hm1 := asrt_some hm1; rcases hm1 with ⟨hh2, hm1⟩
   refine V.region ?_
   refine VO.cons rfl (V1.move rfl rfl rfl lt0 ?_)
   refine VO.cons rfl (V1.move rfl rfl rfl lt0 ?_)
   refine VO.cons rfl (V1.indexStrI rfl rfl istr_9 rfl rfl hh0 lt0 ?_)
   refine VO.cons rfl (V1.call rfl rfl rfl cok_136 rfl (ok_spec_l15Letter hh1) rfl lt0 ?_)
   rintro _ _ ⟨rfl, rfl⟩
   refine VO.cons rfl (V1.not rfl rfl rfl lt0 ?_)
   refine VO.cons rfl (V1.move rfl rfl rfl lt0 ?_)
   apply VO.and (n := 4) rfl rfl rfl rfl rfl rfl lt0 (.none rfl)
   ·
    intro hg0
    refine VO.step (.some rfl rfl rfl) (V1.move rfl rfl rfl lt0 ?_)
    refine VO.step (.some rfl rfl rfl) (V1.move rfl rfl rfl lt0 ?_)
    refine VO.step (.some rfl rfl rfl) (V1.indexStrI rfl rfl istr_9 rfl rfl (hh2 hg0) lt0 ?_)
    refine VO.step (.some rfl rfl rfl) (V1.int rfl rfl rfl rfl rfl lt0 ?_)
    exact VO.nil ⟨rfl, rfl, rfl, rfl, .inr ⟨rfl, .inr ⟨rfl, .inr ⟨rfl, .inr ⟨rfl, .inr ⟨rfl, .inl rfl⟩⟩⟩⟩⟩⟩
   refine VO.nil ?_
   refine V.keep 24 [0, 3, 20] [] (E0 := [(0, .str text), (3, .int .i64 i), (20, .bool ((!y1) && (((text.getD (Int.toNat i) 0).toNat : Int) != (32 : Int))))]) (H0 := []) rfl (⟨_, _, rfl, rfl, _, _, rfl, rfl, _, _, rfl, rfl, rfl⟩) (rfl) rfl ?_
   refine V.cond rfl (fun hc1 => ?_) (fun hc1 => ?_)
   ·
    replace hm1 := cond_t hc1 hm1
    refine V.seq ?_
    refine V.region ?_
    refine VO.cons rfl (V1.assign rfl rfl rfl lt0 ?_)
    refine VO.nil ?_
    refine V.ret ?_
    obtain rfl := hr1 _ (Option.some.inj hm1).symm
    change some _ = some _ at hm0
    obtain rfl := Option.some.inj hm0
    exact ⟨_, [], ⟨_, _, rfl, rfl, rfl⟩, List.nil_sublist _, rfl, rfl⟩
   ·
    replace hm1 := cond_f hc1 hm1
    refine V.skip ?_
    refine V.region ?_
    refine VO.cons rfl (V1.move rfl rfl rfl lt0 ?_)
    refine VO.cons rfl (V1.int rfl rfl rfl rfl rfl lt0 ?_)
    refine VO.cons rfl (V1.assign rfl rfl rfl lt0 ?_)
    refine VO.nil ?_
    exact ⟨(m0, (IntKind.i64.wrap (i + (1 : Int))), ()), hl1 _ (Option.some.inj hm1).symm, Nat.lt_succ_self _, Keeps.mk (ks := []) rfl ⟨rfl, rfl, trivial⟩ (rfl) rfl⟩
  ·
   replace hm1 := cond_f hc0 hm1
   refine V.exit ?_
   obtain rfl := hr1 _ (Option.some.inj hm1).symm
   exact ⟨((), ()), rfl, Keeps.mk (ks := []) rfl ⟨rfl, trivial⟩ (rfl) rfl⟩
 ·
  rintro ⟨_, _⟩ rfl
  try dsimp only at hm0
  refine V.seq ?_
  refine V.region ?_
  refine VO.cons rfl (V1.move rfl rfl rfl lt0 ?_)
  refine VO.cons rfl (V1.lenStr rfl rfl rfl rfl rfl rfl istr_9 lt0 ?_)
  refine VO.cons rfl (V1.int rfl rfl rfl rfl rfl lt0 ?_)
  refine VO.cons rfl (V1.assign rfl rfl rfl lt0 ?_)
  refine VO.nil ?_
  refine V.ret ?_
  obtain rfl := Option.some.inj hm0
  exact ⟨_, [], ⟨_, _, rfl, rfl, rfl⟩, List.nil_sublist _, rfl, rfl⟩

theorem ok_spec_l15Good {ρ1 rn : Nat} {text : List UInt8} {spans : List Span} {r : Bool} (h : M.spec_l15Good text spans = some r) : Does Tryd.prog 101 [.str text, .vl ρ1 3 (List.map encSpan spans)] [] rn (fun x H => x = .bool r ∧ H = []) := by
 have hm0 := h; clear h; unfold M.spec_l15Good at hm0
 try dsimp only at hm0
 refine Does.intro (N := 60) Tryd.func101 rfl rfl rfl rfl ?_
 intro w0 S0 L0
 refine V.seq ?_
 refine V.region ?_
 refine VO.cons rfl (V1.assign rfl rfl rfl lt0 ?_)
 refine VO.nil ?_
 refine V.seq ?_
 refine V.seq ?_
 refine V.region ?_
 refine VO.cons rfl (V1.assign rfl rfl rfl lt0 ?_)
 refine VO.nil ?_
 replace hm0 := bindO hm0; rcases hm0 with ⟨e0, he1, hm0⟩
 refine V.cutT (D := (Unit) × (Unit)) (fun ⟨_, _⟩ => ⟨60, [(0, .str text), (1, .vl ρ1 3 (List.map encSpan spans))], []⟩) (fun ⟨_, _⟩ => (.inl () = e0)) ?_ ?_
 ·
  refine V.block ?_
  refine V.keep 60 [5, 0, 1] [] (E0 := [(5, .int .i64 (0 : Int)), (0, .str text), (1, .vl ρ1 3 (List.map encSpan spans))]) (H0 := []) rfl (⟨_, _, rfl, rfl, _, _, rfl, rfl, _, _, rfl, rfl, rfl⟩) (rfl) rfl ?_
  refine V.loopE (D := Nat × (Int) × (Unit)) (fun ⟨n0, i, _⟩ => [(5, .int .i64 i)]) (fun ⟨n0, i, _⟩ => []) (fun ⟨n0, i, _⟩ => loopO (M.spec_l15Good_l0 text spans) n0 i = some e0) (fun ⟨n0, _, _⟩ => n0) (rounds, (0 : Int), ()) rfl he1 ?_
  rintro ⟨n0, i, _⟩ hP0
  obtain ⟨m0, y0, rfl, hm1, hl1, hr1⟩ := loop_head hP0
  unfold M.spec_l15Good_l0 at hm1; dsimp only at hm1
  show V _ _ _ ⟨60, [(5, .int .i64 i), (0, .str text), (1, .vl ρ1 3 (List.map encSpan spans))], []⟩
  refine V.seq ?_
  refine V.seq ?_
  refine V.region ?_
  refine VO.cons rfl (V1.move rfl rfl rfl lt0 ?_)
  refine VO.cons rfl (V1.move rfl rfl rfl lt0 ?_)
  refine VO.cons rfl (V1.lenMap rfl rfl rfl rfl rfl rfl isl_58 lt0 ?_)
  refine VO.cons rfl (V1.int rfl rfl rfl rfl rfl lt0 ?_)
  refine VO.nil ?_
  refine V.cond rfl (fun hc0 => ?_) (fun hc0 => ?_)
  ·
   replace hm1 := cond_t hc0 hm1
   refine V.skip ?_
   refine V.keep 60 [0, 1, 5] [] (E0 := [(0, .str text), (1, .vl ρ1 3 (List.map encSpan spans)), (5, .int .i64 i)]) (H0 := []) rfl (⟨_, _, rfl, rfl, _, _, rfl, rfl, _, _, rfl, rfl, rfl⟩) (rfl) rfl ?_
   refine V.seq ?_
   refine V.block ?_
   refine V.seq ?_
   replace hm1 := asrt_some hm1; rcases hm1 with ⟨hh0, hm1⟩
   refine V.region ?_
   refine VO.cons rfl (V1.move rfl rfl rfl lt0 ?_)
   refine VO.cons rfl (V1.move rfl rfl rfl lt0 ?_)
   refine VO.cons rfl (V1.indexI rfl rfl esz_58 rfl rfl hh0 lt0 ?_)
   refine VO.cons rfl (V1.loadPinAll rfl rfl tyk_66 rfl rfl lt0 ?_)
   refine VO.cons rfl (V1.alloc rfl rfl zk_66 lt0 ?_)
   intro b0
   refine VO.cons rfl (V1.storeRefAll (k := 0) rfl rfl tyk_66 rfl rfl rfl rfl rfl rfl ?_)
   refine VO.nil ?_
   refine V.keep 60 [0, 1, 5, 6] [0] (E0 := [(0, .str text), (1, .vl ρ1 3 (List.map encSpan spans)), (5, .int .i64 i), (6, .ref b0 3 0 0)]) (H0 := [(b0, ⟨3, [encSpan (spans.getD (Int.toNat i) default)]⟩)]) rfl (⟨_, _, rfl, rfl, _, _, rfl, rfl, _, _, rfl, rfl, _, _, rfl, rfl, rfl⟩) (⟨_, _, rfl, rfl, rfl⟩) rfl ?_
   refine V.seq ?_
   replace hm1 := bindO hm1; rcases hm1 with ⟨y1, hh1, hm1⟩
   replace hm1 := bindO hm1; rcases hm1 with ⟨y2, hh2, hm1⟩
   replace hm1 := bindO hm1; rcases hm1 with ⟨y3, hh3, hm1⟩
   replace hm1 := asrt_some hm1; rcases hm1 with ⟨hh4, hm1⟩
   refine V.regionM 60 36 [⟨[(6, none)], [], none⟩, ⟨[(17, some 0)], [], none⟩, ⟨[(0, none)], [], none⟩, ⟨[(19, some 0)], [], none⟩, ⟨[(18, some 2), (20, some 0)], [], none⟩, ⟨[(21, some 0)], [], none⟩, ⟨[(22, some 0)], [], none⟩, ⟨[(6, none)], [(0, false)], none⟩, ⟨[(24, some 0)], [(1, false)], none⟩, ⟨[(6, none)], [(2, false)], none⟩, ⟨[(26, some 0)], [(3, false)], none⟩, ⟨[(27, some 0)], [(4, false)], none⟩, ⟨[(25, some 3), (28, some 0)], [(5, false)], none⟩, ⟨[(29, some 0)], [(6, false)], none⟩, ⟨[], [], some (false, 23, 30, 7, 0)⟩, ⟨[(31, some 0)], [], none⟩, ⟨[(6, none)], [(0, false)], none⟩, ⟨[(33, some 0)], [(1, false)], none⟩, ⟨[(34, some 0)], [(2, false)], none⟩, ⟨[(35, some 0)], [(3, false)], none⟩, ⟨[], [], some (false, 32, 36, 4, 0)⟩, ⟨[(37, some 0)], [], none⟩, ⟨[(5, none)], [(0, false)], none⟩, ⟨[(39, some 0)], [(1, false)], none⟩, ⟨[(40, some 0)], [(2, false)], none⟩, ⟨[(1, none)], [(0, true), (3, false)], none⟩, ⟨[(5, none)], [(1, true), (4, false)], none⟩, ⟨[(43, some 0)], [(2, true), (5, false)], none⟩, ⟨[(42, some 2), (44, some 0)], [(3, true), (6, false)], none⟩, ⟨[(45, some 0)], [(4, true), (7, false)], none⟩, ⟨[(46, some 0)], [(5, true), (8, false)], none⟩, ⟨[(6, none)], [(6, true), (9, false)], none⟩, ⟨[(48, some 0)], [(7, true), (10, false)], none⟩, ⟨[(47, some 2), (49, some 0)], [(8, true), (11, false)], none⟩, ⟨[], [(12, false)], some (true, 41, 50, 9, 0)⟩, ⟨[], [], some (false, 38, 51, 13, 0)⟩] [(0, none), (1, none), (5, none), (52, some 0)] (⟨_, rfl, ⟨_, rfl, ⟨_, rfl, ⟨_, rfl, ⟨_, rfl, ⟨_, rfl, ⟨_, rfl, ⟨_, rfl, ⟨_, rfl, ⟨_, rfl, ⟨_, rfl, ⟨_, rfl, ⟨_, rfl, ⟨_, rfl, ⟨_, rfl, ⟨_, rfl, ⟨_, rfl, ⟨_, rfl, ⟨_, rfl, ⟨_, rfl, ⟨_, rfl, ⟨_, rfl, ⟨_, rfl, ⟨_, rfl, ⟨_, rfl, ⟨_, rfl, ⟨_, rfl, ⟨_, rfl, ⟨_, rfl, ⟨_, rfl, ⟨_, rfl, ⟨_, rfl, ⟨_, rfl, ⟨_, rfl, ⟨_, rfl, ⟨_, rfl, ⟨rfl, rfl⟩⟩⟩⟩⟩⟩⟩⟩⟩⟩⟩⟩⟩⟩⟩⟩⟩⟩⟩⟩⟩⟩⟩⟩⟩⟩⟩⟩⟩⟩⟩⟩⟩⟩⟩⟩⟩) mixed_orders rfl (by decide +kernel) (fun hck5 => ?_)
   refine VP.step (p := ?pv292) rfl rfl rfl (⟨_, _, rfl, rfl, rfl⟩) ?hv292 ?rest292 hck5
   case hv292 =>
    intro E1
    refine (V1.fieldRef rfl rfl fo_66_1 rfl lt0 ?_)
    exact rfl
   refine VP.step (p := ?pv293) rfl rfl rfl (⟨_, _, rfl, rfl, rfl⟩) ?hv293 ?rest293 hck5
   case hv293 =>
    intro E1
    refine (V1.loadRef (k := 0) rfl rfl tyk_3 rfl rfl rfl rfl rfl lt0 ?_)
    exact rfl
   refine VP.step (p := ?pv294) rfl rfl rfl (⟨_, _, rfl, rfl, rfl⟩) ?hv294 ?rest294 hck5
   case hv294 =>
    intro E1
    refine (V1.move rfl rfl rfl lt0 ?_)
    exact rfl
   refine VP.step (p := ?pv295) rfl rfl rfl (⟨_, _, rfl, rfl, rfl⟩) ?hv295 ?rest295 hck5
   case hv295 =>
    intro E1
    refine (V1.lenStr rfl rfl rfl rfl rfl rfl istr_9 lt0 ?_)
    exact rfl
   refine VP.step (p := ?pv296) rfl rfl rfl (⟨_, _, rfl, rfl, _, _, rfl, rfl, rfl⟩) ?hv296 ?rest296 hck5
   case hv296 =>
    intro E1
    refine (V1.call rfl rfl rfl cok_75 rfl (ok_spec_l1In hh1) rfl lt0 ?_)
    rintro _ _ ⟨rfl, rfl⟩
    exact rfl
   refine VP.step (p := ?pv298) rfl rfl rfl (⟨_, _, rfl, rfl, rfl⟩) ?hv298 ?rest298 hck5
   case hv298 =>
    intro E1
    refine (V1.not rfl rfl rfl lt0 ?_)
    exact rfl
   refine VP.step (p := ?pv299) rfl rfl rfl (⟨_, _, rfl, rfl, rfl⟩) ?hv299 ?rest299 hck5
   case hv299 =>
    intro E1
    refine (V1.move rfl rfl rfl lt0 ?_)
    exact rfl
   refine VP.step (p := ?pv300) rfl rfl rfl (⟨_, _, rfl, rfl, rfl⟩) ?hv300 ?rest300 hck5
   case hv300 =>
    refine ⟨_, rfl, fun hg0 => ?_⟩
    intro E1
    refine (V1.fieldRef rfl rfl fo_66_0 rfl lt0 ?_)
    exact rfl
   refine VP.step (p := ?pv301) rfl rfl rfl (⟨_, _, rfl, rfl, rfl⟩) ?hv301 ?rest301 hck5
   case hv301 =>
    refine ⟨_, rfl, fun hg0 => ?_⟩
    intro E1
    refine (V1.loadRef (k := 0) rfl rfl tyk_3 rfl rfl rfl rfl rfl lt0 ?_)
    exact rfl
   refine VP.step (p := ?pv302) rfl rfl rfl (⟨_, _, rfl, rfl, rfl⟩) ?hv302 ?rest302 hck5
   case hv302 =>
    refine ⟨_, rfl, fun hg0 => ?_⟩
    intro E1
    refine (V1.fieldRef rfl rfl fo_66_1 rfl lt0 ?_)
    exact rfl
   refine VP.step (p := ?pv303) rfl rfl rfl (⟨_, _, rfl, rfl, rfl⟩) ?hv303 ?rest303 hck5
   case hv303 =>
    refine ⟨_, rfl, fun hg0 => ?_⟩
    intro E1
    refine (V1.loadRef (k := 0) rfl rfl tyk_3 rfl rfl rfl rfl rfl lt0 ?_)
    exact rfl
   refine VP.step (p := ?pv304) rfl rfl rfl (⟨_, _, rfl, rfl, rfl⟩) ?hv304 ?rest304 hck5
   case hv304 =>
    refine ⟨_, rfl, fun hg0 => ?_⟩
    intro E1
    refine (V1.int rfl rfl rfl rfl rfl lt0 ?_)
    exact rfl
   refine VP.step (p := ?pv305) rfl rfl rfl (⟨_, _, rfl, rfl, _, _, rfl, rfl, rfl⟩) ?hv305 ?rest305 hck5
   case hv305 =>
    refine ⟨_, rfl, fun hg0 => ?_⟩
    intro E1
    refine (V1.call rfl rfl rfl cok_75 rfl (ok_spec_l1In (cond_f hg0 hh2)) rfl lt0 ?_)
    rintro _ _ ⟨rfl, rfl⟩
    exact rfl
   refine VP.step (p := ?pv307) rfl rfl rfl (⟨_, _, rfl, rfl, rfl⟩) ?hv307 ?rest307 hck5
   case hv307 =>
    refine ⟨_, rfl, fun hg0 => ?_⟩
    intro E1
    refine (V1.not rfl rfl rfl lt0 ?_)
    exact rfl
   refine VP.pickOr rfl rfl rfl rfl rfl rfl (trivial) ?_ hck5
   refine VP.step (p := ?pv308) rfl rfl rfl (⟨_, _, rfl, rfl, rfl⟩) ?hv308 ?rest308 hck5
   case hv308 =>
    intro E1
    refine (V1.move rfl rfl rfl lt0 ?_)
    exact rfl
   refine VP.step (p := ?pv309) rfl rfl rfl (⟨_, _, rfl, rfl, rfl⟩) ?hv309 ?rest309 hck5
   case hv309 =>
    refine ⟨_, rfl, fun hg1 => ?_⟩
    intro E1
    refine (V1.fieldRef rfl rfl fo_66_2 rfl lt0 ?_)
    exact rfl
   refine VP.step (p := ?pv310) rfl rfl rfl (⟨_, _, rfl, rfl, rfl⟩) ?hv310 ?rest310 hck5
   case hv310 =>
    refine ⟨_, rfl, fun hg1 => ?_⟩
    intro E1
    refine (V1.loadRef (k := 0) rfl rfl tyk_3 rfl rfl rfl rfl rfl lt0 ?_)
    exact rfl
   refine VP.step (p := ?pv311) rfl rfl rfl (⟨_, _, rfl, rfl, rfl⟩) ?hv311 ?rest311 hck5
   case hv311 =>
    refine ⟨_, rfl, fun hg1 => ?_⟩
    intro E1
    refine (V1.call rfl rfl rfl cok_75 rfl (ok_spec_l1In (cond_f hg1 hh3)) rfl lt0 ?_)
    rintro _ _ ⟨rfl, rfl⟩
    exact rfl
   refine VP.step (p := ?pv313) rfl rfl rfl (⟨_, _, rfl, rfl, rfl⟩) ?hv313 ?rest313 hck5
   case hv313 =>
    refine ⟨_, rfl, fun hg1 => ?_⟩
    intro E1
    refine (V1.not rfl rfl rfl lt0 ?_)
    exact rfl
   refine VP.pickOr rfl rfl rfl rfl rfl rfl (trivial) ?_ hck5
   refine VP.step (p := ?pv314) rfl rfl rfl (⟨_, _, rfl, rfl, rfl⟩) ?hv314 ?rest314 hck5
   case hv314 =>
    intro E1
    refine (V1.move rfl rfl rfl lt0 ?_)
    exact rfl
   refine VP.step (p := ?pv315) rfl rfl rfl (⟨_, _, rfl, rfl, rfl⟩) ?hv315 ?rest315 hck5
   case hv315 =>
    refine ⟨_, rfl, fun hg2 => ?_⟩
    intro E1
    refine (V1.move rfl rfl rfl lt0 ?_)
    exact rfl
   refine VP.step (p := ?pv316) rfl rfl rfl (⟨_, _, rfl, rfl, rfl⟩) ?hv316 ?rest316 hck5
   case hv316 =>
    refine ⟨_, rfl, fun hg2 => ?_⟩
    intro E1
    refine (V1.int rfl rfl rfl rfl rfl lt0 ?_)
    exact rfl
   refine VP.step (p := ?pv317) rfl rfl rfl (⟨_, _, rfl, rfl, rfl⟩) ?hv317 ?rest317 hck5
   case hv317 =>
    refine ⟨_, rfl, fun hg2 => ?_⟩
    intro E1
    refine (V1.move rfl rfl rfl lt0 ?_)
    exact rfl
   refine VP.step (p := ?pv318) rfl rfl rfl (⟨_, _, rfl, rfl, rfl⟩) ?hv318 ?rest318 hck5
   case hv318 =>
    refine ⟨_, rfl, fun hg3 => ?_⟩
    refine ⟨_, rfl, fun hg2 => ?_⟩
    intro E1
    refine (V1.move rfl rfl rfl lt0 ?_)
    exact rfl
   refine VP.step (p := ?pv319) rfl rfl rfl (⟨_, _, rfl, rfl, rfl⟩) ?hv319 ?rest319 hck5
   case hv319 =>
    refine ⟨_, rfl, fun hg3 => ?_⟩
    refine ⟨_, rfl, fun hg2 => ?_⟩
    intro E1
    refine (V1.move rfl rfl rfl lt0 ?_)
    exact rfl
   refine VP.step (p := ?pv320) rfl rfl rfl (⟨_, _, rfl, rfl, rfl⟩) ?hv320 ?rest320 hck5
   case hv320 =>
    refine ⟨_, rfl, fun hg3 => ?_⟩
    refine ⟨_, rfl, fun hg2 => ?_⟩
    intro E1
    refine (V1.int rfl rfl rfl rfl rfl lt0 ?_)
    exact rfl
   refine VP.step (p := ?pv321) rfl rfl rfl (⟨_, _, rfl, rfl, _, _, rfl, rfl, rfl⟩) ?hv321 ?rest321 hck5
   case hv321 =>
    refine ⟨_, rfl, fun hg3 => ?_⟩
    refine ⟨_, rfl, fun hg2 => ?_⟩
    intro E1
    refine (V1.indexI rfl rfl esz_58 rfl rfl (hh4 hg2 hg3) lt0 ?_)
    exact rfl
   refine VP.step (p := ?pv322) rfl rfl rfl (⟨_, _, rfl, rfl, rfl⟩) ?hv322 ?rest322 hck5
   case hv322 =>
    refine ⟨_, rfl, fun hg3 => ?_⟩
    refine ⟨_, rfl, fun hg2 => ?_⟩
    intro E1
    refine (V1.fieldPin rfl rfl fo_66_1 rfl lt0 ?_)
    exact rfl
   refine VP.step (p := ?pv323) rfl rfl rfl (⟨_, _, rfl, rfl, rfl⟩) ?hv323 ?rest323 hck5
   case hv323 =>
    refine ⟨_, rfl, fun hg3 => ?_⟩
    refine ⟨_, rfl, fun hg2 => ?_⟩
    intro E1
    refine (V1.loadPin rfl rfl tyk_3 rfl rfl lt0 ?_)
    exact rfl
   refine VP.step (p := ?pv324) rfl rfl rfl (⟨_, _, rfl, rfl, rfl⟩) ?hv324 ?rest324 hck5
   case hv324 =>
    refine ⟨_, rfl, fun hg3 => ?_⟩
    refine ⟨_, rfl, fun hg2 => ?_⟩
    intro E1
    refine (V1.fieldRef rfl rfl fo_66_0 rfl lt0 ?_)
    exact rfl
   refine VP.step (p := ?pv325) rfl rfl rfl (⟨_, _, rfl, rfl, rfl⟩) ?hv325 ?rest325 hck5
   case hv325 =>
    refine ⟨_, rfl, fun hg3 => ?_⟩
    refine ⟨_, rfl, fun hg2 => ?_⟩
    intro E1
    refine (V1.loadRef (k := 0) rfl rfl tyk_3 rfl rfl rfl rfl rfl lt0 ?_)
    exact rfl
   refine VP.step (p := ?pv326) rfl rfl rfl (⟨_, _, rfl, rfl, _, _, rfl, rfl, rfl⟩) ?hv326 ?rest326 hck5
   case hv326 =>
    refine ⟨_, rfl, fun hg3 => ?_⟩
    refine ⟨_, rfl, fun hg2 => ?_⟩
    intro E1
    refine (V1.int rfl rfl rfl rfl rfl lt0 ?_)
    exact rfl
   refine VP.pickAnd rfl rfl rfl rfl rfl rfl (⟨_, rfl, fun _ => trivial⟩) ?_ hck5
   refine VP.pickOr rfl rfl rfl rfl rfl rfl (trivial) ?_ hck5
   refine VP.fin rfl (⟨_, _, rfl, rfl, _, _, rfl, rfl, _, _, rfl, rfl, _, _, rfl, rfl, rfl⟩) ?_
   refine VO.nil ?_
   refine V.cond rfl (fun hc1 => ?_) (fun hc1 => ?_)
   ·
    replace hm1 := cond_t hc1 hm1
    refine V.seq ?_
    refine V.region ?_
    refine VO.cons rfl (V1.assign rfl rfl rfl lt0 ?_)
    refine VO.nil ?_
    refine V.ret ?_
    obtain rfl := hr1 _ (Option.some.inj hm1).symm
    change some _ = some _ at hm0
    obtain rfl := Option.some.inj hm0
    exact ⟨_, [], ⟨_, _, rfl, rfl, rfl⟩, List.nil_sublist _, rfl, rfl⟩
   ·
    replace hm1 := cond_f hc1 hm1
    refine V.skip ?_
    refine V.region ?_
    refine VO.cons rfl (V1.move rfl rfl rfl lt0 ?_)
    refine VO.cons rfl (V1.int rfl rfl rfl rfl rfl lt0 ?_)
    refine VO.cons rfl (V1.assign rfl rfl rfl lt0 ?_)
    refine VO.nil ?_
    exact ⟨(m0, (IntKind.i64.wrap (i + (1 : Int))), ()), hl1 _ (Option.some.inj hm1).symm, Nat.lt_succ_self _, Keeps.mk (ks := []) rfl ⟨rfl, rfl, rfl, trivial⟩ (rfl) rfl⟩
  ·
   replace hm1 := cond_f hc0 hm1
   refine V.exit ?_
   obtain rfl := hr1 _ (Option.some.inj hm1).symm
   exact ⟨((), ()), rfl, Keeps.mk (ks := []) rfl ⟨rfl, rfl, trivial⟩ (rfl) rfl⟩
 ·
  rintro ⟨_, _⟩ rfl
  try dsimp only at hm0
  refine V.seq ?_
  replace hm0 := bindO hm0; rcases hm0 with ⟨y4, hh5, hm0⟩
  refine V.region ?_
  refine VO.cons rfl (V1.move rfl rfl rfl lt0 ?_)
  refine VO.cons rfl (V1.call rfl rfl rfl cok_109 rfl (ok_spec_l15Text hh5) rfl lt0 ?_)
  rintro _ _ ⟨rfl, rfl⟩
  refine VO.cons rfl (V1.move rfl rfl rfl lt0 ?_)
  apply VO.and (n := 3) rfl rfl rfl rfl rfl rfl lt0 (.none rfl)
  ·
   intro hg4
   refine VO.step (.some rfl rfl rfl) (V1.move rfl rfl rfl lt0 ?_)
   refine VO.step (.some rfl rfl rfl) (V1.lenMap rfl rfl rfl rfl rfl rfl isl_58 lt0 ?_)
   refine VO.step (.some rfl rfl rfl) (V1.int rfl rfl rfl rfl rfl lt0 ?_)
   exact VO.nil ⟨rfl, rfl, rfl, rfl, .inr ⟨rfl, .inr ⟨rfl, .inr ⟨rfl, .inr ⟨rfl, .inl rfl⟩⟩⟩⟩⟩
  refine VO.cons rfl (V1.assign rfl rfl rfl lt0 ?_)
  refine VO.nil ?_
  refine V.ret ?_
  obtain rfl := Option.some.inj hm0
  exact ⟨_, [], ⟨_, _, rfl, rfl, rfl⟩, List.nil_sublist _, rfl, rfl⟩

theorem ok_spec_l2Word {rn : Nat} {s : List UInt8} {r : Bool} (h : M.spec_l2Word s = some r) : Does Tryd.prog 102 [.str s] [] rn (fun x H => x = .bool r ∧ H = []) := by
 have hm0 := h; clear h; unfold M.spec_l2Word at hm0
 try dsimp only at hm0
 refine Does.intro (N := 23) Tryd.func102 rfl rfl rfl rfl ?_
 intro w0 S0 L0
 refine V.seq ?_
 refine V.region ?_
 refine VO.cons rfl (V1.assign rfl rfl rfl lt0 ?_)
 refine VO.nil ?_
 refine V.seq ?_
 refine V.seq ?_
 refine V.region ?_
 refine VO.cons rfl (V1.assign rfl rfl rfl lt0 ?_)
 refine VO.nil ?_
 replace hm0 := bindO hm0; rcases hm0 with ⟨e0, he1, hm0⟩
 refine V.cutT (D := (Unit) × (Unit)) (fun ⟨_, _⟩ => ⟨23, [(0, .str s)], []⟩) (fun ⟨_, _⟩ => (.inl () = e0)) ?_ ?_
 ·
  refine V.block ?_
  refine V.keep 23 [3, 0] [] (E0 := [(3, .int .i64 (0 : Int)), (0, .str s)]) (H0 := []) rfl (⟨_, _, rfl, rfl, _, _, rfl, rfl, rfl⟩) (rfl) rfl ?_
  refine V.loopE (D := Nat × (Int) × (Unit)) (fun ⟨n0, i, _⟩ => [(3, .int .i64 i)]) (fun ⟨n0, i, _⟩ => []) (fun ⟨n0, i, _⟩ => loopO (M.spec_l2Word_l0 s) n0 i = some e0) (fun ⟨n0, _, _⟩ => n0) (rounds, (0 : Int), ()) rfl he1 ?_
  rintro ⟨n0, i, _⟩ hP0
  obtain ⟨m0, y0, rfl, hm1, hl1, hr1⟩ := loop_head hP0
  unfold M.spec_l2Word_l0 at hm1; dsimp only at hm1
  show V _ _ _ ⟨23, [(3, .int .i64 i), (0, .str s)], []⟩
  refine V.seq ?_
  refine V.seq ?_
  refine V.region ?_
  refine VO.cons rfl (V1.move rfl rfl rfl lt0 ?_)
  refine VO.cons rfl (V1.move rfl rfl rfl lt0 ?_)
  refine VO.cons rfl (V1.lenStr rfl rfl rfl rfl rfl rfl istr_9 lt0 ?_)
  refine VO.cons rfl (V1.int rfl rfl rfl rfl rfl lt0 ?_)
  refine VO.nil ?_
  refine V.cond rfl (fun hc0 => ?_) (fun hc0 => ?_)
  ·
   replace hm1 := cond_t hc0 hm1
   refine V.skip ?_
   refine V.keep 23 [0, 3] [] (E0 := [(0, .str s), (3, .int .i64 i)]) (H0 := []) rfl (⟨_, _, rfl, rfl, _, _, rfl, rfl, rfl⟩) (rfl) rfl ?_
   refine V.seq ?_
   refine V.block ?_
   refine V.seq ?_
   replace hm1 := asrt_some hm1; rcases hm1 with ⟨hh0, hm1⟩
   replace hm1 := asrt_some hm1; rcases hm1 with ⟨hh1, hm1⟩
   refine V.region ?_
   refine VO.cons rfl (V1.move rfl rfl rfl lt0 ?_)
   refine VO.cons rfl (V1.move rfl rfl rfl lt0 ?_)
   refine VO.cons rfl (V1.indexStrI rfl rfl istr_9 rfl rfl hh0 lt0 ?_)
   refine VO.cons rfl (V1.int rfl rfl rfl rfl rfl lt0 ?_)
   refine VO.cons rfl (V1.move rfl rfl rfl lt0 ?_)
   apply VO.or (n := 4) rfl rfl rfl rfl rfl rfl lt0 (.none rfl)
   ·
    intro hg0
    refine VO.step (.some rfl rfl rfl) (V1.move rfl rfl rfl lt0 ?_)
    refine VO.step (.some rfl rfl rfl) (V1.move rfl rfl rfl lt0 ?_)
    refine VO.step (.some rfl rfl rfl) (V1.indexStrI rfl rfl istr_9 rfl rfl (hh1 hg0) lt0 ?_)
    refine VO.step (.some rfl rfl rfl) (V1.int rfl rfl rfl rfl rfl lt0 ?_)
    exact VO.nil ⟨rfl, rfl, rfl, rfl, .inr ⟨rfl, .inr ⟨rfl, .inr ⟨rfl, .inr ⟨rfl, .inr ⟨rfl, .inl rfl⟩⟩⟩⟩⟩⟩
   refine VO.nil ?_
   refine V.keep 23 [0, 3, 19] [] (E0 := [(0, .str s), (3, .int .i64 i), (19, .bool ((decide (((s.getD (Int.toNat i) 0).toNat : Int) < (97 : Int))) || (decide (((s.getD (Int.toNat i) 0).toNat : Int) > (122 : Int)))))]) (H0 := []) rfl (⟨_, _, rfl, rfl, _, _, rfl, rfl, _, _, rfl, rfl, rfl⟩) (rfl) rfl ?_
   refine V.cond rfl (fun hc1 => ?_) (fun hc1 => ?_)
   ·
    replace hm1 := cond_t hc1 hm1
    refine V.seq ?_
    refine V.region ?_
    refine VO.cons rfl (V1.assign rfl rfl rfl lt0 ?_)
    refine VO.nil ?_
    refine V.ret ?_
    obtain rfl := hr1 _ (Option.some.inj hm1).symm
    change some _ = some _ at hm0
    obtain rfl := Option.some.inj hm0
    exact ⟨_, [], ⟨_, _, rfl, rfl, rfl⟩, List.nil_sublist _, rfl, rfl⟩
   ·
    replace hm1 := cond_f hc1 hm1
    refine V.skip ?_
    refine V.region ?_
    refine VO.cons rfl (V1.move rfl rfl rfl lt0 ?_)
    refine VO.cons rfl (V1.int rfl rfl rfl rfl rfl lt0 ?_)
    refine VO.cons rfl (V1.assign rfl rfl rfl lt0 ?_)
    refine VO.nil ?_
    exact ⟨(m0, (IntKind.i64.wrap (i + (1 : Int))), ()), hl1 _ (Option.some.inj hm1).symm, Nat.lt_succ_self _, Keeps.mk (ks := []) rfl ⟨rfl, rfl, trivial⟩ (rfl) rfl⟩
  ·
   replace hm1 := cond_f hc0 hm1
   refine V.exit ?_
   obtain rfl := hr1 _ (Option.some.inj hm1).symm
   exact ⟨((), ()), rfl, Keeps.mk (ks := []) rfl ⟨rfl, trivial⟩ (rfl) rfl⟩
 ·
  rintro ⟨_, _⟩ rfl
  try dsimp only at hm0
  refine V.seq ?_
  replace hm0 := bindO hm0; rcases hm0 with ⟨y1, hh2, hm0⟩
  refine V.region ?_
  refine VO.cons rfl (V1.move rfl rfl rfl lt0 ?_)
  refine VO.cons rfl (V1.lenStr rfl rfl rfl rfl rfl rfl istr_9 lt0 ?_)
  refine VO.cons rfl (V1.call rfl rfl rfl cok_75 rfl (ok_spec_l1In hh2) rfl lt0 ?_)
  rintro _ _ ⟨rfl, rfl⟩
  refine VO.cons rfl (V1.assign rfl rfl rfl lt0 ?_)
  refine VO.nil ?_
  refine V.ret ?_
  obtain rfl := Option.some.inj hm0
  exact ⟨_, [], ⟨_, _, rfl, rfl, rfl⟩, List.nil_sublist _, rfl, rfl⟩

theorem ok_spec_l15Places {rn : Nat} {text : List UInt8} {word : List UInt8} {r : List Int} (h : M.spec_l15Places text word = some r) : Does Tryd.prog 103 [.str text, .str word] [] rn (fun x H => ∃ (ob0_ : Nat), x = PV.sref ob0_ 1 0 (List.length r) ∧ H = [(ob0_, ⟨1, List.map encInt r⟩)]) := by
 have hm0 := h; clear h; unfold M.spec_l15Places at hm0
 try dsimp only at hm0
 refine Does.intro (N := 59) Tryd.func103 rfl rfl rfl rfl ?_
 intro w0 S0 L0
 refine V.seq ?_
 refine V.region ?_
 refine VO.cons rfl (V1.assign rfl rfl rfl lt0 ?_)
 refine VO.nil ?_
 refine V.seq ?_
 refine V.region ?_
 refine VO.cons rfl (V1.buildSliceT (f := encInt) ([] : List Int) rfl rfl esz_27 zk_3 rfl rfl rfl rfl rfl rfl rfl lt0 ?_)
 intro b0
 refine VO.cons rfl (V1.move rfl rfl rfl lt0 ?_)
 refine VO.cons rfl (V1.lenStr rfl rfl rfl rfl rfl rfl istr_9 lt0 ?_)
 refine VO.cons rfl (V1.assign rfl rfl rfl lt0 ?_)
 refine VO.cons rfl (V1.assign rfl rfl rfl lt0 ?_)
 refine VO.nil ?_
 refine V.keep 59 [0, 1, 5, 6] [0] (E0 := [(0, .str text), (1, .str word), (5, .sref b0 1 0 (List.length ([] : List Int))), (6, .int .i64 (word.length : Int))]) (H0 := [(b0, ⟨1, List.map encInt ([] : List Int)⟩)]) rfl (⟨_, _, rfl, rfl, _, _, rfl, rfl, _, _, rfl, rfl, _, _, rfl, rfl, rfl⟩) (⟨_, _, rfl, rfl, rfl⟩) rfl ?_
 refine V.seq ?_
 refine V.seq ?_
 refine V.region ?_
 refine VO.cons rfl (V1.assign rfl rfl rfl lt0 ?_)
 refine VO.nil ?_
 replace hm0 := bindO hm0; rcases hm0 with ⟨e0, he1, hm0⟩
 refine V.cutT (D := (List Int) × (Nat)) (fun ⟨out_, b1⟩ => ⟨59, [(5, .sref b1 1 0 (List.length out_))], [(b1, ⟨1, List.map encInt out_⟩)]⟩) (fun ⟨out_, b1⟩ => (out_ = e0)) ?_ ?_
 ·
  refine V.block ?_
  refine V.keep 59 [5, 7, 0, 1, 6] [0] (E0 := [(5, .sref b0 1 0 (List.length ([] : List Int))), (7, .int .i64 (0 : Int)), (0, .str text), (1, .str word), (6, .int .i64 (word.length : Int))]) (H0 := [(b0, ⟨1, List.map encInt ([] : List Int)⟩)]) rfl (⟨_, _, rfl, rfl, _, _, rfl, rfl, _, _, rfl, rfl, _, _, rfl, rfl, _, _, rfl, rfl, rfl⟩) (⟨_, _, rfl, rfl, rfl⟩) rfl ?_
  refine V.loopE (D := Nat × (List Int × Int) × (Nat)) (fun ⟨n0, ⟨out_0, i⟩, b2⟩ => [(5, .sref b2 1 0 (List.length out_0)), (7, .int .i64 i)]) (fun ⟨n0, ⟨out_0, i⟩, b2⟩ => [(b2, ⟨1, List.map encInt out_0⟩)]) (fun ⟨n0, ⟨out_0, i⟩, b2⟩ => loopO (M.spec_l15Places_l0 text word) n0 (out_0, i) = some e0) (fun ⟨n0, _, _⟩ => n0) (rounds, (([] : List Int), (0 : Int)), b0) rfl he1 ?_
  rintro ⟨n0, ⟨out_0, i⟩, b2⟩ hP0
  obtain ⟨m0, y0, rfl, hm1, hl1, hr1⟩ := loop_head hP0
  unfold M.spec_l15Places_l0 at hm1; dsimp only at hm1
  show V _ _ _ ⟨59, [(5, .sref b2 1 0 (List.length out_0)), (7, .int .i64 i), (0, .str text), (1, .str word), (6, .int .i64 (word.length : Int))], [(b2, ⟨1, List.map encInt out_0⟩)]⟩
  refine V.seq ?_
  refine V.seq ?_
  refine V.region ?_
  refine VO.cons rfl (V1.move rfl rfl rfl lt0 ?_)
  refine VO.cons rfl (V1.move rfl rfl rfl lt0 ?_)
  refine VO.cons rfl (V1.int rfl rfl rfl rfl rfl lt0 ?_)
  refine VO.cons rfl (V1.move rfl rfl rfl lt0 ?_)
  refine VO.cons rfl (V1.lenStr rfl rfl rfl rfl rfl rfl istr_9 lt0 ?_)
  refine VO.cons rfl (V1.int rfl rfl rfl rfl rfl lt0 ?_)
  refine VO.nil ?_
  refine V.keep 59 [0, 1, 5, 6, 7, 16] [0] (E0 := [(0, .str text), (1, .str word), (5, .sref b2 1 0 (List.length out_0)), (6, .int .i64 (word.length : Int)), (7, .int .i64 i), (16, .bool (decide ((IntKind.i64.wrap (i + (word.length : Int))) ≤ (text.length : Int))))]) (H0 := [(b2, ⟨1, List.map encInt out_0⟩)]) rfl (⟨_, _, rfl, rfl, _, _, rfl, rfl, _, _, rfl, rfl, _, _, rfl, rfl, _, _, rfl, rfl, _, _, rfl, rfl, rfl⟩) (⟨_, _, rfl, rfl, rfl⟩) rfl ?_
  refine V.cond rfl (fun hc0 => ?_) (fun hc0 => ?_)
  ·
   replace hm1 := cond_t hc0 hm1
   refine V.skip ?_
   refine V.seq ?_
   replace hm1 := bindO hm1; rcases hm1 with ⟨j0, hm2, hm1⟩
   refine V.cutT (D := (List Int) × (Nat)) (fun ⟨out_1, b3⟩ => ⟨59, [(5, .sref b3 1 0 (List.length out_1)), (0, .str text), (1, .str word), (6, .int .i64 (word.length : Int)), (7, .int .i64 i)], [(b3, ⟨1, List.map encInt out_1⟩)]⟩) (fun ⟨out_1, b3⟩ => (out_1 = j0)) ?_ ?_
   ·
    refine V.block ?_
    refine V.seq ?_
    refine V.seq ?_
    replace hm2 := asrt_some hm2; rcases hm2 with ⟨hh0, hm2⟩
    replace hm2 := asrt_some hm2; rcases hm2 with ⟨hh1, hm2⟩
    replace hm2 := bindO hm2; rcases hm2 with ⟨y1, hh2, hm2⟩
    replace hm2 := asrt_some hm2; rcases hm2 with ⟨hh3, hm2⟩
    replace hm2 := bindO hm2; rcases hm2 with ⟨y2, hh4, hm2⟩
    refine V.region ?_
    refine VO.cons rfl (V1.move rfl rfl rfl lt0 ?_)
    refine VO.cons rfl (V1.move rfl rfl rfl lt0 ?_)
    refine VO.cons rfl (V1.move rfl rfl rfl lt0 ?_)
    refine VO.cons rfl (V1.move rfl rfl rfl lt0 ?_)
    refine VO.cons rfl (V1.int rfl rfl rfl rfl rfl lt0 ?_)
    refine VO.cons rfl (V1.sliceStrI (a := i) (b := (IntKind.i64.wrap (i + (word.length : Int)))) rfl rfl istr_9 rfl (Bnd.some rfl hh0.1 _) (Bnd.some rfl (Int.le_trans hh0.1 hh0.2.1) _) hh0 lt0 ?_)
    refine VO.cons rfl (V1.move rfl rfl rfl lt0 ?_)
    refine VO.cons rfl (V1.str rfl rfl rfl rfl rfl lt0 ?_)
    refine VO.cons rfl (V1.move rfl rfl rfl lt0 ?_)
    apply VO.or (n := 9) rfl rfl rfl rfl rfl rfl lt0 (.none rfl)
    ·
     intro hg0
     refine VO.step (.some rfl rfl rfl) (V1.move rfl rfl rfl lt0 ?_)
     refine VO.step (.some rfl rfl rfl) (V1.int rfl rfl rfl rfl rfl lt0 ?_)
     refine VO.step (.some rfl rfl rfl) (V1.move rfl rfl rfl lt0 ?_)
     apply VO.and (n := 5) rfl rfl rfl rfl rfl rfl lt0 (.some rfl rfl rfl)
     ·
      intro hg1
      refine VO.step (.some rfl rfl rfl) (V1.move rfl rfl rfl lt0 ?_)
      refine VO.step (.some rfl rfl rfl) (V1.move rfl rfl rfl lt0 ?_)
      refine VO.step (.some rfl rfl rfl) (V1.int rfl rfl rfl rfl rfl lt0 ?_)
      refine VO.step (.some rfl rfl rfl) (V1.indexStrI rfl rfl istr_9 rfl rfl (hh1 hg0 hg1) lt0 ?_)
      refine VO.step (.some rfl rfl rfl) (V1.call rfl rfl rfl cok_136 rfl (ok_spec_l15Letter (cond_t hg1 (cond_f hg0 hh2))) rfl lt0 ?_)
      rintro _ _ ⟨rfl, rfl⟩
      exact VO.nil ⟨rfl, rfl, rfl, rfl, .inr ⟨rfl, .inr ⟨rfl, .inr ⟨rfl, .inr ⟨rfl, .inr ⟨rfl, .inr ⟨rfl, .inl rfl⟩⟩⟩⟩⟩⟩⟩
     exact VO.nil ⟨rfl, rfl, rfl, rfl, .inr ⟨rfl, .inr ⟨rfl, .inr ⟨rfl, .inr ⟨rfl, .inr ⟨rfl, .inl rfl⟩⟩⟩⟩⟩⟩
    refine VO.cons rfl (V1.move rfl rfl rfl lt0 ?_)
    apply VO.or (n := 14) rfl rfl rfl rfl rfl rfl lt0 (.none rfl)
    ·
     intro hg2
     refine VO.step (.some rfl rfl rfl) (V1.move rfl rfl rfl lt0 ?_)
     refine VO.step (.some rfl rfl rfl) (V1.move rfl rfl rfl lt0 ?_)
     refine VO.step (.some rfl rfl rfl) (V1.int rfl rfl rfl rfl rfl lt0 ?_)
     refine VO.step (.some rfl rfl rfl) (V1.move rfl rfl rfl lt0 ?_)
     refine VO.step (.some rfl rfl rfl) (V1.lenStr rfl rfl rfl rfl rfl rfl istr_9 lt0 ?_)
     refine VO.step (.some rfl rfl rfl) (V1.int rfl rfl rfl rfl rfl lt0 ?_)
     refine VO.step (.some rfl rfl rfl) (V1.move rfl rfl rfl lt0 ?_)
     apply VO.and (n := 6) rfl rfl rfl rfl rfl rfl lt0 (.some rfl rfl rfl)
     ·
      intro hg3
      refine VO.step (.some rfl rfl rfl) (V1.move rfl rfl rfl lt0 ?_)
      refine VO.step (.some rfl rfl rfl) (V1.move rfl rfl rfl lt0 ?_)
      refine VO.step (.some rfl rfl rfl) (V1.move rfl rfl rfl lt0 ?_)
      refine VO.step (.some rfl rfl rfl) (V1.int rfl rfl rfl rfl rfl lt0 ?_)
      refine VO.step (.some rfl rfl rfl) (V1.indexStrI rfl rfl istr_9 rfl rfl (hh3 hg2 hg3) lt0 ?_)
      refine VO.step (.some rfl rfl rfl) (V1.call rfl rfl rfl cok_136 rfl (ok_spec_l15Letter (cond_t hg3 (cond_f hg2 hh4))) rfl lt0 ?_)
      rintro _ _ ⟨rfl, rfl⟩
      exact VO.nil ⟨rfl, rfl, rfl, rfl, .inr ⟨rfl, .inr ⟨rfl, .inr ⟨rfl, .inr ⟨rfl, .inr ⟨rfl, .inr ⟨rfl, .inr ⟨rfl, .inl rfl⟩⟩⟩⟩⟩⟩⟩⟩
     exact VO.nil ⟨rfl, rfl, rfl, rfl, .inr ⟨rfl, .inr ⟨rfl, .inr ⟨rfl, .inr ⟨rfl, .inr ⟨rfl, .inr ⟨rfl, .inr ⟨rfl, .inr ⟨rfl, .inr ⟨rfl, .inl rfl⟩⟩⟩⟩⟩⟩⟩⟩⟩⟩
    refine VO.nil ?_
    refine V.keep 59 [0, 1, 5, 6, 7, 53] [0] (E0 := [(0, .str text), (1, .str word), (5, .sref b2 1 0 (List.length out_0)), (6, .int .i64 (word.length : Int)), (7, .int .i64 i), (53, .bool (((!((slc text i (IntKind.i64.wrap (i + (word.length : Int)))) == word)) || ((decide (i > (0 : Int))) && y1)) || ((decide ((IntKind.i64.wrap (i + (word.length : Int))) < (text.length : Int))) && y2)))]) (H0 := [(b2, ⟨1, List.map encInt out_0⟩)]) rfl (⟨_, _, rfl, rfl, _, _, rfl, rfl, _, _, rfl, rfl, _, _, rfl, rfl, _, _, rfl, rfl, _, _, rfl, rfl, rfl⟩) (⟨_, _, rfl, rfl, rfl⟩) rfl ?_
    refine V.cond rfl (fun hc1 => ?_) (fun hc1 => ?_)
    ·
     replace hm2 := cond_t hc1 hm2
     refine V.exit ?_
     exact ⟨(out_0, b2), Option.some.inj hm2, Keeps.mk (ks := [0]) rfl ⟨rfl, rfl, rfl, rfl, rfl, trivial⟩ (⟨_, _, rfl, rfl, rfl⟩) rfl⟩
    ·
     replace hm2 := cond_f hc1 hm2
     refine V.skip ?_
     replace hm2 := asrt_some hm2; rcases hm2 with ⟨hh5, hm2⟩
     refine V.region ?_
     refine VO.cons rfl (V1.move rfl rfl rfl lt0 ?_)
     refine VO.cons rfl (V1.move rfl rfl rfl lt0 ?_)
     refine VO.cons rfl (V1.buildSliceT (f := encInt) ([i] : List Int) rfl rfl esz_27 zk_3 rfl rfl rfl rfl rfl rfl rfl lt0 ?_)
     intro b4
     refine VO.cons rfl (V1.appendMap (k := 1) (f := encInt) (l := out_0) (m := ([i] : List Int)) rfl rfl rfl rfl rfl esz_27 eby_27 zk_3 rfl rfl rfl (SrcOf.srMap (k := 0) rfl isl_27) hh5 lt0 ?_)
     intro b5
     refine VO.cons rfl (V1.assign rfl rfl rfl lt0 ?_)
     refine VO.nil ?_
     exact ⟨((out_0 ++ ([i] : List Int)), b5), Option.some.inj hm2, Keeps.mk (ks := [0]) rfl ⟨rfl, rfl, rfl, rfl, rfl, trivial⟩ (⟨_, _, rfl, rfl, rfl⟩) rfl⟩
   ·
    rintro ⟨out_1, b3⟩ rfl
    try dsimp only at hm1
    refine V.region ?_
    refine VO.cons rfl (V1.move rfl rfl rfl lt0 ?_)
    refine VO.cons rfl (V1.int rfl rfl rfl rfl rfl lt0 ?_)
    refine VO.cons rfl (V1.assign rfl rfl rfl lt0 ?_)
    refine VO.nil ?_
    exact ⟨(m0, (out_1, (IntKind.i64.wrap (i + (1 : Int)))), b3), hl1 _ (Option.some.inj hm1).symm, Nat.lt_succ_self _, Keeps.mk (ks := [0]) rfl ⟨rfl, rfl, rfl, rfl, rfl, trivial⟩ (⟨_, _, rfl, rfl, rfl⟩) rfl⟩
  ·
   replace hm1 := cond_f hc0 hm1
   refine V.exit ?_
   obtain rfl := hr1 _ (Option.some.inj hm1).symm
   exact ⟨(out_0, b2), rfl, Keeps.mk (ks := [0]) rfl ⟨rfl, trivial⟩ (⟨_, _, rfl, rfl, rfl⟩) rfl⟩
 ·
  rintro ⟨out_, b1⟩ rfl
  try dsimp only at hm0
  refine V.seq ?_
  refine V.region ?_
  refine VO.cons rfl (V1.move rfl rfl rfl lt0 ?_)
  refine VO.cons rfl (V1.assign rfl rfl rfl lt0 ?_)
  refine VO.nil ?_
  refine V.keep 59 [4] [0] (E0 := [(4, .sref b1 1 0 (List.length out_))]) (H0 := [(b1, ⟨1, List.map encInt out_⟩)]) rfl (⟨_, _, rfl, rfl, rfl⟩) (⟨_, _, rfl, rfl, rfl⟩) rfl ?_
  refine V.ret ?_
  obtain rfl := Option.some.inj hm0
  exact ⟨_, _, ⟨_, _, rfl, rfl, rfl⟩, List.Sublist.refl _, b1, rfl, rfl⟩

theorem ok_spec_l15Touched {ρ0 rn : Nat} {spans : List Span} {from_ : Int} {to_ : Int} {r : Bool} (h : M.spec_l15Touched spans from_ to_ = some r) : Does Tryd.prog 104 [.vl ρ0 3 (List.map encSpan spans), .int .i64 from_, .int .i64 to_] [] rn (fun x H => x = .bool r ∧ H = []) := by
 have hm0 := h; clear h; unfold M.spec_l15Touched at hm0
 try dsimp only at hm0
 refine Does.intro (N := 30) Tryd.func104 rfl rfl rfl rfl ?_
 intro w0 S0 L0
 refine V.seq ?_
 refine V.region ?_
 refine VO.cons rfl (V1.assign rfl rfl rfl lt0 ?_)
 refine VO.nil ?_
 refine V.seq ?_
 refine V.seq ?_
 refine V.region ?_
 refine VO.cons rfl (V1.assign rfl rfl rfl lt0 ?_)
 refine VO.nil ?_
 replace hm0 := bindO hm0; rcases hm0 with ⟨e0, he1, hm0⟩
 refine V.cutT (D := (Unit) × (Unit)) (fun ⟨_, _⟩ => ⟨30, [], []⟩) (fun ⟨_, _⟩ => (.inl () = e0)) ?_ ?_
 ·
  refine V.block ?_
  refine V.keep 30 [7, 0, 1, 2] [] (E0 := [(7, .int .i64 (0 : Int)), (0, .vl ρ0 3 (List.map encSpan spans)), (1, .int .i64 from_), (2, .int .i64 to_)]) (H0 := []) rfl (⟨_, _, rfl, rfl, _, _, rfl, rfl, _, _, rfl, rfl, _, _, rfl, rfl, rfl⟩) (rfl) rfl ?_
  refine V.loopE (D := Nat × (Int) × (Unit)) (fun ⟨n0, i, _⟩ => [(7, .int .i64 i)]) (fun ⟨n0, i, _⟩ => []) (fun ⟨n0, i, _⟩ => loopO (M.spec_l15Touched_l0 spans from_ to_) n0 i = some e0) (fun ⟨n0, _, _⟩ => n0) (rounds, (0 : Int), ()) rfl he1 ?_
  rintro ⟨n0, i, _⟩ hP0
  obtain ⟨m0, y0, rfl, hm1, hl1, hr1⟩ := loop_head hP0
  unfold M.spec_l15Touched_l0 at hm1; dsimp only at hm1
  show V _ _ _ ⟨30, [(7, .int .i64 i), (0, .vl ρ0 3 (List.map encSpan spans)), (1, .int .i64 from_), (2, .int .i64 to_)], []⟩
  refine V.seq ?_
  refine V.seq ?_
  refine V.region ?_
  refine VO.cons rfl (V1.move rfl rfl rfl lt0 ?_)
  refine VO.cons rfl (V1.move rfl rfl rfl lt0 ?_)
  refine VO.cons rfl (V1.lenMap rfl rfl rfl rfl rfl rfl isl_58 lt0 ?_)
  refine VO.cons rfl (V1.int rfl rfl rfl rfl rfl lt0 ?_)
  refine VO.nil ?_
  refine V.cond rfl (fun hc0 => ?_) (fun hc0 => ?_)
  ·
   replace hm1 := cond_t hc0 hm1
   refine V.skip ?_
   refine V.keep 30 [0, 1, 2, 7] [] (E0 := [(0, .vl ρ0 3 (List.map encSpan spans)), (1, .int .i64 from_), (2, .int .i64 to_), (7, .int .i64 i)]) (H0 := []) rfl (⟨_, _, rfl, rfl, _, _, rfl, rfl, _, _, rfl, rfl, _, _, rfl, rfl, rfl⟩) (rfl) rfl ?_
   refine V.seq ?_
   refine V.block ?_
   refine V.seq ?_
   replace hm1 := asrt_some hm1; rcases hm1 with ⟨hh0, hm1⟩
   replace hm1 := asrt_some hm1; rcases hm1 with ⟨hh1, hm1⟩
   refine V.region ?_
   refine VO.cons rfl (V1.move rfl rfl rfl lt0 ?_)
   refine VO.cons rfl (V1.move rfl rfl rfl lt0 ?_)
   refine VO.cons rfl (V1.indexI rfl rfl esz_58 rfl rfl hh0 lt0 ?_)
   refine VO.cons rfl (V1.fieldPin rfl rfl fo_66_0 rfl lt0 ?_)
   refine VO.cons rfl (V1.loadPin rfl rfl tyk_3 rfl rfl lt0 ?_)
   refine VO.cons rfl (V1.move rfl rfl rfl lt0 ?_)
   refine VO.cons rfl (V1.int rfl rfl rfl rfl rfl lt0 ?_)
   refine VO.cons rfl (V1.move rfl rfl rfl lt0 ?_)
   apply VO.and (n := 7) rfl rfl rfl rfl rfl rfl lt0 (.none rfl)
   ·
    intro hg0
    refine VO.step (.some rfl rfl rfl) (V1.move rfl rfl rfl lt0 ?_)
    refine VO.step (.some rfl rfl rfl) (V1.move rfl rfl rfl lt0 ?_)
    refine VO.step (.some rfl rfl rfl) (V1.move rfl rfl rfl lt0 ?_)
    refine VO.step (.some rfl rfl rfl) (V1.indexI rfl rfl esz_58 rfl rfl (hh1 hg0) lt0 ?_)
    refine VO.step (.some rfl rfl rfl) (V1.fieldPin rfl rfl fo_66_1 rfl lt0 ?_)
    refine VO.step (.some rfl rfl rfl) (V1.loadPin rfl rfl tyk_3 rfl rfl lt0 ?_)
    refine VO.step (.some rfl rfl rfl) (V1.int rfl rfl rfl rfl rfl lt0 ?_)
    exact VO.nil ⟨rfl, rfl, rfl, rfl, .inr ⟨rfl, .inr ⟨rfl, .inr ⟨rfl, .inr ⟨rfl, .inr ⟨rfl, .inr ⟨rfl, .inr ⟨rfl, .inr ⟨rfl, .inl rfl⟩⟩⟩⟩⟩⟩⟩⟩⟩
   refine VO.nil ?_
   refine V.keep 30 [0, 1, 2, 7, 29] [] (E0 := [(0, .vl ρ0 3 (List.map encSpan spans)), (1, .int .i64 from_), (2, .int .i64 to_), (7, .int .i64 i), (29, .bool ((decide (((spans.getD (Int.toNat i) default).From) < to_)) && (decide (from_ < ((spans.getD (Int.toNat i) default).To)))))]) (H0 := []) rfl (⟨_, _, rfl, rfl, _, _, rfl, rfl, _, _, rfl, rfl, _, _, rfl, rfl, _, _, rfl, rfl, rfl⟩) (rfl) rfl ?_
   refine V.cond rfl (fun hc1 => ?_) (fun hc1 => ?_)
   ·
    replace hm1 := cond_t hc1 hm1
    refine V.seq ?_
    refine V.region ?_
    refine VO.cons rfl (V1.assign rfl rfl rfl lt0 ?_)
    refine VO.nil ?_
    refine V.ret ?_
    obtain rfl := hr1 _ (Option.some.inj hm1).symm
    change some _ = some _ at hm0
    obtain rfl := Option.some.inj hm0
    exact ⟨_, [], ⟨_, _, rfl, rfl, rfl⟩, List.nil_sublist _, rfl, rfl⟩
   ·
    replace hm1 := cond_f hc1 hm1
    refine V.skip ?_
    refine V.region ?_
    refine VO.cons rfl (V1.move rfl rfl rfl lt0 ?_)
    refine VO.cons rfl (V1.int rfl rfl rfl rfl rfl lt0 ?_)
    refine VO.cons rfl (V1.assign rfl rfl rfl lt0 ?_)
    refine VO.nil ?_
    exact ⟨(m0, (IntKind.i64.wrap (i + (1 : Int))), ()), hl1 _ (Option.some.inj hm1).symm, Nat.lt_succ_self _, Keeps.mk (ks := []) rfl ⟨rfl, rfl, rfl, rfl, trivial⟩ (rfl) rfl⟩
  ·
   replace hm1 := cond_f hc0 hm1
   refine V.exit ?_
   obtain rfl := hr1 _ (Option.some.inj hm1).symm
   exact ⟨((), ()), rfl, Keeps.mk (ks := []) rfl trivial (rfl) rfl⟩
 ·
  rintro ⟨_, _⟩ rfl
  try dsimp only at hm0
  refine V.seq ?_
  refine V.region ?_
  refine VO.cons rfl (V1.assign rfl rfl rfl lt0 ?_)
  refine VO.nil ?_
  refine V.ret ?_
  obtain rfl := Option.some.inj hm0
  exact ⟨_, [], ⟨_, _, rfl, rfl, rfl⟩, List.nil_sublist _, rfl, rfl⟩

theorem ok_spec_l15Insert {ρ0 rn : Nat} {spans : List Span} {s : Span} {r : List Span} (h : M.spec_l15Insert spans s = some r) : Does Tryd.prog 105 [.vl ρ0 3 (List.map encSpan spans), encSpan s] [] rn (fun x H => ∃ (ob0_ : Nat), x = PV.sref ob0_ 3 0 (List.length r) ∧ H = [(ob0_, ⟨3, List.map encSpan r⟩)]) := by
 have hm0 := h; clear h; unfold M.spec_l15Insert at hm0
 try dsimp only at hm0
 refine Does.intro (N := 34) Tryd.func105 rfl rfl rfl rfl ?_
 intro w0 S0 L0
 refine V.seq ?_
 refine V.region ?_
 refine VO.cons rfl (V1.boxN (n := 3) rfl rfl rfl rfl rfl lt0 ?_)
 intro b0
 refine VO.cons rfl (V1.assign rfl rfl rfl lt0 ?_)
 refine VO.nil ?_
 refine V.seq ?_
 refine V.region ?_
 refine VO.cons rfl (V1.assign rfl rfl rfl lt0 ?_)
 refine VO.nil ?_
 refine V.seq ?_
 replace hm0 := bindO hm0; rcases hm0 with ⟨e0, he1, hm0⟩
 refine V.cutT (D := (Int) × (Unit)) (fun ⟨k, _⟩ => ⟨34, [(5, .int .i64 k), (0, .vl ρ0 3 (List.map encSpan spans)), (3, .ref b0 3 0 0)], [(b0, ⟨3, [encSpan s]⟩)]⟩) (fun ⟨k, _⟩ => (k = e0)) ?_ ?_
 ·
  refine V.block ?_
  refine V.keep 34 [5, 0, 3] [0] (E0 := [(5, .int .i64 (0 : Int)), (0, .vl ρ0 3 (List.map encSpan spans)), (3, .ref b0 3 0 0)]) (H0 := [(b0, ⟨3, [encSpan s]⟩)]) rfl (⟨_, _, rfl, rfl, _, _, rfl, rfl, _, _, rfl, rfl, rfl⟩) (⟨_, _, rfl, rfl, rfl⟩) rfl ?_
  refine V.loopE (D := Nat × (Int) × (Unit)) (fun ⟨n0, k0, _⟩ => [(5, .int .i64 k0)]) (fun ⟨n0, k0, _⟩ => []) (fun ⟨n0, k0, _⟩ => loopO (M.spec_l15Insert_l0 spans s) n0 k0 = some e0) (fun ⟨n0, _, _⟩ => n0) (rounds, (0 : Int), ()) rfl he1 ?_
  rintro ⟨n0, k0, _⟩ hP0
  obtain ⟨m0, y0, rfl, hm1, hl1, hr1⟩ := loop_head hP0
  unfold M.spec_l15Insert_l0 at hm1; dsimp only at hm1
  show V _ _ _ ⟨34, [(5, .int .i64 k0), (0, .vl ρ0 3 (List.map encSpan spans)), (3, .ref b0 3 0 0)], [(b0, ⟨3, [encSpan s]⟩)]⟩
  refine V.seq ?_
  refine V.seq ?_
  replace hm1 := asrt_some hm1; rcases hm1 with ⟨hh0, hm1⟩
  refine V.regionM 34 14 [⟨[(5, none)], [], none⟩, ⟨[(0, none)], [], none⟩, ⟨[(7, some 0)], [], none⟩, ⟨[(6, some 2), (8, some 0)], [], none⟩, ⟨[(9, some 0)], [], none⟩, ⟨[(0, none)], [(0, true)], none⟩, ⟨[(5, none)], [(1, true)], none⟩, ⟨[(11, some 1), (12, some 0)], [(2, true)], none⟩, ⟨[(13, some 0)], [(3, true)], none⟩, ⟨[(14, some 0)], [(4, true)], none⟩, ⟨[(3, none)], [(5, true)], none⟩, ⟨[(16, some 0)], [(6, true)], none⟩, ⟨[(15, some 2), (17, some 0)], [(7, true)], none⟩, ⟨[], [], some (true, 10, 18, 8, 0)⟩] [(0, none), (3, none), (5, none), (19, some 0)] (⟨_, rfl, ⟨_, rfl, ⟨_, rfl, ⟨_, rfl, ⟨_, rfl, ⟨_, rfl, ⟨_, rfl, ⟨_, rfl, ⟨_, rfl, ⟨_, rfl, ⟨_, rfl, ⟨_, rfl, ⟨_, rfl, ⟨_, rfl, ⟨rfl, rfl⟩⟩⟩⟩⟩⟩⟩⟩⟩⟩⟩⟩⟩⟩⟩) mixed_orders rfl (by decide +kernel) (fun hck2 => ?_)
  refine VP.step (p := ?pv123) rfl rfl rfl (⟨_, _, rfl, rfl, rfl⟩) ?hv123 ?rest123 hck2
  case hv123 =>
   intro E1
   refine (V1.move rfl rfl rfl lt0 ?_)
   exact rfl
  refine VP.step (p := ?pv124) rfl rfl rfl (⟨_, _, rfl, rfl, rfl⟩) ?hv124 ?rest124 hck2
  case hv124 =>
   intro E1
   refine (V1.move rfl rfl rfl lt0 ?_)
   exact rfl
  refine VP.step (p := ?pv125) rfl rfl rfl (⟨_, _, rfl, rfl, rfl⟩) ?hv125 ?rest125 hck2
  case hv125 =>
   intro E1
   refine (V1.lenMap rfl rfl rfl rfl rfl rfl isl_58 lt0 ?_)
   exact rfl
  refine VP.step (p := ?pv126) rfl rfl rfl (⟨_, _, rfl, rfl, _, _, rfl, rfl, rfl⟩) ?hv126 ?rest126 hck2
  case hv126 =>
   intro E1
   refine (V1.int rfl rfl rfl rfl rfl lt0 ?_)
   exact rfl
  refine VP.step (p := ?pv127) rfl rfl rfl (⟨_, _, rfl, rfl, rfl⟩) ?hv127 ?rest127 hck2
  case hv127 =>
   intro E1
   refine (V1.move rfl rfl rfl lt0 ?_)
   exact rfl
  refine VP.step (p := ?pv128) rfl rfl rfl (⟨_, _, rfl, rfl, rfl⟩) ?hv128 ?rest128 hck2
  case hv128 =>
   refine ⟨_, rfl, fun hg0 => ?_⟩
   intro E1
   refine (V1.move rfl rfl rfl lt0 ?_)
   exact rfl
  refine VP.step (p := ?pv129) rfl rfl rfl (⟨_, _, rfl, rfl, rfl⟩) ?hv129 ?rest129 hck2
  case hv129 =>
   refine ⟨_, rfl, fun hg0 => ?_⟩
   intro E1
   refine (V1.move rfl rfl rfl lt0 ?_)
   exact rfl
  refine VP.step (p := ?pv130) rfl rfl rfl (⟨_, _, rfl, rfl, _, _, rfl, rfl, rfl⟩) ?hv130 ?rest130 hck2
  case hv130 =>
   refine ⟨_, rfl, fun hg0 => ?_⟩
   intro E1
   refine (V1.indexI rfl rfl esz_58 rfl rfl (hh0 hg0) lt0 ?_)
   exact rfl
  refine VP.step (p := ?pv131) rfl rfl rfl (⟨_, _, rfl, rfl, rfl⟩) ?hv131 ?rest131 hck2
  case hv131 =>
   refine ⟨_, rfl, fun hg0 => ?_⟩
   intro E1
   refine (V1.fieldPin rfl rfl fo_66_0 rfl lt0 ?_)
   exact rfl
  refine VP.step (p := ?pv132) rfl rfl rfl (⟨_, _, rfl, rfl, rfl⟩) ?hv132 ?rest132 hck2
  case hv132 =>
   refine ⟨_, rfl, fun hg0 => ?_⟩
   intro E1
   refine (V1.loadPin rfl rfl tyk_3 rfl rfl lt0 ?_)
   exact rfl
  refine VP.step (p := ?pv133) rfl rfl rfl (⟨_, _, rfl, rfl, rfl⟩) ?hv133 ?rest133 hck2
  case hv133 =>
   refine ⟨_, rfl, fun hg0 => ?_⟩
   intro E1
   refine (V1.fieldRef rfl rfl fo_66_0 rfl lt0 ?_)
   exact rfl
  refine VP.step (p := ?pv134) rfl rfl rfl (⟨_, _, rfl, rfl, rfl⟩) ?hv134 ?rest134 hck2
  case hv134 =>
   refine ⟨_, rfl, fun hg0 => ?_⟩
   intro E1
   refine (V1.loadRef (k := 0) rfl rfl tyk_3 rfl rfl rfl rfl rfl lt0 ?_)
   exact rfl
  refine VP.step (p := ?pv135) rfl rfl rfl (⟨_, _, rfl, rfl, _, _, rfl, rfl, rfl⟩) ?hv135 ?rest135 hck2
  case hv135 =>
   refine ⟨_, rfl, fun hg0 => ?_⟩
   intro E1
   refine (V1.int rfl rfl rfl rfl rfl lt0 ?_)
   exact rfl
  refine VP.pickAnd rfl rfl rfl rfl rfl rfl (trivial) ?_ hck2
  refine VP.fin rfl (⟨_, _, rfl, rfl, _, _, rfl, rfl, _, _, rfl, rfl, _, _, rfl, rfl, rfl⟩) ?_
  refine VO.nil ?_
  refine V.cond rfl (fun hc0 => ?_) (fun hc0 => ?_)
  ·
   replace hm1 := cond_t hc0 hm1
   refine V.skip ?_
   refine V.block ?_
   refine V.region ?_
   refine VO.cons rfl (V1.move rfl rfl rfl lt0 ?_)
   refine VO.cons rfl (V1.int rfl rfl rfl rfl rfl lt0 ?_)
   refine VO.cons rfl (V1.assign rfl rfl rfl lt0 ?_)
   refine VO.nil ?_
   exact ⟨(m0, (IntKind.i64.wrap (k0 + (1 : Int))), ()), hl1 _ (Option.some.inj hm1).symm, Nat.lt_succ_self _, Keeps.mk (ks := [0]) rfl ⟨rfl, rfl, rfl, trivial⟩ (⟨_, _, rfl, rfl, rfl⟩) rfl⟩
  ·
   replace hm1 := cond_f hc0 hm1
   refine V.exit ?_
   obtain rfl := hr1 _ (Option.some.inj hm1).symm
   exact ⟨(k0, ()), rfl, Keeps.mk (ks := [0]) rfl ⟨rfl, rfl, rfl, trivial⟩ (⟨_, _, rfl, rfl, rfl⟩) rfl⟩
 ·
  rintro ⟨k, _⟩ rfl
  try dsimp only at hm0
  refine V.seq ?_
  replace hm0 := asrt_some hm0; rcases hm0 with ⟨hh1, hm0⟩
  replace hm0 := asrt_some hm0; rcases hm0 with ⟨hh2, hm0⟩
  replace hm0 := asrt_some hm0; rcases hm0 with ⟨hh3, hm0⟩
  replace hm0 := asrt_some hm0; rcases hm0 with ⟨hh4, hm0⟩
  replace hm0 := asrt_some hm0; rcases hm0 with ⟨hh5, hm0⟩
  refine V.regionS [(b0, ⟨3, [encSpan s]⟩)] 34 11 [⟨[], true⟩, ⟨[(0, none)], false⟩, ⟨[(5, none)], false⟩, ⟨[(23, some 1), (24, some 2)], false⟩, ⟨[(22, some 0), (25, some 3)], true⟩, ⟨[(3, none)], false⟩, ⟨[(27, some 5)], false⟩, ⟨[(26, some 4), (28, some 6)], true⟩, ⟨[(0, none)], false⟩, ⟨[(5, none)], false⟩, ⟨[(30, some 8), (31, some 9)], false⟩] [(29, some 7), (32, some 10)] 3 (⟨_, rfl, ⟨_, rfl, ⟨_, rfl, ⟨_, rfl, ⟨_, rfl, ⟨_, rfl, ⟨_, rfl, ⟨_, rfl, ⟨_, rfl, ⟨_, rfl, ⟨_, rfl, ⟨rfl, rfl⟩⟩⟩⟩⟩⟩⟩⟩⟩⟩⟩⟩) mixed_orders rfl (by decide +kernel) ?_
  refine WalkP.step (p := ?pv136) 1 rfl rfl rfl rfl rfl (⟨_, _, rfl, rfl, rfl⟩) ?hv136 ?rest136
  case hv136 =>
   intro E1 H1 hI1
   refine (V1.move rfl rfl rfl lt0 ?_)
   exact rfl
  refine WalkP.step (p := ?pv137) 2 rfl rfl rfl rfl rfl (⟨_, _, rfl, rfl, rfl⟩) ?hv137 ?rest137
  case hv137 =>
   intro E1 H1 hI1
   refine (V1.move rfl rfl rfl lt0 ?_)
   exact rfl
  refine WalkP.step (p := ?pv138) 3 rfl rfl rfl rfl rfl (⟨_, _, rfl, rfl, _, _, rfl, rfl, rfl⟩) ?hv138 ?rest138
  case hv138 =>
   intro E1 H1 hI1
   refine (V1.sliceMap (a := (0 : Int)) (b := k) rfl rfl esz_58 rfl (Bnd.none _ _) (Bnd.some rfl (Int.le_trans hh1.1 hh1.2.1) _) hh1 lt0 ?_)
   exact rfl
  refine WalkP.step (p := ?pv139) 5 rfl rfl rfl rfl rfl (⟨_, _, rfl, rfl, rfl⟩) ?hv139 ?rest139
  case hv139 =>
   intro E1 H1 hI1
   obtain ⟨k140_, hk140_⟩ := inGet 0 rfl hI1
   refine (V1.loadRefAll (k := k140_) rfl rfl tyk_66 rfl hk140_ rfl rfl rfl lt0 ?_)
   exact rfl
  refine WalkP.step (p := ?pv141) 6 rfl rfl rfl rfl rfl (⟨_, _, rfl, rfl, rfl⟩) ?hv141 ?rest141
  case hv141 =>
   intro E1 H1 hI1
   refine (V1.buildFrz (f := encSpan) ([s] : List Span) (fun _ => rfl) iNil rfl rfl esz_58 zk_66 rfl rfl rfl rfl rfl rfl rfl lt0 ?_)
   exact rfl
  refine WalkP.step (p := ?pv142) 8 rfl rfl rfl rfl rfl (⟨_, _, rfl, rfl, rfl⟩) ?hv142 ?rest142
  case hv142 =>
   intro E1 H1 hI1
   refine (V1.move rfl rfl rfl lt0 ?_)
   exact rfl
  refine WalkP.step (p := ?pv143) 9 rfl rfl rfl rfl rfl (⟨_, _, rfl, rfl, rfl⟩) ?hv143 ?rest143
  case hv143 =>
   intro E1 H1 hI1
   refine (V1.move rfl rfl rfl lt0 ?_)
   exact rfl
  refine WalkP.step (p := ?pv144) 10 rfl rfl rfl rfl rfl (⟨_, _, rfl, rfl, _, _, rfl, rfl, rfl⟩) ?hv144 ?rest144
  case hv144 =>
   intro E1 H1 hI1
   refine (V1.sliceMap (a := k) (b := (spans.length : Int)) rfl rfl esz_58 rfl (Bnd.some rfl hh4.1 _) (Bnd.none _ _) hh4 lt0 ?_)
   exact rfl
  refine WalkP.nil ?_
  refine NodeS.branch [0] (inCons 0 rfl inNil) rfl rfl rfl ⟨?_, trivial⟩
  ·
   refine ⟨_, _, _, _, rfl, rfl, rfl, (rfl), fun E1 => ?_⟩
   refine (V1.buildSliceT (f := encSpan) ([] : List Span) rfl rfl esz_58 zk_66 rfl rfl rfl rfl rfl rfl rfl lt0 ?_)
   intro b7
   refine ⟨_, _, rfl, ?_⟩
   refine WalkP.nil ?_
   refine NodeS.branch [4] (inCons 1 rfl inNil) rfl rfl rfl ⟨?_, trivial⟩
   ·
    refine ⟨_, _, _, _, rfl, rfl, rfl, (⟨_, _, rfl, rfl, _, _, rfl, rfl, rfl⟩), fun E1 => ?_⟩
    refine (V1.appendMap (k := 0) (f := encSpan) (l := ([] : List Span)) (m := (slc spans (0 : Int) k)) rfl rfl rfl rfl rfl esz_58 eby_58 zk_66 rfl rfl rfl (.vl isl_58) hh2 lt0 ?_)
    intro b8
    refine ⟨_, _, rfl, ?_⟩
    refine WalkP.nil ?_
    refine NodeS.branch [7] (inCons 1 rfl inNil) rfl rfl rfl ⟨?_, trivial⟩
    ·
     refine ⟨_, _, _, _, rfl, rfl, rfl, (⟨_, _, rfl, rfl, _, _, rfl, rfl, rfl⟩), fun E1 => ?_⟩
     refine (V1.appendMap (k := 0) (f := encSpan) (l := (([] : List Span) ++ (slc spans (0 : Int) k))) (m := ([s] : List Span)) rfl rfl rfl rfl rfl esz_58 eby_58 zk_66 rfl rfl rfl (.vl isl_58) hh3 lt0 ?_)
     intro b9
     refine ⟨_, _, rfl, ?_⟩
     refine WalkP.nil ?_
     refine NodeS.fin (inCons 1 rfl inNil) rfl rfl rfl (⟨_, _, rfl, rfl, _, _, rfl, rfl, rfl⟩) ?_
     refine VO.cons rfl (V1.appendMap (k := 0) (f := encSpan) (l := ((([] : List Span) ++ (slc spans (0 : Int) k)) ++ ([s] : List Span))) (m := (slc spans k (spans.length : Int))) rfl rfl rfl rfl rfl esz_58 eby_58 zk_66 rfl rfl rfl (.vl isl_58) hh5 lt0 ?_)
     intro b10
     refine VO.cons rfl (V1.assign rfl rfl rfl lt0 ?_)
     refine VO.nil ?_
     refine V.keep 34 [4] [0] (E0 := [(4, .sref b10 3 0 (List.length (((([] : List Span) ++ (slc spans (0 : Int) k)) ++ ([s] : List Span)) ++ (slc spans k (spans.length : Int)))))]) (H0 := [(b10, ⟨3, List.map encSpan (((([] : List Span) ++ (slc spans (0 : Int) k)) ++ ([s] : List Span)) ++ (slc spans k (spans.length : Int)))⟩)]) rfl (⟨_, _, rfl, rfl, rfl⟩) (⟨_, _, rfl, rfl, rfl⟩) rfl ?_
     refine V.ret ?_
     obtain rfl := Option.some.inj hm0
     exact ⟨_, _, ⟨_, _, rfl, rfl, rfl⟩, List.Sublist.refl _, b10, rfl, rfl⟩

theorem ok_spec_HideWord {ρ1 rn : Nat} {text : List UInt8} {spans : List Span} {word : List UInt8} {reason : Int} {r : List Span × Bool} (h : M.spec_HideWord text spans word reason = some r) : Does Tryd.prog 38 [.str text, .vl ρ1 3 (List.map encSpan spans), .str word, .int .i64 reason] [] rn (fun x H => ∃ (ob0_ : Nat), x = .tup [PV.sref ob0_ 3 0 (List.length r.1), .bool r.2] ∧ H = [(ob0_, ⟨3, List.map encSpan r.1⟩)]) := by
 have hm0 := h; clear h; unfold M.spec_HideWord at hm0
 try dsimp only at hm0
 refine Does.intro (N := 71) Tryd.func38 rfl rfl rfl rfl ?_
 intro w0 S0 L0
 refine V.seq ?_
 refine V.region ?_
 refine VO.cons rfl (V1.assign rfl rfl rfl lt0 ?_)
 refine VO.cons rfl (V1.assign rfl rfl rfl lt0 ?_)
 refine VO.nil ?_
 refine V.seq ?_
 refine V.seq ?_
 replace hm0 := bindO hm0; rcases hm0 with ⟨y0, hh0, hm0⟩
 replace hm0 := bindO hm0; rcases hm0 with ⟨y1, hh1, hm0⟩
 replace hm0 := bindO hm0; rcases hm0 with ⟨y2, hh2, hm0⟩
 refine V.region ?_
 refine VO.cons rfl (V1.move rfl rfl rfl lt0 ?_)
 refine VO.cons rfl (V1.move rfl rfl rfl lt0 ?_)
 refine VO.cons rfl (V1.call rfl rfl rfl cok_101 rfl (ok_spec_l15Good hh0) rfl lt0 ?_)
 rintro _ _ ⟨rfl, rfl⟩
 refine VO.cons rfl (V1.not rfl rfl rfl lt0 ?_)
 refine VO.cons rfl (V1.move rfl rfl rfl lt0 ?_)
 apply VO.or (n := 3) rfl rfl rfl rfl rfl rfl lt0 (.none rfl)
 ·
  intro hg0
  refine VO.step (.some rfl rfl rfl) (V1.move rfl rfl rfl lt0 ?_)
  refine VO.step (.some rfl rfl rfl) (V1.call rfl rfl rfl cok_102 rfl (ok_spec_l2Word (cond_f hg0 hh1)) rfl lt0 ?_)
  rintro _ _ ⟨rfl, rfl⟩
  refine VO.step (.some rfl rfl rfl) (V1.not rfl rfl rfl lt0 ?_)
  exact VO.nil ⟨rfl, rfl, rfl, rfl, .inr ⟨rfl, .inr ⟨rfl, .inr ⟨rfl, .inr ⟨rfl, .inl rfl⟩⟩⟩⟩⟩
 refine VO.cons rfl (V1.move rfl rfl rfl lt0 ?_)
 apply VO.or (n := 3) rfl rfl rfl rfl rfl rfl lt0 (.none rfl)
 ·
  intro hg1
  refine VO.step (.some rfl rfl rfl) (V1.move rfl rfl rfl lt0 ?_)
  refine VO.step (.some rfl rfl rfl) (V1.call rfl rfl rfl cok_75 rfl (ok_spec_l1In (cond_f hg1 hh2)) rfl lt0 ?_)
  rintro _ _ ⟨rfl, rfl⟩
  refine VO.step (.some rfl rfl rfl) (V1.not rfl rfl rfl lt0 ?_)
  exact VO.nil ⟨rfl, rfl, rfl, rfl, .inr ⟨rfl, .inr ⟨rfl, .inr ⟨rfl, .inr ⟨rfl, .inl rfl⟩⟩⟩⟩⟩
 refine VO.nil ?_
 refine V.keep 71 [0, 1, 2, 3, 27] [] (E0 := [(0, .str text), (1, .vl ρ1 3 (List.map encSpan spans)), (2, .str word), (3, .int .i64 reason), (27, .bool (((!y0) || (!y1)) || (!y2)))]) (H0 := []) rfl (⟨_, _, rfl, rfl, _, _, rfl, rfl, _, _, rfl, rfl, _, _, rfl, rfl, _, _, rfl, rfl, rfl⟩) (rfl) rfl ?_
 refine V.cond rfl (fun hc0 => ?_) (fun hc0 => ?_)
 ·
  replace hm0 := cond_t hc0 hm0
  refine V.seq ?_
  refine V.region ?_
  refine VO.cons rfl (V1.buildSliceT (f := encSpan) ([] : List Span) rfl rfl esz_58 zk_66 rfl rfl rfl rfl rfl rfl rfl lt0 ?_)
  intro b0
  refine VO.cons rfl (V1.assign rfl rfl rfl lt0 ?_)
  refine VO.cons rfl (V1.assign rfl rfl rfl lt0 ?_)
  refine VO.nil ?_
  refine V.keep 71 [8, 9] [0] (E0 := [(8, .sref b0 3 0 (List.length ([] : List Span))), (9, .bool false)]) (H0 := [(b0, ⟨3, List.map encSpan ([] : List Span)⟩)]) rfl (⟨_, _, rfl, rfl, _, _, rfl, rfl, rfl⟩) (⟨_, _, rfl, rfl, rfl⟩) rfl ?_
  refine V.ret ?_
  obtain rfl := Option.some.inj hm0
  exact ⟨_, _, ⟨_, _, rfl, rfl, _, _, rfl, rfl, rfl⟩, List.Sublist.refl _, b0, rfl, rfl⟩
 ·
  replace hm0 := cond_f hc0 hm0
  refine V.skip ?_
  refine V.seq ?_
  replace hm0 := bindO hm0; rcases hm0 with ⟨y3, hh3, hm0⟩
  replace hm0 := asrt_some hm0; rcases hm0 with ⟨hh4, hm0⟩
  refine V.region ?_
  refine VO.cons rfl (V1.move rfl rfl rfl lt0 ?_)
  refine VO.cons rfl (V1.move rfl rfl rfl lt0 ?_)
  refine VO.cons rfl (V1.call rfl rfl rfl cok_103 rfl (ok_spec_l15Places hh3) rfl lt0 ?_)
  rintro _ _ ⟨b1, rfl, rfl⟩
  refine VO.weakenK (Keeps.freezeG 0 rn [(31, .vl rn 1 (List.map encInt y3))] ([]) (f := encInt) (l := y3) rfl (fun _ => rfl) ⟨⟨_, rfl, .here⟩, trivial⟩ rfl rfl iNil) ?_
  refine VO.cons rfl (V1.buildSliceT (f := encSpan) ([] : List Span) rfl rfl esz_58 zk_66 rfl rfl rfl rfl rfl rfl rfl lt0 ?_)
  intro b2
  refine VO.cons rfl (V1.move rfl rfl rfl lt0 ?_)
  refine VO.cons rfl (V1.appendMap (k := 0) (f := encSpan) (l := ([] : List Span)) (m := spans) rfl rfl rfl rfl rfl esz_58 eby_58 zk_66 rfl rfl rfl (.vl isl_58) hh4 lt0 ?_)
  intro b3
  refine VO.cons rfl (V1.assign rfl rfl rfl lt0 ?_)
  refine VO.cons rfl (V1.assign rfl rfl rfl lt0 ?_)
  refine VO.nil ?_
  refine V.keep 71 [0, 1, 2, 3, 10, 11] [0] (E0 := [(0, .str text), (1, .vl ρ1 3 (List.map encSpan spans)), (2, .str word), (3, .int .i64 reason), (10, .vl rn 1 (List.map encInt y3)), (11, .sref b3 3 0 (List.length (([] : List Span) ++ spans)))]) (H0 := [(b3, ⟨3, List.map encSpan (([] : List Span) ++ spans)⟩)]) rfl (⟨_, _, rfl, rfl, _, _, rfl, rfl, _, _, rfl, rfl, _, _, rfl, rfl, _, _, rfl, rfl, _, _, rfl, rfl, rfl⟩) (⟨_, _, rfl, rfl, rfl⟩) rfl ?_
  refine V.seq ?_
  refine V.seq ?_
  refine V.region ?_
  refine VO.cons rfl (V1.assign rfl rfl rfl lt0 ?_)
  refine VO.nil ?_
  replace hm0 := bindO hm0; rcases hm0 with ⟨e0, he1, hm0⟩
  refine V.cutT (D := (List Span) × (Nat)) (fun ⟨out_, b4⟩ => ⟨71, [(11, .sref b4 3 0 (List.length out_)), (0, .str text)], [(b4, ⟨3, List.map encSpan out_⟩)]⟩) (fun ⟨out_, b4⟩ => (out_ = e0)) ?_ ?_
  ·
   refine V.block ?_
   refine V.keep 71 [11, 12, 0, 1, 2, 3, 10] [0] (E0 := [(11, .sref b3 3 0 (List.length (([] : List Span) ++ spans))), (12, .int .i64 (0 : Int)), (0, .str text), (1, .vl ρ1 3 (List.map encSpan spans)), (2, .str word), (3, .int .i64 reason), (10, .vl rn 1 (List.map encInt y3))]) (H0 := [(b3, ⟨3, List.map encSpan (([] : List Span) ++ spans)⟩)]) rfl (⟨_, _, rfl, rfl, _, _, rfl, rfl, _, _, rfl, rfl, _, _, rfl, rfl, _, _, rfl, rfl, _, _, rfl, rfl, _, _, rfl, rfl, rfl⟩) (⟨_, _, rfl, rfl, rfl⟩) rfl ?_
   refine V.loopE (D := Nat × (List Span × Int) × (Nat)) (fun ⟨n0, ⟨out_0, i⟩, b5⟩ => [(11, .sref b5 3 0 (List.length out_0)), (12, .int .i64 i)]) (fun ⟨n0, ⟨out_0, i⟩, b5⟩ => [(b5, ⟨3, List.map encSpan out_0⟩)]) (fun ⟨n0, ⟨out_0, i⟩, b5⟩ => loopO (M.spec_HideWord_l0 spans word reason y3) n0 (out_0, i) = some e0) (fun ⟨n0, _, _⟩ => n0) (rounds, ((([] : List Span) ++ spans), (0 : Int)), b3) rfl he1 ?_
   rintro ⟨n0, ⟨out_0, i⟩, b5⟩ hP0
   obtain ⟨m0, y4, rfl, hm1, hl1, hr1⟩ := loop_head hP0
   unfold M.spec_HideWord_l0 at hm1; dsimp only at hm1
   show V _ _ _ ⟨71, [(11, .sref b5 3 0 (List.length out_0)), (12, .int .i64 i), (0, .str text), (1, .vl ρ1 3 (List.map encSpan spans)), (2, .str word), (3, .int .i64 reason), (10, .vl rn 1 (List.map encInt y3))], [(b5, ⟨3, List.map encSpan out_0⟩)]⟩
   refine V.seq ?_
   refine V.seq ?_
   refine V.region ?_
   refine VO.cons rfl (V1.move rfl rfl rfl lt0 ?_)
   refine VO.cons rfl (V1.move rfl rfl rfl lt0 ?_)
   refine VO.cons rfl (V1.lenMap rfl rfl rfl rfl rfl rfl isl_27 lt0 ?_)
   refine VO.cons rfl (V1.int rfl rfl rfl rfl rfl lt0 ?_)
   refine VO.nil ?_
   refine V.cond rfl (fun hc1 => ?_) (fun hc1 => ?_)
   ·
    replace hm1 := cond_t hc1 hm1
    refine V.skip ?_
    refine V.keep 71 [0, 1, 2, 3, 10, 11, 12] [0] (E0 := [(0, .str text), (1, .vl ρ1 3 (List.map encSpan spans)), (2, .str word), (3, .int .i64 reason), (10, .vl rn 1 (List.map encInt y3)), (11, .sref b5 3 0 (List.length out_0)), (12, .int .i64 i)]) (H0 := [(b5, ⟨3, List.map encSpan out_0⟩)]) rfl (⟨_, _, rfl, rfl, _, _, rfl, rfl, _, _, rfl, rfl, _, _, rfl, rfl, _, _, rfl, rfl, _, _, rfl, rfl, _, _, rfl, rfl, rfl⟩) (⟨_, _, rfl, rfl, rfl⟩) rfl ?_
    refine V.seq ?_
    replace hm1 := bindO hm1; rcases hm1 with ⟨j0, hm2, hm1⟩
    refine V.cutT (D := (List Span) × (Nat)) (fun ⟨out_1, b6⟩ => ⟨71, [(11, .sref b6 3 0 (List.length out_1)), (0, .str text), (1, .vl ρ1 3 (List.map encSpan spans)), (2, .str word), (3, .int .i64 reason), (10, .vl rn 1 (List.map encInt y3)), (12, .int .i64 i)], [(b6, ⟨3, List.map encSpan out_1⟩)]⟩) (fun ⟨out_1, b6⟩ => (out_1 = j0)) ?_ ?_
    ·
     refine V.block ?_
     refine V.seq ?_
     replace hm2 := asrt_some hm2; rcases hm2 with ⟨hh5, hm2⟩
     refine V.region ?_
     refine VO.cons rfl (V1.move rfl rfl rfl lt0 ?_)
     refine VO.cons rfl (V1.move rfl rfl rfl lt0 ?_)
     refine VO.cons rfl (V1.indexI rfl rfl esz_27 rfl rfl hh5 lt0 ?_)
     refine VO.cons rfl (V1.loadPin rfl rfl tyk_3 rfl rfl lt0 ?_)
     refine VO.cons rfl (V1.move rfl rfl rfl lt0 ?_)
     refine VO.cons rfl (V1.lenStr rfl rfl rfl rfl rfl rfl istr_9 lt0 ?_)
     refine VO.cons rfl (V1.int rfl rfl rfl rfl rfl lt0 ?_)
     refine VO.cons rfl (V1.assign rfl rfl rfl lt0 ?_)
     refine VO.nil ?_
     refine V.keep 71 [0, 1, 2, 3, 10, 11, 12, 13] [0] (E0 := [(0, .str text), (1, .vl ρ1 3 (List.map encSpan spans)), (2, .str word), (3, .int .i64 reason), (10, .vl rn 1 (List.map encInt y3)), (11, .sref b5 3 0 (List.length out_0)), (12, .int .i64 i), (13, .int .i64 (IntKind.i64.wrap ((y3.getD (Int.toNat i) default) + (word.length : Int))))]) (H0 := [(b5, ⟨3, List.map encSpan out_0⟩)]) rfl (⟨_, _, rfl, rfl, _, _, rfl, rfl, _, _, rfl, rfl, _, _, rfl, rfl, _, _, rfl, rfl, _, _, rfl, rfl, _, _, rfl, rfl, _, _, rfl, rfl, rfl⟩) (⟨_, _, rfl, rfl, rfl⟩) rfl ?_
     refine V.seq ?_
     replace hm2 := asrt_some hm2; rcases hm2 with ⟨hh6, hm2⟩
     replace hm2 := bindO hm2; rcases hm2 with ⟨y5, hh7, hm2⟩
     refine V.region ?_
     refine VO.cons rfl (V1.move rfl rfl rfl lt0 ?_)
     refine VO.cons rfl (V1.move rfl rfl rfl lt0 ?_)
     refine VO.cons rfl (V1.move rfl rfl rfl lt0 ?_)
     refine VO.cons rfl (V1.indexI rfl rfl esz_27 rfl rfl hh6 lt0 ?_)
     refine VO.cons rfl (V1.loadPin rfl rfl tyk_3 rfl rfl lt0 ?_)
     refine VO.cons rfl (V1.move rfl rfl rfl lt0 ?_)
     refine VO.cons rfl (V1.call rfl rfl rfl cok_104 rfl (ok_spec_l15Touched hh7) rfl lt0 ?_)
     rintro _ _ ⟨rfl, rfl⟩
     refine VO.cons rfl (V1.not rfl rfl rfl lt0 ?_)
     refine VO.nil ?_
     refine V.keep 71 [0, 1, 2, 3, 10, 11, 12, 13, 55] [0] (E0 := [(0, .str text), (1, .vl ρ1 3 (List.map encSpan spans)), (2, .str word), (3, .int .i64 reason), (10, .vl rn 1 (List.map encInt y3)), (11, .sref b5 3 0 (List.length out_0)), (12, .int .i64 i), (13, .int .i64 (IntKind.i64.wrap ((y3.getD (Int.toNat i) default) + (word.length : Int)))), (55, .bool (!y5))]) (H0 := [(b5, ⟨3, List.map encSpan out_0⟩)]) rfl (⟨_, _, rfl, rfl, _, _, rfl, rfl, _, _, rfl, rfl, _, _, rfl, rfl, _, _, rfl, rfl, _, _, rfl, rfl, _, _, rfl, rfl, _, _, rfl, rfl, _, _, rfl, rfl, rfl⟩) (⟨_, _, rfl, rfl, rfl⟩) rfl ?_
     refine V.cond rfl (fun hc2 => ?_) (fun hc2 => ?_)
     ·
      replace hm2 := cond_t hc2 hm2
      replace hm2 := asrt_some hm2; rcases hm2 with ⟨hh8, hm2⟩
      replace hm2 := bindO hm2; rcases hm2 with ⟨y6, hh9, hm2⟩
      refine V.region ?_
      refine VO.cons rfl (V1.move rfl rfl rfl lt0 ?_)
      refine VO.cons rfl (V1.move rfl rfl rfl lt0 ?_)
      refine VO.cons rfl (V1.move rfl rfl rfl lt0 ?_)
      refine VO.cons rfl (V1.indexI rfl rfl esz_27 rfl rfl hh8 lt0 ?_)
      refine VO.cons rfl (V1.loadPin rfl rfl tyk_3 rfl rfl lt0 ?_)
      refine VO.cons rfl (V1.move rfl rfl rfl lt0 ?_)
      refine VO.cons rfl (V1.move rfl rfl rfl lt0 ?_)
      refine VO.cons rfl (V1.build rfl rfl zk_66 pl_66 rfl rfl lt0 ?_)
      refine VO.cons rfl (V1.callL (rn + 1) [b5] [.vl (rn + 1) 3 (List.map encSpan out_0), .agg [.int .i64 (y3.getD (Int.toNat i) default), .int .i64 (IntKind.i64.wrap ((y3.getD (Int.toNat i) default) + (word.length : Int))), .int .i64 reason]] rfl rfl rfl cok_105 rfl ⟨_, _, rfl, Lend.srMap 0 rfl (fun _ => rfl) (.head _), ⟨_, _, rfl, .same _, rfl⟩⟩ (bwCons (k := 0) rfl bwNil) (ok_spec_l15Insert hh9) rfl (⟨(by first | omega | (dsimp only; omega)), by rintro _ _ ⟨b7, rfl, rfl⟩; exact ⟨by simp [PV.no, PV.noL, optS_no, noL_iff, nbeq] <;> omega, by intro b ob h; first | exact optH_no (noL_map (fun _ => by simp [PV.no, PV.noL, noL_iff, nbeq]) _) b ob h | (simp only [List.append_assoc, List.mem_append, List.mem_cons, List.mem_singleton, List.not_mem_nil, or_false, Prod.mk.injEq] at h; rcases h with ⟨rfl, rfl⟩ | ⟨rfl, rfl⟩ <;> first | exact noL_map (fun _ => by simp [PV.no, PV.noL, noL_iff, nbeq]) _ | (simp [PV.no, PV.noL, optS_no, noL_iff, nbeq] <;> omega)) | (simp at h; obtain ⟨rfl, rfl⟩ := h; exact noL_map (fun _ => by simp [PV.no, PV.noL, noL_iff, nbeq]) _) | (simp at h; obtain ⟨rfl, rfl⟩ := h; simp [PV.no, PV.noL, optS_no, noL_iff, nbeq] <;> omega)⟩⟩) lt0 ?_)
      rintro _ _ ⟨b7, rfl, rfl⟩
      refine VO.cons rfl (V1.assign rfl rfl rfl lt0 ?_)
      refine VO.nil ?_
      exact ⟨(y6, b7), Option.some.inj hm2, Keeps.mk (ks := [0]) rfl ⟨rfl, rfl, rfl, rfl, rfl, rfl, rfl, trivial⟩ (⟨_, _, rfl, rfl, rfl⟩) rfl⟩
     ·
      replace hm2 := cond_f hc2 hm2
      refine V.skip ?_
      exact ⟨(out_0, b5), Option.some.inj hm2, Keeps.mk (ks := [0]) rfl ⟨rfl, rfl, rfl, rfl, rfl, rfl, rfl, trivial⟩ (⟨_, _, rfl, rfl, rfl⟩) rfl⟩
    ·
     rintro ⟨out_1, b6⟩ rfl
     try dsimp only at hm1
     refine V.region ?_
     refine VO.cons rfl (V1.move rfl rfl rfl lt0 ?_)
     refine VO.cons rfl (V1.int rfl rfl rfl rfl rfl lt0 ?_)
     refine VO.cons rfl (V1.assign rfl rfl rfl lt0 ?_)
     refine VO.nil ?_
     exact ⟨(m0, (out_1, (IntKind.i64.wrap (i + (1 : Int)))), b6), hl1 _ (Option.some.inj hm1).symm, Nat.lt_succ_self _, Keeps.mk (ks := [0]) rfl ⟨rfl, rfl, rfl, rfl, rfl, rfl, rfl, trivial⟩ (⟨_, _, rfl, rfl, rfl⟩) rfl⟩
   ·
    replace hm1 := cond_f hc1 hm1
    refine V.exit ?_
    obtain rfl := hr1 _ (Option.some.inj hm1).symm
    exact ⟨(out_0, b5), rfl, Keeps.mk (ks := [0]) rfl ⟨rfl, rfl, trivial⟩ (⟨_, _, rfl, rfl, rfl⟩) rfl⟩
  ·
   rintro ⟨out_, b4⟩ rfl
   try dsimp only at hm0
   refine V.seq ?_
   refine V.seq ?_
   replace hm0 := bindO hm0; rcases hm0 with ⟨y7, hh10, hm0⟩
   refine V.region ?_
   refine VO.cons rfl (V1.move rfl rfl rfl lt0 ?_)
   refine VO.cons rfl (V1.move rfl rfl rfl lt0 ?_)
   refine VO.cons rfl (V1.callL (rn + 1) [b4] [.str text, .vl (rn + 1) 3 (List.map encSpan out_)] rfl rfl rfl cok_101 rfl ⟨_, _, rfl, .same _, ⟨_, _, rfl, Lend.srMap 0 rfl (fun _ => rfl) (.head _), rfl⟩⟩ (bwCons (k := 0) rfl bwNil) (ok_spec_l15Good hh10) rfl (⟨(by first | omega | (dsimp only; omega)), by rintro _ _ ⟨rfl, rfl⟩; exact ⟨rfl, by simp⟩⟩) lt0 ?_)
   rintro _ _ ⟨rfl, rfl⟩
   refine VO.cons rfl (V1.not rfl rfl rfl lt0 ?_)
   refine VO.nil ?_
   refine V.keep 71 [11, 68] [0] (E0 := [(11, .sref b4 3 0 (List.length out_)), (68, .bool (!y7))]) (H0 := [(b4, ⟨3, List.map encSpan out_⟩)]) rfl (⟨_, _, rfl, rfl, _, _, rfl, rfl, rfl⟩) (⟨_, _, rfl, rfl, rfl⟩) rfl ?_
   refine V.cond rfl (fun hc3 => ?_) (fun hc3 => ?_)
   ·
    replace hm0 := cond_t hc3 hm0
    refine V.seq ?_
    refine V.region ?_
    refine VO.cons rfl (V1.buildSliceT (f := encSpan) ([] : List Span) rfl rfl esz_58 zk_66 rfl rfl rfl rfl rfl rfl rfl lt0 ?_)
    intro b8
    refine VO.cons rfl (V1.assign rfl rfl rfl lt0 ?_)
    refine VO.cons rfl (V1.assign rfl rfl rfl lt0 ?_)
    refine VO.nil ?_
    refine V.keep 71 [8, 9] [0] (E0 := [(8, .sref b8 3 0 (List.length ([] : List Span))), (9, .bool false)]) (H0 := [(b8, ⟨3, List.map encSpan ([] : List Span)⟩)]) rfl (⟨_, _, rfl, rfl, _, _, rfl, rfl, rfl⟩) (⟨_, _, rfl, rfl, rfl⟩) rfl ?_
    refine V.ret ?_
    obtain rfl := Option.some.inj hm0
    exact ⟨_, _, ⟨_, _, rfl, rfl, _, _, rfl, rfl, rfl⟩, List.Sublist.refl _, b8, rfl, rfl⟩
   ·
    replace hm0 := cond_f hc3 hm0
    refine V.skip ?_
    refine V.seq ?_
    refine V.region ?_
    refine VO.cons rfl (V1.move rfl rfl rfl lt0 ?_)
    refine VO.cons rfl (V1.assign rfl rfl rfl lt0 ?_)
    refine VO.cons rfl (V1.assign rfl rfl rfl lt0 ?_)
    refine VO.nil ?_
    refine V.keep 71 [8, 9] [0] (E0 := [(8, .sref b4 3 0 (List.length out_)), (9, .bool true)]) (H0 := [(b4, ⟨3, List.map encSpan out_⟩)]) rfl (⟨_, _, rfl, rfl, _, _, rfl, rfl, rfl⟩) (⟨_, _, rfl, rfl, rfl⟩) rfl ?_
    refine V.ret ?_
    obtain rfl := Option.some.inj hm0
    exact ⟨_, _, ⟨_, _, rfl, rfl, _, _, rfl, rfl, rfl⟩, List.Sublist.refl _, b4, rfl, rfl⟩

theorem ok_laws_vSpans {ρ0 ρ1 rn : Nat} {a : List Span} {b_ : List Span} {r : Bool} (h : M.laws_vSpans a b_ = some r) : Does Tryd.prog 39 [.vl ρ0 3 (List.map encSpan a), .vl ρ1 3 (List.map encSpan b_)] [] rn (fun x H => x = .bool r ∧ H = []) := by
 have hm0 := h; clear h; unfold M.laws_vSpans at hm0
 try dsimp only at hm0
 refine Does.intro (N := 26) Tryd.func39 rfl rfl rfl rfl ?_
 intro w0 S0 L0
 refine V.seq ?_
 refine V.region ?_
 refine VO.cons rfl (V1.assign rfl rfl rfl lt0 ?_)
 refine VO.nil ?_
 refine V.seq ?_
 refine V.seq ?_
 refine V.region ?_
 refine VO.cons rfl (V1.move rfl rfl rfl lt0 ?_)
 refine VO.cons rfl (V1.lenMap rfl rfl rfl rfl rfl rfl isl_58 lt0 ?_)
 refine VO.cons rfl (V1.move rfl rfl rfl lt0 ?_)
 refine VO.cons rfl (V1.lenMap rfl rfl rfl rfl rfl rfl isl_58 lt0 ?_)
 refine VO.cons rfl (V1.int rfl rfl rfl rfl rfl lt0 ?_)
 refine VO.nil ?_
 refine V.keep 26 [0, 1, 10] [] (E0 := [(0, .vl ρ0 3 (List.map encSpan a)), (1, .vl ρ1 3 (List.map encSpan b_)), (10, .bool ((a.length : Int) != (b_.length : Int)))]) (H0 := []) rfl (⟨_, _, rfl, rfl, _, _, rfl, rfl, _, _, rfl, rfl, rfl⟩) (rfl) rfl ?_
 refine V.cond rfl (fun hc0 => ?_) (fun hc0 => ?_)
 ·
  replace hm0 := cond_t hc0 hm0
  refine V.seq ?_
  refine V.region ?_
  refine VO.cons rfl (V1.assign rfl rfl rfl lt0 ?_)
  refine VO.nil ?_
  refine V.ret ?_
  obtain rfl := Option.some.inj hm0
  exact ⟨_, [], ⟨_, _, rfl, rfl, rfl⟩, List.nil_sublist _, rfl, rfl⟩
 ·
  replace hm0 := cond_f hc0 hm0
  refine V.skip ?_
  refine V.seq ?_
  refine V.seq ?_
  refine V.region ?_
  refine VO.cons rfl (V1.assign rfl rfl rfl lt0 ?_)
  refine VO.nil ?_
  replace hm0 := bindO hm0; rcases hm0 with ⟨e0, he1, hm0⟩
  refine V.cutT (D := (Unit) × (Unit)) (fun ⟨_, _⟩ => ⟨26, [], []⟩) (fun ⟨_, _⟩ => (.inl () = e0)) ?_ ?_
  ·
   refine V.block ?_
   refine V.keep 26 [5, 0, 1] [] (E0 := [(5, .int .i64 (0 : Int)), (0, .vl ρ0 3 (List.map encSpan a)), (1, .vl ρ1 3 (List.map encSpan b_))]) (H0 := []) rfl (⟨_, _, rfl, rfl, _, _, rfl, rfl, _, _, rfl, rfl, rfl⟩) (rfl) rfl ?_
   refine V.loopE (D := Nat × (Int) × (Unit)) (fun ⟨n0, i, _⟩ => [(5, .int .i64 i)]) (fun ⟨n0, i, _⟩ => []) (fun ⟨n0, i, _⟩ => loopO (M.laws_vSpans_l0 a b_) n0 i = some e0) (fun ⟨n0, _, _⟩ => n0) (rounds, (0 : Int), ()) rfl he1 ?_
   rintro ⟨n0, i, _⟩ hP0
   obtain ⟨m0, y0, rfl, hm1, hl1, hr1⟩ := loop_head hP0
   unfold M.laws_vSpans_l0 at hm1; dsimp only at hm1
   show V _ _ _ ⟨26, [(5, .int .i64 i), (0, .vl ρ0 3 (List.map encSpan a)), (1, .vl ρ1 3 (List.map encSpan b_))], []⟩
   refine V.seq ?_
   refine V.seq ?_
   refine V.region ?_
   refine VO.cons rfl (V1.move rfl rfl rfl lt0 ?_)
   refine VO.cons rfl (V1.move rfl rfl rfl lt0 ?_)
   refine VO.cons rfl (V1.lenMap rfl rfl rfl rfl rfl rfl isl_58 lt0 ?_)
   refine VO.cons rfl (V1.int rfl rfl rfl rfl rfl lt0 ?_)
   refine VO.nil ?_
   refine V.cond rfl (fun hc1 => ?_) (fun hc1 => ?_)
   ·
    replace hm1 := cond_t hc1 hm1
    refine V.skip ?_
    refine V.keep 26 [0, 1, 5] [] (E0 := [(0, .vl ρ0 3 (List.map encSpan a)), (1, .vl ρ1 3 (List.map encSpan b_)), (5, .int .i64 i)]) (H0 := []) rfl (⟨_, _, rfl, rfl, _, _, rfl, rfl, _, _, rfl, rfl, rfl⟩) (rfl) rfl ?_
    refine V.seq ?_
    refine V.block ?_
    refine V.seq ?_
    replace hm1 := asrt_some hm1; rcases hm1 with ⟨hh0, hm1⟩
    replace hm1 := asrt_some hm1; rcases hm1 with ⟨hh1, hm1⟩
    refine V.regionM 26 8 [⟨[(0, none)], [], none⟩, ⟨[(5, none)], [], none⟩, ⟨[(17, some 1), (18, some 0)], [], none⟩, ⟨[(19, some 0)], [], none⟩, ⟨[(1, none)], [], none⟩, ⟨[(5, none)], [], none⟩, ⟨[(21, some 1), (22, some 0)], [], none⟩, ⟨[(23, some 0)], [], none⟩] [(0, none), (1, none), (5, none), (20, some 4), (24, some 0)] (⟨_, rfl, ⟨_, rfl, ⟨_, rfl, ⟨_, rfl, ⟨_, rfl, ⟨_, rfl, ⟨_, rfl, ⟨_, rfl, ⟨rfl, rfl⟩⟩⟩⟩⟩⟩⟩⟩⟩) mixed_orders rfl (by decide +kernel) (fun hck6 => ?_)
    refine VP.step (p := ?pv65) rfl rfl rfl (⟨_, _, rfl, rfl, rfl⟩) ?hv65 ?rest65 hck6
    case hv65 =>
     intro E1
     refine (V1.move rfl rfl rfl lt0 ?_)
     exact rfl
    refine VP.step (p := ?pv66) rfl rfl rfl (⟨_, _, rfl, rfl, rfl⟩) ?hv66 ?rest66 hck6
    case hv66 =>
     intro E1
     refine (V1.move rfl rfl rfl lt0 ?_)
     exact rfl
    refine VP.step (p := ?pv67) rfl rfl rfl (⟨_, _, rfl, rfl, _, _, rfl, rfl, rfl⟩) ?hv67 ?rest67 hck6
    case hv67 =>
     intro E1
     refine (V1.indexI rfl rfl esz_58 rfl rfl hh0 lt0 ?_)
     exact rfl
    refine VP.step (p := ?pv68) rfl rfl rfl (⟨_, _, rfl, rfl, rfl⟩) ?hv68 ?rest68 hck6
    case hv68 =>
     intro E1
     refine (V1.loadPinAll rfl rfl tyk_66 rfl rfl lt0 ?_)
     exact rfl
    refine VP.step (p := ?pv69) rfl rfl rfl (⟨_, _, rfl, rfl, rfl⟩) ?hv69 ?rest69 hck6
    case hv69 =>
     intro E1
     refine (V1.move rfl rfl rfl lt0 ?_)
     exact rfl
    refine VP.step (p := ?pv70) rfl rfl rfl (⟨_, _, rfl, rfl, rfl⟩) ?hv70 ?rest70 hck6
    case hv70 =>
     intro E1
     refine (V1.move rfl rfl rfl lt0 ?_)
     exact rfl
    refine VP.step (p := ?pv71) rfl rfl rfl (⟨_, _, rfl, rfl, _, _, rfl, rfl, rfl⟩) ?hv71 ?rest71 hck6
    case hv71 =>
     intro E1
     refine (V1.indexI rfl rfl esz_58 rfl rfl hh1 lt0 ?_)
     exact rfl
    refine VP.step (p := ?pv72) rfl rfl rfl (⟨_, _, rfl, rfl, rfl⟩) ?hv72 ?rest72 hck6
    case hv72 =>
     intro E1
     refine (V1.loadPinAll rfl rfl tyk_66 rfl rfl lt0 ?_)
     exact rfl
    refine VP.fin rfl (⟨_, _, rfl, rfl, _, _, rfl, rfl, _, _, rfl, rfl, _, _, rfl, rfl, _, _, rfl, rfl, rfl⟩) ?_
    refine VO.cons rfl (V1.aggEqG true rfl rfl fe_66 rfl rfl rfl rfl rfl lt0 ?_)
    refine VO.nil ?_
    refine V.cond rfl (fun hc2 => ?_) (fun hc2 => ?_)
    ·
     replace hm1 := cond_t hc2 hm1
     refine V.seq ?_
     refine V.region ?_
     refine VO.cons rfl (V1.assign rfl rfl rfl lt0 ?_)
     refine VO.nil ?_
     refine V.ret ?_
     obtain rfl := hr1 _ (Option.some.inj hm1).symm
     change some _ = some _ at hm0
     obtain rfl := Option.some.inj hm0
     exact ⟨_, [], ⟨_, _, rfl, rfl, rfl⟩, List.nil_sublist _, rfl, rfl⟩
    ·
     replace hm1 := cond_f hc2 hm1
     refine V.skip ?_
     refine V.region ?_
     refine VO.cons rfl (V1.move rfl rfl rfl lt0 ?_)
     refine VO.cons rfl (V1.int rfl rfl rfl rfl rfl lt0 ?_)
     refine VO.cons rfl (V1.assign rfl rfl rfl lt0 ?_)
     refine VO.nil ?_
     exact ⟨(m0, (IntKind.i64.wrap (i + (1 : Int))), ()), hl1 _ (Option.some.inj hm1).symm, Nat.lt_succ_self _, Keeps.mk (ks := []) rfl ⟨rfl, rfl, rfl, trivial⟩ (rfl) rfl⟩
   ·
    replace hm1 := cond_f hc1 hm1
    refine V.exit ?_
    obtain rfl := hr1 _ (Option.some.inj hm1).symm
    exact ⟨((), ()), rfl, Keeps.mk (ks := []) rfl trivial (rfl) rfl⟩
  ·
   rintro ⟨_, _⟩ rfl
   try dsimp only at hm0
   refine V.seq ?_
   refine V.region ?_
   refine VO.cons rfl (V1.assign rfl rfl rfl lt0 ?_)
   refine VO.nil ?_
   refine V.ret ?_
   obtain rfl := Option.some.inj hm0
   exact ⟨_, [], ⟨_, _, rfl, rfl, rfl⟩, List.nil_sublist _, rfl, rfl⟩

theorem ok_impl_IsHidden_1 {ρ1 τ1 τ2 rn : Nat} {at_ : Int} {spans : List Span} {word : List UInt8} {r : Bool} (h : M.impl_IsHidden_1 at_ spans word = some r) : Does Tryd.prog 107 [.int .i64 at_, .pin τ1 (.vl ρ1 3 (List.map encSpan spans)) 0, .pin τ2 (.str word) 0] [] rn (fun x H => x = .bool r ∧ H = []) := by
 have hm0 := h; clear h; unfold M.impl_IsHidden_1 at hm0
 try dsimp only at hm0
 refine Does.intro (N := 13) Tryd.func107 rfl rfl rfl rfl ?_
 intro w0 S0 L0
 refine V.seq ?_
 refine V.region ?_
 refine VO.cons rfl (V1.assign rfl rfl rfl lt0 ?_)
 refine VO.nil ?_
 refine V.seq ?_
 replace hm0 := bindO hm0; rcases hm0 with ⟨y0, hh0, hm0⟩
 refine V.region ?_
 refine VO.cons rfl (V1.loadPin rfl rfl tyk_58 rfl rfl lt0 ?_)
 refine VO.cons rfl (V1.move rfl rfl rfl lt0 ?_)
 refine VO.cons rfl (V1.move rfl rfl rfl lt0 ?_)
 refine VO.cons rfl (V1.loadPin rfl rfl tyk_9 rfl rfl lt0 ?_)
 refine VO.cons rfl (V1.lenStr rfl rfl rfl rfl rfl rfl istr_9 lt0 ?_)
 refine VO.cons rfl (V1.int rfl rfl rfl rfl rfl lt0 ?_)
 refine VO.cons rfl (V1.call rfl rfl rfl cok_98 rfl (ok_impl_isTouched hh0) rfl lt0 ?_)
 rintro _ _ ⟨rfl, rfl⟩
 refine VO.cons rfl (V1.not rfl rfl rfl lt0 ?_)
 refine VO.cons rfl (V1.assign rfl rfl rfl lt0 ?_)
 refine VO.nil ?_
 refine V.ret ?_
 obtain rfl := Option.some.inj hm0
 exact ⟨_, [], ⟨_, _, rfl, rfl, rfl⟩, List.nil_sublist _, rfl, rfl⟩

theorem ok_slices_IndexFunc_int_int {ρ0 rn : Nat} {s : List Int} {f1 : Nat} {cs1 : List PV} {r : Int} {fm : Int → Option Bool} (h : M.slices_IndexFunc_int_int s fm = some r) (hok1 : callOK Tryd.prog f1 = true) (hf1 : ∀ x0 r, fm x0 = some r → Does Tryd.prog f1 (.int .i64 x0 :: cs1) [] rn (fun x H => x = .bool r ∧ H = [])) : Does Tryd.prog 137 [.vl ρ0 1 (List.map encInt s), .fn f1 cs1] [] rn (fun x H => x = .int .i64 r ∧ H = []) := by
 have hm0 := h; clear h; unfold M.slices_IndexFunc_int_int at hm0
 try dsimp only at hm0
 refine Does.intro (N := 19) Tryd.func137 rfl rfl rfl rfl ?_
 intro w0 S0 L0
 refine V.seq ?_
 refine V.region ?_
 refine VO.cons rfl (V1.assign rfl rfl rfl lt0 ?_)
 refine VO.nil ?_
 refine V.seq ?_
 refine V.seq ?_
 refine V.region ?_
 refine VO.cons rfl (V1.move rfl rfl rfl lt0 ?_)
 refine VO.cons rfl (V1.lenMap rfl rfl rfl rfl rfl rfl isl_27 lt0 ?_)
 refine VO.cons rfl (V1.move rfl rfl rfl lt0 ?_)
 refine VO.nil ?_
 replace hm0 := bindO hm0; rcases hm0 with ⟨e0, he1, hm0⟩
 refine V.cutT (D := (Unit) × (Unit)) (fun ⟨_, _⟩ => ⟨19, [], []⟩) (fun ⟨_, _⟩ => (.inl () = e0)) ?_ ?_
 ·
  refine V.block ?_
  refine V.keep 19 [8, 0, 1, 7] [] (E0 := [(8, .int .i64 (0 : Int)), (0, .vl ρ0 1 (List.map encInt s)), (1, .fn f1 cs1), (7, .int .i64 (s.length : Int))]) (H0 := []) rfl (⟨_, _, rfl, rfl, _, _, rfl, rfl, _, _, rfl, rfl, _, _, rfl, rfl, rfl⟩) (rfl) rfl ?_
  refine V.loopE (D := Nat × (Int) × (Unit)) (fun ⟨n0, v, _⟩ => [(8, .int .i64 v)]) (fun ⟨n0, v, _⟩ => []) (fun ⟨n0, v, _⟩ => loopO (M.slices_IndexFunc_int_int_l0 s fm) n0 v = some e0) (fun ⟨n0, _, _⟩ => n0) (rounds, (0 : Int), ()) rfl he1 ?_
  rintro ⟨n0, v, _⟩ hP0
  obtain ⟨m0, y0, rfl, hm1, hl1, hr1⟩ := loop_head hP0
  unfold M.slices_IndexFunc_int_int_l0 at hm1; dsimp only at hm1
  show V _ _ _ ⟨19, [(8, .int .i64 v), (0, .vl ρ0 1 (List.map encInt s)), (1, .fn f1 cs1), (7, .int .i64 (s.length : Int))], []⟩
  refine V.seq ?_
  refine V.region ?_
  refine VO.cons rfl (V1.int rfl rfl rfl rfl rfl lt0 ?_)
  refine VO.nil ?_
  refine V.seq ?_
  refine V.cond rfl (fun hc0 => ?_) (fun hc0 => ?_)
  ·
   replace hm1 := cond_t hc0 hm1
   refine V.skip ?_
   refine V.seq ?_
   refine V.block ?_
   refine V.seq ?_
   refine V.region ?_
   refine VO.cons rfl (V1.move rfl rfl rfl lt0 ?_)
   refine VO.cons rfl (V1.assign rfl rfl rfl lt0 ?_)
   refine VO.nil ?_
   refine V.seq ?_
   replace hm1 := asrt_some hm1; rcases hm1 with ⟨hh0, hm1⟩
   replace hm1 := bindO hm1; rcases hm1 with ⟨y1, hh1, hm1⟩
   refine V.region ?_
   refine VO.cons rfl (V1.move rfl rfl rfl lt0 ?_)
   refine VO.cons rfl (V1.move rfl rfl rfl lt0 ?_)
   refine VO.cons rfl (V1.move rfl rfl rfl lt0 ?_)
   refine VO.cons rfl (V1.indexI rfl rfl esz_27 rfl rfl hh0 lt0 ?_)
   refine VO.cons rfl (V1.loadPin rfl rfl tyk_3 rfl rfl lt0 ?_)
   refine VO.cons rfl (V1.callG (τ := 0) (Bw := []) rfl lt0 (run_callFn rfl rfl rfl hok1 rfl) (.refl _) (Lends.same _) (fun _ h => by cases h) ((hf1 _  _) hh1) (.inl rfl) (.inl rfl) ?_)
   rintro _ _ ⟨rfl, rfl⟩
   refine VO.nil ?_
   refine V.keep 19 [0, 1, 5, 7, 8, 16] [] (E0 := [(0, .vl ρ0 1 (List.map encInt s)), (1, .fn f1 cs1), (5, .int .i64 v), (7, .int .i64 (s.length : Int)), (8, .int .i64 v), (16, .bool y1)]) (H0 := []) rfl (⟨_, _, rfl, rfl, _, _, rfl, rfl, _, _, rfl, rfl, _, _, rfl, rfl, _, _, rfl, rfl, _, _, rfl, rfl, rfl⟩) (rfl) rfl ?_
   refine V.cond rfl (fun hc1 => ?_) (fun hc1 => ?_)
   ·
    replace hm1 := cond_t hc1 hm1
    refine V.seq ?_
    refine V.region ?_
    refine VO.cons rfl (V1.move rfl rfl rfl lt0 ?_)
    refine VO.cons rfl (V1.assign rfl rfl rfl lt0 ?_)
    refine VO.nil ?_
    refine V.ret ?_
    obtain rfl := hr1 _ (Option.some.inj hm1).symm
    change some _ = some _ at hm0
    obtain rfl := Option.some.inj hm0
    exact ⟨_, [], ⟨_, _, rfl, rfl, rfl⟩, List.nil_sublist _, rfl, rfl⟩
   ·
    replace hm1 := cond_f hc1 hm1
    refine V.skip ?_
    refine V.region ?_
    refine VO.cons rfl (V1.int rfl rfl rfl rfl rfl lt0 ?_)
    refine VO.cons rfl (V1.move rfl rfl rfl lt0 ?_)
    refine VO.nil ?_
    exact ⟨(m0, (IntKind.i64.wrap (v + (1 : Int))), ()), hl1 _ (Option.some.inj hm1).symm, Nat.lt_succ_self _, Keeps.mk (ks := []) rfl ⟨rfl, rfl, rfl, rfl, trivial⟩ (rfl) rfl⟩
  ·
   replace hm1 := cond_f hc0 hm1
   refine V.exit ?_
   obtain rfl := hr1 _ (Option.some.inj hm1).symm
   exact ⟨((), ()), rfl, Keeps.mk (ks := []) rfl trivial (rfl) rfl⟩
 ·
  rintro ⟨_, _⟩ rfl
  try dsimp only at hm0
  refine V.seq ?_
  refine V.region ?_
  refine VO.cons rfl (V1.assign rfl rfl rfl lt0 ?_)
  refine VO.nil ?_
  refine V.ret ?_
  obtain rfl := Option.some.inj hm0
  exact ⟨_, [], ⟨_, _, rfl, rfl, rfl⟩, List.nil_sublist _, rfl, rfl⟩

theorem ok_slices_ContainsFunc_int_int {ρ0 rn : Nat} {s : List Int} {f1 : Nat} {cs1 : List PV} {r : Bool} {fm : Int → Option Bool} (h : M.slices_ContainsFunc_int_int s fm = some r) (hok1 : callOK Tryd.prog f1 = true) (hf1 : ∀ x0 r, fm x0 = some r → Does Tryd.prog f1 (.int .i64 x0 :: cs1) [] rn (fun x H => x = .bool r ∧ H = [])) : Does Tryd.prog 106 [.vl ρ0 1 (List.map encInt s), .fn f1 cs1] [] rn (fun x H => x = .bool r ∧ H = []) := by
 have hm0 := h; clear h; unfold M.slices_ContainsFunc_int_int at hm0
 try dsimp only at hm0
 refine Does.intro (N := 9) Tryd.func106 rfl rfl rfl rfl ?_
 intro w0 S0 L0
 refine V.seq ?_
 refine V.region ?_
 refine VO.cons rfl (V1.assign rfl rfl rfl lt0 ?_)
 refine VO.nil ?_
 refine V.seq ?_
 replace hm0 := bindO hm0; rcases hm0 with ⟨y0, hh0, hm0⟩
 refine V.region ?_
 refine VO.cons rfl (V1.move rfl rfl rfl lt0 ?_)
 refine VO.cons rfl (V1.move rfl rfl rfl lt0 ?_)
 refine VO.cons rfl (V1.call rfl rfl rfl cok_137 rfl (ok_slices_IndexFunc_int_int hh0 (fm := fm) hok1 hf1) rfl lt0 ?_)
 rintro _ _ ⟨rfl, rfl⟩
 refine VO.cons rfl (V1.int rfl rfl rfl rfl rfl lt0 ?_)
 refine VO.cons rfl (V1.assign rfl rfl rfl lt0 ?_)
 refine VO.nil ?_
 refine V.ret ?_
 obtain rfl := Option.some.inj hm0
 exact ⟨_, [], ⟨_, _, rfl, rfl, rfl⟩, List.nil_sublist _, rfl, rfl⟩

theorem ok_impl_IsHidden {ρ1 rn : Nat} {text : List UInt8} {spans : List Span} {word : List UInt8} {r : Bool × Bool} (h : M.impl_IsHidden text spans word = some r) : Does Tryd.prog 40 [.str text, .vl ρ1 3 (List.map encSpan spans), .str word] [] rn (fun x H => x = .tup [.bool r.1, .bool r.2] ∧ H = []) := by
 have hm0 := h; clear h; unfold M.impl_IsHidden at hm0
 try dsimp only at hm0
 refine Does.intro (N := 23) Tryd.func40 rfl rfl rfl rfl ?_
 intro w0 S0 L0
 refine V.seq ?_
 refine V.region ?_
 refine VO.cons rfl (V1.boxN (n := 1) rfl rfl rfl rfl rfl lt0 ?_)
 intro b0
 refine VO.cons rfl (V1.boxN (n := 1) rfl rfl rfl rfl rfl lt0 ?_)
 intro b1
 refine VO.cons rfl (V1.assign rfl rfl rfl lt0 ?_)
 refine VO.cons rfl (V1.assign rfl rfl rfl lt0 ?_)
 refine VO.nil ?_
 refine V.keep 23 [0, 4, 5] [0, 1] (E0 := [(0, .str text), (4, .ref b0 1 0 0), (5, .ref b1 1 0 0)]) (H0 := [(b1, ⟨1, [.str word]⟩), (b0, ⟨1, [.vl ρ1 3 (List.map encSpan spans)]⟩)]) rfl (⟨_, _, rfl, rfl, _, _, rfl, rfl, _, _, rfl, rfl, rfl⟩) (⟨_, _, rfl, rfl, _, _, rfl, rfl, rfl⟩) rfl ?_
 refine V.seq ?_
 refine V.seq ?_
 replace hm0 := bindO hm0; rcases hm0 with ⟨y0, hh0, hm0⟩
 replace hm0 := bindO hm0; rcases hm0 with ⟨y1, hh1, hm0⟩
 refine V.region ?_
 refine VO.cons rfl (V1.move rfl rfl rfl lt0 ?_)
 refine VO.cons rfl (V1.loadRef (k := 1) rfl rfl tyk_58 rfl rfl rfl rfl rfl lt0 ?_)
 refine VO.cons rfl (V1.call rfl rfl rfl cok_93 rfl (ok_impl_AreSpans hh0) rfl lt0 ?_)
 rintro _ _ ⟨rfl, rfl⟩
 refine VO.cons rfl (V1.not rfl rfl rfl lt0 ?_)
 refine VO.cons rfl (V1.move rfl rfl rfl lt0 ?_)
 apply VO.or (n := 3) rfl rfl rfl rfl rfl rfl lt0 (.none rfl)
 ·
  intro hg0
  refine VO.step (.some rfl rfl rfl) (V1.loadRef (k := 0) rfl rfl tyk_9 rfl rfl rfl rfl rfl lt0 ?_)
  refine VO.step (.some rfl rfl rfl) (V1.call rfl rfl rfl cok_94 rfl (ok_impl_isWord (cond_f hg0 hh1)) rfl lt0 ?_)
  rintro _ _ ⟨rfl, rfl⟩
  refine VO.step (.some rfl rfl rfl) (V1.not rfl rfl rfl lt0 ?_)
  exact VO.nil ⟨rfl, rfl, rfl, rfl, .inr ⟨rfl, .inr ⟨rfl, .inr ⟨rfl, .inr ⟨rfl, .inl rfl⟩⟩⟩⟩⟩
 refine VO.nil ?_
 refine V.keep 23 [0, 4, 5, 16] [0, 1] (E0 := [(0, .str text), (4, .ref b0 1 0 0), (5, .ref b1 1 0 0), (16, .bool ((!y0) || (!y1)))]) (H0 := [(b1, ⟨1, [.str word]⟩), (b0, ⟨1, [.vl ρ1 3 (List.map encSpan spans)]⟩)]) rfl (⟨_, _, rfl, rfl, _, _, rfl, rfl, _, _, rfl, rfl, _, _, rfl, rfl, rfl⟩) (⟨_, _, rfl, rfl, _, _, rfl, rfl, rfl⟩) rfl ?_
 refine V.cond rfl (fun hc0 => ?_) (fun hc0 => ?_)
 ·
  replace hm0 := cond_t hc0 hm0
  refine V.seq ?_
  refine V.region ?_
  refine VO.cons rfl (V1.assign rfl rfl rfl lt0 ?_)
  refine VO.cons rfl (V1.assign rfl rfl rfl lt0 ?_)
  refine VO.nil ?_
  refine V.ret ?_
  obtain rfl := Option.some.inj hm0
  exact ⟨_, [], ⟨_, _, rfl, rfl, _, _, rfl, rfl, rfl⟩, List.nil_sublist _, rfl, rfl⟩
 ·
  replace hm0 := cond_f hc0 hm0
  refine V.skip ?_
  refine V.seq ?_
  replace hm0 := bindO hm0; rcases hm0 with ⟨y2, hh2, hm0⟩
  replace hm0 := bindO hm0; rcases hm0 with ⟨y3, hh3, hm0⟩
  refine V.region ?_
  refine VO.cons rfl (V1.move rfl rfl rfl lt0 ?_)
  refine VO.cons rfl (V1.loadRef (k := 0) rfl rfl tyk_9 rfl rfl rfl rfl rfl lt0 ?_)
  refine VO.cons rfl (V1.permK (V1.call rfl rfl rfl cok_97 rfl (ok_impl_placesOf hh2) rfl lt0 ?_))
  rintro _ _ ⟨ob0, hob0, rfl, rfl⟩
  refine ⟨_, ?_, Keeps.optBack (n := 1) (ob := ob0) (xs := List.map encInt y2) (H1 := []) (H2 := [(b1, ⟨1, [.str word]⟩), (b0, ⟨1, [.vl ρ1 3 (List.map encSpan spans)]⟩)]) rfl⟩
  refine VO.weakenK (Keeps.optFront (n := 1) (ob := ob0) (xs := (List.map encInt y2)) (H1 := [(b1, ⟨1, [.str word]⟩), (b0, ⟨1, [.vl ρ1 3 (List.map encSpan spans)]⟩)]) rfl) ?_
  refine VO.weakenK (Keeps.optVl 19 [] rn (f := encInt) (l := y2) (ob := ob0) (H1 := []) hob0 rfl rfl ⟨rfl, trivial⟩ (fun _ => rfl) rfl iNil) ?_
  refine VO.cons rfl (V1.makeFunc rfl rfl rfl lt0 ?_)
  refine VO.cons rfl (V1.callL (rn + 1) [b0, b1] [.vl rn 1 (List.map encInt y2), .fn 107 [.pin (rn + 1) (.vl ρ1 3 (List.map encSpan spans)) 0, .pin (rn + 1) (.str word) 0]] rfl rfl rfl cok_106 rfl ⟨_, _, rfl, .same _, ⟨_, _, rfl, Lend.fn ⟨_, _, rfl, Lend.ref 1 rfl rfl rfl rfl (.head _), ⟨_, _, rfl, Lend.ref 0 rfl rfl rfl rfl (.tail _ (.head _)), rfl⟩⟩, rfl⟩⟩ (bwCons (k := 1) rfl (bwCons (k := 0) rfl bwNil)) (ok_slices_ContainsFunc_int_int hh3 (fm := (fun x0 => M.impl_IsHidden_1 x0 spans word)) cok_107 (fun _ _ h => ok_impl_IsHidden_1 h)) rfl (⟨(by first | omega | (dsimp only; omega)), by rintro _ _ ⟨rfl, rfl⟩; exact ⟨rfl, by simp⟩⟩) lt0 ?_)
  rintro _ _ ⟨rfl, rfl⟩
  refine VO.cons rfl (V1.not rfl rfl rfl lt0 ?_)
  refine VO.cons rfl (V1.assign rfl rfl rfl lt0 ?_)
  refine VO.cons rfl (V1.assign rfl rfl rfl lt0 ?_)
  refine VO.nil ?_
  refine V.ret ?_
  obtain rfl := Option.some.inj hm0
  exact ⟨_, [], ⟨_, _, rfl, rfl, _, _, rfl, rfl, rfl⟩, List.nil_sublist _, rfl, rfl⟩

theorem ok_spec_l1Cur_one {ρ0 rn bp : Nat} {c : Cur} {n : Int} {r : Bool × Cur} (h : M.spec_l1Cur_one c n = some r) : Does Tryd.prog 108 [.ref bp 3 0 0, .int .i64 n] [(bp, ⟨3, [encCur ρ0 c]⟩)] rn (fun x H => x = .bool r.1 ∧ H = [(bp, ⟨3, [encCur ρ0 r.2]⟩)]) := by
 have hm0 := h; clear h; unfold M.spec_l1Cur_one at hm0
 try dsimp only at hm0
 refine Does.intro (N := 9) Tryd.func108 rfl rfl rfl rfl ?_
 intro w0 S0 L0
 refine V.seq ?_
 refine V.region ?_
 refine VO.cons rfl (V1.assign rfl rfl rfl lt0 ?_)
 refine VO.nil ?_
 refine V.seq ?_
 replace hm0 := bindO hm0; rcases hm0 with ⟨y0, hh0, hm0⟩
 refine V.region ?_
 refine VO.cons rfl (V1.move rfl rfl rfl lt0 ?_)
 refine VO.cons rfl (V1.move rfl rfl rfl lt0 ?_)
 refine VO.cons rfl (V1.callM 0 (rn + ρ0 + 1) [] [.ref bp 3 0 0, .int .i64 n] (p := (bp, ⟨3, [encCur ρ0 c]⟩)) rfl rfl rfl cok_84 rfl rfl ⟨_, _, rfl, .same _, ⟨_, _, rfl, .same _, rfl⟩⟩ bwNil (ok_spec_l1Cur_pick hh0) rfl (.inl rfl) lt0 ?_)
 rintro _ _ ⟨rfl, rfl⟩
 refine VO.cons rfl (V1.int rfl rfl rfl rfl rfl lt0 ?_)
 refine VO.cons rfl (V1.assign rfl rfl rfl lt0 ?_)
 refine VO.nil ?_
 refine V.ret ?_
 obtain rfl := Option.some.inj hm0
 exact ⟨_, _, ⟨_, _, rfl, rfl, rfl⟩, (sub1 (k := 0) rfl), rfl, rfl⟩
end Go.Proofs.YteocnbeefedbkaaDoor
