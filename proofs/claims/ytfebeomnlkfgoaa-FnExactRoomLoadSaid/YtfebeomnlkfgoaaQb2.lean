/- the functions do what their models say -/
import Derived.Test.YtfebeomnlkfgoaaQb1
set_option linter.unusedSimpArgs false
set_option linter.unusedVariables false
set_option maxRecDepth 100000
set_option maxHeartbeats 4000000
namespace Go.Proofs.Ytfebeomnlkfgoaa
open Go.VS

theorem ok_impl_RoomLoad {ρ0 rn : Nat} {list : List Carton} {r : List (List Int) × Bool} (h : M.impl_RoomLoad list = some r) : Does Try.prog 30 [.vl ρ0 5 (List.map (encCarton ρ0) list)] [] rn (fun x H => ∃ (ob0_ : Option Nat), (ob0_ = none → r.1 = []) ∧ x = .tup [optS 1 ob0_ (List.length r.1), .bool r.2] ∧ H = optH 1 ob0_ (List.map (encL rn 1 encInt) r.1)) := by
 have hm0 := h; clear h; unfold M.impl_RoomLoad at hm0
 try dsimp only at hm0
 refine Does.intro (N := 50) Try.func30 rfl rfl rfl rfl ?_
 intro w0 S0
 refine V.seq ?_
 refine V.region ?_
 refine VO.cons rfl (V1.assign rfl rfl rfl lt0 ?_)
 refine VO.cons rfl (V1.assign rfl rfl rfl lt0 ?_)
 refine VO.nil ?_
 refine V.seq ?_
 refine V.seq ?_
 replace hm0 := bindO hm0; rcases hm0 with ⟨y0, hh0, hm0⟩
 refine V.region ?_
 refine VO.cons rfl (V1.move rfl rfl rfl lt0 ?_)
 refine VO.cons rfl (V1.call rfl rfl rfl cok_45 rfl (ok_impl_AreCartons hh0) rfl lt0 ?_)
 rintro _ _ ⟨rfl, rfl⟩
 refine VO.cons rfl (V1.not rfl rfl rfl lt0 ?_)
 refine VO.nil ?_
 refine V.keep 50 [0, 11] [] (E0 := [(0, .vl ρ0 5 (List.map (encCarton ρ0) list)), (11, .bool (!y0))]) (H0 := []) rfl (⟨_, _, rfl, rfl, ⟨_, _, rfl, rfl, rfl⟩⟩) (rfl) rfl ?_
 refine V.cond rfl (fun hc0 => ?_) (fun hc0 => ?_)
 ·
  replace hm0 := cond_t hc0 hm0
  refine V.seq ?_
  refine V.region ?_
  refine VO.cons rfl (V1.assign rfl rfl rfl lt0 ?_)
  refine VO.cons rfl (V1.assign rfl rfl rfl lt0 ?_)
  refine VO.nil ?_
  refine V.keep 50 [2, 3] [] (E0 := [(2, .nils), (3, .bool false)]) (H0 := []) rfl (⟨_, _, rfl, rfl, ⟨_, _, rfl, rfl, rfl⟩⟩) (rfl) rfl ?_
  refine V.ret ?_
  obtain rfl := Option.some.inj hm0
  exact ⟨_, _, ⟨_, _, rfl, rfl, ⟨_, _, rfl, rfl, rfl⟩⟩, List.Sublist.refl _, none, (fun _ => rfl), rfl, rfl⟩
 ·
  replace hm0 := cond_f hc0 hm0
  refine V.skip ?_
  refine V.seq ?_
  refine V.region ?_
  refine VO.cons rfl (V1.assign rfl rfl rfl lt0 ?_)
  refine VO.nil ?_
  refine V.seq ?_
  refine V.seq ?_
  refine V.region ?_
  refine VO.cons rfl (V1.assign rfl rfl rfl lt0 ?_)
  refine VO.nil ?_
  replace hm0 := bindO hm0; rcases hm0 with ⟨e0, he1, hm0⟩
  refine V.cutT (D := (List (List Int)) × (Option Nat)) (fun ⟨rows, ob0⟩ => ⟨50, [(4, optS 1 ob0 (List.length rows))], optH 1 ob0 (List.map (encL rn 1 encInt) rows)⟩) (fun ⟨rows, ob0⟩ => (rows = e0) ∧ (ob0 = none → rows = [])) ?_ ?_
  ·
   refine V.block ?_
   refine V.keep 50 [4, 5, 0] [] (E0 := [(4, .nils), (5, .int .i64 (1 : Int)), (0, .vl ρ0 5 (List.map (encCarton ρ0) list))]) (H0 := []) rfl (⟨_, _, rfl, rfl, ⟨_, _, rfl, rfl, ⟨_, _, rfl, rfl, rfl⟩⟩⟩) (rfl) rfl ?_
   refine V.loopE (D := Nat × (List (List Int) × Int) × (Option Nat)) (fun ⟨n0, ⟨rows0, room⟩, ob1⟩ => [(4, optS 1 ob1 (List.length rows0)), (5, .int .i64 room)]) (fun ⟨n0, ⟨rows0, room⟩, ob1⟩ => optH 1 ob1 (List.map (encL rn 1 encInt) rows0)) (fun ⟨n0, ⟨rows0, room⟩, ob1⟩ => loopO (M.impl_RoomLoad_l0 list) n0 (rows0, room) = some e0 ∧ (ob1 = none → rows0 = [])) (fun ⟨n0, _, _⟩ => n0) (rounds, (([] : List (List Int)), (1 : Int)), none) rfl ⟨he1, (fun _ => rfl)⟩ ?_
   rintro ⟨n0, ⟨rows0, room⟩, ob1⟩ ⟨hP0, hob1⟩
   obtain ⟨m0, y1, rfl, hm1, hl1, hr1⟩ := loop_head hP0
   unfold M.impl_RoomLoad_l0 at hm1; dsimp only at hm1
   rcases ob1 with _ | ob1
   ·
    replace hob1 := hob1 rfl
    show V _ _ _ ⟨50, [(4, .nils), (5, .int .i64 room), (0, .vl ρ0 5 (List.map (encCarton ρ0) list))], []⟩
    refine V.seq ?_
    refine V.seq ?_
    refine V.region ?_
    refine VO.cons rfl (V1.move rfl rfl rfl lt0 ?_)
    refine VO.cons rfl (V1.int rfl rfl rfl rfl rfl lt0 ?_)
    refine VO.nil ?_
    refine V.cond rfl (fun hc1 => ?_) (fun hc1 => ?_)
    ·
     replace hm1 := cond_t hc1 hm1
     refine V.skip ?_
     refine V.seq ?_
     replace hm1 := bindO hm1; rcases hm1 with ⟨j0, hm2, hm1⟩
     refine V.cutT (D := (List (List Int)) × (Option Nat)) (fun ⟨rows1, ob2⟩ => ⟨50, [(4, optS 1 ob2 (List.length rows1)), (0, .vl ρ0 5 (List.map (encCarton ρ0) list)), (5, .int .i64 room)], optH 1 ob2 (List.map (encL rn 1 encInt) rows1)⟩) (fun ⟨rows1, ob2⟩ => (rows1 = j0) ∧ (ob2 = none → rows1 = [])) ?_ ?_
     ·
      refine V.block ?_
      refine V.seq ?_
      refine V.region ?_
      refine VO.cons rfl (V1.move rfl rfl rfl lt0 ?_)
      refine VO.cons rfl (V1.buildSliceT (f := encInt) ([room, (0 : Int), (0 : Int)] : List Int) rfl rfl esz_36 zk_3 rfl rfl rfl rfl rfl rfl rfl lt0 ?_)
      intro b0
      refine VO.cons rfl (V1.assign rfl rfl rfl lt0 ?_)
      refine VO.nil ?_
      refine V.keep 50 [0, 4, 5, 6] [0] (E0 := [(0, .vl ρ0 5 (List.map (encCarton ρ0) list)), (4, .nils), (5, .int .i64 room), (6, .sref b0 1 0 (List.length ([room, (0 : Int), (0 : Int)] : List Int)))]) (H0 := [(b0, ⟨1, List.map encInt ([room, (0 : Int), (0 : Int)] : List Int)⟩)]) rfl (⟨_, _, rfl, rfl, ⟨_, _, rfl, rfl, ⟨_, _, rfl, rfl, ⟨_, _, rfl, rfl, rfl⟩⟩⟩⟩) (⟨_, _, rfl, rfl, rfl⟩) rfl ?_
      refine V.seq ?_
      refine V.seq ?_
      refine V.region ?_
      refine VO.cons rfl (V1.move rfl rfl rfl lt0 ?_)
      refine VO.cons rfl (V1.lenMap rfl rfl rfl rfl rfl rfl isl_39 lt0 ?_)
      refine VO.cons rfl (V1.move rfl rfl rfl lt0 ?_)
      refine VO.nil ?_
      replace hm2 := bindO hm2; rcases hm2 with ⟨e1, he3, hm2⟩
      refine V.cutT (D := (List Int) × (Unit)) (fun ⟨row, _⟩ => ⟨50, [(6, .sref b0 1 0 (List.length row)), (0, .vl ρ0 5 (List.map (encCarton ρ0) list)), (4, .nils), (5, .int .i64 room)], [(b0, ⟨1, List.map encInt row⟩)]⟩) (fun ⟨row, _⟩ => (row = e1)) ?_ ?_
      ·
       refine V.block ?_
       refine V.keep 50 [6, 20, 0, 4, 5, 18, 19] [0] (E0 := [(6, .sref b0 1 0 (List.length ([room, (0 : Int), (0 : Int)] : List Int))), (20, .int .i64 (0 : Int)), (0, .vl ρ0 5 (List.map (encCarton ρ0) list)), (4, .nils), (5, .int .i64 room), (18, .vl ρ0 5 (List.map (encCarton ρ0) list)), (19, .int .i64 (list.length : Int))]) (H0 := [(b0, ⟨1, List.map encInt ([room, (0 : Int), (0 : Int)] : List Int)⟩)]) rfl (⟨_, _, rfl, rfl, ⟨_, _, rfl, rfl, ⟨_, _, rfl, rfl, ⟨_, _, rfl, rfl, ⟨_, _, rfl, rfl, ⟨_, _, rfl, rfl, ⟨_, _, rfl, rfl, rfl⟩⟩⟩⟩⟩⟩⟩) (⟨_, _, rfl, rfl, rfl⟩) rfl ?_
       refine V.loopE (D := Nat × (List Int × Int) × (Unit)) (fun ⟨n1, ⟨row0, v⟩, _⟩ => [(6, .sref b0 1 0 (List.length row0)), (20, .int .i64 v)]) (fun ⟨n1, ⟨row0, v⟩, _⟩ => [(b0, ⟨1, List.map encInt row0⟩)]) (fun ⟨n1, ⟨row0, v⟩, _⟩ => loopO (M.impl_RoomLoad_l1 list room) n1 (row0, v) = some e1) (fun ⟨n1, _, _⟩ => n1) (rounds, (([room, (0 : Int), (0 : Int)] : List Int), (0 : Int)), ()) rfl he3 ?_
       rintro ⟨n1, ⟨row0, v⟩, _⟩ hP1
       obtain ⟨m1, y2, rfl, hm3, hl3, hr3⟩ := loop_head hP1
       unfold M.impl_RoomLoad_l1 at hm3; dsimp only at hm3
       show V _ _ _ ⟨50, [(6, .sref b0 1 0 (List.length row0)), (20, .int .i64 v), (0, .vl ρ0 5 (List.map (encCarton ρ0) list)), (4, .nils), (5, .int .i64 room), (18, .vl ρ0 5 (List.map (encCarton ρ0) list)), (19, .int .i64 (list.length : Int))], [(b0, ⟨1, List.map encInt row0⟩)]⟩
       refine V.seq ?_
       refine V.region ?_
       refine VO.cons rfl (V1.int rfl rfl rfl rfl rfl lt0 ?_)
       refine VO.nil ?_
       refine V.seq ?_
       refine V.cond rfl (fun hc2 => ?_) (fun hc2 => ?_)
       ·
        replace hm3 := cond_t hc2 hm3
        refine V.skip ?_
        refine V.seq ?_
        replace hm3 := bindO hm3; rcases hm3 with ⟨j1, hm4, hm3⟩
        refine V.cutT (D := (List Int) × (Unit)) (fun ⟨row1, _⟩ => ⟨50, [(6, .sref b0 1 0 (List.length row1)), (0, .vl ρ0 5 (List.map (encCarton ρ0) list)), (4, .nils), (5, .int .i64 room), (18, .vl ρ0 5 (List.map (encCarton ρ0) list)), (19, .int .i64 (list.length : Int)), (20, .int .i64 v)], [(b0, ⟨1, List.map encInt row1⟩)]⟩) (fun ⟨row1, _⟩ => (row1 = j1)) ?_ ?_
        ·
         refine V.block ?_
         refine V.seq ?_
         replace hm4 := asrt_some hm4; rcases hm4 with ⟨hh1, hm4⟩
         refine V.region ?_
         refine VO.cons rfl (V1.indexI rfl rfl esz_39 rfl rfl hh1 lt0 ?_)
         refine VO.cons rfl (V1.loadPinAll rfl rfl tyk_67 rfl rfl lt0 ?_)
         refine VO.cons rfl (V1.alloc rfl rfl zk_67 lt0 ?_)
         intro b1
         refine VO.cons rfl (V1.storeRefAll (k := 0) rfl rfl tyk_67 rfl rfl rfl rfl rfl rfl ?_)
         refine VO.nil ?_
         refine V.seq ?_
         refine V.region ?_
         refine VO.cons rfl (V1.fieldRef rfl rfl fo_67_2 rfl lt0 ?_)
         refine VO.cons rfl (V1.loadRef (k := 0) rfl rfl tyk_3 rfl rfl rfl rfl rfl lt0 ?_)
         refine VO.cons rfl (V1.move rfl rfl rfl lt0 ?_)
         refine VO.cons rfl (V1.int rfl rfl rfl rfl rfl lt0 ?_)
         refine VO.nil ?_
         refine V.keep 50 [0, 4, 5, 6, 8, 18, 19, 20, 27] [0, 1] (E0 := [(0, .vl ρ0 5 (List.map (encCarton ρ0) list)), (4, .nils), (5, .int .i64 room), (6, .sref b0 1 0 (List.length row0)), (8, .ref b1 5 0 0), (18, .vl ρ0 5 (List.map (encCarton ρ0) list)), (19, .int .i64 (list.length : Int)), (20, .int .i64 v), (27, .bool (((list.getD (Int.toNat v) default).Room) == room))]) (H0 := [(b1, ⟨5, [encCarton ρ0 (list.getD (Int.toNat v) default)]⟩), (b0, ⟨1, List.map encInt row0⟩)]) rfl (⟨_, _, rfl, rfl, ⟨_, _, rfl, rfl, ⟨_, _, rfl, rfl, ⟨_, _, rfl, rfl, ⟨_, _, rfl, rfl, ⟨_, _, rfl, rfl, ⟨_, _, rfl, rfl, ⟨_, _, rfl, rfl, ⟨_, _, rfl, rfl, rfl⟩⟩⟩⟩⟩⟩⟩⟩⟩) (⟨_, _, rfl, rfl, ⟨_, _, rfl, rfl, rfl⟩⟩) rfl ?_
         refine V.cond rfl (fun hc3 => ?_) (fun hc3 => ?_)
         ·
          replace hm4 := cond_t hc3 hm4
          refine V.seq ?_
          replace hm4 := asrt_some hm4; rcases hm4 with ⟨hh2, hm4⟩
          replace hm4 := asrt_some hm4; rcases hm4 with ⟨hh3, hm4⟩
          refine V.region ?_
          refine VO.cons rfl (V1.move rfl rfl rfl lt0 ?_)
          refine VO.cons rfl (V1.indexSr rfl rfl esz_36 rfl rfl hh2 lt0 ?_)
          refine VO.cons rfl (V1.loadMap (k := 1) (f := encInt) rfl rfl tyk_3 rfl rfl (by simpa using natLt hh2.1 hh2.2) rfl lt0 ?_)
          refine VO.cons rfl (V1.int rfl rfl rfl rfl rfl lt0 ?_)
          refine VO.cons rfl (V1.indexSr rfl rfl esz_36 rfl rfl hh3 lt0 ?_)
          refine VO.cons rfl (V1.storeMap (k := 1) (f := encInt) (x := (IntKind.i64.wrap ((row0.getD (Int.toNat (1 : Int)) default) + (1 : Int)))) rfl rfl tyk_3 rfl rfl (by simpa using natLt hh3.1 hh3.2) rfl rfl ?_)
          refine VO.weakenK (Keeps.say 6 (y := .sref b0 1 0 (List.length (row0.set (Int.toNat (1 : Int)) (IntKind.i64.wrap ((row0.getD (Int.toNat (1 : Int)) default) + (1 : Int)))))) rfl (by simp [optS])) ?_
          refine VO.nil ?_
          refine V.keep 50 [0, 4, 5, 6, 8, 18, 19, 20] [0, 1] (E0 := [(0, .vl ρ0 5 (List.map (encCarton ρ0) list)), (4, .nils), (5, .int .i64 room), (6, .sref b0 1 0 (List.length (row0.set (Int.toNat (1 : Int)) (IntKind.i64.wrap ((row0.getD (Int.toNat (1 : Int)) default) + (1 : Int)))))), (8, .ref b1 5 0 0), (18, .vl ρ0 5 (List.map (encCarton ρ0) list)), (19, .int .i64 (list.length : Int)), (20, .int .i64 v)]) (H0 := [(b1, ⟨5, [encCarton ρ0 (list.getD (Int.toNat v) default)]⟩), (b0, ⟨1, List.map encInt (row0.set (Int.toNat (1 : Int)) (IntKind.i64.wrap ((row0.getD (Int.toNat (1 : Int)) default) + (1 : Int))))⟩)]) rfl (⟨_, _, rfl, rfl, ⟨_, _, rfl, rfl, ⟨_, _, rfl, rfl, ⟨_, _, rfl, rfl, ⟨_, _, rfl, rfl, ⟨_, _, rfl, rfl, ⟨_, _, rfl, rfl, ⟨_, _, rfl, rfl, rfl⟩⟩⟩⟩⟩⟩⟩⟩) (⟨_, _, rfl, rfl, ⟨_, _, rfl, rfl, rfl⟩⟩) rfl ?_
          replace hm4 := asrt_some hm4; rcases hm4 with ⟨hh4, hm4⟩
          replace hm4 := asrt_some hm4; rcases hm4 with ⟨hh5, hm4⟩
          refine V.regionM 50 5 [⟨[(6, none)], [], none⟩, ⟨[(33, some 0)], [], none⟩, ⟨[(34, some 0)], [], none⟩, ⟨[(8, none)], [], none⟩, ⟨[(36, some 0)], [], none⟩] [(0, none), (4, none), (5, none), (6, none), (18, none), (19, none), (20, none), (33, some 4), (35, some 2), (37, some 0)] (⟨_, rfl, ⟨_, rfl, ⟨_, rfl, ⟨_, rfl, ⟨_, rfl, ⟨rfl, rfl⟩⟩⟩⟩⟩⟩) mixed_orders rfl (by decide +kernel) (fun hck13 => ?_)
          refine VP.step (p := ?pv1359) rfl rfl rfl (⟨_, _, rfl, rfl, rfl⟩) ?hv1359 ?rest1359 hck13
          case hv1359 =>
           intro E1
           refine (V1.move rfl rfl rfl lt0 ?_)
           exact rfl
          refine VP.step (p := ?pv1360) rfl rfl rfl (⟨_, _, rfl, rfl, rfl⟩) ?hv1360 ?rest1360 hck13
          case hv1360 =>
           intro E1
           refine (V1.indexSr rfl rfl esz_36 rfl rfl hh4 lt0 ?_)
           exact rfl
          refine VP.step (p := ?pv1361) rfl rfl rfl (⟨_, _, rfl, rfl, rfl⟩) ?hv1361 ?rest1361 hck13
          case hv1361 =>
           intro E1
           refine (V1.loadMap (k := 1) (f := encInt) rfl rfl tyk_3 rfl rfl (by simpa using natLt hh4.1 hh4.2) rfl lt0 ?_)
           exact rfl
          refine VP.step (p := ?pv1362) rfl rfl rfl (⟨_, _, rfl, rfl, rfl⟩) ?hv1362 ?rest1362 hck13
          case hv1362 =>
           intro E1
           refine (V1.fieldRef rfl rfl fo_67_4 rfl lt0 ?_)
           exact rfl
          refine VP.step (p := ?pv1363) rfl rfl rfl (⟨_, _, rfl, rfl, rfl⟩) ?hv1363 ?rest1363 hck13
          case hv1363 =>
           intro E1
           refine (V1.loadRef (k := 0) rfl rfl tyk_3 rfl rfl rfl rfl rfl lt0 ?_)
           exact rfl
          refine VP.fin rfl (⟨_, _, rfl, rfl, ⟨_, _, rfl, rfl, ⟨_, _, rfl, rfl, ⟨_, _, rfl, rfl, ⟨_, _, rfl, rfl, ⟨_, _, rfl, rfl, ⟨_, _, rfl, rfl, ⟨_, _, rfl, rfl, ⟨_, _, rfl, rfl, ⟨_, _, rfl, rfl, rfl⟩⟩⟩⟩⟩⟩⟩⟩⟩⟩) ?_
          refine VO.cons rfl (V1.int rfl rfl rfl rfl rfl lt0 ?_)
          refine VO.cons rfl (V1.indexSr rfl rfl esz_36 rfl rfl hh5 lt0 ?_)
          refine VO.cons rfl (V1.storeMap (k := 1) (f := encInt) (x := (IntKind.i64.wrap (((row0.set (Int.toNat (1 : Int)) (IntKind.i64.wrap ((row0.getD (Int.toNat (1 : Int)) default) + (1 : Int)))).getD (Int.toNat (2 : Int)) default) + ((list.getD (Int.toNat v) default).Thick)))) rfl rfl tyk_3 rfl rfl (by simpa using natLt hh5.1 hh5.2) rfl rfl ?_)
          refine VO.weakenK (Keeps.say 6 (y := .sref b0 1 0 (List.length ((row0.set (Int.toNat (1 : Int)) (IntKind.i64.wrap ((row0.getD (Int.toNat (1 : Int)) default) + (1 : Int)))).set (Int.toNat (2 : Int)) (IntKind.i64.wrap (((row0.set (Int.toNat (1 : Int)) (IntKind.i64.wrap ((row0.getD (Int.toNat (1 : Int)) default) + (1 : Int)))).getD (Int.toNat (2 : Int)) default) + ((list.getD (Int.toNat v) default).Thick)))))) rfl (by simp [optS])) ?_
          refine VO.nil ?_
          exact ⟨(((row0.set (Int.toNat (1 : Int)) (IntKind.i64.wrap ((row0.getD (Int.toNat (1 : Int)) default) + (1 : Int)))).set (Int.toNat (2 : Int)) (IntKind.i64.wrap (((row0.set (Int.toNat (1 : Int)) (IntKind.i64.wrap ((row0.getD (Int.toNat (1 : Int)) default) + (1 : Int)))).getD (Int.toNat (2 : Int)) default) + ((list.getD (Int.toNat v) default).Thick)))), ()), Option.some.inj hm4, Keeps.mk (ks := [1]) rfl ⟨(someSref (by simp)), rfl, rfl, rfl, rfl, rfl, rfl, trivial⟩ (⟨_, _, rfl, rfl, rfl⟩) rfl⟩
         ·
          replace hm4 := cond_f hc3 hm4
          refine V.skip ?_
          exact ⟨(row0, ()), Option.some.inj hm4, Keeps.mk (ks := [1]) rfl ⟨(someSref (by simp)), rfl, rfl, rfl, rfl, rfl, rfl, trivial⟩ (⟨_, _, rfl, rfl, rfl⟩) rfl⟩
        ·
         rintro ⟨row1, _⟩ rfl
         try dsimp only at hm3
         refine V.region ?_
         refine VO.cons rfl (V1.int rfl rfl rfl rfl rfl lt0 ?_)
         refine VO.cons rfl (V1.move rfl rfl rfl lt0 ?_)
         refine VO.nil ?_
         exact ⟨(m1, (row1, (IntKind.i64.wrap (v + (1 : Int)))), ()), hl3 _ (Option.some.inj hm3).symm, Nat.lt_succ_self _, Keeps.mk (ks := [0]) rfl ⟨(someSref (by simp)), rfl, rfl, rfl, rfl, rfl, rfl, trivial⟩ (⟨_, _, rfl, rfl, rfl⟩) rfl⟩
       ·
        replace hm3 := cond_f hc2 hm3
        refine V.exit ?_
        obtain rfl := hr3 _ (Option.some.inj hm3).symm
        exact ⟨(row0, ()), rfl, Keeps.mk (ks := [0]) rfl ⟨(someSref (by simp)), rfl, rfl, rfl, trivial⟩ (⟨_, _, rfl, rfl, rfl⟩) rfl⟩
      ·
       rintro ⟨row, _⟩ rfl
       try dsimp only at hm2
       refine V.seq ?_
       replace hm2 := asrt_some hm2; rcases hm2 with ⟨hh6, hm2⟩
       refine V.region ?_
       refine VO.cons rfl (V1.move rfl rfl rfl lt0 ?_)
       refine VO.cons rfl (V1.indexSr rfl rfl esz_36 rfl rfl hh6 lt0 ?_)
       refine VO.cons rfl (V1.loadMap (k := 0) (f := encInt) rfl rfl tyk_3 rfl rfl (by simpa using natLt hh6.1 hh6.2) rfl lt0 ?_)
       refine VO.cons rfl (V1.int rfl rfl rfl rfl rfl lt0 ?_)
       refine VO.nil ?_
       refine V.cond rfl (fun hc4 => ?_) (fun hc4 => ?_)
       ·
        replace hm2 := cond_t hc4 hm2
        replace hm2 := asrt_some hm2; rcases hm2 with ⟨hh7, hm2⟩
        refine V.region ?_
        refine VO.cons rfl (V1.move rfl rfl rfl lt0 ?_)
        refine VO.cons rfl (V1.move rfl rfl rfl lt0 ?_)
        refine VO.weakenK (Keeps.freezeG 0 rn [(6, .vl rn 1 (List.map encInt row)), (41, .vl rn 1 (List.map encInt row)), (46, .vl rn 1 (List.map encInt row))] ([]) (f := encInt) (l := row) rfl (fun _ => rfl) ⟨⟨_, rfl, .here⟩, ⟨_, rfl, .here⟩, ⟨_, rfl, .here⟩, trivial⟩ rfl rfl iNil) ?_
        refine VO.cons rfl (V1.buildSliceT (f := (encL rn 1 encInt)) ([row] : List (List Int)) rfl rfl esz_24 zk_36 rfl rfl rfl rfl rfl rfl rfl lt0 ?_)
        intro b2
        refine VO.cons rfl (V1.appendNilE (f := (encL rn 1 encInt)) (l := rows0) (m := ([row] : List (List Int))) hob1 rfl rfl rfl rfl rfl esz_24 eby_24 zk_36 rfl rfl rfl (SrcOf.srMap (k := 0) rfl isl_24) rfl hh7 lt0 ?_)
        intro b3
        refine VO.cons rfl (V1.assign rfl rfl rfl lt0 ?_)
        refine VO.nil ?_
        exact ⟨((rows0 ++ ([row] : List (List Int))), (some b3)), ⟨Option.some.inj hm2, (fun e => by cases e)⟩, Keeps.mk (ks := [0]) rfl ⟨rfl, rfl, rfl, trivial⟩ (⟨_, _, rfl, rfl, rfl⟩) rfl⟩
       ·
        replace hm2 := cond_f hc4 hm2
        refine V.skip ?_
        exact ⟨(rows0, none), ⟨Option.some.inj hm2, (fun _ => hob1)⟩, Keeps.mk (ks := []) rfl ⟨rfl, rfl, rfl, trivial⟩ (rfl) rfl⟩
     ·
      rintro ⟨rows1, ob2⟩ ⟨rfl, hob2⟩
      try dsimp only at hm1
      rcases ob2 with _ | ob2
      ·
       replace hob2 := hob2 rfl
       refine V.region ?_
       refine VO.cons rfl (V1.move rfl rfl rfl lt0 ?_)
       refine VO.cons rfl (V1.int rfl rfl rfl rfl rfl lt0 ?_)
       refine VO.cons rfl (V1.assign rfl rfl rfl lt0 ?_)
       refine VO.nil ?_
       exact ⟨(m0, (rows1, (IntKind.i64.wrap (room + (1 : Int)))), none), ⟨hl1 _ (Option.some.inj hm1).symm, (fun _ => hob2)⟩, Nat.lt_succ_self _, Keeps.mk (ks := []) rfl ⟨rfl, rfl, rfl, trivial⟩ (rfl) rfl⟩
      ·
       refine V.region ?_
       refine VO.cons rfl (V1.move rfl rfl rfl lt0 ?_)
       refine VO.cons rfl (V1.int rfl rfl rfl rfl rfl lt0 ?_)
       refine VO.cons rfl (V1.assign rfl rfl rfl lt0 ?_)
       refine VO.nil ?_
       exact ⟨(m0, (rows1, (IntKind.i64.wrap (room + (1 : Int)))), (some ob2)), ⟨hl1 _ (Option.some.inj hm1).symm, (fun e => by cases e)⟩, Nat.lt_succ_self _, Keeps.mk (ks := [0]) rfl ⟨rfl, rfl, rfl, trivial⟩ (⟨_, _, rfl, rfl, rfl⟩) rfl⟩
    ·
     replace hm1 := cond_f hc1 hm1
     refine V.exit ?_
     obtain rfl := hr1 _ (Option.some.inj hm1).symm
     exact ⟨(rows0, none), ⟨rfl, (fun _ => hob1)⟩, Keeps.mk (ks := []) rfl ⟨rfl, trivial⟩ (rfl) rfl⟩
   ·
    show V _ _ _ ⟨50, [(4, .sref ob1 1 0 (List.length rows0)), (5, .int .i64 room), (0, .vl ρ0 5 (List.map (encCarton ρ0) list))], [(ob1, ⟨1, List.map (encL rn 1 encInt) rows0⟩)]⟩
    refine V.seq ?_
    refine V.seq ?_
    refine V.region ?_
    refine VO.cons rfl (V1.move rfl rfl rfl lt0 ?_)
    refine VO.cons rfl (V1.int rfl rfl rfl rfl rfl lt0 ?_)
    refine VO.nil ?_
    refine V.cond rfl (fun hc1 => ?_) (fun hc1 => ?_)
    ·
     replace hm1 := cond_t hc1 hm1
     refine V.skip ?_
     refine V.seq ?_
     replace hm1 := bindO hm1; rcases hm1 with ⟨j0, hm2, hm1⟩
     refine V.cutT (D := (List (List Int)) × (Nat)) (fun ⟨rows1, b0⟩ => ⟨50, [(4, .sref b0 1 0 (List.length rows1)), (0, .vl ρ0 5 (List.map (encCarton ρ0) list)), (5, .int .i64 room)], [(b0, ⟨1, List.map (encL rn 1 encInt) rows1⟩)]⟩) (fun ⟨rows1, b0⟩ => (rows1 = j0)) ?_ ?_
     ·
      refine V.block ?_
      refine V.seq ?_
      refine V.region ?_
      refine VO.cons rfl (V1.move rfl rfl rfl lt0 ?_)
      refine VO.cons rfl (V1.buildSliceT (f := encInt) ([room, (0 : Int), (0 : Int)] : List Int) rfl rfl esz_36 zk_3 rfl rfl rfl rfl rfl rfl rfl lt0 ?_)
      intro b1
      refine VO.cons rfl (V1.assign rfl rfl rfl lt0 ?_)
      refine VO.nil ?_
      refine V.keep 50 [0, 4, 5, 6] [0, 1] (E0 := [(0, .vl ρ0 5 (List.map (encCarton ρ0) list)), (4, .sref ob1 1 0 (List.length rows0)), (5, .int .i64 room), (6, .sref b1 1 0 (List.length ([room, (0 : Int), (0 : Int)] : List Int)))]) (H0 := [(b1, ⟨1, List.map encInt ([room, (0 : Int), (0 : Int)] : List Int)⟩), (ob1, ⟨1, List.map (encL rn 1 encInt) rows0⟩)]) rfl (⟨_, _, rfl, rfl, ⟨_, _, rfl, rfl, ⟨_, _, rfl, rfl, ⟨_, _, rfl, rfl, rfl⟩⟩⟩⟩) (⟨_, _, rfl, rfl, ⟨_, _, rfl, rfl, rfl⟩⟩) rfl ?_
      refine V.seq ?_
      refine V.seq ?_
      refine V.region ?_
      refine VO.cons rfl (V1.move rfl rfl rfl lt0 ?_)
      refine VO.cons rfl (V1.lenMap rfl rfl rfl rfl rfl rfl isl_39 lt0 ?_)
      refine VO.cons rfl (V1.move rfl rfl rfl lt0 ?_)
      refine VO.nil ?_
      replace hm2 := bindO hm2; rcases hm2 with ⟨e1, he3, hm2⟩
      refine V.cutT (D := (List Int) × (Unit)) (fun ⟨row, _⟩ => ⟨50, [(6, .sref b1 1 0 (List.length row)), (0, .vl ρ0 5 (List.map (encCarton ρ0) list)), (4, .sref ob1 1 0 (List.length rows0)), (5, .int .i64 room)], [(b1, ⟨1, List.map encInt row⟩), (ob1, ⟨1, List.map (encL rn 1 encInt) rows0⟩)]⟩) (fun ⟨row, _⟩ => (row = e1)) ?_ ?_
      ·
       refine V.block ?_
       refine V.keep 50 [6, 20, 0, 4, 5, 18, 19] [0, 1] (E0 := [(6, .sref b1 1 0 (List.length ([room, (0 : Int), (0 : Int)] : List Int))), (20, .int .i64 (0 : Int)), (0, .vl ρ0 5 (List.map (encCarton ρ0) list)), (4, .sref ob1 1 0 (List.length rows0)), (5, .int .i64 room), (18, .vl ρ0 5 (List.map (encCarton ρ0) list)), (19, .int .i64 (list.length : Int))]) (H0 := [(b1, ⟨1, List.map encInt ([room, (0 : Int), (0 : Int)] : List Int)⟩), (ob1, ⟨1, List.map (encL rn 1 encInt) rows0⟩)]) rfl (⟨_, _, rfl, rfl, ⟨_, _, rfl, rfl, ⟨_, _, rfl, rfl, ⟨_, _, rfl, rfl, ⟨_, _, rfl, rfl, ⟨_, _, rfl, rfl, ⟨_, _, rfl, rfl, rfl⟩⟩⟩⟩⟩⟩⟩) (⟨_, _, rfl, rfl, ⟨_, _, rfl, rfl, rfl⟩⟩) rfl ?_
       refine V.loopE (D := Nat × (List Int × Int) × (Unit)) (fun ⟨n1, ⟨row0, v⟩, _⟩ => [(6, .sref b1 1 0 (List.length row0)), (20, .int .i64 v)]) (fun ⟨n1, ⟨row0, v⟩, _⟩ => [(b1, ⟨1, List.map encInt row0⟩)]) (fun ⟨n1, ⟨row0, v⟩, _⟩ => loopO (M.impl_RoomLoad_l1 list room) n1 (row0, v) = some e1) (fun ⟨n1, _, _⟩ => n1) (rounds, (([room, (0 : Int), (0 : Int)] : List Int), (0 : Int)), ()) rfl he3 ?_
       rintro ⟨n1, ⟨row0, v⟩, _⟩ hP1
       obtain ⟨m1, y2, rfl, hm3, hl3, hr3⟩ := loop_head hP1
       unfold M.impl_RoomLoad_l1 at hm3; dsimp only at hm3
       show V _ _ _ ⟨50, [(6, .sref b1 1 0 (List.length row0)), (20, .int .i64 v), (0, .vl ρ0 5 (List.map (encCarton ρ0) list)), (4, .sref ob1 1 0 (List.length rows0)), (5, .int .i64 room), (18, .vl ρ0 5 (List.map (encCarton ρ0) list)), (19, .int .i64 (list.length : Int))], [(b1, ⟨1, List.map encInt row0⟩), (ob1, ⟨1, List.map (encL rn 1 encInt) rows0⟩)]⟩
       refine V.seq ?_
       refine V.region ?_
       refine VO.cons rfl (V1.int rfl rfl rfl rfl rfl lt0 ?_)
       refine VO.nil ?_
       refine V.seq ?_
       refine V.cond rfl (fun hc2 => ?_) (fun hc2 => ?_)
       ·
        replace hm3 := cond_t hc2 hm3
        refine V.skip ?_
        refine V.seq ?_
        replace hm3 := bindO hm3; rcases hm3 with ⟨j1, hm4, hm3⟩
        refine V.cutT (D := (List Int) × (Unit)) (fun ⟨row1, _⟩ => ⟨50, [(6, .sref b1 1 0 (List.length row1)), (0, .vl ρ0 5 (List.map (encCarton ρ0) list)), (4, .sref ob1 1 0 (List.length rows0)), (5, .int .i64 room), (18, .vl ρ0 5 (List.map (encCarton ρ0) list)), (19, .int .i64 (list.length : Int)), (20, .int .i64 v)], [(b1, ⟨1, List.map encInt row1⟩), (ob1, ⟨1, List.map (encL rn 1 encInt) rows0⟩)]⟩) (fun ⟨row1, _⟩ => (row1 = j1)) ?_ ?_
        ·
         refine V.block ?_
         refine V.seq ?_
         replace hm4 := asrt_some hm4; rcases hm4 with ⟨hh1, hm4⟩
         refine V.region ?_
         refine VO.cons rfl (V1.indexI rfl rfl esz_39 rfl rfl hh1 lt0 ?_)
         refine VO.cons rfl (V1.loadPinAll rfl rfl tyk_67 rfl rfl lt0 ?_)
         refine VO.cons rfl (V1.alloc rfl rfl zk_67 lt0 ?_)
         intro b2
         refine VO.cons rfl (V1.storeRefAll (k := 0) rfl rfl tyk_67 rfl rfl rfl rfl rfl rfl ?_)
         refine VO.nil ?_
         refine V.seq ?_
         refine V.region ?_
         refine VO.cons rfl (V1.fieldRef rfl rfl fo_67_2 rfl lt0 ?_)
         refine VO.cons rfl (V1.loadRef (k := 0) rfl rfl tyk_3 rfl rfl rfl rfl rfl lt0 ?_)
         refine VO.cons rfl (V1.move rfl rfl rfl lt0 ?_)
         refine VO.cons rfl (V1.int rfl rfl rfl rfl rfl lt0 ?_)
         refine VO.nil ?_
         refine V.keep 50 [0, 4, 5, 6, 8, 18, 19, 20, 27] [0, 1, 2] (E0 := [(0, .vl ρ0 5 (List.map (encCarton ρ0) list)), (4, .sref ob1 1 0 (List.length rows0)), (5, .int .i64 room), (6, .sref b1 1 0 (List.length row0)), (8, .ref b2 5 0 0), (18, .vl ρ0 5 (List.map (encCarton ρ0) list)), (19, .int .i64 (list.length : Int)), (20, .int .i64 v), (27, .bool (((list.getD (Int.toNat v) default).Room) == room))]) (H0 := [(b2, ⟨5, [encCarton ρ0 (list.getD (Int.toNat v) default)]⟩), (b1, ⟨1, List.map encInt row0⟩), (ob1, ⟨1, List.map (encL rn 1 encInt) rows0⟩)]) rfl (⟨_, _, rfl, rfl, ⟨_, _, rfl, rfl, ⟨_, _, rfl, rfl, ⟨_, _, rfl, rfl, ⟨_, _, rfl, rfl, ⟨_, _, rfl, rfl, ⟨_, _, rfl, rfl, ⟨_, _, rfl, rfl, ⟨_, _, rfl, rfl, rfl⟩⟩⟩⟩⟩⟩⟩⟩⟩) (⟨_, _, rfl, rfl, ⟨_, _, rfl, rfl, ⟨_, _, rfl, rfl, rfl⟩⟩⟩) rfl ?_
         refine V.cond rfl (fun hc3 => ?_) (fun hc3 => ?_)
         ·
          replace hm4 := cond_t hc3 hm4
          refine V.seq ?_
          replace hm4 := asrt_some hm4; rcases hm4 with ⟨hh2, hm4⟩
          replace hm4 := asrt_some hm4; rcases hm4 with ⟨hh3, hm4⟩
          refine V.region ?_
          refine VO.cons rfl (V1.move rfl rfl rfl lt0 ?_)
          refine VO.cons rfl (V1.indexSr rfl rfl esz_36 rfl rfl hh2 lt0 ?_)
          refine VO.cons rfl (V1.loadMap (k := 1) (f := encInt) rfl rfl tyk_3 rfl rfl (by simpa using natLt hh2.1 hh2.2) rfl lt0 ?_)
          refine VO.cons rfl (V1.int rfl rfl rfl rfl rfl lt0 ?_)
          refine VO.cons rfl (V1.indexSr rfl rfl esz_36 rfl rfl hh3 lt0 ?_)
          refine VO.cons rfl (V1.storeMap (k := 1) (f := encInt) (x := (IntKind.i64.wrap ((row0.getD (Int.toNat (1 : Int)) default) + (1 : Int)))) rfl rfl tyk_3 rfl rfl (by simpa using natLt hh3.1 hh3.2) rfl rfl ?_)
          refine VO.weakenK (Keeps.say 6 (y := .sref b1 1 0 (List.length (row0.set (Int.toNat (1 : Int)) (IntKind.i64.wrap ((row0.getD (Int.toNat (1 : Int)) default) + (1 : Int)))))) rfl (by simp [optS])) ?_
          refine VO.nil ?_
          refine V.keep 50 [0, 4, 5, 6, 8, 18, 19, 20] [0, 1, 2] (E0 := [(0, .vl ρ0 5 (List.map (encCarton ρ0) list)), (4, .sref ob1 1 0 (List.length rows0)), (5, .int .i64 room), (6, .sref b1 1 0 (List.length (row0.set (Int.toNat (1 : Int)) (IntKind.i64.wrap ((row0.getD (Int.toNat (1 : Int)) default) + (1 : Int)))))), (8, .ref b2 5 0 0), (18, .vl ρ0 5 (List.map (encCarton ρ0) list)), (19, .int .i64 (list.length : Int)), (20, .int .i64 v)]) (H0 := [(b2, ⟨5, [encCarton ρ0 (list.getD (Int.toNat v) default)]⟩), (b1, ⟨1, List.map encInt (row0.set (Int.toNat (1 : Int)) (IntKind.i64.wrap ((row0.getD (Int.toNat (1 : Int)) default) + (1 : Int))))⟩), (ob1, ⟨1, List.map (encL rn 1 encInt) rows0⟩)]) rfl (⟨_, _, rfl, rfl, ⟨_, _, rfl, rfl, ⟨_, _, rfl, rfl, ⟨_, _, rfl, rfl, ⟨_, _, rfl, rfl, ⟨_, _, rfl, rfl, ⟨_, _, rfl, rfl, ⟨_, _, rfl, rfl, rfl⟩⟩⟩⟩⟩⟩⟩⟩) (⟨_, _, rfl, rfl, ⟨_, _, rfl, rfl, ⟨_, _, rfl, rfl, rfl⟩⟩⟩) rfl ?_
          replace hm4 := asrt_some hm4; rcases hm4 with ⟨hh4, hm4⟩
          replace hm4 := asrt_some hm4; rcases hm4 with ⟨hh5, hm4⟩
          refine V.regionM 50 5 [⟨[(6, none)], [], none⟩, ⟨[(33, some 0)], [], none⟩, ⟨[(34, some 0)], [], none⟩, ⟨[(8, none)], [], none⟩, ⟨[(36, some 0)], [], none⟩] [(0, none), (4, none), (5, none), (6, none), (18, none), (19, none), (20, none), (33, some 4), (35, some 2), (37, some 0)] (⟨_, rfl, ⟨_, rfl, ⟨_, rfl, ⟨_, rfl, ⟨_, rfl, ⟨rfl, rfl⟩⟩⟩⟩⟩⟩) mixed_orders rfl (by decide +kernel) (fun hck13 => ?_)
          refine VP.step (p := ?pv1439) rfl rfl rfl (⟨_, _, rfl, rfl, rfl⟩) ?hv1439 ?rest1439 hck13
          case hv1439 =>
           intro E1
           refine (V1.move rfl rfl rfl lt0 ?_)
           exact rfl
          refine VP.step (p := ?pv1440) rfl rfl rfl (⟨_, _, rfl, rfl, rfl⟩) ?hv1440 ?rest1440 hck13
          case hv1440 =>
           intro E1
           refine (V1.indexSr rfl rfl esz_36 rfl rfl hh4 lt0 ?_)
           exact rfl
          refine VP.step (p := ?pv1441) rfl rfl rfl (⟨_, _, rfl, rfl, rfl⟩) ?hv1441 ?rest1441 hck13
          case hv1441 =>
           intro E1
           refine (V1.loadMap (k := 1) (f := encInt) rfl rfl tyk_3 rfl rfl (by simpa using natLt hh4.1 hh4.2) rfl lt0 ?_)
           exact rfl
          refine VP.step (p := ?pv1442) rfl rfl rfl (⟨_, _, rfl, rfl, rfl⟩) ?hv1442 ?rest1442 hck13
          case hv1442 =>
           intro E1
           refine (V1.fieldRef rfl rfl fo_67_4 rfl lt0 ?_)
           exact rfl
          refine VP.step (p := ?pv1443) rfl rfl rfl (⟨_, _, rfl, rfl, rfl⟩) ?hv1443 ?rest1443 hck13
          case hv1443 =>
           intro E1
           refine (V1.loadRef (k := 0) rfl rfl tyk_3 rfl rfl rfl rfl rfl lt0 ?_)
           exact rfl
          refine VP.fin rfl (⟨_, _, rfl, rfl, ⟨_, _, rfl, rfl, ⟨_, _, rfl, rfl, ⟨_, _, rfl, rfl, ⟨_, _, rfl, rfl, ⟨_, _, rfl, rfl, ⟨_, _, rfl, rfl, ⟨_, _, rfl, rfl, ⟨_, _, rfl, rfl, ⟨_, _, rfl, rfl, rfl⟩⟩⟩⟩⟩⟩⟩⟩⟩⟩) ?_
          refine VO.cons rfl (V1.int rfl rfl rfl rfl rfl lt0 ?_)
          refine VO.cons rfl (V1.indexSr rfl rfl esz_36 rfl rfl hh5 lt0 ?_)
          refine VO.cons rfl (V1.storeMap (k := 1) (f := encInt) (x := (IntKind.i64.wrap (((row0.set (Int.toNat (1 : Int)) (IntKind.i64.wrap ((row0.getD (Int.toNat (1 : Int)) default) + (1 : Int)))).getD (Int.toNat (2 : Int)) default) + ((list.getD (Int.toNat v) default).Thick)))) rfl rfl tyk_3 rfl rfl (by simpa using natLt hh5.1 hh5.2) rfl rfl ?_)
          refine VO.weakenK (Keeps.say 6 (y := .sref b1 1 0 (List.length ((row0.set (Int.toNat (1 : Int)) (IntKind.i64.wrap ((row0.getD (Int.toNat (1 : Int)) default) + (1 : Int)))).set (Int.toNat (2 : Int)) (IntKind.i64.wrap (((row0.set (Int.toNat (1 : Int)) (IntKind.i64.wrap ((row0.getD (Int.toNat (1 : Int)) default) + (1 : Int)))).getD (Int.toNat (2 : Int)) default) + ((list.getD (Int.toNat v) default).Thick)))))) rfl (by simp [optS])) ?_
          refine VO.nil ?_
          exact ⟨(((row0.set (Int.toNat (1 : Int)) (IntKind.i64.wrap ((row0.getD (Int.toNat (1 : Int)) default) + (1 : Int)))).set (Int.toNat (2 : Int)) (IntKind.i64.wrap (((row0.set (Int.toNat (1 : Int)) (IntKind.i64.wrap ((row0.getD (Int.toNat (1 : Int)) default) + (1 : Int)))).getD (Int.toNat (2 : Int)) default) + ((list.getD (Int.toNat v) default).Thick)))), ()), Option.some.inj hm4, Keeps.mk (ks := [1, 2]) rfl ⟨(someSref (by simp)), rfl, rfl, rfl, rfl, rfl, rfl, trivial⟩ (⟨_, _, rfl, rfl, ⟨_, _, rfl, rfl, rfl⟩⟩) rfl⟩
         ·
          replace hm4 := cond_f hc3 hm4
          refine V.skip ?_
          exact ⟨(row0, ()), Option.some.inj hm4, Keeps.mk (ks := [1, 2]) rfl ⟨(someSref (by simp)), rfl, rfl, rfl, rfl, rfl, rfl, trivial⟩ (⟨_, _, rfl, rfl, ⟨_, _, rfl, rfl, rfl⟩⟩) rfl⟩
        ·
         rintro ⟨row1, _⟩ rfl
         try dsimp only at hm3
         refine V.region ?_
         refine VO.cons rfl (V1.int rfl rfl rfl rfl rfl lt0 ?_)
         refine VO.cons rfl (V1.move rfl rfl rfl lt0 ?_)
         refine VO.nil ?_
         exact ⟨(m1, (row1, (IntKind.i64.wrap (v + (1 : Int)))), ()), hl3 _ (Option.some.inj hm3).symm, Nat.lt_succ_self _, Keeps.mk (ks := [0, 1]) rfl ⟨(someSref (by simp)), rfl, rfl, rfl, rfl, rfl, rfl, trivial⟩ (⟨_, _, rfl, rfl, ⟨_, _, rfl, rfl, rfl⟩⟩) rfl⟩
       ·
        replace hm3 := cond_f hc2 hm3
        refine V.exit ?_
        obtain rfl := hr3 _ (Option.some.inj hm3).symm
        exact ⟨(row0, ()), rfl, Keeps.mk (ks := [0, 1]) rfl ⟨(someSref (by simp)), rfl, rfl, rfl, trivial⟩ (⟨_, _, rfl, rfl, ⟨_, _, rfl, rfl, rfl⟩⟩) rfl⟩
      ·
       rintro ⟨row, _⟩ rfl
       try dsimp only at hm2
       refine V.seq ?_
       replace hm2 := asrt_some hm2; rcases hm2 with ⟨hh6, hm2⟩
       refine V.region ?_
       refine VO.cons rfl (V1.move rfl rfl rfl lt0 ?_)
       refine VO.cons rfl (V1.indexSr rfl rfl esz_36 rfl rfl hh6 lt0 ?_)
       refine VO.cons rfl (V1.loadMap (k := 0) (f := encInt) rfl rfl tyk_3 rfl rfl (by simpa using natLt hh6.1 hh6.2) rfl lt0 ?_)
       refine VO.cons rfl (V1.int rfl rfl rfl rfl rfl lt0 ?_)
       refine VO.nil ?_
       refine V.cond rfl (fun hc4 => ?_) (fun hc4 => ?_)
       ·
        replace hm2 := cond_t hc4 hm2
        replace hm2 := asrt_some hm2; rcases hm2 with ⟨hh7, hm2⟩
        refine V.region ?_
        refine VO.cons rfl (V1.move rfl rfl rfl lt0 ?_)
        refine VO.cons rfl (V1.move rfl rfl rfl lt0 ?_)
        refine VO.weakenK (Keeps.freezeG 0 rn [(6, .vl rn 1 (List.map encInt row)), (41, .vl rn 1 (List.map encInt row)), (46, .vl rn 1 (List.map encInt row))] ([(ob1, ⟨1, List.map (encL rn 1 encInt) rows0⟩)]) (f := encInt) (l := row) rfl (fun _ => rfl) ⟨⟨_, rfl, .here⟩, ⟨_, rfl, .here⟩, ⟨_, rfl, .here⟩, trivial⟩ ⟨_, _, rfl, rfl, .inl rfl, rfl⟩ rfl iNil) ?_
        refine VO.cons rfl (V1.buildSliceT (f := (encL rn 1 encInt)) ([row] : List (List Int)) rfl rfl esz_24 zk_36 rfl rfl rfl rfl rfl rfl rfl lt0 ?_)
        intro b3
        refine VO.cons rfl (V1.appendMap (k := 1) (f := (encL rn 1 encInt)) (l := rows0) (m := ([row] : List (List Int))) rfl rfl rfl rfl rfl esz_24 eby_24 zk_36 rfl rfl rfl (SrcOf.srMap (k := 0) rfl isl_24) hh7 lt0 ?_)
        intro b4
        refine VO.cons rfl (V1.assign rfl rfl rfl lt0 ?_)
        refine VO.nil ?_
        exact ⟨((rows0 ++ ([row] : List (List Int))), b4), Option.some.inj hm2, Keeps.mk (ks := [0]) rfl ⟨rfl, rfl, rfl, trivial⟩ (⟨_, _, rfl, rfl, rfl⟩) rfl⟩
       ·
        replace hm2 := cond_f hc4 hm2
        refine V.skip ?_
        exact ⟨(rows0, ob1), Option.some.inj hm2, Keeps.mk (ks := [1]) rfl ⟨rfl, rfl, rfl, trivial⟩ (⟨_, _, rfl, rfl, rfl⟩) rfl⟩
     ·
      rintro ⟨rows1, b0⟩ rfl
      try dsimp only at hm1
      refine V.region ?_
      refine VO.cons rfl (V1.move rfl rfl rfl lt0 ?_)
      refine VO.cons rfl (V1.int rfl rfl rfl rfl rfl lt0 ?_)
      refine VO.cons rfl (V1.assign rfl rfl rfl lt0 ?_)
      refine VO.nil ?_
      exact ⟨(m0, (rows1, (IntKind.i64.wrap (room + (1 : Int)))), (some b0)), ⟨hl1 _ (Option.some.inj hm1).symm, (fun e => by cases e)⟩, Nat.lt_succ_self _, Keeps.mk (ks := [0]) rfl ⟨rfl, rfl, rfl, trivial⟩ (⟨_, _, rfl, rfl, rfl⟩) rfl⟩
    ·
     replace hm1 := cond_f hc1 hm1
     refine V.exit ?_
     obtain rfl := hr1 _ (Option.some.inj hm1).symm
     exact ⟨(rows0, (some ob1)), ⟨rfl, (fun e => by cases e)⟩, Keeps.mk (ks := [0]) rfl ⟨rfl, trivial⟩ (⟨_, _, rfl, rfl, rfl⟩) rfl⟩
  ·
   rintro ⟨rows, ob0⟩ ⟨rfl, hob0⟩
   try dsimp only at hm0
   rcases ob0 with _ | ob0
   ·
    replace hob0 := hob0 rfl
    refine V.seq ?_
    refine V.region ?_
    refine VO.cons rfl (V1.move rfl rfl rfl lt0 ?_)
    refine VO.cons rfl (V1.assign rfl rfl rfl lt0 ?_)
    refine VO.cons rfl (V1.assign rfl rfl rfl lt0 ?_)
    refine VO.nil ?_
    refine V.keep 50 [2, 3] [] (E0 := [(2, .nils), (3, .bool true)]) (H0 := []) rfl (⟨_, _, rfl, rfl, ⟨_, _, rfl, rfl, rfl⟩⟩) (rfl) rfl ?_
    refine V.ret ?_
    obtain rfl := Option.some.inj hm0
    exact ⟨_, _, ⟨_, _, rfl, rfl, ⟨_, _, rfl, rfl, rfl⟩⟩, List.Sublist.refl _, none, (fun _ => hob0), rfl, rfl⟩
   ·
    refine V.seq ?_
    refine V.region ?_
    refine VO.cons rfl (V1.move rfl rfl rfl lt0 ?_)
    refine VO.cons rfl (V1.assign rfl rfl rfl lt0 ?_)
    refine VO.cons rfl (V1.assign rfl rfl rfl lt0 ?_)
    refine VO.nil ?_
    refine V.keep 50 [2, 3] [0] (E0 := [(2, .sref ob0 1 0 (List.length rows)), (3, .bool true)]) (H0 := [(ob0, ⟨1, List.map (encL rn 1 encInt) rows⟩)]) rfl (⟨_, _, rfl, rfl, ⟨_, _, rfl, rfl, rfl⟩⟩) (⟨_, _, rfl, rfl, rfl⟩) rfl ?_
    refine V.ret ?_
    obtain rfl := Option.some.inj hm0
    exact ⟨_, _, ⟨_, _, rfl, rfl, ⟨_, _, rfl, rfl, rfl⟩⟩, List.Sublist.refl _, some ob0, (fun e => by cases e), rfl, rfl⟩

theorem okd_impl_RoomLoad {ρ0 rn : Nat} {list : List Carton} {r : List (List Int) × Bool} (h : M.impl_RoomLoad list = some r) : Does Try.prog 30 [.vl ρ0 5 (List.map (encCarton ρ0) list)] [] rn (fun x H => ∃ (ob0_ : Option Nat) (ts_ : List PV) (os_ : List (Nat × Obj')), (ob0_ = none → r.1 = []) ∧ (Deep 1 (fun c_ : List Int => List.map encInt c_) ts_ os_ r.1) ∧ x = .tup [optS 1 ob0_ (List.length r.1), .bool r.2] ∧ H = (optH 1 ob0_ (deepC (cellRow (β := Int)) ts_ r.1) ++ os_)) := by
 have hm0 := h; clear h; unfold M.impl_RoomLoad at hm0
 try dsimp only at hm0
 refine Does.intro (N := 50) Try.func30 rfl rfl rfl rfl ?_
 intro w0 S0
 refine V.seq ?_
 refine V.region ?_
 refine VO.cons rfl (V1.assign rfl rfl rfl lt0 ?_)
 refine VO.cons rfl (V1.assign rfl rfl rfl lt0 ?_)
 refine VO.nil ?_
 refine V.seq ?_
 refine V.seq ?_
 replace hm0 := bindO hm0; rcases hm0 with ⟨y0, hh0, hm0⟩
 refine V.region ?_
 refine VO.cons rfl (V1.move rfl rfl rfl lt0 ?_)
 refine VO.cons rfl (V1.call rfl rfl rfl cok_45 rfl (ok_impl_AreCartons hh0) rfl lt0 ?_)
 rintro _ _ ⟨rfl, rfl⟩
 refine VO.cons rfl (V1.not rfl rfl rfl lt0 ?_)
 refine VO.nil ?_
 refine V.keep 50 [0, 11] [] (E0 := [(0, .vl ρ0 5 (List.map (encCarton ρ0) list)), (11, .bool (!y0))]) (H0 := []) rfl (⟨_, _, rfl, rfl, ⟨_, _, rfl, rfl, rfl⟩⟩) (rfl) rfl ?_
 refine V.cond rfl (fun hc0 => ?_) (fun hc0 => ?_)
 ·
  replace hm0 := cond_t hc0 hm0
  refine V.seq ?_
  refine V.region ?_
  refine VO.cons rfl (V1.assign rfl rfl rfl lt0 ?_)
  refine VO.cons rfl (V1.assign rfl rfl rfl lt0 ?_)
  refine VO.nil ?_
  refine V.keep 50 [2, 3] [] (E0 := [(2, .nils), (3, .bool false)]) (H0 := []) rfl (⟨_, _, rfl, rfl, ⟨_, _, rfl, rfl, rfl⟩⟩) (rfl) rfl ?_
  refine V.ret ?_
  obtain rfl := Option.some.inj hm0
  exact ⟨_, _, ⟨_, _, rfl, rfl, ⟨_, _, rfl, rfl, rfl⟩⟩, List.Sublist.refl _, none, [], [], (fun _ => rfl), (Deep.ofNil rfl), rfl, rfl⟩
 ·
  replace hm0 := cond_f hc0 hm0
  refine V.skip ?_
  refine V.seq ?_
  refine V.region ?_
  refine VO.cons rfl (V1.assign rfl rfl rfl lt0 ?_)
  refine VO.nil ?_
  refine V.seq ?_
  refine V.seq ?_
  refine V.region ?_
  refine VO.cons rfl (V1.assign rfl rfl rfl lt0 ?_)
  refine VO.nil ?_
  replace hm0 := bindO hm0; rcases hm0 with ⟨e0, he1, hm0⟩
  refine V.cutT (D := (List (List Int)) × (Option Nat × List PV × (List (Nat × Obj')))) (fun ⟨rows, ⟨ob0, ts_1309, os_1309⟩⟩ => ⟨50, [(4, optS 1 ob0 (List.length rows))], (optH 1 ob0 (deepC (cellRow (β := Int)) ts_1309 rows)) ++ os_1309⟩) (fun ⟨rows, ⟨ob0, ts_1309, os_1309⟩⟩ => (rows = e0) ∧ (ob0 = none → rows = []) ∧ Deep 1 (fun c_ : List Int => List.map encInt c_) ts_1309 os_1309 rows) ?_ ?_
  ·
   refine V.block ?_
   refine V.keep 50 [4, 5, 0] [] (E0 := [(4, .nils), (5, .int .i64 (1 : Int)), (0, .vl ρ0 5 (List.map (encCarton ρ0) list))]) (H0 := []) rfl (⟨_, _, rfl, rfl, ⟨_, _, rfl, rfl, ⟨_, _, rfl, rfl, rfl⟩⟩⟩) (rfl) rfl ?_
   refine V.loopT (D := Nat × (List (List Int) × Int) × (Option Nat × List PV × (List (Nat × Obj')))) (fun ⟨n0, ⟨rows0, room⟩, ⟨ob1, ts_1310, os_1310⟩⟩ => [(4, optS 1 ob1 (List.length rows0)), (5, .int .i64 room)]) (fun ⟨n0, ⟨rows0, room⟩, ⟨ob1, ts_1310, os_1310⟩⟩ => (optH 1 ob1 (deepC (cellRow (β := Int)) ts_1310 rows0)) ++ os_1310) (fun ⟨n0, ⟨rows0, room⟩, ⟨ob1, ts_1310, os_1310⟩⟩ => loopO (M.impl_RoomLoad_l0 list) n0 (rows0, room) = some e0 ∧ (ob1 = none → rows0 = []) ∧ Deep 1 (fun c_ : List Int => List.map encInt c_) ts_1310 os_1310 rows0) (fun ⟨n0, _, _⟩ => n0) (rounds, (([] : List (List Int)), (1 : Int)), (none, [], [])) rfl ⟨he1, (fun _ => rfl), (Deep.ofNil rfl)⟩ ?_
   rintro ⟨n0, ⟨rows0, room⟩, ⟨ob1, ts_1310, os_1310⟩⟩ ⟨hP0, hob1, hd_1310⟩
   obtain ⟨m0, y1, rfl, hm1, hl1, hr1⟩ := loop_head hP0
   unfold M.impl_RoomLoad_l0 at hm1; dsimp only at hm1
   rcases ob1 with _ | ob1
   ·
    replace hob1 := hob1 rfl
    obtain ⟨rfl, rfl⟩ := Deep.nil hob1 hd_1310
    show V _ _ _ ⟨50, [(4, .nils), (5, .int .i64 room), (0, .vl ρ0 5 (List.map (encCarton ρ0) list))], []⟩
    refine V.seq ?_
    refine V.seq ?_
    refine V.region ?_
    refine VO.cons rfl (V1.move rfl rfl rfl lt0 ?_)
    refine VO.cons rfl (V1.int rfl rfl rfl rfl rfl lt0 ?_)
    refine VO.nil ?_
    refine V.cond rfl (fun hc1 => ?_) (fun hc1 => ?_)
    ·
     replace hm1 := cond_t hc1 hm1
     refine V.skip ?_
     refine V.seq ?_
     replace hm1 := bindO hm1; rcases hm1 with ⟨j0, hm2, hm1⟩
     refine V.cutT (D := (List (List Int)) × (Option Nat × List PV × (List (Nat × Obj')))) (fun ⟨rows1, ⟨ob2, ts_1351, os_1351⟩⟩ => ⟨50, [(4, optS 1 ob2 (List.length rows1)), (0, .vl ρ0 5 (List.map (encCarton ρ0) list)), (5, .int .i64 room)], (optH 1 ob2 (deepC (cellRow (β := Int)) ts_1351 rows1)) ++ os_1351⟩) (fun ⟨rows1, ⟨ob2, ts_1351, os_1351⟩⟩ => (rows1 = j0) ∧ (ob2 = none → rows1 = []) ∧ Deep 1 (fun c_ : List Int => List.map encInt c_) ts_1351 os_1351 rows1) ?_ ?_
     ·
      refine V.block ?_
      refine V.seq ?_
      refine V.region ?_
      refine VO.cons rfl (V1.move rfl rfl rfl lt0 ?_)
      refine VO.cons rfl (V1.buildSliceT (f := encInt) ([room, (0 : Int), (0 : Int)] : List Int) rfl rfl esz_36 zk_3 rfl rfl rfl rfl rfl rfl rfl lt0 ?_)
      intro b0
      refine VO.cons rfl (V1.assign rfl rfl rfl lt0 ?_)
      refine VO.nil ?_
      refine V.keep 50 [0, 4, 5, 6] [0] (E0 := [(0, .vl ρ0 5 (List.map (encCarton ρ0) list)), (4, .nils), (5, .int .i64 room), (6, .sref b0 1 0 (List.length ([room, (0 : Int), (0 : Int)] : List Int)))]) (H0 := [(b0, ⟨1, List.map encInt ([room, (0 : Int), (0 : Int)] : List Int)⟩)]) rfl (⟨_, _, rfl, rfl, ⟨_, _, rfl, rfl, ⟨_, _, rfl, rfl, ⟨_, _, rfl, rfl, rfl⟩⟩⟩⟩) (⟨_, _, rfl, rfl, rfl⟩) rfl ?_
      refine V.seq ?_
      refine V.seq ?_
      refine V.region ?_
      refine VO.cons rfl (V1.move rfl rfl rfl lt0 ?_)
      refine VO.cons rfl (V1.lenMap rfl rfl rfl rfl rfl rfl isl_39 lt0 ?_)
      refine VO.cons rfl (V1.move rfl rfl rfl lt0 ?_)
      refine VO.nil ?_
      replace hm2 := bindO hm2; rcases hm2 with ⟨e1, he3, hm2⟩
      refine V.cutT (D := (List Int) × (Unit)) (fun ⟨row, _⟩ => ⟨50, [(6, .sref b0 1 0 (List.length row)), (0, .vl ρ0 5 (List.map (encCarton ρ0) list)), (4, .nils), (5, .int .i64 room)], [(b0, ⟨1, List.map encInt row⟩)]⟩) (fun ⟨row, _⟩ => (row = e1)) ?_ ?_
      ·
       refine V.block ?_
       refine V.keep 50 [6, 20, 0, 4, 5, 18, 19] [0] (E0 := [(6, .sref b0 1 0 (List.length ([room, (0 : Int), (0 : Int)] : List Int))), (20, .int .i64 (0 : Int)), (0, .vl ρ0 5 (List.map (encCarton ρ0) list)), (4, .nils), (5, .int .i64 room), (18, .vl ρ0 5 (List.map (encCarton ρ0) list)), (19, .int .i64 (list.length : Int))]) (H0 := [(b0, ⟨1, List.map encInt ([room, (0 : Int), (0 : Int)] : List Int)⟩)]) rfl (⟨_, _, rfl, rfl, ⟨_, _, rfl, rfl, ⟨_, _, rfl, rfl, ⟨_, _, rfl, rfl, ⟨_, _, rfl, rfl, ⟨_, _, rfl, rfl, ⟨_, _, rfl, rfl, rfl⟩⟩⟩⟩⟩⟩⟩) (⟨_, _, rfl, rfl, rfl⟩) rfl ?_
       refine V.loopE (D := Nat × (List Int × Int) × (Unit)) (fun ⟨n1, ⟨row0, v⟩, _⟩ => [(6, .sref b0 1 0 (List.length row0)), (20, .int .i64 v)]) (fun ⟨n1, ⟨row0, v⟩, _⟩ => [(b0, ⟨1, List.map encInt row0⟩)]) (fun ⟨n1, ⟨row0, v⟩, _⟩ => loopO (M.impl_RoomLoad_l1 list room) n1 (row0, v) = some e1) (fun ⟨n1, _, _⟩ => n1) (rounds, (([room, (0 : Int), (0 : Int)] : List Int), (0 : Int)), ()) rfl he3 ?_
       rintro ⟨n1, ⟨row0, v⟩, _⟩ hP1
       obtain ⟨m1, y2, rfl, hm3, hl3, hr3⟩ := loop_head hP1
       unfold M.impl_RoomLoad_l1 at hm3; dsimp only at hm3
       show V _ _ _ ⟨50, [(6, .sref b0 1 0 (List.length row0)), (20, .int .i64 v), (0, .vl ρ0 5 (List.map (encCarton ρ0) list)), (4, .nils), (5, .int .i64 room), (18, .vl ρ0 5 (List.map (encCarton ρ0) list)), (19, .int .i64 (list.length : Int))], [(b0, ⟨1, List.map encInt row0⟩)]⟩
       refine V.seq ?_
       refine V.region ?_
       refine VO.cons rfl (V1.int rfl rfl rfl rfl rfl lt0 ?_)
       refine VO.nil ?_
       refine V.seq ?_
       refine V.cond rfl (fun hc2 => ?_) (fun hc2 => ?_)
       ·
        replace hm3 := cond_t hc2 hm3
        refine V.skip ?_
        refine V.seq ?_
        replace hm3 := bindO hm3; rcases hm3 with ⟨j1, hm4, hm3⟩
        refine V.cutT (D := (List Int) × (Unit)) (fun ⟨row1, _⟩ => ⟨50, [(6, .sref b0 1 0 (List.length row1)), (0, .vl ρ0 5 (List.map (encCarton ρ0) list)), (4, .nils), (5, .int .i64 room), (18, .vl ρ0 5 (List.map (encCarton ρ0) list)), (19, .int .i64 (list.length : Int)), (20, .int .i64 v)], [(b0, ⟨1, List.map encInt row1⟩)]⟩) (fun ⟨row1, _⟩ => (row1 = j1)) ?_ ?_
        ·
         refine V.block ?_
         refine V.seq ?_
         replace hm4 := asrt_some hm4; rcases hm4 with ⟨hh1, hm4⟩
         refine V.region ?_
         refine VO.cons rfl (V1.indexI rfl rfl esz_39 rfl rfl hh1 lt0 ?_)
         refine VO.cons rfl (V1.loadPinAll rfl rfl tyk_67 rfl rfl lt0 ?_)
         refine VO.cons rfl (V1.alloc rfl rfl zk_67 lt0 ?_)
         intro b1
         refine VO.cons rfl (V1.storeRefAll (k := 0) rfl rfl tyk_67 rfl rfl rfl rfl rfl rfl ?_)
         refine VO.nil ?_
         refine V.seq ?_
         refine V.region ?_
         refine VO.cons rfl (V1.fieldRef rfl rfl fo_67_2 rfl lt0 ?_)
         refine VO.cons rfl (V1.loadRef (k := 0) rfl rfl tyk_3 rfl rfl rfl rfl rfl lt0 ?_)
         refine VO.cons rfl (V1.move rfl rfl rfl lt0 ?_)
         refine VO.cons rfl (V1.int rfl rfl rfl rfl rfl lt0 ?_)
         refine VO.nil ?_
         refine V.keep 50 [0, 4, 5, 6, 8, 18, 19, 20, 27] [0, 1] (E0 := [(0, .vl ρ0 5 (List.map (encCarton ρ0) list)), (4, .nils), (5, .int .i64 room), (6, .sref b0 1 0 (List.length row0)), (8, .ref b1 5 0 0), (18, .vl ρ0 5 (List.map (encCarton ρ0) list)), (19, .int .i64 (list.length : Int)), (20, .int .i64 v), (27, .bool (((list.getD (Int.toNat v) default).Room) == room))]) (H0 := [(b1, ⟨5, [encCarton ρ0 (list.getD (Int.toNat v) default)]⟩), (b0, ⟨1, List.map encInt row0⟩)]) rfl (⟨_, _, rfl, rfl, ⟨_, _, rfl, rfl, ⟨_, _, rfl, rfl, ⟨_, _, rfl, rfl, ⟨_, _, rfl, rfl, ⟨_, _, rfl, rfl, ⟨_, _, rfl, rfl, ⟨_, _, rfl, rfl, ⟨_, _, rfl, rfl, rfl⟩⟩⟩⟩⟩⟩⟩⟩⟩) (⟨_, _, rfl, rfl, ⟨_, _, rfl, rfl, rfl⟩⟩) rfl ?_
         refine V.cond rfl (fun hc3 => ?_) (fun hc3 => ?_)
         ·
          replace hm4 := cond_t hc3 hm4
          refine V.seq ?_
          replace hm4 := asrt_some hm4; rcases hm4 with ⟨hh2, hm4⟩
          replace hm4 := asrt_some hm4; rcases hm4 with ⟨hh3, hm4⟩
          refine V.region ?_
          refine VO.cons rfl (V1.move rfl rfl rfl lt0 ?_)
          refine VO.cons rfl (V1.indexSr rfl rfl esz_36 rfl rfl hh2 lt0 ?_)
          refine VO.cons rfl (V1.loadMap (k := 1) (f := encInt) rfl rfl tyk_3 rfl rfl (by simpa using natLt hh2.1 hh2.2) rfl lt0 ?_)
          refine VO.cons rfl (V1.int rfl rfl rfl rfl rfl lt0 ?_)
          refine VO.cons rfl (V1.indexSr rfl rfl esz_36 rfl rfl hh3 lt0 ?_)
          refine VO.cons rfl (V1.storeMap (k := 1) (f := encInt) (x := (IntKind.i64.wrap ((row0.getD (Int.toNat (1 : Int)) default) + (1 : Int)))) rfl rfl tyk_3 rfl rfl (by simpa using natLt hh3.1 hh3.2) rfl rfl ?_)
          refine VO.weakenK (Keeps.say 6 (y := .sref b0 1 0 (List.length (row0.set (Int.toNat (1 : Int)) (IntKind.i64.wrap ((row0.getD (Int.toNat (1 : Int)) default) + (1 : Int)))))) rfl (by simp [optS])) ?_
          refine VO.nil ?_
          refine V.keep 50 [0, 4, 5, 6, 8, 18, 19, 20] [0, 1] (E0 := [(0, .vl ρ0 5 (List.map (encCarton ρ0) list)), (4, .nils), (5, .int .i64 room), (6, .sref b0 1 0 (List.length (row0.set (Int.toNat (1 : Int)) (IntKind.i64.wrap ((row0.getD (Int.toNat (1 : Int)) default) + (1 : Int)))))), (8, .ref b1 5 0 0), (18, .vl ρ0 5 (List.map (encCarton ρ0) list)), (19, .int .i64 (list.length : Int)), (20, .int .i64 v)]) (H0 := [(b1, ⟨5, [encCarton ρ0 (list.getD (Int.toNat v) default)]⟩), (b0, ⟨1, List.map encInt (row0.set (Int.toNat (1 : Int)) (IntKind.i64.wrap ((row0.getD (Int.toNat (1 : Int)) default) + (1 : Int))))⟩)]) rfl (⟨_, _, rfl, rfl, ⟨_, _, rfl, rfl, ⟨_, _, rfl, rfl, ⟨_, _, rfl, rfl, ⟨_, _, rfl, rfl, ⟨_, _, rfl, rfl, ⟨_, _, rfl, rfl, ⟨_, _, rfl, rfl, rfl⟩⟩⟩⟩⟩⟩⟩⟩) (⟨_, _, rfl, rfl, ⟨_, _, rfl, rfl, rfl⟩⟩) rfl ?_
          replace hm4 := asrt_some hm4; rcases hm4 with ⟨hh4, hm4⟩
          replace hm4 := asrt_some hm4; rcases hm4 with ⟨hh5, hm4⟩
          refine V.regionM 50 5 [⟨[(6, none)], [], none⟩, ⟨[(33, some 0)], [], none⟩, ⟨[(34, some 0)], [], none⟩, ⟨[(8, none)], [], none⟩, ⟨[(36, some 0)], [], none⟩] [(0, none), (4, none), (5, none), (6, none), (18, none), (19, none), (20, none), (33, some 4), (35, some 2), (37, some 0)] (⟨_, rfl, ⟨_, rfl, ⟨_, rfl, ⟨_, rfl, ⟨_, rfl, ⟨rfl, rfl⟩⟩⟩⟩⟩⟩) mixed_orders rfl (by decide +kernel) (fun hck13 => ?_)
          refine VP.step (p := ?pv1388) rfl rfl rfl (⟨_, _, rfl, rfl, rfl⟩) ?hv1388 ?rest1388 hck13
          case hv1388 =>
           intro E1
           refine (V1.move rfl rfl rfl lt0 ?_)
           exact rfl
          refine VP.step (p := ?pv1389) rfl rfl rfl (⟨_, _, rfl, rfl, rfl⟩) ?hv1389 ?rest1389 hck13
          case hv1389 =>
           intro E1
           refine (V1.indexSr rfl rfl esz_36 rfl rfl hh4 lt0 ?_)
           exact rfl
          refine VP.step (p := ?pv1390) rfl rfl rfl (⟨_, _, rfl, rfl, rfl⟩) ?hv1390 ?rest1390 hck13
          case hv1390 =>
           intro E1
           refine (V1.loadMap (k := 1) (f := encInt) rfl rfl tyk_3 rfl rfl (by simpa using natLt hh4.1 hh4.2) rfl lt0 ?_)
           exact rfl
          refine VP.step (p := ?pv1391) rfl rfl rfl (⟨_, _, rfl, rfl, rfl⟩) ?hv1391 ?rest1391 hck13
          case hv1391 =>
           intro E1
           refine (V1.fieldRef rfl rfl fo_67_4 rfl lt0 ?_)
           exact rfl
          refine VP.step (p := ?pv1392) rfl rfl rfl (⟨_, _, rfl, rfl, rfl⟩) ?hv1392 ?rest1392 hck13
          case hv1392 =>
           intro E1
           refine (V1.loadRef (k := 0) rfl rfl tyk_3 rfl rfl rfl rfl rfl lt0 ?_)
           exact rfl
          refine VP.fin rfl (⟨_, _, rfl, rfl, ⟨_, _, rfl, rfl, ⟨_, _, rfl, rfl, ⟨_, _, rfl, rfl, ⟨_, _, rfl, rfl, ⟨_, _, rfl, rfl, ⟨_, _, rfl, rfl, ⟨_, _, rfl, rfl, ⟨_, _, rfl, rfl, ⟨_, _, rfl, rfl, rfl⟩⟩⟩⟩⟩⟩⟩⟩⟩⟩) ?_
          refine VO.cons rfl (V1.int rfl rfl rfl rfl rfl lt0 ?_)
          refine VO.cons rfl (V1.indexSr rfl rfl esz_36 rfl rfl hh5 lt0 ?_)
          refine VO.cons rfl (V1.storeMap (k := 1) (f := encInt) (x := (IntKind.i64.wrap (((row0.set (Int.toNat (1 : Int)) (IntKind.i64.wrap ((row0.getD (Int.toNat (1 : Int)) default) + (1 : Int)))).getD (Int.toNat (2 : Int)) default) + ((list.getD (Int.toNat v) default).Thick)))) rfl rfl tyk_3 rfl rfl (by simpa using natLt hh5.1 hh5.2) rfl rfl ?_)
          refine VO.weakenK (Keeps.say 6 (y := .sref b0 1 0 (List.length ((row0.set (Int.toNat (1 : Int)) (IntKind.i64.wrap ((row0.getD (Int.toNat (1 : Int)) default) + (1 : Int)))).set (Int.toNat (2 : Int)) (IntKind.i64.wrap (((row0.set (Int.toNat (1 : Int)) (IntKind.i64.wrap ((row0.getD (Int.toNat (1 : Int)) default) + (1 : Int)))).getD (Int.toNat (2 : Int)) default) + ((list.getD (Int.toNat v) default).Thick)))))) rfl (by simp [optS])) ?_
          refine VO.nil ?_
          exact ⟨(((row0.set (Int.toNat (1 : Int)) (IntKind.i64.wrap ((row0.getD (Int.toNat (1 : Int)) default) + (1 : Int)))).set (Int.toNat (2 : Int)) (IntKind.i64.wrap (((row0.set (Int.toNat (1 : Int)) (IntKind.i64.wrap ((row0.getD (Int.toNat (1 : Int)) default) + (1 : Int)))).getD (Int.toNat (2 : Int)) default) + ((list.getD (Int.toNat v) default).Thick)))), ()), Option.some.inj hm4, Keeps.mk (ks := [1]) rfl ⟨(someSref (by simp)), rfl, rfl, rfl, rfl, rfl, rfl, trivial⟩ (⟨_, _, rfl, rfl, rfl⟩) rfl⟩
         ·
          replace hm4 := cond_f hc3 hm4
          refine V.skip ?_
          exact ⟨(row0, ()), Option.some.inj hm4, Keeps.mk (ks := [1]) rfl ⟨(someSref (by simp)), rfl, rfl, rfl, rfl, rfl, rfl, trivial⟩ (⟨_, _, rfl, rfl, rfl⟩) rfl⟩
        ·
         rintro ⟨row1, _⟩ rfl
         try dsimp only at hm3
         refine V.region ?_
         refine VO.cons rfl (V1.int rfl rfl rfl rfl rfl lt0 ?_)
         refine VO.cons rfl (V1.move rfl rfl rfl lt0 ?_)
         refine VO.nil ?_
         exact ⟨(m1, (row1, (IntKind.i64.wrap (v + (1 : Int)))), ()), hl3 _ (Option.some.inj hm3).symm, Nat.lt_succ_self _, Keeps.mk (ks := [0]) rfl ⟨(someSref (by simp)), rfl, rfl, rfl, rfl, rfl, rfl, trivial⟩ (⟨_, _, rfl, rfl, rfl⟩) rfl⟩
       ·
        replace hm3 := cond_f hc2 hm3
        refine V.exit ?_
        obtain rfl := hr3 _ (Option.some.inj hm3).symm
        exact ⟨(row0, ()), rfl, Keeps.mk (ks := [0]) rfl ⟨(someSref (by simp)), rfl, rfl, rfl, trivial⟩ (⟨_, _, rfl, rfl, rfl⟩) rfl⟩
      ·
       rintro ⟨row, _⟩ rfl
       try dsimp only at hm2
       refine V.seq ?_
       replace hm2 := asrt_some hm2; rcases hm2 with ⟨hh6, hm2⟩
       refine V.region ?_
       refine VO.cons rfl (V1.move rfl rfl rfl lt0 ?_)
       refine VO.cons rfl (V1.indexSr rfl rfl esz_36 rfl rfl hh6 lt0 ?_)
       refine VO.cons rfl (V1.loadMap (k := 0) (f := encInt) rfl rfl tyk_3 rfl rfl (by simpa using natLt hh6.1 hh6.2) rfl lt0 ?_)
       refine VO.cons rfl (V1.int rfl rfl rfl rfl rfl lt0 ?_)
       refine VO.nil ?_
       refine V.cond rfl (fun hc4 => ?_) (fun hc4 => ?_)
       ·
        replace hm2 := cond_t hc4 hm2
        replace hm2 := asrt_some hm2; rcases hm2 with ⟨hh7, hm2⟩
        refine V.region ?_
        refine VO.cons rfl (V1.move rfl rfl rfl lt0 ?_)
        refine VO.cons rfl (V1.move rfl rfl rfl lt0 ?_)
        refine VO.cons rfl (V1.buildDeep (p := .sref b0 1 0 (List.length row)) rfl rfl esz_24 zk_36 rfl rfl rfl rfl rfl rfl rfl lt0 ?_)
        intro b2
        refine VO.weakenK (Keeps.tailPut 1 (A := [(b2, ⟨1, deepC (cellRow (β := Int)) ([.sref b0 1 0 (List.length row)]) ([row] : List (List Int))⟩), (b0, ⟨1, List.map encInt row⟩)]) (A' := [(b2, ⟨1, deepC (cellRow (β := Int)) ([.sref b0 1 0 (List.length row)]) ([row] : List (List Int))⟩)]) (T := []) (p := (b0, ⟨1, List.map encInt row⟩)) rfl rfl rfl) ?_
        refine VO.cons rfl (V1.appendND (cell := (cellRow (β := Int))) (xs := rows0) (ts2 := [.sref b0 1 0 (List.length row)]) (xs2 := ([row] : List (List Int))) (k2 := 0) rfl rfl rfl rfl rfl esz_24 eby_24 zk_36 rfl rfl hob1 rfl rfl rfl isl_24 (by simp) hh7 lt0 ?_)
        intro b3
        refine VO.weakenK (Keeps.dropAt 1 (H' := (([(b3, ⟨1, deepC (cellRow (β := Int)) ([.sref b0 1 0 (List.length row)]) (rows0 ++ ([row] : List (List Int)))⟩)] : List (Nat × Obj')) ++ (([] : List (Nat × Obj')) ++ [(b0, ⟨1, List.map encInt row⟩)]))) rfl) ?_
        refine VO.cons rfl (V1.assign rfl rfl rfl lt0 ?_)
        refine VO.nil ?_
        exact ⟨((rows0 ++ ([row] : List (List Int))), ((some b3), [.sref b0 1 0 (List.length row)], (([] : List (Nat × Obj')) ++ [(b0, ⟨1, List.map encInt row⟩)]))), ⟨Option.some.inj hm2, (fun e => by cases e), (Deep.append (Deep.ofNil hob1) (Deep.one (m := 1) (inn := (fun c_ : List Int => List.map encInt c_)) (x := row) (Deep1.own (by simp))))⟩, Keeps.mkT (A := [(b3, ⟨1, deepC (cellRow (β := Int)) ([.sref b0 1 0 (List.length row)]) (rows0 ++ ([row] : List (List Int)))⟩)]) (T := (([] : List (Nat × Obj')) ++ [(b0, ⟨1, List.map encInt row⟩)])) (T' := (([] : List (Nat × Obj')) ++ [(b0, ⟨1, List.map encInt row⟩)])) (H := [(b3, ⟨1, deepC (cellRow (β := Int)) ([.sref b0 1 0 (List.length row)]) (rows0 ++ ([row] : List (List Int)))⟩)]) (ks := [0]) rfl (by exact ⟨rfl, rfl, rfl, trivial⟩) rfl (by exact (⟨_, _, rfl, rfl, rfl⟩)) rfl (List.Sublist.refl _)⟩
       ·
        replace hm2 := cond_f hc4 hm2
        refine V.skip ?_
        exact ⟨(rows0, (none, [], [])), ⟨Option.some.inj hm2, (fun _ => hob1), (Deep.ofNil hob1)⟩, Keeps.mkT (A := [(b0, ⟨1, List.map encInt row⟩)]) (T := []) (T' := []) (H := []) (ks := []) rfl (by exact ⟨rfl, rfl, rfl, trivial⟩) (List.append_nil _).symm (by exact (rfl)) rfl (List.Sublist.refl _)⟩
     ·
      rintro ⟨rows1, ⟨ob2, ts_1351, os_1351⟩⟩ ⟨rfl, hob2, hd_1351⟩
      try dsimp only at hm1
      rcases ob2 with _ | ob2
      ·
       replace hob2 := hob2 rfl
       obtain ⟨rfl, rfl⟩ := Deep.nil hob2 hd_1351
       refine V.region ?_
       refine VO.cons rfl (V1.move rfl rfl rfl lt0 ?_)
       refine VO.cons rfl (V1.int rfl rfl rfl rfl rfl lt0 ?_)
       refine VO.cons rfl (V1.assign rfl rfl rfl lt0 ?_)
       refine VO.nil ?_
       exact ⟨(m0, (rows1, (IntKind.i64.wrap (room + (1 : Int)))), (none, [], [])), ⟨hl1 _ (Option.some.inj hm1).symm, (fun _ => hob2), (Deep.ofNil hob2)⟩, Nat.lt_succ_self _, Keeps.mkT (A := []) (T := []) (T' := []) (H := []) (ks := []) rfl (by exact ⟨rfl, rfl, rfl, trivial⟩) (List.append_nil _).symm (by exact (rfl)) rfl (List.Sublist.refl _)⟩
      ·
       refine V.region ?_
       refine VO.cons rfl (V1.move rfl rfl rfl lt0 ?_)
       refine VO.cons rfl (V1.int rfl rfl rfl rfl rfl lt0 ?_)
       refine VO.cons rfl (V1.assign rfl rfl rfl lt0 ?_)
       refine VO.nil ?_
       exact ⟨(m0, (rows1, (IntKind.i64.wrap (room + (1 : Int)))), ((some ob2), ts_1351, os_1351)), ⟨hl1 _ (Option.some.inj hm1).symm, (fun e => by cases e), hd_1351⟩, Nat.lt_succ_self _, Keeps.mkT (A := [(ob2, ⟨1, deepC (cellRow (β := Int)) ts_1351 rows1⟩)]) (T := os_1351) (T' := os_1351) (H := [(ob2, ⟨1, deepC (cellRow (β := Int)) ts_1351 rows1⟩)]) (ks := [0]) rfl (by exact ⟨rfl, rfl, rfl, trivial⟩) rfl (by exact (⟨_, _, rfl, rfl, rfl⟩)) rfl (List.Sublist.refl _)⟩
    ·
     replace hm1 := cond_f hc1 hm1
     refine V.exit ?_
     obtain rfl := hr1 _ (Option.some.inj hm1).symm
     exact ⟨(rows0, (none, [], [])), ⟨rfl, (fun _ => hob1), (Deep.ofNil hob1)⟩, Keeps.mkT (A := []) (T := []) (T' := []) (H := []) (ks := []) rfl (by exact ⟨rfl, trivial⟩) (List.append_nil _).symm (by exact (rfl)) rfl (List.Sublist.refl _)⟩
   ·
    show V _ _ _ ⟨50, [(4, .sref ob1 1 0 (List.length rows0)), (5, .int .i64 room), (0, .vl ρ0 5 (List.map (encCarton ρ0) list))], (([(ob1, ⟨1, deepC (cellRow (β := Int)) ts_1310 rows0⟩)] : List (Nat × Obj')) ++ os_1310)⟩
    refine V.seq ?_
    refine V.seq ?_
    refine V.region ?_
    refine VO.cons rfl (V1.move rfl rfl rfl lt0 ?_)
    refine VO.cons rfl (V1.int rfl rfl rfl rfl rfl lt0 ?_)
    refine VO.nil ?_
    refine V.cond rfl (fun hc1 => ?_) (fun hc1 => ?_)
    ·
     replace hm1 := cond_t hc1 hm1
     refine V.skip ?_
     refine V.seq ?_
     replace hm1 := bindO hm1; rcases hm1 with ⟨j0, hm2, hm1⟩
     refine V.cutT (D := (List (List Int)) × (Nat × List PV × (List (Nat × Obj')))) (fun ⟨rows1, ⟨b0, ts_1432, os_1432⟩⟩ => ⟨50, [(4, .sref b0 1 0 (List.length rows1)), (0, .vl ρ0 5 (List.map (encCarton ρ0) list)), (5, .int .i64 room)], ([(b0, ⟨1, deepC (cellRow (β := Int)) ts_1432 rows1⟩)]) ++ os_1432⟩) (fun ⟨rows1, ⟨b0, ts_1432, os_1432⟩⟩ => (rows1 = j0) ∧ Deep 1 (fun c_ : List Int => List.map encInt c_) ts_1432 os_1432 rows1) ?_ ?_
     ·
      refine V.block ?_
      refine V.seq ?_
      refine V.region ?_
      refine VO.cons rfl (V1.move rfl rfl rfl lt0 ?_)
      refine VO.cons rfl (V1.buildSliceT (f := encInt) ([room, (0 : Int), (0 : Int)] : List Int) rfl rfl esz_36 zk_3 rfl rfl rfl rfl rfl rfl rfl lt0 ?_)
      intro b1
      refine VO.cons rfl (V1.assign rfl rfl rfl lt0 ?_)
      refine VO.nil ?_
      refine V.keepT 50 [0, 4, 5, 6] [0, 1] (E0 := [(0, .vl ρ0 5 (List.map (encCarton ρ0) list)), (4, .sref ob1 1 0 (List.length rows0)), (5, .int .i64 room), (6, .sref b1 1 0 (List.length ([room, (0 : Int), (0 : Int)] : List Int)))]) (A := [(b1, ⟨1, List.map encInt ([room, (0 : Int), (0 : Int)] : List Int)⟩), (ob1, ⟨1, deepC (cellRow (β := Int)) ts_1310 rows0⟩)]) (T := os_1310) (H0 := [(b1, ⟨1, List.map encInt ([room, (0 : Int), (0 : Int)] : List Int)⟩), (ob1, ⟨1, deepC (cellRow (β := Int)) ts_1310 rows0⟩)]) (T' := os_1310) rfl (⟨_, _, rfl, rfl, ⟨_, _, rfl, rfl, ⟨_, _, rfl, rfl, ⟨_, _, rfl, rfl, rfl⟩⟩⟩⟩) rfl (⟨_, _, rfl, rfl, ⟨_, _, rfl, rfl, rfl⟩⟩) rfl (List.Sublist.refl _) ?_
      refine V.seq ?_
      refine V.seq ?_
      refine V.region ?_
      refine VO.cons rfl (V1.move rfl rfl rfl lt0 ?_)
      refine VO.cons rfl (V1.lenMap rfl rfl rfl rfl rfl rfl isl_39 lt0 ?_)
      refine VO.cons rfl (V1.move rfl rfl rfl lt0 ?_)
      refine VO.nil ?_
      replace hm2 := bindO hm2; rcases hm2 with ⟨e1, he3, hm2⟩
      refine V.cutT (D := (List Int) × (Unit)) (fun ⟨row, _⟩ => ⟨50, [(6, .sref b1 1 0 (List.length row)), (0, .vl ρ0 5 (List.map (encCarton ρ0) list)), (4, .sref ob1 1 0 (List.length rows0)), (5, .int .i64 room)], ([(b1, ⟨1, List.map encInt row⟩)] ++ [(ob1, ⟨1, deepC (cellRow (β := Int)) ts_1310 rows0⟩)]) ++ os_1310⟩) (fun ⟨row, _⟩ => (row = e1)) ?_ ?_
      ·
       refine V.block ?_
       refine V.keepT 50 [6, 20, 0, 4, 5, 18, 19] [0, 1] (E0 := [(6, .sref b1 1 0 (List.length ([room, (0 : Int), (0 : Int)] : List Int))), (20, .int .i64 (0 : Int)), (0, .vl ρ0 5 (List.map (encCarton ρ0) list)), (4, .sref ob1 1 0 (List.length rows0)), (5, .int .i64 room), (18, .vl ρ0 5 (List.map (encCarton ρ0) list)), (19, .int .i64 (list.length : Int))]) (A := [(b1, ⟨1, List.map encInt ([room, (0 : Int), (0 : Int)] : List Int)⟩), (ob1, ⟨1, deepC (cellRow (β := Int)) ts_1310 rows0⟩)]) (T := os_1310) (H0 := [(b1, ⟨1, List.map encInt ([room, (0 : Int), (0 : Int)] : List Int)⟩), (ob1, ⟨1, deepC (cellRow (β := Int)) ts_1310 rows0⟩)]) (T' := os_1310) rfl (⟨_, _, rfl, rfl, ⟨_, _, rfl, rfl, ⟨_, _, rfl, rfl, ⟨_, _, rfl, rfl, ⟨_, _, rfl, rfl, ⟨_, _, rfl, rfl, ⟨_, _, rfl, rfl, rfl⟩⟩⟩⟩⟩⟩⟩) rfl (⟨_, _, rfl, rfl, ⟨_, _, rfl, rfl, rfl⟩⟩) rfl (List.Sublist.refl _) ?_
       refine V.loopE (D := Nat × (List Int × Int) × (Unit)) (fun ⟨n1, ⟨row0, v⟩, _⟩ => [(6, .sref b1 1 0 (List.length row0)), (20, .int .i64 v)]) (fun ⟨n1, ⟨row0, v⟩, _⟩ => [(b1, ⟨1, List.map encInt row0⟩)]) (fun ⟨n1, ⟨row0, v⟩, _⟩ => loopO (M.impl_RoomLoad_l1 list room) n1 (row0, v) = some e1) (fun ⟨n1, _, _⟩ => n1) (rounds, (([room, (0 : Int), (0 : Int)] : List Int), (0 : Int)), ()) rfl he3 ?_
       rintro ⟨n1, ⟨row0, v⟩, _⟩ hP1
       obtain ⟨m1, y2, rfl, hm3, hl3, hr3⟩ := loop_head hP1
       unfold M.impl_RoomLoad_l1 at hm3; dsimp only at hm3
       show V _ _ _ ⟨50, [(6, .sref b1 1 0 (List.length row0)), (20, .int .i64 v), (0, .vl ρ0 5 (List.map (encCarton ρ0) list)), (4, .sref ob1 1 0 (List.length rows0)), (5, .int .i64 room), (18, .vl ρ0 5 (List.map (encCarton ρ0) list)), (19, .int .i64 (list.length : Int))], (([(b1, ⟨1, List.map encInt row0⟩), (ob1, ⟨1, deepC (cellRow (β := Int)) ts_1310 rows0⟩)] : List (Nat × Obj')) ++ os_1310)⟩
       refine V.seq ?_
       refine V.region ?_
       refine VO.cons rfl (V1.int rfl rfl rfl rfl rfl lt0 ?_)
       refine VO.nil ?_
       refine V.seq ?_
       refine V.cond rfl (fun hc2 => ?_) (fun hc2 => ?_)
       ·
        replace hm3 := cond_t hc2 hm3
        refine V.skip ?_
        refine V.seq ?_
        replace hm3 := bindO hm3; rcases hm3 with ⟨j1, hm4, hm3⟩
        refine V.cutT (D := (List Int) × (Unit)) (fun ⟨row1, _⟩ => ⟨50, [(6, .sref b1 1 0 (List.length row1)), (0, .vl ρ0 5 (List.map (encCarton ρ0) list)), (4, .sref ob1 1 0 (List.length rows0)), (5, .int .i64 room), (18, .vl ρ0 5 (List.map (encCarton ρ0) list)), (19, .int .i64 (list.length : Int)), (20, .int .i64 v)], ([(b1, ⟨1, List.map encInt row1⟩)] ++ [(ob1, ⟨1, deepC (cellRow (β := Int)) ts_1310 rows0⟩)]) ++ os_1310⟩) (fun ⟨row1, _⟩ => (row1 = j1)) ?_ ?_
        ·
         refine V.block ?_
         refine V.seq ?_
         replace hm4 := asrt_some hm4; rcases hm4 with ⟨hh1, hm4⟩
         refine V.region ?_
         refine VO.cons rfl (V1.indexI rfl rfl esz_39 rfl rfl hh1 lt0 ?_)
         refine VO.cons rfl (V1.loadPinAll rfl rfl tyk_67 rfl rfl lt0 ?_)
         refine VO.cons rfl (V1.alloc rfl rfl zk_67 lt0 ?_)
         intro b2
         refine VO.cons rfl (V1.storeRefAll (k := 0) rfl rfl tyk_67 rfl rfl rfl rfl rfl rfl ?_)
         refine VO.nil ?_
         refine V.seq ?_
         refine V.region ?_
         refine VO.cons rfl (V1.fieldRef rfl rfl fo_67_2 rfl lt0 ?_)
         refine VO.cons rfl (V1.loadRef (k := 0) rfl rfl tyk_3 rfl rfl rfl rfl rfl lt0 ?_)
         refine VO.cons rfl (V1.move rfl rfl rfl lt0 ?_)
         refine VO.cons rfl (V1.int rfl rfl rfl rfl rfl lt0 ?_)
         refine VO.nil ?_
         refine V.keepT 50 [0, 4, 5, 6, 8, 18, 19, 20, 27] [0, 1, 2] (E0 := [(0, .vl ρ0 5 (List.map (encCarton ρ0) list)), (4, .sref ob1 1 0 (List.length rows0)), (5, .int .i64 room), (6, .sref b1 1 0 (List.length row0)), (8, .ref b2 5 0 0), (18, .vl ρ0 5 (List.map (encCarton ρ0) list)), (19, .int .i64 (list.length : Int)), (20, .int .i64 v), (27, .bool (((list.getD (Int.toNat v) default).Room) == room))]) (A := [(b2, ⟨5, [encCarton ρ0 (list.getD (Int.toNat v) default)]⟩), (b1, ⟨1, List.map encInt row0⟩), (ob1, ⟨1, deepC (cellRow (β := Int)) ts_1310 rows0⟩)]) (T := os_1310) (H0 := [(b2, ⟨5, [encCarton ρ0 (list.getD (Int.toNat v) default)]⟩), (b1, ⟨1, List.map encInt row0⟩), (ob1, ⟨1, deepC (cellRow (β := Int)) ts_1310 rows0⟩)]) (T' := os_1310) rfl (⟨_, _, rfl, rfl, ⟨_, _, rfl, rfl, ⟨_, _, rfl, rfl, ⟨_, _, rfl, rfl, ⟨_, _, rfl, rfl, ⟨_, _, rfl, rfl, ⟨_, _, rfl, rfl, ⟨_, _, rfl, rfl, ⟨_, _, rfl, rfl, rfl⟩⟩⟩⟩⟩⟩⟩⟩⟩) rfl (⟨_, _, rfl, rfl, ⟨_, _, rfl, rfl, ⟨_, _, rfl, rfl, rfl⟩⟩⟩) rfl (List.Sublist.refl _) ?_
         refine V.cond rfl (fun hc3 => ?_) (fun hc3 => ?_)
         ·
          replace hm4 := cond_t hc3 hm4
          refine V.seq ?_
          replace hm4 := asrt_some hm4; rcases hm4 with ⟨hh2, hm4⟩
          replace hm4 := asrt_some hm4; rcases hm4 with ⟨hh3, hm4⟩
          refine V.region ?_
          refine VO.cons rfl (V1.move rfl rfl rfl lt0 ?_)
          refine VO.cons rfl (V1.indexSr rfl rfl esz_36 rfl rfl hh2 lt0 ?_)
          refine VO.cons rfl (V1.loadMap (k := 1) (f := encInt) rfl rfl tyk_3 rfl rfl (by simpa using natLt hh2.1 hh2.2) rfl lt0 ?_)
          refine VO.cons rfl (V1.int rfl rfl rfl rfl rfl lt0 ?_)
          refine VO.cons rfl (V1.indexSr rfl rfl esz_36 rfl rfl hh3 lt0 ?_)
          refine VO.cons rfl (V1.storeMap (k := 1) (f := encInt) (x := (IntKind.i64.wrap ((row0.getD (Int.toNat (1 : Int)) default) + (1 : Int)))) rfl rfl tyk_3 rfl rfl (by simpa using natLt hh3.1 hh3.2) rfl rfl ?_)
          refine VO.weakenK (Keeps.say 6 (y := .sref b1 1 0 (List.length (row0.set (Int.toNat (1 : Int)) (IntKind.i64.wrap ((row0.getD (Int.toNat (1 : Int)) default) + (1 : Int)))))) rfl (by simp [optS])) ?_
          refine VO.nil ?_
          refine V.keepT 50 [0, 4, 5, 6, 8, 18, 19, 20] [0, 1, 2] (E0 := [(0, .vl ρ0 5 (List.map (encCarton ρ0) list)), (4, .sref ob1 1 0 (List.length rows0)), (5, .int .i64 room), (6, .sref b1 1 0 (List.length (row0.set (Int.toNat (1 : Int)) (IntKind.i64.wrap ((row0.getD (Int.toNat (1 : Int)) default) + (1 : Int)))))), (8, .ref b2 5 0 0), (18, .vl ρ0 5 (List.map (encCarton ρ0) list)), (19, .int .i64 (list.length : Int)), (20, .int .i64 v)]) (A := [(b2, ⟨5, [encCarton ρ0 (list.getD (Int.toNat v) default)]⟩), (b1, ⟨1, List.map encInt (row0.set (Int.toNat (1 : Int)) (IntKind.i64.wrap ((row0.getD (Int.toNat (1 : Int)) default) + (1 : Int))))⟩), (ob1, ⟨1, deepC (cellRow (β := Int)) ts_1310 rows0⟩)]) (T := os_1310) (H0 := [(b2, ⟨5, [encCarton ρ0 (list.getD (Int.toNat v) default)]⟩), (b1, ⟨1, List.map encInt (row0.set (Int.toNat (1 : Int)) (IntKind.i64.wrap ((row0.getD (Int.toNat (1 : Int)) default) + (1 : Int))))⟩), (ob1, ⟨1, deepC (cellRow (β := Int)) ts_1310 rows0⟩)]) (T' := os_1310) rfl (⟨_, _, rfl, rfl, ⟨_, _, rfl, rfl, ⟨_, _, rfl, rfl, ⟨_, _, rfl, rfl, ⟨_, _, rfl, rfl, ⟨_, _, rfl, rfl, ⟨_, _, rfl, rfl, ⟨_, _, rfl, rfl, rfl⟩⟩⟩⟩⟩⟩⟩⟩) rfl (⟨_, _, rfl, rfl, ⟨_, _, rfl, rfl, ⟨_, _, rfl, rfl, rfl⟩⟩⟩) rfl (List.Sublist.refl _) ?_
          replace hm4 := asrt_some hm4; rcases hm4 with ⟨hh4, hm4⟩
          replace hm4 := asrt_some hm4; rcases hm4 with ⟨hh5, hm4⟩
          refine V.regionM 50 5 [⟨[(6, none)], [], none⟩, ⟨[(33, some 0)], [], none⟩, ⟨[(34, some 0)], [], none⟩, ⟨[(8, none)], [], none⟩, ⟨[(36, some 0)], [], none⟩] [(0, none), (4, none), (5, none), (6, none), (18, none), (19, none), (20, none), (33, some 4), (35, some 2), (37, some 0)] (⟨_, rfl, ⟨_, rfl, ⟨_, rfl, ⟨_, rfl, ⟨_, rfl, ⟨rfl, rfl⟩⟩⟩⟩⟩⟩) mixed_orders rfl (by decide +kernel) (fun hck13 => ?_)
          refine VP.step (p := ?pv1469) rfl rfl rfl (⟨_, _, rfl, rfl, rfl⟩) ?hv1469 ?rest1469 hck13
          case hv1469 =>
           intro E1
           refine (V1.move rfl rfl rfl lt0 ?_)
           exact rfl
          refine VP.step (p := ?pv1470) rfl rfl rfl (⟨_, _, rfl, rfl, rfl⟩) ?hv1470 ?rest1470 hck13
          case hv1470 =>
           intro E1
           refine (V1.indexSr rfl rfl esz_36 rfl rfl hh4 lt0 ?_)
           exact rfl
          refine VP.step (p := ?pv1471) rfl rfl rfl (⟨_, _, rfl, rfl, rfl⟩) ?hv1471 ?rest1471 hck13
          case hv1471 =>
           intro E1
           refine (V1.loadMap (k := 1) (f := encInt) rfl rfl tyk_3 rfl rfl (by simpa using natLt hh4.1 hh4.2) rfl lt0 ?_)
           exact rfl
          refine VP.step (p := ?pv1472) rfl rfl rfl (⟨_, _, rfl, rfl, rfl⟩) ?hv1472 ?rest1472 hck13
          case hv1472 =>
           intro E1
           refine (V1.fieldRef rfl rfl fo_67_4 rfl lt0 ?_)
           exact rfl
          refine VP.step (p := ?pv1473) rfl rfl rfl (⟨_, _, rfl, rfl, rfl⟩) ?hv1473 ?rest1473 hck13
          case hv1473 =>
           intro E1
           refine (V1.loadRef (k := 0) rfl rfl tyk_3 rfl rfl rfl rfl rfl lt0 ?_)
           exact rfl
          refine VP.fin rfl (⟨_, _, rfl, rfl, ⟨_, _, rfl, rfl, ⟨_, _, rfl, rfl, ⟨_, _, rfl, rfl, ⟨_, _, rfl, rfl, ⟨_, _, rfl, rfl, ⟨_, _, rfl, rfl, ⟨_, _, rfl, rfl, ⟨_, _, rfl, rfl, ⟨_, _, rfl, rfl, rfl⟩⟩⟩⟩⟩⟩⟩⟩⟩⟩) ?_
          refine VO.cons rfl (V1.int rfl rfl rfl rfl rfl lt0 ?_)
          refine VO.cons rfl (V1.indexSr rfl rfl esz_36 rfl rfl hh5 lt0 ?_)
          refine VO.cons rfl (V1.storeMap (k := 1) (f := encInt) (x := (IntKind.i64.wrap (((row0.set (Int.toNat (1 : Int)) (IntKind.i64.wrap ((row0.getD (Int.toNat (1 : Int)) default) + (1 : Int)))).getD (Int.toNat (2 : Int)) default) + ((list.getD (Int.toNat v) default).Thick)))) rfl rfl tyk_3 rfl rfl (by simpa using natLt hh5.1 hh5.2) rfl rfl ?_)
          refine VO.weakenK (Keeps.say 6 (y := .sref b1 1 0 (List.length ((row0.set (Int.toNat (1 : Int)) (IntKind.i64.wrap ((row0.getD (Int.toNat (1 : Int)) default) + (1 : Int)))).set (Int.toNat (2 : Int)) (IntKind.i64.wrap (((row0.set (Int.toNat (1 : Int)) (IntKind.i64.wrap ((row0.getD (Int.toNat (1 : Int)) default) + (1 : Int)))).getD (Int.toNat (2 : Int)) default) + ((list.getD (Int.toNat v) default).Thick)))))) rfl (by simp [optS])) ?_
          refine VO.nil ?_
          exact ⟨(((row0.set (Int.toNat (1 : Int)) (IntKind.i64.wrap ((row0.getD (Int.toNat (1 : Int)) default) + (1 : Int)))).set (Int.toNat (2 : Int)) (IntKind.i64.wrap (((row0.set (Int.toNat (1 : Int)) (IntKind.i64.wrap ((row0.getD (Int.toNat (1 : Int)) default) + (1 : Int)))).getD (Int.toNat (2 : Int)) default) + ((list.getD (Int.toNat v) default).Thick)))), ()), Option.some.inj hm4, Keeps.mkT (A := [(b2, ⟨5, [encCarton ρ0 (list.getD (Int.toNat v) default)]⟩), (b1, ⟨1, List.map encInt ((row0.set (Int.toNat (1 : Int)) (IntKind.i64.wrap ((row0.getD (Int.toNat (1 : Int)) default) + (1 : Int)))).set (Int.toNat (2 : Int)) (IntKind.i64.wrap (((row0.set (Int.toNat (1 : Int)) (IntKind.i64.wrap ((row0.getD (Int.toNat (1 : Int)) default) + (1 : Int)))).getD (Int.toNat (2 : Int)) default) + ((list.getD (Int.toNat v) default).Thick))))⟩), (ob1, ⟨1, deepC (cellRow (β := Int)) ts_1310 rows0⟩)]) (T := os_1310) (T' := os_1310) (H := [(b1, ⟨1, List.map encInt ((row0.set (Int.toNat (1 : Int)) (IntKind.i64.wrap ((row0.getD (Int.toNat (1 : Int)) default) + (1 : Int)))).set (Int.toNat (2 : Int)) (IntKind.i64.wrap (((row0.set (Int.toNat (1 : Int)) (IntKind.i64.wrap ((row0.getD (Int.toNat (1 : Int)) default) + (1 : Int)))).getD (Int.toNat (2 : Int)) default) + ((list.getD (Int.toNat v) default).Thick))))⟩), (ob1, ⟨1, deepC (cellRow (β := Int)) ts_1310 rows0⟩)]) (ks := [1, 2]) rfl (by exact ⟨(someSref (by simp)), rfl, rfl, rfl, rfl, rfl, rfl, trivial⟩) rfl (by exact (⟨_, _, rfl, rfl, ⟨_, _, rfl, rfl, rfl⟩⟩)) rfl (List.Sublist.refl _)⟩
         ·
          replace hm4 := cond_f hc3 hm4
          refine V.skip ?_
          exact ⟨(row0, ()), Option.some.inj hm4, Keeps.mkT (A := [(b2, ⟨5, [encCarton ρ0 (list.getD (Int.toNat v) default)]⟩), (b1, ⟨1, List.map encInt row0⟩), (ob1, ⟨1, deepC (cellRow (β := Int)) ts_1310 rows0⟩)]) (T := os_1310) (T' := os_1310) (H := [(b1, ⟨1, List.map encInt row0⟩), (ob1, ⟨1, deepC (cellRow (β := Int)) ts_1310 rows0⟩)]) (ks := [1, 2]) rfl (by exact ⟨(someSref (by simp)), rfl, rfl, rfl, rfl, rfl, rfl, trivial⟩) rfl (by exact (⟨_, _, rfl, rfl, ⟨_, _, rfl, rfl, rfl⟩⟩)) rfl (List.Sublist.refl _)⟩
        ·
         rintro ⟨row1, _⟩ rfl
         try dsimp only at hm3
         refine V.region ?_
         refine VO.cons rfl (V1.int rfl rfl rfl rfl rfl lt0 ?_)
         refine VO.cons rfl (V1.move rfl rfl rfl lt0 ?_)
         refine VO.nil ?_
         exact ⟨(m1, (row1, (IntKind.i64.wrap (v + (1 : Int)))), ()), hl3 _ (Option.some.inj hm3).symm, Nat.lt_succ_self _, Keeps.mkT (A := [(b1, ⟨1, List.map encInt row1⟩), (ob1, ⟨1, deepC (cellRow (β := Int)) ts_1310 rows0⟩)]) (T := os_1310) (T' := os_1310) (H := [(b1, ⟨1, List.map encInt row1⟩), (ob1, ⟨1, deepC (cellRow (β := Int)) ts_1310 rows0⟩)]) (ks := [0, 1]) rfl (by exact ⟨(someSref (by simp)), rfl, rfl, rfl, rfl, rfl, rfl, trivial⟩) rfl (by exact (⟨_, _, rfl, rfl, ⟨_, _, rfl, rfl, rfl⟩⟩)) rfl (List.Sublist.refl _)⟩
       ·
        replace hm3 := cond_f hc2 hm3
        refine V.exit ?_
        obtain rfl := hr3 _ (Option.some.inj hm3).symm
        exact ⟨(row0, ()), rfl, Keeps.mkT (A := [(b1, ⟨1, List.map encInt row0⟩), (ob1, ⟨1, deepC (cellRow (β := Int)) ts_1310 rows0⟩)]) (T := os_1310) (T' := os_1310) (H := [(b1, ⟨1, List.map encInt row0⟩), (ob1, ⟨1, deepC (cellRow (β := Int)) ts_1310 rows0⟩)]) (ks := [0, 1]) rfl (by exact ⟨(someSref (by simp)), rfl, rfl, rfl, trivial⟩) rfl (by exact (⟨_, _, rfl, rfl, ⟨_, _, rfl, rfl, rfl⟩⟩)) rfl (List.Sublist.refl _)⟩
      ·
       rintro ⟨row, _⟩ rfl
       try dsimp only at hm2
       refine V.seq ?_
       replace hm2 := asrt_some hm2; rcases hm2 with ⟨hh6, hm2⟩
       refine V.region ?_
       refine VO.cons rfl (V1.move rfl rfl rfl lt0 ?_)
       refine VO.cons rfl (V1.indexSr rfl rfl esz_36 rfl rfl hh6 lt0 ?_)
       refine VO.cons rfl (V1.loadMap (k := 0) (f := encInt) rfl rfl tyk_3 rfl rfl (by simpa using natLt hh6.1 hh6.2) rfl lt0 ?_)
       refine VO.cons rfl (V1.int rfl rfl rfl rfl rfl lt0 ?_)
       refine VO.nil ?_
       refine V.cond rfl (fun hc4 => ?_) (fun hc4 => ?_)
       ·
        replace hm2 := cond_t hc4 hm2
        replace hm2 := asrt_some hm2; rcases hm2 with ⟨hh7, hm2⟩
        refine V.region ?_
        refine VO.cons rfl (V1.move rfl rfl rfl lt0 ?_)
        refine VO.cons rfl (V1.move rfl rfl rfl lt0 ?_)
        refine VO.cons rfl (V1.buildDeep (p := .sref b1 1 0 (List.length row)) rfl rfl esz_24 zk_36 rfl rfl rfl rfl rfl rfl rfl lt0 ?_)
        intro b3
        refine VO.weakenK (Keeps.tailPut 1 (A := [(b3, ⟨1, deepC (cellRow (β := Int)) ([.sref b1 1 0 (List.length row)]) ([row] : List (List Int))⟩), (b1, ⟨1, List.map encInt row⟩), (ob1, ⟨1, deepC (cellRow (β := Int)) ts_1310 rows0⟩)]) (A' := [(b3, ⟨1, deepC (cellRow (β := Int)) ([.sref b1 1 0 (List.length row)]) ([row] : List (List Int))⟩), (ob1, ⟨1, deepC (cellRow (β := Int)) ts_1310 rows0⟩)]) (T := os_1310) (p := (b1, ⟨1, List.map encInt row⟩)) rfl rfl rfl) ?_
        refine VO.cons rfl (V1.appendDD (cell := (cellRow (β := Int))) (ts := ts_1310) (xs := rows0) (ts2 := [.sref b1 1 0 (List.length row)]) (xs2 := ([row] : List (List Int))) (k := 1) (k2 := 0) rfl rfl rfl rfl rfl esz_24 eby_24 zk_36 rfl rfl (Deep.length hd_1310) rfl rfl rfl isl_24 hh7 lt0 ?_)
        intro b4
        refine VO.weakenK (Keeps.dropAt 1 (H' := (([(b4, ⟨1, deepC (cellRow (β := Int)) (ts_1310 ++ [.sref b1 1 0 (List.length row)]) (rows0 ++ ([row] : List (List Int)))⟩)] : List (Nat × Obj')) ++ (os_1310 ++ [(b1, ⟨1, List.map encInt row⟩)]))) rfl) ?_
        refine VO.cons rfl (V1.assign rfl rfl rfl lt0 ?_)
        refine VO.nil ?_
        exact ⟨((rows0 ++ ([row] : List (List Int))), (b4, (ts_1310 ++ [.sref b1 1 0 (List.length row)]), (os_1310 ++ [(b1, ⟨1, List.map encInt row⟩)]))), ⟨Option.some.inj hm2, (Deep.append hd_1310 (Deep.one (m := 1) (inn := (fun c_ : List Int => List.map encInt c_)) (x := row) (Deep1.own (by simp))))⟩, Keeps.mkT (A := [(b4, ⟨1, deepC (cellRow (β := Int)) (ts_1310 ++ [.sref b1 1 0 (List.length row)]) (rows0 ++ ([row] : List (List Int)))⟩)]) (T := (os_1310 ++ [(b1, ⟨1, List.map encInt row⟩)])) (T' := (os_1310 ++ [(b1, ⟨1, List.map encInt row⟩)])) (H := [(b4, ⟨1, deepC (cellRow (β := Int)) (ts_1310 ++ [.sref b1 1 0 (List.length row)]) (rows0 ++ ([row] : List (List Int)))⟩)]) (ks := [0]) rfl (by exact ⟨rfl, rfl, rfl, trivial⟩) rfl (by exact (⟨_, _, rfl, rfl, rfl⟩)) rfl (List.Sublist.refl _)⟩
       ·
        replace hm2 := cond_f hc4 hm2
        refine V.skip ?_
        exact ⟨(rows0, (ob1, ts_1310, os_1310)), ⟨Option.some.inj hm2, hd_1310⟩, Keeps.mkT (A := [(b1, ⟨1, List.map encInt row⟩), (ob1, ⟨1, deepC (cellRow (β := Int)) ts_1310 rows0⟩)]) (T := os_1310) (T' := os_1310) (H := [(ob1, ⟨1, deepC (cellRow (β := Int)) ts_1310 rows0⟩)]) (ks := [1]) rfl (by exact ⟨rfl, rfl, rfl, trivial⟩) rfl (by exact (⟨_, _, rfl, rfl, rfl⟩)) rfl (List.Sublist.refl _)⟩
     ·
      rintro ⟨rows1, ⟨b0, ts_1432, os_1432⟩⟩ ⟨rfl, hd_1432⟩
      try dsimp only at hm1
      refine V.region ?_
      refine VO.cons rfl (V1.move rfl rfl rfl lt0 ?_)
      refine VO.cons rfl (V1.int rfl rfl rfl rfl rfl lt0 ?_)
      refine VO.cons rfl (V1.assign rfl rfl rfl lt0 ?_)
      refine VO.nil ?_
      exact ⟨(m0, (rows1, (IntKind.i64.wrap (room + (1 : Int)))), ((some b0), ts_1432, os_1432)), ⟨hl1 _ (Option.some.inj hm1).symm, (fun e => by cases e), hd_1432⟩, Nat.lt_succ_self _, Keeps.mkT (A := [(b0, ⟨1, deepC (cellRow (β := Int)) ts_1432 rows1⟩)]) (T := os_1432) (T' := os_1432) (H := [(b0, ⟨1, deepC (cellRow (β := Int)) ts_1432 rows1⟩)]) (ks := [0]) rfl (by exact ⟨rfl, rfl, rfl, trivial⟩) rfl (by exact (⟨_, _, rfl, rfl, rfl⟩)) rfl (List.Sublist.refl _)⟩
    ·
     replace hm1 := cond_f hc1 hm1
     refine V.exit ?_
     obtain rfl := hr1 _ (Option.some.inj hm1).symm
     exact ⟨(rows0, ((some ob1), ts_1310, os_1310)), ⟨rfl, (fun e => by cases e), hd_1310⟩, Keeps.mkT (A := [(ob1, ⟨1, deepC (cellRow (β := Int)) ts_1310 rows0⟩)]) (T := os_1310) (T' := os_1310) (H := [(ob1, ⟨1, deepC (cellRow (β := Int)) ts_1310 rows0⟩)]) (ks := [0]) rfl (by exact ⟨rfl, trivial⟩) rfl (by exact (⟨_, _, rfl, rfl, rfl⟩)) rfl (List.Sublist.refl _)⟩
  ·
   rintro ⟨rows, ⟨ob0, ts_1309, os_1309⟩⟩ ⟨rfl, hob0, hd_1309⟩
   try dsimp only at hm0
   rcases ob0 with _ | ob0
   ·
    replace hob0 := hob0 rfl
    obtain ⟨rfl, rfl⟩ := Deep.nil hob0 hd_1309
    refine V.seq ?_
    refine V.region ?_
    refine VO.cons rfl (V1.move rfl rfl rfl lt0 ?_)
    refine VO.cons rfl (V1.assign rfl rfl rfl lt0 ?_)
    refine VO.cons rfl (V1.assign rfl rfl rfl lt0 ?_)
    refine VO.nil ?_
    refine V.keep 50 [2, 3] [] (E0 := [(2, .nils), (3, .bool true)]) (H0 := []) rfl (⟨_, _, rfl, rfl, ⟨_, _, rfl, rfl, rfl⟩⟩) (rfl) rfl ?_
    refine V.ret ?_
    obtain rfl := Option.some.inj hm0
    exact ⟨_, _, ⟨_, _, rfl, rfl, ⟨_, _, rfl, rfl, rfl⟩⟩, List.Sublist.refl _, none, [], [], (fun _ => hob0), (Deep.ofNil hob0), rfl, rfl⟩
   ·
    refine V.seq ?_
    refine V.region ?_
    refine VO.cons rfl (V1.move rfl rfl rfl lt0 ?_)
    refine VO.cons rfl (V1.assign rfl rfl rfl lt0 ?_)
    refine VO.cons rfl (V1.assign rfl rfl rfl lt0 ?_)
    refine VO.nil ?_
    refine V.keepT 50 [2, 3] [0] (E0 := [(2, .sref ob0 1 0 (List.length rows)), (3, .bool true)]) (A := [(ob0, ⟨1, deepC (cellRow (β := Int)) ts_1309 rows⟩)]) (T := os_1309) (H0 := [(ob0, ⟨1, deepC (cellRow (β := Int)) ts_1309 rows⟩)]) (T' := os_1309) rfl (⟨_, _, rfl, rfl, ⟨_, _, rfl, rfl, rfl⟩⟩) rfl (⟨_, _, rfl, rfl, rfl⟩) rfl (List.Sublist.refl _) ?_
    refine V.ret ?_
    obtain rfl := Option.some.inj hm0
    exact ⟨_, _, ⟨_, _, rfl, rfl, ⟨_, _, rfl, rfl, rfl⟩⟩, List.Sublist.refl _, some ob0, ts_1309, os_1309, (fun e => by cases e), hd_1309, rfl, rfl⟩

theorem ok_laws_eqIntS {ρ0 ρ1 rn : Nat} {a : List Int} {b_ : List Int} {r : Bool} (h : M.laws_eqIntS a b_ = some r) : Does Try.prog 24 [.vl ρ0 1 (List.map encInt a), .vl ρ1 1 (List.map encInt b_)] [] rn (fun x H => x = .bool r ∧ H = []) := by
 have hm0 := h; clear h; unfold M.laws_eqIntS at hm0
 try dsimp only at hm0
 refine Does.intro (N := 26) Try.func24 rfl rfl rfl rfl ?_
 intro w0 S0
 refine V.seq ?_
 refine V.region ?_
 refine VO.cons rfl (V1.assign rfl rfl rfl lt0 ?_)
 refine VO.nil ?_
 refine V.seq ?_
 refine V.seq ?_
 refine V.region ?_
 refine VO.cons rfl (V1.move rfl rfl rfl lt0 ?_)
 refine VO.cons rfl (V1.lenMap rfl rfl rfl rfl rfl rfl isl_36 lt0 ?_)
 refine VO.cons rfl (V1.move rfl rfl rfl lt0 ?_)
 refine VO.cons rfl (V1.lenMap rfl rfl rfl rfl rfl rfl isl_36 lt0 ?_)
 refine VO.cons rfl (V1.int rfl rfl rfl rfl rfl lt0 ?_)
 refine VO.nil ?_
 refine V.keep 26 [0, 1, 10] [] (E0 := [(0, .vl ρ0 1 (List.map encInt a)), (1, .vl ρ1 1 (List.map encInt b_)), (10, .bool ((a.length : Int) != (b_.length : Int)))]) (H0 := []) rfl (⟨_, _, rfl, rfl, ⟨_, _, rfl, rfl, ⟨_, _, rfl, rfl, rfl⟩⟩⟩) (rfl) rfl ?_
 refine V.cond rfl (fun hc0 => ?_) (fun hc0 => ?_)
 ·
  replace hm0 := cond_t hc0 hm0
  refine V.seq ?_
  refine V.region ?_
  refine VO.cons rfl (V1.assign rfl rfl rfl lt0 ?_)
  refine VO.nil ?_
  refine V.ret ?_
  obtain rfl := Option.some.inj hm0
  exact ⟨_, [], ⟨_, _, rfl, rfl, rfl⟩, List.nil_sublist _, rfl, rfl⟩
 ·
  replace hm0 := cond_f hc0 hm0
  refine V.skip ?_
  refine V.seq ?_
  refine V.seq ?_
  refine V.region ?_
  refine VO.cons rfl (V1.assign rfl rfl rfl lt0 ?_)
  refine VO.nil ?_
  replace hm0 := bindO hm0; rcases hm0 with ⟨e0, he1, hm0⟩
  refine V.cutT (D := (Unit) × (Unit)) (fun ⟨_, _⟩ => ⟨26, [], []⟩) (fun ⟨_, _⟩ => (.inl () = e0)) ?_ ?_
  ·
   refine V.block ?_
   refine V.keep 26 [5, 0, 1] [] (E0 := [(5, .int .i64 (0 : Int)), (0, .vl ρ0 1 (List.map encInt a)), (1, .vl ρ1 1 (List.map encInt b_))]) (H0 := []) rfl (⟨_, _, rfl, rfl, ⟨_, _, rfl, rfl, ⟨_, _, rfl, rfl, rfl⟩⟩⟩) (rfl) rfl ?_
   refine V.loopE (D := Nat × (Int) × (Unit)) (fun ⟨n0, i, _⟩ => [(5, .int .i64 i)]) (fun ⟨n0, i, _⟩ => []) (fun ⟨n0, i, _⟩ => loopO (M.laws_eqIntS_l0 a b_) n0 i = some e0) (fun ⟨n0, _, _⟩ => n0) (rounds, (0 : Int), ()) rfl he1 ?_
   rintro ⟨n0, i, _⟩ hP0
   obtain ⟨m0, y0, rfl, hm1, hl1, hr1⟩ := loop_head hP0
   unfold M.laws_eqIntS_l0 at hm1; dsimp only at hm1
   show V _ _ _ ⟨26, [(5, .int .i64 i), (0, .vl ρ0 1 (List.map encInt a)), (1, .vl ρ1 1 (List.map encInt b_))], []⟩
   refine V.seq ?_
   refine V.seq ?_
   refine V.region ?_
   refine VO.cons rfl (V1.move rfl rfl rfl lt0 ?_)
   refine VO.cons rfl (V1.move rfl rfl rfl lt0 ?_)
   refine VO.cons rfl (V1.lenMap rfl rfl rfl rfl rfl rfl isl_36 lt0 ?_)
   refine VO.cons rfl (V1.int rfl rfl rfl rfl rfl lt0 ?_)
   refine VO.nil ?_
   refine V.cond rfl (fun hc1 => ?_) (fun hc1 => ?_)
   ·
    replace hm1 := cond_t hc1 hm1
    refine V.skip ?_
    refine V.keep 26 [0, 1, 5] [] (E0 := [(0, .vl ρ0 1 (List.map encInt a)), (1, .vl ρ1 1 (List.map encInt b_)), (5, .int .i64 i)]) (H0 := []) rfl (⟨_, _, rfl, rfl, ⟨_, _, rfl, rfl, ⟨_, _, rfl, rfl, rfl⟩⟩⟩) (rfl) rfl ?_
    refine V.seq ?_
    refine V.block ?_
    refine V.seq ?_
    replace hm1 := asrt_some hm1; rcases hm1 with ⟨hh0, hm1⟩
    replace hm1 := asrt_some hm1; rcases hm1 with ⟨hh1, hm1⟩
    refine V.regionM 26 8 [⟨[(0, none)], [], none⟩, ⟨[(5, none)], [], none⟩, ⟨[(17, some 1), (18, some 0)], [], none⟩, ⟨[(19, some 0)], [], none⟩, ⟨[(1, none)], [], none⟩, ⟨[(5, none)], [], none⟩, ⟨[(21, some 1), (22, some 0)], [], none⟩, ⟨[(23, some 0)], [], none⟩] [(0, none), (1, none), (5, none), (20, some 4), (24, some 0)] (⟨_, rfl, ⟨_, rfl, ⟨_, rfl, ⟨_, rfl, ⟨_, rfl, ⟨_, rfl, ⟨_, rfl, ⟨_, rfl, ⟨rfl, rfl⟩⟩⟩⟩⟩⟩⟩⟩⟩) mixed_orders rfl (by decide +kernel) (fun hck6 => ?_)
    refine VP.step (p := ?pv65) rfl rfl rfl (⟨_, _, rfl, rfl, rfl⟩) ?hv65 ?rest65 hck6
    case hv65 =>
     intro E1
     refine (V1.move rfl rfl rfl lt0 ?_)
     exact rfl
    refine VP.step (p := ?pv66) rfl rfl rfl (⟨_, _, rfl, rfl, rfl⟩) ?hv66 ?rest66 hck6
    case hv66 =>
     intro E1
     refine (V1.move rfl rfl rfl lt0 ?_)
     exact rfl
    refine VP.step (p := ?pv67) rfl rfl rfl (⟨_, _, rfl, rfl, ⟨_, _, rfl, rfl, rfl⟩⟩) ?hv67 ?rest67 hck6
    case hv67 =>
     intro E1
     refine (V1.indexI rfl rfl esz_36 rfl rfl hh0 lt0 ?_)
     exact rfl
    refine VP.step (p := ?pv68) rfl rfl rfl (⟨_, _, rfl, rfl, rfl⟩) ?hv68 ?rest68 hck6
    case hv68 =>
     intro E1
     refine (V1.loadPin rfl rfl tyk_3 rfl rfl lt0 ?_)
     exact rfl
    refine VP.step (p := ?pv69) rfl rfl rfl (⟨_, _, rfl, rfl, rfl⟩) ?hv69 ?rest69 hck6
    case hv69 =>
     intro E1
     refine (V1.move rfl rfl rfl lt0 ?_)
     exact rfl
    refine VP.step (p := ?pv70) rfl rfl rfl (⟨_, _, rfl, rfl, rfl⟩) ?hv70 ?rest70 hck6
    case hv70 =>
     intro E1
     refine (V1.move rfl rfl rfl lt0 ?_)
     exact rfl
    refine VP.step (p := ?pv71) rfl rfl rfl (⟨_, _, rfl, rfl, ⟨_, _, rfl, rfl, rfl⟩⟩) ?hv71 ?rest71 hck6
    case hv71 =>
     intro E1
     refine (V1.indexI rfl rfl esz_36 rfl rfl hh1 lt0 ?_)
     exact rfl
    refine VP.step (p := ?pv72) rfl rfl rfl (⟨_, _, rfl, rfl, rfl⟩) ?hv72 ?rest72 hck6
    case hv72 =>
     intro E1
     refine (V1.loadPin rfl rfl tyk_3 rfl rfl lt0 ?_)
     exact rfl
    refine VP.fin rfl (⟨_, _, rfl, rfl, ⟨_, _, rfl, rfl, ⟨_, _, rfl, rfl, ⟨_, _, rfl, rfl, ⟨_, _, rfl, rfl, rfl⟩⟩⟩⟩⟩) ?_
    refine VO.cons rfl (V1.int rfl rfl rfl rfl rfl lt0 ?_)
    refine VO.nil ?_
    refine V.cond rfl (fun hc2 => ?_) (fun hc2 => ?_)
    ·
     replace hm1 := cond_t hc2 hm1
     refine V.seq ?_
     refine V.region ?_
     refine VO.cons rfl (V1.assign rfl rfl rfl lt0 ?_)
     refine VO.nil ?_
     refine V.ret ?_
     obtain rfl := hr1 _ (Option.some.inj hm1).symm
     change some _ = some _ at hm0
     obtain rfl := Option.some.inj hm0
     exact ⟨_, [], ⟨_, _, rfl, rfl, rfl⟩, List.nil_sublist _, rfl, rfl⟩
    ·
     replace hm1 := cond_f hc2 hm1
     refine V.skip ?_
     refine V.region ?_
     refine VO.cons rfl (V1.move rfl rfl rfl lt0 ?_)
     refine VO.cons rfl (V1.int rfl rfl rfl rfl rfl lt0 ?_)
     refine VO.cons rfl (V1.assign rfl rfl rfl lt0 ?_)
     refine VO.nil ?_
     exact ⟨(m0, (IntKind.i64.wrap (i + (1 : Int))), ()), hl1 _ (Option.some.inj hm1).symm, Nat.lt_succ_self _, Keeps.mk (ks := []) rfl ⟨rfl, rfl, rfl, trivial⟩ (rfl) rfl⟩
   ·
    replace hm1 := cond_f hc1 hm1
    refine V.exit ?_
    obtain rfl := hr1 _ (Option.some.inj hm1).symm
    exact ⟨((), ()), rfl, Keeps.mk (ks := []) rfl trivial (rfl) rfl⟩
  ·
   rintro ⟨_, _⟩ rfl
   try dsimp only at hm0
   refine V.seq ?_
   refine V.region ?_
   refine VO.cons rfl (V1.assign rfl rfl rfl lt0 ?_)
   refine VO.nil ?_
   refine V.ret ?_
   obtain rfl := Option.some.inj hm0
   exact ⟨_, [], ⟨_, _, rfl, rfl, rfl⟩, List.nil_sublist _, rfl, rfl⟩

theorem ok_laws_eqIntSS {ρ0 σ0 ρ1 σ1 rn : Nat} {a : List (List Int)} {b_ : List (List Int)} {r : Bool} (h : M.laws_eqIntSS a b_ = some r) : Does Try.prog 15 [.vl ρ0 1 (List.map (encL σ0 1 encInt) a), .vl ρ1 1 (List.map (encL σ1 1 encInt) b_)] [] rn (fun x H => x = .bool r ∧ H = []) := by
 have hm0 := h; clear h; unfold M.laws_eqIntSS at hm0
 try dsimp only at hm0
 refine Does.intro (N := 27) Try.func15 rfl rfl rfl rfl ?_
 intro w0 S0
 refine V.seq ?_
 refine V.region ?_
 refine VO.cons rfl (V1.assign rfl rfl rfl lt0 ?_)
 refine VO.nil ?_
 refine V.seq ?_
 refine V.seq ?_
 refine V.region ?_
 refine VO.cons rfl (V1.move rfl rfl rfl lt0 ?_)
 refine VO.cons rfl (V1.lenMap rfl rfl rfl rfl rfl rfl isl_24 lt0 ?_)
 refine VO.cons rfl (V1.move rfl rfl rfl lt0 ?_)
 refine VO.cons rfl (V1.lenMap rfl rfl rfl rfl rfl rfl isl_24 lt0 ?_)
 refine VO.cons rfl (V1.int rfl rfl rfl rfl rfl lt0 ?_)
 refine VO.nil ?_
 refine V.keep 27 [0, 1, 10] [] (E0 := [(0, .vl ρ0 1 (List.map (encL σ0 1 encInt) a)), (1, .vl ρ1 1 (List.map (encL σ1 1 encInt) b_)), (10, .bool ((a.length : Int) != (b_.length : Int)))]) (H0 := []) rfl (⟨_, _, rfl, rfl, ⟨_, _, rfl, rfl, ⟨_, _, rfl, rfl, rfl⟩⟩⟩) (rfl) rfl ?_
 refine V.cond rfl (fun hc0 => ?_) (fun hc0 => ?_)
 ·
  replace hm0 := cond_t hc0 hm0
  refine V.seq ?_
  refine V.region ?_
  refine VO.cons rfl (V1.assign rfl rfl rfl lt0 ?_)
  refine VO.nil ?_
  refine V.ret ?_
  obtain rfl := Option.some.inj hm0
  exact ⟨_, [], ⟨_, _, rfl, rfl, rfl⟩, List.nil_sublist _, rfl, rfl⟩
 ·
  replace hm0 := cond_f hc0 hm0
  refine V.skip ?_
  refine V.seq ?_
  refine V.seq ?_
  refine V.region ?_
  refine VO.cons rfl (V1.assign rfl rfl rfl lt0 ?_)
  refine VO.nil ?_
  replace hm0 := bindO hm0; rcases hm0 with ⟨e0, he1, hm0⟩
  refine V.cutT (D := (Unit) × (Unit)) (fun ⟨_, _⟩ => ⟨27, [], []⟩) (fun ⟨_, _⟩ => (.inl () = e0)) ?_ ?_
  ·
   refine V.block ?_
   refine V.keep 27 [5, 0, 1] [] (E0 := [(5, .int .i64 (0 : Int)), (0, .vl ρ0 1 (List.map (encL σ0 1 encInt) a)), (1, .vl ρ1 1 (List.map (encL σ1 1 encInt) b_))]) (H0 := []) rfl (⟨_, _, rfl, rfl, ⟨_, _, rfl, rfl, ⟨_, _, rfl, rfl, rfl⟩⟩⟩) (rfl) rfl ?_
   refine V.loopE (D := Nat × (Int) × (Unit)) (fun ⟨n0, i, _⟩ => [(5, .int .i64 i)]) (fun ⟨n0, i, _⟩ => []) (fun ⟨n0, i, _⟩ => loopO (M.laws_eqIntSS_l0 a b_) n0 i = some e0) (fun ⟨n0, _, _⟩ => n0) (rounds, (0 : Int), ()) rfl he1 ?_
   rintro ⟨n0, i, _⟩ hP0
   obtain ⟨m0, y0, rfl, hm1, hl1, hr1⟩ := loop_head hP0
   unfold M.laws_eqIntSS_l0 at hm1; dsimp only at hm1
   show V _ _ _ ⟨27, [(5, .int .i64 i), (0, .vl ρ0 1 (List.map (encL σ0 1 encInt) a)), (1, .vl ρ1 1 (List.map (encL σ1 1 encInt) b_))], []⟩
   refine V.seq ?_
   refine V.seq ?_
   refine V.region ?_
   refine VO.cons rfl (V1.move rfl rfl rfl lt0 ?_)
   refine VO.cons rfl (V1.move rfl rfl rfl lt0 ?_)
   refine VO.cons rfl (V1.lenMap rfl rfl rfl rfl rfl rfl isl_24 lt0 ?_)
   refine VO.cons rfl (V1.int rfl rfl rfl rfl rfl lt0 ?_)
   refine VO.nil ?_
   refine V.cond rfl (fun hc1 => ?_) (fun hc1 => ?_)
   ·
    replace hm1 := cond_t hc1 hm1
    refine V.skip ?_
    refine V.keep 27 [0, 1, 5] [] (E0 := [(0, .vl ρ0 1 (List.map (encL σ0 1 encInt) a)), (1, .vl ρ1 1 (List.map (encL σ1 1 encInt) b_)), (5, .int .i64 i)]) (H0 := []) rfl (⟨_, _, rfl, rfl, ⟨_, _, rfl, rfl, ⟨_, _, rfl, rfl, rfl⟩⟩⟩) (rfl) rfl ?_
    refine V.seq ?_
    refine V.block ?_
    refine V.seq ?_
    replace hm1 := asrt_some hm1; rcases hm1 with ⟨hh0, hm1⟩
    replace hm1 := asrt_some hm1; rcases hm1 with ⟨hh1, hm1⟩
    replace hm1 := bindO hm1; rcases hm1 with ⟨y1, hh2, hm1⟩
    refine V.regionM 27 8 [⟨[(0, none)], [], none⟩, ⟨[(5, none)], [], none⟩, ⟨[(17, some 1), (18, some 0)], [], none⟩, ⟨[(19, some 0)], [], none⟩, ⟨[(1, none)], [], none⟩, ⟨[(5, none)], [], none⟩, ⟨[(21, some 1), (22, some 0)], [], none⟩, ⟨[(23, some 0)], [], none⟩] [(0, none), (1, none), (5, none), (20, some 4), (24, some 0)] (⟨_, rfl, ⟨_, rfl, ⟨_, rfl, ⟨_, rfl, ⟨_, rfl, ⟨_, rfl, ⟨_, rfl, ⟨_, rfl, ⟨rfl, rfl⟩⟩⟩⟩⟩⟩⟩⟩⟩) mixed_orders rfl (by decide +kernel) (fun hck6 => ?_)
    refine VP.step (p := ?pv82) rfl rfl rfl (⟨_, _, rfl, rfl, rfl⟩) ?hv82 ?rest82 hck6
    case hv82 =>
     intro E1
     refine (V1.move rfl rfl rfl lt0 ?_)
     exact rfl
    refine VP.step (p := ?pv83) rfl rfl rfl (⟨_, _, rfl, rfl, rfl⟩) ?hv83 ?rest83 hck6
    case hv83 =>
     intro E1
     refine (V1.move rfl rfl rfl lt0 ?_)
     exact rfl
    refine VP.step (p := ?pv84) rfl rfl rfl (⟨_, _, rfl, rfl, ⟨_, _, rfl, rfl, rfl⟩⟩) ?hv84 ?rest84 hck6
    case hv84 =>
     intro E1
     refine (V1.indexI rfl rfl esz_24 rfl rfl hh0 lt0 ?_)
     exact rfl
    refine VP.step (p := ?pv85) rfl rfl rfl (⟨_, _, rfl, rfl, rfl⟩) ?hv85 ?rest85 hck6
    case hv85 =>
     intro E1
     refine (V1.loadPin rfl rfl tyk_36 rfl rfl lt0 ?_)
     exact rfl
    refine VP.step (p := ?pv86) rfl rfl rfl (⟨_, _, rfl, rfl, rfl⟩) ?hv86 ?rest86 hck6
    case hv86 =>
     intro E1
     refine (V1.move rfl rfl rfl lt0 ?_)
     exact rfl
    refine VP.step (p := ?pv87) rfl rfl rfl (⟨_, _, rfl, rfl, rfl⟩) ?hv87 ?rest87 hck6
    case hv87 =>
     intro E1
     refine (V1.move rfl rfl rfl lt0 ?_)
     exact rfl
    refine VP.step (p := ?pv88) rfl rfl rfl (⟨_, _, rfl, rfl, ⟨_, _, rfl, rfl, rfl⟩⟩) ?hv88 ?rest88 hck6
    case hv88 =>
     intro E1
     refine (V1.indexI rfl rfl esz_24 rfl rfl hh1 lt0 ?_)
     exact rfl
    refine VP.step (p := ?pv89) rfl rfl rfl (⟨_, _, rfl, rfl, rfl⟩) ?hv89 ?rest89 hck6
    case hv89 =>
     intro E1
     refine (V1.loadPin rfl rfl tyk_36 rfl rfl lt0 ?_)
     exact rfl
    refine VP.fin rfl (⟨_, _, rfl, rfl, ⟨_, _, rfl, rfl, ⟨_, _, rfl, rfl, ⟨_, _, rfl, rfl, ⟨_, _, rfl, rfl, rfl⟩⟩⟩⟩⟩) ?_
    refine VO.cons rfl (V1.call rfl rfl rfl cok_24 rfl (ok_laws_eqIntS hh2) rfl lt0 ?_)
    rintro _ _ ⟨rfl, rfl⟩
    refine VO.cons rfl (V1.not rfl rfl rfl lt0 ?_)
    refine VO.nil ?_
    refine V.cond rfl (fun hc2 => ?_) (fun hc2 => ?_)
    ·
     replace hm1 := cond_t hc2 hm1
     refine V.seq ?_
     refine V.region ?_
     refine VO.cons rfl (V1.assign rfl rfl rfl lt0 ?_)
     refine VO.nil ?_
     refine V.ret ?_
     obtain rfl := hr1 _ (Option.some.inj hm1).symm
     change some _ = some _ at hm0
     obtain rfl := Option.some.inj hm0
     exact ⟨_, [], ⟨_, _, rfl, rfl, rfl⟩, List.nil_sublist _, rfl, rfl⟩
    ·
     replace hm1 := cond_f hc2 hm1
     refine V.skip ?_
     refine V.keep 27 [0, 1, 5] [] (E0 := [(0, .vl ρ0 1 (List.map (encL σ0 1 encInt) a)), (1, .vl ρ1 1 (List.map (encL σ1 1 encInt) b_)), (5, .int .i64 i)]) (H0 := []) rfl (⟨_, _, rfl, rfl, ⟨_, _, rfl, rfl, ⟨_, _, rfl, rfl, rfl⟩⟩⟩) (rfl) rfl ?_
     refine V.region ?_
     refine VO.cons rfl (V1.move rfl rfl rfl lt0 ?_)
     refine VO.cons rfl (V1.int rfl rfl rfl rfl rfl lt0 ?_)
     refine VO.cons rfl (V1.assign rfl rfl rfl lt0 ?_)
     refine VO.nil ?_
     exact ⟨(m0, (IntKind.i64.wrap (i + (1 : Int))), ()), hl1 _ (Option.some.inj hm1).symm, Nat.lt_succ_self _, Keeps.mk (ks := []) rfl ⟨rfl, rfl, rfl, trivial⟩ (rfl) rfl⟩
   ·
    replace hm1 := cond_f hc1 hm1
    refine V.exit ?_
    obtain rfl := hr1 _ (Option.some.inj hm1).symm
    exact ⟨((), ()), rfl, Keeps.mk (ks := []) rfl trivial (rfl) rfl⟩
  ·
   rintro ⟨_, _⟩ rfl
   try dsimp only at hm0
   refine V.seq ?_
   refine V.region ?_
   refine VO.cons rfl (V1.assign rfl rfl rfl lt0 ?_)
   refine VO.nil ?_
   refine V.ret ?_
   obtain rfl := Option.some.inj hm0
   exact ⟨_, [], ⟨_, _, rfl, rfl, rfl⟩, List.nil_sublist _, rfl, rfl⟩

theorem ok_laws_eqCarton {ρ0 ρ1 rn : Nat} {a : Carton} {b_ : Carton} {r : Bool} (h : M.laws_eqCarton a b_ = some r) : Does Try.prog 62 [encCarton ρ0 a, encCarton ρ1 b_] [] rn (fun x H => x = .bool r ∧ H = []) := by
 have hm0 := h; clear h; unfold M.laws_eqCarton at hm0
 try dsimp only at hm0
 refine Does.intro (N := 31) Try.func62 rfl rfl rfl rfl ?_
 intro w0 S0
 refine V.seq ?_
 refine V.region ?_
 refine VO.cons rfl (V1.boxN (n := 5) rfl rfl rfl rfl rfl lt0 ?_)
 intro b0
 refine VO.cons rfl (V1.boxN (n := 5) rfl rfl rfl rfl rfl lt0 ?_)
 intro b1
 refine VO.cons rfl (V1.assign rfl rfl rfl lt0 ?_)
 refine VO.nil ?_
 refine V.seq ?_
 refine V.seq ?_
 refine V.region ?_
 refine VO.cons rfl (V1.fieldRef rfl rfl fo_67_0 rfl lt0 ?_)
 refine VO.cons rfl (V1.loadRef (k := 1) rfl rfl tyk_3 rfl rfl rfl rfl rfl lt0 ?_)
 refine VO.cons rfl (V1.fieldRef rfl rfl fo_67_0 rfl lt0 ?_)
 refine VO.cons rfl (V1.loadRef (k := 0) rfl rfl tyk_3 rfl rfl rfl rfl rfl lt0 ?_)
 refine VO.cons rfl (V1.int rfl rfl rfl rfl rfl lt0 ?_)
 refine VO.nil ?_
 refine V.keep 31 [2, 3, 9] [0, 1] (E0 := [(2, .ref b0 5 0 0), (3, .ref b1 5 0 0), (9, .bool (a.Id != b_.Id))]) (H0 := [(b1, ⟨5, [encCarton ρ1 b_]⟩), (b0, ⟨5, [encCarton ρ0 a]⟩)]) rfl (⟨_, _, rfl, rfl, ⟨_, _, rfl, rfl, ⟨_, _, rfl, rfl, rfl⟩⟩⟩) (⟨_, _, rfl, rfl, ⟨_, _, rfl, rfl, rfl⟩⟩) rfl ?_
 refine V.cond rfl (fun hc0 => ?_) (fun hc0 => ?_)
 ·
  replace hm0 := cond_t hc0 hm0
  refine V.seq ?_
  refine V.region ?_
  refine VO.cons rfl (V1.assign rfl rfl rfl lt0 ?_)
  refine VO.nil ?_
  refine V.ret ?_
  obtain rfl := Option.some.inj hm0
  exact ⟨_, [], ⟨_, _, rfl, rfl, rfl⟩, List.nil_sublist _, rfl, rfl⟩
 ·
  replace hm0 := cond_f hc0 hm0
  refine V.skip ?_
  refine V.seq ?_
  refine V.seq ?_
  refine V.region ?_
  refine VO.cons rfl (V1.fieldRef rfl rfl fo_67_1 rfl lt0 ?_)
  refine VO.cons rfl (V1.loadRef (k := 1) rfl rfl tyk_3 rfl rfl rfl rfl rfl lt0 ?_)
  refine VO.cons rfl (V1.fieldRef rfl rfl fo_67_1 rfl lt0 ?_)
  refine VO.cons rfl (V1.loadRef (k := 0) rfl rfl tyk_3 rfl rfl rfl rfl rfl lt0 ?_)
  refine VO.cons rfl (V1.int rfl rfl rfl rfl rfl lt0 ?_)
  refine VO.nil ?_
  refine V.keep 31 [2, 3, 14] [0, 1] (E0 := [(2, .ref b0 5 0 0), (3, .ref b1 5 0 0), (14, .bool (a.Shelf != b_.Shelf))]) (H0 := [(b1, ⟨5, [encCarton ρ1 b_]⟩), (b0, ⟨5, [encCarton ρ0 a]⟩)]) rfl (⟨_, _, rfl, rfl, ⟨_, _, rfl, rfl, ⟨_, _, rfl, rfl, rfl⟩⟩⟩) (⟨_, _, rfl, rfl, ⟨_, _, rfl, rfl, rfl⟩⟩) rfl ?_
  refine V.cond rfl (fun hc1 => ?_) (fun hc1 => ?_)
  ·
   replace hm0 := cond_t hc1 hm0
   refine V.seq ?_
   refine V.region ?_
   refine VO.cons rfl (V1.assign rfl rfl rfl lt0 ?_)
   refine VO.nil ?_
   refine V.ret ?_
   obtain rfl := Option.some.inj hm0
   exact ⟨_, [], ⟨_, _, rfl, rfl, rfl⟩, List.nil_sublist _, rfl, rfl⟩
  ·
   replace hm0 := cond_f hc1 hm0
   refine V.skip ?_
   refine V.seq ?_
   refine V.seq ?_
   refine V.region ?_
   refine VO.cons rfl (V1.fieldRef rfl rfl fo_67_2 rfl lt0 ?_)
   refine VO.cons rfl (V1.loadRef (k := 1) rfl rfl tyk_3 rfl rfl rfl rfl rfl lt0 ?_)
   refine VO.cons rfl (V1.fieldRef rfl rfl fo_67_2 rfl lt0 ?_)
   refine VO.cons rfl (V1.loadRef (k := 0) rfl rfl tyk_3 rfl rfl rfl rfl rfl lt0 ?_)
   refine VO.cons rfl (V1.int rfl rfl rfl rfl rfl lt0 ?_)
   refine VO.nil ?_
   refine V.keep 31 [2, 3, 19] [0, 1] (E0 := [(2, .ref b0 5 0 0), (3, .ref b1 5 0 0), (19, .bool (a.Room != b_.Room))]) (H0 := [(b1, ⟨5, [encCarton ρ1 b_]⟩), (b0, ⟨5, [encCarton ρ0 a]⟩)]) rfl (⟨_, _, rfl, rfl, ⟨_, _, rfl, rfl, ⟨_, _, rfl, rfl, rfl⟩⟩⟩) (⟨_, _, rfl, rfl, ⟨_, _, rfl, rfl, rfl⟩⟩) rfl ?_
   refine V.cond rfl (fun hc2 => ?_) (fun hc2 => ?_)
   ·
    replace hm0 := cond_t hc2 hm0
    refine V.seq ?_
    refine V.region ?_
    refine VO.cons rfl (V1.assign rfl rfl rfl lt0 ?_)
    refine VO.nil ?_
    refine V.ret ?_
    obtain rfl := Option.some.inj hm0
    exact ⟨_, [], ⟨_, _, rfl, rfl, rfl⟩, List.nil_sublist _, rfl, rfl⟩
   ·
    replace hm0 := cond_f hc2 hm0
    refine V.skip ?_
    refine V.seq ?_
    refine V.seq ?_
    replace hm0 := bindO hm0; rcases hm0 with ⟨y0, hh0, hm0⟩
    refine V.region ?_
    refine VO.cons rfl (V1.fieldRef rfl rfl fo_67_3 rfl lt0 ?_)
    refine VO.cons rfl (V1.loadRef (k := 1) rfl rfl tyk_36 rfl rfl rfl rfl rfl lt0 ?_)
    refine VO.cons rfl (V1.fieldRef rfl rfl fo_67_3 rfl lt0 ?_)
    refine VO.cons rfl (V1.loadRef (k := 0) rfl rfl tyk_36 rfl rfl rfl rfl rfl lt0 ?_)
    refine VO.cons rfl (V1.call rfl rfl rfl cok_24 rfl (ok_laws_eqIntS hh0) rfl lt0 ?_)
    rintro _ _ ⟨rfl, rfl⟩
    refine VO.cons rfl (V1.not rfl rfl rfl lt0 ?_)
    refine VO.nil ?_
    refine V.keep 31 [2, 3, 25] [0, 1] (E0 := [(2, .ref b0 5 0 0), (3, .ref b1 5 0 0), (25, .bool (!y0))]) (H0 := [(b1, ⟨5, [encCarton ρ1 b_]⟩), (b0, ⟨5, [encCarton ρ0 a]⟩)]) rfl (⟨_, _, rfl, rfl, ⟨_, _, rfl, rfl, ⟨_, _, rfl, rfl, rfl⟩⟩⟩) (⟨_, _, rfl, rfl, ⟨_, _, rfl, rfl, rfl⟩⟩) rfl ?_
    refine V.cond rfl (fun hc3 => ?_) (fun hc3 => ?_)
    ·
     replace hm0 := cond_t hc3 hm0
     refine V.seq ?_
     refine V.region ?_
     refine VO.cons rfl (V1.assign rfl rfl rfl lt0 ?_)
     refine VO.nil ?_
     refine V.ret ?_
     obtain rfl := Option.some.inj hm0
     exact ⟨_, [], ⟨_, _, rfl, rfl, rfl⟩, List.nil_sublist _, rfl, rfl⟩
    ·
     replace hm0 := cond_f hc3 hm0
     refine V.skip ?_
     refine V.seq ?_
     refine V.seq ?_
     refine V.region ?_
     refine VO.cons rfl (V1.fieldRef rfl rfl fo_67_4 rfl lt0 ?_)
     refine VO.cons rfl (V1.loadRef (k := 1) rfl rfl tyk_3 rfl rfl rfl rfl rfl lt0 ?_)
     refine VO.cons rfl (V1.fieldRef rfl rfl fo_67_4 rfl lt0 ?_)
     refine VO.cons rfl (V1.loadRef (k := 0) rfl rfl tyk_3 rfl rfl rfl rfl rfl lt0 ?_)
     refine VO.cons rfl (V1.int rfl rfl rfl rfl rfl lt0 ?_)
     refine VO.nil ?_
     refine V.keep 31 [30] [] (E0 := [(30, .bool (a.Thick != b_.Thick))]) (H0 := []) rfl (⟨_, _, rfl, rfl, rfl⟩) (rfl) rfl ?_
     refine V.cond rfl (fun hc4 => ?_) (fun hc4 => ?_)
     ·
      replace hm0 := cond_t hc4 hm0
      refine V.seq ?_
      refine V.region ?_
      refine VO.cons rfl (V1.assign rfl rfl rfl lt0 ?_)
      refine VO.nil ?_
      refine V.ret ?_
      obtain rfl := Option.some.inj hm0
      exact ⟨_, [], ⟨_, _, rfl, rfl, rfl⟩, List.nil_sublist _, rfl, rfl⟩
     ·
      replace hm0 := cond_f hc4 hm0
      refine V.skip ?_
      refine V.seq ?_
      refine V.region ?_
      refine VO.cons rfl (V1.assign rfl rfl rfl lt0 ?_)
      refine VO.nil ?_
      refine V.ret ?_
      obtain rfl := Option.some.inj hm0
      exact ⟨_, [], ⟨_, _, rfl, rfl, rfl⟩, List.nil_sublist _, rfl, rfl⟩

theorem ok_laws_eqCartonS {ρ0 σ0 ρ1 σ1 rn : Nat} {a : List Carton} {b_ : List Carton} {r : Bool} (h : M.laws_eqCartonS a b_ = some r) : Does Try.prog 25 [.vl ρ0 5 (List.map (encCarton σ0) a), .vl ρ1 5 (List.map (encCarton σ1) b_)] [] rn (fun x H => x = .bool r ∧ H = []) := by
 have hm0 := h; clear h; unfold M.laws_eqCartonS at hm0
 try dsimp only at hm0
 refine Does.intro (N := 27) Try.func25 rfl rfl rfl rfl ?_
 intro w0 S0
 refine V.seq ?_
 refine V.region ?_
 refine VO.cons rfl (V1.assign rfl rfl rfl lt0 ?_)
 refine VO.nil ?_
 refine V.seq ?_
 refine V.seq ?_
 refine V.region ?_
 refine VO.cons rfl (V1.move rfl rfl rfl lt0 ?_)
 refine VO.cons rfl (V1.lenMap rfl rfl rfl rfl rfl rfl isl_39 lt0 ?_)
 refine VO.cons rfl (V1.move rfl rfl rfl lt0 ?_)
 refine VO.cons rfl (V1.lenMap rfl rfl rfl rfl rfl rfl isl_39 lt0 ?_)
 refine VO.cons rfl (V1.int rfl rfl rfl rfl rfl lt0 ?_)
 refine VO.nil ?_
 refine V.keep 27 [0, 1, 10] [] (E0 := [(0, .vl ρ0 5 (List.map (encCarton σ0) a)), (1, .vl ρ1 5 (List.map (encCarton σ1) b_)), (10, .bool ((a.length : Int) != (b_.length : Int)))]) (H0 := []) rfl (⟨_, _, rfl, rfl, ⟨_, _, rfl, rfl, ⟨_, _, rfl, rfl, rfl⟩⟩⟩) (rfl) rfl ?_
 refine V.cond rfl (fun hc0 => ?_) (fun hc0 => ?_)
 ·
  replace hm0 := cond_t hc0 hm0
  refine V.seq ?_
  refine V.region ?_
  refine VO.cons rfl (V1.assign rfl rfl rfl lt0 ?_)
  refine VO.nil ?_
  refine V.ret ?_
  obtain rfl := Option.some.inj hm0
  exact ⟨_, [], ⟨_, _, rfl, rfl, rfl⟩, List.nil_sublist _, rfl, rfl⟩
 ·
  replace hm0 := cond_f hc0 hm0
  refine V.skip ?_
  refine V.seq ?_
  refine V.seq ?_
  refine V.region ?_
  refine VO.cons rfl (V1.assign rfl rfl rfl lt0 ?_)
  refine VO.nil ?_
  replace hm0 := bindO hm0; rcases hm0 with ⟨e0, he1, hm0⟩
  refine V.cutT (D := (Unit) × (Unit)) (fun ⟨_, _⟩ => ⟨27, [], []⟩) (fun ⟨_, _⟩ => (.inl () = e0)) ?_ ?_
  ·
   refine V.block ?_
   refine V.keep 27 [5, 0, 1] [] (E0 := [(5, .int .i64 (0 : Int)), (0, .vl ρ0 5 (List.map (encCarton σ0) a)), (1, .vl ρ1 5 (List.map (encCarton σ1) b_))]) (H0 := []) rfl (⟨_, _, rfl, rfl, ⟨_, _, rfl, rfl, ⟨_, _, rfl, rfl, rfl⟩⟩⟩) (rfl) rfl ?_
   refine V.loopE (D := Nat × (Int) × (Unit)) (fun ⟨n0, i, _⟩ => [(5, .int .i64 i)]) (fun ⟨n0, i, _⟩ => []) (fun ⟨n0, i, _⟩ => loopO (M.laws_eqCartonS_l0 a b_) n0 i = some e0) (fun ⟨n0, _, _⟩ => n0) (rounds, (0 : Int), ()) rfl he1 ?_
   rintro ⟨n0, i, _⟩ hP0
   obtain ⟨m0, y0, rfl, hm1, hl1, hr1⟩ := loop_head hP0
   unfold M.laws_eqCartonS_l0 at hm1; dsimp only at hm1
   show V _ _ _ ⟨27, [(5, .int .i64 i), (0, .vl ρ0 5 (List.map (encCarton σ0) a)), (1, .vl ρ1 5 (List.map (encCarton σ1) b_))], []⟩
   refine V.seq ?_
   refine V.seq ?_
   refine V.region ?_
   refine VO.cons rfl (V1.move rfl rfl rfl lt0 ?_)
   refine VO.cons rfl (V1.move rfl rfl rfl lt0 ?_)
   refine VO.cons rfl (V1.lenMap rfl rfl rfl rfl rfl rfl isl_39 lt0 ?_)
   refine VO.cons rfl (V1.int rfl rfl rfl rfl rfl lt0 ?_)
   refine VO.nil ?_
   refine V.cond rfl (fun hc1 => ?_) (fun hc1 => ?_)
   ·
    replace hm1 := cond_t hc1 hm1
    refine V.skip ?_
    refine V.keep 27 [0, 1, 5] [] (E0 := [(0, .vl ρ0 5 (List.map (encCarton σ0) a)), (1, .vl ρ1 5 (List.map (encCarton σ1) b_)), (5, .int .i64 i)]) (H0 := []) rfl (⟨_, _, rfl, rfl, ⟨_, _, rfl, rfl, ⟨_, _, rfl, rfl, rfl⟩⟩⟩) (rfl) rfl ?_
    refine V.seq ?_
    refine V.block ?_
    refine V.seq ?_
    replace hm1 := asrt_some hm1; rcases hm1 with ⟨hh0, hm1⟩
    replace hm1 := asrt_some hm1; rcases hm1 with ⟨hh1, hm1⟩
    replace hm1 := bindO hm1; rcases hm1 with ⟨y1, hh2, hm1⟩
    refine V.regionM 27 8 [⟨[(0, none)], [], none⟩, ⟨[(5, none)], [], none⟩, ⟨[(17, some 1), (18, some 0)], [], none⟩, ⟨[(19, some 0)], [], none⟩, ⟨[(1, none)], [], none⟩, ⟨[(5, none)], [], none⟩, ⟨[(21, some 1), (22, some 0)], [], none⟩, ⟨[(23, some 0)], [], none⟩] [(0, none), (1, none), (5, none), (20, some 4), (24, some 0)] (⟨_, rfl, ⟨_, rfl, ⟨_, rfl, ⟨_, rfl, ⟨_, rfl, ⟨_, rfl, ⟨_, rfl, ⟨_, rfl, ⟨rfl, rfl⟩⟩⟩⟩⟩⟩⟩⟩⟩) mixed_orders rfl (by decide +kernel) (fun hck6 => ?_)
    refine VP.step (p := ?pv82) rfl rfl rfl (⟨_, _, rfl, rfl, rfl⟩) ?hv82 ?rest82 hck6
    case hv82 =>
     intro E1
     refine (V1.move rfl rfl rfl lt0 ?_)
     exact rfl
    refine VP.step (p := ?pv83) rfl rfl rfl (⟨_, _, rfl, rfl, rfl⟩) ?hv83 ?rest83 hck6
    case hv83 =>
     intro E1
     refine (V1.move rfl rfl rfl lt0 ?_)
     exact rfl
    refine VP.step (p := ?pv84) rfl rfl rfl (⟨_, _, rfl, rfl, ⟨_, _, rfl, rfl, rfl⟩⟩) ?hv84 ?rest84 hck6
    case hv84 =>
     intro E1
     refine (V1.indexI rfl rfl esz_39 rfl rfl hh0 lt0 ?_)
     exact rfl
    refine VP.step (p := ?pv85) rfl rfl rfl (⟨_, _, rfl, rfl, rfl⟩) ?hv85 ?rest85 hck6
    case hv85 =>
     intro E1
     refine (V1.loadPinAll rfl rfl tyk_67 rfl rfl lt0 ?_)
     exact rfl
    refine VP.step (p := ?pv86) rfl rfl rfl (⟨_, _, rfl, rfl, rfl⟩) ?hv86 ?rest86 hck6
    case hv86 =>
     intro E1
     refine (V1.move rfl rfl rfl lt0 ?_)
     exact rfl
    refine VP.step (p := ?pv87) rfl rfl rfl (⟨_, _, rfl, rfl, rfl⟩) ?hv87 ?rest87 hck6
    case hv87 =>
     intro E1
     refine (V1.move rfl rfl rfl lt0 ?_)
     exact rfl
    refine VP.step (p := ?pv88) rfl rfl rfl (⟨_, _, rfl, rfl, ⟨_, _, rfl, rfl, rfl⟩⟩) ?hv88 ?rest88 hck6
    case hv88 =>
     intro E1
     refine (V1.indexI rfl rfl esz_39 rfl rfl hh1 lt0 ?_)
     exact rfl
    refine VP.step (p := ?pv89) rfl rfl rfl (⟨_, _, rfl, rfl, rfl⟩) ?hv89 ?rest89 hck6
    case hv89 =>
     intro E1
     refine (V1.loadPinAll rfl rfl tyk_67 rfl rfl lt0 ?_)
     exact rfl
    refine VP.fin rfl (⟨_, _, rfl, rfl, ⟨_, _, rfl, rfl, ⟨_, _, rfl, rfl, ⟨_, _, rfl, rfl, ⟨_, _, rfl, rfl, rfl⟩⟩⟩⟩⟩) ?_
    refine VO.cons rfl (V1.call rfl rfl rfl cok_62 rfl (ok_laws_eqCarton hh2) rfl lt0 ?_)
    rintro _ _ ⟨rfl, rfl⟩
    refine VO.cons rfl (V1.not rfl rfl rfl lt0 ?_)
    refine VO.nil ?_
    refine V.cond rfl (fun hc2 => ?_) (fun hc2 => ?_)
    ·
     replace hm1 := cond_t hc2 hm1
     refine V.seq ?_
     refine V.region ?_
     refine VO.cons rfl (V1.assign rfl rfl rfl lt0 ?_)
     refine VO.nil ?_
     refine V.ret ?_
     obtain rfl := hr1 _ (Option.some.inj hm1).symm
     change some _ = some _ at hm0
     obtain rfl := Option.some.inj hm0
     exact ⟨_, [], ⟨_, _, rfl, rfl, rfl⟩, List.nil_sublist _, rfl, rfl⟩
    ·
     replace hm1 := cond_f hc2 hm1
     refine V.skip ?_
     refine V.keep 27 [0, 1, 5] [] (E0 := [(0, .vl ρ0 5 (List.map (encCarton σ0) a)), (1, .vl ρ1 5 (List.map (encCarton σ1) b_)), (5, .int .i64 i)]) (H0 := []) rfl (⟨_, _, rfl, rfl, ⟨_, _, rfl, rfl, ⟨_, _, rfl, rfl, rfl⟩⟩⟩) (rfl) rfl ?_
     refine V.region ?_
     refine VO.cons rfl (V1.move rfl rfl rfl lt0 ?_)
     refine VO.cons rfl (V1.int rfl rfl rfl rfl rfl lt0 ?_)
     refine VO.cons rfl (V1.assign rfl rfl rfl lt0 ?_)
     refine VO.nil ?_
     exact ⟨(m0, (IntKind.i64.wrap (i + (1 : Int))), ()), hl1 _ (Option.some.inj hm1).symm, Nat.lt_succ_self _, Keeps.mk (ks := []) rfl ⟨rfl, rfl, rfl, trivial⟩ (rfl) rfl⟩
   ·
    replace hm1 := cond_f hc1 hm1
    refine V.exit ?_
    obtain rfl := hr1 _ (Option.some.inj hm1).symm
    exact ⟨((), ()), rfl, Keeps.mk (ks := []) rfl trivial (rfl) rfl⟩
  ·
   rintro ⟨_, _⟩ rfl
   try dsimp only at hm0
   refine V.seq ?_
   refine V.region ?_
   refine VO.cons rfl (V1.assign rfl rfl rfl lt0 ?_)
   refine VO.nil ?_
   refine V.ret ?_
   obtain rfl := Option.some.inj hm0
   exact ⟨_, [], ⟨_, _, rfl, rfl, rfl⟩, List.nil_sublist _, rfl, rfl⟩

theorem ok_laws_markIntS {rn : Nat} {oq : Option Nat} {a : List Int} {k : Int} {r : Int × List Int} (h : M.laws_markIntS a k = some r) (hoq : oq = none → a = []) : Does Try.prog 27 [optS 1 oq (List.length a), .int .i64 k] (optH 1 oq (List.map encInt a)) rn (fun x H => x = .int .i64 r.1 ∧ H = optH 1 oq (List.map encInt r.2)) := by
 have hm0 := h; clear h; unfold M.laws_markIntS at hm0
 try dsimp only at hm0
 refine Does.intro (N := 19) Try.func27 rfl rfl rfl rfl ?_
 intro w0 S0
 rcases oq with _ | oq
 ·
  refine V.seq ?_
  refine V.region ?_
  refine VO.cons rfl (V1.assign rfl rfl rfl lt0 ?_)
  refine VO.nil ?_
  refine V.seq ?_
  refine V.seq ?_
  refine V.region ?_
  refine VO.cons rfl (V1.assign rfl rfl rfl lt0 ?_)
  refine VO.nil ?_
  replace hm0 := bindO hm0; rcases hm0 with ⟨e0, he1, hm0⟩
  refine V.cutT (D := (List Int × Int) × (Unit)) (fun ⟨⟨a0, k0⟩, _⟩ => ⟨19, [(0, .vl rn 1 (List.map encInt a0)), (1, .int .i64 k0)], []⟩) (fun ⟨⟨a0, k0⟩, _⟩ => ((a0, k0) = e0)) ?_ ?_
  ·
   refine V.block ?_
   refine V.keep 19 [0, 1, 5] [] (E0 := [(0, .nils), (1, .int .i64 k), (5, .int .i64 (0 : Int))]) (H0 := []) rfl (⟨_, _, rfl, rfl, ⟨_, _, rfl, rfl, ⟨_, _, rfl, rfl, rfl⟩⟩⟩) (rfl) rfl ?_
   refine V.loopE (D := Nat × (List Int × Int × Int) × (Unit)) (fun ⟨n0, ⟨a1, k1, i⟩, _⟩ => [(0, .nils), (1, .int .i64 k1), (5, .int .i64 i)]) (fun ⟨n0, ⟨a1, k1, i⟩, _⟩ => []) (fun ⟨n0, ⟨a1, k1, i⟩, _⟩ => loopO (M.laws_markIntS_l0) n0 (a1, k1, i) = some e0 ∧ a1 = []) (fun ⟨n0, _, _⟩ => n0) (rounds, (a, k, (0 : Int)), ()) rfl ⟨he1, (hoq rfl)⟩ ?_
   rintro ⟨n0, ⟨a1, k1, i⟩, _⟩ ⟨hP0, hn_a1⟩
   obtain ⟨m0, y0, rfl, hm1, hl1, hr1⟩ := loop_head hP0
   unfold M.laws_markIntS_l0 at hm1; dsimp only at hm1
   show V _ _ _ ⟨19, [(0, .nils), (1, .int .i64 k1), (5, .int .i64 i)], []⟩
   refine V.seq ?_
   refine V.seq ?_
   refine V.region ?_
   refine VO.cons rfl (V1.move rfl rfl rfl lt0 ?_)
   refine VO.cons rfl (V1.move rfl rfl rfl lt0 ?_)
   refine VO.cons rfl (V1.lenNilsE (l := a1) hn_a1 rfl rfl rfl rfl rfl rfl isl_36 lt0 ?_)
   refine VO.cons rfl (V1.int rfl rfl rfl rfl rfl lt0 ?_)
   refine VO.nil ?_
   refine V.cond rfl (fun hc0 => ?_) (fun hc0 => ?_)
   ·
    replace hm1 := cond_t hc0 hm1
    refine V.skip ?_
    refine V.keep 19 [0, 1, 5] [] (E0 := [(0, .nils), (1, .int .i64 k1), (5, .int .i64 i)]) (H0 := []) rfl (⟨_, _, rfl, rfl, ⟨_, _, rfl, rfl, ⟨_, _, rfl, rfl, rfl⟩⟩⟩) (rfl) rfl ?_
    refine V.seq ?_
    refine V.block ?_
    refine V.seq ?_
    replace hm1 := asrt_some hm1; rcases hm1 with ⟨hh0, hm1⟩
    refine V.region ?_
    refine VO.cons rfl (V1.move rfl rfl rfl lt0 ?_)
    refine VO.cons rfl (V1.move rfl rfl rfl lt0 ?_)
    refine VO.cons rfl (V1.move rfl rfl rfl lt0 ?_)
    refine VO.weakenK (Keeps.nilsE (l := a1) 12 rn 1 encInt hn_a1 rfl rfl) ?_
    refine VO.cons rfl (V1.indexI rfl rfl esz_36 rfl rfl hh0 lt0 ?_)
    exact (nilsNo hn_a1 hh0).elim
   ·
    replace hm1 := cond_f hc0 hm1
    refine V.exit ?_
    obtain rfl := hr1 _ (Option.some.inj hm1).symm
    exact ⟨((a1, k1), ()), rfl, Keeps.trans (Keeps.nilsE (l := a1) 0 rn 1 encInt hn_a1 rfl rfl) (Keeps.mk (ks := []) rfl ⟨rfl, rfl, trivial⟩ (rfl) rfl)⟩
  ·
   rintro ⟨⟨a0, k0⟩, _⟩ rfl
   try dsimp only at hm0
   refine V.seq ?_
   refine V.region ?_
   refine VO.cons rfl (V1.move rfl rfl rfl lt0 ?_)
   refine VO.cons rfl (V1.assign rfl rfl rfl lt0 ?_)
   refine VO.nil ?_
   refine V.keep 19 [4] [] (E0 := [(4, .int .i64 k0)]) (H0 := []) rfl (⟨_, _, rfl, rfl, rfl⟩) (rfl) rfl ?_
   refine V.ret ?_
   obtain rfl := Option.some.inj hm0
   exact ⟨_, _, ⟨_, _, rfl, rfl, rfl⟩, List.Sublist.refl _, rfl, rfl⟩
 ·
  refine V.seq ?_
  refine V.region ?_
  refine VO.cons rfl (V1.assign rfl rfl rfl lt0 ?_)
  refine VO.nil ?_
  refine V.seq ?_
  refine V.seq ?_
  refine V.region ?_
  refine VO.cons rfl (V1.assign rfl rfl rfl lt0 ?_)
  refine VO.nil ?_
  replace hm0 := bindO hm0; rcases hm0 with ⟨e0, he1, hm0⟩
  refine V.cutT (D := (List Int × Int) × (Unit)) (fun ⟨⟨a0, k0⟩, _⟩ => ⟨19, [(0, .sref oq 1 0 (List.length a0)), (1, .int .i64 k0)], [(oq, ⟨1, List.map encInt a0⟩)]⟩) (fun ⟨⟨a0, k0⟩, _⟩ => ((a0, k0) = e0)) ?_ ?_
  ·
   refine V.block ?_
   refine V.keep 19 [0, 1, 5] [0] (E0 := [(0, .sref oq 1 0 (List.length a)), (1, .int .i64 k), (5, .int .i64 (0 : Int))]) (H0 := [(oq, ⟨1, List.map encInt a⟩)]) rfl (⟨_, _, rfl, rfl, ⟨_, _, rfl, rfl, ⟨_, _, rfl, rfl, rfl⟩⟩⟩) (⟨_, _, rfl, rfl, rfl⟩) rfl ?_
   refine V.loopE (D := Nat × (List Int × Int × Int) × (Unit)) (fun ⟨n0, ⟨a1, k1, i⟩, _⟩ => [(0, .sref oq 1 0 (List.length a1)), (1, .int .i64 k1), (5, .int .i64 i)]) (fun ⟨n0, ⟨a1, k1, i⟩, _⟩ => [(oq, ⟨1, List.map encInt a1⟩)]) (fun ⟨n0, ⟨a1, k1, i⟩, _⟩ => loopO (M.laws_markIntS_l0) n0 (a1, k1, i) = some e0) (fun ⟨n0, _, _⟩ => n0) (rounds, (a, k, (0 : Int)), ()) rfl he1 ?_
   rintro ⟨n0, ⟨a1, k1, i⟩, _⟩ hP0
   obtain ⟨m0, y0, rfl, hm1, hl1, hr1⟩ := loop_head hP0
   unfold M.laws_markIntS_l0 at hm1; dsimp only at hm1
   show V _ _ _ ⟨19, [(0, .sref oq 1 0 (List.length a1)), (1, .int .i64 k1), (5, .int .i64 i)], [(oq, ⟨1, List.map encInt a1⟩)]⟩
   refine V.seq ?_
   refine V.seq ?_
   refine V.region ?_
   refine VO.cons rfl (V1.move rfl rfl rfl lt0 ?_)
   refine VO.cons rfl (V1.move rfl rfl rfl lt0 ?_)
   refine VO.cons rfl (V1.lenSref rfl rfl rfl rfl rfl rfl isl_36 lt0 ?_)
   refine VO.cons rfl (V1.int rfl rfl rfl rfl rfl lt0 ?_)
   refine VO.nil ?_
   refine V.cond rfl (fun hc0 => ?_) (fun hc0 => ?_)
   ·
    replace hm1 := cond_t hc0 hm1
    refine V.skip ?_
    refine V.keep 19 [0, 1, 5] [0] (E0 := [(0, .sref oq 1 0 (List.length a1)), (1, .int .i64 k1), (5, .int .i64 i)]) (H0 := [(oq, ⟨1, List.map encInt a1⟩)]) rfl (⟨_, _, rfl, rfl, ⟨_, _, rfl, rfl, ⟨_, _, rfl, rfl, rfl⟩⟩⟩) (⟨_, _, rfl, rfl, rfl⟩) rfl ?_
    refine V.seq ?_
    refine V.block ?_
    refine V.seq ?_
    replace hm1 := asrt_some hm1; rcases hm1 with ⟨hh0, hm1⟩
    refine V.region ?_
    refine VO.cons rfl (V1.move rfl rfl rfl lt0 ?_)
    refine VO.cons rfl (V1.move rfl rfl rfl lt0 ?_)
    refine VO.cons rfl (V1.move rfl rfl rfl lt0 ?_)
    refine VO.cons rfl (V1.indexSr rfl rfl esz_36 rfl rfl hh0 lt0 ?_)
    refine VO.cons rfl (V1.storeMap (k := 0) (f := encInt) (x := k1) rfl rfl tyk_3 rfl rfl (by simpa using natLt hh0.1 hh0.2) rfl rfl ?_)
    refine VO.weakenK (Keeps.say 0 (y := .sref oq 1 0 (List.length (a1.set (Int.toNat i) k1))) rfl (by simp [optS])) ?_
    refine VO.nil ?_
    refine V.region ?_
    refine VO.cons rfl (V1.move rfl rfl rfl lt0 ?_)
    refine VO.cons rfl (V1.int rfl rfl rfl rfl rfl lt0 ?_)
    refine VO.cons rfl (V1.assign rfl rfl rfl lt0 ?_)
    refine VO.nil ?_
    refine V.keep 19 [0, 1, 5] [0] (E0 := [(0, .sref oq 1 0 (List.length (a1.set (Int.toNat i) k1))), (1, .int .i64 (IntKind.i64.wrap (k1 + (1 : Int)))), (5, .int .i64 i)]) (H0 := [(oq, ⟨1, List.map encInt (a1.set (Int.toNat i) k1)⟩)]) rfl (⟨_, _, rfl, rfl, ⟨_, _, rfl, rfl, ⟨_, _, rfl, rfl, rfl⟩⟩⟩) (⟨_, _, rfl, rfl, rfl⟩) rfl ?_
    refine V.region ?_
    refine VO.cons rfl (V1.move rfl rfl rfl lt0 ?_)
    refine VO.cons rfl (V1.int rfl rfl rfl rfl rfl lt0 ?_)
    refine VO.cons rfl (V1.assign rfl rfl rfl lt0 ?_)
    refine VO.nil ?_
    exact ⟨(m0, ((a1.set (Int.toNat i) k1), (IntKind.i64.wrap (k1 + (1 : Int))), (IntKind.i64.wrap (i + (1 : Int)))), ()), hl1 _ (Option.some.inj hm1).symm, Nat.lt_succ_self _, Keeps.mk (ks := [0]) rfl ⟨(someSref (by simp)), rfl, rfl, trivial⟩ (⟨_, _, rfl, rfl, rfl⟩) rfl⟩
   ·
    replace hm1 := cond_f hc0 hm1
    refine V.exit ?_
    obtain rfl := hr1 _ (Option.some.inj hm1).symm
    exact ⟨((a1, k1), ()), rfl, Keeps.mk (ks := [0]) rfl ⟨(someSref (by simp)), rfl, trivial⟩ (⟨_, _, rfl, rfl, rfl⟩) rfl⟩
  ·
   rintro ⟨⟨a0, k0⟩, _⟩ rfl
   try dsimp only at hm0
   refine V.seq ?_
   refine V.region ?_
   refine VO.cons rfl (V1.move rfl rfl rfl lt0 ?_)
   refine VO.cons rfl (V1.assign rfl rfl rfl lt0 ?_)
   refine VO.nil ?_
   refine V.keep 19 [4] [0] (E0 := [(4, .int .i64 k0)]) (H0 := [(oq, ⟨1, List.map encInt a0⟩)]) rfl (⟨_, _, rfl, rfl, rfl⟩) (⟨_, _, rfl, rfl, rfl⟩) rfl ?_
   refine V.ret ?_
   obtain rfl := Option.some.inj hm0
   exact ⟨_, _, ⟨_, _, rfl, rfl, rfl⟩, List.Sublist.refl _, rfl, rfl⟩

theorem ok_laws_markCartonS {rn : Nat} {oq : Option Nat} {tq : List PV} {oz : List (Nat × Obj')} {a : List Carton} {k : Int} {r : Int × List Carton} (h : M.laws_markCartonS a k = some r) (hoq : oq = none → a = []) (hdq : Deep 1 (fun c_ : Carton => List.map encInt c_.Files) tq oz a) : Does Try.prog 26 [optS 5 oq (List.length a), .int .i64 k] (optH 5 oq (deepC cellCarton tq a) ++ oz) rn (fun x H => ∃ (tr_ : List PV) (or_ : List (Nat × Obj')), Deep 1 (fun c_ : Carton => List.map encInt c_.Files) tr_ or_ r.2 ∧ x = .int .i64 r.1 ∧ H = (optH 5 oq (deepC cellCarton tr_ r.2) ++ or_)) := by
 have hm0 := h; clear h; unfold M.laws_markCartonS at hm0
 try dsimp only at hm0
 refine Does.intro (N := 48) Try.func26 rfl rfl rfl rfl ?_
 intro w0 S0
 rcases oq with _ | oq
 ·
  obtain ⟨rfl, rfl⟩ := Deep.nil (hoq rfl) hdq
  refine V.seq ?_
  refine V.region ?_
  refine VO.cons rfl (V1.assign rfl rfl rfl lt0 ?_)
  refine VO.nil ?_
  refine V.seq ?_
  refine V.seq ?_
  refine V.region ?_
  refine VO.cons rfl (V1.assign rfl rfl rfl lt0 ?_)
  refine VO.nil ?_
  replace hm0 := bindO hm0; rcases hm0 with ⟨e0, he1, hm0⟩
  refine V.cutT (D := (List Carton × Int) × (Unit)) (fun ⟨⟨a0, k0⟩, _⟩ => ⟨48, [(0, .nils), (1, .int .i64 k0)], []⟩) (fun ⟨⟨a0, k0⟩, _⟩ => ((a0, k0) = e0) ∧ a0 = []) ?_ ?_
  ·
   refine V.block ?_
   refine V.keep 48 [0, 1, 5] [] (E0 := [(0, .nils), (1, .int .i64 k), (5, .int .i64 (0 : Int))]) (H0 := []) rfl (⟨_, _, rfl, rfl, ⟨_, _, rfl, rfl, ⟨_, _, rfl, rfl, rfl⟩⟩⟩) (rfl) rfl ?_
   refine V.loopE (D := Nat × (List Carton × Int × Int) × (Unit)) (fun ⟨n0, ⟨a1, k1, i⟩, _⟩ => [(0, .nils), (1, .int .i64 k1), (5, .int .i64 i)]) (fun ⟨n0, ⟨a1, k1, i⟩, _⟩ => []) (fun ⟨n0, ⟨a1, k1, i⟩, _⟩ => loopO (M.laws_markCartonS_l0) n0 (a1, k1, i) = some e0 ∧ a1 = []) (fun ⟨n0, _, _⟩ => n0) (rounds, (a, k, (0 : Int)), ()) rfl ⟨he1, (hoq rfl)⟩ ?_
   rintro ⟨n0, ⟨a1, k1, i⟩, _⟩ ⟨hP0, hn_a1⟩
   obtain ⟨m0, y0, rfl, hm1, hl1, hr1⟩ := loop_head hP0
   unfold M.laws_markCartonS_l0 at hm1; dsimp only at hm1
   show V _ _ _ ⟨48, [(0, .nils), (1, .int .i64 k1), (5, .int .i64 i)], []⟩
   refine V.seq ?_
   refine V.seq ?_
   refine V.region ?_
   refine VO.cons rfl (V1.move rfl rfl rfl lt0 ?_)
   refine VO.cons rfl (V1.move rfl rfl rfl lt0 ?_)
   refine VO.cons rfl (V1.lenNilsE (l := a1) hn_a1 rfl rfl rfl rfl rfl rfl isl_39 lt0 ?_)
   refine VO.cons rfl (V1.int rfl rfl rfl rfl rfl lt0 ?_)
   refine VO.nil ?_
   refine V.cond rfl (fun hc0 => ?_) (fun hc0 => ?_)
   ·
    replace hm1 := cond_t hc0 hm1
    refine V.skip ?_
    refine V.keep 48 [0, 1, 5] [] (E0 := [(0, .nils), (1, .int .i64 k1), (5, .int .i64 i)]) (H0 := []) rfl (⟨_, _, rfl, rfl, ⟨_, _, rfl, rfl, ⟨_, _, rfl, rfl, rfl⟩⟩⟩) (rfl) rfl ?_
    refine V.seq ?_
    refine V.block ?_
    refine V.seq ?_
    replace hm1 := asrt_some hm1; rcases hm1 with ⟨hh0, hm1⟩
    refine V.region ?_
    refine VO.cons rfl (V1.move rfl rfl rfl lt0 ?_)
    refine VO.cons rfl (V1.move rfl rfl rfl lt0 ?_)
    refine VO.cons rfl (V1.move rfl rfl rfl lt0 ?_)
    refine VO.weakenK (Keeps.nilsE (l := a1) 12 rn 5 (encCarton rn) hn_a1 rfl rfl) ?_
    refine VO.cons rfl (V1.indexI rfl rfl esz_39 rfl rfl hh0 lt0 ?_)
    refine VO.cons rfl (V1.fieldPin rfl rfl fo_67_0 rfl lt0 ?_)
    exact (nilsNo hn_a1 hh0).elim
   ·
    replace hm1 := cond_f hc0 hm1
    refine V.exit ?_
    obtain rfl := hr1 _ (Option.some.inj hm1).symm
    exact ⟨((a1, k1), ()), ⟨rfl, hn_a1⟩, Keeps.mk (ks := []) rfl ⟨rfl, rfl, trivial⟩ (rfl) rfl⟩
  ·
   rintro ⟨⟨a0, k0⟩, _⟩ ⟨rfl, hn_a0⟩
   try dsimp only at hm0
   refine V.seq ?_
   refine V.region ?_
   refine VO.cons rfl (V1.move rfl rfl rfl lt0 ?_)
   refine VO.cons rfl (V1.assign rfl rfl rfl lt0 ?_)
   refine VO.nil ?_
   refine V.keep 48 [4] [] (E0 := [(4, .int .i64 k0)]) (H0 := []) rfl (⟨_, _, rfl, rfl, rfl⟩) (rfl) rfl ?_
   refine V.ret ?_
   obtain rfl := Option.some.inj hm0
   exact ⟨_, _, ⟨_, _, rfl, rfl, rfl⟩, List.Sublist.refl _, [], [], (Deep.ofNil hn_a0), rfl, rfl⟩
 ·
  refine V.seq ?_
  refine V.region ?_
  refine VO.cons rfl (V1.assign rfl rfl rfl lt0 ?_)
  refine VO.nil ?_
  refine V.seq ?_
  refine V.seq ?_
  refine V.region ?_
  refine VO.cons rfl (V1.assign rfl rfl rfl lt0 ?_)
  refine VO.nil ?_
  replace hm0 := bindO hm0; rcases hm0 with ⟨e0, he1, hm0⟩
  refine V.cutT (D := (List Carton × Int) × (List PV × (List (Nat × Obj')))) (fun ⟨⟨a0, k0⟩, ⟨ts_76, os_76⟩⟩ => ⟨48, [(0, .sref oq 5 0 (List.length a0)), (1, .int .i64 k0)], ([(oq, ⟨5, deepC cellCarton ts_76 a0⟩)]) ++ os_76⟩) (fun ⟨⟨a0, k0⟩, ⟨ts_76, os_76⟩⟩ => ((a0, k0) = e0) ∧ Deep 1 (fun c_ : Carton => List.map encInt c_.Files) ts_76 os_76 a0) ?_ ?_
  ·
   refine V.block ?_
   refine V.keepT 48 [0, 1, 5] [0] (E0 := [(0, .sref oq 5 0 (List.length a)), (1, .int .i64 k), (5, .int .i64 (0 : Int))]) (A := [(oq, ⟨5, deepC cellCarton tq a⟩)]) (T := oz) (H0 := [(oq, ⟨5, deepC cellCarton tq a⟩)]) (T' := oz) rfl (⟨_, _, rfl, rfl, ⟨_, _, rfl, rfl, ⟨_, _, rfl, rfl, rfl⟩⟩⟩) rfl (⟨_, _, rfl, rfl, rfl⟩) rfl (List.Sublist.refl _) ?_
   refine V.loopT (D := Nat × (List Carton × Int × Int) × (List PV × (List (Nat × Obj')))) (fun ⟨n0, ⟨a1, k1, i⟩, ⟨ts_77, os_77⟩⟩ => [(0, .sref oq 5 0 (List.length a1)), (1, .int .i64 k1), (5, .int .i64 i)]) (fun ⟨n0, ⟨a1, k1, i⟩, ⟨ts_77, os_77⟩⟩ => ([(oq, ⟨5, deepC cellCarton ts_77 a1⟩)]) ++ os_77) (fun ⟨n0, ⟨a1, k1, i⟩, ⟨ts_77, os_77⟩⟩ => loopO (M.laws_markCartonS_l0) n0 (a1, k1, i) = some e0 ∧ Deep 1 (fun c_ : Carton => List.map encInt c_.Files) ts_77 os_77 a1) (fun ⟨n0, _, _⟩ => n0) (rounds, (a, k, (0 : Int)), (tq, oz)) rfl ⟨he1, hdq⟩ ?_
   rintro ⟨n0, ⟨a1, k1, i⟩, ⟨ts_77, os_77⟩⟩ ⟨hP0, hd_77⟩
   obtain ⟨m0, y0, rfl, hm1, hl1, hr1⟩ := loop_head hP0
   unfold M.laws_markCartonS_l0 at hm1; dsimp only at hm1
   show V _ _ _ ⟨48, [(0, .sref oq 5 0 (List.length a1)), (1, .int .i64 k1), (5, .int .i64 i)], (([(oq, ⟨5, deepC cellCarton ts_77 a1⟩)] : List (Nat × Obj')) ++ os_77)⟩
   refine V.seq ?_
   refine V.seq ?_
   refine V.region ?_
   refine VO.cons rfl (V1.move rfl rfl rfl lt0 ?_)
   refine VO.cons rfl (V1.move rfl rfl rfl lt0 ?_)
   refine VO.cons rfl (V1.lenSref rfl rfl rfl rfl rfl rfl isl_39 lt0 ?_)
   refine VO.cons rfl (V1.int rfl rfl rfl rfl rfl lt0 ?_)
   refine VO.nil ?_
   refine V.cond rfl (fun hc0 => ?_) (fun hc0 => ?_)
   ·
    replace hm1 := cond_t hc0 hm1
    refine V.skip ?_
    refine V.keepT 48 [0, 1, 5] [0] (E0 := [(0, .sref oq 5 0 (List.length a1)), (1, .int .i64 k1), (5, .int .i64 i)]) (A := [(oq, ⟨5, deepC cellCarton ts_77 a1⟩)]) (T := os_77) (H0 := [(oq, ⟨5, deepC cellCarton ts_77 a1⟩)]) (T' := os_77) rfl (⟨_, _, rfl, rfl, ⟨_, _, rfl, rfl, ⟨_, _, rfl, rfl, rfl⟩⟩⟩) rfl (⟨_, _, rfl, rfl, rfl⟩) rfl (List.Sublist.refl _) ?_
    refine V.seq ?_
    refine V.block ?_
    refine V.seq ?_
    replace hm1 := asrt_some hm1; rcases hm1 with ⟨hh0, hm1⟩
    refine V.region ?_
    refine VO.cons rfl (V1.move rfl rfl rfl lt0 ?_)
    refine VO.cons rfl (V1.move rfl rfl rfl lt0 ?_)
    refine VO.cons rfl (V1.move rfl rfl rfl lt0 ?_)
    refine VO.cons rfl (V1.indexSr rfl rfl esz_39 rfl rfl hh0 lt0 ?_)
    refine VO.cons rfl (V1.fieldRef rfl rfl fo_67_0 rfl lt0 ?_)
    refine VO.cons rfl (V1.storeDeepCell (inn := (fun c_ : Carton => List.map encInt c_.Files)) (cell := cellCarton) (ts := ts_77) (xs := a1) (k := 0) cokCarton (⟨k1, (a1.getD (Int.toNat i) default).Shelf, (a1.getD (Int.toNat i) default).Room, (a1.getD (Int.toNat i) default).Files, (a1.getD (Int.toNat i) default).Thick⟩ : Carton) rfl rfl tyk_3 rfl rfl hd_77 (by simpa using natLt hh0.1 hh0.2) rfl rfl rfl rfl (fun _ => rfl) ?_)
    have hd_78 := Deep.setSame (i := (Int.toNat i)) (⟨k1, (a1.getD (Int.toNat i) default).Shelf, (a1.getD (Int.toNat i) default).Room, (a1.getD (Int.toNat i) default).Files, (a1.getD (Int.toNat i) default).Thick⟩ : Carton) rfl hd_77
    refine VO.weakenK (Keeps.say 0 (y := .sref oq 5 0 (List.length (a1.set (Int.toNat i) (⟨k1, (a1.getD (Int.toNat i) default).Shelf, (a1.getD (Int.toNat i) default).Room, (a1.getD (Int.toNat i) default).Files, (a1.getD (Int.toNat i) default).Thick⟩ : Carton)))) rfl (by simp)) ?_
    refine VO.nil ?_
    refine V.keepT 48 [0, 1, 5] [0] (E0 := [(0, .sref oq 5 0 (List.length (a1.set (Int.toNat i) (⟨k1, (a1.getD (Int.toNat i) default).Shelf, (a1.getD (Int.toNat i) default).Room, (a1.getD (Int.toNat i) default).Files, (a1.getD (Int.toNat i) default).Thick⟩ : Carton)))), (1, .int .i64 k1), (5, .int .i64 i)]) (A := [(oq, ⟨5, deepC cellCarton ts_77 (a1.set (Int.toNat i) (⟨k1, (a1.getD (Int.toNat i) default).Shelf, (a1.getD (Int.toNat i) default).Room, (a1.getD (Int.toNat i) default).Files, (a1.getD (Int.toNat i) default).Thick⟩ : Carton))⟩)]) (T := os_77) (H0 := [(oq, ⟨5, deepC cellCarton ts_77 (a1.set (Int.toNat i) (⟨k1, (a1.getD (Int.toNat i) default).Shelf, (a1.getD (Int.toNat i) default).Room, (a1.getD (Int.toNat i) default).Files, (a1.getD (Int.toNat i) default).Thick⟩ : Carton))⟩)]) (T' := os_77) rfl (⟨_, _, rfl, rfl, ⟨_, _, rfl, rfl, ⟨_, _, rfl, rfl, rfl⟩⟩⟩) rfl (⟨_, _, rfl, rfl, rfl⟩) rfl (List.Sublist.refl _) ?_
    refine V.seq ?_
    refine V.region ?_
    refine VO.cons rfl (V1.move rfl rfl rfl lt0 ?_)
    refine VO.cons rfl (V1.int rfl rfl rfl rfl rfl lt0 ?_)
    refine VO.cons rfl (V1.assign rfl rfl rfl lt0 ?_)
    refine VO.nil ?_
    refine V.seq ?_
    replace hm1 := asrt_some hm1; rcases hm1 with ⟨hh1, hm1⟩
    refine V.region ?_
    refine VO.cons rfl (V1.move rfl rfl rfl lt0 ?_)
    refine VO.cons rfl (V1.move rfl rfl rfl lt0 ?_)
    refine VO.cons rfl (V1.move rfl rfl rfl lt0 ?_)
    refine VO.cons rfl (V1.indexSr rfl rfl esz_39 rfl rfl hh1 lt0 ?_)
    refine VO.cons rfl (V1.fieldRef rfl rfl fo_67_1 rfl lt0 ?_)
    refine VO.cons rfl (V1.storeDeepCell (inn := (fun c_ : Carton => List.map encInt c_.Files)) (cell := cellCarton) (ts := ts_77) (xs := (a1.set (Int.toNat i) (⟨k1, (a1.getD (Int.toNat i) default).Shelf, (a1.getD (Int.toNat i) default).Room, (a1.getD (Int.toNat i) default).Files, (a1.getD (Int.toNat i) default).Thick⟩ : Carton))) (k := 0) cokCarton (⟨((a1.set (Int.toNat i) (⟨k1, (a1.getD (Int.toNat i) default).Shelf, (a1.getD (Int.toNat i) default).Room, (a1.getD (Int.toNat i) default).Files, (a1.getD (Int.toNat i) default).Thick⟩ : Carton)).getD (Int.toNat i) default).Id, (IntKind.i64.wrap (k1 + (1 : Int))), ((a1.set (Int.toNat i) (⟨k1, (a1.getD (Int.toNat i) default).Shelf, (a1.getD (Int.toNat i) default).Room, (a1.getD (Int.toNat i) default).Files, (a1.getD (Int.toNat i) default).Thick⟩ : Carton)).getD (Int.toNat i) default).Room, ((a1.set (Int.toNat i) (⟨k1, (a1.getD (Int.toNat i) default).Shelf, (a1.getD (Int.toNat i) default).Room, (a1.getD (Int.toNat i) default).Files, (a1.getD (Int.toNat i) default).Thick⟩ : Carton)).getD (Int.toNat i) default).Files, ((a1.set (Int.toNat i) (⟨k1, (a1.getD (Int.toNat i) default).Shelf, (a1.getD (Int.toNat i) default).Room, (a1.getD (Int.toNat i) default).Files, (a1.getD (Int.toNat i) default).Thick⟩ : Carton)).getD (Int.toNat i) default).Thick⟩ : Carton) rfl rfl tyk_3 rfl rfl hd_78 (by simpa using natLt hh1.1 hh1.2) rfl rfl rfl rfl (fun _ => rfl) ?_)
    have hd_79 := Deep.setSame (i := (Int.toNat i)) (⟨((a1.set (Int.toNat i) (⟨k1, (a1.getD (Int.toNat i) default).Shelf, (a1.getD (Int.toNat i) default).Room, (a1.getD (Int.toNat i) default).Files, (a1.getD (Int.toNat i) default).Thick⟩ : Carton)).getD (Int.toNat i) default).Id, (IntKind.i64.wrap (k1 + (1 : Int))), ((a1.set (Int.toNat i) (⟨k1, (a1.getD (Int.toNat i) default).Shelf, (a1.getD (Int.toNat i) default).Room, (a1.getD (Int.toNat i) default).Files, (a1.getD (Int.toNat i) default).Thick⟩ : Carton)).getD (Int.toNat i) default).Room, ((a1.set (Int.toNat i) (⟨k1, (a1.getD (Int.toNat i) default).Shelf, (a1.getD (Int.toNat i) default).Room, (a1.getD (Int.toNat i) default).Files, (a1.getD (Int.toNat i) default).Thick⟩ : Carton)).getD (Int.toNat i) default).Files, ((a1.set (Int.toNat i) (⟨k1, (a1.getD (Int.toNat i) default).Shelf, (a1.getD (Int.toNat i) default).Room, (a1.getD (Int.toNat i) default).Files, (a1.getD (Int.toNat i) default).Thick⟩ : Carton)).getD (Int.toNat i) default).Thick⟩ : Carton) rfl hd_78
    have hu_79 : ((a1.set (Int.toNat i) (⟨k1, (a1.getD (Int.toNat i) default).Shelf, (a1.getD (Int.toNat i) default).Room, (a1.getD (Int.toNat i) default).Files, (a1.getD (Int.toNat i) default).Thick⟩ : Carton)).set (Int.toNat i) (⟨((a1.set (Int.toNat i) (⟨k1, (a1.getD (Int.toNat i) default).Shelf, (a1.getD (Int.toNat i) default).Room, (a1.getD (Int.toNat i) default).Files, (a1.getD (Int.toNat i) default).Thick⟩ : Carton)).getD (Int.toNat i) default).Id, (IntKind.i64.wrap (k1 + (1 : Int))), ((a1.set (Int.toNat i) (⟨k1, (a1.getD (Int.toNat i) default).Shelf, (a1.getD (Int.toNat i) default).Room, (a1.getD (Int.toNat i) default).Files, (a1.getD (Int.toNat i) default).Thick⟩ : Carton)).getD (Int.toNat i) default).Room, ((a1.set (Int.toNat i) (⟨k1, (a1.getD (Int.toNat i) default).Shelf, (a1.getD (Int.toNat i) default).Room, (a1.getD (Int.toNat i) default).Files, (a1.getD (Int.toNat i) default).Thick⟩ : Carton)).getD (Int.toNat i) default).Files, ((a1.set (Int.toNat i) (⟨k1, (a1.getD (Int.toNat i) default).Shelf, (a1.getD (Int.toNat i) default).Room, (a1.getD (Int.toNat i) default).Files, (a1.getD (Int.toNat i) default).Thick⟩ : Carton)).getD (Int.toNat i) default).Thick⟩ : Carton)) = (a1.set (Int.toNat i) (⟨k1, (IntKind.i64.wrap (k1 + (1 : Int))), (a1.getD (Int.toNat i) default).Room, (a1.getD (Int.toNat i) default).Files, (a1.getD (Int.toNat i) default).Thick⟩ : Carton)) := set_upd (fun y_ => (⟨y_.Id, (IntKind.i64.wrap (k1 + (1 : Int))), y_.Room, y_.Files, y_.Thick⟩ : Carton)) (by simpa using natLt hh0.1 hh0.2) rfl
    refine VO.weakenK (Keeps.sayObj 0 (ys := deepC cellCarton ts_77 (a1.set (Int.toNat i) (⟨k1, (IntKind.i64.wrap (k1 + (1 : Int))), (a1.getD (Int.toNat i) default).Room, (a1.getD (Int.toNat i) default).Files, (a1.getD (Int.toNat i) default).Thick⟩ : Carton))) rfl (congrArg (deepC cellCarton ts_77) hu_79)) ?_
    rw [hu_79] at hd_79
    refine VO.weakenK (Keeps.say 0 (y := .sref oq 5 0 (List.length (a1.set (Int.toNat i) (⟨k1, (IntKind.i64.wrap (k1 + (1 : Int))), (a1.getD (Int.toNat i) default).Room, (a1.getD (Int.toNat i) default).Files, (a1.getD (Int.toNat i) default).Thick⟩ : Carton)))) rfl (by simp)) ?_
    refine VO.nil ?_
    refine V.keepT 48 [0, 1, 5] [0] (E0 := [(0, .sref oq 5 0 (List.length (a1.set (Int.toNat i) (⟨k1, (IntKind.i64.wrap (k1 + (1 : Int))), (a1.getD (Int.toNat i) default).Room, (a1.getD (Int.toNat i) default).Files, (a1.getD (Int.toNat i) default).Thick⟩ : Carton)))), (1, .int .i64 (IntKind.i64.wrap (k1 + (1 : Int)))), (5, .int .i64 i)]) (A := [(oq, ⟨5, deepC cellCarton ts_77 (a1.set (Int.toNat i) (⟨k1, (IntKind.i64.wrap (k1 + (1 : Int))), (a1.getD (Int.toNat i) default).Room, (a1.getD (Int.toNat i) default).Files, (a1.getD (Int.toNat i) default).Thick⟩ : Carton))⟩)]) (T := os_77) (H0 := [(oq, ⟨5, deepC cellCarton ts_77 (a1.set (Int.toNat i) (⟨k1, (IntKind.i64.wrap (k1 + (1 : Int))), (a1.getD (Int.toNat i) default).Room, (a1.getD (Int.toNat i) default).Files, (a1.getD (Int.toNat i) default).Thick⟩ : Carton))⟩)]) (T' := os_77) rfl (⟨_, _, rfl, rfl, ⟨_, _, rfl, rfl, ⟨_, _, rfl, rfl, rfl⟩⟩⟩) rfl (⟨_, _, rfl, rfl, rfl⟩) rfl (List.Sublist.refl _) ?_
    refine V.seq ?_
    refine V.region ?_
    refine VO.cons rfl (V1.move rfl rfl rfl lt0 ?_)
    refine VO.cons rfl (V1.int rfl rfl rfl rfl rfl lt0 ?_)
    refine VO.cons rfl (V1.assign rfl rfl rfl lt0 ?_)
    refine VO.nil ?_
    refine V.seq ?_
    replace hm1 := asrt_some hm1; rcases hm1 with ⟨hh2, hm1⟩
    refine V.region ?_
    refine VO.cons rfl (V1.move rfl rfl rfl lt0 ?_)
    refine VO.cons rfl (V1.move rfl rfl rfl lt0 ?_)
    refine VO.cons rfl (V1.move rfl rfl rfl lt0 ?_)
    refine VO.cons rfl (V1.indexSr rfl rfl esz_39 rfl rfl hh2 lt0 ?_)
    refine VO.cons rfl (V1.fieldRef rfl rfl fo_67_2 rfl lt0 ?_)
    refine VO.cons rfl (V1.storeDeepCell (inn := (fun c_ : Carton => List.map encInt c_.Files)) (cell := cellCarton) (ts := ts_77) (xs := (a1.set (Int.toNat i) (⟨k1, (IntKind.i64.wrap (k1 + (1 : Int))), (a1.getD (Int.toNat i) default).Room, (a1.getD (Int.toNat i) default).Files, (a1.getD (Int.toNat i) default).Thick⟩ : Carton))) (k := 0) cokCarton (⟨((a1.set (Int.toNat i) (⟨k1, (IntKind.i64.wrap (k1 + (1 : Int))), (a1.getD (Int.toNat i) default).Room, (a1.getD (Int.toNat i) default).Files, (a1.getD (Int.toNat i) default).Thick⟩ : Carton)).getD (Int.toNat i) default).Id, ((a1.set (Int.toNat i) (⟨k1, (IntKind.i64.wrap (k1 + (1 : Int))), (a1.getD (Int.toNat i) default).Room, (a1.getD (Int.toNat i) default).Files, (a1.getD (Int.toNat i) default).Thick⟩ : Carton)).getD (Int.toNat i) default).Shelf, (IntKind.i64.wrap ((IntKind.i64.wrap (k1 + (1 : Int))) + (1 : Int))), ((a1.set (Int.toNat i) (⟨k1, (IntKind.i64.wrap (k1 + (1 : Int))), (a1.getD (Int.toNat i) default).Room, (a1.getD (Int.toNat i) default).Files, (a1.getD (Int.toNat i) default).Thick⟩ : Carton)).getD (Int.toNat i) default).Files, ((a1.set (Int.toNat i) (⟨k1, (IntKind.i64.wrap (k1 + (1 : Int))), (a1.getD (Int.toNat i) default).Room, (a1.getD (Int.toNat i) default).Files, (a1.getD (Int.toNat i) default).Thick⟩ : Carton)).getD (Int.toNat i) default).Thick⟩ : Carton) rfl rfl tyk_3 rfl rfl hd_79 (by simpa using natLt hh2.1 hh2.2) rfl rfl rfl rfl (fun _ => rfl) ?_)
    have hd_80 := Deep.setSame (i := (Int.toNat i)) (⟨((a1.set (Int.toNat i) (⟨k1, (IntKind.i64.wrap (k1 + (1 : Int))), (a1.getD (Int.toNat i) default).Room, (a1.getD (Int.toNat i) default).Files, (a1.getD (Int.toNat i) default).Thick⟩ : Carton)).getD (Int.toNat i) default).Id, ((a1.set (Int.toNat i) (⟨k1, (IntKind.i64.wrap (k1 + (1 : Int))), (a1.getD (Int.toNat i) default).Room, (a1.getD (Int.toNat i) default).Files, (a1.getD (Int.toNat i) default).Thick⟩ : Carton)).getD (Int.toNat i) default).Shelf, (IntKind.i64.wrap ((IntKind.i64.wrap (k1 + (1 : Int))) + (1 : Int))), ((a1.set (Int.toNat i) (⟨k1, (IntKind.i64.wrap (k1 + (1 : Int))), (a1.getD (Int.toNat i) default).Room, (a1.getD (Int.toNat i) default).Files, (a1.getD (Int.toNat i) default).Thick⟩ : Carton)).getD (Int.toNat i) default).Files, ((a1.set (Int.toNat i) (⟨k1, (IntKind.i64.wrap (k1 + (1 : Int))), (a1.getD (Int.toNat i) default).Room, (a1.getD (Int.toNat i) default).Files, (a1.getD (Int.toNat i) default).Thick⟩ : Carton)).getD (Int.toNat i) default).Thick⟩ : Carton) rfl hd_79
    have hu_80 : ((a1.set (Int.toNat i) (⟨k1, (IntKind.i64.wrap (k1 + (1 : Int))), (a1.getD (Int.toNat i) default).Room, (a1.getD (Int.toNat i) default).Files, (a1.getD (Int.toNat i) default).Thick⟩ : Carton)).set (Int.toNat i) (⟨((a1.set (Int.toNat i) (⟨k1, (IntKind.i64.wrap (k1 + (1 : Int))), (a1.getD (Int.toNat i) default).Room, (a1.getD (Int.toNat i) default).Files, (a1.getD (Int.toNat i) default).Thick⟩ : Carton)).getD (Int.toNat i) default).Id, ((a1.set (Int.toNat i) (⟨k1, (IntKind.i64.wrap (k1 + (1 : Int))), (a1.getD (Int.toNat i) default).Room, (a1.getD (Int.toNat i) default).Files, (a1.getD (Int.toNat i) default).Thick⟩ : Carton)).getD (Int.toNat i) default).Shelf, (IntKind.i64.wrap ((IntKind.i64.wrap (k1 + (1 : Int))) + (1 : Int))), ((a1.set (Int.toNat i) (⟨k1, (IntKind.i64.wrap (k1 + (1 : Int))), (a1.getD (Int.toNat i) default).Room, (a1.getD (Int.toNat i) default).Files, (a1.getD (Int.toNat i) default).Thick⟩ : Carton)).getD (Int.toNat i) default).Files, ((a1.set (Int.toNat i) (⟨k1, (IntKind.i64.wrap (k1 + (1 : Int))), (a1.getD (Int.toNat i) default).Room, (a1.getD (Int.toNat i) default).Files, (a1.getD (Int.toNat i) default).Thick⟩ : Carton)).getD (Int.toNat i) default).Thick⟩ : Carton)) = (a1.set (Int.toNat i) (⟨k1, (IntKind.i64.wrap (k1 + (1 : Int))), (IntKind.i64.wrap ((IntKind.i64.wrap (k1 + (1 : Int))) + (1 : Int))), (a1.getD (Int.toNat i) default).Files, (a1.getD (Int.toNat i) default).Thick⟩ : Carton)) := set_upd (fun y_ => (⟨y_.Id, y_.Shelf, (IntKind.i64.wrap ((IntKind.i64.wrap (k1 + (1 : Int))) + (1 : Int))), y_.Files, y_.Thick⟩ : Carton)) (by simpa using natLt hh0.1 hh0.2) rfl
    refine VO.weakenK (Keeps.sayObj 0 (ys := deepC cellCarton ts_77 (a1.set (Int.toNat i) (⟨k1, (IntKind.i64.wrap (k1 + (1 : Int))), (IntKind.i64.wrap ((IntKind.i64.wrap (k1 + (1 : Int))) + (1 : Int))), (a1.getD (Int.toNat i) default).Files, (a1.getD (Int.toNat i) default).Thick⟩ : Carton))) rfl (congrArg (deepC cellCarton ts_77) hu_80)) ?_
    rw [hu_80] at hd_80
    refine VO.weakenK (Keeps.say 0 (y := .sref oq 5 0 (List.length (a1.set (Int.toNat i) (⟨k1, (IntKind.i64.wrap (k1 + (1 : Int))), (IntKind.i64.wrap ((IntKind.i64.wrap (k1 + (1 : Int))) + (1 : Int))), (a1.getD (Int.toNat i) default).Files, (a1.getD (Int.toNat i) default).Thick⟩ : Carton)))) rfl (by simp)) ?_
    refine VO.nil ?_
    refine V.keepT 48 [0, 1, 5] [0] (E0 := [(0, .sref oq 5 0 (List.length (a1.set (Int.toNat i) (⟨k1, (IntKind.i64.wrap (k1 + (1 : Int))), (IntKind.i64.wrap ((IntKind.i64.wrap (k1 + (1 : Int))) + (1 : Int))), (a1.getD (Int.toNat i) default).Files, (a1.getD (Int.toNat i) default).Thick⟩ : Carton)))), (1, .int .i64 (IntKind.i64.wrap ((IntKind.i64.wrap (k1 + (1 : Int))) + (1 : Int)))), (5, .int .i64 i)]) (A := [(oq, ⟨5, deepC cellCarton ts_77 (a1.set (Int.toNat i) (⟨k1, (IntKind.i64.wrap (k1 + (1 : Int))), (IntKind.i64.wrap ((IntKind.i64.wrap (k1 + (1 : Int))) + (1 : Int))), (a1.getD (Int.toNat i) default).Files, (a1.getD (Int.toNat i) default).Thick⟩ : Carton))⟩)]) (T := os_77) (H0 := [(oq, ⟨5, deepC cellCarton ts_77 (a1.set (Int.toNat i) (⟨k1, (IntKind.i64.wrap (k1 + (1 : Int))), (IntKind.i64.wrap ((IntKind.i64.wrap (k1 + (1 : Int))) + (1 : Int))), (a1.getD (Int.toNat i) default).Files, (a1.getD (Int.toNat i) default).Thick⟩ : Carton))⟩)]) (T' := os_77) rfl (⟨_, _, rfl, rfl, ⟨_, _, rfl, rfl, ⟨_, _, rfl, rfl, rfl⟩⟩⟩) rfl (⟨_, _, rfl, rfl, rfl⟩) rfl (List.Sublist.refl _) ?_
    refine V.seq ?_
    refine V.region ?_
    refine VO.cons rfl (V1.move rfl rfl rfl lt0 ?_)
    refine VO.cons rfl (V1.int rfl rfl rfl rfl rfl lt0 ?_)
    refine VO.cons rfl (V1.assign rfl rfl rfl lt0 ?_)
    refine VO.nil ?_
    refine V.seq ?_
    replace hm1 := asrt_some hm1; rcases hm1 with ⟨hh3, hm1⟩
    replace hm1 := bindO hm1; rcases hm1 with ⟨y1, hh4, hm1⟩
    replace hm1 := asrt_some hm1; rcases hm1 with ⟨hh5, hm1⟩
    refine V.region ?_
    refine VO.cons rfl (V1.move rfl rfl rfl lt0 ?_)
    refine VO.cons rfl (V1.move rfl rfl rfl lt0 ?_)
    refine VO.cons rfl (V1.indexSr rfl rfl esz_39 rfl rfl hh3 lt0 ?_)
    refine VO.cons rfl (V1.fieldRef rfl rfl fo_67_3 rfl lt0 ?_)
    refine VO.cons rfl (V1.loadDeepIn (inn := (fun c_ : Carton => List.map encInt c_.Files)) (cell := cellCarton) (ts := ts_77) (xs := (a1.set (Int.toNat i) (⟨k1, (IntKind.i64.wrap (k1 + (1 : Int))), (IntKind.i64.wrap ((IntKind.i64.wrap (k1 + (1 : Int))) + (1 : Int))), (a1.getD (Int.toNat i) default).Files, (a1.getD (Int.toNat i) default).Thick⟩ : Carton))) (k := 0) cokCarton rfl rfl tyk_36 rfl rfl hd_80 (by simpa using natLt hh3.1 hh3.2) lt0 ?_)
    refine VO.cons rfl (V1.move rfl rfl rfl lt0 ?_)
    obtain ⟨ob_81, os1_81, os2_81, hob_81, ht_81, hos_81, hp_81, hs_81⟩ := Deep.focusM (f := encInt) (g := (fun c_ : Carton => c_.Files)) (Int.toNat i) hd_80 (by simpa using natLt hh3.1 hh3.2)
    refine VO.weakenK (Keeps.say 37 (y := optS 1 ob_81 (List.length (((a1.set (Int.toNat i) (⟨k1, (IntKind.i64.wrap (k1 + (1 : Int))), (IntKind.i64.wrap ((IntKind.i64.wrap (k1 + (1 : Int))) + (1 : Int))), (a1.getD (Int.toNat i) default).Files, (a1.getD (Int.toNat i) default).Thick⟩ : Carton)).getD (Int.toNat i) default).Files))) rfl ht_81) ?_
    refine VO.cons rfl (V1.callD (A := [(oq, ⟨5, deepC cellCarton ts_77 (a1.set (Int.toNat i) (⟨k1, (IntKind.i64.wrap (k1 + (1 : Int))), (IntKind.i64.wrap ((IntKind.i64.wrap (k1 + (1 : Int))) + (1 : Int))), (a1.getD (Int.toNat i) default).Files, (a1.getD (Int.toNat i) default).Thick⟩ : Carton))⟩)]) (os1 := os1_81) (os2 := os2_81) (Hc := optH 1 ob_81 (List.map encInt (((a1.set (Int.toNat i) (⟨k1, (IntKind.i64.wrap (k1 + (1 : Int))), (IntKind.i64.wrap ((IntKind.i64.wrap (k1 + (1 : Int))) + (1 : Int))), (a1.getD (Int.toNat i) default).Files, (a1.getD (Int.toNat i) default).Thick⟩ : Carton)).getD (Int.toNat i) default).Files))) rfl rfl rfl cok_27 rfl (appEq (A := [(oq, ⟨5, deepC cellCarton ts_77 (a1.set (Int.toNat i) (⟨k1, (IntKind.i64.wrap (k1 + (1 : Int))), (IntKind.i64.wrap ((IntKind.i64.wrap (k1 + (1 : Int))) + (1 : Int))), (a1.getD (Int.toNat i) default).Files, (a1.getD (Int.toNat i) default).Thick⟩ : Carton))⟩)]) hos_81) (rn + 1) [] [optS 1 ob_81 (List.length (((a1.set (Int.toNat i) (⟨k1, (IntKind.i64.wrap (k1 + (1 : Int))), (IntKind.i64.wrap ((IntKind.i64.wrap (k1 + (1 : Int))) + (1 : Int))), (a1.getD (Int.toNat i) default).Files, (a1.getD (Int.toNat i) default).Thick⟩ : Carton)).getD (Int.toNat i) default).Files)), .int .i64 (IntKind.i64.wrap ((IntKind.i64.wrap ((IntKind.i64.wrap (k1 + (1 : Int))) + (1 : Int))) + (1 : Int)))] ⟨_, _, rfl, .same _, ⟨_, _, rfl, .same _, rfl⟩⟩ bwNil (ok_laws_markIntS hh4 (oq := ob_81) hob_81) rfl (.inl rfl) lt0 ?_)
    rintro _ _ ⟨rfl, rfl⟩
    have hd_81 := hs_81 (⟨((a1.set (Int.toNat i) (⟨k1, (IntKind.i64.wrap (k1 + (1 : Int))), (IntKind.i64.wrap ((IntKind.i64.wrap (k1 + (1 : Int))) + (1 : Int))), (a1.getD (Int.toNat i) default).Files, (a1.getD (Int.toNat i) default).Thick⟩ : Carton)).getD (Int.toNat i) default).Id, ((a1.set (Int.toNat i) (⟨k1, (IntKind.i64.wrap (k1 + (1 : Int))), (IntKind.i64.wrap ((IntKind.i64.wrap (k1 + (1 : Int))) + (1 : Int))), (a1.getD (Int.toNat i) default).Files, (a1.getD (Int.toNat i) default).Thick⟩ : Carton)).getD (Int.toNat i) default).Shelf, ((a1.set (Int.toNat i) (⟨k1, (IntKind.i64.wrap (k1 + (1 : Int))), (IntKind.i64.wrap ((IntKind.i64.wrap (k1 + (1 : Int))) + (1 : Int))), (a1.getD (Int.toNat i) default).Files, (a1.getD (Int.toNat i) default).Thick⟩ : Carton)).getD (Int.toNat i) default).Room, y1.2, ((a1.set (Int.toNat i) (⟨k1, (IntKind.i64.wrap (k1 + (1 : Int))), (IntKind.i64.wrap ((IntKind.i64.wrap (k1 + (1 : Int))) + (1 : Int))), (a1.getD (Int.toNat i) default).Files, (a1.getD (Int.toNat i) default).Thick⟩ : Carton)).getD (Int.toNat i) default).Thick⟩ : Carton) hh5
    refine VO.weakenK (Keeps.sayObj 0 (ys := deepC cellCarton ts_77 ((a1.set (Int.toNat i) (⟨k1, (IntKind.i64.wrap (k1 + (1 : Int))), (IntKind.i64.wrap ((IntKind.i64.wrap (k1 + (1 : Int))) + (1 : Int))), (a1.getD (Int.toNat i) default).Files, (a1.getD (Int.toNat i) default).Thick⟩ : Carton)).set (Int.toNat i) (⟨((a1.set (Int.toNat i) (⟨k1, (IntKind.i64.wrap (k1 + (1 : Int))), (IntKind.i64.wrap ((IntKind.i64.wrap (k1 + (1 : Int))) + (1 : Int))), (a1.getD (Int.toNat i) default).Files, (a1.getD (Int.toNat i) default).Thick⟩ : Carton)).getD (Int.toNat i) default).Id, ((a1.set (Int.toNat i) (⟨k1, (IntKind.i64.wrap (k1 + (1 : Int))), (IntKind.i64.wrap ((IntKind.i64.wrap (k1 + (1 : Int))) + (1 : Int))), (a1.getD (Int.toNat i) default).Files, (a1.getD (Int.toNat i) default).Thick⟩ : Carton)).getD (Int.toNat i) default).Shelf, ((a1.set (Int.toNat i) (⟨k1, (IntKind.i64.wrap (k1 + (1 : Int))), (IntKind.i64.wrap ((IntKind.i64.wrap (k1 + (1 : Int))) + (1 : Int))), (a1.getD (Int.toNat i) default).Files, (a1.getD (Int.toNat i) default).Thick⟩ : Carton)).getD (Int.toNat i) default).Room, y1.2, ((a1.set (Int.toNat i) (⟨k1, (IntKind.i64.wrap (k1 + (1 : Int))), (IntKind.i64.wrap ((IntKind.i64.wrap (k1 + (1 : Int))) + (1 : Int))), (a1.getD (Int.toNat i) default).Files, (a1.getD (Int.toNat i) default).Thick⟩ : Carton)).getD (Int.toNat i) default).Thick⟩ : Carton))) rfl (deepC_same (Deep.length hd_80) (fun _ => rfl))) ?_
    have hu_81 : ((a1.set (Int.toNat i) (⟨k1, (IntKind.i64.wrap (k1 + (1 : Int))), (IntKind.i64.wrap ((IntKind.i64.wrap (k1 + (1 : Int))) + (1 : Int))), (a1.getD (Int.toNat i) default).Files, (a1.getD (Int.toNat i) default).Thick⟩ : Carton)).set (Int.toNat i) (⟨((a1.set (Int.toNat i) (⟨k1, (IntKind.i64.wrap (k1 + (1 : Int))), (IntKind.i64.wrap ((IntKind.i64.wrap (k1 + (1 : Int))) + (1 : Int))), (a1.getD (Int.toNat i) default).Files, (a1.getD (Int.toNat i) default).Thick⟩ : Carton)).getD (Int.toNat i) default).Id, ((a1.set (Int.toNat i) (⟨k1, (IntKind.i64.wrap (k1 + (1 : Int))), (IntKind.i64.wrap ((IntKind.i64.wrap (k1 + (1 : Int))) + (1 : Int))), (a1.getD (Int.toNat i) default).Files, (a1.getD (Int.toNat i) default).Thick⟩ : Carton)).getD (Int.toNat i) default).Shelf, ((a1.set (Int.toNat i) (⟨k1, (IntKind.i64.wrap (k1 + (1 : Int))), (IntKind.i64.wrap ((IntKind.i64.wrap (k1 + (1 : Int))) + (1 : Int))), (a1.getD (Int.toNat i) default).Files, (a1.getD (Int.toNat i) default).Thick⟩ : Carton)).getD (Int.toNat i) default).Room, y1.2, ((a1.set (Int.toNat i) (⟨k1, (IntKind.i64.wrap (k1 + (1 : Int))), (IntKind.i64.wrap ((IntKind.i64.wrap (k1 + (1 : Int))) + (1 : Int))), (a1.getD (Int.toNat i) default).Files, (a1.getD (Int.toNat i) default).Thick⟩ : Carton)).getD (Int.toNat i) default).Thick⟩ : Carton)) = (a1.set (Int.toNat i) (⟨k1, (IntKind.i64.wrap (k1 + (1 : Int))), (IntKind.i64.wrap ((IntKind.i64.wrap (k1 + (1 : Int))) + (1 : Int))), y1.2, (a1.getD (Int.toNat i) default).Thick⟩ : Carton)) := set_upd (fun y_ => (⟨y_.Id, y_.Shelf, y_.Room, y1.2, y_.Thick⟩ : Carton)) (by simpa using natLt hh0.1 hh0.2) rfl
    refine VO.weakenK (Keeps.sayObj 0 (ys := deepC cellCarton ts_77 (a1.set (Int.toNat i) (⟨k1, (IntKind.i64.wrap (k1 + (1 : Int))), (IntKind.i64.wrap ((IntKind.i64.wrap (k1 + (1 : Int))) + (1 : Int))), y1.2, (a1.getD (Int.toNat i) default).Thick⟩ : Carton))) rfl (congrArg (deepC cellCarton ts_77) hu_81)) ?_
    rw [hu_81] at hd_81
    refine VO.weakenK (Keeps.say 0 (y := .sref oq 5 0 (List.length (a1.set (Int.toNat i) (⟨k1, (IntKind.i64.wrap (k1 + (1 : Int))), (IntKind.i64.wrap ((IntKind.i64.wrap (k1 + (1 : Int))) + (1 : Int))), y1.2, (a1.getD (Int.toNat i) default).Thick⟩ : Carton)))) rfl (by simp)) ?_
    refine VO.cons rfl (V1.assign rfl rfl rfl lt0 ?_)
    refine VO.nil ?_
    refine V.keepT 48 [0, 1, 5] [0] (E0 := [(0, .sref oq 5 0 (List.length (a1.set (Int.toNat i) (⟨k1, (IntKind.i64.wrap (k1 + (1 : Int))), (IntKind.i64.wrap ((IntKind.i64.wrap (k1 + (1 : Int))) + (1 : Int))), y1.2, (a1.getD (Int.toNat i) default).Thick⟩ : Carton)))), (1, .int .i64 y1.1), (5, .int .i64 i)]) (A := [(oq, ⟨5, deepC cellCarton ts_77 (a1.set (Int.toNat i) (⟨k1, (IntKind.i64.wrap (k1 + (1 : Int))), (IntKind.i64.wrap ((IntKind.i64.wrap (k1 + (1 : Int))) + (1 : Int))), y1.2, (a1.getD (Int.toNat i) default).Thick⟩ : Carton))⟩)]) (T := (os1_81 ++ (optH 1 ob_81 (List.map encInt y1.2) ++ os2_81))) (H0 := [(oq, ⟨5, deepC cellCarton ts_77 (a1.set (Int.toNat i) (⟨k1, (IntKind.i64.wrap (k1 + (1 : Int))), (IntKind.i64.wrap ((IntKind.i64.wrap (k1 + (1 : Int))) + (1 : Int))), y1.2, (a1.getD (Int.toNat i) default).Thick⟩ : Carton))⟩)]) (T' := (os1_81 ++ (optH 1 ob_81 (List.map encInt y1.2) ++ os2_81))) rfl (⟨_, _, rfl, rfl, ⟨_, _, rfl, rfl, ⟨_, _, rfl, rfl, rfl⟩⟩⟩) rfl (⟨_, _, rfl, rfl, rfl⟩) rfl (List.Sublist.refl _) ?_
    refine V.seq ?_
    replace hm1 := asrt_some hm1; rcases hm1 with ⟨hh6, hm1⟩
    refine V.region ?_
    refine VO.cons rfl (V1.move rfl rfl rfl lt0 ?_)
    refine VO.cons rfl (V1.move rfl rfl rfl lt0 ?_)
    refine VO.cons rfl (V1.move rfl rfl rfl lt0 ?_)
    refine VO.cons rfl (V1.indexSr rfl rfl esz_39 rfl rfl hh6 lt0 ?_)
    refine VO.cons rfl (V1.fieldRef rfl rfl fo_67_4 rfl lt0 ?_)
    refine VO.cons rfl (V1.storeDeepCell (inn := (fun c_ : Carton => List.map encInt c_.Files)) (cell := cellCarton) (ts := ts_77) (xs := (a1.set (Int.toNat i) (⟨k1, (IntKind.i64.wrap (k1 + (1 : Int))), (IntKind.i64.wrap ((IntKind.i64.wrap (k1 + (1 : Int))) + (1 : Int))), y1.2, (a1.getD (Int.toNat i) default).Thick⟩ : Carton))) (k := 0) cokCarton (⟨((a1.set (Int.toNat i) (⟨k1, (IntKind.i64.wrap (k1 + (1 : Int))), (IntKind.i64.wrap ((IntKind.i64.wrap (k1 + (1 : Int))) + (1 : Int))), y1.2, (a1.getD (Int.toNat i) default).Thick⟩ : Carton)).getD (Int.toNat i) default).Id, ((a1.set (Int.toNat i) (⟨k1, (IntKind.i64.wrap (k1 + (1 : Int))), (IntKind.i64.wrap ((IntKind.i64.wrap (k1 + (1 : Int))) + (1 : Int))), y1.2, (a1.getD (Int.toNat i) default).Thick⟩ : Carton)).getD (Int.toNat i) default).Shelf, ((a1.set (Int.toNat i) (⟨k1, (IntKind.i64.wrap (k1 + (1 : Int))), (IntKind.i64.wrap ((IntKind.i64.wrap (k1 + (1 : Int))) + (1 : Int))), y1.2, (a1.getD (Int.toNat i) default).Thick⟩ : Carton)).getD (Int.toNat i) default).Room, ((a1.set (Int.toNat i) (⟨k1, (IntKind.i64.wrap (k1 + (1 : Int))), (IntKind.i64.wrap ((IntKind.i64.wrap (k1 + (1 : Int))) + (1 : Int))), y1.2, (a1.getD (Int.toNat i) default).Thick⟩ : Carton)).getD (Int.toNat i) default).Files, y1.1⟩ : Carton) rfl rfl tyk_3 rfl rfl hd_81 (by simpa using natLt hh6.1 hh6.2) rfl rfl rfl rfl (fun _ => rfl) ?_)
    have hd_83 := Deep.setSame (i := (Int.toNat i)) (⟨((a1.set (Int.toNat i) (⟨k1, (IntKind.i64.wrap (k1 + (1 : Int))), (IntKind.i64.wrap ((IntKind.i64.wrap (k1 + (1 : Int))) + (1 : Int))), y1.2, (a1.getD (Int.toNat i) default).Thick⟩ : Carton)).getD (Int.toNat i) default).Id, ((a1.set (Int.toNat i) (⟨k1, (IntKind.i64.wrap (k1 + (1 : Int))), (IntKind.i64.wrap ((IntKind.i64.wrap (k1 + (1 : Int))) + (1 : Int))), y1.2, (a1.getD (Int.toNat i) default).Thick⟩ : Carton)).getD (Int.toNat i) default).Shelf, ((a1.set (Int.toNat i) (⟨k1, (IntKind.i64.wrap (k1 + (1 : Int))), (IntKind.i64.wrap ((IntKind.i64.wrap (k1 + (1 : Int))) + (1 : Int))), y1.2, (a1.getD (Int.toNat i) default).Thick⟩ : Carton)).getD (Int.toNat i) default).Room, ((a1.set (Int.toNat i) (⟨k1, (IntKind.i64.wrap (k1 + (1 : Int))), (IntKind.i64.wrap ((IntKind.i64.wrap (k1 + (1 : Int))) + (1 : Int))), y1.2, (a1.getD (Int.toNat i) default).Thick⟩ : Carton)).getD (Int.toNat i) default).Files, y1.1⟩ : Carton) rfl hd_81
    have hu_83 : ((a1.set (Int.toNat i) (⟨k1, (IntKind.i64.wrap (k1 + (1 : Int))), (IntKind.i64.wrap ((IntKind.i64.wrap (k1 + (1 : Int))) + (1 : Int))), y1.2, (a1.getD (Int.toNat i) default).Thick⟩ : Carton)).set (Int.toNat i) (⟨((a1.set (Int.toNat i) (⟨k1, (IntKind.i64.wrap (k1 + (1 : Int))), (IntKind.i64.wrap ((IntKind.i64.wrap (k1 + (1 : Int))) + (1 : Int))), y1.2, (a1.getD (Int.toNat i) default).Thick⟩ : Carton)).getD (Int.toNat i) default).Id, ((a1.set (Int.toNat i) (⟨k1, (IntKind.i64.wrap (k1 + (1 : Int))), (IntKind.i64.wrap ((IntKind.i64.wrap (k1 + (1 : Int))) + (1 : Int))), y1.2, (a1.getD (Int.toNat i) default).Thick⟩ : Carton)).getD (Int.toNat i) default).Shelf, ((a1.set (Int.toNat i) (⟨k1, (IntKind.i64.wrap (k1 + (1 : Int))), (IntKind.i64.wrap ((IntKind.i64.wrap (k1 + (1 : Int))) + (1 : Int))), y1.2, (a1.getD (Int.toNat i) default).Thick⟩ : Carton)).getD (Int.toNat i) default).Room, ((a1.set (Int.toNat i) (⟨k1, (IntKind.i64.wrap (k1 + (1 : Int))), (IntKind.i64.wrap ((IntKind.i64.wrap (k1 + (1 : Int))) + (1 : Int))), y1.2, (a1.getD (Int.toNat i) default).Thick⟩ : Carton)).getD (Int.toNat i) default).Files, y1.1⟩ : Carton)) = (a1.set (Int.toNat i) (⟨k1, (IntKind.i64.wrap (k1 + (1 : Int))), (IntKind.i64.wrap ((IntKind.i64.wrap (k1 + (1 : Int))) + (1 : Int))), y1.2, y1.1⟩ : Carton)) := set_upd (fun y_ => (⟨y_.Id, y_.Shelf, y_.Room, y_.Files, y1.1⟩ : Carton)) (by simpa using natLt hh0.1 hh0.2) rfl
    refine VO.weakenK (Keeps.sayObj 0 (ys := deepC cellCarton ts_77 (a1.set (Int.toNat i) (⟨k1, (IntKind.i64.wrap (k1 + (1 : Int))), (IntKind.i64.wrap ((IntKind.i64.wrap (k1 + (1 : Int))) + (1 : Int))), y1.2, y1.1⟩ : Carton))) rfl (congrArg (deepC cellCarton ts_77) hu_83)) ?_
    rw [hu_83] at hd_83
    refine VO.weakenK (Keeps.say 0 (y := .sref oq 5 0 (List.length (a1.set (Int.toNat i) (⟨k1, (IntKind.i64.wrap (k1 + (1 : Int))), (IntKind.i64.wrap ((IntKind.i64.wrap (k1 + (1 : Int))) + (1 : Int))), y1.2, y1.1⟩ : Carton)))) rfl (by simp)) ?_
    refine VO.nil ?_
    refine V.keepT 48 [0, 1, 5] [0] (E0 := [(0, .sref oq 5 0 (List.length (a1.set (Int.toNat i) (⟨k1, (IntKind.i64.wrap (k1 + (1 : Int))), (IntKind.i64.wrap ((IntKind.i64.wrap (k1 + (1 : Int))) + (1 : Int))), y1.2, y1.1⟩ : Carton)))), (1, .int .i64 y1.1), (5, .int .i64 i)]) (A := [(oq, ⟨5, deepC cellCarton ts_77 (a1.set (Int.toNat i) (⟨k1, (IntKind.i64.wrap (k1 + (1 : Int))), (IntKind.i64.wrap ((IntKind.i64.wrap (k1 + (1 : Int))) + (1 : Int))), y1.2, y1.1⟩ : Carton))⟩)]) (T := (os1_81 ++ (optH 1 ob_81 (List.map encInt y1.2) ++ os2_81))) (H0 := [(oq, ⟨5, deepC cellCarton ts_77 (a1.set (Int.toNat i) (⟨k1, (IntKind.i64.wrap (k1 + (1 : Int))), (IntKind.i64.wrap ((IntKind.i64.wrap (k1 + (1 : Int))) + (1 : Int))), y1.2, y1.1⟩ : Carton))⟩)]) (T' := (os1_81 ++ (optH 1 ob_81 (List.map encInt y1.2) ++ os2_81))) rfl (⟨_, _, rfl, rfl, ⟨_, _, rfl, rfl, ⟨_, _, rfl, rfl, rfl⟩⟩⟩) rfl (⟨_, _, rfl, rfl, rfl⟩) rfl (List.Sublist.refl _) ?_
    refine V.region ?_
    refine VO.cons rfl (V1.move rfl rfl rfl lt0 ?_)
    refine VO.cons rfl (V1.int rfl rfl rfl rfl rfl lt0 ?_)
    refine VO.cons rfl (V1.assign rfl rfl rfl lt0 ?_)
    refine VO.nil ?_
    refine V.region ?_
    refine VO.cons rfl (V1.move rfl rfl rfl lt0 ?_)
    refine VO.cons rfl (V1.int rfl rfl rfl rfl rfl lt0 ?_)
    refine VO.cons rfl (V1.assign rfl rfl rfl lt0 ?_)
    refine VO.nil ?_
    exact ⟨(m0, ((a1.set (Int.toNat i) (⟨k1, (IntKind.i64.wrap (k1 + (1 : Int))), (IntKind.i64.wrap ((IntKind.i64.wrap (k1 + (1 : Int))) + (1 : Int))), y1.2, y1.1⟩ : Carton)), (IntKind.i64.wrap (y1.1 + (1 : Int))), (IntKind.i64.wrap (i + (1 : Int)))), (ts_77, (os1_81 ++ (optH 1 ob_81 (List.map encInt y1.2) ++ os2_81)))), ⟨hl1 _ (Option.some.inj hm1).symm, hd_83⟩, Nat.lt_succ_self _, Keeps.mkT (A := [(oq, ⟨5, deepC cellCarton ts_77 (a1.set (Int.toNat i) (⟨k1, (IntKind.i64.wrap (k1 + (1 : Int))), (IntKind.i64.wrap ((IntKind.i64.wrap (k1 + (1 : Int))) + (1 : Int))), y1.2, y1.1⟩ : Carton))⟩)]) (T := (os1_81 ++ (optH 1 ob_81 (List.map encInt y1.2) ++ os2_81))) (T' := (os1_81 ++ (optH 1 ob_81 (List.map encInt y1.2) ++ os2_81))) (H := [(oq, ⟨5, deepC cellCarton ts_77 (a1.set (Int.toNat i) (⟨k1, (IntKind.i64.wrap (k1 + (1 : Int))), (IntKind.i64.wrap ((IntKind.i64.wrap (k1 + (1 : Int))) + (1 : Int))), y1.2, y1.1⟩ : Carton))⟩)]) (ks := [0]) rfl (by exact ⟨(someSref (by simp)), rfl, rfl, trivial⟩) rfl (by exact (⟨_, _, rfl, rfl, rfl⟩)) rfl (List.Sublist.refl _)⟩
   ·
    replace hm1 := cond_f hc0 hm1
    refine V.exit ?_
    obtain rfl := hr1 _ (Option.some.inj hm1).symm
    exact ⟨((a1, k1), (ts_77, os_77)), ⟨rfl, hd_77⟩, Keeps.mkT (A := [(oq, ⟨5, deepC cellCarton ts_77 a1⟩)]) (T := os_77) (T' := os_77) (H := [(oq, ⟨5, deepC cellCarton ts_77 a1⟩)]) (ks := [0]) rfl (by exact ⟨(someSref (by simp)), rfl, trivial⟩) rfl (by exact (⟨_, _, rfl, rfl, rfl⟩)) rfl (List.Sublist.refl _)⟩
  ·
   rintro ⟨⟨a0, k0⟩, ⟨ts_76, os_76⟩⟩ ⟨rfl, hd_76⟩
   try dsimp only at hm0
   refine V.seq ?_
   refine V.region ?_
   refine VO.cons rfl (V1.move rfl rfl rfl lt0 ?_)
   refine VO.cons rfl (V1.assign rfl rfl rfl lt0 ?_)
   refine VO.nil ?_
   refine V.keepT 48 [4] [0] (E0 := [(4, .int .i64 k0)]) (A := [(oq, ⟨5, deepC cellCarton ts_76 a0⟩)]) (T := os_76) (H0 := [(oq, ⟨5, deepC cellCarton ts_76 a0⟩)]) (T' := os_76) rfl (⟨_, _, rfl, rfl, rfl⟩) rfl (⟨_, _, rfl, rfl, rfl⟩) rfl (List.Sublist.refl _) ?_
   refine V.ret ?_
   obtain rfl := Option.some.inj hm0
   exact ⟨_, _, ⟨_, _, rfl, rfl, rfl⟩, List.Sublist.refl _, ts_76, os_76, hd_76, rfl, rfl⟩

theorem ok_laws_markIntSS {rn : Nat} {oq : Option Nat} {tq : List PV} {oz : List (Nat × Obj')} {a : List (List Int)} {k : Int} {r : Int × List (List Int)} (h : M.laws_markIntSS a k = some r) (hoq : oq = none → a = []) (hdq : Deep 1 (fun c_ : List Int => List.map encInt c_) tq oz a) : Does Try.prog 18 [optS 1 oq (List.length a), .int .i64 k] (optH 1 oq (deepC (cellRow (β := Int)) tq a) ++ oz) rn (fun x H => ∃ (tr_ : List PV) (or_ : List (Nat × Obj')), Deep 1 (fun c_ : List Int => List.map encInt c_) tr_ or_ r.2 ∧ x = .int .i64 r.1 ∧ H = (optH 1 oq (deepC (cellRow (β := Int)) tr_ r.2) ++ or_)) := by
 have hm0 := h; clear h; unfold M.laws_markIntSS at hm0
 try dsimp only at hm0
 refine Does.intro (N := 19) Try.func18 rfl rfl rfl rfl ?_
 intro w0 S0
 rcases oq with _ | oq
 ·
  obtain ⟨rfl, rfl⟩ := Deep.nil (hoq rfl) hdq
  refine V.seq ?_
  refine V.region ?_
  refine VO.cons rfl (V1.assign rfl rfl rfl lt0 ?_)
  refine VO.nil ?_
  refine V.seq ?_
  refine V.seq ?_
  refine V.region ?_
  refine VO.cons rfl (V1.assign rfl rfl rfl lt0 ?_)
  refine VO.nil ?_
  replace hm0 := bindO hm0; rcases hm0 with ⟨e0, he1, hm0⟩
  refine V.cutT (D := (List (List Int) × Int) × (Unit)) (fun ⟨⟨a0, k0⟩, _⟩ => ⟨19, [(0, .nils), (1, .int .i64 k0)], []⟩) (fun ⟨⟨a0, k0⟩, _⟩ => ((a0, k0) = e0) ∧ a0 = []) ?_ ?_
  ·
   refine V.block ?_
   refine V.keep 19 [0, 1, 5] [] (E0 := [(0, .nils), (1, .int .i64 k), (5, .int .i64 (0 : Int))]) (H0 := []) rfl (⟨_, _, rfl, rfl, ⟨_, _, rfl, rfl, ⟨_, _, rfl, rfl, rfl⟩⟩⟩) (rfl) rfl ?_
   refine V.loopE (D := Nat × (List (List Int) × Int × Int) × (Unit)) (fun ⟨n0, ⟨a1, k1, i⟩, _⟩ => [(0, .nils), (1, .int .i64 k1), (5, .int .i64 i)]) (fun ⟨n0, ⟨a1, k1, i⟩, _⟩ => []) (fun ⟨n0, ⟨a1, k1, i⟩, _⟩ => loopO (M.laws_markIntSS_l0) n0 (a1, k1, i) = some e0 ∧ a1 = []) (fun ⟨n0, _, _⟩ => n0) (rounds, (a, k, (0 : Int)), ()) rfl ⟨he1, (hoq rfl)⟩ ?_
   rintro ⟨n0, ⟨a1, k1, i⟩, _⟩ ⟨hP0, hn_a1⟩
   obtain ⟨m0, y0, rfl, hm1, hl1, hr1⟩ := loop_head hP0
   unfold M.laws_markIntSS_l0 at hm1; dsimp only at hm1
   show V _ _ _ ⟨19, [(0, .nils), (1, .int .i64 k1), (5, .int .i64 i)], []⟩
   refine V.seq ?_
   refine V.seq ?_
   refine V.region ?_
   refine VO.cons rfl (V1.move rfl rfl rfl lt0 ?_)
   refine VO.cons rfl (V1.move rfl rfl rfl lt0 ?_)
   refine VO.cons rfl (V1.lenNilsE (l := a1) hn_a1 rfl rfl rfl rfl rfl rfl isl_24 lt0 ?_)
   refine VO.cons rfl (V1.int rfl rfl rfl rfl rfl lt0 ?_)
   refine VO.nil ?_
   refine V.cond rfl (fun hc0 => ?_) (fun hc0 => ?_)
   ·
    replace hm1 := cond_t hc0 hm1
    refine V.skip ?_
    refine V.keep 19 [0, 1, 5] [] (E0 := [(0, .nils), (1, .int .i64 k1), (5, .int .i64 i)]) (H0 := []) rfl (⟨_, _, rfl, rfl, ⟨_, _, rfl, rfl, ⟨_, _, rfl, rfl, rfl⟩⟩⟩) (rfl) rfl ?_
    refine V.seq ?_
    refine V.block ?_
    replace hm1 := asrt_some hm1; rcases hm1 with ⟨hh0, hm1⟩
    refine V.region ?_
    refine VO.cons rfl (V1.move rfl rfl rfl lt0 ?_)
    refine VO.cons rfl (V1.move rfl rfl rfl lt0 ?_)
    refine VO.weakenK (Keeps.nilsE (l := a1) 12 rn 1 (encL rn 1 encInt) hn_a1 rfl rfl) ?_
    refine VO.cons rfl (V1.indexI rfl rfl esz_24 rfl rfl hh0 lt0 ?_)
    exact (nilsNo hn_a1 hh0).elim
   ·
    replace hm1 := cond_f hc0 hm1
    refine V.exit ?_
    obtain rfl := hr1 _ (Option.some.inj hm1).symm
    exact ⟨((a1, k1), ()), ⟨rfl, hn_a1⟩, Keeps.mk (ks := []) rfl ⟨rfl, rfl, trivial⟩ (rfl) rfl⟩
  ·
   rintro ⟨⟨a0, k0⟩, _⟩ ⟨rfl, hn_a0⟩
   try dsimp only at hm0
   refine V.seq ?_
   refine V.region ?_
   refine VO.cons rfl (V1.move rfl rfl rfl lt0 ?_)
   refine VO.cons rfl (V1.assign rfl rfl rfl lt0 ?_)
   refine VO.nil ?_
   refine V.keep 19 [4] [] (E0 := [(4, .int .i64 k0)]) (H0 := []) rfl (⟨_, _, rfl, rfl, rfl⟩) (rfl) rfl ?_
   refine V.ret ?_
   obtain rfl := Option.some.inj hm0
   exact ⟨_, _, ⟨_, _, rfl, rfl, rfl⟩, List.Sublist.refl _, [], [], (Deep.ofNil hn_a0), rfl, rfl⟩
 ·
  refine V.seq ?_
  refine V.region ?_
  refine VO.cons rfl (V1.assign rfl rfl rfl lt0 ?_)
  refine VO.nil ?_
  refine V.seq ?_
  refine V.seq ?_
  refine V.region ?_
  refine VO.cons rfl (V1.assign rfl rfl rfl lt0 ?_)
  refine VO.nil ?_
  replace hm0 := bindO hm0; rcases hm0 with ⟨e0, he1, hm0⟩
  refine V.cutT (D := (List (List Int) × Int) × (List PV × (List (Nat × Obj')))) (fun ⟨⟨a0, k0⟩, ⟨ts_32, os_32⟩⟩ => ⟨19, [(0, .sref oq 1 0 (List.length a0)), (1, .int .i64 k0)], ([(oq, ⟨1, deepC (cellRow (β := Int)) ts_32 a0⟩)]) ++ os_32⟩) (fun ⟨⟨a0, k0⟩, ⟨ts_32, os_32⟩⟩ => ((a0, k0) = e0) ∧ Deep 1 (fun c_ : List Int => List.map encInt c_) ts_32 os_32 a0) ?_ ?_
  ·
   refine V.block ?_
   refine V.keepT 19 [0, 1, 5] [0] (E0 := [(0, .sref oq 1 0 (List.length a)), (1, .int .i64 k), (5, .int .i64 (0 : Int))]) (A := [(oq, ⟨1, deepC (cellRow (β := Int)) tq a⟩)]) (T := oz) (H0 := [(oq, ⟨1, deepC (cellRow (β := Int)) tq a⟩)]) (T' := oz) rfl (⟨_, _, rfl, rfl, ⟨_, _, rfl, rfl, ⟨_, _, rfl, rfl, rfl⟩⟩⟩) rfl (⟨_, _, rfl, rfl, rfl⟩) rfl (List.Sublist.refl _) ?_
   refine V.loopT (D := Nat × (List (List Int) × Int × Int) × (List PV × (List (Nat × Obj')))) (fun ⟨n0, ⟨a1, k1, i⟩, ⟨ts_33, os_33⟩⟩ => [(0, .sref oq 1 0 (List.length a1)), (1, .int .i64 k1), (5, .int .i64 i)]) (fun ⟨n0, ⟨a1, k1, i⟩, ⟨ts_33, os_33⟩⟩ => ([(oq, ⟨1, deepC (cellRow (β := Int)) ts_33 a1⟩)]) ++ os_33) (fun ⟨n0, ⟨a1, k1, i⟩, ⟨ts_33, os_33⟩⟩ => loopO (M.laws_markIntSS_l0) n0 (a1, k1, i) = some e0 ∧ Deep 1 (fun c_ : List Int => List.map encInt c_) ts_33 os_33 a1) (fun ⟨n0, _, _⟩ => n0) (rounds, (a, k, (0 : Int)), (tq, oz)) rfl ⟨he1, hdq⟩ ?_
   rintro ⟨n0, ⟨a1, k1, i⟩, ⟨ts_33, os_33⟩⟩ ⟨hP0, hd_33⟩
   obtain ⟨m0, y0, rfl, hm1, hl1, hr1⟩ := loop_head hP0
   unfold M.laws_markIntSS_l0 at hm1; dsimp only at hm1
   show V _ _ _ ⟨19, [(0, .sref oq 1 0 (List.length a1)), (1, .int .i64 k1), (5, .int .i64 i)], (([(oq, ⟨1, deepC (cellRow (β := Int)) ts_33 a1⟩)] : List (Nat × Obj')) ++ os_33)⟩
   refine V.seq ?_
   refine V.seq ?_
   refine V.region ?_
   refine VO.cons rfl (V1.move rfl rfl rfl lt0 ?_)
   refine VO.cons rfl (V1.move rfl rfl rfl lt0 ?_)
   refine VO.cons rfl (V1.lenSref rfl rfl rfl rfl rfl rfl isl_24 lt0 ?_)
   refine VO.cons rfl (V1.int rfl rfl rfl rfl rfl lt0 ?_)
   refine VO.nil ?_
   refine V.cond rfl (fun hc0 => ?_) (fun hc0 => ?_)
   ·
    replace hm1 := cond_t hc0 hm1
    refine V.skip ?_
    refine V.keepT 19 [0, 1, 5] [0] (E0 := [(0, .sref oq 1 0 (List.length a1)), (1, .int .i64 k1), (5, .int .i64 i)]) (A := [(oq, ⟨1, deepC (cellRow (β := Int)) ts_33 a1⟩)]) (T := os_33) (H0 := [(oq, ⟨1, deepC (cellRow (β := Int)) ts_33 a1⟩)]) (T' := os_33) rfl (⟨_, _, rfl, rfl, ⟨_, _, rfl, rfl, ⟨_, _, rfl, rfl, rfl⟩⟩⟩) rfl (⟨_, _, rfl, rfl, rfl⟩) rfl (List.Sublist.refl _) ?_
    refine V.seq ?_
    refine V.block ?_
    replace hm1 := asrt_some hm1; rcases hm1 with ⟨hh0, hm1⟩
    replace hm1 := bindO hm1; rcases hm1 with ⟨y1, hh1, hm1⟩
    replace hm1 := asrt_some hm1; rcases hm1 with ⟨hh2, hm1⟩
    refine V.region ?_
    refine VO.cons rfl (V1.move rfl rfl rfl lt0 ?_)
    refine VO.cons rfl (V1.move rfl rfl rfl lt0 ?_)
    refine VO.cons rfl (V1.indexSr rfl rfl esz_24 rfl rfl hh0 lt0 ?_)
    refine VO.cons rfl (V1.loadDeepIn (inn := (fun c_ : List Int => List.map encInt c_)) (cell := (cellRow (β := Int))) (ts := ts_33) (xs := a1) (k := 0) (cokRow 1 encInt) rfl rfl tyk_36 rfl rfl hd_33 (by simpa using natLt hh0.1 hh0.2) lt0 ?_)
    refine VO.cons rfl (V1.move rfl rfl rfl lt0 ?_)
    obtain ⟨ob_34, os1_34, os2_34, hob_34, ht_34, hos_34, hp_34, hs_34⟩ := Deep.focusM (f := encInt) (g := (fun c_ : List Int => c_)) (Int.toNat i) hd_33 (by simpa using natLt hh0.1 hh0.2)
    refine VO.weakenK (Keeps.say 15 (y := optS 1 ob_34 (List.length (a1.getD (Int.toNat i) default))) rfl ht_34) ?_
    refine VO.cons rfl (V1.callD (A := [(oq, ⟨1, deepC (cellRow (β := Int)) ts_33 a1⟩)]) (os1 := os1_34) (os2 := os2_34) (Hc := optH 1 ob_34 (List.map encInt (a1.getD (Int.toNat i) default))) rfl rfl rfl cok_27 rfl (appEq (A := [(oq, ⟨1, deepC (cellRow (β := Int)) ts_33 a1⟩)]) hos_34) (rn + 1) [] [optS 1 ob_34 (List.length (a1.getD (Int.toNat i) default)), .int .i64 k1] ⟨_, _, rfl, .same _, ⟨_, _, rfl, .same _, rfl⟩⟩ bwNil (ok_laws_markIntS hh1 (oq := ob_34) hob_34) rfl (.inl rfl) lt0 ?_)
    rintro _ _ ⟨rfl, rfl⟩
    have hd_34 := hs_34 y1.2 hh2
    refine VO.weakenK (Keeps.sayObj 0 (ys := deepC (cellRow (β := Int)) ts_33 (a1.set (Int.toNat i) y1.2)) rfl (deepC_same (Deep.length hd_33) (fun _ => rfl))) ?_
    refine VO.weakenK (Keeps.say 0 (y := .sref oq 1 0 (List.length (a1.set (Int.toNat i) y1.2))) rfl (by simp)) ?_
    refine VO.cons rfl (V1.assign rfl rfl rfl lt0 ?_)
    refine VO.nil ?_
    refine V.keepT 19 [0, 1, 5] [0] (E0 := [(0, .sref oq 1 0 (List.length (a1.set (Int.toNat i) y1.2))), (1, .int .i64 y1.1), (5, .int .i64 i)]) (A := [(oq, ⟨1, deepC (cellRow (β := Int)) ts_33 (a1.set (Int.toNat i) y1.2)⟩)]) (T := (os1_34 ++ (optH 1 ob_34 (List.map encInt y1.2) ++ os2_34))) (H0 := [(oq, ⟨1, deepC (cellRow (β := Int)) ts_33 (a1.set (Int.toNat i) y1.2)⟩)]) (T' := (os1_34 ++ (optH 1 ob_34 (List.map encInt y1.2) ++ os2_34))) rfl (⟨_, _, rfl, rfl, ⟨_, _, rfl, rfl, ⟨_, _, rfl, rfl, rfl⟩⟩⟩) rfl (⟨_, _, rfl, rfl, rfl⟩) rfl (List.Sublist.refl _) ?_
    refine V.region ?_
    refine VO.cons rfl (V1.move rfl rfl rfl lt0 ?_)
    refine VO.cons rfl (V1.int rfl rfl rfl rfl rfl lt0 ?_)
    refine VO.cons rfl (V1.assign rfl rfl rfl lt0 ?_)
    refine VO.nil ?_
    exact ⟨(m0, ((a1.set (Int.toNat i) y1.2), y1.1, (IntKind.i64.wrap (i + (1 : Int)))), (ts_33, (os1_34 ++ (optH 1 ob_34 (List.map encInt y1.2) ++ os2_34)))), ⟨hl1 _ (Option.some.inj hm1).symm, hd_34⟩, Nat.lt_succ_self _, Keeps.mkT (A := [(oq, ⟨1, deepC (cellRow (β := Int)) ts_33 (a1.set (Int.toNat i) y1.2)⟩)]) (T := (os1_34 ++ (optH 1 ob_34 (List.map encInt y1.2) ++ os2_34))) (T' := (os1_34 ++ (optH 1 ob_34 (List.map encInt y1.2) ++ os2_34))) (H := [(oq, ⟨1, deepC (cellRow (β := Int)) ts_33 (a1.set (Int.toNat i) y1.2)⟩)]) (ks := [0]) rfl (by exact ⟨(someSref (by simp)), rfl, rfl, trivial⟩) rfl (by exact (⟨_, _, rfl, rfl, rfl⟩)) rfl (List.Sublist.refl _)⟩
   ·
    replace hm1 := cond_f hc0 hm1
    refine V.exit ?_
    obtain rfl := hr1 _ (Option.some.inj hm1).symm
    exact ⟨((a1, k1), (ts_33, os_33)), ⟨rfl, hd_33⟩, Keeps.mkT (A := [(oq, ⟨1, deepC (cellRow (β := Int)) ts_33 a1⟩)]) (T := os_33) (T' := os_33) (H := [(oq, ⟨1, deepC (cellRow (β := Int)) ts_33 a1⟩)]) (ks := [0]) rfl (by exact ⟨(someSref (by simp)), rfl, trivial⟩) rfl (by exact (⟨_, _, rfl, rfl, rfl⟩)) rfl (List.Sublist.refl _)⟩
  ·
   rintro ⟨⟨a0, k0⟩, ⟨ts_32, os_32⟩⟩ ⟨rfl, hd_32⟩
   try dsimp only at hm0
   refine V.seq ?_
   refine V.region ?_
   refine VO.cons rfl (V1.move rfl rfl rfl lt0 ?_)
   refine VO.cons rfl (V1.assign rfl rfl rfl lt0 ?_)
   refine VO.nil ?_
   refine V.keepT 19 [4] [0] (E0 := [(4, .int .i64 k0)]) (A := [(oq, ⟨1, deepC (cellRow (β := Int)) ts_32 a0⟩)]) (T := os_32) (H0 := [(oq, ⟨1, deepC (cellRow (β := Int)) ts_32 a0⟩)]) (T' := os_32) rfl (⟨_, _, rfl, rfl, rfl⟩) rfl (⟨_, _, rfl, rfl, rfl⟩) rfl (List.Sublist.refl _) ?_
   refine V.ret ?_
   obtain rfl := Option.some.inj hm0
   exact ⟨_, _, ⟨_, _, rfl, rfl, rfl⟩, List.Sublist.refl _, ts_32, os_32, hd_32, rfl, rfl⟩

theorem ok_laws_heldIntS {ρ0 rn : Nat} {a : List Int} {k : Int} {r : Int} (h : M.laws_heldIntS a k = some r) : Does Try.prog 28 [.vl ρ0 1 (List.map encInt a), .int .i64 k] [] rn (fun x H => x = .int .i64 r ∧ H = []) := by
 have hm0 := h; clear h; unfold M.laws_heldIntS at hm0
 try dsimp only at hm0
 refine Does.intro (N := 21) Try.func28 rfl rfl rfl rfl ?_
 intro w0 S0
 refine V.seq ?_
 refine V.region ?_
 refine VO.cons rfl (V1.assign rfl rfl rfl lt0 ?_)
 refine VO.nil ?_
 refine V.seq ?_
 refine V.seq ?_
 refine V.region ?_
 refine VO.cons rfl (V1.assign rfl rfl rfl lt0 ?_)
 refine VO.nil ?_
 replace hm0 := bindO hm0; rcases hm0 with ⟨e0, he1, hm0⟩
 refine V.cutT (D := (Int) × (Unit)) (fun ⟨k0, _⟩ => ⟨21, [(1, .int .i64 k0)], []⟩) (fun ⟨k0, _⟩ => (.inl k0 = e0)) ?_ ?_
 ·
  refine V.block ?_
  refine V.keep 21 [1, 5, 0] [] (E0 := [(1, .int .i64 k), (5, .int .i64 (0 : Int)), (0, .vl ρ0 1 (List.map encInt a))]) (H0 := []) rfl (⟨_, _, rfl, rfl, ⟨_, _, rfl, rfl, ⟨_, _, rfl, rfl, rfl⟩⟩⟩) (rfl) rfl ?_
  refine V.loopE (D := Nat × (Int × Int) × (Unit)) (fun ⟨n0, ⟨k1, i⟩, _⟩ => [(1, .int .i64 k1), (5, .int .i64 i)]) (fun ⟨n0, ⟨k1, i⟩, _⟩ => []) (fun ⟨n0, ⟨k1, i⟩, _⟩ => loopO (M.laws_heldIntS_l0 a) n0 (k1, i) = some e0) (fun ⟨n0, _, _⟩ => n0) (rounds, (k, (0 : Int)), ()) rfl he1 ?_
  rintro ⟨n0, ⟨k1, i⟩, _⟩ hP0
  obtain ⟨m0, y0, rfl, hm1, hl1, hr1⟩ := loop_head hP0
  unfold M.laws_heldIntS_l0 at hm1; dsimp only at hm1
  show V _ _ _ ⟨21, [(1, .int .i64 k1), (5, .int .i64 i), (0, .vl ρ0 1 (List.map encInt a))], []⟩
  refine V.seq ?_
  refine V.seq ?_
  refine V.region ?_
  refine VO.cons rfl (V1.move rfl rfl rfl lt0 ?_)
  refine VO.cons rfl (V1.move rfl rfl rfl lt0 ?_)
  refine VO.cons rfl (V1.lenMap rfl rfl rfl rfl rfl rfl isl_36 lt0 ?_)
  refine VO.cons rfl (V1.int rfl rfl rfl rfl rfl lt0 ?_)
  refine VO.nil ?_
  refine V.cond rfl (fun hc0 => ?_) (fun hc0 => ?_)
  ·
   replace hm1 := cond_t hc0 hm1
   refine V.skip ?_
   refine V.keep 21 [0, 1, 5] [] (E0 := [(0, .vl ρ0 1 (List.map encInt a)), (1, .int .i64 k1), (5, .int .i64 i)]) (H0 := []) rfl (⟨_, _, rfl, rfl, ⟨_, _, rfl, rfl, ⟨_, _, rfl, rfl, rfl⟩⟩⟩) (rfl) rfl ?_
   refine V.seq ?_
   refine V.block ?_
   refine V.seq ?_
   refine V.seq ?_
   replace hm1 := asrt_some hm1; rcases hm1 with ⟨hh0, hm1⟩
   refine V.region ?_
   refine VO.cons rfl (V1.move rfl rfl rfl lt0 ?_)
   refine VO.cons rfl (V1.move rfl rfl rfl lt0 ?_)
   refine VO.cons rfl (V1.indexI rfl rfl esz_36 rfl rfl hh0 lt0 ?_)
   refine VO.cons rfl (V1.loadPin rfl rfl tyk_3 rfl rfl lt0 ?_)
   refine VO.cons rfl (V1.move rfl rfl rfl lt0 ?_)
   refine VO.cons rfl (V1.int rfl rfl rfl rfl rfl lt0 ?_)
   refine VO.nil ?_
   refine V.keep 21 [0, 1, 5, 17] [] (E0 := [(0, .vl ρ0 1 (List.map encInt a)), (1, .int .i64 k1), (5, .int .i64 i), (17, .bool ((a.getD (Int.toNat i) default) != k1))]) (H0 := []) rfl (⟨_, _, rfl, rfl, ⟨_, _, rfl, rfl, ⟨_, _, rfl, rfl, ⟨_, _, rfl, rfl, rfl⟩⟩⟩⟩) (rfl) rfl ?_
   refine V.cond rfl (fun hc1 => ?_) (fun hc1 => ?_)
   ·
    replace hm1 := cond_t hc1 hm1
    refine V.seq ?_
    refine V.region ?_
    refine VO.cons rfl (V1.assign rfl rfl rfl lt0 ?_)
    refine VO.nil ?_
    refine V.ret ?_
    obtain rfl := hr1 _ (Option.some.inj hm1).symm
    change some _ = some _ at hm0
    obtain rfl := Option.some.inj hm0
    exact ⟨_, [], ⟨_, _, rfl, rfl, rfl⟩, List.nil_sublist _, rfl, rfl⟩
   ·
    replace hm1 := cond_f hc1 hm1
    refine V.skip ?_
    refine V.region ?_
    refine VO.cons rfl (V1.move rfl rfl rfl lt0 ?_)
    refine VO.cons rfl (V1.int rfl rfl rfl rfl rfl lt0 ?_)
    refine VO.cons rfl (V1.assign rfl rfl rfl lt0 ?_)
    refine VO.nil ?_
    refine V.region ?_
    refine VO.cons rfl (V1.move rfl rfl rfl lt0 ?_)
    refine VO.cons rfl (V1.int rfl rfl rfl rfl rfl lt0 ?_)
    refine VO.cons rfl (V1.assign rfl rfl rfl lt0 ?_)
    refine VO.nil ?_
    exact ⟨(m0, ((IntKind.i64.wrap (k1 + (1 : Int))), (IntKind.i64.wrap (i + (1 : Int)))), ()), hl1 _ (Option.some.inj hm1).symm, Nat.lt_succ_self _, Keeps.mk (ks := []) rfl ⟨rfl, rfl, rfl, trivial⟩ (rfl) rfl⟩
  ·
   replace hm1 := cond_f hc0 hm1
   refine V.exit ?_
   obtain rfl := hr1 _ (Option.some.inj hm1).symm
   exact ⟨(k1, ()), rfl, Keeps.mk (ks := []) rfl ⟨rfl, trivial⟩ (rfl) rfl⟩
 ·
  rintro ⟨k0, _⟩ rfl
  try dsimp only at hm0
  refine V.seq ?_
  refine V.region ?_
  refine VO.cons rfl (V1.move rfl rfl rfl lt0 ?_)
  refine VO.cons rfl (V1.assign rfl rfl rfl lt0 ?_)
  refine VO.nil ?_
  refine V.ret ?_
  obtain rfl := Option.some.inj hm0
  exact ⟨_, [], ⟨_, _, rfl, rfl, rfl⟩, List.nil_sublist _, rfl, rfl⟩

theorem ok_laws_heldIntSS {ρ0 σ0 rn : Nat} {a : List (List Int)} {k : Int} {r : Int} (h : M.laws_heldIntSS a k = some r) : Does Try.prog 19 [.vl ρ0 1 (List.map (encL σ0 1 encInt) a), .int .i64 k] [] rn (fun x H => x = .int .i64 r ∧ H = []) := by
 have hm0 := h; clear h; unfold M.laws_heldIntSS at hm0
 try dsimp only at hm0
 refine Does.intro (N := 21) Try.func19 rfl rfl rfl rfl ?_
 intro w0 S0
 refine V.seq ?_
 refine V.region ?_
 refine VO.cons rfl (V1.assign rfl rfl rfl lt0 ?_)
 refine VO.nil ?_
 refine V.seq ?_
 refine V.seq ?_
 refine V.region ?_
 refine VO.cons rfl (V1.assign rfl rfl rfl lt0 ?_)
 refine VO.nil ?_
 replace hm0 := bindO hm0; rcases hm0 with ⟨e0, he1, hm0⟩
 refine V.cutT (D := (Int) × (Unit)) (fun ⟨k0, _⟩ => ⟨21, [(1, .int .i64 k0)], []⟩) (fun ⟨k0, _⟩ => (.inl k0 = e0)) ?_ ?_
 ·
  refine V.block ?_
  refine V.keep 21 [1, 5, 0] [] (E0 := [(1, .int .i64 k), (5, .int .i64 (0 : Int)), (0, .vl ρ0 1 (List.map (encL σ0 1 encInt) a))]) (H0 := []) rfl (⟨_, _, rfl, rfl, ⟨_, _, rfl, rfl, ⟨_, _, rfl, rfl, rfl⟩⟩⟩) (rfl) rfl ?_
  refine V.loopE (D := Nat × (Int × Int) × (Unit)) (fun ⟨n0, ⟨k1, i⟩, _⟩ => [(1, .int .i64 k1), (5, .int .i64 i)]) (fun ⟨n0, ⟨k1, i⟩, _⟩ => []) (fun ⟨n0, ⟨k1, i⟩, _⟩ => loopO (M.laws_heldIntSS_l0 a) n0 (k1, i) = some e0) (fun ⟨n0, _, _⟩ => n0) (rounds, (k, (0 : Int)), ()) rfl he1 ?_
  rintro ⟨n0, ⟨k1, i⟩, _⟩ hP0
  obtain ⟨m0, y0, rfl, hm1, hl1, hr1⟩ := loop_head hP0
  unfold M.laws_heldIntSS_l0 at hm1; dsimp only at hm1
  show V _ _ _ ⟨21, [(1, .int .i64 k1), (5, .int .i64 i), (0, .vl ρ0 1 (List.map (encL σ0 1 encInt) a))], []⟩
  refine V.seq ?_
  refine V.seq ?_
  refine V.region ?_
  refine VO.cons rfl (V1.move rfl rfl rfl lt0 ?_)
  refine VO.cons rfl (V1.move rfl rfl rfl lt0 ?_)
  refine VO.cons rfl (V1.lenMap rfl rfl rfl rfl rfl rfl isl_24 lt0 ?_)
  refine VO.cons rfl (V1.int rfl rfl rfl rfl rfl lt0 ?_)
  refine VO.nil ?_
  refine V.cond rfl (fun hc0 => ?_) (fun hc0 => ?_)
  ·
   replace hm1 := cond_t hc0 hm1
   refine V.skip ?_
   refine V.keep 21 [0, 1, 5] [] (E0 := [(0, .vl ρ0 1 (List.map (encL σ0 1 encInt) a)), (1, .int .i64 k1), (5, .int .i64 i)]) (H0 := []) rfl (⟨_, _, rfl, rfl, ⟨_, _, rfl, rfl, ⟨_, _, rfl, rfl, rfl⟩⟩⟩) (rfl) rfl ?_
   refine V.seq ?_
   refine V.block ?_
   refine V.seq ?_
   replace hm1 := asrt_some hm1; rcases hm1 with ⟨hh0, hm1⟩
   replace hm1 := bindO hm1; rcases hm1 with ⟨y1, hh1, hm1⟩
   refine V.region ?_
   refine VO.cons rfl (V1.move rfl rfl rfl lt0 ?_)
   refine VO.cons rfl (V1.move rfl rfl rfl lt0 ?_)
   refine VO.cons rfl (V1.indexI rfl rfl esz_24 rfl rfl hh0 lt0 ?_)
   refine VO.cons rfl (V1.loadPin rfl rfl tyk_36 rfl rfl lt0 ?_)
   refine VO.cons rfl (V1.move rfl rfl rfl lt0 ?_)
   refine VO.cons rfl (V1.call rfl rfl rfl cok_28 rfl (ok_laws_heldIntS hh1) rfl lt0 ?_)
   rintro _ _ ⟨rfl, rfl⟩
   refine VO.cons rfl (V1.assign rfl rfl rfl lt0 ?_)
   refine VO.nil ?_
   refine V.keep 21 [0, 1, 5] [] (E0 := [(0, .vl ρ0 1 (List.map (encL σ0 1 encInt) a)), (1, .int .i64 y1), (5, .int .i64 i)]) (H0 := []) rfl (⟨_, _, rfl, rfl, ⟨_, _, rfl, rfl, ⟨_, _, rfl, rfl, rfl⟩⟩⟩) (rfl) rfl ?_
   refine V.seq ?_
   refine V.region ?_
   refine VO.cons rfl (V1.move rfl rfl rfl lt0 ?_)
   refine VO.cons rfl (V1.int rfl rfl rfl rfl rfl lt0 ?_)
   refine VO.nil ?_
   refine V.cond rfl (fun hc1 => ?_) (fun hc1 => ?_)
   ·
    replace hm1 := cond_t hc1 hm1
    refine V.seq ?_
    refine V.region ?_
    refine VO.cons rfl (V1.assign rfl rfl rfl lt0 ?_)
    refine VO.nil ?_
    refine V.ret ?_
    obtain rfl := hr1 _ (Option.some.inj hm1).symm
    change some _ = some _ at hm0
    obtain rfl := Option.some.inj hm0
    exact ⟨_, [], ⟨_, _, rfl, rfl, rfl⟩, List.nil_sublist _, rfl, rfl⟩
   ·
    replace hm1 := cond_f hc1 hm1
    refine V.skip ?_
    refine V.region ?_
    refine VO.cons rfl (V1.move rfl rfl rfl lt0 ?_)
    refine VO.cons rfl (V1.int rfl rfl rfl rfl rfl lt0 ?_)
    refine VO.cons rfl (V1.assign rfl rfl rfl lt0 ?_)
    refine VO.nil ?_
    exact ⟨(m0, (y1, (IntKind.i64.wrap (i + (1 : Int)))), ()), hl1 _ (Option.some.inj hm1).symm, Nat.lt_succ_self _, Keeps.mk (ks := []) rfl ⟨rfl, rfl, rfl, trivial⟩ (rfl) rfl⟩
  ·
   replace hm1 := cond_f hc0 hm1
   refine V.exit ?_
   obtain rfl := hr1 _ (Option.some.inj hm1).symm
   exact ⟨(k1, ()), rfl, Keeps.mk (ks := []) rfl ⟨rfl, trivial⟩ (rfl) rfl⟩
 ·
  rintro ⟨k0, _⟩ rfl
  try dsimp only at hm0
  refine V.seq ?_
  refine V.region ?_
  refine VO.cons rfl (V1.move rfl rfl rfl lt0 ?_)
  refine VO.cons rfl (V1.assign rfl rfl rfl lt0 ?_)
  refine VO.nil ?_
  refine V.ret ?_
  obtain rfl := Option.some.inj hm0
  exact ⟨_, [], ⟨_, _, rfl, rfl, rfl⟩, List.nil_sublist _, rfl, rfl⟩

theorem ok_laws_FnExactRoomLoad {ρ0 σ0 rn : Nat} {aList : List Carton} {r : Bool} (h : M.laws_FnExactRoomLoad aList = some r) : Does Try.prog 5 [.vl ρ0 5 (List.map (encCarton σ0) aList)] [] rn (fun x H => x = .bool r ∧ H = []) := by
 have hm0 := h; clear h; unfold M.laws_FnExactRoomLoad at hm0
 try dsimp only at hm0
 refine Does.intro (N := 96) Try.func5 rfl rfl rfl rfl ?_
 intro w0 S0
 refine V.seq ?_
 refine V.region ?_
 refine VO.cons rfl (V1.assign rfl rfl rfl lt0 ?_)
 refine VO.nil ?_
 refine V.seq ?_
 refine V.region ?_
 refine VO.cons rfl (V1.assign rfl rfl rfl lt0 ?_)
 refine VO.nil ?_
 refine V.seq ?_
 replace hm0 := bindO hm0; rcases hm0 with ⟨y0, hh0, hm0⟩
 refine V.region ?_
 refine VO.cons rfl (V1.move rfl rfl rfl lt0 ?_)
 refine VO.cons rfl (V1.move rfl rfl rfl lt0 ?_)
 refine VO.cons rfl (V1.call rfl rfl rfl cok_20 rfl (ok_laws_szCartonS hh0) rfl lt0 ?_)
 rintro _ _ ⟨rfl, rfl⟩
 refine VO.cons rfl (V1.assign rfl rfl rfl lt0 ?_)
 refine VO.nil ?_
 refine V.keep 96 [0, 3] [] (E0 := [(0, .vl ρ0 5 (List.map (encCarton σ0) aList)), (3, .int .i64 y0)]) (H0 := []) rfl (⟨_, _, rfl, rfl, ⟨_, _, rfl, rfl, rfl⟩⟩) (rfl) rfl ?_
 refine V.seq ?_
 refine V.seq ?_
 refine V.region ?_
 refine VO.cons rfl (V1.move rfl rfl rfl lt0 ?_)
 refine VO.cons rfl (V1.int rfl rfl rfl rfl rfl lt0 ?_)
 refine VO.nil ?_
 refine V.cond rfl (fun hc0 => ?_) (fun hc0 => ?_)
 ·
  replace hm0 := cond_t hc0 hm0
  refine V.seq ?_
  refine V.region ?_
  refine VO.cons rfl (V1.assign rfl rfl rfl lt0 ?_)
  refine VO.nil ?_
  refine V.ret ?_
  obtain rfl := Option.some.inj hm0
  exact ⟨_, [], ⟨_, _, rfl, rfl, rfl⟩, List.nil_sublist _, rfl, rfl⟩
 ·
  replace hm0 := cond_f hc0 hm0
  refine V.skip ?_
  refine V.seq ?_
  replace hm0 := bindO hm0; rcases hm0 with ⟨y1, hh1, hm0⟩
  replace hm0 := bindO hm0; rcases hm0 with ⟨y2, hh2, hm0⟩
  refine V.region ?_
  refine VO.cons rfl (V1.move rfl rfl rfl lt0 ?_)
  refine VO.cons rfl (V1.call rfl rfl rfl cok_22 rfl (ok_laws_toCartonS hh1) rfl lt0 ?_)
  rintro _ _ ⟨b0, rfl, rfl⟩
  refine VO.weakenK (Keeps.freezeG 0 rn [(21, .vl rn 5 (List.map (encCarton rn) y1))] ([]) (f := (encCarton rn)) (l := y1) rfl (fun _ => rfl) ⟨⟨_, rfl, .here⟩, trivial⟩ rfl rfl iNil) ?_
  refine VO.cons rfl (V1.call rfl rfl rfl cok_29 rfl (ok_spec_RoomLoad hh2) rfl lt0 ?_)
  rintro _ _ ⟨b1, rfl, rfl⟩
  refine VO.cons rfl (V1.move rfl rfl rfl lt0 ?_)
  refine VO.cons rfl (V1.extract rfl rfl rfl rfl lt0 ?_)
  refine VO.weakenK (Keeps.freezeG 0 rn [(23, .vl rn 1 (List.map (encL rn 1 encInt) y2.1))] ([]) (f := (encL rn 1 encInt)) (l := y2.1) rfl (fun _ => rfl) ⟨⟨_, rfl, .here⟩, trivial⟩ rfl rfl iNil) ?_
  refine VO.cons rfl (V1.extract rfl rfl rfl rfl lt0 ?_)
  refine VO.cons rfl (V1.assign rfl rfl rfl lt0 ?_)
  refine VO.cons rfl (V1.assign rfl rfl rfl lt0 ?_)
  refine VO.nil ?_
  refine V.keep 96 [0, 4, 5] [] (E0 := [(0, .vl ρ0 5 (List.map (encCarton σ0) aList)), (4, .vl rn 1 (List.map (encL rn 1 encInt) y2.1)), (5, .bool y2.2)]) (H0 := []) rfl (⟨_, _, rfl, rfl, ⟨_, _, rfl, rfl, ⟨_, _, rfl, rfl, rfl⟩⟩⟩) (rfl) rfl ?_
  refine V.seq ?_
  replace hm0 := bindO hm0; rcases hm0 with ⟨y3, hh3, hm0⟩
  refine V.region ?_
  refine VO.cons rfl (V1.move rfl rfl rfl lt0 ?_)
  refine VO.cons rfl (V1.permK (V1.call rfl rfl rfl cok_22 rfl (okd_laws_toCartonS hh3) rfl lt0 ?_))
  rintro _ _ ⟨b2, ts_57, os_57, hd_57, rfl, rfl⟩
  refine ⟨_, ?_, Keeps.perm (([(b2, ⟨5, deepC cellCarton ts_57 y3⟩)] : List (Nat × Obj')) ++ os_57) (permDeep1 (p := (b2, ⟨5, deepC cellCarton ts_57 y3⟩)) (os := os_57) (A := []))⟩
  refine VO.cons rfl (V1.assign rfl rfl rfl lt0 ?_)
  refine VO.nil ?_
  refine V.seq ?_
  replace hm0 := bindO hm0; rcases hm0 with ⟨y4, hh4, hm0⟩
  refine V.region ?_
  refine VO.cons rfl (V1.move rfl rfl rfl lt0 ?_)
  refine VO.cons rfl (V1.permK (V1.callL (rn + 1) ([b2] ++ List.map Prod.fst os_57) [.vl (rn + 1) 5 (List.map (encCarton (rn + 1)) y3)] rfl rfl rfl cok_30 rfl ⟨_, _, rfl, Lend.deep (m := 1) (inn := (fun c_ : Carton => List.map encInt c_.Files)) (cell := cellCarton) cokCarton (ts := ts_57) (os := os_57) (xs := y3) 0 hd_57 rfl (fun _ => roL_map (fun _ => rfl) _) rfl (fun p hp => memTail (A := [(b2, ⟨5, deepC cellCarton ts_57 y3⟩)]) (T := os_57) hp rfl) (List.mem_append_left _ (.head _)) (fun p hp => List.mem_append_right _ (List.mem_map.2 ⟨p, hp, rfl⟩)), rfl⟩ (bwTail (A := [(b2, ⟨5, deepC cellCarton ts_57 y3⟩)]) (T := os_57) rfl (bwCons (k := 0) rfl bwNil) (fun p hp => hp)) (okd_impl_RoomLoad hh4) rfl (⟨(by first | omega | (dsimp only; omega)), by rintro _ _ ⟨ob0, ts_58, os_58, hob0, hd_58, rfl, rfl⟩; refine ⟨by simp [PV.no, PV.noL, optS_no, noL_iff, nbeq] <;> omega, ?_⟩; intro b ob h; obtain ⟨q1_, q2_⟩ := deepNo (cokRow 1 encInt) (fun _ => noL_map (fun _ => rfl) _) hd_58; exact (List.mem_append.1 h).elim (fun h => optH_no q1_ b ob h) (fun h => q2_ b ob h)⟩) lt0 ?_))
  rintro _ _ ⟨ob0, ts_58, os_58, hob0, hd_58, rfl, rfl⟩
  refine ⟨_, ?_, Keeps.perm (optH 1 ob0 (deepC (cellRow (β := Int)) ts_58 y4.1) ++ (([(b2, ⟨5, deepC cellCarton ts_57 y3⟩)] : List (Nat × Obj')) ++ (os_58 ++ os_57))) (permDeepO (o := optH 1 ob0 (deepC (cellRow (β := Int)) ts_58 y4.1)) (os := os_58) (A := [(b2, ⟨5, deepC cellCarton ts_57 y3⟩)]) (T := os_57))⟩
  refine VO.cons rfl (V1.move rfl rfl rfl lt0 ?_)
  refine VO.cons rfl (V1.extract rfl rfl rfl rfl lt0 ?_)
  refine VO.cons rfl (V1.extract rfl rfl rfl rfl lt0 ?_)
  refine VO.cons rfl (V1.assign rfl rfl rfl lt0 ?_)
  refine VO.cons rfl (V1.assign rfl rfl rfl lt0 ?_)
  refine VO.nil ?_
  rcases ob0 with _ | ob0
  ·
   obtain ⟨rfl, rfl⟩ := Deep.nil (hob0 rfl) hd_58
   refine V.keepT 96 [0, 4, 5, 6, 7, 8] [0] (E0 := [(0, .vl ρ0 5 (List.map (encCarton σ0) aList)), (4, .vl rn 1 (List.map (encL rn 1 encInt) y2.1)), (5, .bool y2.2), (6, .sref b2 5 0 (List.length y3)), (7, .nils), (8, .bool y4.2)]) (A := [(b2, ⟨5, deepC cellCarton ts_57 y3⟩)]) (T := os_57) (H0 := [(b2, ⟨5, deepC cellCarton ts_57 y3⟩)]) (T' := os_57) rfl (⟨_, _, rfl, rfl, ⟨_, _, rfl, rfl, ⟨_, _, rfl, rfl, ⟨_, _, rfl, rfl, ⟨_, _, rfl, rfl, ⟨_, _, rfl, rfl, rfl⟩⟩⟩⟩⟩⟩) rfl (⟨_, _, rfl, rfl, rfl⟩) rfl (List.Sublist.refl _) ?_
   refine V.seq ?_
   refine V.seq ?_
   replace hm0 := bindO hm0; rcases hm0 with ⟨y5, hh5, hm0⟩
   refine V.region ?_
   refine VO.cons rfl (V1.move rfl rfl rfl lt0 ?_)
   refine VO.cons rfl (V1.move rfl rfl rfl lt0 ?_)
   refine VO.weakenK (Keeps.nilsE (l := y4.1) 32 rn 1 (encL rn 1 encInt) (hob0 rfl) rfl rfl) ?_
   refine VO.cons rfl (V1.call rfl rfl rfl cok_15 rfl (ok_laws_eqIntSS hh5) rfl lt0 ?_)
   rintro _ _ ⟨rfl, rfl⟩
   refine VO.cons rfl (V1.not rfl rfl rfl lt0 ?_)
   refine VO.cons rfl (V1.move rfl rfl rfl lt0 ?_)
   apply VO.or (n := 3) rfl rfl rfl rfl rfl rfl lt0 (.none rfl)
   ·
    intro hg0
    refine VO.step (.some rfl rfl rfl) (V1.move rfl rfl rfl lt0 ?_)
    refine VO.step (.some rfl rfl rfl) (V1.move rfl rfl rfl lt0 ?_)
    refine VO.step (.some rfl rfl rfl) (V1.boolNeq rfl rfl und_4 rfl rfl lt0 ?_)
    exact VO.nil ⟨rfl, rfl, rfl, rfl, .inr ⟨rfl, .inr ⟨rfl, .inr ⟨rfl, .inr ⟨rfl, .inl rfl⟩⟩⟩⟩⟩
   refine VO.nil ?_
   refine V.keepT 96 [0, 4, 5, 6, 7, 8, 40] [0] (E0 := [(0, .vl ρ0 5 (List.map (encCarton σ0) aList)), (4, .vl rn 1 (List.map (encL rn 1 encInt) y2.1)), (5, .bool y2.2), (6, .sref b2 5 0 (List.length y3)), (7, .nils), (8, .bool y4.2), (40, .bool ((!y5) || (!(y4.2 == y2.2))))]) (A := [(b2, ⟨5, deepC cellCarton ts_57 y3⟩)]) (T := os_57) (H0 := [(b2, ⟨5, deepC cellCarton ts_57 y3⟩)]) (T' := os_57) rfl (⟨_, _, rfl, rfl, ⟨_, _, rfl, rfl, ⟨_, _, rfl, rfl, ⟨_, _, rfl, rfl, ⟨_, _, rfl, rfl, ⟨_, _, rfl, rfl, ⟨_, _, rfl, rfl, rfl⟩⟩⟩⟩⟩⟩⟩) rfl (⟨_, _, rfl, rfl, rfl⟩) rfl (List.Sublist.refl _) ?_
   refine V.cond rfl (fun hc1 => ?_) (fun hc1 => ?_)
   ·
    replace hm0 := cond_t hc1 hm0
    refine V.seq ?_
    refine V.region ?_
    refine VO.cons rfl (V1.assign rfl rfl rfl lt0 ?_)
    refine VO.nil ?_
    refine V.ret ?_
    obtain rfl := Option.some.inj hm0
    exact ⟨_, [], ⟨_, _, rfl, rfl, rfl⟩, List.nil_sublist _, rfl, rfl⟩
   ·
    replace hm0 := cond_f hc1 hm0
    refine V.skip ?_
    refine V.seq ?_
    refine V.seq ?_
    replace hm0 := bindO hm0; rcases hm0 with ⟨y6, hh6, hm0⟩
    replace hm0 := bindO hm0; rcases hm0 with ⟨y7, hh7, hm0⟩
    refine V.region ?_
    refine VO.cons rfl (V1.move rfl rfl rfl lt0 ?_)
    refine VO.cons rfl (V1.move rfl rfl rfl lt0 ?_)
    refine VO.cons rfl (V1.call rfl rfl rfl cok_22 rfl (ok_laws_toCartonS hh6) rfl lt0 ?_)
    rintro _ _ ⟨b3, rfl, rfl⟩
    refine VO.weakenK (Keeps.freezeG 0 rn [(43, .vl rn 5 (List.map (encCarton rn) y6))] ((b2, ⟨5, deepC cellCarton ts_57 y3⟩) :: os_57) (f := (encCarton rn)) (l := y6) rfl (fun _ => rfl) ⟨⟨_, rfl, .here⟩, trivial⟩ ⟨_, _, rfl, rfl, .inl rfl, FrzH.same⟩ rfl iNil) ?_
    refine VO.cons rfl (V1.callL (rn + 1) ([b2] ++ List.map Prod.fst os_57) [.vl (rn + 1) 5 (List.map (encCarton (rn + 1)) y3), .vl rn 5 (List.map (encCarton rn) y6)] rfl rfl rfl cok_25 rfl ⟨_, _, rfl, Lend.deep (m := 1) (inn := (fun c_ : Carton => List.map encInt c_.Files)) (cell := cellCarton) cokCarton (ts := ts_57) (os := os_57) (xs := y3) 0 hd_57 rfl (fun _ => roL_map (fun _ => rfl) _) rfl (fun p hp => memTail (A := [(b2, ⟨5, deepC cellCarton ts_57 y3⟩)]) (T := os_57) hp rfl) (List.mem_append_left _ (.head _)) (fun p hp => List.mem_append_right _ (List.mem_map.2 ⟨p, hp, rfl⟩)), ⟨_, _, rfl, .same _, rfl⟩⟩ (bwTail (A := [(b2, ⟨5, deepC cellCarton ts_57 y3⟩)]) (T := os_57) rfl (bwCons (k := 0) rfl bwNil) (fun p hp => hp)) (ok_laws_eqCartonS hh7) rfl (⟨(by first | omega | (dsimp only; omega)), by rintro _ _ ⟨rfl, rfl⟩; exact ⟨rfl, by simp⟩⟩) lt0 ?_)
    rintro _ _ ⟨rfl, rfl⟩
    refine VO.cons rfl (V1.not rfl rfl rfl lt0 ?_)
    refine VO.nil ?_
    refine V.keepT 96 [0, 4, 5, 6, 7, 8, 45] [0] (E0 := [(0, .vl ρ0 5 (List.map (encCarton σ0) aList)), (4, .vl rn 1 (List.map (encL rn 1 encInt) y2.1)), (5, .bool y2.2), (6, .sref b2 5 0 (List.length y3)), (7, .nils), (8, .bool y4.2), (45, .bool (!y7))]) (A := [(b2, ⟨5, deepC cellCarton ts_57 y3⟩)]) (T := os_57) (H0 := [(b2, ⟨5, deepC cellCarton ts_57 y3⟩)]) (T' := os_57) rfl (⟨_, _, rfl, rfl, ⟨_, _, rfl, rfl, ⟨_, _, rfl, rfl, ⟨_, _, rfl, rfl, ⟨_, _, rfl, rfl, ⟨_, _, rfl, rfl, ⟨_, _, rfl, rfl, rfl⟩⟩⟩⟩⟩⟩⟩) rfl (⟨_, _, rfl, rfl, rfl⟩) rfl (List.Sublist.refl _) ?_
    refine V.cond rfl (fun hc2 => ?_) (fun hc2 => ?_)
    ·
     replace hm0 := cond_t hc2 hm0
     refine V.seq ?_
     refine V.region ?_
     refine VO.cons rfl (V1.assign rfl rfl rfl lt0 ?_)
     refine VO.nil ?_
     refine V.ret ?_
     obtain rfl := Option.some.inj hm0
     exact ⟨_, [], ⟨_, _, rfl, rfl, rfl⟩, List.nil_sublist _, rfl, rfl⟩
    ·
     replace hm0 := cond_f hc2 hm0
     refine V.skip ?_
     refine V.seq ?_
     refine V.region ?_
     refine VO.cons rfl (V1.assign rfl rfl rfl lt0 ?_)
     refine VO.nil ?_
     refine V.seq ?_
     replace hm0 := bindO hm0; rcases hm0 with ⟨y8, hh8, hm0⟩
     replace hm0 := asrt_some hm0; rcases hm0 with ⟨hh9, hm0⟩
     refine V.region ?_
     refine VO.cons rfl (V1.move rfl rfl rfl lt0 ?_)
     refine VO.cons rfl (V1.move rfl rfl rfl lt0 ?_)
     refine VO.cons rfl (V1.permK (V1.callDT 0 (A := [(b2, ⟨5, deepC cellCarton ts_57 y3⟩)]) (A' := []) (T0 := os_57) (os := os_57) (T := []) (p := (b2, ⟨5, deepC cellCarton ts_57 y3⟩)) rfl rfl rfl cok_26 rfl rfl (.of_eq (List.append_nil _).symm) rfl rfl (rn + 1) [] [.sref b2 5 0 (List.length y3), .int .i64 (1 : Int)] ⟨_, _, rfl, .same _, ⟨_, _, rfl, .same _, rfl⟩⟩ bwNil (ok_laws_markCartonS hh8 (oq := some b2) (tq := ts_57) (oz := os_57) (fun e => by cases e) hd_57) rfl (.inl rfl) lt0 ?_))
     rintro _ _ ⟨ts_73, os_73, hd_73, rfl, rfl⟩
     refine ⟨_, ?_, Keeps.perm (([(b2, ⟨5, deepC cellCarton ts_73 y8.2⟩)] : List (Nat × Obj')) ++ os_73) (permDeep0 (p := (b2, ⟨5, deepC cellCarton ts_73 y8.2⟩)) (os := os_73) (A := []))⟩
     refine VO.cons rfl (V1.assign rfl rfl rfl lt0 ?_)
     refine VO.nil ?_
     refine V.seq ?_
     refine V.seq ?_
     replace hm0 := bindO hm0; rcases hm0 with ⟨y9, hh10, hm0⟩
     refine V.region ?_
     refine VO.cons rfl (V1.move rfl rfl rfl lt0 ?_)
     refine VO.cons rfl (V1.int rfl rfl rfl rfl rfl lt0 ?_)
     refine VO.cons rfl (V1.move rfl rfl rfl lt0 ?_)
     apply VO.or (n := 4) rfl rfl rfl rfl rfl rfl lt0 (.none rfl)
     ·
      intro hg1
      refine VO.step (.some rfl rfl rfl) (V1.move rfl rfl rfl lt0 ?_)
      refine VO.step (.some rfl rfl rfl) (V1.move rfl rfl rfl lt0 ?_)
      refine VO.weakenK (Keeps.nilsE (l := y4.1) 52 rn 1 (encL rn 1 encInt) (hob0 rfl) rfl rfl) ?_
      refine VO.step (.some rfl rfl rfl) (V1.call rfl rfl rfl cok_15 rfl (ok_laws_eqIntSS (cond_f hg1 hh10)) rfl lt0 ?_)
      rintro _ _ ⟨rfl, rfl⟩
      refine VO.step (.some rfl rfl rfl) (V1.not rfl rfl rfl lt0 ?_)
      exact VO.nil ⟨rfl, rfl, rfl, rfl, .inr ⟨rfl, .inr ⟨rfl, .inr ⟨rfl, .inr ⟨rfl, .inr ⟨rfl, .inr ⟨rfl, .inl rfl⟩⟩⟩⟩⟩⟩⟩
     refine VO.cons rfl (V1.move rfl rfl rfl lt0 ?_)
     apply VO.or (n := 3) rfl rfl rfl rfl rfl rfl lt0 (.none rfl)
     ·
      intro hg2
      refine VO.step (.some rfl rfl rfl) (V1.move rfl rfl rfl lt0 ?_)
      refine VO.step (.some rfl rfl rfl) (V1.move rfl rfl rfl lt0 ?_)
      refine VO.step (.some rfl rfl rfl) (V1.boolNeq rfl rfl und_4 rfl rfl lt0 ?_)
      exact VO.nil ⟨rfl, rfl, rfl, rfl, .inr ⟨rfl, .inr ⟨rfl, .inr ⟨rfl, .inr ⟨rfl, .inl rfl⟩⟩⟩⟩⟩
     refine VO.nil ?_
     refine V.keepT 96 [0, 4, 5, 7, 61] [] (E0 := [(0, .vl ρ0 5 (List.map (encCarton σ0) aList)), (4, .vl rn 1 (List.map (encL rn 1 encInt) y2.1)), (5, .bool y2.2), (7, .nils), (61, .bool (((decide (y8.1 < (0 : Int))) || (!y9)) || (!(y4.2 == y2.2))))]) (A := [(b2, ⟨5, deepC cellCarton ts_73 y8.2⟩)]) (T := os_73) (H0 := []) (T' := []) rfl (⟨_, _, rfl, rfl, ⟨_, _, rfl, rfl, ⟨_, _, rfl, rfl, ⟨_, _, rfl, rfl, ⟨_, _, rfl, rfl, rfl⟩⟩⟩⟩⟩) rfl (rfl) rfl (List.nil_sublist _) ?_
     refine V.cond rfl (fun hc3 => ?_) (fun hc3 => ?_)
     ·
      replace hm0 := cond_t hc3 hm0
      refine V.seq ?_
      refine V.region ?_
      refine VO.cons rfl (V1.assign rfl rfl rfl lt0 ?_)
      refine VO.nil ?_
      refine V.ret ?_
      obtain rfl := Option.some.inj hm0
      exact ⟨_, [], ⟨_, _, rfl, rfl, rfl⟩, List.nil_sublist _, rfl, rfl⟩
     ·
      replace hm0 := cond_f hc3 hm0
      refine V.skip ?_
      refine V.seq ?_
      refine V.region ?_
      refine VO.cons rfl (V1.assign rfl rfl rfl lt0 ?_)
      refine VO.nil ?_
      refine V.seq ?_
      replace hm0 := bindO hm0; rcases hm0 with ⟨y10, hh11, hm0⟩
      replace hm0 := asrt_some hm0; rcases hm0 with ⟨hh12, hm0⟩
      refine V.region ?_
      refine VO.cons rfl (V1.move rfl rfl rfl lt0 ?_)
      refine VO.cons rfl (V1.move rfl rfl rfl lt0 ?_)
      refine VO.cons rfl (V1.call rfl rfl rfl cok_18 rfl (ok_laws_markIntSS hh11 (oq := none) (tq := []) (oz := []) (fun _ => (hob0 rfl)) (Deep.ofNil (hob0 rfl))) rfl lt0 ?_)
      rintro _ _ ⟨ts_75, os_75, hd_75, rfl, rfl⟩
      obtain ⟨rfl, rfl⟩ := Deep.nil (List.length_eq_zero_iff.1 (hh12.trans (congrArg List.length (hob0 rfl)))) hd_75
      refine VO.cons rfl (V1.assign rfl rfl rfl lt0 ?_)
      refine VO.nil ?_
      refine V.keep 96 [0, 4, 5, 7, 10] [] (E0 := [(0, .vl ρ0 5 (List.map (encCarton σ0) aList)), (4, .vl rn 1 (List.map (encL rn 1 encInt) y2.1)), (5, .bool y2.2), (7, .nils), (10, .int .i64 y10.1)]) (H0 := []) rfl (⟨_, _, rfl, rfl, ⟨_, _, rfl, rfl, ⟨_, _, rfl, rfl, ⟨_, _, rfl, rfl, ⟨_, _, rfl, rfl, rfl⟩⟩⟩⟩⟩) (rfl) rfl ?_
      refine V.seq ?_
      refine V.region ?_
      refine VO.cons rfl (V1.assign rfl rfl rfl lt0 ?_)
      refine VO.nil ?_
      refine V.seq ?_
      replace hm0 := bindO hm0; rcases hm0 with ⟨y11, hh13, hm0⟩
      refine V.region ?_
      refine VO.cons rfl (V1.move rfl rfl rfl lt0 ?_)
      refine VO.cons rfl (V1.move rfl rfl rfl lt0 ?_)
      refine VO.weakenK (Keeps.nilsE (l := y10.2) 65 rn 1 (encL rn 1 encInt) (List.length_eq_zero_iff.1 (hh12.trans (congrArg List.length (hob0 rfl)))) rfl rfl) ?_
      refine VO.cons rfl (V1.call rfl rfl rfl cok_19 rfl (ok_laws_heldIntSS hh13) rfl lt0 ?_)
      rintro _ _ ⟨rfl, rfl⟩
      refine VO.cons rfl (V1.assign rfl rfl rfl lt0 ?_)
      refine VO.nil ?_
      refine V.seq ?_
      refine V.seq ?_
      refine V.region ?_
      refine VO.cons rfl (V1.move rfl rfl rfl lt0 ?_)
      refine VO.cons rfl (V1.int rfl rfl rfl rfl rfl lt0 ?_)
      refine VO.nil ?_
      refine V.keep 96 [0, 4, 5, 7, 10, 11, 69] [] (E0 := [(0, .vl ρ0 5 (List.map (encCarton σ0) aList)), (4, .vl rn 1 (List.map (encL rn 1 encInt) y2.1)), (5, .bool y2.2), (7, .nils), (10, .int .i64 y10.1), (11, .int .i64 y11), (69, .bool (decide (y11 < (0 : Int))))]) (H0 := []) rfl (⟨_, _, rfl, rfl, ⟨_, _, rfl, rfl, ⟨_, _, rfl, rfl, ⟨_, _, rfl, rfl, ⟨_, _, rfl, rfl, ⟨_, _, rfl, rfl, ⟨_, _, rfl, rfl, rfl⟩⟩⟩⟩⟩⟩⟩) (rfl) rfl ?_
      refine V.cond rfl (fun hc4 => ?_) (fun hc4 => ?_)
      ·
       replace hm0 := cond_t hc4 hm0
       refine V.seq ?_
       refine V.region ?_
       refine VO.cons rfl (V1.assign rfl rfl rfl lt0 ?_)
       refine VO.nil ?_
       refine V.ret ?_
       obtain rfl := Option.some.inj hm0
       exact ⟨_, [], ⟨_, _, rfl, rfl, rfl⟩, List.nil_sublist _, rfl, rfl⟩
      ·
       replace hm0 := cond_f hc4 hm0
       refine V.skip ?_
       refine V.seq ?_
       refine V.seq ?_
       refine V.region ?_
       refine VO.cons rfl (V1.move rfl rfl rfl lt0 ?_)
       refine VO.cons rfl (V1.move rfl rfl rfl lt0 ?_)
       refine VO.cons rfl (V1.int rfl rfl rfl rfl rfl lt0 ?_)
       refine VO.nil ?_
       refine V.keep 96 [0, 4, 5, 7, 10, 72] [] (E0 := [(0, .vl ρ0 5 (List.map (encCarton σ0) aList)), (4, .vl rn 1 (List.map (encL rn 1 encInt) y2.1)), (5, .bool y2.2), (7, .nils), (10, .int .i64 y10.1), (72, .bool (y11 != y10.1))]) (H0 := []) rfl (⟨_, _, rfl, rfl, ⟨_, _, rfl, rfl, ⟨_, _, rfl, rfl, ⟨_, _, rfl, rfl, ⟨_, _, rfl, rfl, ⟨_, _, rfl, rfl, rfl⟩⟩⟩⟩⟩⟩) (rfl) rfl ?_
       refine V.cond rfl (fun hc5 => ?_) (fun hc5 => ?_)
       ·
        replace hm0 := cond_t hc5 hm0
        refine V.seq ?_
        refine V.region ?_
        refine VO.cons rfl (V1.assign rfl rfl rfl lt0 ?_)
        refine VO.nil ?_
        refine V.ret ?_
        obtain rfl := Option.some.inj hm0
        exact ⟨_, [], ⟨_, _, rfl, rfl, rfl⟩, List.nil_sublist _, rfl, rfl⟩
       ·
        replace hm0 := cond_f hc5 hm0
        refine V.skip ?_
        refine V.seq ?_
        replace hm0 := bindO hm0; rcases hm0 with ⟨y12, hh14, hm0⟩
        replace hm0 := bindO hm0; rcases hm0 with ⟨y13, hh15, hm0⟩
        refine V.region ?_
        refine VO.cons rfl (V1.move rfl rfl rfl lt0 ?_)
        refine VO.cons rfl (V1.call rfl rfl rfl cok_22 rfl (ok_laws_toCartonS hh14) rfl lt0 ?_)
        rintro _ _ ⟨b4, rfl, rfl⟩
        refine VO.weakenK (Keeps.freezeG 0 rn [(75, .vl rn 5 (List.map (encCarton rn) y12))] ([]) (f := (encCarton rn)) (l := y12) rfl (fun _ => rfl) ⟨⟨_, rfl, .here⟩, trivial⟩ rfl rfl iNil) ?_
        refine VO.cons rfl (V1.permK (V1.call rfl rfl rfl cok_30 rfl (ok_impl_RoomLoad hh15) rfl lt0 ?_))
        rintro _ _ ⟨ob1, hob1, rfl, rfl⟩
        refine ⟨_, ?_, Keeps.optBack (n := 1) (ob := ob1) (xs := List.map (encL rn 1 encInt) y13.1) (H1 := []) (H2 := []) rfl⟩
        refine VO.cons rfl (V1.move rfl rfl rfl lt0 ?_)
        refine VO.cons rfl (V1.extract rfl rfl rfl rfl lt0 ?_)
        refine VO.weakenK (Keeps.optFront (n := 1) (ob := ob1) (xs := (List.map (encL rn 1 encInt) y13.1)) (H1 := []) rfl) ?_
        refine VO.weakenK (Keeps.optVl 77 [] rn (f := (encL rn 1 encInt)) (l := y13.1) (ob := ob1) (H1 := []) hob1 rfl rfl ⟨rfl, trivial⟩ (fun _ => rfl) rfl iNil) ?_
        refine VO.cons rfl (V1.extract rfl rfl rfl rfl lt0 ?_)
        refine VO.cons rfl (V1.assign rfl rfl rfl lt0 ?_)
        refine VO.cons rfl (V1.assign rfl rfl rfl lt0 ?_)
        refine VO.nil ?_
        refine V.keep 96 [4, 5, 7, 10, 12, 13] [] (E0 := [(4, .vl rn 1 (List.map (encL rn 1 encInt) y2.1)), (5, .bool y2.2), (7, .nils), (10, .int .i64 y10.1), (12, .vl rn 1 (List.map (encL rn 1 encInt) y13.1)), (13, .bool y13.2)]) (H0 := []) rfl (⟨_, _, rfl, rfl, ⟨_, _, rfl, rfl, ⟨_, _, rfl, rfl, ⟨_, _, rfl, rfl, ⟨_, _, rfl, rfl, ⟨_, _, rfl, rfl, rfl⟩⟩⟩⟩⟩⟩) (rfl) rfl ?_
        refine V.seq ?_
        refine V.seq ?_
        replace hm0 := bindO hm0; rcases hm0 with ⟨y14, hh16, hm0⟩
        refine V.region ?_
        refine VO.cons rfl (V1.move rfl rfl rfl lt0 ?_)
        refine VO.cons rfl (V1.move rfl rfl rfl lt0 ?_)
        refine VO.cons rfl (V1.call rfl rfl rfl cok_15 rfl (ok_laws_eqIntSS hh16) rfl lt0 ?_)
        rintro _ _ ⟨rfl, rfl⟩
        refine VO.cons rfl (V1.not rfl rfl rfl lt0 ?_)
        refine VO.cons rfl (V1.move rfl rfl rfl lt0 ?_)
        apply VO.or (n := 3) rfl rfl rfl rfl rfl rfl lt0 (.none rfl)
        ·
         intro hg3
         refine VO.step (.some rfl rfl rfl) (V1.move rfl rfl rfl lt0 ?_)
         refine VO.step (.some rfl rfl rfl) (V1.move rfl rfl rfl lt0 ?_)
         refine VO.step (.some rfl rfl rfl) (V1.boolNeq rfl rfl und_4 rfl rfl lt0 ?_)
         exact VO.nil ⟨rfl, rfl, rfl, rfl, .inr ⟨rfl, .inr ⟨rfl, .inr ⟨rfl, .inr ⟨rfl, .inl rfl⟩⟩⟩⟩⟩
        refine VO.nil ?_
        refine V.keep 96 [7, 10, 87] [] (E0 := [(7, .nils), (10, .int .i64 y10.1), (87, .bool ((!y14) || (!(y13.2 == y2.2))))]) (H0 := []) rfl (⟨_, _, rfl, rfl, ⟨_, _, rfl, rfl, ⟨_, _, rfl, rfl, rfl⟩⟩⟩) (rfl) rfl ?_
        refine V.cond rfl (fun hc6 => ?_) (fun hc6 => ?_)
        ·
         replace hm0 := cond_t hc6 hm0
         refine V.seq ?_
         refine V.region ?_
         refine VO.cons rfl (V1.assign rfl rfl rfl lt0 ?_)
         refine VO.nil ?_
         refine V.ret ?_
         obtain rfl := Option.some.inj hm0
         exact ⟨_, [], ⟨_, _, rfl, rfl, rfl⟩, List.nil_sublist _, rfl, rfl⟩
        ·
         replace hm0 := cond_f hc6 hm0
         refine V.skip ?_
         refine V.seq ?_
         refine V.region ?_
         refine VO.cons rfl (V1.assign rfl rfl rfl lt0 ?_)
         refine VO.nil ?_
         refine V.seq ?_
         replace hm0 := bindO hm0; rcases hm0 with ⟨y15, hh17, hm0⟩
         refine V.region ?_
         refine VO.cons rfl (V1.move rfl rfl rfl lt0 ?_)
         refine VO.cons rfl (V1.move rfl rfl rfl lt0 ?_)
         refine VO.weakenK (Keeps.nilsE (l := y10.2) 88 rn 1 (encL rn 1 encInt) (List.length_eq_zero_iff.1 (hh12.trans (congrArg List.length (hob0 rfl)))) rfl rfl) ?_
         refine VO.cons rfl (V1.call rfl rfl rfl cok_19 rfl (ok_laws_heldIntSS hh17) rfl lt0 ?_)
         rintro _ _ ⟨rfl, rfl⟩
         refine VO.cons rfl (V1.assign rfl rfl rfl lt0 ?_)
         refine VO.nil ?_
         refine V.keep 96 [10, 11] [] (E0 := [(10, .int .i64 y10.1), (11, .int .i64 y15)]) (H0 := []) rfl (⟨_, _, rfl, rfl, ⟨_, _, rfl, rfl, rfl⟩⟩) (rfl) rfl ?_
         refine V.seq ?_
         refine V.seq ?_
         refine V.region ?_
         refine VO.cons rfl (V1.move rfl rfl rfl lt0 ?_)
         refine VO.cons rfl (V1.int rfl rfl rfl rfl rfl lt0 ?_)
         refine VO.nil ?_
         refine V.cond rfl (fun hc7 => ?_) (fun hc7 => ?_)
         ·
          replace hm0 := cond_t hc7 hm0
          refine V.seq ?_
          refine V.region ?_
          refine VO.cons rfl (V1.assign rfl rfl rfl lt0 ?_)
          refine VO.nil ?_
          refine V.ret ?_
          obtain rfl := Option.some.inj hm0
          exact ⟨_, [], ⟨_, _, rfl, rfl, rfl⟩, List.nil_sublist _, rfl, rfl⟩
         ·
          replace hm0 := cond_f hc7 hm0
          refine V.skip ?_
          refine V.seq ?_
          refine V.seq ?_
          refine V.region ?_
          refine VO.cons rfl (V1.move rfl rfl rfl lt0 ?_)
          refine VO.cons rfl (V1.move rfl rfl rfl lt0 ?_)
          refine VO.cons rfl (V1.int rfl rfl rfl rfl rfl lt0 ?_)
          refine VO.nil ?_
          refine V.keep 96 [95] [] (E0 := [(95, .bool (y15 != y10.1))]) (H0 := []) rfl (⟨_, _, rfl, rfl, rfl⟩) (rfl) rfl ?_
          refine V.cond rfl (fun hc8 => ?_) (fun hc8 => ?_)
          ·
           replace hm0 := cond_t hc8 hm0
           refine V.seq ?_
           refine V.region ?_
           refine VO.cons rfl (V1.assign rfl rfl rfl lt0 ?_)
           refine VO.nil ?_
           refine V.ret ?_
           obtain rfl := Option.some.inj hm0
           exact ⟨_, [], ⟨_, _, rfl, rfl, rfl⟩, List.nil_sublist _, rfl, rfl⟩
          ·
           replace hm0 := cond_f hc8 hm0
           refine V.skip ?_
           refine V.seq ?_
           refine V.region ?_
           refine VO.cons rfl (V1.assign rfl rfl rfl lt0 ?_)
           refine VO.nil ?_
           refine V.ret ?_
           obtain rfl := Option.some.inj hm0
           exact ⟨_, [], ⟨_, _, rfl, rfl, rfl⟩, List.nil_sublist _, rfl, rfl⟩
  ·
   refine V.keepT 96 [0, 4, 5, 6, 7, 8] [0, 1] (E0 := [(0, .vl ρ0 5 (List.map (encCarton σ0) aList)), (4, .vl rn 1 (List.map (encL rn 1 encInt) y2.1)), (5, .bool y2.2), (6, .sref b2 5 0 (List.length y3)), (7, .sref ob0 1 0 (List.length y4.1)), (8, .bool y4.2)]) (A := [(ob0, ⟨1, deepC (cellRow (β := Int)) ts_58 y4.1⟩), (b2, ⟨5, deepC cellCarton ts_57 y3⟩)]) (T := (os_58 ++ os_57)) (H0 := [(ob0, ⟨1, deepC (cellRow (β := Int)) ts_58 y4.1⟩), (b2, ⟨5, deepC cellCarton ts_57 y3⟩)]) (T' := (os_58 ++ os_57)) rfl (⟨_, _, rfl, rfl, ⟨_, _, rfl, rfl, ⟨_, _, rfl, rfl, ⟨_, _, rfl, rfl, ⟨_, _, rfl, rfl, ⟨_, _, rfl, rfl, rfl⟩⟩⟩⟩⟩⟩) rfl (⟨_, _, rfl, rfl, ⟨_, _, rfl, rfl, rfl⟩⟩) rfl (List.Sublist.refl _) ?_
   refine V.seq ?_
   refine V.seq ?_
   replace hm0 := bindO hm0; rcases hm0 with ⟨y5, hh5, hm0⟩
   refine V.region ?_
   refine VO.cons rfl (V1.move rfl rfl rfl lt0 ?_)
   refine VO.cons rfl (V1.move rfl rfl rfl lt0 ?_)
   refine VO.cons rfl (V1.callL (rn + 1) ([ob0] ++ List.map Prod.fst os_58) [.vl (rn + 1) 1 (List.map (encL (rn + 1) 1 encInt) y4.1), .vl rn 1 (List.map (encL rn 1 encInt) y2.1)] rfl rfl rfl cok_15 rfl ⟨_, _, rfl, Lend.deep (m := 1) (inn := (fun c_ : List Int => List.map encInt c_)) (cell := (cellRow (β := Int))) (cokRow 1 encInt) (ts := ts_58) (os := os_58) (xs := y4.1) 0 hd_58 rfl (fun _ => roL_map (fun _ => rfl) _) rfl (fun p hp => memTail (A := [(ob0, ⟨1, deepC (cellRow (β := Int)) ts_58 y4.1⟩), (b2, ⟨5, deepC cellCarton ts_57 y3⟩)]) (T := (os_58 ++ os_57)) (List.mem_append_left _ hp) rfl) (List.mem_append_left _ (.head _)) (fun p hp => List.mem_append_right _ (List.mem_map.2 ⟨p, hp, rfl⟩)), ⟨_, _, rfl, .same _, rfl⟩⟩ (bwTail (A := [(ob0, ⟨1, deepC (cellRow (β := Int)) ts_58 y4.1⟩), (b2, ⟨5, deepC cellCarton ts_57 y3⟩)]) (T := (os_58 ++ os_57)) rfl (bwCons (k := 0) rfl bwNil) (fun p hp => (List.mem_append_left _ hp))) (ok_laws_eqIntSS hh5) rfl (⟨(by first | omega | (dsimp only; omega)), by rintro _ _ ⟨rfl, rfl⟩; exact ⟨rfl, by simp⟩⟩) lt0 ?_)
   rintro _ _ ⟨rfl, rfl⟩
   refine VO.cons rfl (V1.not rfl rfl rfl lt0 ?_)
   refine VO.cons rfl (V1.move rfl rfl rfl lt0 ?_)
   apply VO.or (n := 3) rfl rfl rfl rfl rfl rfl lt0 (.none rfl)
   ·
    intro hg0
    refine VO.step (.some rfl rfl rfl) (V1.move rfl rfl rfl lt0 ?_)
    refine VO.step (.some rfl rfl rfl) (V1.move rfl rfl rfl lt0 ?_)
    refine VO.step (.some rfl rfl rfl) (V1.boolNeq rfl rfl und_4 rfl rfl lt0 ?_)
    exact VO.nil ⟨rfl, rfl, rfl, rfl, .inr ⟨rfl, .inr ⟨rfl, .inr ⟨rfl, .inr ⟨rfl, .inl rfl⟩⟩⟩⟩⟩
   refine VO.nil ?_
   refine V.keepT 96 [0, 4, 5, 6, 7, 8, 40] [0, 1] (E0 := [(0, .vl ρ0 5 (List.map (encCarton σ0) aList)), (4, .vl rn 1 (List.map (encL rn 1 encInt) y2.1)), (5, .bool y2.2), (6, .sref b2 5 0 (List.length y3)), (7, .sref ob0 1 0 (List.length y4.1)), (8, .bool y4.2), (40, .bool ((!y5) || (!(y4.2 == y2.2))))]) (A := [(ob0, ⟨1, deepC (cellRow (β := Int)) ts_58 y4.1⟩), (b2, ⟨5, deepC cellCarton ts_57 y3⟩)]) (T := (os_58 ++ os_57)) (H0 := [(ob0, ⟨1, deepC (cellRow (β := Int)) ts_58 y4.1⟩), (b2, ⟨5, deepC cellCarton ts_57 y3⟩)]) (T' := (os_58 ++ os_57)) rfl (⟨_, _, rfl, rfl, ⟨_, _, rfl, rfl, ⟨_, _, rfl, rfl, ⟨_, _, rfl, rfl, ⟨_, _, rfl, rfl, ⟨_, _, rfl, rfl, ⟨_, _, rfl, rfl, rfl⟩⟩⟩⟩⟩⟩⟩) rfl (⟨_, _, rfl, rfl, ⟨_, _, rfl, rfl, rfl⟩⟩) rfl (List.Sublist.refl _) ?_
   refine V.cond rfl (fun hc1 => ?_) (fun hc1 => ?_)
   ·
    replace hm0 := cond_t hc1 hm0
    refine V.seq ?_
    refine V.region ?_
    refine VO.cons rfl (V1.assign rfl rfl rfl lt0 ?_)
    refine VO.nil ?_
    refine V.ret ?_
    obtain rfl := Option.some.inj hm0
    exact ⟨_, [], ⟨_, _, rfl, rfl, rfl⟩, List.nil_sublist _, rfl, rfl⟩
   ·
    replace hm0 := cond_f hc1 hm0
    refine V.skip ?_
    refine V.seq ?_
    refine V.seq ?_
    replace hm0 := bindO hm0; rcases hm0 with ⟨y6, hh6, hm0⟩
    replace hm0 := bindO hm0; rcases hm0 with ⟨y7, hh7, hm0⟩
    refine V.region ?_
    refine VO.cons rfl (V1.move rfl rfl rfl lt0 ?_)
    refine VO.cons rfl (V1.move rfl rfl rfl lt0 ?_)
    refine VO.cons rfl (V1.call rfl rfl rfl cok_22 rfl (ok_laws_toCartonS hh6) rfl lt0 ?_)
    rintro _ _ ⟨b3, rfl, rfl⟩
    refine VO.weakenK (Keeps.freezeG 0 rn [(43, .vl rn 5 (List.map (encCarton rn) y6))] ((ob0, ⟨1, deepC (cellRow (β := Int)) ts_58 y4.1⟩) :: (b2, ⟨5, deepC cellCarton ts_57 y3⟩) :: (os_58 ++ os_57)) (f := (encCarton rn)) (l := y6) rfl (fun _ => rfl) ⟨⟨_, rfl, .here⟩, trivial⟩ ⟨_, _, rfl, rfl, .inl rfl, ⟨_, _, rfl, rfl, .inl rfl, FrzH.same⟩⟩ rfl iNil) ?_
    refine VO.cons rfl (V1.callL (rn + 1) ([b2] ++ List.map Prod.fst os_57) [.vl (rn + 1) 5 (List.map (encCarton (rn + 1)) y3), .vl rn 5 (List.map (encCarton rn) y6)] rfl rfl rfl cok_25 rfl ⟨_, _, rfl, Lend.deep (m := 1) (inn := (fun c_ : Carton => List.map encInt c_.Files)) (cell := cellCarton) cokCarton (ts := ts_57) (os := os_57) (xs := y3) 1 hd_57 rfl (fun _ => roL_map (fun _ => rfl) _) rfl (fun p hp => memTail (A := [(ob0, ⟨1, deepC (cellRow (β := Int)) ts_58 y4.1⟩), (b2, ⟨5, deepC cellCarton ts_57 y3⟩)]) (T := (os_58 ++ os_57)) (List.mem_append_right _ hp) rfl) (List.mem_append_left _ (.head _)) (fun p hp => List.mem_append_right _ (List.mem_map.2 ⟨p, hp, rfl⟩)), ⟨_, _, rfl, .same _, rfl⟩⟩ (bwTail (A := [(ob0, ⟨1, deepC (cellRow (β := Int)) ts_58 y4.1⟩), (b2, ⟨5, deepC cellCarton ts_57 y3⟩)]) (T := (os_58 ++ os_57)) rfl (bwCons (k := 1) rfl bwNil) (fun p hp => (List.mem_append_right _ hp))) (ok_laws_eqCartonS hh7) rfl (⟨(by first | omega | (dsimp only; omega)), by rintro _ _ ⟨rfl, rfl⟩; exact ⟨rfl, by simp⟩⟩) lt0 ?_)
    rintro _ _ ⟨rfl, rfl⟩
    refine VO.cons rfl (V1.not rfl rfl rfl lt0 ?_)
    refine VO.nil ?_
    refine V.keepT 96 [0, 4, 5, 6, 7, 8, 45] [0, 1] (E0 := [(0, .vl ρ0 5 (List.map (encCarton σ0) aList)), (4, .vl rn 1 (List.map (encL rn 1 encInt) y2.1)), (5, .bool y2.2), (6, .sref b2 5 0 (List.length y3)), (7, .sref ob0 1 0 (List.length y4.1)), (8, .bool y4.2), (45, .bool (!y7))]) (A := [(ob0, ⟨1, deepC (cellRow (β := Int)) ts_58 y4.1⟩), (b2, ⟨5, deepC cellCarton ts_57 y3⟩)]) (T := (os_58 ++ os_57)) (H0 := [(ob0, ⟨1, deepC (cellRow (β := Int)) ts_58 y4.1⟩), (b2, ⟨5, deepC cellCarton ts_57 y3⟩)]) (T' := (os_58 ++ os_57)) rfl (⟨_, _, rfl, rfl, ⟨_, _, rfl, rfl, ⟨_, _, rfl, rfl, ⟨_, _, rfl, rfl, ⟨_, _, rfl, rfl, ⟨_, _, rfl, rfl, ⟨_, _, rfl, rfl, rfl⟩⟩⟩⟩⟩⟩⟩) rfl (⟨_, _, rfl, rfl, ⟨_, _, rfl, rfl, rfl⟩⟩) rfl (List.Sublist.refl _) ?_
    refine V.cond rfl (fun hc2 => ?_) (fun hc2 => ?_)
    ·
     replace hm0 := cond_t hc2 hm0
     refine V.seq ?_
     refine V.region ?_
     refine VO.cons rfl (V1.assign rfl rfl rfl lt0 ?_)
     refine VO.nil ?_
     refine V.ret ?_
     obtain rfl := Option.some.inj hm0
     exact ⟨_, [], ⟨_, _, rfl, rfl, rfl⟩, List.nil_sublist _, rfl, rfl⟩
    ·
     replace hm0 := cond_f hc2 hm0
     refine V.skip ?_
     refine V.seq ?_
     refine V.region ?_
     refine VO.cons rfl (V1.assign rfl rfl rfl lt0 ?_)
     refine VO.nil ?_
     refine V.seq ?_
     replace hm0 := bindO hm0; rcases hm0 with ⟨y8, hh8, hm0⟩
     replace hm0 := asrt_some hm0; rcases hm0 with ⟨hh9, hm0⟩
     refine V.region ?_
     refine VO.cons rfl (V1.move rfl rfl rfl lt0 ?_)
     refine VO.cons rfl (V1.move rfl rfl rfl lt0 ?_)
     refine VO.cons rfl (V1.permK (V1.callDT 1 (A := [(ob0, ⟨1, deepC (cellRow (β := Int)) ts_58 y4.1⟩), (b2, ⟨5, deepC cellCarton ts_57 y3⟩)]) (A' := [(ob0, ⟨1, deepC (cellRow (β := Int)) ts_58 y4.1⟩)]) (T0 := (os_58 ++ os_57)) (os := os_57) (T := os_58) (p := (b2, ⟨5, deepC cellCarton ts_57 y3⟩)) rfl rfl rfl cok_26 rfl rfl List.perm_append_comm rfl rfl (rn + 1) [] [.sref b2 5 0 (List.length y3), .int .i64 (1 : Int)] ⟨_, _, rfl, .same _, ⟨_, _, rfl, .same _, rfl⟩⟩ bwNil (ok_laws_markCartonS hh8 (oq := some b2) (tq := ts_57) (oz := os_57) (fun e => by cases e) hd_57) rfl (.inl rfl) lt0 ?_))
     rintro _ _ ⟨ts_84, os_84, hd_84, rfl, rfl⟩
     refine ⟨_, ?_, Keeps.perm (([(b2, ⟨5, deepC cellCarton ts_84 y8.2⟩), (ob0, ⟨1, deepC (cellRow (β := Int)) ts_58 y4.1⟩)] : List (Nat × Obj')) ++ (os_84 ++ os_58)) (permDeep (p := (b2, ⟨5, deepC cellCarton ts_84 y8.2⟩)) (os := os_84) (A := [(ob0, ⟨1, deepC (cellRow (β := Int)) ts_58 y4.1⟩)]) (T := os_58))⟩
     refine VO.cons rfl (V1.assign rfl rfl rfl lt0 ?_)
     refine VO.nil ?_
     refine V.seq ?_
     refine V.seq ?_
     replace hm0 := bindO hm0; rcases hm0 with ⟨y9, hh10, hm0⟩
     refine V.region ?_
     refine VO.cons rfl (V1.move rfl rfl rfl lt0 ?_)
     refine VO.cons rfl (V1.int rfl rfl rfl rfl rfl lt0 ?_)
     refine VO.cons rfl (V1.move rfl rfl rfl lt0 ?_)
     apply VO.or (n := 4) rfl rfl rfl rfl rfl rfl lt0 (.none rfl)
     ·
      intro hg1
      refine VO.step (.some rfl rfl rfl) (V1.move rfl rfl rfl lt0 ?_)
      refine VO.step (.some rfl rfl rfl) (V1.move rfl rfl rfl lt0 ?_)
      refine VO.step (.some rfl rfl rfl) (V1.callL (rn + 1) ([ob0] ++ List.map Prod.fst os_58) [.vl (rn + 1) 1 (List.map (encL (rn + 1) 1 encInt) y4.1), .vl rn 1 (List.map (encL rn 1 encInt) y2.1)] rfl rfl rfl cok_15 rfl ⟨_, _, rfl, Lend.deep (m := 1) (inn := (fun c_ : List Int => List.map encInt c_)) (cell := (cellRow (β := Int))) (cokRow 1 encInt) (ts := ts_58) (os := os_58) (xs := y4.1) 1 hd_58 rfl (fun _ => roL_map (fun _ => rfl) _) rfl (fun p hp => memTail (A := [(b2, ⟨5, deepC cellCarton ts_84 y8.2⟩), (ob0, ⟨1, deepC (cellRow (β := Int)) ts_58 y4.1⟩)]) (T := (os_84 ++ os_58)) (List.mem_append_right _ hp) rfl) (List.mem_append_left _ (.head _)) (fun p hp => List.mem_append_right _ (List.mem_map.2 ⟨p, hp, rfl⟩)), ⟨_, _, rfl, .same _, rfl⟩⟩ (bwTail (A := [(b2, ⟨5, deepC cellCarton ts_84 y8.2⟩), (ob0, ⟨1, deepC (cellRow (β := Int)) ts_58 y4.1⟩)]) (T := (os_84 ++ os_58)) rfl (bwCons (k := 1) rfl bwNil) (fun p hp => (List.mem_append_right _ hp))) (ok_laws_eqIntSS (cond_f hg1 hh10)) rfl (⟨(by first | omega | (dsimp only; omega)), by rintro _ _ ⟨rfl, rfl⟩; exact ⟨rfl, by simp⟩⟩) lt0 ?_)
      rintro _ _ ⟨rfl, rfl⟩
      refine VO.step (.some rfl rfl rfl) (V1.not rfl rfl rfl lt0 ?_)
      exact VO.nil ⟨rfl, rfl, rfl, rfl, .inr ⟨rfl, .inr ⟨rfl, .inr ⟨rfl, .inr ⟨rfl, .inr ⟨rfl, .inl rfl⟩⟩⟩⟩⟩⟩
     refine VO.cons rfl (V1.move rfl rfl rfl lt0 ?_)
     apply VO.or (n := 3) rfl rfl rfl rfl rfl rfl lt0 (.none rfl)
     ·
      intro hg2
      refine VO.step (.some rfl rfl rfl) (V1.move rfl rfl rfl lt0 ?_)
      refine VO.step (.some rfl rfl rfl) (V1.move rfl rfl rfl lt0 ?_)
      refine VO.step (.some rfl rfl rfl) (V1.boolNeq rfl rfl und_4 rfl rfl lt0 ?_)
      exact VO.nil ⟨rfl, rfl, rfl, rfl, .inr ⟨rfl, .inr ⟨rfl, .inr ⟨rfl, .inr ⟨rfl, .inl rfl⟩⟩⟩⟩⟩
     refine VO.nil ?_
     refine V.keepT 96 [0, 4, 5, 7, 61] [1] (E0 := [(0, .vl ρ0 5 (List.map (encCarton σ0) aList)), (4, .vl rn 1 (List.map (encL rn 1 encInt) y2.1)), (5, .bool y2.2), (7, .sref ob0 1 0 (List.length y4.1)), (61, .bool (((decide (y8.1 < (0 : Int))) || (!y9)) || (!(y4.2 == y2.2))))]) (A := [(b2, ⟨5, deepC cellCarton ts_84 y8.2⟩), (ob0, ⟨1, deepC (cellRow (β := Int)) ts_58 y4.1⟩)]) (T := (os_84 ++ os_58)) (H0 := [(ob0, ⟨1, deepC (cellRow (β := Int)) ts_58 y4.1⟩)]) (T' := os_58) rfl (⟨_, _, rfl, rfl, ⟨_, _, rfl, rfl, ⟨_, _, rfl, rfl, ⟨_, _, rfl, rfl, ⟨_, _, rfl, rfl, rfl⟩⟩⟩⟩⟩) rfl (⟨_, _, rfl, rfl, rfl⟩) rfl (List.sublist_append_right _ _) ?_
     refine V.cond rfl (fun hc3 => ?_) (fun hc3 => ?_)
     ·
      replace hm0 := cond_t hc3 hm0
      refine V.seq ?_
      refine V.region ?_
      refine VO.cons rfl (V1.assign rfl rfl rfl lt0 ?_)
      refine VO.nil ?_
      refine V.ret ?_
      obtain rfl := Option.some.inj hm0
      exact ⟨_, [], ⟨_, _, rfl, rfl, rfl⟩, List.nil_sublist _, rfl, rfl⟩
     ·
      replace hm0 := cond_f hc3 hm0
      refine V.skip ?_
      refine V.seq ?_
      refine V.region ?_
      refine VO.cons rfl (V1.assign rfl rfl rfl lt0 ?_)
      refine VO.nil ?_
      refine V.seq ?_
      replace hm0 := bindO hm0; rcases hm0 with ⟨y10, hh11, hm0⟩
      replace hm0 := asrt_some hm0; rcases hm0 with ⟨hh12, hm0⟩
      refine V.region ?_
      refine VO.cons rfl (V1.move rfl rfl rfl lt0 ?_)
      refine VO.cons rfl (V1.move rfl rfl rfl lt0 ?_)
      refine VO.cons rfl (V1.permK (V1.callDT 0 (A := [(ob0, ⟨1, deepC (cellRow (β := Int)) ts_58 y4.1⟩)]) (A' := []) (T0 := os_58) (os := os_58) (T := []) (p := (ob0, ⟨1, deepC (cellRow (β := Int)) ts_58 y4.1⟩)) rfl rfl rfl cok_18 rfl rfl (.of_eq (List.append_nil _).symm) rfl rfl (rn + 1) [] [.sref ob0 1 0 (List.length y4.1), .int .i64 (1 : Int)] ⟨_, _, rfl, .same _, ⟨_, _, rfl, .same _, rfl⟩⟩ bwNil (ok_laws_markIntSS hh11 (oq := some ob0) (tq := ts_58) (oz := os_58) (fun e => by cases e) hd_58) rfl (.inl rfl) lt0 ?_))
      rintro _ _ ⟨ts_86, os_86, hd_86, rfl, rfl⟩
      refine ⟨_, ?_, Keeps.perm (([(ob0, ⟨1, deepC (cellRow (β := Int)) ts_86 y10.2⟩)] : List (Nat × Obj')) ++ os_86) (permDeep0 (p := (ob0, ⟨1, deepC (cellRow (β := Int)) ts_86 y10.2⟩)) (os := os_86) (A := []))⟩
      refine VO.weakenK (Keeps.say 7 (y := .sref ob0 1 0 (List.length y10.2)) rfl (congrArg (PV.sref ob0 1 0) hh12.symm)) ?_
      refine VO.cons rfl (V1.assign rfl rfl rfl lt0 ?_)
      refine VO.nil ?_
      refine V.seq ?_
      refine V.region ?_
      refine VO.cons rfl (V1.assign rfl rfl rfl lt0 ?_)
      refine VO.nil ?_
      refine V.seq ?_
      replace hm0 := bindO hm0; rcases hm0 with ⟨y11, hh13, hm0⟩
      refine V.region ?_
      refine VO.cons rfl (V1.move rfl rfl rfl lt0 ?_)
      refine VO.cons rfl (V1.move rfl rfl rfl lt0 ?_)
      refine VO.cons rfl (V1.callL (rn + 1) ([ob0] ++ List.map Prod.fst os_86) [.vl (rn + 1) 1 (List.map (encL (rn + 1) 1 encInt) y10.2), .int .i64 (1 : Int)] rfl rfl rfl cok_19 rfl ⟨_, _, rfl, Lend.deep (m := 1) (inn := (fun c_ : List Int => List.map encInt c_)) (cell := (cellRow (β := Int))) (cokRow 1 encInt) (ts := ts_86) (os := os_86) (xs := y10.2) 0 hd_86 rfl (fun _ => roL_map (fun _ => rfl) _) rfl (fun p hp => memTail (A := [(ob0, ⟨1, deepC (cellRow (β := Int)) ts_86 y10.2⟩)]) (T := os_86) hp rfl) (List.mem_append_left _ (.head _)) (fun p hp => List.mem_append_right _ (List.mem_map.2 ⟨p, hp, rfl⟩)), ⟨_, _, rfl, .same _, rfl⟩⟩ (bwTail (A := [(ob0, ⟨1, deepC (cellRow (β := Int)) ts_86 y10.2⟩)]) (T := os_86) rfl (bwCons (k := 0) rfl bwNil) (fun p hp => hp)) (ok_laws_heldIntSS hh13) rfl (⟨(by first | omega | (dsimp only; omega)), by rintro _ _ ⟨rfl, rfl⟩; exact ⟨rfl, by simp⟩⟩) lt0 ?_)
      rintro _ _ ⟨rfl, rfl⟩
      refine VO.cons rfl (V1.assign rfl rfl rfl lt0 ?_)
      refine VO.nil ?_
      refine V.keepT 96 [0, 4, 5, 7, 10, 11] [0] (E0 := [(0, .vl ρ0 5 (List.map (encCarton σ0) aList)), (4, .vl rn 1 (List.map (encL rn 1 encInt) y2.1)), (5, .bool y2.2), (7, .sref ob0 1 0 (List.length y10.2)), (10, .int .i64 y10.1), (11, .int .i64 y11)]) (A := [(ob0, ⟨1, deepC (cellRow (β := Int)) ts_86 y10.2⟩)]) (T := os_86) (H0 := [(ob0, ⟨1, deepC (cellRow (β := Int)) ts_86 y10.2⟩)]) (T' := os_86) rfl (⟨_, _, rfl, rfl, ⟨_, _, rfl, rfl, ⟨_, _, rfl, rfl, ⟨_, _, rfl, rfl, ⟨_, _, rfl, rfl, ⟨_, _, rfl, rfl, rfl⟩⟩⟩⟩⟩⟩) rfl (⟨_, _, rfl, rfl, rfl⟩) rfl (List.Sublist.refl _) ?_
      refine V.seq ?_
      refine V.seq ?_
      refine V.region ?_
      refine VO.cons rfl (V1.move rfl rfl rfl lt0 ?_)
      refine VO.cons rfl (V1.int rfl rfl rfl rfl rfl lt0 ?_)
      refine VO.nil ?_
      refine V.cond rfl (fun hc4 => ?_) (fun hc4 => ?_)
      ·
       replace hm0 := cond_t hc4 hm0
       refine V.seq ?_
       refine V.region ?_
       refine VO.cons rfl (V1.assign rfl rfl rfl lt0 ?_)
       refine VO.nil ?_
       refine V.ret ?_
       obtain rfl := Option.some.inj hm0
       exact ⟨_, [], ⟨_, _, rfl, rfl, rfl⟩, List.nil_sublist _, rfl, rfl⟩
      ·
       replace hm0 := cond_f hc4 hm0
       refine V.skip ?_
       refine V.seq ?_
       refine V.seq ?_
       refine V.region ?_
       refine VO.cons rfl (V1.move rfl rfl rfl lt0 ?_)
       refine VO.cons rfl (V1.move rfl rfl rfl lt0 ?_)
       refine VO.cons rfl (V1.int rfl rfl rfl rfl rfl lt0 ?_)
       refine VO.nil ?_
       refine V.keepT 96 [0, 4, 5, 7, 10, 72] [0] (E0 := [(0, .vl ρ0 5 (List.map (encCarton σ0) aList)), (4, .vl rn 1 (List.map (encL rn 1 encInt) y2.1)), (5, .bool y2.2), (7, .sref ob0 1 0 (List.length y10.2)), (10, .int .i64 y10.1), (72, .bool (y11 != y10.1))]) (A := [(ob0, ⟨1, deepC (cellRow (β := Int)) ts_86 y10.2⟩)]) (T := os_86) (H0 := [(ob0, ⟨1, deepC (cellRow (β := Int)) ts_86 y10.2⟩)]) (T' := os_86) rfl (⟨_, _, rfl, rfl, ⟨_, _, rfl, rfl, ⟨_, _, rfl, rfl, ⟨_, _, rfl, rfl, ⟨_, _, rfl, rfl, ⟨_, _, rfl, rfl, rfl⟩⟩⟩⟩⟩⟩) rfl (⟨_, _, rfl, rfl, rfl⟩) rfl (List.Sublist.refl _) ?_
       refine V.cond rfl (fun hc5 => ?_) (fun hc5 => ?_)
       ·
        replace hm0 := cond_t hc5 hm0
        refine V.seq ?_
        refine V.region ?_
        refine VO.cons rfl (V1.assign rfl rfl rfl lt0 ?_)
        refine VO.nil ?_
        refine V.ret ?_
        obtain rfl := Option.some.inj hm0
        exact ⟨_, [], ⟨_, _, rfl, rfl, rfl⟩, List.nil_sublist _, rfl, rfl⟩
       ·
        replace hm0 := cond_f hc5 hm0
        refine V.skip ?_
        refine V.seq ?_
        replace hm0 := bindO hm0; rcases hm0 with ⟨y12, hh14, hm0⟩
        replace hm0 := bindO hm0; rcases hm0 with ⟨y13, hh15, hm0⟩
        refine V.region ?_
        refine VO.cons rfl (V1.move rfl rfl rfl lt0 ?_)
        refine VO.cons rfl (V1.call rfl rfl rfl cok_22 rfl (ok_laws_toCartonS hh14) rfl lt0 ?_)
        rintro _ _ ⟨b4, rfl, rfl⟩
        refine VO.weakenK (Keeps.freezeG 0 rn [(75, .vl rn 5 (List.map (encCarton rn) y12))] ((ob0, ⟨1, deepC (cellRow (β := Int)) ts_86 y10.2⟩) :: os_86) (f := (encCarton rn)) (l := y12) rfl (fun _ => rfl) ⟨⟨_, rfl, .here⟩, trivial⟩ ⟨_, _, rfl, rfl, .inl rfl, FrzH.same⟩ rfl iNil) ?_
        refine VO.cons rfl (V1.permK (V1.call rfl rfl rfl cok_30 rfl (ok_impl_RoomLoad hh15) rfl lt0 ?_))
        rintro _ _ ⟨ob1, hob1, rfl, rfl⟩
        refine ⟨_, ?_, Keeps.optBack (n := 1) (ob := ob1) (xs := List.map (encL rn 1 encInt) y13.1) (H1 := []) (H2 := (([(ob0, ⟨1, deepC (cellRow (β := Int)) ts_86 y10.2⟩)] : List (Nat × Obj')) ++ os_86)) rfl⟩
        refine VO.cons rfl (V1.move rfl rfl rfl lt0 ?_)
        refine VO.cons rfl (V1.extract rfl rfl rfl rfl lt0 ?_)
        refine VO.weakenK (Keeps.optFront (n := 1) (ob := ob1) (xs := (List.map (encL rn 1 encInt) y13.1)) (H1 := (([(ob0, ⟨1, deepC (cellRow (β := Int)) ts_86 y10.2⟩)] : List (Nat × Obj')) ++ os_86)) rfl) ?_
        refine VO.weakenK (Keeps.optVl 77 [] rn (f := (encL rn 1 encInt)) (l := y13.1) (ob := ob1) (H1 := []) hob1 rfl rfl ⟨rfl, trivial⟩ (fun _ => rfl) rfl iNil) ?_
        refine VO.cons rfl (V1.extract rfl rfl rfl rfl lt0 ?_)
        refine VO.cons rfl (V1.assign rfl rfl rfl lt0 ?_)
        refine VO.cons rfl (V1.assign rfl rfl rfl lt0 ?_)
        refine VO.nil ?_
        refine V.keepT 96 [4, 5, 7, 10, 12, 13] [0] (E0 := [(4, .vl rn 1 (List.map (encL rn 1 encInt) y2.1)), (5, .bool y2.2), (7, .sref ob0 1 0 (List.length y10.2)), (10, .int .i64 y10.1), (12, .vl rn 1 (List.map (encL rn 1 encInt) y13.1)), (13, .bool y13.2)]) (A := [(ob0, ⟨1, deepC (cellRow (β := Int)) ts_86 y10.2⟩)]) (T := os_86) (H0 := [(ob0, ⟨1, deepC (cellRow (β := Int)) ts_86 y10.2⟩)]) (T' := os_86) rfl (⟨_, _, rfl, rfl, ⟨_, _, rfl, rfl, ⟨_, _, rfl, rfl, ⟨_, _, rfl, rfl, ⟨_, _, rfl, rfl, ⟨_, _, rfl, rfl, rfl⟩⟩⟩⟩⟩⟩) rfl (⟨_, _, rfl, rfl, rfl⟩) rfl (List.Sublist.refl _) ?_
        refine V.seq ?_
        refine V.seq ?_
        replace hm0 := bindO hm0; rcases hm0 with ⟨y14, hh16, hm0⟩
        refine V.region ?_
        refine VO.cons rfl (V1.move rfl rfl rfl lt0 ?_)
        refine VO.cons rfl (V1.move rfl rfl rfl lt0 ?_)
        refine VO.cons rfl (V1.call rfl rfl rfl cok_15 rfl (ok_laws_eqIntSS hh16) rfl lt0 ?_)
        rintro _ _ ⟨rfl, rfl⟩
        refine VO.cons rfl (V1.not rfl rfl rfl lt0 ?_)
        refine VO.cons rfl (V1.move rfl rfl rfl lt0 ?_)
        apply VO.or (n := 3) rfl rfl rfl rfl rfl rfl lt0 (.none rfl)
        ·
         intro hg3
         refine VO.step (.some rfl rfl rfl) (V1.move rfl rfl rfl lt0 ?_)
         refine VO.step (.some rfl rfl rfl) (V1.move rfl rfl rfl lt0 ?_)
         refine VO.step (.some rfl rfl rfl) (V1.boolNeq rfl rfl und_4 rfl rfl lt0 ?_)
         exact VO.nil ⟨rfl, rfl, rfl, rfl, .inr ⟨rfl, .inr ⟨rfl, .inr ⟨rfl, .inr ⟨rfl, .inl rfl⟩⟩⟩⟩⟩
        refine VO.nil ?_
        refine V.keepT 96 [7, 10, 87] [0] (E0 := [(7, .sref ob0 1 0 (List.length y10.2)), (10, .int .i64 y10.1), (87, .bool ((!y14) || (!(y13.2 == y2.2))))]) (A := [(ob0, ⟨1, deepC (cellRow (β := Int)) ts_86 y10.2⟩)]) (T := os_86) (H0 := [(ob0, ⟨1, deepC (cellRow (β := Int)) ts_86 y10.2⟩)]) (T' := os_86) rfl (⟨_, _, rfl, rfl, ⟨_, _, rfl, rfl, ⟨_, _, rfl, rfl, rfl⟩⟩⟩) rfl (⟨_, _, rfl, rfl, rfl⟩) rfl (List.Sublist.refl _) ?_
        refine V.cond rfl (fun hc6 => ?_) (fun hc6 => ?_)
        ·
         replace hm0 := cond_t hc6 hm0
         refine V.seq ?_
         refine V.region ?_
         refine VO.cons rfl (V1.assign rfl rfl rfl lt0 ?_)
         refine VO.nil ?_
         refine V.ret ?_
         obtain rfl := Option.some.inj hm0
         exact ⟨_, [], ⟨_, _, rfl, rfl, rfl⟩, List.nil_sublist _, rfl, rfl⟩
        ·
         replace hm0 := cond_f hc6 hm0
         refine V.skip ?_
         refine V.seq ?_
         refine V.region ?_
         refine VO.cons rfl (V1.assign rfl rfl rfl lt0 ?_)
         refine VO.nil ?_
         refine V.seq ?_
         replace hm0 := bindO hm0; rcases hm0 with ⟨y15, hh17, hm0⟩
         refine V.region ?_
         refine VO.cons rfl (V1.move rfl rfl rfl lt0 ?_)
         refine VO.cons rfl (V1.move rfl rfl rfl lt0 ?_)
         refine VO.cons rfl (V1.callL (rn + 1) ([ob0] ++ List.map Prod.fst os_86) [.vl (rn + 1) 1 (List.map (encL (rn + 1) 1 encInt) y10.2), .int .i64 (1 : Int)] rfl rfl rfl cok_19 rfl ⟨_, _, rfl, Lend.deep (m := 1) (inn := (fun c_ : List Int => List.map encInt c_)) (cell := (cellRow (β := Int))) (cokRow 1 encInt) (ts := ts_86) (os := os_86) (xs := y10.2) 0 hd_86 rfl (fun _ => roL_map (fun _ => rfl) _) rfl (fun p hp => memTail (A := [(ob0, ⟨1, deepC (cellRow (β := Int)) ts_86 y10.2⟩)]) (T := os_86) hp rfl) (List.mem_append_left _ (.head _)) (fun p hp => List.mem_append_right _ (List.mem_map.2 ⟨p, hp, rfl⟩)), ⟨_, _, rfl, .same _, rfl⟩⟩ (bwTail (A := [(ob0, ⟨1, deepC (cellRow (β := Int)) ts_86 y10.2⟩)]) (T := os_86) rfl (bwCons (k := 0) rfl bwNil) (fun p hp => hp)) (ok_laws_heldIntSS hh17) rfl (⟨(by first | omega | (dsimp only; omega)), by rintro _ _ ⟨rfl, rfl⟩; exact ⟨rfl, by simp⟩⟩) lt0 ?_)
         rintro _ _ ⟨rfl, rfl⟩
         refine VO.cons rfl (V1.assign rfl rfl rfl lt0 ?_)
         refine VO.nil ?_
         refine V.keepT 96 [10, 11] [] (E0 := [(10, .int .i64 y10.1), (11, .int .i64 y15)]) (A := [(ob0, ⟨1, deepC (cellRow (β := Int)) ts_86 y10.2⟩)]) (T := os_86) (H0 := []) (T' := []) rfl (⟨_, _, rfl, rfl, ⟨_, _, rfl, rfl, rfl⟩⟩) rfl (rfl) rfl (List.nil_sublist _) ?_
         refine V.seq ?_
         refine V.seq ?_
         refine V.region ?_
         refine VO.cons rfl (V1.move rfl rfl rfl lt0 ?_)
         refine VO.cons rfl (V1.int rfl rfl rfl rfl rfl lt0 ?_)
         refine VO.nil ?_
         refine V.cond rfl (fun hc7 => ?_) (fun hc7 => ?_)
         ·
          replace hm0 := cond_t hc7 hm0
          refine V.seq ?_
          refine V.region ?_
          refine VO.cons rfl (V1.assign rfl rfl rfl lt0 ?_)
          refine VO.nil ?_
          refine V.ret ?_
          obtain rfl := Option.some.inj hm0
          exact ⟨_, [], ⟨_, _, rfl, rfl, rfl⟩, List.nil_sublist _, rfl, rfl⟩
         ·
          replace hm0 := cond_f hc7 hm0
          refine V.skip ?_
          refine V.seq ?_
          refine V.seq ?_
          refine V.region ?_
          refine VO.cons rfl (V1.move rfl rfl rfl lt0 ?_)
          refine VO.cons rfl (V1.move rfl rfl rfl lt0 ?_)
          refine VO.cons rfl (V1.int rfl rfl rfl rfl rfl lt0 ?_)
          refine VO.nil ?_
          refine V.keep 96 [95] [] (E0 := [(95, .bool (y15 != y10.1))]) (H0 := []) rfl (⟨_, _, rfl, rfl, rfl⟩) (rfl) rfl ?_
          refine V.cond rfl (fun hc8 => ?_) (fun hc8 => ?_)
          ·
           replace hm0 := cond_t hc8 hm0
           refine V.seq ?_
           refine V.region ?_
           refine VO.cons rfl (V1.assign rfl rfl rfl lt0 ?_)
           refine VO.nil ?_
           refine V.ret ?_
           obtain rfl := Option.some.inj hm0
           exact ⟨_, [], ⟨_, _, rfl, rfl, rfl⟩, List.nil_sublist _, rfl, rfl⟩
          ·
           replace hm0 := cond_f hc8 hm0
           refine V.skip ?_
           refine V.seq ?_
           refine V.region ?_
           refine VO.cons rfl (V1.assign rfl rfl rfl lt0 ?_)
           refine VO.nil ?_
           refine V.ret ?_
           obtain rfl := Option.some.inj hm0
           exact ⟨_, [], ⟨_, _, rfl, rfl, rfl⟩, List.nil_sublist _, rfl, rfl⟩
end Go.Proofs.Ytfebeomnlkfgoaa
