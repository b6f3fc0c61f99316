/- the functions do what their models say -/
import Derived.Test.YteocnbeefedbkaaDoorQg1
set_option linter.unusedSimpArgs false
set_option linter.unusedVariables false
set_option maxRecDepth 100000
set_option maxHeartbeats 4000000
namespace Go.Proofs.YteocnbeefedbkaaDoor
open Go.VS

theorem ok_spec_SplitFile {ρ0 rn : Nat} {list : List File} {id_ : Int} {pages : Int} {title : List UInt8} {r : List File × Int × Bool} (h : M.spec_SplitFile list id_ pages title = some r) : Does Tryd.prog 22 [.vl ρ0 7 (List.map encFile list), .int .i64 id_, .int .i64 pages, .str title] [] rn (fun x H => ∃ (ob0_ : Nat), x = .tup [PV.sref ob0_ 7 0 (List.length r.1), .int .i64 r.2.1, .bool r.2.2] ∧ H = [(ob0_, ⟨7, List.map encFile r.1⟩)]) := by
 have hm0 := h; clear h; unfold M.spec_SplitFile at hm0
 try dsimp only at hm0
 refine Does.intro (N := 73) Tryd.func22 rfl rfl rfl rfl ?_
 intro w0 S0 L0
 refine V.seq ?_
 refine V.region ?_
 refine VO.cons rfl (V1.assign rfl rfl rfl lt0 ?_)
 refine VO.cons rfl (V1.assign rfl rfl rfl lt0 ?_)
 refine VO.cons rfl (V1.assign rfl rfl rfl lt0 ?_)
 refine VO.nil ?_
 refine V.seq ?_
 replace hm0 := bindO hm0; rcases hm0 with ⟨y0, hh0, hm0⟩
 refine V.region ?_
 refine VO.cons rfl (V1.move rfl rfl rfl lt0 ?_)
 refine VO.cons rfl (V1.move rfl rfl rfl lt0 ?_)
 refine VO.cons rfl (V1.call rfl rfl rfl cok_74 rfl (ok_spec_l5Find hh0) rfl lt0 ?_)
 rintro _ _ ⟨rfl, rfl⟩
 refine VO.cons rfl (V1.assign rfl rfl rfl lt0 ?_)
 refine VO.nil ?_
 refine V.keep 73 [0, 2, 3, 11] [] (E0 := [(0, .vl ρ0 7 (List.map encFile list)), (2, .int .i64 pages), (3, .str title), (11, .int .i64 y0)]) (H0 := []) rfl (⟨_, _, rfl, rfl, _, _, rfl, rfl, _, _, rfl, rfl, _, _, rfl, rfl, rfl⟩) (rfl) rfl ?_
 refine V.seq ?_
 refine V.seq ?_
 replace hm0 := asrt_some hm0; rcases hm0 with ⟨hh1, hm0⟩
 replace hm0 := bindO hm0; rcases hm0 with ⟨y1, hh2, hm0⟩
 refine V.region ?_
 refine VO.cons rfl (V1.move rfl rfl rfl lt0 ?_)
 refine VO.cons rfl (V1.int rfl rfl rfl rfl rfl lt0 ?_)
 refine VO.cons rfl (V1.move rfl rfl rfl lt0 ?_)
 apply VO.or (n := 9) rfl rfl rfl rfl rfl rfl lt0 (.none rfl)
 ·
  intro hg0
  refine VO.step (.some rfl rfl rfl) (V1.move rfl rfl rfl lt0 ?_)
  refine VO.step (.some rfl rfl rfl) (V1.move rfl rfl rfl lt0 ?_)
  refine VO.step (.some rfl rfl rfl) (V1.move rfl rfl rfl lt0 ?_)
  refine VO.step (.some rfl rfl rfl) (V1.indexI rfl rfl esz_41 rfl rfl (hh1 hg0) lt0 ?_)
  refine VO.step (.some rfl rfl rfl) (V1.fieldPin rfl rfl fo_97_6 rfl lt0 ?_)
  refine VO.step (.some rfl rfl rfl) (V1.loadPin rfl rfl tyk_3 rfl rfl lt0 ?_)
  refine VO.step (.some rfl rfl rfl) (V1.int rfl rfl rfl rfl rfl lt0 ?_)
  refine VO.step (.some rfl rfl rfl) (V1.call rfl rfl rfl cok_75 rfl (ok_spec_l1In (cond_f hg0 hh2)) rfl lt0 ?_)
  rintro _ _ ⟨rfl, rfl⟩
  refine VO.step (.some rfl rfl rfl) (V1.not rfl rfl rfl lt0 ?_)
  exact VO.nil ⟨rfl, rfl, rfl, rfl, .inr ⟨rfl, .inr ⟨rfl, .inr ⟨rfl, .inr ⟨rfl, .inr ⟨rfl, .inr ⟨rfl, .inr ⟨rfl, .inr ⟨rfl, .inr ⟨rfl, .inr ⟨rfl, .inl rfl⟩⟩⟩⟩⟩⟩⟩⟩⟩⟩⟩
 refine VO.nil ?_
 refine V.cond rfl (fun hc0 => ?_) (fun hc0 => ?_)
 ·
  replace hm0 := cond_t hc0 hm0
  refine V.seq ?_
  refine V.region ?_
  refine VO.cons rfl (V1.buildSliceT (f := encFile) ([] : List File) rfl rfl esz_41 zk_97 rfl rfl rfl rfl rfl rfl rfl lt0 ?_)
  intro b0
  refine VO.cons rfl (V1.assign rfl rfl rfl lt0 ?_)
  refine VO.cons rfl (V1.assign rfl rfl rfl lt0 ?_)
  refine VO.cons rfl (V1.assign rfl rfl rfl lt0 ?_)
  refine VO.nil ?_
  refine V.keep 73 [8, 9, 10] [0] (E0 := [(8, .sref b0 7 0 (List.length ([] : List File))), (9, .int .i64 (0 : Int)), (10, .bool false)]) (H0 := [(b0, ⟨7, List.map encFile ([] : List File)⟩)]) rfl (⟨_, _, rfl, rfl, _, _, rfl, rfl, _, _, rfl, rfl, rfl⟩) (⟨_, _, rfl, rfl, rfl⟩) rfl ?_
  refine V.ret ?_
  obtain rfl := Option.some.inj hm0
  exact ⟨_, _, ⟨_, _, rfl, rfl, _, _, rfl, rfl, _, _, rfl, rfl, rfl⟩, List.Sublist.refl _, b0, rfl, rfl⟩
 ·
  replace hm0 := cond_f hc0 hm0
  refine V.skip ?_
  refine V.keep 73 [0, 2, 3, 11] [] (E0 := [(0, .vl ρ0 7 (List.map encFile list)), (2, .int .i64 pages), (3, .str title), (11, .int .i64 y0)]) (H0 := []) rfl (⟨_, _, rfl, rfl, _, _, rfl, rfl, _, _, rfl, rfl, _, _, rfl, rfl, rfl⟩) (rfl) rfl ?_
  refine V.seq ?_
  replace hm0 := asrt_some hm0; rcases hm0 with ⟨hh3, hm0⟩
  refine V.region ?_
  refine VO.cons rfl (V1.move rfl rfl rfl lt0 ?_)
  refine VO.cons rfl (V1.move rfl rfl rfl lt0 ?_)
  refine VO.cons rfl (V1.indexI rfl rfl esz_41 rfl rfl hh3 lt0 ?_)
  refine VO.cons rfl (V1.loadPinAll rfl rfl tyk_97 rfl rfl lt0 ?_)
  refine VO.cons rfl (V1.alloc rfl rfl zk_97 lt0 ?_)
  intro b1
  refine VO.cons rfl (V1.storeRefAll (k := 0) rfl rfl tyk_97 rfl rfl rfl rfl rfl rfl ?_)
  refine VO.nil ?_
  refine V.keep 73 [0, 2, 3, 11, 12] [0] (E0 := [(0, .vl ρ0 7 (List.map encFile list)), (2, .int .i64 pages), (3, .str title), (11, .int .i64 y0), (12, .ref b1 7 0 0)]) (H0 := [(b1, ⟨7, [encFile (list.getD (Int.toNat y0) default)]⟩)]) rfl (⟨_, _, rfl, rfl, _, _, rfl, rfl, _, _, rfl, rfl, _, _, rfl, rfl, _, _, rfl, rfl, rfl⟩) (⟨_, _, rfl, rfl, rfl⟩) rfl ?_
  refine V.seq ?_
  replace hm0 := asrt_some hm0; rcases hm0 with ⟨hh4, hm0⟩
  refine V.region ?_
  refine VO.cons rfl (V1.move rfl rfl rfl lt0 ?_)
  refine VO.cons rfl (V1.move rfl rfl rfl lt0 ?_)
  refine VO.cons rfl (V1.lenMap rfl rfl rfl rfl rfl rfl isl_41 lt0 ?_)
  refine VO.cons rfl (V1.int rfl rfl rfl rfl rfl lt0 ?_)
  refine VO.cons rfl (V1.indexI rfl rfl esz_41 rfl rfl hh4 lt0 ?_)
  refine VO.cons rfl (V1.fieldPin rfl rfl fo_97_0 rfl lt0 ?_)
  refine VO.cons rfl (V1.loadPin rfl rfl tyk_3 rfl rfl lt0 ?_)
  refine VO.cons rfl (V1.int rfl rfl rfl rfl rfl lt0 ?_)
  refine VO.cons rfl (V1.assign rfl rfl rfl lt0 ?_)
  refine VO.nil ?_
  refine V.keep 73 [0, 2, 3, 11, 12, 13] [0] (E0 := [(0, .vl ρ0 7 (List.map encFile list)), (2, .int .i64 pages), (3, .str title), (11, .int .i64 y0), (12, .ref b1 7 0 0), (13, .int .i64 (IntKind.i64.wrap (((list.getD (Int.toNat (IntKind.i64.wrap ((list.length : Int) - (1 : Int)))) default).Id) + (1 : Int))))]) (H0 := [(b1, ⟨7, [encFile (list.getD (Int.toNat y0) default)]⟩)]) rfl (⟨_, _, rfl, rfl, _, _, rfl, rfl, _, _, rfl, rfl, _, _, rfl, rfl, _, _, rfl, rfl, _, _, rfl, rfl, rfl⟩) (⟨_, _, rfl, rfl, rfl⟩) rfl ?_
  refine V.seq ?_
  refine V.region ?_
  refine VO.cons rfl (V1.fieldRef rfl rfl fo_97_6 rfl lt0 ?_)
  refine VO.cons rfl (V1.loadRef (k := 0) rfl rfl tyk_3 rfl rfl rfl rfl rfl lt0 ?_)
  refine VO.cons rfl (V1.move rfl rfl rfl lt0 ?_)
  refine VO.cons rfl (V1.int rfl rfl rfl rfl rfl lt0 ?_)
  refine VO.cons rfl (V1.fieldRef rfl rfl fo_97_6 rfl lt0 ?_)
  refine VO.cons rfl (V1.storeRef (k := 0) rfl rfl tyk_3 rfl rfl rfl rfl rfl rfl rfl rfl rfl ?_)
  refine VO.nil ?_
  refine V.keep 73 [0, 2, 3, 11, 12, 13] [0] (E0 := [(0, .vl ρ0 7 (List.map encFile list)), (2, .int .i64 pages), (3, .str title), (11, .int .i64 y0), (12, .ref b1 7 0 0), (13, .int .i64 (IntKind.i64.wrap (((list.getD (Int.toNat (IntKind.i64.wrap ((list.length : Int) - (1 : Int)))) default).Id) + (1 : Int))))]) (H0 := [(b1, ⟨7, [.agg [.int .i64 ((list.getD (Int.toNat y0) default).Id), .int .i64 ((list.getD (Int.toNat y0) default).Series), .str ((list.getD (Int.toNat y0) default).Title), .int .i64 ((list.getD (Int.toNat y0) default).Opened), .int .i64 ((list.getD (Int.toNat y0) default).Closed), .int .i64 ((list.getD (Int.toNat y0) default).State), .int .i64 (IntKind.i64.wrap (((list.getD (Int.toNat y0) default).Pages) - pages))]]⟩)]) rfl (⟨_, _, rfl, rfl, _, _, rfl, rfl, _, _, rfl, rfl, _, _, rfl, rfl, _, _, rfl, rfl, _, _, rfl, rfl, rfl⟩) (⟨_, _, rfl, rfl, rfl⟩) rfl ?_
  refine V.seq ?_
  replace hm0 := asrt_some hm0; rcases hm0 with ⟨hh5, hm0⟩
  refine V.region ?_
  refine VO.cons rfl (V1.buildSliceT (f := encFile) ([] : List File) rfl rfl esz_41 zk_97 rfl rfl rfl rfl rfl rfl rfl lt0 ?_)
  intro b2
  refine VO.cons rfl (V1.move rfl rfl rfl lt0 ?_)
  refine VO.cons rfl (V1.appendMap (k := 0) (f := encFile) (l := ([] : List File)) (m := list) rfl rfl rfl rfl rfl esz_41 eby_41 zk_97 rfl rfl rfl (.vl isl_41) hh5 lt0 ?_)
  intro b3
  refine VO.cons rfl (V1.assign rfl rfl rfl lt0 ?_)
  refine VO.nil ?_
  refine V.keep 73 [2, 3, 11, 12, 13, 14] [0, 1] (E0 := [(2, .int .i64 pages), (3, .str title), (11, .int .i64 y0), (12, .ref b1 7 0 0), (13, .int .i64 (IntKind.i64.wrap (((list.getD (Int.toNat (IntKind.i64.wrap ((list.length : Int) - (1 : Int)))) default).Id) + (1 : Int)))), (14, .sref b3 7 0 (List.length (([] : List File) ++ list)))]) (H0 := [(b3, ⟨7, List.map encFile (([] : List File) ++ list)⟩), (b1, ⟨7, [.agg [.int .i64 ((list.getD (Int.toNat y0) default).Id), .int .i64 ((list.getD (Int.toNat y0) default).Series), .str ((list.getD (Int.toNat y0) default).Title), .int .i64 ((list.getD (Int.toNat y0) default).Opened), .int .i64 ((list.getD (Int.toNat y0) default).Closed), .int .i64 ((list.getD (Int.toNat y0) default).State), .int .i64 (IntKind.i64.wrap (((list.getD (Int.toNat y0) default).Pages) - pages))]]⟩)]) rfl (⟨_, _, rfl, rfl, _, _, rfl, rfl, _, _, rfl, rfl, _, _, rfl, rfl, _, _, rfl, rfl, _, _, rfl, rfl, rfl⟩) (⟨_, _, rfl, rfl, _, _, rfl, rfl, rfl⟩) rfl ?_
  refine V.seq ?_
  replace hm0 := asrt_some hm0; rcases hm0 with ⟨hh6, hm0⟩
  refine V.region ?_
  refine VO.cons rfl (V1.move rfl rfl rfl lt0 ?_)
  refine VO.cons rfl (V1.move rfl rfl rfl lt0 ?_)
  refine VO.cons rfl (V1.loadRefAll (k := 1) rfl rfl tyk_97 rfl rfl rfl rfl rfl lt0 ?_)
  refine VO.cons rfl (V1.indexSr rfl rfl esz_41 rfl rfl hh6 lt0 ?_)
  refine VO.cons rfl (V1.storeMap (k := 0) (f := encFile) (x := (⟨(list.getD (Int.toNat y0) default).Id, (list.getD (Int.toNat y0) default).Series, (list.getD (Int.toNat y0) default).Title, (list.getD (Int.toNat y0) default).Opened, (list.getD (Int.toNat y0) default).Closed, (list.getD (Int.toNat y0) default).State, (IntKind.i64.wrap (((list.getD (Int.toNat y0) default).Pages) - pages))⟩ : File)) rfl rfl tyk_97 rfl rfl (by simpa using natLt hh6.1 hh6.2) rfl rfl ?_)
  refine VO.weakenK (Keeps.say 14 (y := .sref b3 7 0 (List.length ((([] : List File) ++ list).set (Int.toNat y0) (⟨(list.getD (Int.toNat y0) default).Id, (list.getD (Int.toNat y0) default).Series, (list.getD (Int.toNat y0) default).Title, (list.getD (Int.toNat y0) default).Opened, (list.getD (Int.toNat y0) default).Closed, (list.getD (Int.toNat y0) default).State, (IntKind.i64.wrap (((list.getD (Int.toNat y0) default).Pages) - pages))⟩ : File)))) rfl (by simp [optS])) ?_
  refine VO.nil ?_
  refine V.keep 73 [2, 3, 12, 13, 14] [0, 1] (E0 := [(2, .int .i64 pages), (3, .str title), (12, .ref b1 7 0 0), (13, .int .i64 (IntKind.i64.wrap (((list.getD (Int.toNat (IntKind.i64.wrap ((list.length : Int) - (1 : Int)))) default).Id) + (1 : Int)))), (14, .sref b3 7 0 (List.length ((([] : List File) ++ list).set (Int.toNat y0) (⟨(list.getD (Int.toNat y0) default).Id, (list.getD (Int.toNat y0) default).Series, (list.getD (Int.toNat y0) default).Title, (list.getD (Int.toNat y0) default).Opened, (list.getD (Int.toNat y0) default).Closed, (list.getD (Int.toNat y0) default).State, (IntKind.i64.wrap (((list.getD (Int.toNat y0) default).Pages) - pages))⟩ : File))))]) (H0 := [(b3, ⟨7, List.map encFile ((([] : List File) ++ list).set (Int.toNat y0) (⟨(list.getD (Int.toNat y0) default).Id, (list.getD (Int.toNat y0) default).Series, (list.getD (Int.toNat y0) default).Title, (list.getD (Int.toNat y0) default).Opened, (list.getD (Int.toNat y0) default).Closed, (list.getD (Int.toNat y0) default).State, (IntKind.i64.wrap (((list.getD (Int.toNat y0) default).Pages) - pages))⟩ : File))⟩), (b1, ⟨7, [.agg [.int .i64 ((list.getD (Int.toNat y0) default).Id), .int .i64 ((list.getD (Int.toNat y0) default).Series), .str ((list.getD (Int.toNat y0) default).Title), .int .i64 ((list.getD (Int.toNat y0) default).Opened), .int .i64 ((list.getD (Int.toNat y0) default).Closed), .int .i64 ((list.getD (Int.toNat y0) default).State), .int .i64 (IntKind.i64.wrap (((list.getD (Int.toNat y0) default).Pages) - pages))]]⟩)]) rfl (⟨_, _, rfl, rfl, _, _, rfl, rfl, _, _, rfl, rfl, _, _, rfl, rfl, _, _, rfl, rfl, rfl⟩) (⟨_, _, rfl, rfl, _, _, rfl, rfl, rfl⟩) rfl ?_
  refine V.seq ?_
  replace hm0 := asrt_some hm0; rcases hm0 with ⟨hh7, hm0⟩
  refine V.region ?_
  refine VO.cons rfl (V1.move rfl rfl rfl lt0 ?_)
  refine VO.cons rfl (V1.move rfl rfl rfl lt0 ?_)
  refine VO.cons rfl (V1.fieldRef rfl rfl fo_97_1 rfl lt0 ?_)
  refine VO.cons rfl (V1.loadRef (k := 1) rfl rfl tyk_3 rfl rfl rfl rfl rfl lt0 ?_)
  refine VO.cons rfl (V1.move rfl rfl rfl lt0 ?_)
  refine VO.cons rfl (V1.fieldRef rfl rfl fo_97_3 rfl lt0 ?_)
  refine VO.cons rfl (V1.loadRef (k := 1) rfl rfl tyk_3 rfl rfl rfl rfl rfl lt0 ?_)
  refine VO.cons rfl (V1.move rfl rfl rfl lt0 ?_)
  refine VO.cons rfl (V1.build rfl rfl zk_97 pl_97 rfl rfl lt0 ?_)
  refine VO.cons rfl (V1.buildSliceT (f := encFile) ([(⟨(IntKind.i64.wrap (((list.getD (Int.toNat (IntKind.i64.wrap ((list.length : Int) - (1 : Int)))) default).Id) + (1 : Int))), (list.getD (Int.toNat y0) default).Series, title, (list.getD (Int.toNat y0) default).Opened, (0 : Int), (0 : Int), pages⟩ : File)] : List File) rfl rfl esz_41 zk_97 rfl rfl rfl rfl rfl rfl rfl lt0 ?_)
  intro b4
  refine VO.cons rfl (V1.appendMap (k := 1) (f := encFile) (l := ((([] : List File) ++ list).set (Int.toNat y0) (⟨(list.getD (Int.toNat y0) default).Id, (list.getD (Int.toNat y0) default).Series, (list.getD (Int.toNat y0) default).Title, (list.getD (Int.toNat y0) default).Opened, (list.getD (Int.toNat y0) default).Closed, (list.getD (Int.toNat y0) default).State, (IntKind.i64.wrap (((list.getD (Int.toNat y0) default).Pages) - pages))⟩ : File))) (m := ([(⟨(IntKind.i64.wrap (((list.getD (Int.toNat (IntKind.i64.wrap ((list.length : Int) - (1 : Int)))) default).Id) + (1 : Int))), (list.getD (Int.toNat y0) default).Series, title, (list.getD (Int.toNat y0) default).Opened, (0 : Int), (0 : Int), pages⟩ : File)] : List File)) rfl rfl rfl rfl rfl esz_41 eby_41 zk_97 rfl rfl rfl (SrcOf.srMap (k := 0) rfl isl_41) hh7 lt0 ?_)
  intro b5
  refine VO.cons rfl (V1.assign rfl rfl rfl lt0 ?_)
  refine VO.nil ?_
  refine V.keep 73 [13, 14] [0] (E0 := [(13, .int .i64 (IntKind.i64.wrap (((list.getD (Int.toNat (IntKind.i64.wrap ((list.length : Int) - (1 : Int)))) default).Id) + (1 : Int)))), (14, .sref b5 7 0 (List.length (((([] : List File) ++ list).set (Int.toNat y0) (⟨(list.getD (Int.toNat y0) default).Id, (list.getD (Int.toNat y0) default).Series, (list.getD (Int.toNat y0) default).Title, (list.getD (Int.toNat y0) default).Opened, (list.getD (Int.toNat y0) default).Closed, (list.getD (Int.toNat y0) default).State, (IntKind.i64.wrap (((list.getD (Int.toNat y0) default).Pages) - pages))⟩ : File)) ++ ([(⟨(IntKind.i64.wrap (((list.getD (Int.toNat (IntKind.i64.wrap ((list.length : Int) - (1 : Int)))) default).Id) + (1 : Int))), (list.getD (Int.toNat y0) default).Series, title, (list.getD (Int.toNat y0) default).Opened, (0 : Int), (0 : Int), pages⟩ : File)] : List File))))]) (H0 := [(b5, ⟨7, List.map encFile (((([] : List File) ++ list).set (Int.toNat y0) (⟨(list.getD (Int.toNat y0) default).Id, (list.getD (Int.toNat y0) default).Series, (list.getD (Int.toNat y0) default).Title, (list.getD (Int.toNat y0) default).Opened, (list.getD (Int.toNat y0) default).Closed, (list.getD (Int.toNat y0) default).State, (IntKind.i64.wrap (((list.getD (Int.toNat y0) default).Pages) - pages))⟩ : File)) ++ ([(⟨(IntKind.i64.wrap (((list.getD (Int.toNat (IntKind.i64.wrap ((list.length : Int) - (1 : Int)))) default).Id) + (1 : Int))), (list.getD (Int.toNat y0) default).Series, title, (list.getD (Int.toNat y0) default).Opened, (0 : Int), (0 : Int), pages⟩ : File)] : List File))⟩)]) rfl (⟨_, _, rfl, rfl, _, _, rfl, rfl, rfl⟩) (⟨_, _, rfl, rfl, rfl⟩) rfl ?_
  refine V.seq ?_
  refine V.seq ?_
  replace hm0 := bindO hm0; rcases hm0 with ⟨y2, hh8, hm0⟩
  refine V.region ?_
  refine VO.cons rfl (V1.move rfl rfl rfl lt0 ?_)
  refine VO.cons rfl (V1.callL (rn + 1) [b5] [.vl (rn + 1) 7 (List.map encFile (((([] : List File) ++ list).set (Int.toNat y0) (⟨(list.getD (Int.toNat y0) default).Id, (list.getD (Int.toNat y0) default).Series, (list.getD (Int.toNat y0) default).Title, (list.getD (Int.toNat y0) default).Opened, (list.getD (Int.toNat y0) default).Closed, (list.getD (Int.toNat y0) default).State, (IntKind.i64.wrap (((list.getD (Int.toNat y0) default).Pages) - pages))⟩ : File)) ++ ([(⟨(IntKind.i64.wrap (((list.getD (Int.toNat (IntKind.i64.wrap ((list.length : Int) - (1 : Int)))) default).Id) + (1 : Int))), (list.getD (Int.toNat y0) default).Series, title, (list.getD (Int.toNat y0) default).Opened, (0 : Int), (0 : Int), pages⟩ : File)] : List File)))] rfl rfl rfl cok_76 rfl ⟨_, _, rfl, Lend.srMap 0 rfl (fun _ => rfl) (.head _), rfl⟩ (bwCons (k := 0) rfl bwNil) (ok_spec_l5Good hh8) rfl (⟨(by first | omega | (dsimp only; omega)), by rintro _ _ ⟨rfl, rfl⟩; exact ⟨rfl, by simp⟩⟩) lt0 ?_)
  rintro _ _ ⟨rfl, rfl⟩
  refine VO.cons rfl (V1.not rfl rfl rfl lt0 ?_)
  refine VO.nil ?_
  refine V.cond rfl (fun hc1 => ?_) (fun hc1 => ?_)
  ·
   replace hm0 := cond_t hc1 hm0
   refine V.seq ?_
   refine V.region ?_
   refine VO.cons rfl (V1.buildSliceT (f := encFile) ([] : List File) rfl rfl esz_41 zk_97 rfl rfl rfl rfl rfl rfl rfl lt0 ?_)
   intro b6
   refine VO.cons rfl (V1.assign rfl rfl rfl lt0 ?_)
   refine VO.cons rfl (V1.assign rfl rfl rfl lt0 ?_)
   refine VO.cons rfl (V1.assign rfl rfl rfl lt0 ?_)
   refine VO.nil ?_
   refine V.keep 73 [8, 9, 10] [0] (E0 := [(8, .sref b6 7 0 (List.length ([] : List File))), (9, .int .i64 (0 : Int)), (10, .bool false)]) (H0 := [(b6, ⟨7, List.map encFile ([] : List File)⟩)]) rfl (⟨_, _, rfl, rfl, _, _, rfl, rfl, _, _, rfl, rfl, rfl⟩) (⟨_, _, rfl, rfl, rfl⟩) rfl ?_
   refine V.ret ?_
   obtain rfl := Option.some.inj hm0
   exact ⟨_, _, ⟨_, _, rfl, rfl, _, _, rfl, rfl, _, _, rfl, rfl, rfl⟩, List.Sublist.refl _, b6, rfl, rfl⟩
  ·
   replace hm0 := cond_f hc1 hm0
   refine V.skip ?_
   refine V.seq ?_
   refine V.region ?_
   refine VO.cons rfl (V1.move rfl rfl rfl lt0 ?_)
   refine VO.cons rfl (V1.move rfl rfl rfl lt0 ?_)
   refine VO.cons rfl (V1.assign rfl rfl rfl lt0 ?_)
   refine VO.cons rfl (V1.assign rfl rfl rfl lt0 ?_)
   refine VO.cons rfl (V1.assign rfl rfl rfl lt0 ?_)
   refine VO.nil ?_
   refine V.keep 73 [8, 9, 10] [0] (E0 := [(8, .sref b5 7 0 (List.length (((([] : List File) ++ list).set (Int.toNat y0) (⟨(list.getD (Int.toNat y0) default).Id, (list.getD (Int.toNat y0) default).Series, (list.getD (Int.toNat y0) default).Title, (list.getD (Int.toNat y0) default).Opened, (list.getD (Int.toNat y0) default).Closed, (list.getD (Int.toNat y0) default).State, (IntKind.i64.wrap (((list.getD (Int.toNat y0) default).Pages) - pages))⟩ : File)) ++ ([(⟨(IntKind.i64.wrap (((list.getD (Int.toNat (IntKind.i64.wrap ((list.length : Int) - (1 : Int)))) default).Id) + (1 : Int))), (list.getD (Int.toNat y0) default).Series, title, (list.getD (Int.toNat y0) default).Opened, (0 : Int), (0 : Int), pages⟩ : File)] : List File)))), (9, .int .i64 (IntKind.i64.wrap (((list.getD (Int.toNat (IntKind.i64.wrap ((list.length : Int) - (1 : Int)))) default).Id) + (1 : Int)))), (10, .bool true)]) (H0 := [(b5, ⟨7, List.map encFile (((([] : List File) ++ list).set (Int.toNat y0) (⟨(list.getD (Int.toNat y0) default).Id, (list.getD (Int.toNat y0) default).Series, (list.getD (Int.toNat y0) default).Title, (list.getD (Int.toNat y0) default).Opened, (list.getD (Int.toNat y0) default).Closed, (list.getD (Int.toNat y0) default).State, (IntKind.i64.wrap (((list.getD (Int.toNat y0) default).Pages) - pages))⟩ : File)) ++ ([(⟨(IntKind.i64.wrap (((list.getD (Int.toNat (IntKind.i64.wrap ((list.length : Int) - (1 : Int)))) default).Id) + (1 : Int))), (list.getD (Int.toNat y0) default).Series, title, (list.getD (Int.toNat y0) default).Opened, (0 : Int), (0 : Int), pages⟩ : File)] : List File))⟩)]) rfl (⟨_, _, rfl, rfl, _, _, rfl, rfl, _, _, rfl, rfl, rfl⟩) (⟨_, _, rfl, rfl, rfl⟩) rfl ?_
   refine V.ret ?_
   obtain rfl := Option.some.inj hm0
   exact ⟨_, _, ⟨_, _, rfl, rfl, _, _, rfl, rfl, _, _, rfl, rfl, rfl⟩, List.Sublist.refl _, b5, rfl, rfl⟩

theorem ok_laws_rFiles {ρ0 ρ1 rn : Nat} {a : List File} {b_ : List File} {r : Bool} (h : M.laws_rFiles a b_ = some r) : Does Tryd.prog 23 [.vl ρ0 7 (List.map encFile a), .vl ρ1 7 (List.map encFile b_)] [] rn (fun x H => x = .bool r ∧ H = []) := by
 have hm0 := h; clear h; unfold M.laws_rFiles at hm0
 try dsimp only at hm0
 refine Does.intro (N := 26) Tryd.func23 rfl rfl rfl rfl ?_
 intro w0 S0 L0
 refine V.seq ?_
 refine V.region ?_
 refine VO.cons rfl (V1.assign rfl rfl rfl lt0 ?_)
 refine VO.nil ?_
 refine V.seq ?_
 refine V.seq ?_
 refine V.region ?_
 refine VO.cons rfl (V1.move rfl rfl rfl lt0 ?_)
 refine VO.cons rfl (V1.lenMap rfl rfl rfl rfl rfl rfl isl_41 lt0 ?_)
 refine VO.cons rfl (V1.move rfl rfl rfl lt0 ?_)
 refine VO.cons rfl (V1.lenMap rfl rfl rfl rfl rfl rfl isl_41 lt0 ?_)
 refine VO.cons rfl (V1.int rfl rfl rfl rfl rfl lt0 ?_)
 refine VO.nil ?_
 refine V.keep 26 [0, 1, 10] [] (E0 := [(0, .vl ρ0 7 (List.map encFile a)), (1, .vl ρ1 7 (List.map encFile b_)), (10, .bool ((a.length : Int) != (b_.length : Int)))]) (H0 := []) rfl (⟨_, _, rfl, rfl, _, _, rfl, rfl, _, _, rfl, rfl, rfl⟩) (rfl) rfl ?_
 refine V.cond rfl (fun hc0 => ?_) (fun hc0 => ?_)
 ·
  replace hm0 := cond_t hc0 hm0
  refine V.seq ?_
  refine V.region ?_
  refine VO.cons rfl (V1.assign rfl rfl rfl lt0 ?_)
  refine VO.nil ?_
  refine V.ret ?_
  obtain rfl := Option.some.inj hm0
  exact ⟨_, [], ⟨_, _, rfl, rfl, rfl⟩, List.nil_sublist _, rfl, rfl⟩
 ·
  replace hm0 := cond_f hc0 hm0
  refine V.skip ?_
  refine V.seq ?_
  refine V.seq ?_
  refine V.region ?_
  refine VO.cons rfl (V1.assign rfl rfl rfl lt0 ?_)
  refine VO.nil ?_
  replace hm0 := bindO hm0; rcases hm0 with ⟨e0, he1, hm0⟩
  refine V.cutT (D := (Unit) × (Unit)) (fun ⟨_, _⟩ => ⟨26, [], []⟩) (fun ⟨_, _⟩ => (.inl () = e0)) ?_ ?_
  ·
   refine V.block ?_
   refine V.keep 26 [5, 0, 1] [] (E0 := [(5, .int .i64 (0 : Int)), (0, .vl ρ0 7 (List.map encFile a)), (1, .vl ρ1 7 (List.map encFile b_))]) (H0 := []) rfl (⟨_, _, rfl, rfl, _, _, rfl, rfl, _, _, rfl, rfl, rfl⟩) (rfl) rfl ?_
   refine V.loopE (D := Nat × (Int) × (Unit)) (fun ⟨n0, i, _⟩ => [(5, .int .i64 i)]) (fun ⟨n0, i, _⟩ => []) (fun ⟨n0, i, _⟩ => loopO (M.laws_rFiles_l0 a b_) n0 i = some e0) (fun ⟨n0, _, _⟩ => n0) (rounds, (0 : Int), ()) rfl he1 ?_
   rintro ⟨n0, i, _⟩ hP0
   obtain ⟨m0, y0, rfl, hm1, hl1, hr1⟩ := loop_head hP0
   unfold M.laws_rFiles_l0 at hm1; dsimp only at hm1
   show V _ _ _ ⟨26, [(5, .int .i64 i), (0, .vl ρ0 7 (List.map encFile a)), (1, .vl ρ1 7 (List.map encFile b_))], []⟩
   refine V.seq ?_
   refine V.seq ?_
   refine V.region ?_
   refine VO.cons rfl (V1.move rfl rfl rfl lt0 ?_)
   refine VO.cons rfl (V1.move rfl rfl rfl lt0 ?_)
   refine VO.cons rfl (V1.lenMap rfl rfl rfl rfl rfl rfl isl_41 lt0 ?_)
   refine VO.cons rfl (V1.int rfl rfl rfl rfl rfl lt0 ?_)
   refine VO.nil ?_
   refine V.cond rfl (fun hc1 => ?_) (fun hc1 => ?_)
   ·
    replace hm1 := cond_t hc1 hm1
    refine V.skip ?_
    refine V.keep 26 [0, 1, 5] [] (E0 := [(0, .vl ρ0 7 (List.map encFile a)), (1, .vl ρ1 7 (List.map encFile b_)), (5, .int .i64 i)]) (H0 := []) rfl (⟨_, _, rfl, rfl, _, _, rfl, rfl, _, _, rfl, rfl, rfl⟩) (rfl) rfl ?_
    refine V.seq ?_
    refine V.block ?_
    refine V.seq ?_
    replace hm1 := asrt_some hm1; rcases hm1 with ⟨hh0, hm1⟩
    replace hm1 := asrt_some hm1; rcases hm1 with ⟨hh1, hm1⟩
    refine V.regionM 26 8 [⟨[(0, none)], [], none⟩, ⟨[(5, none)], [], none⟩, ⟨[(17, some 1), (18, some 0)], [], none⟩, ⟨[(19, some 0)], [], none⟩, ⟨[(1, none)], [], none⟩, ⟨[(5, none)], [], none⟩, ⟨[(21, some 1), (22, some 0)], [], none⟩, ⟨[(23, some 0)], [], none⟩] [(0, none), (1, none), (5, none), (20, some 4), (24, some 0)] (⟨_, rfl, ⟨_, rfl, ⟨_, rfl, ⟨_, rfl, ⟨_, rfl, ⟨_, rfl, ⟨_, rfl, ⟨_, rfl, ⟨rfl, rfl⟩⟩⟩⟩⟩⟩⟩⟩⟩) mixed_orders rfl (by decide +kernel) (fun hck6 => ?_)
    refine VP.step (p := ?pv65) rfl rfl rfl (⟨_, _, rfl, rfl, rfl⟩) ?hv65 ?rest65 hck6
    case hv65 =>
     intro E1
     refine (V1.move rfl rfl rfl lt0 ?_)
     exact rfl
    refine VP.step (p := ?pv66) rfl rfl rfl (⟨_, _, rfl, rfl, rfl⟩) ?hv66 ?rest66 hck6
    case hv66 =>
     intro E1
     refine (V1.move rfl rfl rfl lt0 ?_)
     exact rfl
    refine VP.step (p := ?pv67) rfl rfl rfl (⟨_, _, rfl, rfl, _, _, rfl, rfl, rfl⟩) ?hv67 ?rest67 hck6
    case hv67 =>
     intro E1
     refine (V1.indexI rfl rfl esz_41 rfl rfl hh0 lt0 ?_)
     exact rfl
    refine VP.step (p := ?pv68) rfl rfl rfl (⟨_, _, rfl, rfl, rfl⟩) ?hv68 ?rest68 hck6
    case hv68 =>
     intro E1
     refine (V1.loadPinAll rfl rfl tyk_97 rfl rfl lt0 ?_)
     exact rfl
    refine VP.step (p := ?pv69) rfl rfl rfl (⟨_, _, rfl, rfl, rfl⟩) ?hv69 ?rest69 hck6
    case hv69 =>
     intro E1
     refine (V1.move rfl rfl rfl lt0 ?_)
     exact rfl
    refine VP.step (p := ?pv70) rfl rfl rfl (⟨_, _, rfl, rfl, rfl⟩) ?hv70 ?rest70 hck6
    case hv70 =>
     intro E1
     refine (V1.move rfl rfl rfl lt0 ?_)
     exact rfl
    refine VP.step (p := ?pv71) rfl rfl rfl (⟨_, _, rfl, rfl, _, _, rfl, rfl, rfl⟩) ?hv71 ?rest71 hck6
    case hv71 =>
     intro E1
     refine (V1.indexI rfl rfl esz_41 rfl rfl hh1 lt0 ?_)
     exact rfl
    refine VP.step (p := ?pv72) rfl rfl rfl (⟨_, _, rfl, rfl, rfl⟩) ?hv72 ?rest72 hck6
    case hv72 =>
     intro E1
     refine (V1.loadPinAll rfl rfl tyk_97 rfl rfl lt0 ?_)
     exact rfl
    refine VP.fin rfl (⟨_, _, rfl, rfl, _, _, rfl, rfl, _, _, rfl, rfl, _, _, rfl, rfl, _, _, rfl, rfl, rfl⟩) ?_
    refine VO.cons rfl (V1.aggEqG true rfl rfl fe_97 rfl rfl rfl rfl rfl lt0 ?_)
    refine VO.nil ?_
    refine V.cond rfl (fun hc2 => ?_) (fun hc2 => ?_)
    ·
     replace hm1 := cond_t hc2 hm1
     refine V.seq ?_
     refine V.region ?_
     refine VO.cons rfl (V1.assign rfl rfl rfl lt0 ?_)
     refine VO.nil ?_
     refine V.ret ?_
     obtain rfl := hr1 _ (Option.some.inj hm1).symm
     change some _ = some _ at hm0
     obtain rfl := Option.some.inj hm0
     exact ⟨_, [], ⟨_, _, rfl, rfl, rfl⟩, List.nil_sublist _, rfl, rfl⟩
    ·
     replace hm1 := cond_f hc2 hm1
     refine V.skip ?_
     refine V.region ?_
     refine VO.cons rfl (V1.move rfl rfl rfl lt0 ?_)
     refine VO.cons rfl (V1.int rfl rfl rfl rfl rfl lt0 ?_)
     refine VO.cons rfl (V1.assign rfl rfl rfl lt0 ?_)
     refine VO.nil ?_
     exact ⟨(m0, (IntKind.i64.wrap (i + (1 : Int))), ()), hl1 _ (Option.some.inj hm1).symm, Nat.lt_succ_self _, Keeps.mk (ks := []) rfl ⟨rfl, rfl, rfl, trivial⟩ (rfl) rfl⟩
   ·
    replace hm1 := cond_f hc1 hm1
    refine V.exit ?_
    obtain rfl := hr1 _ (Option.some.inj hm1).symm
    exact ⟨((), ()), rfl, Keeps.mk (ks := []) rfl trivial (rfl) rfl⟩
  ·
   rintro ⟨_, _⟩ rfl
   try dsimp only at hm0
   refine V.seq ?_
   refine V.region ?_
   refine VO.cons rfl (V1.assign rfl rfl rfl lt0 ?_)
   refine VO.nil ?_
   refine V.ret ?_
   obtain rfl := Option.some.inj hm0
   exact ⟨_, [], ⟨_, _, rfl, rfl, rfl⟩, List.nil_sublist _, rfl, rfl⟩

theorem ok_slices_BinarySearchFunc_int_int_int {ρ0 σ0 rn : Nat} {x : List (List Int)} {target : Int} {f2 : Nat} {cs2 : List PV} {r : Int × Bool} {fm : (List Int) → Int → Option Int} (h : M.slices_BinarySearchFunc_int_int_int x target fm = some r) (hok2 : callOK Tryd.prog f2 = true) (hf2 : ∀ x0 x1 r, fm x0 x1 = some r → Does Tryd.prog f2 (.vl σ0 1 (List.map encInt x0) :: .int .i64 x1 :: cs2) [] rn (fun x H => x = .int .i64 r ∧ H = [])) : Does Tryd.prog 77 [.vl ρ0 1 (List.map (encL σ0 1 encInt) x), .int .i64 target, .fn f2 cs2] [] rn (fun x H => x = .tup [.int .i64 r.1, .bool r.2] ∧ H = []) := by
 have hm0 := h; clear h; unfold M.slices_BinarySearchFunc_int_int_int at hm0
 try dsimp only at hm0
 refine Does.intro (N := 49) Tryd.func77 rfl rfl rfl rfl ?_
 intro w0 S0 L0
 refine V.seq ?_
 refine V.region ?_
 refine VO.cons rfl (V1.assign rfl rfl rfl lt0 ?_)
 refine VO.cons rfl (V1.assign rfl rfl rfl lt0 ?_)
 refine VO.nil ?_
 refine V.seq ?_
 refine V.region ?_
 refine VO.cons rfl (V1.move rfl rfl rfl lt0 ?_)
 refine VO.cons rfl (V1.lenMap rfl rfl rfl rfl rfl rfl isl_47 lt0 ?_)
 refine VO.cons rfl (V1.assign rfl rfl rfl lt0 ?_)
 refine VO.nil ?_
 refine V.keep 49 [0, 1, 2, 8] [] (E0 := [(0, .vl ρ0 1 (List.map (encL σ0 1 encInt) x)), (1, .int .i64 target), (2, .fn f2 cs2), (8, .int .i64 (x.length : Int))]) (H0 := []) rfl (⟨_, _, rfl, rfl, _, _, rfl, rfl, _, _, rfl, rfl, _, _, rfl, rfl, rfl⟩) (rfl) rfl ?_
 refine V.seq ?_
 refine V.region ?_
 refine VO.cons rfl (V1.move rfl rfl rfl lt0 ?_)
 refine VO.cons rfl (V1.assign rfl rfl rfl lt0 ?_)
 refine VO.cons rfl (V1.assign rfl rfl rfl lt0 ?_)
 refine VO.nil ?_
 refine V.seq ?_
 replace hm0 := bindO hm0; rcases hm0 with ⟨e0, he1, hm0⟩
 refine V.cutT (D := (Int) × (Unit)) (fun ⟨i, _⟩ => ⟨49, [(9, .int .i64 i), (0, .vl ρ0 1 (List.map (encL σ0 1 encInt) x)), (1, .int .i64 target), (2, .fn f2 cs2), (8, .int .i64 (x.length : Int))], []⟩) (fun ⟨i, _⟩ => (i = e0)) ?_ ?_
 ·
  refine V.block ?_
  refine V.keep 49 [9, 10, 0, 1, 2, 8] [] (E0 := [(9, .int .i64 (0 : Int)), (10, .int .i64 (x.length : Int)), (0, .vl ρ0 1 (List.map (encL σ0 1 encInt) x)), (1, .int .i64 target), (2, .fn f2 cs2), (8, .int .i64 (x.length : Int))]) (H0 := []) rfl (⟨_, _, rfl, rfl, _, _, rfl, rfl, _, _, rfl, rfl, _, _, rfl, rfl, _, _, rfl, rfl, _, _, rfl, rfl, rfl⟩) (rfl) rfl ?_
  refine V.loopE (D := Nat × (Int × Int) × (Unit)) (fun ⟨n0, ⟨i0, j_⟩, _⟩ => [(9, .int .i64 i0), (10, .int .i64 j_)]) (fun ⟨n0, ⟨i0, j_⟩, _⟩ => []) (fun ⟨n0, ⟨i0, j_⟩, _⟩ => loopO (M.slices_BinarySearchFunc_int_int_int_l0 x target fm) n0 (i0, j_) = some e0) (fun ⟨n0, _, _⟩ => n0) (rounds, ((0 : Int), (x.length : Int)), ()) rfl he1 ?_
  rintro ⟨n0, ⟨i0, j_⟩, _⟩ hP0
  obtain ⟨m0, y0, rfl, hm1, hl1, hr1⟩ := loop_head hP0
  unfold M.slices_BinarySearchFunc_int_int_int_l0 at hm1; dsimp only at hm1
  show V _ _ _ ⟨49, [(9, .int .i64 i0), (10, .int .i64 j_), (0, .vl ρ0 1 (List.map (encL σ0 1 encInt) x)), (1, .int .i64 target), (2, .fn f2 cs2), (8, .int .i64 (x.length : Int))], []⟩
  refine V.seq ?_
  refine V.seq ?_
  refine V.region ?_
  refine VO.cons rfl (V1.move rfl rfl rfl lt0 ?_)
  refine VO.cons rfl (V1.move rfl rfl rfl lt0 ?_)
  refine VO.cons rfl (V1.int rfl rfl rfl rfl rfl lt0 ?_)
  refine VO.nil ?_
  refine V.cond rfl (fun hc0 => ?_) (fun hc0 => ?_)
  ·
   replace hm1 := cond_t hc0 hm1
   refine V.skip ?_
   replace hm1 := bindO hm1; rcases hm1 with ⟨j0, hm2, hm1⟩
   refine V.cutT (D := (Int × Int) × (Unit)) (fun ⟨⟨i1, j_0⟩, _⟩ => ⟨49, [(9, .int .i64 i1), (10, .int .i64 j_0), (0, .vl ρ0 1 (List.map (encL σ0 1 encInt) x)), (1, .int .i64 target), (2, .fn f2 cs2), (8, .int .i64 (x.length : Int))], []⟩) (fun ⟨⟨i1, j_0⟩, _⟩ => ((i1, j_0) = j0)) ?_ ?_
   ·
    refine V.block ?_
    refine V.seq ?_
    refine V.region ?_
    refine VO.cons rfl (V1.move rfl rfl rfl lt0 ?_)
    refine VO.cons rfl (V1.move rfl rfl rfl lt0 ?_)
    refine VO.cons rfl (V1.int rfl rfl rfl rfl rfl lt0 ?_)
    refine VO.cons rfl (V1.conv rfl rfl und_3 und_128 rfl lt0 ?_)
    refine VO.cons rfl (V1.shr rfl rfl rfl rfl (by decide) lt0 ?_)
    refine VO.cons rfl (V1.conv rfl rfl und_128 und_3 rfl lt0 ?_)
    refine VO.cons rfl (V1.assign rfl rfl rfl lt0 ?_)
    refine VO.nil ?_
    refine V.keep 49 [0, 1, 2, 8, 9, 10, 11] [] (E0 := [(0, .vl ρ0 1 (List.map (encL σ0 1 encInt) x)), (1, .int .i64 target), (2, .fn f2 cs2), (8, .int .i64 (x.length : Int)), (9, .int .i64 i0), (10, .int .i64 j_), (11, .int .i64 (IntKind.i64.wrap (Int.fdiv (IntKind.u64.wrap (IntKind.i64.wrap (i0 + j_))) (2 ^ (min (Int.toNat (1 : Int)) IntKind.u64.bits)))))]) (H0 := []) rfl (⟨_, _, rfl, rfl, _, _, rfl, rfl, _, _, rfl, rfl, _, _, rfl, rfl, _, _, rfl, rfl, _, _, rfl, rfl, _, _, rfl, rfl, rfl⟩) (rfl) rfl ?_
    refine V.seq ?_
    replace hm2 := asrt_some hm2; rcases hm2 with ⟨hh0, hm2⟩
    replace hm2 := bindO hm2; rcases hm2 with ⟨y1, hh1, hm2⟩
    refine V.region ?_
    refine VO.cons rfl (V1.move rfl rfl rfl lt0 ?_)
    refine VO.cons rfl (V1.move rfl rfl rfl lt0 ?_)
    refine VO.cons rfl (V1.move rfl rfl rfl lt0 ?_)
    refine VO.cons rfl (V1.indexI rfl rfl esz_47 rfl rfl hh0 lt0 ?_)
    refine VO.cons rfl (V1.loadPin rfl rfl tyk_27 rfl rfl lt0 ?_)
    refine VO.cons rfl (V1.move rfl rfl rfl lt0 ?_)
    refine VO.cons rfl (V1.callG (τ := 0) (Bw := []) rfl lt0 (run_callFn rfl rfl rfl hok2 rfl) (.refl _) (Lends.same _) (fun _ h => by cases h) ((hf2 _ _  _) hh1) (.inl rfl) (.inl rfl) ?_)
    rintro _ _ ⟨rfl, rfl⟩
    refine VO.cons rfl (V1.int rfl rfl rfl rfl rfl lt0 ?_)
    refine VO.nil ?_
    refine V.keep 49 [0, 1, 2, 8, 9, 10, 11, 31] [] (E0 := [(0, .vl ρ0 1 (List.map (encL σ0 1 encInt) x)), (1, .int .i64 target), (2, .fn f2 cs2), (8, .int .i64 (x.length : Int)), (9, .int .i64 i0), (10, .int .i64 j_), (11, .int .i64 (IntKind.i64.wrap (Int.fdiv (IntKind.u64.wrap (IntKind.i64.wrap (i0 + j_))) (2 ^ (min (Int.toNat (1 : Int)) IntKind.u64.bits))))), (31, .bool (decide (y1 < (0 : Int))))]) (H0 := []) rfl (⟨_, _, rfl, rfl, _, _, rfl, rfl, _, _, rfl, rfl, _, _, rfl, rfl, _, _, rfl, rfl, _, _, rfl, rfl, _, _, rfl, rfl, _, _, rfl, rfl, rfl⟩) (rfl) rfl ?_
    refine V.cond rfl (fun hc1 => ?_) (fun hc1 => ?_)
    ·
     replace hm2 := cond_t hc1 hm2
     refine V.region ?_
     refine VO.cons rfl (V1.move rfl rfl rfl lt0 ?_)
     refine VO.cons rfl (V1.int rfl rfl rfl rfl rfl lt0 ?_)
     refine VO.cons rfl (V1.assign rfl rfl rfl lt0 ?_)
     refine VO.nil ?_
     exact ⟨(((IntKind.i64.wrap ((IntKind.i64.wrap (Int.fdiv (IntKind.u64.wrap (IntKind.i64.wrap (i0 + j_))) (2 ^ (min (Int.toNat (1 : Int)) IntKind.u64.bits)))) + (1 : Int))), j_), ()), Option.some.inj hm2, Keeps.mk (ks := []) rfl ⟨rfl, rfl, rfl, rfl, rfl, rfl, trivial⟩ (rfl) rfl⟩
    ·
     replace hm2 := cond_f hc1 hm2
     refine V.region ?_
     refine VO.cons rfl (V1.move rfl rfl rfl lt0 ?_)
     refine VO.cons rfl (V1.assign rfl rfl rfl lt0 ?_)
     refine VO.nil ?_
     exact ⟨((i0, (IntKind.i64.wrap (Int.fdiv (IntKind.u64.wrap (IntKind.i64.wrap (i0 + j_))) (2 ^ (min (Int.toNat (1 : Int)) IntKind.u64.bits))))), ()), Option.some.inj hm2, Keeps.mk (ks := []) rfl ⟨rfl, rfl, rfl, rfl, rfl, rfl, trivial⟩ (rfl) rfl⟩
   ·
    rintro ⟨⟨i1, j_0⟩, _⟩ rfl
    try dsimp only at hm1
    exact ⟨(m0, (i1, j_0), ()), hl1 _ (Option.some.inj hm1).symm, Nat.lt_succ_self _, Keeps.mk (ks := []) rfl ⟨rfl, rfl, rfl, rfl, rfl, rfl, trivial⟩ (rfl) rfl⟩
  ·
   replace hm1 := cond_f hc0 hm1
   refine V.exit ?_
   obtain rfl := hr1 _ (Option.some.inj hm1).symm
   exact ⟨(i0, ()), rfl, Keeps.mk (ks := []) rfl ⟨rfl, rfl, rfl, rfl, rfl, trivial⟩ (rfl) rfl⟩
 ·
  rintro ⟨i, _⟩ rfl
  try dsimp only at hm0
  refine V.seq ?_
  replace hm0 := asrt_some hm0; rcases hm0 with ⟨hh2, hm0⟩
  replace hm0 := bindO hm0; rcases hm0 with ⟨y2, hh3, hm0⟩
  refine V.region ?_
  refine VO.cons rfl (V1.move rfl rfl rfl lt0 ?_)
  refine VO.cons rfl (V1.move rfl rfl rfl lt0 ?_)
  refine VO.cons rfl (V1.move rfl rfl rfl lt0 ?_)
  refine VO.cons rfl (V1.int rfl rfl rfl rfl rfl lt0 ?_)
  refine VO.cons rfl (V1.move rfl rfl rfl lt0 ?_)
  apply VO.and (n := 8) rfl rfl rfl rfl rfl rfl lt0 (.none rfl)
  ·
   intro hg0
   refine VO.step (.some rfl rfl rfl) (V1.move rfl rfl rfl lt0 ?_)
   refine VO.step (.some rfl rfl rfl) (V1.move rfl rfl rfl lt0 ?_)
   refine VO.step (.some rfl rfl rfl) (V1.move rfl rfl rfl lt0 ?_)
   refine VO.step (.some rfl rfl rfl) (V1.indexI rfl rfl esz_47 rfl rfl (hh2 hg0) lt0 ?_)
   refine VO.step (.some rfl rfl rfl) (V1.loadPin rfl rfl tyk_27 rfl rfl lt0 ?_)
   refine VO.step (.some rfl rfl rfl) (V1.move rfl rfl rfl lt0 ?_)
   refine VO.step (.some rfl rfl rfl) (V1.callG (τ := 0) (Bw := []) rfl lt0 (run_callFn rfl rfl rfl hok2 rfl) (.refl _) (Lends.same _) (fun _ h => by cases h) ((hf2 _ _  _) (cond_t hg0 hh3)) (.inl rfl) (.inl rfl) ?_)
   rintro _ _ ⟨rfl, rfl⟩
   refine VO.step (.some rfl rfl rfl) (V1.int rfl rfl rfl rfl rfl lt0 ?_)
   exact VO.nil ⟨rfl, rfl, rfl, rfl, .inr ⟨rfl, .inr ⟨rfl, .inr ⟨rfl, .inr ⟨rfl, .inr ⟨rfl, .inr ⟨rfl, .inr ⟨rfl, .inr ⟨rfl, .inr ⟨rfl, .inl rfl⟩⟩⟩⟩⟩⟩⟩⟩⟩⟩
  refine VO.cons rfl (V1.assign rfl rfl rfl lt0 ?_)
  refine VO.cons rfl (V1.assign rfl rfl rfl lt0 ?_)
  refine VO.nil ?_
  refine V.ret ?_
  obtain rfl := Option.some.inj hm0
  exact ⟨_, [], ⟨_, _, rfl, rfl, _, _, rfl, rfl, rfl⟩, List.nil_sublist _, rfl, rfl⟩

theorem ok_cmp_isNaN_int {rn : Nat} {x : Int} {r : Bool} (h : M.cmp_isNaN_int x = some r) : Does Tryd.prog 123 [.int .i64 x] [] rn (fun x H => x = .bool r ∧ H = []) := by
 have hm0 := h; clear h; unfold M.cmp_isNaN_int at hm0
 try dsimp only at hm0
 refine Does.intro (N := 6) Tryd.func123 rfl rfl rfl rfl ?_
 intro w0 S0 L0
 refine V.seq ?_
 refine V.region ?_
 refine VO.cons rfl (V1.assign rfl rfl rfl lt0 ?_)
 refine VO.nil ?_
 refine V.seq ?_
 refine V.region ?_
 refine VO.cons rfl (V1.move rfl rfl rfl lt0 ?_)
 refine VO.cons rfl (V1.move rfl rfl rfl lt0 ?_)
 refine VO.cons rfl (V1.int rfl rfl rfl rfl rfl lt0 ?_)
 refine VO.cons rfl (V1.assign rfl rfl rfl lt0 ?_)
 refine VO.nil ?_
 refine V.ret ?_
 obtain rfl := Option.some.inj hm0
 exact ⟨_, [], ⟨_, _, rfl, rfl, rfl⟩, List.nil_sublist _, rfl, rfl⟩

theorem ok_cmp_Compare_int {rn : Nat} {x : Int} {y : Int} {r : Int} (h : M.cmp_Compare_int x y = some r) : Does Tryd.prog 79 [.int .i64 x, .int .i64 y] [] rn (fun x H => x = .int .i64 r ∧ H = []) := by
 have hm0 := h; clear h; unfold M.cmp_Compare_int at hm0
 try dsimp only at hm0
 refine Does.intro (N := 20) Tryd.func79 rfl rfl rfl rfl ?_
 intro w0 S0 L0
 refine V.seq ?_
 refine V.region ?_
 refine VO.cons rfl (V1.assign rfl rfl rfl lt0 ?_)
 refine VO.nil ?_
 refine V.seq ?_
 replace hm0 := bindO hm0; rcases hm0 with ⟨y0, hh0, hm0⟩
 refine V.region ?_
 refine VO.cons rfl (V1.move rfl rfl rfl lt0 ?_)
 refine VO.cons rfl (V1.call rfl rfl rfl cok_123 rfl (ok_cmp_isNaN_int hh0) rfl lt0 ?_)
 rintro _ _ ⟨rfl, rfl⟩
 refine VO.cons rfl (V1.assign rfl rfl rfl lt0 ?_)
 refine VO.nil ?_
 refine V.seq ?_
 replace hm0 := bindO hm0; rcases hm0 with ⟨y1, hh1, hm0⟩
 refine V.region ?_
 refine VO.cons rfl (V1.move rfl rfl rfl lt0 ?_)
 refine VO.cons rfl (V1.call rfl rfl rfl cok_123 rfl (ok_cmp_isNaN_int hh1) rfl lt0 ?_)
 rintro _ _ ⟨rfl, rfl⟩
 refine VO.cons rfl (V1.assign rfl rfl rfl lt0 ?_)
 refine VO.nil ?_
 refine V.keep 20 [0, 1, 5, 6] [] (E0 := [(0, .int .i64 x), (1, .int .i64 y), (5, .bool y0), (6, .bool y1)]) (H0 := []) rfl (⟨_, _, rfl, rfl, _, _, rfl, rfl, _, _, rfl, rfl, _, _, rfl, rfl, rfl⟩) (rfl) rfl ?_
 refine V.seq ?_
 refine V.seq ?_
 refine V.region ?_
 refine VO.cons rfl (V1.move rfl rfl rfl lt0 ?_)
 refine VO.nil ?_
 refine V.cond rfl (fun hc0 => ?_) (fun hc0 => ?_)
 ·
  replace hm0 := cond_t hc0 hm0
  refine V.seq ?_
  refine V.seq ?_
  refine V.region ?_
  refine VO.cons rfl (V1.move rfl rfl rfl lt0 ?_)
  refine VO.nil ?_
  refine V.keep 20 [12] [] (E0 := [(12, .bool y1)]) (H0 := []) rfl (⟨_, _, rfl, rfl, rfl⟩) (rfl) rfl ?_
  refine V.cond rfl (fun hc1 => ?_) (fun hc1 => ?_)
  ·
   replace hm0 := cond_t hc1 hm0
   refine V.seq ?_
   refine V.region ?_
   refine VO.cons rfl (V1.assign rfl rfl rfl lt0 ?_)
   refine VO.nil ?_
   refine V.ret ?_
   obtain rfl := Option.some.inj hm0
   exact ⟨_, [], ⟨_, _, rfl, rfl, rfl⟩, List.nil_sublist _, rfl, rfl⟩
  ·
   replace hm0 := cond_f hc1 hm0
   refine V.skip ?_
   refine V.seq ?_
   refine V.region ?_
   refine VO.cons rfl (V1.assign rfl rfl rfl lt0 ?_)
   refine VO.nil ?_
   refine V.ret ?_
   obtain rfl := Option.some.inj hm0
   exact ⟨_, [], ⟨_, _, rfl, rfl, rfl⟩, List.nil_sublist _, rfl, rfl⟩
 ·
  replace hm0 := cond_f hc0 hm0
  refine V.skip ?_
  refine V.seq ?_
  refine V.seq ?_
  refine V.region ?_
  refine VO.cons rfl (V1.move rfl rfl rfl lt0 ?_)
  refine VO.nil ?_
  refine V.cond rfl (fun hc2 => ?_) (fun hc2 => ?_)
  ·
   replace hm0 := cond_t hc2 hm0
   refine V.seq ?_
   refine V.region ?_
   refine VO.cons rfl (V1.assign rfl rfl rfl lt0 ?_)
   refine VO.nil ?_
   refine V.ret ?_
   obtain rfl := Option.some.inj hm0
   exact ⟨_, [], ⟨_, _, rfl, rfl, rfl⟩, List.nil_sublist _, rfl, rfl⟩
  ·
   replace hm0 := cond_f hc2 hm0
   refine V.skip ?_
   refine V.keep 20 [0, 1] [] (E0 := [(0, .int .i64 x), (1, .int .i64 y)]) (H0 := []) rfl (⟨_, _, rfl, rfl, _, _, rfl, rfl, rfl⟩) (rfl) rfl ?_
   refine V.seq ?_
   refine V.seq ?_
   refine V.region ?_
   refine VO.cons rfl (V1.move rfl rfl rfl lt0 ?_)
   refine VO.cons rfl (V1.move rfl rfl rfl lt0 ?_)
   refine VO.cons rfl (V1.int rfl rfl rfl rfl rfl lt0 ?_)
   refine VO.nil ?_
   refine V.cond rfl (fun hc3 => ?_) (fun hc3 => ?_)
   ·
    replace hm0 := cond_t hc3 hm0
    refine V.seq ?_
    refine V.region ?_
    refine VO.cons rfl (V1.assign rfl rfl rfl lt0 ?_)
    refine VO.nil ?_
    refine V.ret ?_
    obtain rfl := Option.some.inj hm0
    exact ⟨_, [], ⟨_, _, rfl, rfl, rfl⟩, List.nil_sublist _, rfl, rfl⟩
   ·
    replace hm0 := cond_f hc3 hm0
    refine V.skip ?_
    refine V.seq ?_
    refine V.seq ?_
    refine V.region ?_
    refine VO.cons rfl (V1.move rfl rfl rfl lt0 ?_)
    refine VO.cons rfl (V1.move rfl rfl rfl lt0 ?_)
    refine VO.cons rfl (V1.int rfl rfl rfl rfl rfl lt0 ?_)
    refine VO.nil ?_
    refine V.keep 20 [19] [] (E0 := [(19, .bool (decide (x > y)))]) (H0 := []) rfl (⟨_, _, rfl, rfl, rfl⟩) (rfl) rfl ?_
    refine V.cond rfl (fun hc4 => ?_) (fun hc4 => ?_)
    ·
     replace hm0 := cond_t hc4 hm0
     refine V.seq ?_
     refine V.region ?_
     refine VO.cons rfl (V1.assign rfl rfl rfl lt0 ?_)
     refine VO.nil ?_
     refine V.ret ?_
     obtain rfl := Option.some.inj hm0
     exact ⟨_, [], ⟨_, _, rfl, rfl, rfl⟩, List.nil_sublist _, rfl, rfl⟩
    ·
     replace hm0 := cond_f hc4 hm0
     refine V.skip ?_
     refine V.seq ?_
     refine V.region ?_
     refine VO.cons rfl (V1.assign rfl rfl rfl lt0 ?_)
     refine VO.nil ?_
     refine V.ret ?_
     obtain rfl := Option.some.inj hm0
     exact ⟨_, [], ⟨_, _, rfl, rfl, rfl⟩, List.nil_sublist _, rfl, rfl⟩

theorem ok_impl_SeriesPages_1 {ρ0 rn : Nat} {row : List Int} {series : Int} {r : Int} (h : M.impl_SeriesPages_1 row series = some r) : Does Tryd.prog 78 [.vl ρ0 1 (List.map encInt row), .int .i64 series] [] rn (fun x H => x = .int .i64 r ∧ H = []) := by
 have hm0 := h; clear h; unfold M.impl_SeriesPages_1 at hm0
 try dsimp only at hm0
 refine Does.intro (N := 10) Tryd.func78 rfl rfl rfl rfl ?_
 intro w0 S0 L0
 refine V.seq ?_
 refine V.region ?_
 refine VO.cons rfl (V1.assign rfl rfl rfl lt0 ?_)
 refine VO.nil ?_
 refine V.seq ?_
 replace hm0 := asrt_some hm0; rcases hm0 with ⟨hh0, hm0⟩
 replace hm0 := bindO hm0; rcases hm0 with ⟨y0, hh1, hm0⟩
 refine V.region ?_
 refine VO.cons rfl (V1.move rfl rfl rfl lt0 ?_)
 refine VO.cons rfl (V1.indexI rfl rfl esz_27 rfl rfl hh0 lt0 ?_)
 refine VO.cons rfl (V1.loadPin rfl rfl tyk_3 rfl rfl lt0 ?_)
 refine VO.cons rfl (V1.move rfl rfl rfl lt0 ?_)
 refine VO.cons rfl (V1.call rfl rfl rfl cok_79 rfl (ok_cmp_Compare_int hh1) rfl lt0 ?_)
 rintro _ _ ⟨rfl, rfl⟩
 refine VO.cons rfl (V1.assign rfl rfl rfl lt0 ?_)
 refine VO.nil ?_
 refine V.ret ?_
 obtain rfl := Option.some.inj hm0
 exact ⟨_, [], ⟨_, _, rfl, rfl, rfl⟩, List.nil_sublist _, rfl, rfl⟩

theorem okr_slices_Insert_int_int {rn : Nat} {oq : Option Nat} {bv : Nat} {s : List PV} {i : Int} {v r : List PV} (h : insM s i v = some r) (hoq : oq = none → s = []) : Does Tryd.prog 80 [optS 1 oq (List.length s), .int .i64 i, .sref bv 1 0 (List.length v)] ((bv, ⟨1, List.map (fun t_ : PV => t_) v⟩) :: optH 1 oq (List.map (fun t_ : PV => t_) s)) rn (fun x H => ∃ b0_ : Nat, x = .sref b0_ 1 0 (List.length r) ∧ H = [(b0_, ⟨1, List.map (fun t_ : PV => t_) r⟩)]) := by
 have hm0 := h; clear h; unfold insM at hm0
 replace hm0 := asrt_some hm0; rcases hm0 with ⟨⟨hi0, hi1, hl, hv1⟩, hm0⟩
 obtain rfl := Option.some.inj hm0; clear hm0
 obtain ⟨y, rfl⟩ : ∃ y, v = [y] := List.length_eq_one_iff.1 hv1
 rcases oq with _ | b
 ·
  obtain rfl := hoq rfl
  obtain rfl : i = 0 := by simp only [List.length_nil] at hi1; omega
  refine Does.intro (N := 95) Tryd.func80 rfl rfl rfl rfl ?_
  intro w0 S0 L0
  refine V.seq ?_
  refine V.region ?_
  refine VO.cons rfl (V1.assign rfl rfl rfl lt0 ?_)
  refine VO.nil ?_
  refine V.seq ?_
  refine V.region ?_
  refine VO.cons rfl (V1.move rfl rfl rfl lt0 ?_)
  refine VO.cons rfl (V1.move rfl rfl rfl lt0 ?_)
  refine VO.weakenK (Keeps.nilsE (l := ([] : List PV)) 10 rn 1 (fun t_ : PV => t_) rfl rfl rfl) ?_
  refine VO.cons rfl (V1.sliceMap (a := (0 : Int)) (b := (0 : Int)) rfl rfl esz_47 rfl (Bnd.some rfl (Int.le_refl 0) _) (Bnd.none _ _) ⟨Int.le_refl 0, Int.le_refl 0, Int.le_refl 0⟩ lt0 ?_)
  refine VO.nil ?_
  refine V.seq ?_
  refine V.region ?_
  refine VO.cons rfl (V1.move rfl rfl rfl lt0 ?_)
  refine VO.cons rfl (V1.lenSref rfl rfl rfl rfl rfl rfl isl_47 lt0 ?_)
  refine VO.cons rfl (V1.assign rfl rfl rfl lt0 ?_)
  refine VO.nil ?_
  refine V.seq ?_
  first | refine V.region ?_ | (refine V.seq ?_; refine V.region ?_)
  refine VO.cons rfl (V1.move rfl rfl rfl lt0 ?_)
  refine VO.cons rfl (V1.int rfl rfl rfl rfl rfl lt0 ?_)
  refine VO.nil ?_
  refine V.cond rfl (fun hc0 => absurd hc0 (by simp)) (fun _ => ?_)
  refine V.skip ?_
  refine V.seq ?_
  refine V.region ?_
  refine VO.cons rfl (V1.move rfl rfl rfl lt0 ?_)
  refine VO.weakenK (Keeps.nilsE (l := ([] : List PV)) 18 rn 1 (fun t_ : PV => t_) rfl rfl rfl) ?_
  refine VO.cons rfl (V1.lenMap rfl rfl rfl rfl rfl rfl isl_47 lt0 ?_)
  refine VO.cons rfl (V1.assign rfl rfl rfl lt0 ?_)
  refine VO.nil ?_
  refine V.seq ?_
  first | refine V.region ?_ | (refine V.seq ?_; refine V.region ?_)
  refine VO.cons rfl (V1.move rfl rfl rfl lt0 ?_)
  refine VO.cons rfl (V1.move rfl rfl rfl lt0 ?_)
  refine VO.cons rfl (V1.int rfl rfl rfl rfl rfl lt0 ?_)
  refine VO.nil ?_
  refine V.cond rfl (fun hc1 => ?_) (fun hc1 => ?_)
  ·
   refine V.seq ?_
   refine V.region ?_
   refine VO.cons rfl (V1.move rfl rfl rfl lt0 ?_)
   refine VO.cons rfl (V1.move rfl rfl rfl lt0 ?_)
   refine VO.cons rfl (V1.appendOpt (f := (fun t_ : PV => t_)) (l := ([] : List PV)) (m := [y]) (ob := none) [(bv, ⟨1, List.map (fun t_ : PV => t_) [y]⟩)] (fun _ => rfl) rfl rfl rfl rfl rfl esz_47 eby_47 zk_27 rfl rfl rfl rfl (SrcOf.srMap (k := 0) rfl isl_47) rfl (by simp) lt0 ?_)
   intro b1
   refine VO.cons rfl (V1.assign rfl rfl rfl lt0 ?_)
   refine VO.nil ?_
   refine V.ret ?_
   exact ⟨_, [(b1, ⟨1, List.map (fun t_ : PV => t_) [y]⟩)], ⟨_, _, rfl, rfl, rfl⟩, (List.nil_sublist _).cons_cons _, b1, rfl, rfl⟩
  ·
   exact absurd hc1 (by decide)
 ·
  by_cases hin : i = (s.length : Int)
  ·
   have er : s.take i.toNat ++ [y] ++ s.drop i.toNat = s ++ [y] := by rw [hin]; simp
   rw [er]
   refine Does.intro (N := 95) Tryd.func80 rfl rfl rfl rfl ?_
   intro w0 S0 L0
   refine V.seq ?_
   refine V.region ?_
   refine VO.cons rfl (V1.assign rfl rfl rfl lt0 ?_)
   refine VO.nil ?_
   refine V.seq ?_
   refine V.region ?_
   refine VO.cons rfl (V1.move rfl rfl rfl lt0 ?_)
   refine VO.cons rfl (V1.move rfl rfl rfl lt0 ?_)
   refine VO.cons rfl (V1.sliceSw (c := ((s.length : Nat) : Int)) rfl rfl esz_47 rfl (Bnd.some rfl hi0 _) (Bnd.none _ _) ⟨hi0, hi1, Int.le_refl _⟩ lt0 ?_)
   refine VO.nil ?_
   refine V.seq ?_
   refine V.region ?_
   refine VO.cons rfl (V1.move rfl rfl rfl lt0 ?_)
   refine VO.cons rfl (V1.lenSref rfl rfl rfl rfl rfl rfl isl_47 lt0 ?_)
   refine VO.cons rfl (V1.assign rfl rfl rfl lt0 ?_)
   refine VO.nil ?_
   refine V.seq ?_
   first | refine V.region ?_ | (refine V.seq ?_; refine V.region ?_)
   refine VO.cons rfl (V1.move rfl rfl rfl lt0 ?_)
   refine VO.cons rfl (V1.int rfl rfl rfl rfl rfl lt0 ?_)
   refine VO.nil ?_
   refine V.cond rfl (fun hc0 => absurd hc0 (by simp)) (fun _ => ?_)
   refine V.skip ?_
   refine V.seq ?_
   refine V.region ?_
   refine VO.cons rfl (V1.move rfl rfl rfl lt0 ?_)
   refine VO.cons rfl (V1.lenSref rfl rfl rfl rfl rfl rfl isl_47 lt0 ?_)
   refine VO.cons rfl (V1.assign rfl rfl rfl lt0 ?_)
   refine VO.nil ?_
   refine V.seq ?_
   first | refine V.region ?_ | (refine V.seq ?_; refine V.region ?_)
   refine VO.cons rfl (V1.move rfl rfl rfl lt0 ?_)
   refine VO.cons rfl (V1.move rfl rfl rfl lt0 ?_)
   refine VO.cons rfl (V1.int rfl rfl rfl rfl rfl lt0 ?_)
   refine VO.nil ?_
   refine V.cond rfl (fun hc1 => ?_) (fun hc1 => ?_)
   ·
    refine V.seq ?_
    refine V.region ?_
    refine VO.cons rfl (V1.move rfl rfl rfl lt0 ?_)
    refine VO.cons rfl (V1.move rfl rfl rfl lt0 ?_)
    refine VO.cons rfl (V1.appendMap (k := 1) (f := (fun t_ : PV => t_)) (l := s) (m := [y]) rfl rfl rfl rfl rfl esz_47 eby_47 zk_27 rfl rfl rfl (SrcOf.srMap (k := 0) rfl isl_47) (by simp; omega) lt0 ?_)
    intro b1
    refine VO.cons rfl (V1.assign rfl rfl rfl lt0 ?_)
    refine VO.nil ?_
    refine V.ret ?_
    exact ⟨_, [(b1, ⟨1, List.map (fun t_ : PV => t_) (s ++ [y])⟩)], ⟨_, _, rfl, rfl, rfl⟩, (List.nil_sublist _).cons_cons _, b1, rfl, rfl⟩
   ·
    exact absurd hc1 (by rw [hin]; simp)
  ·
   obtain ⟨k, rfl⟩ := Int.eq_ofNat_of_zero_le hi0
   have hk : k < s.length := by omega
   have e0 : Int.toNat (k : Int) = k := Int.toNat_natCast k
   have ewn : IntKind.i64.wrap ((s.length : Int) + (([y].length : Nat) : Int)) = ((s.length + 1 : Nat) : Int) := by
    have e : ([y].length : Nat) = 1 := rfl
    rw [e, wrap64_id (by omega) (by omega)]; omega
   have ewk : IntKind.i64.wrap ((k : Int) + (([y].length : Nat) : Int)) = ((k + 1 : Nat) : Int) := by
    have e : ([y].length : Nat) = 1 := rfl
    rw [e, wrap64_id (by omega) (by omega)]; omega
   have ewm : IntKind.i64.wrap (IntKind.i64.wrap ((s.length : Int) + (([y].length : Nat) : Int)) - (k : Int)) = ((s.length + 1 - k : Nat) : Int) := by
    rw [ewn, wrap64_id (by omega) (by omega)]; omega
   refine Does.introR (N := 95) Tryd.func80 rfl rfl rfl rfl ?_
   intro w0 S0 vs0 hR0 _ L0
   obtain ⟨u0, us0, _, hu0, _⟩ := Reps.cons_iff.1 hR0
   obtain ⟨cp, hB, hcp⟩ := Rep.hasCap (w := w0) (S := S0) (b := b) (n := 1) (off := 0) (len := s.length) (v := u0) hu0 (by omega)
   clear hR0 hu0
   refine V.seq ?_
   refine V.region ?_
   refine VO.cons rfl (V1.assign rfl rfl rfl lt0 ?_)
   refine VO.nil ?_
   refine V.seq ?_
   refine V.region ?_
   refine VO.cons rfl (V1.move rfl rfl rfl lt0 ?_)
   refine VO.cons rfl (V1.move rfl rfl rfl lt0 ?_)
   refine VO.cons rfl (V1.sliceSw (c := ((s.length : Nat) : Int)) rfl rfl esz_47 rfl (Bnd.some rfl hi0 _) (Bnd.none _ _) ⟨hi0, hi1, Int.le_refl _⟩ lt0 ?_)
   refine VO.nil ?_
   refine V.seq ?_
   refine V.region ?_
   refine VO.cons rfl (V1.move rfl rfl rfl lt0 ?_)
   refine VO.cons rfl (V1.lenSref rfl rfl rfl rfl rfl rfl isl_47 lt0 ?_)
   refine VO.cons rfl (V1.assign rfl rfl rfl lt0 ?_)
   refine VO.nil ?_
   refine V.seq ?_
   first | refine V.region ?_ | (refine V.seq ?_; refine V.region ?_)
   refine VO.cons rfl (V1.move rfl rfl rfl lt0 ?_)
   refine VO.cons rfl (V1.int rfl rfl rfl rfl rfl lt0 ?_)
   refine VO.nil ?_
   refine V.cond rfl (fun hc0 => absurd hc0 (by simp)) (fun _ => ?_)
   refine V.skip ?_
   refine V.seq ?_
   refine V.region ?_
   refine VO.cons rfl (V1.move rfl rfl rfl lt0 ?_)
   refine VO.cons rfl (V1.lenSref rfl rfl rfl rfl rfl rfl isl_47 lt0 ?_)
   refine VO.cons rfl (V1.assign rfl rfl rfl lt0 ?_)
   refine VO.nil ?_
   refine V.seq ?_
   first | refine V.region ?_ | (refine V.seq ?_; refine V.region ?_)
   refine VO.cons rfl (V1.move rfl rfl rfl lt0 ?_)
   refine VO.cons rfl (V1.move rfl rfl rfl lt0 ?_)
   refine VO.cons rfl (V1.int rfl rfl rfl rfl rfl lt0 ?_)
   refine VO.nil ?_
   refine V.cond rfl (fun hc1 => ?_) (fun hc1 => ?_)
   ·
    exact absurd (by simpa using hc1) hin
   ·
    refine V.skip ?_
    refine V.seq ?_
    first | refine V.region ?_ | (refine V.seq ?_; refine V.region ?_)
    refine VO.cons rfl (V1.move rfl rfl rfl lt0 ?_)
    refine VO.cons rfl (V1.move rfl rfl rfl lt0 ?_)
    refine VO.cons rfl (V1.int rfl rfl rfl rfl rfl lt0 ?_)
    refine VO.cons rfl (V1.move rfl rfl rfl lt0 ?_)
    refine VO.cons rfl (V1.capOwn rfl rfl rfl rfl rfl rfl isl_47 hB (by decide) (by omega) lt0 ?_)
    refine VO.cons rfl (V1.int rfl rfl rfl rfl rfl lt0 ?_)
    refine VO.nil ?_
    first | refine V.cond rfl (fun hc2 => ?_) (fun hc2 => ?_) | (refine V.seq ?_; refine V.cond rfl (fun hc2 => ?_) (fun hc2 => ?_))
    ·
     have hgrow : cp < s.length + 1 := by
      rw [decide_eq_true_eq, ewn] at hc2
      omega
     refine V.seq ?_
     refine V.region ?_
     refine VO.cons rfl (V1.move rfl rfl rfl lt0 ?_)
     refine VO.cons rfl (V1.move rfl rfl rfl lt0 ?_)
     refine VO.cons rfl (V1.sliceSw (a := (0 : Int)) (c := (k : Int)) rfl rfl esz_47 rfl (Bnd.none _ _) (Bnd.some rfl (by omega) _) ⟨by omega, by omega, by omega⟩ lt0 ?_)
     refine VO.cons rfl (V1.move rfl rfl rfl lt0 ?_)
     refine VO.cons rfl (V1.move rfl rfl rfl lt0 ?_)
     refine VO.cons rfl (V1.int rfl rfl rfl rfl rfl lt0 ?_)
     refine VO.cons rfl (V1.move rfl rfl rfl lt0 ?_)
     refine VO.cons rfl (V1.int rfl rfl rfl rfl rfl lt0 ?_)
     refine VO.cons rfl (V1.appendZ (i := k) (k := 1) (m := s.length + 1 - k) (cp := cp) rfl rfl rfl rfl rfl esz_47 eby_47 zk_27 und_3 rfl rfl rfl (by simp; omega) (congrArg (fun q => some (PV.int .i64 q)) ewm) hB (by omega) (by omega) (by omega) lt0 ?_)
     intro b1
     refine VO.cons rfl (V1.assign rfl rfl rfl lt0 ?_)
     refine VO.nil ?_
     refine V.seq ?_
     refine V.region ?_
     refine VO.cons rfl (V1.move rfl rfl rfl lt0 ?_)
     refine VO.cons rfl (V1.move rfl rfl rfl lt0 ?_)
     refine VO.cons rfl (V1.sliceSw (a := (k : Int)) (c := ((k + (s.length + 1 - k) : Nat) : Int)) rfl rfl esz_47 rfl (Bnd.some rfl (by omega) _) (Bnd.none _ _) ⟨by omega, by omega, by omega⟩ lt0 ?_)
     refine VO.cons rfl (V1.move rfl rfl rfl lt0 ?_)
     refine VO.cons rfl (V1.copyOwn (k := 0) (ys := List.map (fun t_ : PV => t_) [y]) rfl rfl rfl rfl rfl esz_47 rfl rfl rfl (by simp; omega) (by omega) rfl (SrcK.of (SrcOf.srMap (k := 1) rfl isl_47) (by simp only [List.length_map, List.length_cons, List.length_nil]; omega)) lt0 ?_)
     refine VO.nil ?_
     refine V.seq ?_
     refine V.regionM 95 8 [⟨[(9, none)], [], none⟩, ⟨[(1, none)], [], none⟩, ⟨[(7, none)], [], none⟩, ⟨[(47, some 1), (48, some 0)], [], none⟩, ⟨[(46, some 3), (49, some 0)], [], none⟩, ⟨[(0, none)], [], none⟩, ⟨[(1, none)], [], none⟩, ⟨[(51, some 1), (52, some 0)], [], none⟩] [(9, none), (50, some 3), (53, some 0)] (⟨_, rfl, ⟨_, rfl, ⟨_, rfl, ⟨_, rfl, ⟨_, rfl, ⟨_, rfl, ⟨_, rfl, ⟨_, rfl, ⟨rfl, rfl⟩⟩⟩⟩⟩⟩⟩⟩⟩) mixed_orders rfl (by decide +kernel) (fun hck1 => ?_)
     refine VP.step (p := ?pvA0) rfl rfl rfl (⟨_, _, rfl, rfl, rfl⟩) ?hvA0 ?restA0 hck1
     case hvA0 =>
      intro E1
      refine (V1.move rfl rfl rfl lt0 ?_)
      exact rfl
     refine VP.step (p := ?pvA1) rfl rfl rfl (⟨_, _, rfl, rfl, rfl⟩) ?hvA1 ?restA1 hck1
     case hvA1 =>
      intro E1
      refine (V1.move rfl rfl rfl lt0 ?_)
      exact rfl
     refine VP.step (p := ?pvA2) rfl rfl rfl (⟨_, _, rfl, rfl, rfl⟩) ?hvA2 ?restA2 hck1
     case hvA2 =>
      intro E1
      refine (V1.move rfl rfl rfl lt0 ?_)
      exact rfl
     refine VP.step (p := ?pvA3) rfl rfl rfl (⟨_, _, rfl, rfl, _, _, rfl, rfl, rfl⟩) ?hvA3 ?restA3 hck1
     case hvA3 =>
      intro E1
      refine (V1.int rfl rfl rfl rfl rfl lt0 ?_)
      exact rfl
     refine VP.step (p := ?pvA4) rfl rfl rfl (⟨_, _, rfl, rfl, _, _, rfl, rfl, rfl⟩) ?hvA4 ?restA4 hck1
     case hvA4 =>
      intro E1
      refine (V1.sliceSw (c := ((k + (s.length + 1 - k) : Nat) : Int)) rfl rfl esz_47 rfl (Bnd.some rfl (by rw [ewk]; omega) _) (Bnd.none _ _) (by rw [ewk]; exact ⟨by omega, by omega, by omega⟩) lt0 ?_)
      exact rfl
     refine VP.step (p := ?pvA5) rfl rfl rfl (⟨_, _, rfl, rfl, rfl⟩) ?hvA5 ?restA5 hck1
     case hvA5 =>
      intro E1
      refine (V1.move rfl rfl rfl lt0 ?_)
      exact rfl
     refine VP.step (p := ?pvA6) rfl rfl rfl (⟨_, _, rfl, rfl, rfl⟩) ?hvA6 ?restA6 hck1
     case hvA6 =>
      intro E1
      refine (V1.move rfl rfl rfl lt0 ?_)
      exact rfl
     refine VP.step (p := ?pvA7) rfl rfl rfl (⟨_, _, rfl, rfl, _, _, rfl, rfl, rfl⟩) ?hvA7 ?restA7 hck1
     case hvA7 =>
      intro E1
      refine (V1.sliceSw (c := ((s.length : Nat) : Int)) rfl rfl esz_47 rfl (Bnd.some rfl (by omega) _) (Bnd.none _ _) ⟨by omega, by omega, by omega⟩ lt0 ?_)
      exact rfl
     refine VP.fin rfl (⟨_, _, rfl, rfl, _, _, rfl, rfl, _, _, rfl, rfl, rfl⟩) ?_
     refine VO.cons rfl (V1.copyOwn (k := 0) (ys := ((List.map (fun t_ : PV => t_) s).drop k).take (s.length - k)) rfl rfl rfl rfl rfl esz_47 rfl rfl rfl (by rw [ewk]; simp; omega) (by rw [ewk]; omega) rfl (fun Φ S a w v he hr => ?src1) lt0 ?rest1)
     case src1 =>
      have e1 : (0 + Int.toNat (k : Int)) = k := by omega
      rw [e1, e0] at hr
      exact SrcK.of (SrcOf.sref (k := 2) (ob := ⟨1, List.map (fun t_ : PV => t_) s⟩) rfl rfl (by simp; omega) isl_47) (by rw [ewk]; simp; omega) Φ S a w v he hr
     case rest1 =>
      refine VO.nil ?_
      refine V.seq ?_
      refine V.region ?_
      refine VO.cons rfl (V1.move rfl rfl rfl lt0 ?_)
      refine VO.cons rfl (V1.assign rfl rfl rfl lt0 ?_)
      refine VO.nil ?_
      refine V.ret ?_
      refine ⟨_, _, ⟨_, _, rfl, rfl, rfl⟩, (List.nil_sublist _).cons_cons _, b1, ?_, ?_⟩
      · refine congrArg (fun q => PV.sref b1 1 0 q) ?_
        simp
        omega
      · refine congrArg (fun q => [(b1, (⟨1, q⟩ : Obj'))]) ?_
        rw [ewk]
        simp only [e0, Int.toNat_natCast, Nat.zero_add, List.length_map]
        have hq : (((List.map (fun t_ : PV => t_) s).drop k).take (s.length - k)).length = s.length - k := by simp
        rw [hq]
        have h := fun z => ins_grow (xs := List.map (fun t_ : PV => t_) s) (ey := (fun t_ : PV => t_) y) (k := k) (by simpa using hk) z rfl
        simp only [List.length_map] at h
        simp only [List.map_append, List.map_take, List.map_drop]
        exact h _
    ·
     have hroom : s.length + 1 ≤ cp := by
      rw [decide_eq_false_iff_not, ewn] at hc2
      omega
     refine V.skip ?_
     refine V.seq ?_
     refine V.region ?_
     refine VO.cons rfl (V1.move rfl rfl rfl lt0 ?_)
     refine VO.cons rfl (V1.move rfl rfl rfl lt0 ?_)
     refine VO.cons rfl (V1.move rfl rfl rfl lt0 ?_)
     refine VO.cons rfl (V1.int rfl rfl rfl rfl rfl lt0 ?_)
     refine VO.cons rfl (V1.sliceUp (cp := cp) rfl rfl esz_47 rfl rfl hB (by decide) (by omega) (by rw [ewn]; omega) lt0 ?_)
     refine VO.cons rfl (V1.assign rfl rfl rfl lt0 ?_)
     refine VO.nil ?_
     refine V.seq ?_
     first | refine V.region ?_ | (refine V.seq ?_; refine V.region ?_)
     refine VO.cons rfl (V1.move rfl rfl rfl lt0 ?_)
     refine VO.cons rfl (V1.move rfl rfl rfl lt0 ?_)
     refine VO.cons rfl (V1.move rfl rfl rfl lt0 ?_)
     refine VO.cons rfl (V1.move rfl rfl rfl lt0 ?_)
     refine VO.cons rfl (V1.int rfl rfl rfl rfl rfl lt0 ?_)
     refine VO.cons rfl (V1.sliceSw (c := (IntKind.i64.wrap ((s.length : Int) + (([y].length : Nat) : Int)))) rfl rfl esz_47 rfl (Bnd.some rfl (by rw [ewk]; omega) _) (Bnd.none _ _) (by rw [ewk, ewn]; exact ⟨by omega, by omega, by omega⟩) lt0 ?_)
     refine VO.cons rfl (V1.overlapsNo (k1 := 0) (k2 := 1) (fn := Tryd.f124) (tb := 4) rfl rfl rfl rfl Tryd.func124 rfl rfl (by kernel_rfl) (by kernel_rfl) esz_47 rfl rfl rfl rfl (by decide) (by simp) (by rw [ewk, ewn]; omega) (by decide) lt0 ?_)
     refine VO.cons rfl (V1.not rfl rfl rfl lt0 ?_)
     refine VO.nil ?_
     first | refine V.cond rfl (fun _ => ?_) (fun hc3 => absurd hc3 (by decide)) | (refine V.seq ?_; refine V.cond rfl (fun _ => ?_) (fun hc3 => absurd hc3 (by decide)))
     ·
      refine V.seq ?_
      refine V.regionM 95 8 [⟨[(0, none)], [], none⟩, ⟨[(1, none)], [], none⟩, ⟨[(7, none)], [], none⟩, ⟨[(70, some 1), (71, some 0)], [], none⟩, ⟨[(69, some 3), (72, some 0)], [], none⟩, ⟨[(0, none)], [], none⟩, ⟨[(1, none)], [], none⟩, ⟨[(74, some 1), (75, some 0)], [], none⟩] [(0, none), (1, none), (2, none), (73, some 3), (76, some 0)] (⟨_, rfl, ⟨_, rfl, ⟨_, rfl, ⟨_, rfl, ⟨_, rfl, ⟨_, rfl, ⟨_, rfl, ⟨_, rfl, ⟨rfl, rfl⟩⟩⟩⟩⟩⟩⟩⟩⟩) mixed_orders rfl (by decide +kernel) (fun hck2 => ?_)
      refine VP.step (p := ?pvB0) rfl rfl rfl (⟨_, _, rfl, rfl, rfl⟩) ?hvB0 ?restB0 hck2
      case hvB0 =>
       intro E1
       refine (V1.move rfl rfl rfl lt0 ?_)
       exact rfl
      refine VP.step (p := ?pvB1) rfl rfl rfl (⟨_, _, rfl, rfl, rfl⟩) ?hvB1 ?restB1 hck2
      case hvB1 =>
       intro E1
       refine (V1.move rfl rfl rfl lt0 ?_)
       exact rfl
      refine VP.step (p := ?pvB2) rfl rfl rfl (⟨_, _, rfl, rfl, rfl⟩) ?hvB2 ?restB2 hck2
      case hvB2 =>
       intro E1
       refine (V1.move rfl rfl rfl lt0 ?_)
       exact rfl
      refine VP.step (p := ?pvB3) rfl rfl rfl (⟨_, _, rfl, rfl, _, _, rfl, rfl, rfl⟩) ?hvB3 ?restB3 hck2
      case hvB3 =>
       intro E1
       refine (V1.int rfl rfl rfl rfl rfl lt0 ?_)
       exact rfl
      refine VP.step (p := ?pvB4) rfl rfl rfl (⟨_, _, rfl, rfl, _, _, rfl, rfl, rfl⟩) ?hvB4 ?restB4 hck2
      case hvB4 =>
       intro E1
       refine (V1.sliceSw (c := (IntKind.i64.wrap ((s.length : Int) + (([y].length : Nat) : Int)))) rfl rfl esz_47 rfl (Bnd.some rfl (by rw [ewk]; omega) _) (Bnd.none _ _) (by rw [ewk, ewn]; exact ⟨by omega, by omega, by omega⟩) lt0 ?_)
       exact rfl
      refine VP.step (p := ?pvB5) rfl rfl rfl (⟨_, _, rfl, rfl, rfl⟩) ?hvB5 ?restB5 hck2
      case hvB5 =>
       intro E1
       refine (V1.move rfl rfl rfl lt0 ?_)
       exact rfl
      refine VP.step (p := ?pvB6) rfl rfl rfl (⟨_, _, rfl, rfl, rfl⟩) ?hvB6 ?restB6 hck2
      case hvB6 =>
       intro E1
       refine (V1.move rfl rfl rfl lt0 ?_)
       exact rfl
      refine VP.step (p := ?pvB7) rfl rfl rfl (⟨_, _, rfl, rfl, _, _, rfl, rfl, rfl⟩) ?hvB7 ?restB7 hck2
      case hvB7 =>
       intro E1
       refine (V1.sliceSw (c := (IntKind.i64.wrap ((s.length : Int) + (([y].length : Nat) : Int)))) rfl rfl esz_47 rfl (Bnd.some rfl (by omega) _) (Bnd.none _ _) (by rw [ewn]; exact ⟨by omega, by omega, by omega⟩) lt0 ?_)
       exact rfl
      refine VP.fin rfl (⟨_, _, rfl, rfl, _, _, rfl, rfl, _, _, rfl, rfl, _, _, rfl, rfl, _, _, rfl, rfl, rfl⟩) ?_
      refine VO.cons rfl (V1.copyOwn (k := 1) (ys := ((List.map (fun t_ : PV => t_) s).drop k).take (s.length - k)) rfl rfl rfl rfl rfl esz_47 rfl rfl rfl (by rw [ewk]; simp; omega) (by rw [ewk, ewn]; omega) rfl (fun Φ S a w v he hr => ?src2) lt0 ?rest2)
      case src2 =>
       have e1 : (0 + Int.toNat (k : Int)) = k := by omega
       rw [e1] at hr
       exact SrcK.sref (k := 1) (ob := ⟨1, List.map (fun t_ : PV => t_) s⟩) rfl rfl (by simp; omega) isl_47 (by rw [ewk, ewn]; simp only [Nat.min_def]; split <;> omega) (by rw [ewn]; omega) Φ S a w v he hr
      case rest2 =>
       refine VO.nil ?_
       refine V.seq ?_
       refine V.region ?_
       refine VO.cons rfl (V1.move rfl rfl rfl lt0 ?_)
       refine VO.cons rfl (V1.move rfl rfl rfl lt0 ?_)
       refine VO.cons rfl (V1.sliceSw (a := (k : Int)) (c := (IntKind.i64.wrap ((s.length : Int) + (([y].length : Nat) : Int)))) rfl rfl esz_47 rfl (Bnd.some rfl (by omega) _) (Bnd.none _ _) (by rw [ewn]; exact ⟨by omega, by omega, by omega⟩) lt0 ?_)
       refine VO.cons rfl (V1.move rfl rfl rfl lt0 ?_)
       refine VO.cons rfl (V1.copyOwn (k := 1) (ys := List.map (fun t_ : PV => t_) [y]) rfl rfl rfl rfl rfl esz_47 rfl rfl rfl (by rw [ewk]; simp; omega) (by rw [ewn]; omega) rfl (SrcK.of (SrcOf.srMap (k := 0) rfl isl_47) (by rw [ewn]; simp only [List.length_map, List.length_cons, List.length_nil]; omega)) lt0 ?_)
       refine VO.nil ?_
       refine V.seq ?_
       refine V.region ?_
       refine VO.cons rfl (V1.move rfl rfl rfl lt0 ?_)
       refine VO.cons rfl (V1.assign rfl rfl rfl lt0 ?_)
       refine VO.nil ?_
       refine V.ret ?_
       refine ⟨_, _, ⟨_, _, rfl, rfl, rfl⟩, (List.Sublist.refl _).cons _, b, ?_, ?_⟩
       · refine congrArg (fun q => PV.sref b 1 0 q) ?_
         rw [ewn]
         simp
         omega
       · refine congrArg (fun q => [(b, (⟨1, q⟩ : Obj'))]) ?_
         rw [ewk]
         simp only [e0, Int.toNat_natCast, Nat.zero_add, List.length_map]
         have hq : (((List.map (fun t_ : PV => t_) s).drop k).take (s.length - k)).length = s.length - k := by simp
         rw [hq]
         have h := ins_room (xs := List.map (fun t_ : PV => t_) s) (ey := (fun t_ : PV => t_) y) (k := k) (by simpa using hk) rfl
         simp only [List.length_map] at h
         simp only [List.map_append, List.map_take, List.map_drop]
         exact h


theorem ok_slices_Insert_int_int {rn : Nat} {oq : Option Nat} {bv : Nat} {s : List PV} {i : Int} {v r : List PV} (h : insM s i v = some r) (hoq : oq = none → s = []) : Does Tryd.prog 80 [optS 1 oq (List.length s), .int .i64 i, .sref bv 1 0 (List.length v)] ((bv, ⟨1, v⟩) :: optH 1 oq s) rn (fun x H => ∃ b0_ : Nat, x = .sref b0_ 1 0 (List.length r) ∧ H = [(b0_, ⟨1, r⟩)]) := by
 have q := okr_slices_Insert_int_int h hoq (rn := rn) (bv := bv)
 simp only [List.map_id'] at q
 exact q

theorem ok_impl_SeriesPages {ρ0 rn : Nat} {list : List File} {r : List (List Int) × Bool} (h : M.impl_SeriesPages list = some r) : Does Tryd.prog 24 [.vl ρ0 7 (List.map encFile list)] [] rn (fun x H => ∃ (ob0_ : Option Nat) (ts_ : List PV) (os_ : List (Nat × Obj')), (ob0_ = none → r.1 = []) ∧ (Deep 1 (fun c_ : List Int => List.map encInt c_) ts_ os_ r.1) ∧ x = .tup [optS 1 ob0_ (List.length r.1), .bool r.2] ∧ H = (optH 1 ob0_ (deepC (cellRow (β := Int)) ts_ r.1) ++ os_)) := by
 have hm0 := h; clear h; unfold M.impl_SeriesPages at hm0
 try dsimp only at hm0
 refine Does.intro (N := 54) Tryd.func24 rfl rfl rfl rfl ?_
 intro w0 S0 L0
 refine V.seq ?_
 refine V.region ?_
 refine VO.cons rfl (V1.assign rfl rfl rfl lt0 ?_)
 refine VO.cons rfl (V1.assign rfl rfl rfl lt0 ?_)
 refine VO.nil ?_
 refine V.seq ?_
 refine V.seq ?_
 replace hm0 := bindO hm0; rcases hm0 with ⟨y0, hh0, hm0⟩
 refine V.region ?_
 refine VO.cons rfl (V1.move rfl rfl rfl lt0 ?_)
 refine VO.cons rfl (V1.call rfl rfl rfl cok_25 rfl (ok_impl_AreFiles hh0) rfl lt0 ?_)
 rintro _ _ ⟨rfl, rfl⟩
 refine VO.cons rfl (V1.not rfl rfl rfl lt0 ?_)
 refine VO.nil ?_
 refine V.keep 54 [0, 11] [] (E0 := [(0, .vl ρ0 7 (List.map encFile list)), (11, .bool (!y0))]) (H0 := []) rfl (⟨_, _, rfl, rfl, _, _, rfl, rfl, rfl⟩) (rfl) rfl ?_
 refine V.cond rfl (fun hc0 => ?_) (fun hc0 => ?_)
 ·
  replace hm0 := cond_t hc0 hm0
  refine V.seq ?_
  refine V.region ?_
  refine VO.cons rfl (V1.assign rfl rfl rfl lt0 ?_)
  refine VO.cons rfl (V1.assign rfl rfl rfl lt0 ?_)
  refine VO.nil ?_
  refine V.keep 54 [2, 3] [] (E0 := [(2, .nils), (3, .bool false)]) (H0 := []) rfl (⟨_, _, rfl, rfl, _, _, rfl, rfl, rfl⟩) (rfl) rfl ?_
  refine V.ret ?_
  obtain rfl := Option.some.inj hm0
  exact ⟨_, _, ⟨_, _, rfl, rfl, _, _, rfl, rfl, rfl⟩, List.Sublist.refl _, none, [], [], (fun _ => rfl), (Deep.ofNil rfl), rfl, rfl⟩
 ·
  replace hm0 := cond_f hc0 hm0
  refine V.skip ?_
  refine V.seq ?_
  refine V.region ?_
  refine VO.cons rfl (V1.assign rfl rfl rfl lt0 ?_)
  refine VO.nil ?_
  refine V.seq ?_
  refine V.seq ?_
  refine V.region ?_
  refine VO.cons rfl (V1.move rfl rfl rfl lt0 ?_)
  refine VO.cons rfl (V1.lenMap rfl rfl rfl rfl rfl rfl isl_41 lt0 ?_)
  refine VO.cons rfl (V1.move rfl rfl rfl lt0 ?_)
  refine VO.nil ?_
  replace hm0 := bindO hm0; rcases hm0 with ⟨e0, he1, hm0⟩
  refine V.cutT (D := (List (List Int)) × (Option Nat × List PV × (List (Nat × Obj')))) (fun ⟨rows, ⟨ob0, ts_477, os_477⟩⟩ => ⟨54, [(4, optS 1 ob0 (List.length rows))], (optH 1 ob0 (deepC (cellRow (β := Int)) ts_477 rows)) ++ os_477⟩) (fun ⟨rows, ⟨ob0, ts_477, os_477⟩⟩ => (rows = e0) ∧ (ob0 = none → rows = []) ∧ Deep 1 (fun c_ : List Int => List.map encInt c_) ts_477 os_477 rows) ?_ ?_
  ·
   refine V.block ?_
   refine V.keep 54 [4, 14, 12, 13] [] (E0 := [(4, .nils), (14, .int .i64 (0 : Int)), (12, .vl ρ0 7 (List.map encFile list)), (13, .int .i64 (list.length : Int))]) (H0 := []) rfl (⟨_, _, rfl, rfl, _, _, rfl, rfl, _, _, rfl, rfl, _, _, rfl, rfl, rfl⟩) (rfl) rfl ?_
   refine V.loopT (D := Nat × (List (List Int) × Int) × (Option Nat × List PV × (List (Nat × Obj')))) (fun ⟨n0, ⟨rows0, v⟩, ⟨ob1, ts_478, os_478⟩⟩ => [(4, optS 1 ob1 (List.length rows0)), (14, .int .i64 v)]) (fun ⟨n0, ⟨rows0, v⟩, ⟨ob1, ts_478, os_478⟩⟩ => (optH 1 ob1 (deepC (cellRow (β := Int)) ts_478 rows0)) ++ os_478) (fun ⟨n0, ⟨rows0, v⟩, ⟨ob1, ts_478, os_478⟩⟩ => loopO (M.impl_SeriesPages_l0 list) n0 (rows0, v) = some e0 ∧ (ob1 = none → rows0 = []) ∧ Deep 1 (fun c_ : List Int => List.map encInt c_) ts_478 os_478 rows0) (fun ⟨n0, _, _⟩ => n0) (rounds, (([] : List (List Int)), (0 : Int)), (none, [], [])) rfl ⟨he1, (fun _ => rfl), (Deep.ofNil rfl)⟩ ?_
   rintro ⟨n0, ⟨rows0, v⟩, ⟨ob1, ts_478, os_478⟩⟩ ⟨hP0, hob1, hd_478⟩
   obtain ⟨m0, y1, rfl, hm1, hl1, hr1⟩ := loop_head hP0
   unfold M.impl_SeriesPages_l0 at hm1; dsimp only at hm1
   rcases ob1 with _ | ob1
   ·
    replace hob1 := hob1 rfl
    obtain ⟨rfl, rfl⟩ := Deep.nil hob1 hd_478
    show V _ _ _ ⟨54, [(4, .nils), (14, .int .i64 v), (12, .vl ρ0 7 (List.map encFile list)), (13, .int .i64 (list.length : Int))], []⟩
    refine V.seq ?_
    refine V.region ?_
    refine VO.cons rfl (V1.int rfl rfl rfl rfl rfl lt0 ?_)
    refine VO.nil ?_
    refine V.seq ?_
    refine V.cond rfl (fun hc1 => ?_) (fun hc1 => ?_)
    ·
     replace hm1 := cond_t hc1 hm1
     refine V.skip ?_
     refine V.seq ?_
     replace hm1 := bindO hm1; rcases hm1 with ⟨j0, hm2, hm1⟩
     refine V.cutT (D := (List (List Int)) × (Nat × List PV × (List (Nat × Obj')))) (fun ⟨rows1, ⟨b0, ts_493, os_493⟩⟩ => ⟨54, [(4, .sref b0 1 0 (List.length rows1)), (12, .vl ρ0 7 (List.map encFile list)), (13, .int .i64 (list.length : Int)), (14, .int .i64 v)], ([(b0, ⟨1, deepC (cellRow (β := Int)) ts_493 rows1⟩)]) ++ os_493⟩) (fun ⟨rows1, ⟨b0, ts_493, os_493⟩⟩ => (rows1 = j0) ∧ Deep 1 (fun c_ : List Int => List.map encInt c_) ts_493 os_493 rows1) ?_ ?_
     ·
      refine V.block ?_
      refine V.seq ?_
      replace hm2 := asrt_some hm2; rcases hm2 with ⟨hh1, hm2⟩
      refine V.region ?_
      refine VO.cons rfl (V1.indexI rfl rfl esz_41 rfl rfl hh1 lt0 ?_)
      refine VO.cons rfl (V1.loadPinAll rfl rfl tyk_97 rfl rfl lt0 ?_)
      refine VO.cons rfl (V1.alloc rfl rfl zk_97 lt0 ?_)
      intro b1
      refine VO.cons rfl (V1.storeRefAll (k := 0) rfl rfl tyk_97 rfl rfl rfl rfl rfl rfl ?_)
      refine VO.nil ?_
      refine V.seq ?_
      replace hm2 := bindO hm2; rcases hm2 with ⟨y2, hh2, hm2⟩
      refine V.region ?_
      refine VO.cons rfl (V1.move rfl rfl rfl lt0 ?_)
      refine VO.cons rfl (V1.fieldRef rfl rfl fo_97_1 rfl lt0 ?_)
      refine VO.cons rfl (V1.loadRef (k := 0) rfl rfl tyk_3 rfl rfl rfl rfl rfl lt0 ?_)
      refine VO.weakenK (Keeps.nilsE (l := rows0) 19 rn 1 (encL rn 1 encInt) hob1 rfl rfl) ?_
      refine VO.cons rfl (V1.call rfl rfl rfl cok_77 rfl (ok_slices_BinarySearchFunc_int_int_int hh2 (fm := (fun x0 x1 => M.impl_SeriesPages_1 x0 x1)) cok_78 (fun _ _ _ h => ok_impl_SeriesPages_1 h)) rfl lt0 ?_)
      rintro _ _ ⟨rfl, rfl⟩
      refine VO.cons rfl (V1.move rfl rfl rfl lt0 ?_)
      refine VO.cons rfl (V1.extract rfl rfl rfl rfl lt0 ?_)
      refine VO.cons rfl (V1.extract rfl rfl rfl rfl lt0 ?_)
      refine VO.cons rfl (V1.assign rfl rfl rfl lt0 ?_)
      refine VO.cons rfl (V1.assign rfl rfl rfl lt0 ?_)
      refine VO.nil ?_
      refine V.keep 54 [4, 6, 7, 8, 12, 13, 14] [0] (E0 := [(4, .nils), (6, .ref b1 7 0 0), (7, .int .i64 y2.1), (8, .bool y2.2), (12, .vl ρ0 7 (List.map encFile list)), (13, .int .i64 (list.length : Int)), (14, .int .i64 v)]) (H0 := [(b1, ⟨7, [encFile (list.getD (Int.toNat v) default)]⟩)]) rfl (⟨_, _, rfl, rfl, _, _, rfl, rfl, _, _, rfl, rfl, _, _, rfl, rfl, _, _, rfl, rfl, _, _, rfl, rfl, _, _, rfl, rfl, rfl⟩) (⟨_, _, rfl, rfl, rfl⟩) rfl ?_
      refine V.seq ?_
      replace hm2 := bindO hm2; rcases hm2 with ⟨j1, hm3, hm2⟩
      refine V.cutT (D := (List (List Int)) × (Option Nat × List PV × (List (Nat × Obj')))) (fun ⟨rows2, ⟨ob2, ts_496, os_496⟩⟩ => ⟨54, [(4, optS 1 ob2 (List.length rows2)), (6, .ref b1 7 0 0), (7, .int .i64 y2.1), (12, .vl ρ0 7 (List.map encFile list)), (13, .int .i64 (list.length : Int)), (14, .int .i64 v)], (optH 1 ob2 (deepC (cellRow (β := Int)) ts_496 rows2) ++ [(b1, ⟨7, [encFile (list.getD (Int.toNat v) default)]⟩)]) ++ os_496⟩) (fun ⟨rows2, ⟨ob2, ts_496, os_496⟩⟩ => (rows2 = j1) ∧ (ob2 = none → rows2 = []) ∧ Deep 1 (fun c_ : List Int => List.map encInt c_) ts_496 os_496 rows2) ?_ ?_
      ·
       refine V.seq ?_
       refine V.region ?_
       refine VO.cons rfl (V1.move rfl rfl rfl lt0 ?_)
       refine VO.cons rfl (V1.not rfl rfl rfl lt0 ?_)
       refine VO.nil ?_
       refine V.cond rfl (fun hc2 => ?_) (fun hc2 => ?_)
       ·
        replace hm3 := cond_t hc2 hm3
        replace hm3 := bindO hm3; rcases hm3 with ⟨y3, hh3, hm3⟩
        refine V.region ?_
        refine VO.cons rfl (V1.move rfl rfl rfl lt0 ?_)
        refine VO.cons rfl (V1.move rfl rfl rfl lt0 ?_)
        refine VO.cons rfl (V1.fieldRef rfl rfl fo_97_1 rfl lt0 ?_)
        refine VO.cons rfl (V1.loadRef (k := 0) rfl rfl tyk_3 rfl rfl rfl rfl rfl lt0 ?_)
        refine VO.cons rfl (V1.buildSliceT (f := encInt) ([(list.getD (Int.toNat v) default).Series, (0 : Int), (0 : Int)] : List Int) rfl rfl esz_27 zk_3 rfl rfl rfl rfl rfl rfl rfl lt0 ?_)
        intro b2
        refine VO.cons rfl (V1.buildDeep (p := .sref b2 1 0 (List.length ([(list.getD (Int.toNat v) default).Series, (0 : Int), (0 : Int)] : List Int))) rfl rfl esz_47 zk_27 rfl rfl rfl rfl rfl rfl rfl lt0 ?_)
        intro b3
        refine VO.weakenK (Keeps.tailPut 1 (A := [(b3, ⟨1, deepC (cellRow (β := Int)) ([.sref b2 1 0 (List.length ([(list.getD (Int.toNat v) default).Series, (0 : Int), (0 : Int)] : List Int))]) ([([(list.getD (Int.toNat v) default).Series, (0 : Int), (0 : Int)] : List Int)] : List (List Int))⟩), (b2, ⟨1, List.map encInt ([(list.getD (Int.toNat v) default).Series, (0 : Int), (0 : Int)] : List Int)⟩), (b1, ⟨7, [encFile (list.getD (Int.toNat v) default)]⟩)]) (A' := [(b3, ⟨1, deepC (cellRow (β := Int)) ([.sref b2 1 0 (List.length ([(list.getD (Int.toNat v) default).Series, (0 : Int), (0 : Int)] : List Int))]) ([([(list.getD (Int.toNat v) default).Series, (0 : Int), (0 : Int)] : List Int)] : List (List Int))⟩), (b1, ⟨7, [encFile (list.getD (Int.toNat v) default)]⟩)]) (T := []) (p := (b2, ⟨1, List.map encInt ([(list.getD (Int.toNat v) default).Series, (0 : Int), (0 : Int)] : List Int)⟩)) rfl rfl rfl) ?_
        refine VO.cons rfl (V1.callIns (m := 1) (inn := (fun c_ : List Int => List.map encInt c_)) (cell := (cellRow (β := Int))) (ts := []) (os := ([] : List (Nat × Obj'))) (xs := rows0) (ts2 := [.sref b2 1 0 (List.length ([(list.getD (Int.toNat v) default).Series, (0 : Int), (0 : Int)] : List Int))]) (os2 := [(b2, ⟨1, List.map encInt ([(list.getD (Int.toNat v) default).Series, (0 : Int), (0 : Int)] : List Int)⟩)]) (xs2 := ([([(list.getD (Int.toNat v) default).Series, (0 : Int), (0 : Int)] : List Int)] : List (List Int))) (r := y3) (oq := none) (bv := b3) (i := y2.1) (A := [(b3, ⟨1, deepC (cellRow (β := Int)) ([.sref b2 1 0 (List.length ([(list.getD (Int.toNat v) default).Series, (0 : Int), (0 : Int)] : List Int))]) ([([(list.getD (Int.toNat v) default).Series, (0 : Int), (0 : Int)] : List Int)] : List (List Int))⟩), (b1, ⟨7, [encFile (list.getD (Int.toNat v) default)]⟩)]) (A' := [(b1, ⟨7, [encFile (list.getD (Int.toNat v) default)]⟩)]) rfl rfl rfl cok_80 rfl rfl rfl (perm_erase (k := 0) rfl) (fun _ => hob1) (Deep.ofNil hob1) (Deep.one (m := 1) (inn := (fun c_ : List Int => List.map encInt c_)) (x := ([(list.getD (Int.toNat v) default).Series, (0 : Int), (0 : Int)] : List Int)) (Deep1.own (by simp))) hh3 (fun rL hL hq => ok_slices_Insert_int_int hL hq) rfl lt0 ?_)
        intro b4 ts_497 os_497 hd_497
        refine VO.cons rfl (V1.assign rfl rfl rfl lt0 ?_)
        refine VO.nil ?_
        exact ⟨(y3, ((some b4), ts_497, os_497)), ⟨Option.some.inj hm3, (fun e => by cases e), hd_497⟩, Keeps.mkT (A := [(b4, ⟨1, deepC (cellRow (β := Int)) ts_497 y3⟩), (b1, ⟨7, [encFile (list.getD (Int.toNat v) default)]⟩)]) (T := os_497) (T' := os_497) (H := [(b4, ⟨1, deepC (cellRow (β := Int)) ts_497 y3⟩), (b1, ⟨7, [encFile (list.getD (Int.toNat v) default)]⟩)]) (ks := [0, 1]) rfl (by exact ⟨rfl, rfl, rfl, rfl, rfl, rfl, trivial⟩) rfl (by exact (⟨_, _, rfl, rfl, _, _, rfl, rfl, rfl⟩)) rfl (List.Sublist.refl _)⟩
       ·
        replace hm3 := cond_f hc2 hm3
        refine V.skip ?_
        exact ⟨(rows0, (none, [], [])), ⟨Option.some.inj hm3, (fun _ => hob1), (Deep.ofNil hob1)⟩, Keeps.mkT (A := [(b1, ⟨7, [encFile (list.getD (Int.toNat v) default)]⟩)]) (T := []) (T' := []) (H := [(b1, ⟨7, [encFile (list.getD (Int.toNat v) default)]⟩)]) (ks := [0]) rfl (by exact ⟨rfl, rfl, rfl, rfl, rfl, rfl, trivial⟩) (List.append_nil _).symm (by exact (⟨_, _, rfl, rfl, rfl⟩)) rfl (List.Sublist.refl _)⟩
      ·
       rintro ⟨rows2, ⟨ob2, ts_496, os_496⟩⟩ ⟨rfl, hob2, hd_496⟩
       try dsimp only at hm2
       rcases ob2 with _ | ob2
       ·
        replace hob2 := hob2 rfl
        obtain ⟨rfl, rfl⟩ := Deep.nil hob2 hd_496
        refine V.seq ?_
        replace hm2 := asrt_some hm2; rcases hm2 with ⟨hh4, hm2⟩
        refine V.region ?_
        refine VO.cons rfl (V1.move rfl rfl rfl lt0 ?_)
        refine VO.cons rfl (V1.move rfl rfl rfl lt0 ?_)
        refine VO.weakenK (Keeps.nilsE (l := rows2) 34 rn 1 (encL rn 1 encInt) hob2 rfl rfl) ?_
        refine VO.cons rfl (V1.indexI rfl rfl esz_47 rfl rfl hh4 lt0 ?_)
        exact (nilsNo hob2 hh4).elim
       ·
        refine V.seq ?_
        replace hm2 := asrt_some hm2; rcases hm2 with ⟨hh4, hm2⟩
        replace hm2 := asrt_some hm2; rcases hm2 with ⟨hh5, hm2⟩
        replace hm2 := asrt_some hm2; rcases hm2 with ⟨hh6, hm2⟩
        refine V.region ?_
        refine VO.cons rfl (V1.move rfl rfl rfl lt0 ?_)
        refine VO.cons rfl (V1.move rfl rfl rfl lt0 ?_)
        refine VO.cons rfl (V1.indexSr rfl rfl esz_47 rfl rfl hh4 lt0 ?_)
        refine VO.cons rfl (V1.loadDeepIn (inn := (fun c_ : List Int => List.map encInt c_)) (cell := (cellRow (β := Int))) (ts := ts_496) (xs := rows2) (k := 0) (cokRow 1 encInt) rfl rfl tyk_27 rfl rfl hd_496 (by simpa using natLt hh4.1 hh4.2) lt0 ?_)
        obtain ⟨ib_498, os1_498, os2_498, ht_498, hos_498, hs_498⟩ := Deep.focusNE (f := encInt) (g := (fun c_ : List Int => c_)) (J := (1 : Int)) (Int.toNat y2.1) hd_496 (by simpa using natLt hh4.1 hh4.2) hh5
        refine VO.weakenK (Keeps.say 37 (y := .sref ib_498 1 0 (List.length (rows2.getD (Int.toNat y2.1) default))) rfl ht_498) ?_
        refine VO.weakenK (Keeps.holeFront (A := [(ob2, ⟨1, deepC (cellRow (β := Int)) ts_496 rows2⟩), (b1, ⟨7, [encFile (list.getD (Int.toNat v) default)]⟩)]) (os1 := os1_498) (os2 := os2_498) (p := (ib_498, ⟨1, List.map encInt (rows2.getD (Int.toNat y2.1) default)⟩)) (appEq (A := [(ob2, ⟨1, deepC (cellRow (β := Int)) ts_496 rows2⟩), (b1, ⟨7, [encFile (list.getD (Int.toNat v) default)]⟩)]) hos_498)) ?_
        refine VO.cons rfl (V1.indexSr rfl rfl esz_27 rfl rfl hh5 lt0 ?_)
        refine VO.cons rfl (V1.loadMap (k := 0) (f := encInt) rfl rfl tyk_3 rfl rfl (by simpa using natLt hh5.1 hh5.2) rfl lt0 ?_)
        refine VO.cons rfl (V1.int rfl rfl rfl rfl rfl lt0 ?_)
        refine VO.cons rfl (V1.indexSr rfl rfl esz_27 rfl rfl hh6 lt0 ?_)
        refine VO.cons rfl (V1.storeMap (k := 0) (f := encInt) (x := (IntKind.i64.wrap (((rows2.getD (Int.toNat y2.1) default).getD (Int.toNat (1 : Int)) default) + (1 : Int)))) rfl rfl tyk_3 rfl rfl (by simpa using natLt hh6.1 hh6.2) rfl rfl ?_)
        refine VO.weakenK (Keeps.fillFront (A := [(ob2, ⟨1, deepC (cellRow (β := Int)) ts_496 rows2⟩), (b1, ⟨7, [encFile (list.getD (Int.toNat v) default)]⟩)]) (os1 := os1_498) (os2 := os2_498) (p := (ib_498, ⟨1, List.map encInt ((rows2.getD (Int.toNat y2.1) default).set (Int.toNat (1 : Int)) (IntKind.i64.wrap (((rows2.getD (Int.toNat y2.1) default).getD (Int.toNat (1 : Int)) default) + (1 : Int))))⟩)) rfl) ?_
        refine VO.weakenK (Keeps.sayObj 0 (ys := deepC (cellRow (β := Int)) ts_496 (rows2.set (Int.toNat y2.1) ((rows2.getD (Int.toNat y2.1) default).set (Int.toNat (1 : Int)) (IntKind.i64.wrap (((rows2.getD (Int.toNat y2.1) default).getD (Int.toNat (1 : Int)) default) + (1 : Int)))))) rfl (deepC_same (Deep.length hd_496) (fun _ => rfl))) ?_
        refine VO.weakenK (Keeps.say 4 (y := .sref ob2 1 0 (List.length (rows2.set (Int.toNat y2.1) ((rows2.getD (Int.toNat y2.1) default).set (Int.toNat (1 : Int)) (IntKind.i64.wrap (((rows2.getD (Int.toNat y2.1) default).getD (Int.toNat (1 : Int)) default) + (1 : Int))))))) rfl (by simp [optS])) ?_
        refine VO.nil ?_
        refine V.keepT 54 [4, 6, 7, 12, 13, 14] [0, 1] (E0 := [(4, .sref ob2 1 0 (List.length (rows2.set (Int.toNat y2.1) ((rows2.getD (Int.toNat y2.1) default).set (Int.toNat (1 : Int)) (IntKind.i64.wrap (((rows2.getD (Int.toNat y2.1) default).getD (Int.toNat (1 : Int)) default) + (1 : Int))))))), (6, .ref b1 7 0 0), (7, .int .i64 y2.1), (12, .vl ρ0 7 (List.map encFile list)), (13, .int .i64 (list.length : Int)), (14, .int .i64 v)]) (A := [(ob2, ⟨1, deepC (cellRow (β := Int)) ts_496 (rows2.set (Int.toNat y2.1) ((rows2.getD (Int.toNat y2.1) default).set (Int.toNat (1 : Int)) (IntKind.i64.wrap (((rows2.getD (Int.toNat y2.1) default).getD (Int.toNat (1 : Int)) default) + (1 : Int)))))⟩), (b1, ⟨7, [encFile (list.getD (Int.toNat v) default)]⟩)]) (T := (os1_498 ++ ([(ib_498, ⟨1, List.map encInt ((rows2.getD (Int.toNat y2.1) default).set (Int.toNat (1 : Int)) (IntKind.i64.wrap (((rows2.getD (Int.toNat y2.1) default).getD (Int.toNat (1 : Int)) default) + (1 : Int))))⟩)] ++ os2_498))) (H0 := [(ob2, ⟨1, deepC (cellRow (β := Int)) ts_496 (rows2.set (Int.toNat y2.1) ((rows2.getD (Int.toNat y2.1) default).set (Int.toNat (1 : Int)) (IntKind.i64.wrap (((rows2.getD (Int.toNat y2.1) default).getD (Int.toNat (1 : Int)) default) + (1 : Int)))))⟩), (b1, ⟨7, [encFile (list.getD (Int.toNat v) default)]⟩)]) (T' := (os1_498 ++ ([(ib_498, ⟨1, List.map encInt ((rows2.getD (Int.toNat y2.1) default).set (Int.toNat (1 : Int)) (IntKind.i64.wrap (((rows2.getD (Int.toNat y2.1) default).getD (Int.toNat (1 : Int)) default) + (1 : Int))))⟩)] ++ os2_498))) rfl (⟨_, _, rfl, rfl, _, _, rfl, rfl, _, _, rfl, rfl, _, _, rfl, rfl, _, _, rfl, rfl, _, _, rfl, rfl, rfl⟩) rfl (⟨_, _, rfl, rfl, _, _, rfl, rfl, rfl⟩) rfl (List.Sublist.refl _) ?_
        replace hm2 := asrt_some hm2; rcases hm2 with ⟨hh7, hm2⟩
        replace hm2 := asrt_some hm2; rcases hm2 with ⟨hh8, hm2⟩
        obtain ⟨ib_499, os1_499, os2_499, ht_499, hos_499, hs_499⟩ := Deep.focusNE (f := encInt) (g := (fun c_ : List Int => c_)) (J := (2 : Int)) (Int.toNat y2.1) (hs_498 ((rows2.getD (Int.toNat y2.1) default).set (Int.toNat (1 : Int)) (IntKind.i64.wrap (((rows2.getD (Int.toNat y2.1) default).getD (Int.toNat (1 : Int)) default) + (1 : Int)))) (by simp)) (by simpa using natLt hh7.1 hh7.2) hh8
        refine V.weakenK (Keeps.holeFront (A := [(ob2, ⟨1, deepC (cellRow (β := Int)) ts_496 (rows2.set (Int.toNat y2.1) ((rows2.getD (Int.toNat y2.1) default).set (Int.toNat (1 : Int)) (IntKind.i64.wrap (((rows2.getD (Int.toNat y2.1) default).getD (Int.toNat (1 : Int)) default) + (1 : Int)))))⟩), (b1, ⟨7, [encFile (list.getD (Int.toNat v) default)]⟩)]) (os1 := os1_499) (os2 := os2_499) (p := (ib_499, ⟨1, List.map encInt ((rows2.set (Int.toNat y2.1) ((rows2.getD (Int.toNat y2.1) default).set (Int.toNat (1 : Int)) (IntKind.i64.wrap (((rows2.getD (Int.toNat y2.1) default).getD (Int.toNat (1 : Int)) default) + (1 : Int))))).getD (Int.toNat y2.1) default)⟩)) (appEq (A := [(ob2, ⟨1, deepC (cellRow (β := Int)) ts_496 (rows2.set (Int.toNat y2.1) ((rows2.getD (Int.toNat y2.1) default).set (Int.toNat (1 : Int)) (IntKind.i64.wrap (((rows2.getD (Int.toNat y2.1) default).getD (Int.toNat (1 : Int)) default) + (1 : Int)))))⟩), (b1, ⟨7, [encFile (list.getD (Int.toNat v) default)]⟩)]) hos_499)) ?_
        replace hm2 := asrt_some hm2; rcases hm2 with ⟨hh9, hm2⟩
        replace hm2 := asrt_some hm2; rcases hm2 with ⟨hh10, hm2⟩
        replace hm2 := asrt_some hm2; rcases hm2 with ⟨hh11, hm2⟩
        refine V.regionM 54 8 [⟨[(4, none)], [], none⟩, ⟨[(7, none)], [], none⟩, ⟨[(42, some 1), (43, some 0)], [], none⟩, ⟨[(44, some 0)], [], none⟩, ⟨[(45, some 0)], [], none⟩, ⟨[(46, some 0)], [], none⟩, ⟨[(6, none)], [], none⟩, ⟨[(48, some 0)], [], none⟩] [(4, none), (12, none), (13, none), (14, none), (45, some 4), (47, some 2), (49, some 0)] (⟨_, rfl, ⟨_, rfl, ⟨_, rfl, ⟨_, rfl, ⟨_, rfl, ⟨_, rfl, ⟨_, rfl, ⟨_, rfl, ⟨rfl, rfl⟩⟩⟩⟩⟩⟩⟩⟩⟩) mixed_orders rfl (by decide +kernel) (fun hck11 => ?_)
        refine VP.step (p := ?pv501) rfl rfl rfl (⟨_, _, rfl, rfl, rfl⟩) ?hv501 ?rest501 hck11
        case hv501 =>
         intro E1
         refine (V1.move rfl rfl rfl lt0 ?_)
         exact rfl
        refine VP.step (p := ?pv502) rfl rfl rfl (⟨_, _, rfl, rfl, rfl⟩) ?hv502 ?rest502 hck11
        case hv502 =>
         intro E1
         refine (V1.move rfl rfl rfl lt0 ?_)
         exact rfl
        refine VP.step (p := ?pv503) rfl rfl rfl (⟨_, _, rfl, rfl, _, _, rfl, rfl, rfl⟩) ?hv503 ?rest503 hck11
        case hv503 =>
         intro E1
         refine (V1.indexSr rfl rfl esz_47 rfl rfl hh9 lt0 ?_)
         exact rfl
        refine VP.step (p := ?pv504) rfl rfl rfl (⟨_, _, rfl, rfl, rfl⟩) ?hv504 ?rest504 hck11
        case hv504 =>
         intro E1
         refine (V1.loadKnown (inn := (fun c_ : List Int => List.map encInt c_)) (cell := (cellRow (β := Int))) (ts := ts_496) (xs := (rows2.set (Int.toNat y2.1) ((rows2.getD (Int.toNat y2.1) default).set (Int.toNat (1 : Int)) (IntKind.i64.wrap (((rows2.getD (Int.toNat y2.1) default).getD (Int.toNat (1 : Int)) default) + (1 : Int)))))) (k := 1) (cokRow 1 encInt) rfl rfl tyk_27 rfl rfl (Deep.length (hs_498 ((rows2.getD (Int.toNat y2.1) default).set (Int.toNat (1 : Int)) (IntKind.i64.wrap (((rows2.getD (Int.toNat y2.1) default).getD (Int.toNat (1 : Int)) default) + (1 : Int)))) (by simp))) (by simpa using natLt hh9.1 hh9.2) ht_499 rfl lt0 ?_)
         exact rfl
        refine VP.step (p := ?pv505) rfl rfl rfl (⟨_, _, rfl, rfl, rfl⟩) ?hv505 ?rest505 hck11
        case hv505 =>
         intro E1
         refine (V1.indexSr rfl rfl esz_27 rfl rfl hh10 lt0 ?_)
         exact rfl
        refine VP.step (p := ?pv506) rfl rfl rfl (⟨_, _, rfl, rfl, rfl⟩) ?hv506 ?rest506 hck11
        case hv506 =>
         intro E1
         refine (V1.loadMap (k := 0) (f := encInt) rfl rfl tyk_3 rfl rfl (by simpa using natLt hh10.1 hh10.2) rfl lt0 ?_)
         exact rfl
        refine VP.step (p := ?pv507) rfl rfl rfl (⟨_, _, rfl, rfl, rfl⟩) ?hv507 ?rest507 hck11
        case hv507 =>
         intro E1
         refine (V1.fieldRef rfl rfl fo_97_6 rfl lt0 ?_)
         exact rfl
        refine VP.step (p := ?pv508) rfl rfl rfl (⟨_, _, rfl, rfl, rfl⟩) ?hv508 ?rest508 hck11
        case hv508 =>
         intro E1
         refine (V1.loadRef (k := 2) rfl rfl tyk_3 rfl rfl rfl rfl rfl lt0 ?_)
         exact rfl
        refine VP.fin rfl (⟨_, _, rfl, rfl, _, _, rfl, rfl, _, _, rfl, rfl, _, _, rfl, rfl, _, _, rfl, rfl, _, _, rfl, rfl, _, _, rfl, rfl, rfl⟩) ?_
        refine VO.cons rfl (V1.int rfl rfl rfl rfl rfl lt0 ?_)
        refine VO.cons rfl (V1.indexSr rfl rfl esz_27 rfl rfl hh11 lt0 ?_)
        refine VO.cons rfl (V1.storeMap (k := 0) (f := encInt) (x := (IntKind.i64.wrap ((((rows2.set (Int.toNat y2.1) ((rows2.getD (Int.toNat y2.1) default).set (Int.toNat (1 : Int)) (IntKind.i64.wrap (((rows2.getD (Int.toNat y2.1) default).getD (Int.toNat (1 : Int)) default) + (1 : Int))))).getD (Int.toNat y2.1) default).getD (Int.toNat (2 : Int)) default) + ((list.getD (Int.toNat v) default).Pages)))) rfl rfl tyk_3 rfl rfl (by simpa using natLt hh11.1 hh11.2) rfl rfl ?_)
        refine VO.weakenK (Keeps.fillFront (A := [(ob2, ⟨1, deepC (cellRow (β := Int)) ts_496 (rows2.set (Int.toNat y2.1) ((rows2.getD (Int.toNat y2.1) default).set (Int.toNat (1 : Int)) (IntKind.i64.wrap (((rows2.getD (Int.toNat y2.1) default).getD (Int.toNat (1 : Int)) default) + (1 : Int)))))⟩), (b1, ⟨7, [encFile (list.getD (Int.toNat v) default)]⟩)]) (os1 := os1_499) (os2 := os2_499) (p := (ib_499, ⟨1, List.map encInt (((rows2.set (Int.toNat y2.1) ((rows2.getD (Int.toNat y2.1) default).set (Int.toNat (1 : Int)) (IntKind.i64.wrap (((rows2.getD (Int.toNat y2.1) default).getD (Int.toNat (1 : Int)) default) + (1 : Int))))).getD (Int.toNat y2.1) default).set (Int.toNat (2 : Int)) (IntKind.i64.wrap ((((rows2.set (Int.toNat y2.1) ((rows2.getD (Int.toNat y2.1) default).set (Int.toNat (1 : Int)) (IntKind.i64.wrap (((rows2.getD (Int.toNat y2.1) default).getD (Int.toNat (1 : Int)) default) + (1 : Int))))).getD (Int.toNat y2.1) default).getD (Int.toNat (2 : Int)) default) + ((list.getD (Int.toNat v) default).Pages))))⟩)) rfl) ?_
        refine VO.weakenK (Keeps.sayObj 0 (ys := deepC (cellRow (β := Int)) ts_496 ((rows2.set (Int.toNat y2.1) ((rows2.getD (Int.toNat y2.1) default).set (Int.toNat (1 : Int)) (IntKind.i64.wrap (((rows2.getD (Int.toNat y2.1) default).getD (Int.toNat (1 : Int)) default) + (1 : Int))))).set (Int.toNat y2.1) (((rows2.set (Int.toNat y2.1) ((rows2.getD (Int.toNat y2.1) default).set (Int.toNat (1 : Int)) (IntKind.i64.wrap (((rows2.getD (Int.toNat y2.1) default).getD (Int.toNat (1 : Int)) default) + (1 : Int))))).getD (Int.toNat y2.1) default).set (Int.toNat (2 : Int)) (IntKind.i64.wrap ((((rows2.set (Int.toNat y2.1) ((rows2.getD (Int.toNat y2.1) default).set (Int.toNat (1 : Int)) (IntKind.i64.wrap (((rows2.getD (Int.toNat y2.1) default).getD (Int.toNat (1 : Int)) default) + (1 : Int))))).getD (Int.toNat y2.1) default).getD (Int.toNat (2 : Int)) default) + ((list.getD (Int.toNat v) default).Pages)))))) rfl (deepC_same (Deep.length (hs_498 ((rows2.getD (Int.toNat y2.1) default).set (Int.toNat (1 : Int)) (IntKind.i64.wrap (((rows2.getD (Int.toNat y2.1) default).getD (Int.toNat (1 : Int)) default) + (1 : Int)))) (by simp))) (fun _ => rfl))) ?_
        refine VO.weakenK (Keeps.say 4 (y := .sref ob2 1 0 (List.length ((rows2.set (Int.toNat y2.1) ((rows2.getD (Int.toNat y2.1) default).set (Int.toNat (1 : Int)) (IntKind.i64.wrap (((rows2.getD (Int.toNat y2.1) default).getD (Int.toNat (1 : Int)) default) + (1 : Int))))).set (Int.toNat y2.1) (((rows2.set (Int.toNat y2.1) ((rows2.getD (Int.toNat y2.1) default).set (Int.toNat (1 : Int)) (IntKind.i64.wrap (((rows2.getD (Int.toNat y2.1) default).getD (Int.toNat (1 : Int)) default) + (1 : Int))))).getD (Int.toNat y2.1) default).set (Int.toNat (2 : Int)) (IntKind.i64.wrap ((((rows2.set (Int.toNat y2.1) ((rows2.getD (Int.toNat y2.1) default).set (Int.toNat (1 : Int)) (IntKind.i64.wrap (((rows2.getD (Int.toNat y2.1) default).getD (Int.toNat (1 : Int)) default) + (1 : Int))))).getD (Int.toNat y2.1) default).getD (Int.toNat (2 : Int)) default) + ((list.getD (Int.toNat v) default).Pages))))))) rfl (by simp [optS])) ?_
        refine VO.nil ?_
        exact ⟨(((rows2.set (Int.toNat y2.1) ((rows2.getD (Int.toNat y2.1) default).set (Int.toNat (1 : Int)) (IntKind.i64.wrap (((rows2.getD (Int.toNat y2.1) default).getD (Int.toNat (1 : Int)) default) + (1 : Int))))).set (Int.toNat y2.1) (((rows2.set (Int.toNat y2.1) ((rows2.getD (Int.toNat y2.1) default).set (Int.toNat (1 : Int)) (IntKind.i64.wrap (((rows2.getD (Int.toNat y2.1) default).getD (Int.toNat (1 : Int)) default) + (1 : Int))))).getD (Int.toNat y2.1) default).set (Int.toNat (2 : Int)) (IntKind.i64.wrap ((((rows2.set (Int.toNat y2.1) ((rows2.getD (Int.toNat y2.1) default).set (Int.toNat (1 : Int)) (IntKind.i64.wrap (((rows2.getD (Int.toNat y2.1) default).getD (Int.toNat (1 : Int)) default) + (1 : Int))))).getD (Int.toNat y2.1) default).getD (Int.toNat (2 : Int)) default) + ((list.getD (Int.toNat v) default).Pages))))), (ob2, ts_496, (os1_499 ++ ([(ib_499, ⟨1, List.map encInt (((rows2.set (Int.toNat y2.1) ((rows2.getD (Int.toNat y2.1) default).set (Int.toNat (1 : Int)) (IntKind.i64.wrap (((rows2.getD (Int.toNat y2.1) default).getD (Int.toNat (1 : Int)) default) + (1 : Int))))).getD (Int.toNat y2.1) default).set (Int.toNat (2 : Int)) (IntKind.i64.wrap ((((rows2.set (Int.toNat y2.1) ((rows2.getD (Int.toNat y2.1) default).set (Int.toNat (1 : Int)) (IntKind.i64.wrap (((rows2.getD (Int.toNat y2.1) default).getD (Int.toNat (1 : Int)) default) + (1 : Int))))).getD (Int.toNat y2.1) default).getD (Int.toNat (2 : Int)) default) + ((list.getD (Int.toNat v) default).Pages))))⟩)] ++ os2_499)))), ⟨Option.some.inj hm2, (hs_499 (((rows2.set (Int.toNat y2.1) ((rows2.getD (Int.toNat y2.1) default).set (Int.toNat (1 : Int)) (IntKind.i64.wrap (((rows2.getD (Int.toNat y2.1) default).getD (Int.toNat (1 : Int)) default) + (1 : Int))))).getD (Int.toNat y2.1) default).set (Int.toNat (2 : Int)) (IntKind.i64.wrap ((((rows2.set (Int.toNat y2.1) ((rows2.getD (Int.toNat y2.1) default).set (Int.toNat (1 : Int)) (IntKind.i64.wrap (((rows2.getD (Int.toNat y2.1) default).getD (Int.toNat (1 : Int)) default) + (1 : Int))))).getD (Int.toNat y2.1) default).getD (Int.toNat (2 : Int)) default) + ((list.getD (Int.toNat v) default).Pages)))) (by simp))⟩, Keeps.mkT (A := [(ob2, ⟨1, deepC (cellRow (β := Int)) ts_496 ((rows2.set (Int.toNat y2.1) ((rows2.getD (Int.toNat y2.1) default).set (Int.toNat (1 : Int)) (IntKind.i64.wrap (((rows2.getD (Int.toNat y2.1) default).getD (Int.toNat (1 : Int)) default) + (1 : Int))))).set (Int.toNat y2.1) (((rows2.set (Int.toNat y2.1) ((rows2.getD (Int.toNat y2.1) default).set (Int.toNat (1 : Int)) (IntKind.i64.wrap (((rows2.getD (Int.toNat y2.1) default).getD (Int.toNat (1 : Int)) default) + (1 : Int))))).getD (Int.toNat y2.1) default).set (Int.toNat (2 : Int)) (IntKind.i64.wrap ((((rows2.set (Int.toNat y2.1) ((rows2.getD (Int.toNat y2.1) default).set (Int.toNat (1 : Int)) (IntKind.i64.wrap (((rows2.getD (Int.toNat y2.1) default).getD (Int.toNat (1 : Int)) default) + (1 : Int))))).getD (Int.toNat y2.1) default).getD (Int.toNat (2 : Int)) default) + ((list.getD (Int.toNat v) default).Pages)))))⟩), (b1, ⟨7, [encFile (list.getD (Int.toNat v) default)]⟩)]) (T := (os1_499 ++ ([(ib_499, ⟨1, List.map encInt (((rows2.set (Int.toNat y2.1) ((rows2.getD (Int.toNat y2.1) default).set (Int.toNat (1 : Int)) (IntKind.i64.wrap (((rows2.getD (Int.toNat y2.1) default).getD (Int.toNat (1 : Int)) default) + (1 : Int))))).getD (Int.toNat y2.1) default).set (Int.toNat (2 : Int)) (IntKind.i64.wrap ((((rows2.set (Int.toNat y2.1) ((rows2.getD (Int.toNat y2.1) default).set (Int.toNat (1 : Int)) (IntKind.i64.wrap (((rows2.getD (Int.toNat y2.1) default).getD (Int.toNat (1 : Int)) default) + (1 : Int))))).getD (Int.toNat y2.1) default).getD (Int.toNat (2 : Int)) default) + ((list.getD (Int.toNat v) default).Pages))))⟩)] ++ os2_499))) (T' := (os1_499 ++ ([(ib_499, ⟨1, List.map encInt (((rows2.set (Int.toNat y2.1) ((rows2.getD (Int.toNat y2.1) default).set (Int.toNat (1 : Int)) (IntKind.i64.wrap (((rows2.getD (Int.toNat y2.1) default).getD (Int.toNat (1 : Int)) default) + (1 : Int))))).getD (Int.toNat y2.1) default).set (Int.toNat (2 : Int)) (IntKind.i64.wrap ((((rows2.set (Int.toNat y2.1) ((rows2.getD (Int.toNat y2.1) default).set (Int.toNat (1 : Int)) (IntKind.i64.wrap (((rows2.getD (Int.toNat y2.1) default).getD (Int.toNat (1 : Int)) default) + (1 : Int))))).getD (Int.toNat y2.1) default).getD (Int.toNat (2 : Int)) default) + ((list.getD (Int.toNat v) default).Pages))))⟩)] ++ os2_499))) (H := [(ob2, ⟨1, deepC (cellRow (β := Int)) ts_496 ((rows2.set (Int.toNat y2.1) ((rows2.getD (Int.toNat y2.1) default).set (Int.toNat (1 : Int)) (IntKind.i64.wrap (((rows2.getD (Int.toNat y2.1) default).getD (Int.toNat (1 : Int)) default) + (1 : Int))))).set (Int.toNat y2.1) (((rows2.set (Int.toNat y2.1) ((rows2.getD (Int.toNat y2.1) default).set (Int.toNat (1 : Int)) (IntKind.i64.wrap (((rows2.getD (Int.toNat y2.1) default).getD (Int.toNat (1 : Int)) default) + (1 : Int))))).getD (Int.toNat y2.1) default).set (Int.toNat (2 : Int)) (IntKind.i64.wrap ((((rows2.set (Int.toNat y2.1) ((rows2.getD (Int.toNat y2.1) default).set (Int.toNat (1 : Int)) (IntKind.i64.wrap (((rows2.getD (Int.toNat y2.1) default).getD (Int.toNat (1 : Int)) default) + (1 : Int))))).getD (Int.toNat y2.1) default).getD (Int.toNat (2 : Int)) default) + ((list.getD (Int.toNat v) default).Pages)))))⟩)]) (ks := [0]) rfl (by exact ⟨rfl, rfl, rfl, rfl, trivial⟩) rfl (by exact (⟨_, _, rfl, rfl, rfl⟩)) rfl (List.Sublist.refl _)⟩
     ·
      rintro ⟨rows1, ⟨b0, ts_493, os_493⟩⟩ ⟨rfl, hd_493⟩
      try dsimp only at hm1
      refine V.region ?_
      refine VO.cons rfl (V1.int rfl rfl rfl rfl rfl lt0 ?_)
      refine VO.cons rfl (V1.move rfl rfl rfl lt0 ?_)
      refine VO.nil ?_
      exact ⟨(m0, (rows1, (IntKind.i64.wrap (v + (1 : Int)))), ((some b0), ts_493, os_493)), ⟨hl1 _ (Option.some.inj hm1).symm, (fun e => by cases e), hd_493⟩, Nat.lt_succ_self _, Keeps.mkT (A := [(b0, ⟨1, deepC (cellRow (β := Int)) ts_493 rows1⟩)]) (T := os_493) (T' := os_493) (H := [(b0, ⟨1, deepC (cellRow (β := Int)) ts_493 rows1⟩)]) (ks := [0]) rfl (by exact ⟨rfl, rfl, rfl, rfl, trivial⟩) rfl (by exact (⟨_, _, rfl, rfl, rfl⟩)) rfl (List.Sublist.refl _)⟩
    ·
     replace hm1 := cond_f hc1 hm1
     refine V.exit ?_
     obtain rfl := hr1 _ (Option.some.inj hm1).symm
     exact ⟨(rows0, (none, [], [])), ⟨rfl, (fun _ => hob1), (Deep.ofNil hob1)⟩, Keeps.mkT (A := []) (T := []) (T' := []) (H := []) (ks := []) rfl (by exact ⟨rfl, trivial⟩) (List.append_nil _).symm (by exact (rfl)) rfl (List.Sublist.refl _)⟩
   ·
    show V _ _ _ ⟨54, [(4, .sref ob1 1 0 (List.length rows0)), (14, .int .i64 v), (12, .vl ρ0 7 (List.map encFile list)), (13, .int .i64 (list.length : Int))], (([(ob1, ⟨1, deepC (cellRow (β := Int)) ts_478 rows0⟩)] : List (Nat × Obj')) ++ os_478)⟩
    refine V.seq ?_
    refine V.region ?_
    refine VO.cons rfl (V1.int rfl rfl rfl rfl rfl lt0 ?_)
    refine VO.nil ?_
    refine V.seq ?_
    refine V.cond rfl (fun hc1 => ?_) (fun hc1 => ?_)
    ·
     replace hm1 := cond_t hc1 hm1
     refine V.skip ?_
     refine V.seq ?_
     replace hm1 := bindO hm1; rcases hm1 with ⟨j0, hm2, hm1⟩
     refine V.cutT (D := (List (List Int)) × (Nat × List PV × (List (Nat × Obj')))) (fun ⟨rows1, ⟨b0, ts_522, os_522⟩⟩ => ⟨54, [(4, .sref b0 1 0 (List.length rows1)), (12, .vl ρ0 7 (List.map encFile list)), (13, .int .i64 (list.length : Int)), (14, .int .i64 v)], ([(b0, ⟨1, deepC (cellRow (β := Int)) ts_522 rows1⟩)]) ++ os_522⟩) (fun ⟨rows1, ⟨b0, ts_522, os_522⟩⟩ => (rows1 = j0) ∧ Deep 1 (fun c_ : List Int => List.map encInt c_) ts_522 os_522 rows1) ?_ ?_
     ·
      refine V.block ?_
      refine V.seq ?_
      replace hm2 := asrt_some hm2; rcases hm2 with ⟨hh1, hm2⟩
      refine V.region ?_
      refine VO.cons rfl (V1.indexI rfl rfl esz_41 rfl rfl hh1 lt0 ?_)
      refine VO.cons rfl (V1.loadPinAll rfl rfl tyk_97 rfl rfl lt0 ?_)
      refine VO.cons rfl (V1.alloc rfl rfl zk_97 lt0 ?_)
      intro b1
      refine VO.cons rfl (V1.storeRefAll (k := 0) rfl rfl tyk_97 rfl rfl rfl rfl rfl rfl ?_)
      refine VO.nil ?_
      refine V.seq ?_
      replace hm2 := bindO hm2; rcases hm2 with ⟨y2, hh2, hm2⟩
      refine V.region ?_
      refine VO.cons rfl (V1.move rfl rfl rfl lt0 ?_)
      refine VO.cons rfl (V1.fieldRef rfl rfl fo_97_1 rfl lt0 ?_)
      refine VO.cons rfl (V1.loadRef (k := 0) rfl rfl tyk_3 rfl rfl rfl rfl rfl lt0 ?_)
      refine VO.cons rfl (V1.callL (rn + 1) ([ob1] ++ List.map Prod.fst os_478) [.vl (rn + 1) 1 (List.map (encL (rn + 1) 1 encInt) rows0), .int .i64 ((list.getD (Int.toNat v) default).Series), .fn 78 []] rfl rfl rfl cok_77 rfl ⟨_, _, rfl, Lend.deep (m := 1) (inn := (fun c_ : List Int => List.map encInt c_)) (cell := (cellRow (β := Int))) (cokRow 1 encInt) (ts := ts_478) (os := os_478) (xs := rows0) 1 hd_478 rfl (fun _ => roL_map (fun _ => rfl) _) rfl (fun p hp => memTail (A := [(b1, ⟨7, [encFile (list.getD (Int.toNat v) default)]⟩), (ob1, ⟨1, deepC (cellRow (β := Int)) ts_478 rows0⟩)]) (T := os_478) hp rfl) (List.mem_append_left _ (.head _)) (fun p hp => List.mem_append_right _ (List.mem_map.2 ⟨p, hp, rfl⟩)), ⟨_, _, rfl, .same _, ⟨_, _, rfl, Lend.fn rfl, rfl⟩⟩⟩ (bwTail (A := [(b1, ⟨7, [encFile (list.getD (Int.toNat v) default)]⟩), (ob1, ⟨1, deepC (cellRow (β := Int)) ts_478 rows0⟩)]) (T := os_478) rfl (bwCons (k := 1) rfl bwNil) (fun p hp => hp)) (ok_slices_BinarySearchFunc_int_int_int hh2 (fm := (fun x0 x1 => M.impl_SeriesPages_1 x0 x1)) cok_78 (fun _ _ _ h => ok_impl_SeriesPages_1 h)) rfl (⟨(by first | omega | (dsimp only; omega)), by rintro _ _ ⟨rfl, rfl⟩; exact ⟨rfl, by simp⟩⟩) lt0 ?_)
      rintro _ _ ⟨rfl, rfl⟩
      refine VO.cons rfl (V1.move rfl rfl rfl lt0 ?_)
      refine VO.cons rfl (V1.extract rfl rfl rfl rfl lt0 ?_)
      refine VO.cons rfl (V1.extract rfl rfl rfl rfl lt0 ?_)
      refine VO.cons rfl (V1.assign rfl rfl rfl lt0 ?_)
      refine VO.cons rfl (V1.assign rfl rfl rfl lt0 ?_)
      refine VO.nil ?_
      refine V.keepT 54 [4, 6, 7, 8, 12, 13, 14] [0, 1] (E0 := [(4, .sref ob1 1 0 (List.length rows0)), (6, .ref b1 7 0 0), (7, .int .i64 y2.1), (8, .bool y2.2), (12, .vl ρ0 7 (List.map encFile list)), (13, .int .i64 (list.length : Int)), (14, .int .i64 v)]) (A := [(b1, ⟨7, [encFile (list.getD (Int.toNat v) default)]⟩), (ob1, ⟨1, deepC (cellRow (β := Int)) ts_478 rows0⟩)]) (T := os_478) (H0 := [(b1, ⟨7, [encFile (list.getD (Int.toNat v) default)]⟩), (ob1, ⟨1, deepC (cellRow (β := Int)) ts_478 rows0⟩)]) (T' := os_478) rfl (⟨_, _, rfl, rfl, _, _, rfl, rfl, _, _, rfl, rfl, _, _, rfl, rfl, _, _, rfl, rfl, _, _, rfl, rfl, _, _, rfl, rfl, rfl⟩) rfl (⟨_, _, rfl, rfl, _, _, rfl, rfl, rfl⟩) rfl (List.Sublist.refl _) ?_
      refine V.seq ?_
      replace hm2 := bindO hm2; rcases hm2 with ⟨j1, hm3, hm2⟩
      refine V.cutT (D := (List (List Int)) × (Nat × List PV × (List (Nat × Obj')))) (fun ⟨rows2, ⟨b2, ts_525, os_525⟩⟩ => ⟨54, [(4, .sref b2 1 0 (List.length rows2)), (6, .ref b1 7 0 0), (7, .int .i64 y2.1), (12, .vl ρ0 7 (List.map encFile list)), (13, .int .i64 (list.length : Int)), (14, .int .i64 v)], ([(b2, ⟨1, deepC (cellRow (β := Int)) ts_525 rows2⟩)] ++ [(b1, ⟨7, [encFile (list.getD (Int.toNat v) default)]⟩)]) ++ os_525⟩) (fun ⟨rows2, ⟨b2, ts_525, os_525⟩⟩ => (rows2 = j1) ∧ Deep 1 (fun c_ : List Int => List.map encInt c_) ts_525 os_525 rows2) ?_ ?_
      ·
       refine V.seq ?_
       refine V.region ?_
       refine VO.cons rfl (V1.move rfl rfl rfl lt0 ?_)
       refine VO.cons rfl (V1.not rfl rfl rfl lt0 ?_)
       refine VO.nil ?_
       refine V.cond rfl (fun hc2 => ?_) (fun hc2 => ?_)
       ·
        replace hm3 := cond_t hc2 hm3
        replace hm3 := bindO hm3; rcases hm3 with ⟨y3, hh3, hm3⟩
        refine V.region ?_
        refine VO.cons rfl (V1.move rfl rfl rfl lt0 ?_)
        refine VO.cons rfl (V1.move rfl rfl rfl lt0 ?_)
        refine VO.cons rfl (V1.fieldRef rfl rfl fo_97_1 rfl lt0 ?_)
        refine VO.cons rfl (V1.loadRef (k := 0) rfl rfl tyk_3 rfl rfl rfl rfl rfl lt0 ?_)
        refine VO.cons rfl (V1.buildSliceT (f := encInt) ([(list.getD (Int.toNat v) default).Series, (0 : Int), (0 : Int)] : List Int) rfl rfl esz_27 zk_3 rfl rfl rfl rfl rfl rfl rfl lt0 ?_)
        intro b3
        refine VO.cons rfl (V1.buildDeep (p := .sref b3 1 0 (List.length ([(list.getD (Int.toNat v) default).Series, (0 : Int), (0 : Int)] : List Int))) rfl rfl esz_47 zk_27 rfl rfl rfl rfl rfl rfl rfl lt0 ?_)
        intro b4
        refine VO.weakenK (Keeps.tailPut 1 (A := [(b4, ⟨1, deepC (cellRow (β := Int)) ([.sref b3 1 0 (List.length ([(list.getD (Int.toNat v) default).Series, (0 : Int), (0 : Int)] : List Int))]) ([([(list.getD (Int.toNat v) default).Series, (0 : Int), (0 : Int)] : List Int)] : List (List Int))⟩), (b3, ⟨1, List.map encInt ([(list.getD (Int.toNat v) default).Series, (0 : Int), (0 : Int)] : List Int)⟩), (b1, ⟨7, [encFile (list.getD (Int.toNat v) default)]⟩), (ob1, ⟨1, deepC (cellRow (β := Int)) ts_478 rows0⟩)]) (A' := [(b4, ⟨1, deepC (cellRow (β := Int)) ([.sref b3 1 0 (List.length ([(list.getD (Int.toNat v) default).Series, (0 : Int), (0 : Int)] : List Int))]) ([([(list.getD (Int.toNat v) default).Series, (0 : Int), (0 : Int)] : List Int)] : List (List Int))⟩), (b1, ⟨7, [encFile (list.getD (Int.toNat v) default)]⟩), (ob1, ⟨1, deepC (cellRow (β := Int)) ts_478 rows0⟩)]) (T := os_478) (p := (b3, ⟨1, List.map encInt ([(list.getD (Int.toNat v) default).Series, (0 : Int), (0 : Int)] : List Int)⟩)) rfl rfl rfl) ?_
        refine VO.cons rfl (V1.callIns (m := 1) (inn := (fun c_ : List Int => List.map encInt c_)) (cell := (cellRow (β := Int))) (ts := ts_478) (os := os_478) (xs := rows0) (ts2 := [.sref b3 1 0 (List.length ([(list.getD (Int.toNat v) default).Series, (0 : Int), (0 : Int)] : List Int))]) (os2 := [(b3, ⟨1, List.map encInt ([(list.getD (Int.toNat v) default).Series, (0 : Int), (0 : Int)] : List Int)⟩)]) (xs2 := ([([(list.getD (Int.toNat v) default).Series, (0 : Int), (0 : Int)] : List Int)] : List (List Int))) (r := y3) (oq := (some ob1)) (bv := b4) (i := y2.1) (A := [(b4, ⟨1, deepC (cellRow (β := Int)) ([.sref b3 1 0 (List.length ([(list.getD (Int.toNat v) default).Series, (0 : Int), (0 : Int)] : List Int))]) ([([(list.getD (Int.toNat v) default).Series, (0 : Int), (0 : Int)] : List Int)] : List (List Int))⟩), (b1, ⟨7, [encFile (list.getD (Int.toNat v) default)]⟩), (ob1, ⟨1, deepC (cellRow (β := Int)) ts_478 rows0⟩)]) (A' := [(b1, ⟨7, [encFile (list.getD (Int.toNat v) default)]⟩)]) rfl rfl rfl cok_80 rfl rfl rfl ((perm_erase (k := 0) rfl).trans (List.Perm.cons _ (perm_erase (k := 1) rfl))) (fun e => by cases e) hd_478 (Deep.one (m := 1) (inn := (fun c_ : List Int => List.map encInt c_)) (x := ([(list.getD (Int.toNat v) default).Series, (0 : Int), (0 : Int)] : List Int)) (Deep1.own (by simp))) hh3 (fun rL hL hq => ok_slices_Insert_int_int hL hq) rfl lt0 ?_)
        intro b5 ts_526 os_526 hd_526
        refine VO.cons rfl (V1.assign rfl rfl rfl lt0 ?_)
        refine VO.nil ?_
        exact ⟨(y3, (b5, ts_526, os_526)), ⟨Option.some.inj hm3, hd_526⟩, Keeps.mkT (A := [(b5, ⟨1, deepC (cellRow (β := Int)) ts_526 y3⟩), (b1, ⟨7, [encFile (list.getD (Int.toNat v) default)]⟩)]) (T := os_526) (T' := os_526) (H := [(b5, ⟨1, deepC (cellRow (β := Int)) ts_526 y3⟩), (b1, ⟨7, [encFile (list.getD (Int.toNat v) default)]⟩)]) (ks := [0, 1]) rfl (by exact ⟨rfl, rfl, rfl, rfl, rfl, rfl, trivial⟩) rfl (by exact (⟨_, _, rfl, rfl, _, _, rfl, rfl, rfl⟩)) rfl (List.Sublist.refl _)⟩
       ·
        replace hm3 := cond_f hc2 hm3
        refine V.skip ?_
        exact ⟨(rows0, (ob1, ts_478, os_478)), ⟨Option.some.inj hm3, hd_478⟩, Keeps.mkT (A := [(b1, ⟨7, [encFile (list.getD (Int.toNat v) default)]⟩), (ob1, ⟨1, deepC (cellRow (β := Int)) ts_478 rows0⟩)]) (T := os_478) (T' := os_478) (H := [(ob1, ⟨1, deepC (cellRow (β := Int)) ts_478 rows0⟩), (b1, ⟨7, [encFile (list.getD (Int.toNat v) default)]⟩)]) (ks := [1, 0]) rfl (by exact ⟨rfl, rfl, rfl, rfl, rfl, rfl, trivial⟩) rfl (by exact (⟨_, _, rfl, rfl, _, _, rfl, rfl, rfl⟩)) rfl (List.Sublist.refl _)⟩
      ·
       rintro ⟨rows2, ⟨b2, ts_525, os_525⟩⟩ ⟨rfl, hd_525⟩
       try dsimp only at hm2
       refine V.seq ?_
       replace hm2 := asrt_some hm2; rcases hm2 with ⟨hh4, hm2⟩
       replace hm2 := asrt_some hm2; rcases hm2 with ⟨hh5, hm2⟩
       replace hm2 := asrt_some hm2; rcases hm2 with ⟨hh6, hm2⟩
       refine V.region ?_
       refine VO.cons rfl (V1.move rfl rfl rfl lt0 ?_)
       refine VO.cons rfl (V1.move rfl rfl rfl lt0 ?_)
       refine VO.cons rfl (V1.indexSr rfl rfl esz_47 rfl rfl hh4 lt0 ?_)
       refine VO.cons rfl (V1.loadDeepIn (inn := (fun c_ : List Int => List.map encInt c_)) (cell := (cellRow (β := Int))) (ts := ts_525) (xs := rows2) (k := 0) (cokRow 1 encInt) rfl rfl tyk_27 rfl rfl hd_525 (by simpa using natLt hh4.1 hh4.2) lt0 ?_)
       obtain ⟨ib_527, os1_527, os2_527, ht_527, hos_527, hs_527⟩ := Deep.focusNE (f := encInt) (g := (fun c_ : List Int => c_)) (J := (1 : Int)) (Int.toNat y2.1) hd_525 (by simpa using natLt hh4.1 hh4.2) hh5
       refine VO.weakenK (Keeps.say 37 (y := .sref ib_527 1 0 (List.length (rows2.getD (Int.toNat y2.1) default))) rfl ht_527) ?_
       refine VO.weakenK (Keeps.holeFront (A := [(b2, ⟨1, deepC (cellRow (β := Int)) ts_525 rows2⟩), (b1, ⟨7, [encFile (list.getD (Int.toNat v) default)]⟩)]) (os1 := os1_527) (os2 := os2_527) (p := (ib_527, ⟨1, List.map encInt (rows2.getD (Int.toNat y2.1) default)⟩)) (appEq (A := [(b2, ⟨1, deepC (cellRow (β := Int)) ts_525 rows2⟩), (b1, ⟨7, [encFile (list.getD (Int.toNat v) default)]⟩)]) hos_527)) ?_
       refine VO.cons rfl (V1.indexSr rfl rfl esz_27 rfl rfl hh5 lt0 ?_)
       refine VO.cons rfl (V1.loadMap (k := 0) (f := encInt) rfl rfl tyk_3 rfl rfl (by simpa using natLt hh5.1 hh5.2) rfl lt0 ?_)
       refine VO.cons rfl (V1.int rfl rfl rfl rfl rfl lt0 ?_)
       refine VO.cons rfl (V1.indexSr rfl rfl esz_27 rfl rfl hh6 lt0 ?_)
       refine VO.cons rfl (V1.storeMap (k := 0) (f := encInt) (x := (IntKind.i64.wrap (((rows2.getD (Int.toNat y2.1) default).getD (Int.toNat (1 : Int)) default) + (1 : Int)))) rfl rfl tyk_3 rfl rfl (by simpa using natLt hh6.1 hh6.2) rfl rfl ?_)
       refine VO.weakenK (Keeps.fillFront (A := [(b2, ⟨1, deepC (cellRow (β := Int)) ts_525 rows2⟩), (b1, ⟨7, [encFile (list.getD (Int.toNat v) default)]⟩)]) (os1 := os1_527) (os2 := os2_527) (p := (ib_527, ⟨1, List.map encInt ((rows2.getD (Int.toNat y2.1) default).set (Int.toNat (1 : Int)) (IntKind.i64.wrap (((rows2.getD (Int.toNat y2.1) default).getD (Int.toNat (1 : Int)) default) + (1 : Int))))⟩)) rfl) ?_
       refine VO.weakenK (Keeps.sayObj 0 (ys := deepC (cellRow (β := Int)) ts_525 (rows2.set (Int.toNat y2.1) ((rows2.getD (Int.toNat y2.1) default).set (Int.toNat (1 : Int)) (IntKind.i64.wrap (((rows2.getD (Int.toNat y2.1) default).getD (Int.toNat (1 : Int)) default) + (1 : Int)))))) rfl (deepC_same (Deep.length hd_525) (fun _ => rfl))) ?_
       refine VO.weakenK (Keeps.say 4 (y := .sref b2 1 0 (List.length (rows2.set (Int.toNat y2.1) ((rows2.getD (Int.toNat y2.1) default).set (Int.toNat (1 : Int)) (IntKind.i64.wrap (((rows2.getD (Int.toNat y2.1) default).getD (Int.toNat (1 : Int)) default) + (1 : Int))))))) rfl (by simp [optS])) ?_
       refine VO.nil ?_
       refine V.keepT 54 [4, 6, 7, 12, 13, 14] [0, 1] (E0 := [(4, .sref b2 1 0 (List.length (rows2.set (Int.toNat y2.1) ((rows2.getD (Int.toNat y2.1) default).set (Int.toNat (1 : Int)) (IntKind.i64.wrap (((rows2.getD (Int.toNat y2.1) default).getD (Int.toNat (1 : Int)) default) + (1 : Int))))))), (6, .ref b1 7 0 0), (7, .int .i64 y2.1), (12, .vl ρ0 7 (List.map encFile list)), (13, .int .i64 (list.length : Int)), (14, .int .i64 v)]) (A := [(b2, ⟨1, deepC (cellRow (β := Int)) ts_525 (rows2.set (Int.toNat y2.1) ((rows2.getD (Int.toNat y2.1) default).set (Int.toNat (1 : Int)) (IntKind.i64.wrap (((rows2.getD (Int.toNat y2.1) default).getD (Int.toNat (1 : Int)) default) + (1 : Int)))))⟩), (b1, ⟨7, [encFile (list.getD (Int.toNat v) default)]⟩)]) (T := (os1_527 ++ ([(ib_527, ⟨1, List.map encInt ((rows2.getD (Int.toNat y2.1) default).set (Int.toNat (1 : Int)) (IntKind.i64.wrap (((rows2.getD (Int.toNat y2.1) default).getD (Int.toNat (1 : Int)) default) + (1 : Int))))⟩)] ++ os2_527))) (H0 := [(b2, ⟨1, deepC (cellRow (β := Int)) ts_525 (rows2.set (Int.toNat y2.1) ((rows2.getD (Int.toNat y2.1) default).set (Int.toNat (1 : Int)) (IntKind.i64.wrap (((rows2.getD (Int.toNat y2.1) default).getD (Int.toNat (1 : Int)) default) + (1 : Int)))))⟩), (b1, ⟨7, [encFile (list.getD (Int.toNat v) default)]⟩)]) (T' := (os1_527 ++ ([(ib_527, ⟨1, List.map encInt ((rows2.getD (Int.toNat y2.1) default).set (Int.toNat (1 : Int)) (IntKind.i64.wrap (((rows2.getD (Int.toNat y2.1) default).getD (Int.toNat (1 : Int)) default) + (1 : Int))))⟩)] ++ os2_527))) rfl (⟨_, _, rfl, rfl, _, _, rfl, rfl, _, _, rfl, rfl, _, _, rfl, rfl, _, _, rfl, rfl, _, _, rfl, rfl, rfl⟩) rfl (⟨_, _, rfl, rfl, _, _, rfl, rfl, rfl⟩) rfl (List.Sublist.refl _) ?_
       replace hm2 := asrt_some hm2; rcases hm2 with ⟨hh7, hm2⟩
       replace hm2 := asrt_some hm2; rcases hm2 with ⟨hh8, hm2⟩
       obtain ⟨ib_528, os1_528, os2_528, ht_528, hos_528, hs_528⟩ := Deep.focusNE (f := encInt) (g := (fun c_ : List Int => c_)) (J := (2 : Int)) (Int.toNat y2.1) (hs_527 ((rows2.getD (Int.toNat y2.1) default).set (Int.toNat (1 : Int)) (IntKind.i64.wrap (((rows2.getD (Int.toNat y2.1) default).getD (Int.toNat (1 : Int)) default) + (1 : Int)))) (by simp)) (by simpa using natLt hh7.1 hh7.2) hh8
       refine V.weakenK (Keeps.holeFront (A := [(b2, ⟨1, deepC (cellRow (β := Int)) ts_525 (rows2.set (Int.toNat y2.1) ((rows2.getD (Int.toNat y2.1) default).set (Int.toNat (1 : Int)) (IntKind.i64.wrap (((rows2.getD (Int.toNat y2.1) default).getD (Int.toNat (1 : Int)) default) + (1 : Int)))))⟩), (b1, ⟨7, [encFile (list.getD (Int.toNat v) default)]⟩)]) (os1 := os1_528) (os2 := os2_528) (p := (ib_528, ⟨1, List.map encInt ((rows2.set (Int.toNat y2.1) ((rows2.getD (Int.toNat y2.1) default).set (Int.toNat (1 : Int)) (IntKind.i64.wrap (((rows2.getD (Int.toNat y2.1) default).getD (Int.toNat (1 : Int)) default) + (1 : Int))))).getD (Int.toNat y2.1) default)⟩)) (appEq (A := [(b2, ⟨1, deepC (cellRow (β := Int)) ts_525 (rows2.set (Int.toNat y2.1) ((rows2.getD (Int.toNat y2.1) default).set (Int.toNat (1 : Int)) (IntKind.i64.wrap (((rows2.getD (Int.toNat y2.1) default).getD (Int.toNat (1 : Int)) default) + (1 : Int)))))⟩), (b1, ⟨7, [encFile (list.getD (Int.toNat v) default)]⟩)]) hos_528)) ?_
       replace hm2 := asrt_some hm2; rcases hm2 with ⟨hh9, hm2⟩
       replace hm2 := asrt_some hm2; rcases hm2 with ⟨hh10, hm2⟩
       replace hm2 := asrt_some hm2; rcases hm2 with ⟨hh11, hm2⟩
       refine V.regionM 54 8 [⟨[(4, none)], [], none⟩, ⟨[(7, none)], [], none⟩, ⟨[(42, some 1), (43, some 0)], [], none⟩, ⟨[(44, some 0)], [], none⟩, ⟨[(45, some 0)], [], none⟩, ⟨[(46, some 0)], [], none⟩, ⟨[(6, none)], [], none⟩, ⟨[(48, some 0)], [], none⟩] [(4, none), (12, none), (13, none), (14, none), (45, some 4), (47, some 2), (49, some 0)] (⟨_, rfl, ⟨_, rfl, ⟨_, rfl, ⟨_, rfl, ⟨_, rfl, ⟨_, rfl, ⟨_, rfl, ⟨_, rfl, ⟨rfl, rfl⟩⟩⟩⟩⟩⟩⟩⟩⟩) mixed_orders rfl (by decide +kernel) (fun hck11 => ?_)
       refine VP.step (p := ?pv530) rfl rfl rfl (⟨_, _, rfl, rfl, rfl⟩) ?hv530 ?rest530 hck11
       case hv530 =>
        intro E1
        refine (V1.move rfl rfl rfl lt0 ?_)
        exact rfl
       refine VP.step (p := ?pv531) rfl rfl rfl (⟨_, _, rfl, rfl, rfl⟩) ?hv531 ?rest531 hck11
       case hv531 =>
        intro E1
        refine (V1.move rfl rfl rfl lt0 ?_)
        exact rfl
       refine VP.step (p := ?pv532) rfl rfl rfl (⟨_, _, rfl, rfl, _, _, rfl, rfl, rfl⟩) ?hv532 ?rest532 hck11
       case hv532 =>
        intro E1
        refine (V1.indexSr rfl rfl esz_47 rfl rfl hh9 lt0 ?_)
        exact rfl
       refine VP.step (p := ?pv533) rfl rfl rfl (⟨_, _, rfl, rfl, rfl⟩) ?hv533 ?rest533 hck11
       case hv533 =>
        intro E1
        refine (V1.loadKnown (inn := (fun c_ : List Int => List.map encInt c_)) (cell := (cellRow (β := Int))) (ts := ts_525) (xs := (rows2.set (Int.toNat y2.1) ((rows2.getD (Int.toNat y2.1) default).set (Int.toNat (1 : Int)) (IntKind.i64.wrap (((rows2.getD (Int.toNat y2.1) default).getD (Int.toNat (1 : Int)) default) + (1 : Int)))))) (k := 1) (cokRow 1 encInt) rfl rfl tyk_27 rfl rfl (Deep.length (hs_527 ((rows2.getD (Int.toNat y2.1) default).set (Int.toNat (1 : Int)) (IntKind.i64.wrap (((rows2.getD (Int.toNat y2.1) default).getD (Int.toNat (1 : Int)) default) + (1 : Int)))) (by simp))) (by simpa using natLt hh9.1 hh9.2) ht_528 rfl lt0 ?_)
        exact rfl
       refine VP.step (p := ?pv534) rfl rfl rfl (⟨_, _, rfl, rfl, rfl⟩) ?hv534 ?rest534 hck11
       case hv534 =>
        intro E1
        refine (V1.indexSr rfl rfl esz_27 rfl rfl hh10 lt0 ?_)
        exact rfl
       refine VP.step (p := ?pv535) rfl rfl rfl (⟨_, _, rfl, rfl, rfl⟩) ?hv535 ?rest535 hck11
       case hv535 =>
        intro E1
        refine (V1.loadMap (k := 0) (f := encInt) rfl rfl tyk_3 rfl rfl (by simpa using natLt hh10.1 hh10.2) rfl lt0 ?_)
        exact rfl
       refine VP.step (p := ?pv536) rfl rfl rfl (⟨_, _, rfl, rfl, rfl⟩) ?hv536 ?rest536 hck11
       case hv536 =>
        intro E1
        refine (V1.fieldRef rfl rfl fo_97_6 rfl lt0 ?_)
        exact rfl
       refine VP.step (p := ?pv537) rfl rfl rfl (⟨_, _, rfl, rfl, rfl⟩) ?hv537 ?rest537 hck11
       case hv537 =>
        intro E1
        refine (V1.loadRef (k := 2) rfl rfl tyk_3 rfl rfl rfl rfl rfl lt0 ?_)
        exact rfl
       refine VP.fin rfl (⟨_, _, rfl, rfl, _, _, rfl, rfl, _, _, rfl, rfl, _, _, rfl, rfl, _, _, rfl, rfl, _, _, rfl, rfl, _, _, rfl, rfl, rfl⟩) ?_
       refine VO.cons rfl (V1.int rfl rfl rfl rfl rfl lt0 ?_)
       refine VO.cons rfl (V1.indexSr rfl rfl esz_27 rfl rfl hh11 lt0 ?_)
       refine VO.cons rfl (V1.storeMap (k := 0) (f := encInt) (x := (IntKind.i64.wrap ((((rows2.set (Int.toNat y2.1) ((rows2.getD (Int.toNat y2.1) default).set (Int.toNat (1 : Int)) (IntKind.i64.wrap (((rows2.getD (Int.toNat y2.1) default).getD (Int.toNat (1 : Int)) default) + (1 : Int))))).getD (Int.toNat y2.1) default).getD (Int.toNat (2 : Int)) default) + ((list.getD (Int.toNat v) default).Pages)))) rfl rfl tyk_3 rfl rfl (by simpa using natLt hh11.1 hh11.2) rfl rfl ?_)
       refine VO.weakenK (Keeps.fillFront (A := [(b2, ⟨1, deepC (cellRow (β := Int)) ts_525 (rows2.set (Int.toNat y2.1) ((rows2.getD (Int.toNat y2.1) default).set (Int.toNat (1 : Int)) (IntKind.i64.wrap (((rows2.getD (Int.toNat y2.1) default).getD (Int.toNat (1 : Int)) default) + (1 : Int)))))⟩), (b1, ⟨7, [encFile (list.getD (Int.toNat v) default)]⟩)]) (os1 := os1_528) (os2 := os2_528) (p := (ib_528, ⟨1, List.map encInt (((rows2.set (Int.toNat y2.1) ((rows2.getD (Int.toNat y2.1) default).set (Int.toNat (1 : Int)) (IntKind.i64.wrap (((rows2.getD (Int.toNat y2.1) default).getD (Int.toNat (1 : Int)) default) + (1 : Int))))).getD (Int.toNat y2.1) default).set (Int.toNat (2 : Int)) (IntKind.i64.wrap ((((rows2.set (Int.toNat y2.1) ((rows2.getD (Int.toNat y2.1) default).set (Int.toNat (1 : Int)) (IntKind.i64.wrap (((rows2.getD (Int.toNat y2.1) default).getD (Int.toNat (1 : Int)) default) + (1 : Int))))).getD (Int.toNat y2.1) default).getD (Int.toNat (2 : Int)) default) + ((list.getD (Int.toNat v) default).Pages))))⟩)) rfl) ?_
       refine VO.weakenK (Keeps.sayObj 0 (ys := deepC (cellRow (β := Int)) ts_525 ((rows2.set (Int.toNat y2.1) ((rows2.getD (Int.toNat y2.1) default).set (Int.toNat (1 : Int)) (IntKind.i64.wrap (((rows2.getD (Int.toNat y2.1) default).getD (Int.toNat (1 : Int)) default) + (1 : Int))))).set (Int.toNat y2.1) (((rows2.set (Int.toNat y2.1) ((rows2.getD (Int.toNat y2.1) default).set (Int.toNat (1 : Int)) (IntKind.i64.wrap (((rows2.getD (Int.toNat y2.1) default).getD (Int.toNat (1 : Int)) default) + (1 : Int))))).getD (Int.toNat y2.1) default).set (Int.toNat (2 : Int)) (IntKind.i64.wrap ((((rows2.set (Int.toNat y2.1) ((rows2.getD (Int.toNat y2.1) default).set (Int.toNat (1 : Int)) (IntKind.i64.wrap (((rows2.getD (Int.toNat y2.1) default).getD (Int.toNat (1 : Int)) default) + (1 : Int))))).getD (Int.toNat y2.1) default).getD (Int.toNat (2 : Int)) default) + ((list.getD (Int.toNat v) default).Pages)))))) rfl (deepC_same (Deep.length (hs_527 ((rows2.getD (Int.toNat y2.1) default).set (Int.toNat (1 : Int)) (IntKind.i64.wrap (((rows2.getD (Int.toNat y2.1) default).getD (Int.toNat (1 : Int)) default) + (1 : Int)))) (by simp))) (fun _ => rfl))) ?_
       refine VO.weakenK (Keeps.say 4 (y := .sref b2 1 0 (List.length ((rows2.set (Int.toNat y2.1) ((rows2.getD (Int.toNat y2.1) default).set (Int.toNat (1 : Int)) (IntKind.i64.wrap (((rows2.getD (Int.toNat y2.1) default).getD (Int.toNat (1 : Int)) default) + (1 : Int))))).set (Int.toNat y2.1) (((rows2.set (Int.toNat y2.1) ((rows2.getD (Int.toNat y2.1) default).set (Int.toNat (1 : Int)) (IntKind.i64.wrap (((rows2.getD (Int.toNat y2.1) default).getD (Int.toNat (1 : Int)) default) + (1 : Int))))).getD (Int.toNat y2.1) default).set (Int.toNat (2 : Int)) (IntKind.i64.wrap ((((rows2.set (Int.toNat y2.1) ((rows2.getD (Int.toNat y2.1) default).set (Int.toNat (1 : Int)) (IntKind.i64.wrap (((rows2.getD (Int.toNat y2.1) default).getD (Int.toNat (1 : Int)) default) + (1 : Int))))).getD (Int.toNat y2.1) default).getD (Int.toNat (2 : Int)) default) + ((list.getD (Int.toNat v) default).Pages))))))) rfl (by simp [optS])) ?_
       refine VO.nil ?_
       exact ⟨(((rows2.set (Int.toNat y2.1) ((rows2.getD (Int.toNat y2.1) default).set (Int.toNat (1 : Int)) (IntKind.i64.wrap (((rows2.getD (Int.toNat y2.1) default).getD (Int.toNat (1 : Int)) default) + (1 : Int))))).set (Int.toNat y2.1) (((rows2.set (Int.toNat y2.1) ((rows2.getD (Int.toNat y2.1) default).set (Int.toNat (1 : Int)) (IntKind.i64.wrap (((rows2.getD (Int.toNat y2.1) default).getD (Int.toNat (1 : Int)) default) + (1 : Int))))).getD (Int.toNat y2.1) default).set (Int.toNat (2 : Int)) (IntKind.i64.wrap ((((rows2.set (Int.toNat y2.1) ((rows2.getD (Int.toNat y2.1) default).set (Int.toNat (1 : Int)) (IntKind.i64.wrap (((rows2.getD (Int.toNat y2.1) default).getD (Int.toNat (1 : Int)) default) + (1 : Int))))).getD (Int.toNat y2.1) default).getD (Int.toNat (2 : Int)) default) + ((list.getD (Int.toNat v) default).Pages))))), (b2, ts_525, (os1_528 ++ ([(ib_528, ⟨1, List.map encInt (((rows2.set (Int.toNat y2.1) ((rows2.getD (Int.toNat y2.1) default).set (Int.toNat (1 : Int)) (IntKind.i64.wrap (((rows2.getD (Int.toNat y2.1) default).getD (Int.toNat (1 : Int)) default) + (1 : Int))))).getD (Int.toNat y2.1) default).set (Int.toNat (2 : Int)) (IntKind.i64.wrap ((((rows2.set (Int.toNat y2.1) ((rows2.getD (Int.toNat y2.1) default).set (Int.toNat (1 : Int)) (IntKind.i64.wrap (((rows2.getD (Int.toNat y2.1) default).getD (Int.toNat (1 : Int)) default) + (1 : Int))))).getD (Int.toNat y2.1) default).getD (Int.toNat (2 : Int)) default) + ((list.getD (Int.toNat v) default).Pages))))⟩)] ++ os2_528)))), ⟨Option.some.inj hm2, (hs_528 (((rows2.set (Int.toNat y2.1) ((rows2.getD (Int.toNat y2.1) default).set (Int.toNat (1 : Int)) (IntKind.i64.wrap (((rows2.getD (Int.toNat y2.1) default).getD (Int.toNat (1 : Int)) default) + (1 : Int))))).getD (Int.toNat y2.1) default).set (Int.toNat (2 : Int)) (IntKind.i64.wrap ((((rows2.set (Int.toNat y2.1) ((rows2.getD (Int.toNat y2.1) default).set (Int.toNat (1 : Int)) (IntKind.i64.wrap (((rows2.getD (Int.toNat y2.1) default).getD (Int.toNat (1 : Int)) default) + (1 : Int))))).getD (Int.toNat y2.1) default).getD (Int.toNat (2 : Int)) default) + ((list.getD (Int.toNat v) default).Pages)))) (by simp))⟩, Keeps.mkT (A := [(b2, ⟨1, deepC (cellRow (β := Int)) ts_525 ((rows2.set (Int.toNat y2.1) ((rows2.getD (Int.toNat y2.1) default).set (Int.toNat (1 : Int)) (IntKind.i64.wrap (((rows2.getD (Int.toNat y2.1) default).getD (Int.toNat (1 : Int)) default) + (1 : Int))))).set (Int.toNat y2.1) (((rows2.set (Int.toNat y2.1) ((rows2.getD (Int.toNat y2.1) default).set (Int.toNat (1 : Int)) (IntKind.i64.wrap (((rows2.getD (Int.toNat y2.1) default).getD (Int.toNat (1 : Int)) default) + (1 : Int))))).getD (Int.toNat y2.1) default).set (Int.toNat (2 : Int)) (IntKind.i64.wrap ((((rows2.set (Int.toNat y2.1) ((rows2.getD (Int.toNat y2.1) default).set (Int.toNat (1 : Int)) (IntKind.i64.wrap (((rows2.getD (Int.toNat y2.1) default).getD (Int.toNat (1 : Int)) default) + (1 : Int))))).getD (Int.toNat y2.1) default).getD (Int.toNat (2 : Int)) default) + ((list.getD (Int.toNat v) default).Pages)))))⟩), (b1, ⟨7, [encFile (list.getD (Int.toNat v) default)]⟩)]) (T := (os1_528 ++ ([(ib_528, ⟨1, List.map encInt (((rows2.set (Int.toNat y2.1) ((rows2.getD (Int.toNat y2.1) default).set (Int.toNat (1 : Int)) (IntKind.i64.wrap (((rows2.getD (Int.toNat y2.1) default).getD (Int.toNat (1 : Int)) default) + (1 : Int))))).getD (Int.toNat y2.1) default).set (Int.toNat (2 : Int)) (IntKind.i64.wrap ((((rows2.set (Int.toNat y2.1) ((rows2.getD (Int.toNat y2.1) default).set (Int.toNat (1 : Int)) (IntKind.i64.wrap (((rows2.getD (Int.toNat y2.1) default).getD (Int.toNat (1 : Int)) default) + (1 : Int))))).getD (Int.toNat y2.1) default).getD (Int.toNat (2 : Int)) default) + ((list.getD (Int.toNat v) default).Pages))))⟩)] ++ os2_528))) (T' := (os1_528 ++ ([(ib_528, ⟨1, List.map encInt (((rows2.set (Int.toNat y2.1) ((rows2.getD (Int.toNat y2.1) default).set (Int.toNat (1 : Int)) (IntKind.i64.wrap (((rows2.getD (Int.toNat y2.1) default).getD (Int.toNat (1 : Int)) default) + (1 : Int))))).getD (Int.toNat y2.1) default).set (Int.toNat (2 : Int)) (IntKind.i64.wrap ((((rows2.set (Int.toNat y2.1) ((rows2.getD (Int.toNat y2.1) default).set (Int.toNat (1 : Int)) (IntKind.i64.wrap (((rows2.getD (Int.toNat y2.1) default).getD (Int.toNat (1 : Int)) default) + (1 : Int))))).getD (Int.toNat y2.1) default).getD (Int.toNat (2 : Int)) default) + ((list.getD (Int.toNat v) default).Pages))))⟩)] ++ os2_528))) (H := [(b2, ⟨1, deepC (cellRow (β := Int)) ts_525 ((rows2.set (Int.toNat y2.1) ((rows2.getD (Int.toNat y2.1) default).set (Int.toNat (1 : Int)) (IntKind.i64.wrap (((rows2.getD (Int.toNat y2.1) default).getD (Int.toNat (1 : Int)) default) + (1 : Int))))).set (Int.toNat y2.1) (((rows2.set (Int.toNat y2.1) ((rows2.getD (Int.toNat y2.1) default).set (Int.toNat (1 : Int)) (IntKind.i64.wrap (((rows2.getD (Int.toNat y2.1) default).getD (Int.toNat (1 : Int)) default) + (1 : Int))))).getD (Int.toNat y2.1) default).set (Int.toNat (2 : Int)) (IntKind.i64.wrap ((((rows2.set (Int.toNat y2.1) ((rows2.getD (Int.toNat y2.1) default).set (Int.toNat (1 : Int)) (IntKind.i64.wrap (((rows2.getD (Int.toNat y2.1) default).getD (Int.toNat (1 : Int)) default) + (1 : Int))))).getD (Int.toNat y2.1) default).getD (Int.toNat (2 : Int)) default) + ((list.getD (Int.toNat v) default).Pages)))))⟩)]) (ks := [0]) rfl (by exact ⟨rfl, rfl, rfl, rfl, trivial⟩) rfl (by exact (⟨_, _, rfl, rfl, rfl⟩)) rfl (List.Sublist.refl _)⟩
     ·
      rintro ⟨rows1, ⟨b0, ts_522, os_522⟩⟩ ⟨rfl, hd_522⟩
      try dsimp only at hm1
      refine V.region ?_
      refine VO.cons rfl (V1.int rfl rfl rfl rfl rfl lt0 ?_)
      refine VO.cons rfl (V1.move rfl rfl rfl lt0 ?_)
      refine VO.nil ?_
      exact ⟨(m0, (rows1, (IntKind.i64.wrap (v + (1 : Int)))), ((some b0), ts_522, os_522)), ⟨hl1 _ (Option.some.inj hm1).symm, (fun e => by cases e), hd_522⟩, Nat.lt_succ_self _, Keeps.mkT (A := [(b0, ⟨1, deepC (cellRow (β := Int)) ts_522 rows1⟩)]) (T := os_522) (T' := os_522) (H := [(b0, ⟨1, deepC (cellRow (β := Int)) ts_522 rows1⟩)]) (ks := [0]) rfl (by exact ⟨rfl, rfl, rfl, rfl, trivial⟩) rfl (by exact (⟨_, _, rfl, rfl, rfl⟩)) rfl (List.Sublist.refl _)⟩
    ·
     replace hm1 := cond_f hc1 hm1
     refine V.exit ?_
     obtain rfl := hr1 _ (Option.some.inj hm1).symm
     exact ⟨(rows0, ((some ob1), ts_478, os_478)), ⟨rfl, (fun e => by cases e), hd_478⟩, Keeps.mkT (A := [(ob1, ⟨1, deepC (cellRow (β := Int)) ts_478 rows0⟩)]) (T := os_478) (T' := os_478) (H := [(ob1, ⟨1, deepC (cellRow (β := Int)) ts_478 rows0⟩)]) (ks := [0]) rfl (by exact ⟨rfl, trivial⟩) rfl (by exact (⟨_, _, rfl, rfl, rfl⟩)) rfl (List.Sublist.refl _)⟩
  ·
   rintro ⟨rows, ⟨ob0, ts_477, os_477⟩⟩ ⟨rfl, hob0, hd_477⟩
   try dsimp only at hm0
   rcases ob0 with _ | ob0
   ·
    replace hob0 := hob0 rfl
    obtain ⟨rfl, rfl⟩ := Deep.nil hob0 hd_477
    refine V.seq ?_
    refine V.region ?_
    refine VO.cons rfl (V1.move rfl rfl rfl lt0 ?_)
    refine VO.cons rfl (V1.assign rfl rfl rfl lt0 ?_)
    refine VO.cons rfl (V1.assign rfl rfl rfl lt0 ?_)
    refine VO.nil ?_
    refine V.keep 54 [2, 3] [] (E0 := [(2, .nils), (3, .bool true)]) (H0 := []) rfl (⟨_, _, rfl, rfl, _, _, rfl, rfl, rfl⟩) (rfl) rfl ?_
    refine V.ret ?_
    obtain rfl := Option.some.inj hm0
    exact ⟨_, _, ⟨_, _, rfl, rfl, _, _, rfl, rfl, rfl⟩, List.Sublist.refl _, none, [], [], (fun _ => hob0), (Deep.ofNil hob0), rfl, rfl⟩
   ·
    refine V.seq ?_
    refine V.region ?_
    refine VO.cons rfl (V1.move rfl rfl rfl lt0 ?_)
    refine VO.cons rfl (V1.assign rfl rfl rfl lt0 ?_)
    refine VO.cons rfl (V1.assign rfl rfl rfl lt0 ?_)
    refine VO.nil ?_
    refine V.keepT 54 [2, 3] [0] (E0 := [(2, .sref ob0 1 0 (List.length rows)), (3, .bool true)]) (A := [(ob0, ⟨1, deepC (cellRow (β := Int)) ts_477 rows⟩)]) (T := os_477) (H0 := [(ob0, ⟨1, deepC (cellRow (β := Int)) ts_477 rows⟩)]) (T' := os_477) rfl (⟨_, _, rfl, rfl, _, _, rfl, rfl, rfl⟩) rfl (⟨_, _, rfl, rfl, rfl⟩) rfl (List.Sublist.refl _) ?_
    refine V.ret ?_
    obtain rfl := Option.some.inj hm0
    exact ⟨_, _, ⟨_, _, rfl, rfl, _, _, rfl, rfl, rfl⟩, List.Sublist.refl _, some ob0, ts_477, os_477, (fun e => by cases e), hd_477, rfl, rfl⟩

theorem ok_spec_DrawClosedSince {ρ0 rn : Nat} {code : List Int} {r : List File × Int × Int} (h : M.spec_DrawClosedSince code = some r) : Does Tryd.prog 26 [.vl ρ0 1 (List.map encU8 code)] [] rn (fun x H => ∃ (ob0_ : Nat), x = .tup [PV.sref ob0_ 7 0 (List.length r.1), .int .i64 r.2.1, .int .i64 r.2.2] ∧ H = [(ob0_, ⟨7, List.map encFile r.1⟩)]) := by
 have hm0 := h; clear h; unfold M.spec_DrawClosedSince at hm0
 try dsimp only at hm0
 refine Does.intro (N := 24) Tryd.func26 rfl rfl rfl rfl ?_
 intro w0 S0 L0
 refine V.seq ?_
 refine V.region ?_
 refine VO.cons rfl (V1.assign rfl rfl rfl lt0 ?_)
 refine VO.cons rfl (V1.assign rfl rfl rfl lt0 ?_)
 refine VO.cons rfl (V1.assign rfl rfl rfl lt0 ?_)
 refine VO.nil ?_
 refine V.seq ?_
 refine V.region ?_
 refine VO.cons rfl (V1.move rfl rfl rfl lt0 ?_)
 refine VO.cons rfl (V1.build rfl rfl zk_77 pl_77 rfl rfl lt0 ?_)
 refine VO.cons rfl (V1.boxN (n := 3) rfl rfl rfl rfl rfl lt0 ?_)
 intro b0
 refine VO.cons rfl (V1.assign rfl rfl rfl lt0 ?_)
 refine VO.nil ?_
 refine V.keep 24 [5] [0] (E0 := [(5, .ref b0 3 0 0)]) (H0 := [(b0, ⟨3, [.agg [.vl ρ0 1 (List.map encU8 code), .int .i64 (0 : Int), .int .u64 (0 : Int)]]⟩)]) rfl (⟨_, _, rfl, rfl, rfl⟩) (⟨_, _, rfl, rfl, rfl⟩) rfl ?_
 refine V.seq ?_
 replace hm0 := bindO hm0; rcases hm0 with ⟨y0, hh0, hm0⟩
 refine V.region ?_
 refine VO.cons rfl (V1.move rfl rfl rfl lt0 ?_)
 refine VO.cons rfl (V1.callM 0 (rn + ρ0 + 1) [] [.ref b0 3 0 0] (p := (b0, ⟨3, [.agg [.vl ρ0 1 (List.map encU8 code), .int .i64 (0 : Int), .int .u64 (0 : Int)]]⟩)) rfl rfl rfl cok_67 rfl rfl ⟨_, _, rfl, .same _, rfl⟩ bwNil (ok_spec_l1Cur_files5 hh0) rfl (.inl rfl) lt0 ?_)
 rintro _ _ ⟨b1, rfl, rfl⟩
 refine VO.cons rfl (V1.assign rfl rfl rfl lt0 ?_)
 refine VO.nil ?_
 refine V.seq ?_
 replace hm0 := bindO hm0; rcases hm0 with ⟨y1, hh1, hm0⟩
 replace hm0 := bindO hm0; rcases hm0 with ⟨y2, hh2, hm0⟩
 replace hm0 := asrt_some hm0; rcases hm0 with ⟨hh3, hm0⟩
 replace hm0 := bindO hm0; rcases hm0 with ⟨y3, hh4, hm0⟩
 refine V.region ?_
 refine VO.cons rfl (V1.move rfl rfl rfl lt0 ?_)
 refine VO.cons rfl (V1.move rfl rfl rfl lt0 ?_)
 refine VO.cons rfl (V1.buildSliceT (f := encInt) ([(0 : Int), (0 : Int), (10 : Int), (11 : Int), (20000 : Int), (-1 : Int)] : List Int) rfl rfl esz_27 zk_3 rfl rfl rfl rfl rfl rfl rfl lt0 ?_)
 intro b2
 refine VO.cons rfl (V1.callM 2 (rn + ρ0 + 1) [b2] [.ref b0 3 0 0, .vl (rn + ρ0 + 1) 1 (List.map encInt ([(0 : Int), (0 : Int), (10 : Int), (11 : Int), (20000 : Int), (-1 : Int)] : List Int))] (p := (b0, ⟨3, [encCur ρ0 y0.2]⟩)) rfl rfl rfl cok_69 rfl rfl ⟨_, _, rfl, .same _, ⟨_, _, rfl, Lend.srMap 0 rfl (fun _ => rfl) (.head _), rfl⟩⟩ (bwCons (k := 0) rfl bwNil) (ok_spec_l1Cur_among hh1) rfl (.inr ⟨(by first | omega | (dsimp only; omega)), by rintro _ _ ⟨rfl, rfl⟩; exact ⟨by simp [PV.no, PV.noL, optS_no, noL_iff, nbeq] <;> omega, by intro b ob h; first | exact optH_no (noL_map (fun _ => by simp [PV.no, PV.noL, noL_iff, nbeq]) _) b ob h | (simp only [List.append_assoc, List.mem_append, List.mem_cons, List.mem_singleton, List.not_mem_nil, or_false, Prod.mk.injEq] at h; rcases h with ⟨rfl, rfl⟩ | ⟨rfl, rfl⟩ <;> first | exact noL_map (fun _ => by simp [PV.no, PV.noL, noL_iff, nbeq]) _ | (simp [PV.no, PV.noL, optS_no, noL_iff, nbeq] <;> omega)) | (simp at h; obtain ⟨rfl, rfl⟩ := h; exact noL_map (fun _ => by simp [PV.no, PV.noL, noL_iff, nbeq]) _) | (simp at h; obtain ⟨rfl, rfl⟩ := h; simp [PV.no, PV.noL, optS_no, noL_iff, nbeq] <;> omega)⟩⟩) lt0 ?_)
 rintro _ _ ⟨rfl, rfl⟩
 refine VO.cons rfl (V1.move rfl rfl rfl lt0 ?_)
 refine VO.cons rfl (V1.buildSliceT (f := encInt) ([(15 : Int), (20000 : Int), (20000 : Int), (20000 : Int), (410 : Int), (20001 : Int)] : List Int) rfl rfl esz_27 zk_3 rfl rfl rfl rfl rfl rfl rfl lt0 ?_)
 intro b3
 refine VO.cons rfl (V1.move rfl rfl rfl lt0 ?_)
 refine VO.cons rfl (V1.callM 1 (rn + ρ0 + 1) [] [.ref b0 3 0 0, .int .i64 (24 : Int)] (p := (b0, ⟨3, [encCur ρ0 y1.2]⟩)) rfl rfl rfl cok_84 rfl rfl ⟨_, _, rfl, .same _, ⟨_, _, rfl, .same _, rfl⟩⟩ bwNil (ok_spec_l1Cur_pick hh2) rfl (.inl rfl) lt0 ?_)
 rintro _ _ ⟨rfl, rfl⟩
 refine VO.cons rfl (V1.quo rfl rfl rfl rfl (by decide) lt0 ?_)
 refine VO.cons rfl (V1.int rfl rfl rfl rfl rfl lt0 ?_)
 refine VO.weakenK (Keeps.freezeG 1 rn [(17, .vl rn 1 (List.map encInt ([(15 : Int), (20000 : Int), (20000 : Int), (20000 : Int), (410 : Int), (20001 : Int)] : List Int)))] ([(b0, ⟨3, [encCur ρ0 y2.2]⟩), (b2, ⟨1, List.map encInt ([(0 : Int), (0 : Int), (10 : Int), (11 : Int), (20000 : Int), (-1 : Int)] : List Int)⟩), (b1, ⟨7, List.map encFile y0.1⟩)]) (f := encInt) (l := ([(15 : Int), (20000 : Int), (20000 : Int), (20000 : Int), (410 : Int), (20001 : Int)] : List Int)) rfl (fun _ => rfl) ⟨⟨_, rfl, .here⟩, trivial⟩ ⟨_, _, rfl, rfl, .inl rfl, ⟨_, _, rfl, rfl, .inl rfl, ⟨_, _, rfl, rfl, .inl rfl, rfl⟩⟩⟩ rfl iNil) ?_
 refine VO.cons rfl (V1.sliceMap (a := (0 : Int)) (b := (IntKind.i64.wrap ((5 : Int) + (IntKind.i64.wrap (Int.tdiv y2.1 (23 : Int)))))) rfl rfl esz_27 rfl (Bnd.none _ _) (Bnd.some rfl (Int.le_trans hh3.1 hh3.2.1) _) hh3 lt0 ?_)
 refine VO.cons rfl (V1.callM 0 (rn + ρ0 + 1) [] [.ref b0 3 0 0, .vl rn 1 (List.map encInt (slc ([(15 : Int), (20000 : Int), (20000 : Int), (20000 : Int), (410 : Int), (20001 : Int)] : List Int) (0 : Int) (IntKind.i64.wrap ((5 : Int) + (IntKind.i64.wrap (Int.tdiv y2.1 (23 : Int)))))))] (p := (b0, ⟨3, [encCur ρ0 y2.2]⟩)) rfl rfl rfl cok_69 rfl rfl ⟨_, _, rfl, .same _, ⟨_, _, rfl, .same _, rfl⟩⟩ bwNil (ok_spec_l1Cur_among hh4) rfl (.inl rfl) lt0 ?_)
 rintro _ _ ⟨rfl, rfl⟩
 refine VO.cons rfl (V1.assign rfl rfl rfl lt0 ?_)
 refine VO.cons rfl (V1.assign rfl rfl rfl lt0 ?_)
 refine VO.cons rfl (V1.assign rfl rfl rfl lt0 ?_)
 refine VO.nil ?_
 refine V.keep 24 [2, 3, 4] [2] (E0 := [(2, .sref b1 7 0 (List.length y0.1)), (3, .int .i64 y1.1), (4, .int .i64 y3.1)]) (H0 := [(b1, ⟨7, List.map encFile y0.1⟩)]) rfl (⟨_, _, rfl, rfl, _, _, rfl, rfl, _, _, rfl, rfl, rfl⟩) (⟨_, _, rfl, rfl, rfl⟩) rfl ?_
 refine V.ret ?_
 obtain rfl := Option.some.inj hm0
 exact ⟨_, _, ⟨_, _, rfl, rfl, _, _, rfl, rfl, _, _, rfl, rfl, rfl⟩, List.Sublist.refl _, b1, rfl, rfl⟩

theorem ok_slices_insertionSortCmpFunc_impl_File {rn : Nat} {oq : Option Nat} {data : List File} {a : Int} {b_ : Int} {f3 : Nat} {cs3 : List PV} {r : List File} {fm : File → File → Option Int} (h : M.slices_insertionSortCmpFunc_impl_File data a b_ fm = some r) (hoq : oq = none → data = []) (hok3 : callOK Tryd.prog f3 = true) (hf3 : ∀ x0 x1 r, fm x0 x1 = some r → Does Tryd.prog f3 (encFile x0 :: encFile x1 :: cs3) [] rn (fun x H => x = .int .i64 r ∧ H = [])) : Does Tryd.prog 151 [optS 7 oq (List.length data), .int .i64 a, .int .i64 b_, .fn f3 cs3] (optH 7 oq (List.map encFile data)) rn (fun x H => x = .tup [] ∧ H = optH 7 oq (List.map encFile r)) := by
 have hm0 := h; clear h; unfold M.slices_insertionSortCmpFunc_impl_File at hm0
 try dsimp only at hm0
 refine Does.intro (N := 53) Tryd.func151 rfl rfl rfl rfl ?_
 intro w0 S0 L0
 rcases oq with _ | oq
 ·
  refine V.seq ?_
  refine V.region ?_
  refine VO.cons rfl (V1.move rfl rfl rfl lt0 ?_)
  refine VO.cons rfl (V1.int rfl rfl rfl rfl rfl lt0 ?_)
  refine VO.cons rfl (V1.assign rfl rfl rfl lt0 ?_)
  refine VO.nil ?_
  replace hm0 := bindO hm0; rcases hm0 with ⟨e0, he1, hm0⟩
  refine V.cutT (D := (List File) × (Unit)) (fun ⟨data0, _⟩ => ⟨53, [(0, .vl rn 7 (List.map encFile data0))], []⟩) (fun ⟨data0, _⟩ => (data0 = e0)) ?_ ?_
  ·
   refine V.block ?_
   refine V.keep 53 [0, 8, 1, 2, 3] [] (E0 := [(0, .nils), (8, .int .i64 (IntKind.i64.wrap (a + (1 : Int)))), (1, .int .i64 a), (2, .int .i64 b_), (3, .fn f3 cs3)]) (H0 := []) rfl (⟨_, _, rfl, rfl, _, _, rfl, rfl, _, _, rfl, rfl, _, _, rfl, rfl, _, _, rfl, rfl, rfl⟩) (rfl) rfl ?_
   refine V.loopE (D := Nat × (List File × Int) × (Option Nat)) (fun ⟨n0, ⟨data1, i⟩, ob0⟩ => [(0, optS 7 ob0 (List.length data1)), (8, .int .i64 i)]) (fun ⟨n0, ⟨data1, i⟩, ob0⟩ => optH 7 ob0 (List.map encFile data1)) (fun ⟨n0, ⟨data1, i⟩, ob0⟩ => loopO (M.slices_insertionSortCmpFunc_impl_File_l0 a b_ fm) n0 (data1, i) = some e0 ∧ (ob0 = none → data1 = [])) (fun ⟨n0, _, _⟩ => n0) (rounds, (data, (IntKind.i64.wrap (a + (1 : Int)))), none) rfl ⟨he1, (fun _ => (hoq rfl))⟩ ?_
   rintro ⟨n0, ⟨data1, i⟩, ob0⟩ ⟨hP0, hob0⟩
   obtain ⟨m0, y0, rfl, hm1, hl1, hr1⟩ := loop_head hP0
   unfold M.slices_insertionSortCmpFunc_impl_File_l0 at hm1; dsimp only at hm1
   rcases ob0 with _ | ob0
   ·
    replace hob0 := hob0 rfl
    show V _ _ _ ⟨53, [(0, .nils), (8, .int .i64 i), (1, .int .i64 a), (2, .int .i64 b_), (3, .fn f3 cs3)], []⟩
    refine V.seq ?_
    refine V.seq ?_
    refine V.region ?_
    refine VO.cons rfl (V1.move rfl rfl rfl lt0 ?_)
    refine VO.cons rfl (V1.move rfl rfl rfl lt0 ?_)
    refine VO.cons rfl (V1.int rfl rfl rfl rfl rfl lt0 ?_)
    refine VO.nil ?_
    refine V.cond rfl (fun hc0 => ?_) (fun hc0 => ?_)
    ·
     replace hm1 := cond_t hc0 hm1
     refine V.skip ?_
     refine V.seq ?_
     refine V.block ?_
     refine V.seq ?_
     refine V.region ?_
     refine VO.cons rfl (V1.move rfl rfl rfl lt0 ?_)
     refine VO.cons rfl (V1.assign rfl rfl rfl lt0 ?_)
     refine VO.nil ?_
     refine V.keep 53 [0, 1, 2, 3, 8, 9] [] (E0 := [(0, .nils), (1, .int .i64 a), (2, .int .i64 b_), (3, .fn f3 cs3), (8, .int .i64 i), (9, .int .i64 i)]) (H0 := []) rfl (⟨_, _, rfl, rfl, _, _, rfl, rfl, _, _, rfl, rfl, _, _, rfl, rfl, _, _, rfl, rfl, _, _, rfl, rfl, rfl⟩) (rfl) rfl ?_
     replace hm1 := bindO hm1; rcases hm1 with ⟨e1, he2, hm1⟩
     refine V.cutT (D := (List File) × (Option Nat)) (fun ⟨data2, ob1⟩ => ⟨53, [(0, optS 7 ob1 (List.length data2)), (1, .int .i64 a), (2, .int .i64 b_), (3, .fn f3 cs3), (8, .int .i64 i)], optH 7 ob1 (List.map encFile data2)⟩) (fun ⟨data2, ob1⟩ => (data2 = e1) ∧ (ob1 = none → data2 = [])) ?_ ?_
     ·
      refine V.block ?_
      refine V.keep 53 [0, 9, 1, 2, 3, 8] [] (E0 := [(0, .nils), (9, .int .i64 i), (1, .int .i64 a), (2, .int .i64 b_), (3, .fn f3 cs3), (8, .int .i64 i)]) (H0 := []) rfl (⟨_, _, rfl, rfl, _, _, rfl, rfl, _, _, rfl, rfl, _, _, rfl, rfl, _, _, rfl, rfl, _, _, rfl, rfl, rfl⟩) (rfl) rfl ?_
      refine V.loopE (D := Nat × (List File × Int) × (Unit)) (fun ⟨n1, ⟨data3, j_⟩, _⟩ => [(0, .nils), (9, .int .i64 j_)]) (fun ⟨n1, ⟨data3, j_⟩, _⟩ => []) (fun ⟨n1, ⟨data3, j_⟩, _⟩ => loopO (M.slices_insertionSortCmpFunc_impl_File_l1 a fm) n1 (data3, j_) = some e1 ∧ data3 = []) (fun ⟨n1, _, _⟩ => n1) (rounds, (data1, i), ()) rfl ⟨he2, hob0⟩ ?_
      rintro ⟨n1, ⟨data3, j_⟩, _⟩ ⟨hP1, hn_data3⟩
      obtain ⟨m1, y1, rfl, hm2, hl2, hr2⟩ := loop_head hP1
      unfold M.slices_insertionSortCmpFunc_impl_File_l1 at hm2; dsimp only at hm2
      show V _ _ _ ⟨53, [(0, .nils), (9, .int .i64 j_), (1, .int .i64 a), (2, .int .i64 b_), (3, .fn f3 cs3), (8, .int .i64 i)], []⟩
      refine V.seq ?_
      refine V.seq ?_
      replace hm2 := asrt_some hm2; rcases hm2 with ⟨hh0, hm2⟩
      replace hm2 := asrt_some hm2; rcases hm2 with ⟨hh1, hm2⟩
      replace hm2 := bindO hm2; rcases hm2 with ⟨y2, hh2, hm2⟩
      refine V.regionM 53 17 [⟨[(9, none)], [], none⟩, ⟨[(1, none)], [], none⟩, ⟨[(18, some 1), (19, some 0)], [], none⟩, ⟨[(20, some 0)], [], none⟩, ⟨[(3, none)], [(0, true)], none⟩, ⟨[(0, none)], [(1, true)], none⟩, ⟨[(9, none)], [(2, true)], none⟩, ⟨[(23, some 1), (24, some 0)], [(3, true)], none⟩, ⟨[(25, some 0)], [(4, true)], none⟩, ⟨[(0, none)], [(5, true)], none⟩, ⟨[(9, none)], [(6, true)], none⟩, ⟨[(28, some 0)], [(7, true)], none⟩, ⟨[(27, some 2), (29, some 0)], [(8, true)], none⟩, ⟨[(30, some 0)], [(9, true)], none⟩, ⟨[(22, some 9), (26, some 5), (31, some 0)], [(10, true)], none⟩, ⟨[(32, some 0)], [(11, true)], none⟩, ⟨[], [], some (true, 21, 33, 12, 0)⟩] [(0, none), (1, none), (2, none), (3, none), (8, none), (9, none), (34, some 0)] (⟨_, rfl, ⟨_, rfl, ⟨_, rfl, ⟨_, rfl, ⟨_, rfl, ⟨_, rfl, ⟨_, rfl, ⟨_, rfl, ⟨_, rfl, ⟨_, rfl, ⟨_, rfl, ⟨_, rfl, ⟨_, rfl, ⟨_, rfl, ⟨_, rfl, ⟨_, rfl, ⟨_, rfl, ⟨rfl, rfl⟩⟩⟩⟩⟩⟩⟩⟩⟩⟩⟩⟩⟩⟩⟩⟩⟩⟩) mixed_orders rfl (by decide +kernel) (fun hck4 => ?_)
      refine VP.step (p := ?pv2929) rfl rfl rfl (⟨_, _, rfl, rfl, rfl⟩) ?hv2929 ?rest2929 hck4
      case hv2929 =>
       intro E1
       refine (V1.move rfl rfl rfl lt0 ?_)
       exact rfl
      refine VP.step (p := ?pv2930) rfl rfl rfl (⟨_, _, rfl, rfl, rfl⟩) ?hv2930 ?rest2930 hck4
      case hv2930 =>
       intro E1
       refine (V1.move rfl rfl rfl lt0 ?_)
       exact rfl
      refine VP.step (p := ?pv2931) rfl rfl rfl (⟨_, _, rfl, rfl, _, _, rfl, rfl, rfl⟩) ?hv2931 ?rest2931 hck4
      case hv2931 =>
       intro E1
       refine (V1.int rfl rfl rfl rfl rfl lt0 ?_)
       exact rfl
      refine VP.step (p := ?pv2932) rfl rfl rfl (⟨_, _, rfl, rfl, rfl⟩) ?hv2932 ?rest2932 hck4
      case hv2932 =>
       intro E1
       refine (V1.move rfl rfl rfl lt0 ?_)
       exact rfl
      refine VP.step (p := ?pv2933) rfl rfl rfl (⟨_, _, rfl, rfl, rfl⟩) ?hv2933 ?rest2933 hck4
      case hv2933 =>
       refine ⟨_, rfl, fun hg0 => ?_⟩
       intro E1
       refine (V1.move rfl rfl rfl lt0 ?_)
       exact rfl
      refine VP.step (p := ?pv2934) rfl rfl rfl (⟨_, _, rfl, rfl, rfl⟩) ?hv2934 ?rest2934 hck4
      case hv2934 =>
       refine ⟨_, rfl, fun hg0 => ?_⟩
       intro E1
       refine (V1.move rfl rfl rfl lt0 ?_)
       exact rfl
      refine VP.step (p := ?pv2935) rfl rfl rfl (⟨_, _, rfl, rfl, rfl⟩) ?hv2935 ?rest2935 hck4
      case hv2935 =>
       refine ⟨_, rfl, fun hg0 => ?_⟩
       intro E1
       refine (V1.move rfl rfl rfl lt0 ?_)
       exact rfl
      refine VP.step (p := .pin rn (encFile (data3.getD (Int.toNat j_) default)) 0) rfl rfl rfl (⟨_, _, rfl, rfl, _, _, rfl, rfl, rfl⟩) ?hv2936 ?rest2936 hck4
      case hv2936 =>
       refine ⟨_, rfl, fun hg0 => ?_⟩
       intro E1
       exact ((nilsNo hn_data3 (hh0 hg0))).elim
      refine VP.step (p := encFile (data3.getD (Int.toNat j_) default)) rfl rfl rfl (⟨_, _, rfl, rfl, rfl⟩) ?hv2937 ?rest2937 hck4
      case hv2937 =>
       refine ⟨_, rfl, fun hg0 => ?_⟩
       intro E1
       exact ((nilsNo hn_data3 (hh0 hg0))).elim
      refine VP.step (p := ?pv2938) rfl rfl rfl (⟨_, _, rfl, rfl, rfl⟩) ?hv2938 ?rest2938 hck4
      case hv2938 =>
       refine ⟨_, rfl, fun hg0 => ?_⟩
       intro E1
       refine (V1.move rfl rfl rfl lt0 ?_)
       exact rfl
      refine VP.step (p := ?pv2939) rfl rfl rfl (⟨_, _, rfl, rfl, rfl⟩) ?hv2939 ?rest2939 hck4
      case hv2939 =>
       refine ⟨_, rfl, fun hg0 => ?_⟩
       intro E1
       refine (V1.move rfl rfl rfl lt0 ?_)
       exact rfl
      refine VP.step (p := ?pv2940) rfl rfl rfl (⟨_, _, rfl, rfl, rfl⟩) ?hv2940 ?rest2940 hck4
      case hv2940 =>
       refine ⟨_, rfl, fun hg0 => ?_⟩
       intro E1
       refine (V1.int rfl rfl rfl rfl rfl lt0 ?_)
       exact rfl
      refine VP.step (p := .pin rn (encFile (data3.getD (Int.toNat (IntKind.i64.wrap (j_ - (1 : Int)))) default)) 0) rfl rfl rfl (⟨_, _, rfl, rfl, _, _, rfl, rfl, rfl⟩) ?hv2941 ?rest2941 hck4
      case hv2941 =>
       refine ⟨_, rfl, fun hg0 => ?_⟩
       intro E1
       exact ((nilsNo hn_data3 (hh1 hg0))).elim
      refine VP.step (p := encFile (data3.getD (Int.toNat (IntKind.i64.wrap (j_ - (1 : Int)))) default)) rfl rfl rfl (⟨_, _, rfl, rfl, rfl⟩) ?hv2942 ?rest2942 hck4
      case hv2942 =>
       refine ⟨_, rfl, fun hg0 => ?_⟩
       intro E1
       exact ((nilsNo hn_data3 (hh1 hg0))).elim
      refine VP.step (p := .int .i64 y2) rfl rfl rfl (⟨_, _, rfl, rfl, _, _, rfl, rfl, _, _, rfl, rfl, rfl⟩) ?hv2943 ?rest2943 hck4
      case hv2943 =>
       refine ⟨_, rfl, fun hg0 => ?_⟩
       intro E1
       exact ((nilsNo hn_data3 (hh0 hg0))).elim
      refine VP.step (p := .bool (decide (y2 < (0 : Int)))) rfl rfl rfl (⟨_, _, rfl, rfl, rfl⟩) ?hv2944 ?rest2944 hck4
      case hv2944 =>
       refine ⟨_, rfl, fun hg0 => ?_⟩
       intro E1
       exact ((nilsNo hn_data3 (hh0 hg0))).elim
      refine VP.pickAnd rfl rfl rfl rfl rfl rfl (trivial) ?_ hck4
      refine VP.fin rfl (⟨_, _, rfl, rfl, _, _, rfl, rfl, _, _, rfl, rfl, _, _, rfl, rfl, _, _, rfl, rfl, _, _, rfl, rfl, _, _, rfl, rfl, rfl⟩) ?_
      refine VO.nil ?_
      refine V.cond rfl (fun hc1 => ?_) (fun hc1 => ?_)
      ·
       replace hm2 := cond_t hc1 hm2
       refine V.skip ?_
       refine V.seq ?_
       refine V.block ?_
       replace hm2 := asrt_some hm2; rcases hm2 with ⟨hh3, hm2⟩
       exact (nilsNo hn_data3 hh3).elim
      ·
       replace hm2 := cond_f hc1 hm2
       refine V.exit ?_
       obtain rfl := hr2 _ (Option.some.inj hm2).symm
       exact ⟨(data3, none), ⟨rfl, (fun _ => hn_data3)⟩, Keeps.mk (ks := []) rfl ⟨rfl, rfl, rfl, rfl, rfl, trivial⟩ (rfl) rfl⟩
     ·
      rintro ⟨data2, ob1⟩ ⟨rfl, hob1⟩
      try dsimp only at hm1
      rcases ob1 with _ | ob1
      ·
       replace hob1 := hob1 rfl
       refine V.region ?_
       refine VO.cons rfl (V1.move rfl rfl rfl lt0 ?_)
       refine VO.cons rfl (V1.int rfl rfl rfl rfl rfl lt0 ?_)
       refine VO.cons rfl (V1.assign rfl rfl rfl lt0 ?_)
       refine VO.nil ?_
       exact ⟨(m0, (data2, (IntKind.i64.wrap (i + (1 : Int)))), none), ⟨hl1 _ (Option.some.inj hm1).symm, (fun _ => hob1)⟩, Nat.lt_succ_self _, Keeps.mk (ks := []) rfl ⟨rfl, rfl, rfl, rfl, rfl, trivial⟩ (rfl) rfl⟩
      ·
       refine V.region ?_
       refine VO.cons rfl (V1.move rfl rfl rfl lt0 ?_)
       refine VO.cons rfl (V1.int rfl rfl rfl rfl rfl lt0 ?_)
       refine VO.cons rfl (V1.assign rfl rfl rfl lt0 ?_)
       refine VO.nil ?_
       exact ⟨(m0, (data2, (IntKind.i64.wrap (i + (1 : Int)))), (some ob1)), ⟨hl1 _ (Option.some.inj hm1).symm, (fun e => by cases e)⟩, Nat.lt_succ_self _, Keeps.mk (ks := [0]) rfl ⟨rfl, rfl, rfl, rfl, rfl, trivial⟩ (⟨_, _, rfl, rfl, rfl⟩) rfl⟩
    ·
     replace hm1 := cond_f hc0 hm1
     refine V.exit ?_
     obtain rfl := hr1 _ (Option.some.inj hm1).symm
     exact ⟨(data1, ()), rfl, Keeps.trans (Keeps.nilsE (l := data1) 0 rn 7 encFile hob0 rfl rfl) (Keeps.mk (ks := []) rfl ⟨rfl, trivial⟩ (rfl) rfl)⟩
   ·
    show V _ _ _ ⟨53, [(0, .sref ob0 7 0 (List.length data1)), (8, .int .i64 i), (1, .int .i64 a), (2, .int .i64 b_), (3, .fn f3 cs3)], [(ob0, ⟨7, List.map encFile data1⟩)]⟩
    refine V.seq ?_
    refine V.seq ?_
    refine V.region ?_
    refine VO.cons rfl (V1.move rfl rfl rfl lt0 ?_)
    refine VO.cons rfl (V1.move rfl rfl rfl lt0 ?_)
    refine VO.cons rfl (V1.int rfl rfl rfl rfl rfl lt0 ?_)
    refine VO.nil ?_
    refine V.cond rfl (fun hc0 => ?_) (fun hc0 => ?_)
    ·
     replace hm1 := cond_t hc0 hm1
     refine V.skip ?_
     refine V.seq ?_
     refine V.block ?_
     refine V.seq ?_
     refine V.region ?_
     refine VO.cons rfl (V1.move rfl rfl rfl lt0 ?_)
     refine VO.cons rfl (V1.assign rfl rfl rfl lt0 ?_)
     refine VO.nil ?_
     refine V.keep 53 [0, 1, 2, 3, 8, 9] [0] (E0 := [(0, .sref ob0 7 0 (List.length data1)), (1, .int .i64 a), (2, .int .i64 b_), (3, .fn f3 cs3), (8, .int .i64 i), (9, .int .i64 i)]) (H0 := [(ob0, ⟨7, List.map encFile data1⟩)]) rfl (⟨_, _, rfl, rfl, _, _, rfl, rfl, _, _, rfl, rfl, _, _, rfl, rfl, _, _, rfl, rfl, _, _, rfl, rfl, rfl⟩) (⟨_, _, rfl, rfl, rfl⟩) rfl ?_
     replace hm1 := bindO hm1; rcases hm1 with ⟨e1, he2, hm1⟩
     refine V.cutT (D := (List File) × (Unit)) (fun ⟨data2, _⟩ => ⟨53, [(0, .sref ob0 7 0 (List.length data2)), (1, .int .i64 a), (2, .int .i64 b_), (3, .fn f3 cs3), (8, .int .i64 i)], [(ob0, ⟨7, List.map encFile data2⟩)]⟩) (fun ⟨data2, _⟩ => (data2 = e1)) ?_ ?_
     ·
      refine V.block ?_
      refine V.keep 53 [0, 9, 1, 2, 3, 8] [0] (E0 := [(0, .sref ob0 7 0 (List.length data1)), (9, .int .i64 i), (1, .int .i64 a), (2, .int .i64 b_), (3, .fn f3 cs3), (8, .int .i64 i)]) (H0 := [(ob0, ⟨7, List.map encFile data1⟩)]) rfl (⟨_, _, rfl, rfl, _, _, rfl, rfl, _, _, rfl, rfl, _, _, rfl, rfl, _, _, rfl, rfl, _, _, rfl, rfl, rfl⟩) (⟨_, _, rfl, rfl, rfl⟩) rfl ?_
      refine V.loopE (D := Nat × (List File × Int) × (Unit)) (fun ⟨n1, ⟨data3, j_⟩, _⟩ => [(0, .sref ob0 7 0 (List.length data3)), (9, .int .i64 j_)]) (fun ⟨n1, ⟨data3, j_⟩, _⟩ => [(ob0, ⟨7, List.map encFile data3⟩)]) (fun ⟨n1, ⟨data3, j_⟩, _⟩ => loopO (M.slices_insertionSortCmpFunc_impl_File_l1 a fm) n1 (data3, j_) = some e1) (fun ⟨n1, _, _⟩ => n1) (rounds, (data1, i), ()) rfl he2 ?_
      rintro ⟨n1, ⟨data3, j_⟩, _⟩ hP1
      obtain ⟨m1, y1, rfl, hm2, hl2, hr2⟩ := loop_head hP1
      unfold M.slices_insertionSortCmpFunc_impl_File_l1 at hm2; dsimp only at hm2
      show V _ _ _ ⟨53, [(0, .sref ob0 7 0 (List.length data3)), (9, .int .i64 j_), (1, .int .i64 a), (2, .int .i64 b_), (3, .fn f3 cs3), (8, .int .i64 i)], [(ob0, ⟨7, List.map encFile data3⟩)]⟩
      refine V.seq ?_
      refine V.seq ?_
      replace hm2 := asrt_some hm2; rcases hm2 with ⟨hh0, hm2⟩
      replace hm2 := asrt_some hm2; rcases hm2 with ⟨hh1, hm2⟩
      replace hm2 := bindO hm2; rcases hm2 with ⟨y2, hh2, hm2⟩
      refine V.regionM 53 17 [⟨[(9, none)], [], none⟩, ⟨[(1, none)], [], none⟩, ⟨[(18, some 1), (19, some 0)], [], none⟩, ⟨[(20, some 0)], [], none⟩, ⟨[(3, none)], [(0, true)], none⟩, ⟨[(0, none)], [(1, true)], none⟩, ⟨[(9, none)], [(2, true)], none⟩, ⟨[(23, some 1), (24, some 0)], [(3, true)], none⟩, ⟨[(25, some 0)], [(4, true)], none⟩, ⟨[(0, none)], [(5, true)], none⟩, ⟨[(9, none)], [(6, true)], none⟩, ⟨[(28, some 0)], [(7, true)], none⟩, ⟨[(27, some 2), (29, some 0)], [(8, true)], none⟩, ⟨[(30, some 0)], [(9, true)], none⟩, ⟨[(22, some 9), (26, some 5), (31, some 0)], [(10, true)], none⟩, ⟨[(32, some 0)], [(11, true)], none⟩, ⟨[], [], some (true, 21, 33, 12, 0)⟩] [(0, none), (1, none), (2, none), (3, none), (8, none), (9, none), (34, some 0)] (⟨_, rfl, ⟨_, rfl, ⟨_, rfl, ⟨_, rfl, ⟨_, rfl, ⟨_, rfl, ⟨_, rfl, ⟨_, rfl, ⟨_, rfl, ⟨_, rfl, ⟨_, rfl, ⟨_, rfl, ⟨_, rfl, ⟨_, rfl, ⟨_, rfl, ⟨_, rfl, ⟨_, rfl, ⟨rfl, rfl⟩⟩⟩⟩⟩⟩⟩⟩⟩⟩⟩⟩⟩⟩⟩⟩⟩⟩) mixed_orders rfl (by decide +kernel) (fun hck4 => ?_)
      refine VP.step (p := ?pv3077) rfl rfl rfl (⟨_, _, rfl, rfl, rfl⟩) ?hv3077 ?rest3077 hck4
      case hv3077 =>
       intro E1
       refine (V1.move rfl rfl rfl lt0 ?_)
       exact rfl
      refine VP.step (p := ?pv3078) rfl rfl rfl (⟨_, _, rfl, rfl, rfl⟩) ?hv3078 ?rest3078 hck4
      case hv3078 =>
       intro E1
       refine (V1.move rfl rfl rfl lt0 ?_)
       exact rfl
      refine VP.step (p := ?pv3079) rfl rfl rfl (⟨_, _, rfl, rfl, _, _, rfl, rfl, rfl⟩) ?hv3079 ?rest3079 hck4
      case hv3079 =>
       intro E1
       refine (V1.int rfl rfl rfl rfl rfl lt0 ?_)
       exact rfl
      refine VP.step (p := ?pv3080) rfl rfl rfl (⟨_, _, rfl, rfl, rfl⟩) ?hv3080 ?rest3080 hck4
      case hv3080 =>
       intro E1
       refine (V1.move rfl rfl rfl lt0 ?_)
       exact rfl
      refine VP.step (p := ?pv3081) rfl rfl rfl (⟨_, _, rfl, rfl, rfl⟩) ?hv3081 ?rest3081 hck4
      case hv3081 =>
       refine ⟨_, rfl, fun hg0 => ?_⟩
       intro E1
       refine (V1.move rfl rfl rfl lt0 ?_)
       exact rfl
      refine VP.step (p := ?pv3082) rfl rfl rfl (⟨_, _, rfl, rfl, rfl⟩) ?hv3082 ?rest3082 hck4
      case hv3082 =>
       refine ⟨_, rfl, fun hg0 => ?_⟩
       intro E1
       refine (V1.move rfl rfl rfl lt0 ?_)
       exact rfl
      refine VP.step (p := ?pv3083) rfl rfl rfl (⟨_, _, rfl, rfl, rfl⟩) ?hv3083 ?rest3083 hck4
      case hv3083 =>
       refine ⟨_, rfl, fun hg0 => ?_⟩
       intro E1
       refine (V1.move rfl rfl rfl lt0 ?_)
       exact rfl
      refine VP.step (p := ?pv3084) rfl rfl rfl (⟨_, _, rfl, rfl, _, _, rfl, rfl, rfl⟩) ?hv3084 ?rest3084 hck4
      case hv3084 =>
       refine ⟨_, rfl, fun hg0 => ?_⟩
       intro E1
       refine (V1.indexSr rfl rfl esz_41 rfl rfl (hh0 hg0) lt0 ?_)
       exact rfl
      refine VP.step (p := ?pv3085) rfl rfl rfl (⟨_, _, rfl, rfl, rfl⟩) ?hv3085 ?rest3085 hck4
      case hv3085 =>
       refine ⟨_, rfl, fun hg0 => ?_⟩
       intro E1
       refine (V1.loadMapAll (k := 0) (f := encFile) rfl rfl tyk_97 rfl rfl (by simpa using natLt (hh0 hg0).1 (hh0 hg0).2) rfl lt0 ?_)
       exact rfl
      refine VP.step (p := ?pv3086) rfl rfl rfl (⟨_, _, rfl, rfl, rfl⟩) ?hv3086 ?rest3086 hck4
      case hv3086 =>
       refine ⟨_, rfl, fun hg0 => ?_⟩
       intro E1
       refine (V1.move rfl rfl rfl lt0 ?_)
       exact rfl
      refine VP.step (p := ?pv3087) rfl rfl rfl (⟨_, _, rfl, rfl, rfl⟩) ?hv3087 ?rest3087 hck4
      case hv3087 =>
       refine ⟨_, rfl, fun hg0 => ?_⟩
       intro E1
       refine (V1.move rfl rfl rfl lt0 ?_)
       exact rfl
      refine VP.step (p := ?pv3088) rfl rfl rfl (⟨_, _, rfl, rfl, rfl⟩) ?hv3088 ?rest3088 hck4
      case hv3088 =>
       refine ⟨_, rfl, fun hg0 => ?_⟩
       intro E1
       refine (V1.int rfl rfl rfl rfl rfl lt0 ?_)
       exact rfl
      refine VP.step (p := ?pv3089) rfl rfl rfl (⟨_, _, rfl, rfl, _, _, rfl, rfl, rfl⟩) ?hv3089 ?rest3089 hck4
      case hv3089 =>
       refine ⟨_, rfl, fun hg0 => ?_⟩
       intro E1
       refine (V1.indexSr rfl rfl esz_41 rfl rfl (hh1 hg0) lt0 ?_)
       exact rfl
      refine VP.step (p := ?pv3090) rfl rfl rfl (⟨_, _, rfl, rfl, rfl⟩) ?hv3090 ?rest3090 hck4
      case hv3090 =>
       refine ⟨_, rfl, fun hg0 => ?_⟩
       intro E1
       refine (V1.loadMapAll (k := 0) (f := encFile) rfl rfl tyk_97 rfl rfl (by simpa using natLt (hh1 hg0).1 (hh1 hg0).2) rfl lt0 ?_)
       exact rfl
      refine VP.step (p := ?pv3091) rfl rfl rfl (⟨_, _, rfl, rfl, _, _, rfl, rfl, _, _, rfl, rfl, rfl⟩) ?hv3091 ?rest3091 hck4
      case hv3091 =>
       refine ⟨_, rfl, fun hg0 => ?_⟩
       intro E1
       refine (V1.callG (τ := 0) (Bw := []) rfl lt0 (run_callFn rfl rfl rfl hok3 rfl) (.refl _) (Lends.same _) (fun _ h => by cases h) ((hf3 _ _  _) (cond_t hg0 hh2)) (.inl rfl) (.inl rfl) ?_)
       rintro _ _ ⟨rfl, rfl⟩
       exact rfl
      refine VP.step (p := ?pv3092) rfl rfl rfl (⟨_, _, rfl, rfl, rfl⟩) ?hv3092 ?rest3092 hck4
      case hv3092 =>
       refine ⟨_, rfl, fun hg0 => ?_⟩
       intro E1
       refine (V1.int rfl rfl rfl rfl rfl lt0 ?_)
       exact rfl
      refine VP.pickAnd rfl rfl rfl rfl rfl rfl (trivial) ?_ hck4
      refine VP.fin rfl (⟨_, _, rfl, rfl, _, _, rfl, rfl, _, _, rfl, rfl, _, _, rfl, rfl, _, _, rfl, rfl, _, _, rfl, rfl, _, _, rfl, rfl, rfl⟩) ?_
      refine VO.nil ?_
      refine V.cond rfl (fun hc1 => ?_) (fun hc1 => ?_)
      ·
       replace hm2 := cond_t hc1 hm2
       refine V.skip ?_
       refine V.seq ?_
       refine V.block ?_
       replace hm2 := asrt_some hm2; rcases hm2 with ⟨hh3, hm2⟩
       replace hm2 := asrt_some hm2; rcases hm2 with ⟨hh4, hm2⟩
       replace hm2 := asrt_some hm2; rcases hm2 with ⟨hh5, hm2⟩
       replace hm2 := asrt_some hm2; rcases hm2 with ⟨hh6, hm2⟩
       replace hm2 := bindO hm2; rcases hm2 with ⟨j0, hm3, hm2⟩
       refine V.cutT (D := (List File) × (Unit)) (fun ⟨data4, _⟩ => ⟨53, [(0, .sref ob0 7 0 (List.length data4)), (1, .int .i64 a), (2, .int .i64 b_), (3, .fn f3 cs3), (8, .int .i64 i), (9, .int .i64 j_)], [(ob0, ⟨7, List.map encFile data4⟩)]⟩) (fun ⟨data4, _⟩ => (data4 = j0)) ?_ ?_
       ·
        refine V.regionS [] 53 16 [⟨[(0, none)], false⟩, ⟨[(9, none)], false⟩, ⟨[(0, none)], false⟩, ⟨[(9, none)], false⟩, ⟨[(40, some 3)], false⟩, ⟨[(0, none)], false⟩, ⟨[(9, none)], false⟩, ⟨[(43, some 6)], false⟩, ⟨[(42, some 5), (44, some 7)], false⟩, ⟨[(45, some 8)], true⟩, ⟨[(0, none)], false⟩, ⟨[(9, none)], false⟩, ⟨[(47, some 10), (48, some 11)], false⟩, ⟨[(49, some 12)], true⟩, ⟨[(37, some 0), (38, some 1)], false⟩, ⟨[(46, some 9), (51, some 14)], true⟩] [(0, none), (1, none), (2, none), (3, none), (8, none), (9, none), (39, some 2), (41, some 4), (50, some 13)] 3 (⟨_, rfl, ⟨_, rfl, ⟨_, rfl, ⟨_, rfl, ⟨_, rfl, ⟨_, rfl, ⟨_, rfl, ⟨_, rfl, ⟨_, rfl, ⟨_, rfl, ⟨_, rfl, ⟨_, rfl, ⟨_, rfl, ⟨_, rfl, ⟨_, rfl, ⟨_, rfl, ⟨rfl, rfl⟩⟩⟩⟩⟩⟩⟩⟩⟩⟩⟩⟩⟩⟩⟩⟩⟩) mixed_orders rfl (by decide +kernel) ?_
        refine WalkP.step (p := ?pv3107) 0 rfl rfl rfl rfl rfl (⟨_, _, rfl, rfl, rfl⟩) ?hv3107 ?rest3107
        case hv3107 =>
         intro E1 H1 hI1
         refine (V1.move rfl rfl rfl lt0 ?_)
         exact rfl
        refine WalkP.step (p := ?pv3108) 1 rfl rfl rfl rfl rfl (⟨_, _, rfl, rfl, rfl⟩) ?hv3108 ?rest3108
        case hv3108 =>
         intro E1 H1 hI1
         refine (V1.move rfl rfl rfl lt0 ?_)
         exact rfl
        refine WalkP.step (p := ?pv3109) 2 rfl rfl rfl rfl rfl (⟨_, _, rfl, rfl, rfl⟩) ?hv3109 ?rest3109
        case hv3109 =>
         intro E1 H1 hI1
         refine (V1.move rfl rfl rfl lt0 ?_)
         exact rfl
        refine WalkP.step (p := ?pv3110) 3 rfl rfl rfl rfl rfl (⟨_, _, rfl, rfl, rfl⟩) ?hv3110 ?rest3110
        case hv3110 =>
         intro E1 H1 hI1
         refine (V1.move rfl rfl rfl lt0 ?_)
         exact rfl
        refine WalkP.step (p := ?pv3111) 4 rfl rfl rfl rfl rfl (⟨_, _, rfl, rfl, rfl⟩) ?hv3111 ?rest3111
        case hv3111 =>
         intro E1 H1 hI1
         refine (V1.int rfl rfl rfl rfl rfl lt0 ?_)
         exact rfl
        refine WalkP.step (p := ?pv3112) 5 rfl rfl rfl rfl rfl (⟨_, _, rfl, rfl, rfl⟩) ?hv3112 ?rest3112
        case hv3112 =>
         intro E1 H1 hI1
         refine (V1.move rfl rfl rfl lt0 ?_)
         exact rfl
        refine WalkP.step (p := ?pv3113) 6 rfl rfl rfl rfl rfl (⟨_, _, rfl, rfl, rfl⟩) ?hv3113 ?rest3113
        case hv3113 =>
         intro E1 H1 hI1
         refine (V1.move rfl rfl rfl lt0 ?_)
         exact rfl
        refine WalkP.step (p := ?pv3114) 7 rfl rfl rfl rfl rfl (⟨_, _, rfl, rfl, rfl⟩) ?hv3114 ?rest3114
        case hv3114 =>
         intro E1 H1 hI1
         refine (V1.int rfl rfl rfl rfl rfl lt0 ?_)
         exact rfl
        refine WalkP.step (p := ?pv3115) 8 rfl rfl rfl rfl rfl (⟨_, _, rfl, rfl, _, _, rfl, rfl, rfl⟩) ?hv3115 ?rest3115
        case hv3115 =>
         intro E1 H1 hI1
         refine (V1.indexSr rfl rfl esz_41 rfl rfl hh3 lt0 ?_)
         exact rfl
        refine WalkP.step (p := ?pv3116) 10 rfl rfl rfl rfl rfl (⟨_, _, rfl, rfl, rfl⟩) ?hv3116 ?rest3116
        case hv3116 =>
         intro E1 H1 hI1
         refine (V1.move rfl rfl rfl lt0 ?_)
         exact rfl
        refine WalkP.step (p := ?pv3117) 11 rfl rfl rfl rfl rfl (⟨_, _, rfl, rfl, rfl⟩) ?hv3117 ?rest3117
        case hv3117 =>
         intro E1 H1 hI1
         refine (V1.move rfl rfl rfl lt0 ?_)
         exact rfl
        refine WalkP.step (p := ?pv3118) 12 rfl rfl rfl rfl rfl (⟨_, _, rfl, rfl, _, _, rfl, rfl, rfl⟩) ?hv3118 ?rest3118
        case hv3118 =>
         intro E1 H1 hI1
         refine (V1.indexSr rfl rfl esz_41 rfl rfl hh4 lt0 ?_)
         exact rfl
        refine WalkP.nil ?_
        refine NodeS.branch [9, 13] inNil rfl rfl rfl ⟨?_, ?_, trivial⟩
        ·
         refine ⟨_, _, _, _, rfl, rfl, rfl, (⟨_, _, rfl, rfl, rfl⟩), fun E1 => ?_⟩
         refine (V1.loadMapAll (k := 0) (f := encFile) rfl rfl tyk_97 rfl rfl (by simpa using natLt hh3.1 hh3.2) rfl lt0 ?_)
         refine ⟨_, _, rfl, ?_⟩
         refine WalkP.nil ?_
         refine NodeS.branch [13] inNil rfl rfl rfl ⟨?_, trivial⟩
         ·
          refine ⟨_, _, _, _, rfl, rfl, rfl, (⟨_, _, rfl, rfl, rfl⟩), fun E1 => ?_⟩
          refine (V1.loadMapAll (k := 0) (f := encFile) rfl rfl tyk_97 rfl rfl (by simpa using natLt hh4.1 hh4.2) rfl lt0 ?_)
          refine ⟨_, _, rfl, ?_⟩
          refine WalkP.step (p := ?pv3119) 14 rfl rfl rfl rfl rfl (⟨_, _, rfl, rfl, _, _, rfl, rfl, rfl⟩) ?hv3119 ?rest3119
          case hv3119 =>
           intro E1 H1 hI1
           refine (V1.indexSr rfl rfl esz_41 rfl rfl hh5 lt0 ?_)
           exact rfl
          refine WalkP.nil ?_
          refine NodeS.branch [15] inNil rfl rfl rfl ⟨?_, trivial⟩
          ·
           refine ⟨_, _, _, _, rfl, rfl, rfl, (⟨_, _, rfl, rfl, _, _, rfl, rfl, rfl⟩), fun E1 => ?_⟩
           refine (V1.storeMap (k := 0) (f := encFile) (x := (data3.getD (Int.toNat (IntKind.i64.wrap (j_ - (1 : Int)))) default)) rfl rfl tyk_97 rfl rfl (by simpa using natLt hh5.1 hh5.2) rfl rfl ?_)
           refine ⟨.undef, _, rfl, ?_⟩
           refine WalkP.nil ?_
           refine NodeS.fin inNil rfl rfl rfl (⟨_, _, rfl, rfl, _, _, rfl, rfl, _, _, rfl, rfl, _, _, rfl, rfl, _, _, rfl, rfl, _, _, rfl, rfl, _, _, rfl, rfl, _, _, rfl, rfl, _, _, rfl, rfl, rfl⟩) ?_
           refine VO.weakenK (Keeps.say 0 (y := .sref ob0 7 0 (List.length (data3.set (Int.toNat j_) (data3.getD (Int.toNat (IntKind.i64.wrap (j_ - (1 : Int)))) default)))) rfl (by simp [optS])) ?_
           refine VO.weakenK (Keeps.say 39 (y := .sref ob0 7 0 (List.length (data3.set (Int.toNat j_) (data3.getD (Int.toNat (IntKind.i64.wrap (j_ - (1 : Int)))) default)))) rfl (by simp [optS])) ?_
           refine VO.cons rfl (V1.indexSr rfl rfl esz_41 rfl rfl hh6 lt0 ?_)
           refine VO.cons rfl (V1.storeMap (k := 0) (f := encFile) (x := (data3.getD (Int.toNat j_) default)) rfl rfl tyk_97 rfl rfl (by simpa using natLt hh6.1 hh6.2) rfl rfl ?_)
           refine VO.weakenK (Keeps.say 0 (y := .sref ob0 7 0 (List.length ((data3.set (Int.toNat j_) (data3.getD (Int.toNat (IntKind.i64.wrap (j_ - (1 : Int)))) default)).set (Int.toNat (IntKind.i64.wrap (j_ - (1 : Int)))) (data3.getD (Int.toNat j_) default)))) rfl (by simp [optS])) ?_
           refine VO.nil ?_
           exact ⟨(((data3.set (Int.toNat j_) (data3.getD (Int.toNat (IntKind.i64.wrap (j_ - (1 : Int)))) default)).set (Int.toNat (IntKind.i64.wrap (j_ - (1 : Int)))) (data3.getD (Int.toNat j_) default)), ()), Option.some.inj hm3, Keeps.mk (ks := [0]) rfl ⟨(someSref (by simp)), rfl, rfl, rfl, rfl, rfl, trivial⟩ (⟨_, _, rfl, rfl, rfl⟩) rfl⟩
        ·
         refine ⟨_, _, _, _, rfl, rfl, rfl, (⟨_, _, rfl, rfl, rfl⟩), fun E1 => ?_⟩
         refine (V1.loadMapAll (k := 0) (f := encFile) rfl rfl tyk_97 rfl rfl (by simpa using natLt hh4.1 hh4.2) rfl lt0 ?_)
         refine ⟨_, _, rfl, ?_⟩
         refine WalkP.nil ?_
         refine NodeS.branch [9] inNil rfl rfl rfl ⟨?_, trivial⟩
         ·
          refine ⟨_, _, _, _, rfl, rfl, rfl, (⟨_, _, rfl, rfl, rfl⟩), fun E1 => ?_⟩
          refine (V1.loadMapAll (k := 0) (f := encFile) rfl rfl tyk_97 rfl rfl (by simpa using natLt hh3.1 hh3.2) rfl lt0 ?_)
          refine ⟨_, _, rfl, ?_⟩
          refine WalkP.step (p := ?pv3120) 14 rfl rfl rfl rfl rfl (⟨_, _, rfl, rfl, _, _, rfl, rfl, rfl⟩) ?hv3120 ?rest3120
          case hv3120 =>
           intro E1 H1 hI1
           refine (V1.indexSr rfl rfl esz_41 rfl rfl hh5 lt0 ?_)
           exact rfl
          refine WalkP.nil ?_
          refine NodeS.branch [15] inNil rfl rfl rfl ⟨?_, trivial⟩
          ·
           refine ⟨_, _, _, _, rfl, rfl, rfl, (⟨_, _, rfl, rfl, _, _, rfl, rfl, rfl⟩), fun E1 => ?_⟩
           refine (V1.storeMap (k := 0) (f := encFile) (x := (data3.getD (Int.toNat (IntKind.i64.wrap (j_ - (1 : Int)))) default)) rfl rfl tyk_97 rfl rfl (by simpa using natLt hh5.1 hh5.2) rfl rfl ?_)
           refine ⟨.undef, _, rfl, ?_⟩
           refine WalkP.nil ?_
           refine NodeS.fin inNil rfl rfl rfl (⟨_, _, rfl, rfl, _, _, rfl, rfl, _, _, rfl, rfl, _, _, rfl, rfl, _, _, rfl, rfl, _, _, rfl, rfl, _, _, rfl, rfl, _, _, rfl, rfl, _, _, rfl, rfl, rfl⟩) ?_
           refine VO.weakenK (Keeps.say 0 (y := .sref ob0 7 0 (List.length (data3.set (Int.toNat j_) (data3.getD (Int.toNat (IntKind.i64.wrap (j_ - (1 : Int)))) default)))) rfl (by simp [optS])) ?_
           refine VO.weakenK (Keeps.say 39 (y := .sref ob0 7 0 (List.length (data3.set (Int.toNat j_) (data3.getD (Int.toNat (IntKind.i64.wrap (j_ - (1 : Int)))) default)))) rfl (by simp [optS])) ?_
           refine VO.cons rfl (V1.indexSr rfl rfl esz_41 rfl rfl hh6 lt0 ?_)
           refine VO.cons rfl (V1.storeMap (k := 0) (f := encFile) (x := (data3.getD (Int.toNat j_) default)) rfl rfl tyk_97 rfl rfl (by simpa using natLt hh6.1 hh6.2) rfl rfl ?_)
           refine VO.weakenK (Keeps.say 0 (y := .sref ob0 7 0 (List.length ((data3.set (Int.toNat j_) (data3.getD (Int.toNat (IntKind.i64.wrap (j_ - (1 : Int)))) default)).set (Int.toNat (IntKind.i64.wrap (j_ - (1 : Int)))) (data3.getD (Int.toNat j_) default)))) rfl (by simp [optS])) ?_
           refine VO.nil ?_
           exact ⟨(((data3.set (Int.toNat j_) (data3.getD (Int.toNat (IntKind.i64.wrap (j_ - (1 : Int)))) default)).set (Int.toNat (IntKind.i64.wrap (j_ - (1 : Int)))) (data3.getD (Int.toNat j_) default)), ()), Option.some.inj hm3, Keeps.mk (ks := [0]) rfl ⟨(someSref (by simp)), rfl, rfl, rfl, rfl, rfl, trivial⟩ (⟨_, _, rfl, rfl, rfl⟩) rfl⟩
       ·
        rintro ⟨data4, _⟩ rfl
        try dsimp only at hm2
        refine V.region ?_
        refine VO.cons rfl (V1.move rfl rfl rfl lt0 ?_)
        refine VO.cons rfl (V1.int rfl rfl rfl rfl rfl lt0 ?_)
        refine VO.cons rfl (V1.assign rfl rfl rfl lt0 ?_)
        refine VO.nil ?_
        exact ⟨(m1, (data4, (IntKind.i64.wrap (j_ - (1 : Int)))), ()), hl2 _ (Option.some.inj hm2).symm, Nat.lt_succ_self _, Keeps.mk (ks := [0]) rfl ⟨(someSref (by simp)), rfl, rfl, rfl, rfl, rfl, trivial⟩ (⟨_, _, rfl, rfl, rfl⟩) rfl⟩
      ·
       replace hm2 := cond_f hc1 hm2
       refine V.exit ?_
       obtain rfl := hr2 _ (Option.some.inj hm2).symm
       exact ⟨(data3, ()), rfl, Keeps.mk (ks := [0]) rfl ⟨(someSref (by simp)), rfl, rfl, rfl, rfl, trivial⟩ (⟨_, _, rfl, rfl, rfl⟩) rfl⟩
     ·
      rintro ⟨data2, _⟩ rfl
      try dsimp only at hm1
      refine V.region ?_
      refine VO.cons rfl (V1.move rfl rfl rfl lt0 ?_)
      refine VO.cons rfl (V1.int rfl rfl rfl rfl rfl lt0 ?_)
      refine VO.cons rfl (V1.assign rfl rfl rfl lt0 ?_)
      refine VO.nil ?_
      exact ⟨(m0, (data2, (IntKind.i64.wrap (i + (1 : Int)))), (some ob0)), ⟨hl1 _ (Option.some.inj hm1).symm, (fun e => by cases e)⟩, Nat.lt_succ_self _, Keeps.mk (ks := [0]) rfl ⟨rfl, rfl, rfl, rfl, rfl, trivial⟩ (⟨_, _, rfl, rfl, rfl⟩) rfl⟩
    ·
     replace hm1 := cond_f hc0 hm1
     refine V.exit ?_
     obtain rfl := hr1 _ (Option.some.inj hm1).symm
     exact ⟨(data1, ()), rfl, Keeps.trans (Keeps.freezeG 0 rn [(0, .vl rn 7 (List.map encFile data1))] ([]) (f := encFile) (l := data1) rfl (fun _ => rfl) ⟨⟨_, rfl, .here⟩, trivial⟩ rfl rfl iNil) (Keeps.mk (ks := []) rfl ⟨rfl, trivial⟩ (rfl) rfl)⟩
  ·
   rintro ⟨data0, _⟩ rfl
   try dsimp only at hm0
   obtain rfl := Option.some.inj hm0
   exact ⟨_, [], rfl, List.nil_sublist _, rfl, rfl⟩
 ·
  refine V.seq ?_
  refine V.region ?_
  refine VO.cons rfl (V1.move rfl rfl rfl lt0 ?_)
  refine VO.cons rfl (V1.int rfl rfl rfl rfl rfl lt0 ?_)
  refine VO.cons rfl (V1.assign rfl rfl rfl lt0 ?_)
  refine VO.nil ?_
  replace hm0 := bindO hm0; rcases hm0 with ⟨e0, he1, hm0⟩
  refine V.cutT (D := (List File) × (Unit)) (fun ⟨data0, _⟩ => ⟨53, [(0, .sref oq 7 0 (List.length data0))], [(oq, ⟨7, List.map encFile data0⟩)]⟩) (fun ⟨data0, _⟩ => (data0 = e0)) ?_ ?_
  ·
   refine V.block ?_
   refine V.keep 53 [0, 8, 1, 2, 3] [0] (E0 := [(0, .sref oq 7 0 (List.length data)), (8, .int .i64 (IntKind.i64.wrap (a + (1 : Int)))), (1, .int .i64 a), (2, .int .i64 b_), (3, .fn f3 cs3)]) (H0 := [(oq, ⟨7, List.map encFile data⟩)]) rfl (⟨_, _, rfl, rfl, _, _, rfl, rfl, _, _, rfl, rfl, _, _, rfl, rfl, _, _, rfl, rfl, rfl⟩) (⟨_, _, rfl, rfl, rfl⟩) rfl ?_
   refine V.loopE (D := Nat × (List File × Int) × (Unit)) (fun ⟨n0, ⟨data1, i⟩, _⟩ => [(0, .sref oq 7 0 (List.length data1)), (8, .int .i64 i)]) (fun ⟨n0, ⟨data1, i⟩, _⟩ => [(oq, ⟨7, List.map encFile data1⟩)]) (fun ⟨n0, ⟨data1, i⟩, _⟩ => loopO (M.slices_insertionSortCmpFunc_impl_File_l0 a b_ fm) n0 (data1, i) = some e0) (fun ⟨n0, _, _⟩ => n0) (rounds, (data, (IntKind.i64.wrap (a + (1 : Int)))), ()) rfl he1 ?_
   rintro ⟨n0, ⟨data1, i⟩, _⟩ hP0
   obtain ⟨m0, y0, rfl, hm1, hl1, hr1⟩ := loop_head hP0
   unfold M.slices_insertionSortCmpFunc_impl_File_l0 at hm1; dsimp only at hm1
   show V _ _ _ ⟨53, [(0, .sref oq 7 0 (List.length data1)), (8, .int .i64 i), (1, .int .i64 a), (2, .int .i64 b_), (3, .fn f3 cs3)], [(oq, ⟨7, List.map encFile data1⟩)]⟩
   refine V.seq ?_
   refine V.seq ?_
   refine V.region ?_
   refine VO.cons rfl (V1.move rfl rfl rfl lt0 ?_)
   refine VO.cons rfl (V1.move rfl rfl rfl lt0 ?_)
   refine VO.cons rfl (V1.int rfl rfl rfl rfl rfl lt0 ?_)
   refine VO.nil ?_
   refine V.cond rfl (fun hc0 => ?_) (fun hc0 => ?_)
   ·
    replace hm1 := cond_t hc0 hm1
    refine V.skip ?_
    refine V.seq ?_
    refine V.block ?_
    refine V.seq ?_
    refine V.region ?_
    refine VO.cons rfl (V1.move rfl rfl rfl lt0 ?_)
    refine VO.cons rfl (V1.assign rfl rfl rfl lt0 ?_)
    refine VO.nil ?_
    refine V.keep 53 [0, 1, 2, 3, 8, 9] [0] (E0 := [(0, .sref oq 7 0 (List.length data1)), (1, .int .i64 a), (2, .int .i64 b_), (3, .fn f3 cs3), (8, .int .i64 i), (9, .int .i64 i)]) (H0 := [(oq, ⟨7, List.map encFile data1⟩)]) rfl (⟨_, _, rfl, rfl, _, _, rfl, rfl, _, _, rfl, rfl, _, _, rfl, rfl, _, _, rfl, rfl, _, _, rfl, rfl, rfl⟩) (⟨_, _, rfl, rfl, rfl⟩) rfl ?_
    replace hm1 := bindO hm1; rcases hm1 with ⟨e1, he2, hm1⟩
    refine V.cutT (D := (List File) × (Unit)) (fun ⟨data2, _⟩ => ⟨53, [(0, .sref oq 7 0 (List.length data2)), (1, .int .i64 a), (2, .int .i64 b_), (3, .fn f3 cs3), (8, .int .i64 i)], [(oq, ⟨7, List.map encFile data2⟩)]⟩) (fun ⟨data2, _⟩ => (data2 = e1)) ?_ ?_
    ·
     refine V.block ?_
     refine V.keep 53 [0, 9, 1, 2, 3, 8] [0] (E0 := [(0, .sref oq 7 0 (List.length data1)), (9, .int .i64 i), (1, .int .i64 a), (2, .int .i64 b_), (3, .fn f3 cs3), (8, .int .i64 i)]) (H0 := [(oq, ⟨7, List.map encFile data1⟩)]) rfl (⟨_, _, rfl, rfl, _, _, rfl, rfl, _, _, rfl, rfl, _, _, rfl, rfl, _, _, rfl, rfl, _, _, rfl, rfl, rfl⟩) (⟨_, _, rfl, rfl, rfl⟩) rfl ?_
     refine V.loopE (D := Nat × (List File × Int) × (Unit)) (fun ⟨n1, ⟨data3, j_⟩, _⟩ => [(0, .sref oq 7 0 (List.length data3)), (9, .int .i64 j_)]) (fun ⟨n1, ⟨data3, j_⟩, _⟩ => [(oq, ⟨7, List.map encFile data3⟩)]) (fun ⟨n1, ⟨data3, j_⟩, _⟩ => loopO (M.slices_insertionSortCmpFunc_impl_File_l1 a fm) n1 (data3, j_) = some e1) (fun ⟨n1, _, _⟩ => n1) (rounds, (data1, i), ()) rfl he2 ?_
     rintro ⟨n1, ⟨data3, j_⟩, _⟩ hP1
     obtain ⟨m1, y1, rfl, hm2, hl2, hr2⟩ := loop_head hP1
     unfold M.slices_insertionSortCmpFunc_impl_File_l1 at hm2; dsimp only at hm2
     show V _ _ _ ⟨53, [(0, .sref oq 7 0 (List.length data3)), (9, .int .i64 j_), (1, .int .i64 a), (2, .int .i64 b_), (3, .fn f3 cs3), (8, .int .i64 i)], [(oq, ⟨7, List.map encFile data3⟩)]⟩
     refine V.seq ?_
     refine V.seq ?_
     replace hm2 := asrt_some hm2; rcases hm2 with ⟨hh0, hm2⟩
     replace hm2 := asrt_some hm2; rcases hm2 with ⟨hh1, hm2⟩
     replace hm2 := bindO hm2; rcases hm2 with ⟨y2, hh2, hm2⟩
     refine V.regionM 53 17 [⟨[(9, none)], [], none⟩, ⟨[(1, none)], [], none⟩, ⟨[(18, some 1), (19, some 0)], [], none⟩, ⟨[(20, some 0)], [], none⟩, ⟨[(3, none)], [(0, true)], none⟩, ⟨[(0, none)], [(1, true)], none⟩, ⟨[(9, none)], [(2, true)], none⟩, ⟨[(23, some 1), (24, some 0)], [(3, true)], none⟩, ⟨[(25, some 0)], [(4, true)], none⟩, ⟨[(0, none)], [(5, true)], none⟩, ⟨[(9, none)], [(6, true)], none⟩, ⟨[(28, some 0)], [(7, true)], none⟩, ⟨[(27, some 2), (29, some 0)], [(8, true)], none⟩, ⟨[(30, some 0)], [(9, true)], none⟩, ⟨[(22, some 9), (26, some 5), (31, some 0)], [(10, true)], none⟩, ⟨[(32, some 0)], [(11, true)], none⟩, ⟨[], [], some (true, 21, 33, 12, 0)⟩] [(0, none), (1, none), (2, none), (3, none), (8, none), (9, none), (34, some 0)] (⟨_, rfl, ⟨_, rfl, ⟨_, rfl, ⟨_, rfl, ⟨_, rfl, ⟨_, rfl, ⟨_, rfl, ⟨_, rfl, ⟨_, rfl, ⟨_, rfl, ⟨_, rfl, ⟨_, rfl, ⟨_, rfl, ⟨_, rfl, ⟨_, rfl, ⟨_, rfl, ⟨_, rfl, ⟨rfl, rfl⟩⟩⟩⟩⟩⟩⟩⟩⟩⟩⟩⟩⟩⟩⟩⟩⟩⟩) mixed_orders rfl (by decide +kernel) (fun hck4 => ?_)
     refine VP.step (p := ?pv3781) rfl rfl rfl (⟨_, _, rfl, rfl, rfl⟩) ?hv3781 ?rest3781 hck4
     case hv3781 =>
      intro E1
      refine (V1.move rfl rfl rfl lt0 ?_)
      exact rfl
     refine VP.step (p := ?pv3782) rfl rfl rfl (⟨_, _, rfl, rfl, rfl⟩) ?hv3782 ?rest3782 hck4
     case hv3782 =>
      intro E1
      refine (V1.move rfl rfl rfl lt0 ?_)
      exact rfl
     refine VP.step (p := ?pv3783) rfl rfl rfl (⟨_, _, rfl, rfl, _, _, rfl, rfl, rfl⟩) ?hv3783 ?rest3783 hck4
     case hv3783 =>
      intro E1
      refine (V1.int rfl rfl rfl rfl rfl lt0 ?_)
      exact rfl
     refine VP.step (p := ?pv3784) rfl rfl rfl (⟨_, _, rfl, rfl, rfl⟩) ?hv3784 ?rest3784 hck4
     case hv3784 =>
      intro E1
      refine (V1.move rfl rfl rfl lt0 ?_)
      exact rfl
     refine VP.step (p := ?pv3785) rfl rfl rfl (⟨_, _, rfl, rfl, rfl⟩) ?hv3785 ?rest3785 hck4
     case hv3785 =>
      refine ⟨_, rfl, fun hg0 => ?_⟩
      intro E1
      refine (V1.move rfl rfl rfl lt0 ?_)
      exact rfl
     refine VP.step (p := ?pv3786) rfl rfl rfl (⟨_, _, rfl, rfl, rfl⟩) ?hv3786 ?rest3786 hck4
     case hv3786 =>
      refine ⟨_, rfl, fun hg0 => ?_⟩
      intro E1
      refine (V1.move rfl rfl rfl lt0 ?_)
      exact rfl
     refine VP.step (p := ?pv3787) rfl rfl rfl (⟨_, _, rfl, rfl, rfl⟩) ?hv3787 ?rest3787 hck4
     case hv3787 =>
      refine ⟨_, rfl, fun hg0 => ?_⟩
      intro E1
      refine (V1.move rfl rfl rfl lt0 ?_)
      exact rfl
     refine VP.step (p := ?pv3788) rfl rfl rfl (⟨_, _, rfl, rfl, _, _, rfl, rfl, rfl⟩) ?hv3788 ?rest3788 hck4
     case hv3788 =>
      refine ⟨_, rfl, fun hg0 => ?_⟩
      intro E1
      refine (V1.indexSr rfl rfl esz_41 rfl rfl (hh0 hg0) lt0 ?_)
      exact rfl
     refine VP.step (p := ?pv3789) rfl rfl rfl (⟨_, _, rfl, rfl, rfl⟩) ?hv3789 ?rest3789 hck4
     case hv3789 =>
      refine ⟨_, rfl, fun hg0 => ?_⟩
      intro E1
      refine (V1.loadMapAll (k := 0) (f := encFile) rfl rfl tyk_97 rfl rfl (by simpa using natLt (hh0 hg0).1 (hh0 hg0).2) rfl lt0 ?_)
      exact rfl
     refine VP.step (p := ?pv3790) rfl rfl rfl (⟨_, _, rfl, rfl, rfl⟩) ?hv3790 ?rest3790 hck4
     case hv3790 =>
      refine ⟨_, rfl, fun hg0 => ?_⟩
      intro E1
      refine (V1.move rfl rfl rfl lt0 ?_)
      exact rfl
     refine VP.step (p := ?pv3791) rfl rfl rfl (⟨_, _, rfl, rfl, rfl⟩) ?hv3791 ?rest3791 hck4
     case hv3791 =>
      refine ⟨_, rfl, fun hg0 => ?_⟩
      intro E1
      refine (V1.move rfl rfl rfl lt0 ?_)
      exact rfl
     refine VP.step (p := ?pv3792) rfl rfl rfl (⟨_, _, rfl, rfl, rfl⟩) ?hv3792 ?rest3792 hck4
     case hv3792 =>
      refine ⟨_, rfl, fun hg0 => ?_⟩
      intro E1
      refine (V1.int rfl rfl rfl rfl rfl lt0 ?_)
      exact rfl
     refine VP.step (p := ?pv3793) rfl rfl rfl (⟨_, _, rfl, rfl, _, _, rfl, rfl, rfl⟩) ?hv3793 ?rest3793 hck4
     case hv3793 =>
      refine ⟨_, rfl, fun hg0 => ?_⟩
      intro E1
      refine (V1.indexSr rfl rfl esz_41 rfl rfl (hh1 hg0) lt0 ?_)
      exact rfl
     refine VP.step (p := ?pv3794) rfl rfl rfl (⟨_, _, rfl, rfl, rfl⟩) ?hv3794 ?rest3794 hck4
     case hv3794 =>
      refine ⟨_, rfl, fun hg0 => ?_⟩
      intro E1
      refine (V1.loadMapAll (k := 0) (f := encFile) rfl rfl tyk_97 rfl rfl (by simpa using natLt (hh1 hg0).1 (hh1 hg0).2) rfl lt0 ?_)
      exact rfl
     refine VP.step (p := ?pv3795) rfl rfl rfl (⟨_, _, rfl, rfl, _, _, rfl, rfl, _, _, rfl, rfl, rfl⟩) ?hv3795 ?rest3795 hck4
     case hv3795 =>
      refine ⟨_, rfl, fun hg0 => ?_⟩
      intro E1
      refine (V1.callG (τ := 0) (Bw := []) rfl lt0 (run_callFn rfl rfl rfl hok3 rfl) (.refl _) (Lends.same _) (fun _ h => by cases h) ((hf3 _ _  _) (cond_t hg0 hh2)) (.inl rfl) (.inl rfl) ?_)
      rintro _ _ ⟨rfl, rfl⟩
      exact rfl
     refine VP.step (p := ?pv3796) rfl rfl rfl (⟨_, _, rfl, rfl, rfl⟩) ?hv3796 ?rest3796 hck4
     case hv3796 =>
      refine ⟨_, rfl, fun hg0 => ?_⟩
      intro E1
      refine (V1.int rfl rfl rfl rfl rfl lt0 ?_)
      exact rfl
     refine VP.pickAnd rfl rfl rfl rfl rfl rfl (trivial) ?_ hck4
     refine VP.fin rfl (⟨_, _, rfl, rfl, _, _, rfl, rfl, _, _, rfl, rfl, _, _, rfl, rfl, _, _, rfl, rfl, _, _, rfl, rfl, _, _, rfl, rfl, rfl⟩) ?_
     refine VO.nil ?_
     refine V.cond rfl (fun hc1 => ?_) (fun hc1 => ?_)
     ·
      replace hm2 := cond_t hc1 hm2
      refine V.skip ?_
      refine V.seq ?_
      refine V.block ?_
      replace hm2 := asrt_some hm2; rcases hm2 with ⟨hh3, hm2⟩
      replace hm2 := asrt_some hm2; rcases hm2 with ⟨hh4, hm2⟩
      replace hm2 := asrt_some hm2; rcases hm2 with ⟨hh5, hm2⟩
      replace hm2 := asrt_some hm2; rcases hm2 with ⟨hh6, hm2⟩
      replace hm2 := bindO hm2; rcases hm2 with ⟨j0, hm3, hm2⟩
      refine V.cutT (D := (List File) × (Unit)) (fun ⟨data4, _⟩ => ⟨53, [(0, .sref oq 7 0 (List.length data4)), (1, .int .i64 a), (2, .int .i64 b_), (3, .fn f3 cs3), (8, .int .i64 i), (9, .int .i64 j_)], [(oq, ⟨7, List.map encFile data4⟩)]⟩) (fun ⟨data4, _⟩ => (data4 = j0)) ?_ ?_
      ·
       refine V.regionS [] 53 16 [⟨[(0, none)], false⟩, ⟨[(9, none)], false⟩, ⟨[(0, none)], false⟩, ⟨[(9, none)], false⟩, ⟨[(40, some 3)], false⟩, ⟨[(0, none)], false⟩, ⟨[(9, none)], false⟩, ⟨[(43, some 6)], false⟩, ⟨[(42, some 5), (44, some 7)], false⟩, ⟨[(45, some 8)], true⟩, ⟨[(0, none)], false⟩, ⟨[(9, none)], false⟩, ⟨[(47, some 10), (48, some 11)], false⟩, ⟨[(49, some 12)], true⟩, ⟨[(37, some 0), (38, some 1)], false⟩, ⟨[(46, some 9), (51, some 14)], true⟩] [(0, none), (1, none), (2, none), (3, none), (8, none), (9, none), (39, some 2), (41, some 4), (50, some 13)] 3 (⟨_, rfl, ⟨_, rfl, ⟨_, rfl, ⟨_, rfl, ⟨_, rfl, ⟨_, rfl, ⟨_, rfl, ⟨_, rfl, ⟨_, rfl, ⟨_, rfl, ⟨_, rfl, ⟨_, rfl, ⟨_, rfl, ⟨_, rfl, ⟨_, rfl, ⟨_, rfl, ⟨rfl, rfl⟩⟩⟩⟩⟩⟩⟩⟩⟩⟩⟩⟩⟩⟩⟩⟩⟩) mixed_orders rfl (by decide +kernel) ?_
       refine WalkP.step (p := ?pv3811) 0 rfl rfl rfl rfl rfl (⟨_, _, rfl, rfl, rfl⟩) ?hv3811 ?rest3811
       case hv3811 =>
        intro E1 H1 hI1
        refine (V1.move rfl rfl rfl lt0 ?_)
        exact rfl
       refine WalkP.step (p := ?pv3812) 1 rfl rfl rfl rfl rfl (⟨_, _, rfl, rfl, rfl⟩) ?hv3812 ?rest3812
       case hv3812 =>
        intro E1 H1 hI1
        refine (V1.move rfl rfl rfl lt0 ?_)
        exact rfl
       refine WalkP.step (p := ?pv3813) 2 rfl rfl rfl rfl rfl (⟨_, _, rfl, rfl, rfl⟩) ?hv3813 ?rest3813
       case hv3813 =>
        intro E1 H1 hI1
        refine (V1.move rfl rfl rfl lt0 ?_)
        exact rfl
       refine WalkP.step (p := ?pv3814) 3 rfl rfl rfl rfl rfl (⟨_, _, rfl, rfl, rfl⟩) ?hv3814 ?rest3814
       case hv3814 =>
        intro E1 H1 hI1
        refine (V1.move rfl rfl rfl lt0 ?_)
        exact rfl
       refine WalkP.step (p := ?pv3815) 4 rfl rfl rfl rfl rfl (⟨_, _, rfl, rfl, rfl⟩) ?hv3815 ?rest3815
       case hv3815 =>
        intro E1 H1 hI1
        refine (V1.int rfl rfl rfl rfl rfl lt0 ?_)
        exact rfl
       refine WalkP.step (p := ?pv3816) 5 rfl rfl rfl rfl rfl (⟨_, _, rfl, rfl, rfl⟩) ?hv3816 ?rest3816
       case hv3816 =>
        intro E1 H1 hI1
        refine (V1.move rfl rfl rfl lt0 ?_)
        exact rfl
       refine WalkP.step (p := ?pv3817) 6 rfl rfl rfl rfl rfl (⟨_, _, rfl, rfl, rfl⟩) ?hv3817 ?rest3817
       case hv3817 =>
        intro E1 H1 hI1
        refine (V1.move rfl rfl rfl lt0 ?_)
        exact rfl
       refine WalkP.step (p := ?pv3818) 7 rfl rfl rfl rfl rfl (⟨_, _, rfl, rfl, rfl⟩) ?hv3818 ?rest3818
       case hv3818 =>
        intro E1 H1 hI1
        refine (V1.int rfl rfl rfl rfl rfl lt0 ?_)
        exact rfl
       refine WalkP.step (p := ?pv3819) 8 rfl rfl rfl rfl rfl (⟨_, _, rfl, rfl, _, _, rfl, rfl, rfl⟩) ?hv3819 ?rest3819
       case hv3819 =>
        intro E1 H1 hI1
        refine (V1.indexSr rfl rfl esz_41 rfl rfl hh3 lt0 ?_)
        exact rfl
       refine WalkP.step (p := ?pv3820) 10 rfl rfl rfl rfl rfl (⟨_, _, rfl, rfl, rfl⟩) ?hv3820 ?rest3820
       case hv3820 =>
        intro E1 H1 hI1
        refine (V1.move rfl rfl rfl lt0 ?_)
        exact rfl
       refine WalkP.step (p := ?pv3821) 11 rfl rfl rfl rfl rfl (⟨_, _, rfl, rfl, rfl⟩) ?hv3821 ?rest3821
       case hv3821 =>
        intro E1 H1 hI1
        refine (V1.move rfl rfl rfl lt0 ?_)
        exact rfl
       refine WalkP.step (p := ?pv3822) 12 rfl rfl rfl rfl rfl (⟨_, _, rfl, rfl, _, _, rfl, rfl, rfl⟩) ?hv3822 ?rest3822
       case hv3822 =>
        intro E1 H1 hI1
        refine (V1.indexSr rfl rfl esz_41 rfl rfl hh4 lt0 ?_)
        exact rfl
       refine WalkP.nil ?_
       refine NodeS.branch [9, 13] inNil rfl rfl rfl ⟨?_, ?_, trivial⟩
       ·
        refine ⟨_, _, _, _, rfl, rfl, rfl, (⟨_, _, rfl, rfl, rfl⟩), fun E1 => ?_⟩
        refine (V1.loadMapAll (k := 0) (f := encFile) rfl rfl tyk_97 rfl rfl (by simpa using natLt hh3.1 hh3.2) rfl lt0 ?_)
        refine ⟨_, _, rfl, ?_⟩
        refine WalkP.nil ?_
        refine NodeS.branch [13] inNil rfl rfl rfl ⟨?_, trivial⟩
        ·
         refine ⟨_, _, _, _, rfl, rfl, rfl, (⟨_, _, rfl, rfl, rfl⟩), fun E1 => ?_⟩
         refine (V1.loadMapAll (k := 0) (f := encFile) rfl rfl tyk_97 rfl rfl (by simpa using natLt hh4.1 hh4.2) rfl lt0 ?_)
         refine ⟨_, _, rfl, ?_⟩
         refine WalkP.step (p := ?pv3823) 14 rfl rfl rfl rfl rfl (⟨_, _, rfl, rfl, _, _, rfl, rfl, rfl⟩) ?hv3823 ?rest3823
         case hv3823 =>
          intro E1 H1 hI1
          refine (V1.indexSr rfl rfl esz_41 rfl rfl hh5 lt0 ?_)
          exact rfl
         refine WalkP.nil ?_
         refine NodeS.branch [15] inNil rfl rfl rfl ⟨?_, trivial⟩
         ·
          refine ⟨_, _, _, _, rfl, rfl, rfl, (⟨_, _, rfl, rfl, _, _, rfl, rfl, rfl⟩), fun E1 => ?_⟩
          refine (V1.storeMap (k := 0) (f := encFile) (x := (data3.getD (Int.toNat (IntKind.i64.wrap (j_ - (1 : Int)))) default)) rfl rfl tyk_97 rfl rfl (by simpa using natLt hh5.1 hh5.2) rfl rfl ?_)
          refine ⟨.undef, _, rfl, ?_⟩
          refine WalkP.nil ?_
          refine NodeS.fin inNil rfl rfl rfl (⟨_, _, rfl, rfl, _, _, rfl, rfl, _, _, rfl, rfl, _, _, rfl, rfl, _, _, rfl, rfl, _, _, rfl, rfl, _, _, rfl, rfl, _, _, rfl, rfl, _, _, rfl, rfl, rfl⟩) ?_
          refine VO.weakenK (Keeps.say 0 (y := .sref oq 7 0 (List.length (data3.set (Int.toNat j_) (data3.getD (Int.toNat (IntKind.i64.wrap (j_ - (1 : Int)))) default)))) rfl (by simp [optS])) ?_
          refine VO.weakenK (Keeps.say 39 (y := .sref oq 7 0 (List.length (data3.set (Int.toNat j_) (data3.getD (Int.toNat (IntKind.i64.wrap (j_ - (1 : Int)))) default)))) rfl (by simp [optS])) ?_
          refine VO.cons rfl (V1.indexSr rfl rfl esz_41 rfl rfl hh6 lt0 ?_)
          refine VO.cons rfl (V1.storeMap (k := 0) (f := encFile) (x := (data3.getD (Int.toNat j_) default)) rfl rfl tyk_97 rfl rfl (by simpa using natLt hh6.1 hh6.2) rfl rfl ?_)
          refine VO.weakenK (Keeps.say 0 (y := .sref oq 7 0 (List.length ((data3.set (Int.toNat j_) (data3.getD (Int.toNat (IntKind.i64.wrap (j_ - (1 : Int)))) default)).set (Int.toNat (IntKind.i64.wrap (j_ - (1 : Int)))) (data3.getD (Int.toNat j_) default)))) rfl (by simp [optS])) ?_
          refine VO.nil ?_
          exact ⟨(((data3.set (Int.toNat j_) (data3.getD (Int.toNat (IntKind.i64.wrap (j_ - (1 : Int)))) default)).set (Int.toNat (IntKind.i64.wrap (j_ - (1 : Int)))) (data3.getD (Int.toNat j_) default)), ()), Option.some.inj hm3, Keeps.mk (ks := [0]) rfl ⟨(someSref (by simp)), rfl, rfl, rfl, rfl, rfl, trivial⟩ (⟨_, _, rfl, rfl, rfl⟩) rfl⟩
       ·
        refine ⟨_, _, _, _, rfl, rfl, rfl, (⟨_, _, rfl, rfl, rfl⟩), fun E1 => ?_⟩
        refine (V1.loadMapAll (k := 0) (f := encFile) rfl rfl tyk_97 rfl rfl (by simpa using natLt hh4.1 hh4.2) rfl lt0 ?_)
        refine ⟨_, _, rfl, ?_⟩
        refine WalkP.nil ?_
        refine NodeS.branch [9] inNil rfl rfl rfl ⟨?_, trivial⟩
        ·
         refine ⟨_, _, _, _, rfl, rfl, rfl, (⟨_, _, rfl, rfl, rfl⟩), fun E1 => ?_⟩
         refine (V1.loadMapAll (k := 0) (f := encFile) rfl rfl tyk_97 rfl rfl (by simpa using natLt hh3.1 hh3.2) rfl lt0 ?_)
         refine ⟨_, _, rfl, ?_⟩
         refine WalkP.step (p := ?pv3824) 14 rfl rfl rfl rfl rfl (⟨_, _, rfl, rfl, _, _, rfl, rfl, rfl⟩) ?hv3824 ?rest3824
         case hv3824 =>
          intro E1 H1 hI1
          refine (V1.indexSr rfl rfl esz_41 rfl rfl hh5 lt0 ?_)
          exact rfl
         refine WalkP.nil ?_
         refine NodeS.branch [15] inNil rfl rfl rfl ⟨?_, trivial⟩
         ·
          refine ⟨_, _, _, _, rfl, rfl, rfl, (⟨_, _, rfl, rfl, _, _, rfl, rfl, rfl⟩), fun E1 => ?_⟩
          refine (V1.storeMap (k := 0) (f := encFile) (x := (data3.getD (Int.toNat (IntKind.i64.wrap (j_ - (1 : Int)))) default)) rfl rfl tyk_97 rfl rfl (by simpa using natLt hh5.1 hh5.2) rfl rfl ?_)
          refine ⟨.undef, _, rfl, ?_⟩
          refine WalkP.nil ?_
          refine NodeS.fin inNil rfl rfl rfl (⟨_, _, rfl, rfl, _, _, rfl, rfl, _, _, rfl, rfl, _, _, rfl, rfl, _, _, rfl, rfl, _, _, rfl, rfl, _, _, rfl, rfl, _, _, rfl, rfl, _, _, rfl, rfl, rfl⟩) ?_
          refine VO.weakenK (Keeps.say 0 (y := .sref oq 7 0 (List.length (data3.set (Int.toNat j_) (data3.getD (Int.toNat (IntKind.i64.wrap (j_ - (1 : Int)))) default)))) rfl (by simp [optS])) ?_
          refine VO.weakenK (Keeps.say 39 (y := .sref oq 7 0 (List.length (data3.set (Int.toNat j_) (data3.getD (Int.toNat (IntKind.i64.wrap (j_ - (1 : Int)))) default)))) rfl (by simp [optS])) ?_
          refine VO.cons rfl (V1.indexSr rfl rfl esz_41 rfl rfl hh6 lt0 ?_)
          refine VO.cons rfl (V1.storeMap (k := 0) (f := encFile) (x := (data3.getD (Int.toNat j_) default)) rfl rfl tyk_97 rfl rfl (by simpa using natLt hh6.1 hh6.2) rfl rfl ?_)
          refine VO.weakenK (Keeps.say 0 (y := .sref oq 7 0 (List.length ((data3.set (Int.toNat j_) (data3.getD (Int.toNat (IntKind.i64.wrap (j_ - (1 : Int)))) default)).set (Int.toNat (IntKind.i64.wrap (j_ - (1 : Int)))) (data3.getD (Int.toNat j_) default)))) rfl (by simp [optS])) ?_
          refine VO.nil ?_
          exact ⟨(((data3.set (Int.toNat j_) (data3.getD (Int.toNat (IntKind.i64.wrap (j_ - (1 : Int)))) default)).set (Int.toNat (IntKind.i64.wrap (j_ - (1 : Int)))) (data3.getD (Int.toNat j_) default)), ()), Option.some.inj hm3, Keeps.mk (ks := [0]) rfl ⟨(someSref (by simp)), rfl, rfl, rfl, rfl, rfl, trivial⟩ (⟨_, _, rfl, rfl, rfl⟩) rfl⟩
      ·
       rintro ⟨data4, _⟩ rfl
       try dsimp only at hm2
       refine V.region ?_
       refine VO.cons rfl (V1.move rfl rfl rfl lt0 ?_)
       refine VO.cons rfl (V1.int rfl rfl rfl rfl rfl lt0 ?_)
       refine VO.cons rfl (V1.assign rfl rfl rfl lt0 ?_)
       refine VO.nil ?_
       exact ⟨(m1, (data4, (IntKind.i64.wrap (j_ - (1 : Int)))), ()), hl2 _ (Option.some.inj hm2).symm, Nat.lt_succ_self _, Keeps.mk (ks := [0]) rfl ⟨(someSref (by simp)), rfl, rfl, rfl, rfl, rfl, trivial⟩ (⟨_, _, rfl, rfl, rfl⟩) rfl⟩
     ·
      replace hm2 := cond_f hc1 hm2
      refine V.exit ?_
      obtain rfl := hr2 _ (Option.some.inj hm2).symm
      exact ⟨(data3, ()), rfl, Keeps.mk (ks := [0]) rfl ⟨(someSref (by simp)), rfl, rfl, rfl, rfl, trivial⟩ (⟨_, _, rfl, rfl, rfl⟩) rfl⟩
    ·
     rintro ⟨data2, _⟩ rfl
     try dsimp only at hm1
     refine V.region ?_
     refine VO.cons rfl (V1.move rfl rfl rfl lt0 ?_)
     refine VO.cons rfl (V1.int rfl rfl rfl rfl rfl lt0 ?_)
     refine VO.cons rfl (V1.assign rfl rfl rfl lt0 ?_)
     refine VO.nil ?_
     exact ⟨(m0, (data2, (IntKind.i64.wrap (i + (1 : Int)))), ()), hl1 _ (Option.some.inj hm1).symm, Nat.lt_succ_self _, Keeps.mk (ks := [0]) rfl ⟨(someSref (by simp)), rfl, rfl, rfl, rfl, trivial⟩ (⟨_, _, rfl, rfl, rfl⟩) rfl⟩
   ·
    replace hm1 := cond_f hc0 hm1
    refine V.exit ?_
    obtain rfl := hr1 _ (Option.some.inj hm1).symm
    exact ⟨(data1, ()), rfl, Keeps.mk (ks := [0]) rfl ⟨(someSref (by simp)), trivial⟩ (⟨_, _, rfl, rfl, rfl⟩) rfl⟩
  ·
   rintro ⟨data0, _⟩ rfl
   try dsimp only at hm0
   obtain rfl := Option.some.inj hm0
   exact ⟨_, _, rfl, (sub1 (k := 0) rfl), rfl, rfl⟩

theorem ok_slices_stableCmpFunc_impl_File {rn : Nat} {oq : Option Nat} {data : List File} {n : Int} {f2 : Nat} {cs2 : List PV} {r : List File} {fm : File → File → Option Int} (h : M.slices_stableCmpFunc_impl_File data n fm = some r) (hoq : oq = none → data = []) (hok2 : callOK Tryd.prog f2 = true) (hf2 : ∀ x0 x1 r, fm x0 x1 = some r → Does Tryd.prog f2 (encFile x0 :: encFile x1 :: cs2) [] rn (fun x H => x = .int .i64 r ∧ H = [])) : Does Tryd.prog 129 [optS 7 oq (List.length data), .int .i64 n, .fn f2 cs2] (optH 7 oq (List.map encFile data)) rn (fun x H => x = .tup [] ∧ H = optH 7 oq (List.map encFile r)) := by
 have hm0 := h; clear h; unfold M.slices_stableCmpFunc_impl_File at hm0
 try dsimp only at hm0
 refine Does.intro (N := 63) Tryd.func129 rfl rfl rfl rfl ?_
 intro w0 S0 L0
 rcases oq with _ | oq
 ·
  refine V.seq ?_
  refine V.region ?_
  refine VO.cons rfl (V1.assign rfl rfl rfl lt0 ?_)
  refine VO.nil ?_
  refine V.seq ?_
  refine V.region ?_
  refine VO.cons rfl (V1.move rfl rfl rfl lt0 ?_)
  refine VO.cons rfl (V1.assign rfl rfl rfl lt0 ?_)
  refine VO.cons rfl (V1.assign rfl rfl rfl lt0 ?_)
  refine VO.nil ?_
  refine V.seq ?_
  replace hm0 := bindO hm0; rcases hm0 with ⟨e0, he1, hm0⟩
  refine V.cutT (D := (Int) × (Unit)) (fun ⟨a, _⟩ => ⟨63, [(7, .int .i64 a), (0, .nils), (1, .int .i64 n), (2, .fn f2 cs2), (6, .int .i64 (20 : Int))], []⟩) (fun ⟨a, _⟩ => (a = e0)) ?_ ?_
  ·
   refine V.block ?_
   refine V.keep 63 [7, 8, 0, 1, 2, 6] [] (E0 := [(7, .int .i64 (0 : Int)), (8, .int .i64 (20 : Int)), (0, .nils), (1, .int .i64 n), (2, .fn f2 cs2), (6, .int .i64 (20 : Int))]) (H0 := []) rfl (⟨_, _, rfl, rfl, _, _, rfl, rfl, _, _, rfl, rfl, _, _, rfl, rfl, _, _, rfl, rfl, _, _, rfl, rfl, rfl⟩) (rfl) rfl ?_
   refine V.loopE (D := Nat × (Int × Int) × (Unit)) (fun ⟨n0, ⟨a0, b_⟩, _⟩ => [(7, .int .i64 a0), (8, .int .i64 b_)]) (fun ⟨n0, ⟨a0, b_⟩, _⟩ => []) (fun ⟨n0, ⟨a0, b_⟩, _⟩ => loopO (M.slices_stableCmpFunc_impl_File_l0 n) n0 (a0, b_) = some e0) (fun ⟨n0, _, _⟩ => n0) (rounds, ((0 : Int), (20 : Int)), ()) rfl he1 ?_
   rintro ⟨n0, ⟨a0, b_⟩, _⟩ hP0
   obtain ⟨m0, y0, rfl, hm1, hl1, hr1⟩ := loop_head hP0
   unfold M.slices_stableCmpFunc_impl_File_l0 at hm1; dsimp only at hm1
   show V _ _ _ ⟨63, [(7, .int .i64 a0), (8, .int .i64 b_), (0, .nils), (1, .int .i64 n), (2, .fn f2 cs2), (6, .int .i64 (20 : Int))], []⟩
   refine V.seq ?_
   refine V.seq ?_
   refine V.region ?_
   refine VO.cons rfl (V1.move rfl rfl rfl lt0 ?_)
   refine VO.cons rfl (V1.move rfl rfl rfl lt0 ?_)
   refine VO.cons rfl (V1.int rfl rfl rfl rfl rfl lt0 ?_)
   refine VO.nil ?_
   replace hm1 := asrt_some hm1; rcases hm1 with ⟨hh0, hm1⟩
   refine V.cond rfl (fun hc => by rw [hh0] at hc; cases hc) (fun _ => ?_)
   refine V.exit ?_
   obtain rfl := hr1 _ (Option.some.inj hm1).symm
   exact ⟨(a0, ()), rfl, Keeps.mk (ks := []) rfl ⟨rfl, rfl, rfl, rfl, rfl, trivial⟩ (rfl) rfl⟩
  ·
   rintro ⟨a, _⟩ rfl
   try dsimp only at hm0
   refine V.seq ?_
   replace hm0 := bindO hm0; rcases hm0 with ⟨y1, hh1, hm0⟩
   replace hm0 := asrt_some hm0; rcases hm0 with ⟨hh2, hm0⟩
   refine V.region ?_
   refine VO.cons rfl (V1.move rfl rfl rfl lt0 ?_)
   refine VO.cons rfl (V1.move rfl rfl rfl lt0 ?_)
   refine VO.cons rfl (V1.move rfl rfl rfl lt0 ?_)
   refine VO.cons rfl (V1.move rfl rfl rfl lt0 ?_)
   refine VO.cons rfl (V1.call rfl rfl rfl cok_151 rfl (ok_slices_insertionSortCmpFunc_impl_File hh1 (oq := none) (data := data) (fun _ => (hoq rfl)) (fm := fm) hok2 hf2) rfl lt0 ?_)
   rintro _ _ ⟨rfl, rfl⟩
   refine VO.nil ?_
   refine V.keep 63 [0, 1, 2, 6] [] (E0 := [(0, .nils), (1, .int .i64 n), (2, .fn f2 cs2), (6, .int .i64 (20 : Int))]) (H0 := []) rfl (⟨_, _, rfl, rfl, _, _, rfl, rfl, _, _, rfl, rfl, _, _, rfl, rfl, rfl⟩) (rfl) rfl ?_
   replace hm0 := bindO hm0; rcases hm0 with ⟨e1, he1, hm0⟩
   refine V.cutT (D := (Unit) × (Unit)) (fun ⟨_, _⟩ => ⟨63, [(0, .nils)], []⟩) (fun ⟨_, _⟩ => (() = e1)) ?_ ?_
   ·
    refine V.block ?_
    refine V.keep 63 [6, 0, 1, 2] [] (E0 := [(6, .int .i64 (20 : Int)), (0, .nils), (1, .int .i64 n), (2, .fn f2 cs2)]) (H0 := []) rfl (⟨_, _, rfl, rfl, _, _, rfl, rfl, _, _, rfl, rfl, _, _, rfl, rfl, rfl⟩) (rfl) rfl ?_
    refine V.loopE (D := Nat × (Int) × (Unit)) (fun ⟨n1, blockSize, _⟩ => [(6, .int .i64 blockSize)]) (fun ⟨n1, blockSize, _⟩ => []) (fun ⟨n1, blockSize, _⟩ => loopO (M.slices_stableCmpFunc_impl_File_l1 n) n1 blockSize = some e1) (fun ⟨n1, _, _⟩ => n1) (rounds, (20 : Int), ()) rfl he1 ?_
    rintro ⟨n1, blockSize, _⟩ hP1
    obtain ⟨m1, y2, rfl, hm1, hl1, hr1⟩ := loop_head hP1
    unfold M.slices_stableCmpFunc_impl_File_l1 at hm1; dsimp only at hm1
    show V _ _ _ ⟨63, [(6, .int .i64 blockSize), (0, .nils), (1, .int .i64 n), (2, .fn f2 cs2)], []⟩
    refine V.seq ?_
    refine V.seq ?_
    refine V.region ?_
    refine VO.cons rfl (V1.move rfl rfl rfl lt0 ?_)
    refine VO.cons rfl (V1.move rfl rfl rfl lt0 ?_)
    refine VO.cons rfl (V1.int rfl rfl rfl rfl rfl lt0 ?_)
    refine VO.nil ?_
    replace hm1 := asrt_some hm1; rcases hm1 with ⟨hh3, hm1⟩
    refine V.cond rfl (fun hc => by rw [hh3] at hc; cases hc) (fun _ => ?_)
    refine V.exit ?_
    obtain rfl := hr1 _ (Option.some.inj hm1).symm
    exact ⟨((), ()), rfl, Keeps.mk (ks := []) rfl ⟨rfl, trivial⟩ (rfl) rfl⟩
   ·
    rintro ⟨_, _⟩ rfl
    try dsimp only at hm0
    obtain rfl := Option.some.inj hm0
    exact ⟨_, [], rfl, List.nil_sublist _, rfl, rfl⟩
 ·
  refine V.seq ?_
  refine V.region ?_
  refine VO.cons rfl (V1.assign rfl rfl rfl lt0 ?_)
  refine VO.nil ?_
  refine V.seq ?_
  refine V.region ?_
  refine VO.cons rfl (V1.move rfl rfl rfl lt0 ?_)
  refine VO.cons rfl (V1.assign rfl rfl rfl lt0 ?_)
  refine VO.cons rfl (V1.assign rfl rfl rfl lt0 ?_)
  refine VO.nil ?_
  refine V.seq ?_
  replace hm0 := bindO hm0; rcases hm0 with ⟨e0, he1, hm0⟩
  refine V.cutT (D := (Int) × (Unit)) (fun ⟨a, _⟩ => ⟨63, [(7, .int .i64 a), (0, .sref oq 7 0 (List.length data)), (1, .int .i64 n), (2, .fn f2 cs2), (6, .int .i64 (20 : Int))], [(oq, ⟨7, List.map encFile data⟩)]⟩) (fun ⟨a, _⟩ => (a = e0)) ?_ ?_
  ·
   refine V.block ?_
   refine V.keep 63 [7, 8, 0, 1, 2, 6] [0] (E0 := [(7, .int .i64 (0 : Int)), (8, .int .i64 (20 : Int)), (0, .sref oq 7 0 (List.length data)), (1, .int .i64 n), (2, .fn f2 cs2), (6, .int .i64 (20 : Int))]) (H0 := [(oq, ⟨7, List.map encFile data⟩)]) rfl (⟨_, _, rfl, rfl, _, _, rfl, rfl, _, _, rfl, rfl, _, _, rfl, rfl, _, _, rfl, rfl, _, _, rfl, rfl, rfl⟩) (⟨_, _, rfl, rfl, rfl⟩) rfl ?_
   refine V.loopE (D := Nat × (Int × Int) × (Unit)) (fun ⟨n0, ⟨a0, b_⟩, _⟩ => [(7, .int .i64 a0), (8, .int .i64 b_)]) (fun ⟨n0, ⟨a0, b_⟩, _⟩ => []) (fun ⟨n0, ⟨a0, b_⟩, _⟩ => loopO (M.slices_stableCmpFunc_impl_File_l0 n) n0 (a0, b_) = some e0) (fun ⟨n0, _, _⟩ => n0) (rounds, ((0 : Int), (20 : Int)), ()) rfl he1 ?_
   rintro ⟨n0, ⟨a0, b_⟩, _⟩ hP0
   obtain ⟨m0, y0, rfl, hm1, hl1, hr1⟩ := loop_head hP0
   unfold M.slices_stableCmpFunc_impl_File_l0 at hm1; dsimp only at hm1
   show V _ _ _ ⟨63, [(7, .int .i64 a0), (8, .int .i64 b_), (0, .sref oq 7 0 (List.length data)), (1, .int .i64 n), (2, .fn f2 cs2), (6, .int .i64 (20 : Int))], [(oq, ⟨7, List.map encFile data⟩)]⟩
   refine V.seq ?_
   refine V.seq ?_
   refine V.region ?_
   refine VO.cons rfl (V1.move rfl rfl rfl lt0 ?_)
   refine VO.cons rfl (V1.move rfl rfl rfl lt0 ?_)
   refine VO.cons rfl (V1.int rfl rfl rfl rfl rfl lt0 ?_)
   refine VO.nil ?_
   replace hm1 := asrt_some hm1; rcases hm1 with ⟨hh0, hm1⟩
   refine V.cond rfl (fun hc => by rw [hh0] at hc; cases hc) (fun _ => ?_)
   refine V.exit ?_
   obtain rfl := hr1 _ (Option.some.inj hm1).symm
   exact ⟨(a0, ()), rfl, Keeps.mk (ks := [0]) rfl ⟨rfl, rfl, rfl, rfl, rfl, trivial⟩ (⟨_, _, rfl, rfl, rfl⟩) rfl⟩
  ·
   rintro ⟨a, _⟩ rfl
   try dsimp only at hm0
   refine V.seq ?_
   replace hm0 := bindO hm0; rcases hm0 with ⟨y1, hh1, hm0⟩
   replace hm0 := asrt_some hm0; rcases hm0 with ⟨hh2, hm0⟩
   refine V.region ?_
   refine VO.cons rfl (V1.move rfl rfl rfl lt0 ?_)
   refine VO.cons rfl (V1.move rfl rfl rfl lt0 ?_)
   refine VO.cons rfl (V1.move rfl rfl rfl lt0 ?_)
   refine VO.cons rfl (V1.move rfl rfl rfl lt0 ?_)
   refine VO.cons rfl (V1.callM 0 (rn + 1) [] [.sref oq 7 0 (List.length data), .int .i64 a, .int .i64 n, .fn f2 cs2] (p := (oq, ⟨7, List.map encFile data⟩)) rfl rfl rfl cok_151 rfl rfl ⟨_, _, rfl, .same _, ⟨_, _, rfl, .same _, ⟨_, _, rfl, .same _, ⟨_, _, rfl, .same _, rfl⟩⟩⟩⟩ bwNil (ok_slices_insertionSortCmpFunc_impl_File hh1 (oq := some oq) (fun e => by cases e) (fm := fm) hok2 hf2) rfl (.inl rfl) lt0 ?_)
   rintro _ _ ⟨rfl, rfl⟩
   refine VO.weakenK (Keeps.say 0 (y := .sref oq 7 0 (List.length y1)) rfl (congrArg (PV.sref oq 7 0) hh2.symm)) ?_
   refine VO.nil ?_
   refine V.keep 63 [0, 1, 2, 6] [0] (E0 := [(0, .sref oq 7 0 (List.length y1)), (1, .int .i64 n), (2, .fn f2 cs2), (6, .int .i64 (20 : Int))]) (H0 := [(oq, ⟨7, List.map encFile y1⟩)]) rfl (⟨_, _, rfl, rfl, _, _, rfl, rfl, _, _, rfl, rfl, _, _, rfl, rfl, rfl⟩) (⟨_, _, rfl, rfl, rfl⟩) rfl ?_
   replace hm0 := bindO hm0; rcases hm0 with ⟨e1, he1, hm0⟩
   refine V.cutT (D := (Unit) × (Unit)) (fun ⟨_, _⟩ => ⟨63, [(0, .sref oq 7 0 (List.length y1))], [(oq, ⟨7, List.map encFile y1⟩)]⟩) (fun ⟨_, _⟩ => (() = e1)) ?_ ?_
   ·
    refine V.block ?_
    refine V.keep 63 [6, 0, 1, 2] [0] (E0 := [(6, .int .i64 (20 : Int)), (0, .sref oq 7 0 (List.length y1)), (1, .int .i64 n), (2, .fn f2 cs2)]) (H0 := [(oq, ⟨7, List.map encFile y1⟩)]) rfl (⟨_, _, rfl, rfl, _, _, rfl, rfl, _, _, rfl, rfl, _, _, rfl, rfl, rfl⟩) (⟨_, _, rfl, rfl, rfl⟩) rfl ?_
    refine V.loopE (D := Nat × (Int) × (Unit)) (fun ⟨n1, blockSize, _⟩ => [(6, .int .i64 blockSize)]) (fun ⟨n1, blockSize, _⟩ => []) (fun ⟨n1, blockSize, _⟩ => loopO (M.slices_stableCmpFunc_impl_File_l1 n) n1 blockSize = some e1) (fun ⟨n1, _, _⟩ => n1) (rounds, (20 : Int), ()) rfl he1 ?_
    rintro ⟨n1, blockSize, _⟩ hP1
    obtain ⟨m1, y2, rfl, hm1, hl1, hr1⟩ := loop_head hP1
    unfold M.slices_stableCmpFunc_impl_File_l1 at hm1; dsimp only at hm1
    show V _ _ _ ⟨63, [(6, .int .i64 blockSize), (0, .sref oq 7 0 (List.length y1)), (1, .int .i64 n), (2, .fn f2 cs2)], [(oq, ⟨7, List.map encFile y1⟩)]⟩
    refine V.seq ?_
    refine V.seq ?_
    refine V.region ?_
    refine VO.cons rfl (V1.move rfl rfl rfl lt0 ?_)
    refine VO.cons rfl (V1.move rfl rfl rfl lt0 ?_)
    refine VO.cons rfl (V1.int rfl rfl rfl rfl rfl lt0 ?_)
    refine VO.nil ?_
    replace hm1 := asrt_some hm1; rcases hm1 with ⟨hh3, hm1⟩
    refine V.cond rfl (fun hc => by rw [hh3] at hc; cases hc) (fun _ => ?_)
    refine V.exit ?_
    obtain rfl := hr1 _ (Option.some.inj hm1).symm
    exact ⟨((), ()), rfl, Keeps.mk (ks := [0]) rfl ⟨rfl, trivial⟩ (⟨_, _, rfl, rfl, rfl⟩) rfl⟩
   ·
    rintro ⟨_, _⟩ rfl
    try dsimp only at hm0
    obtain rfl := Option.some.inj hm0
    exact ⟨_, _, rfl, (sub1 (k := 0) rfl), rfl, rfl⟩

theorem ok_slices_SortStableFunc_impl_File_impl_File {rn : Nat} {oq : Option Nat} {x : List File} {f1 : Nat} {cs1 : List PV} {r : List File} {fm : File → File → Option Int} (h : M.slices_SortStableFunc_impl_File_impl_File x fm = some r) (hoq : oq = none → x = []) (hok1 : callOK Tryd.prog f1 = true) (hf1 : ∀ x0 x1 r, fm x0 x1 = some r → Does Tryd.prog f1 (encFile x0 :: encFile x1 :: cs1) [] rn (fun x H => x = .int .i64 r ∧ H = [])) : Does Tryd.prog 86 [optS 7 oq (List.length x), .fn f1 cs1] (optH 7 oq (List.map encFile x)) rn (fun x H => x = .tup [] ∧ H = optH 7 oq (List.map encFile r)) := by
 have hm0 := h; clear h; unfold M.slices_SortStableFunc_impl_File_impl_File at hm0
 try dsimp only at hm0
 refine Does.intro (N := 9) Tryd.func86 rfl rfl rfl rfl ?_
 intro w0 S0 L0
 rcases oq with _ | oq
 ·
  replace hm0 := bindO hm0; rcases hm0 with ⟨y0, hh0, hm0⟩
  replace hm0 := asrt_some hm0; rcases hm0 with ⟨hh1, hm0⟩
  refine V.region ?_
  refine VO.cons rfl (V1.move rfl rfl rfl lt0 ?_)
  refine VO.cons rfl (V1.move rfl rfl rfl lt0 ?_)
  refine VO.cons rfl (V1.lenNilsE (l := x) (hoq rfl) rfl rfl rfl rfl rfl rfl isl_41 lt0 ?_)
  refine VO.cons rfl (V1.move rfl rfl rfl lt0 ?_)
  refine VO.cons rfl (V1.call rfl rfl rfl cok_129 rfl (ok_slices_stableCmpFunc_impl_File hh0 (oq := none) (data := x) (fun _ => (hoq rfl)) (fm := fm) hok1 hf1) rfl lt0 ?_)
  rintro _ _ ⟨rfl, rfl⟩
  refine VO.nil ?_
  obtain rfl := Option.some.inj hm0
  exact ⟨_, [], rfl, List.nil_sublist _, rfl, rfl⟩
 ·
  replace hm0 := bindO hm0; rcases hm0 with ⟨y0, hh0, hm0⟩
  replace hm0 := asrt_some hm0; rcases hm0 with ⟨hh1, hm0⟩
  refine V.region ?_
  refine VO.cons rfl (V1.move rfl rfl rfl lt0 ?_)
  refine VO.cons rfl (V1.move rfl rfl rfl lt0 ?_)
  refine VO.cons rfl (V1.lenSref rfl rfl rfl rfl rfl rfl isl_41 lt0 ?_)
  refine VO.cons rfl (V1.move rfl rfl rfl lt0 ?_)
  refine VO.cons rfl (V1.callM 0 (rn + 1) [] [.sref oq 7 0 (List.length x), .int .i64 (x.length : Int), .fn f1 cs1] (p := (oq, ⟨7, List.map encFile x⟩)) rfl rfl rfl cok_129 rfl rfl ⟨_, _, rfl, .same _, ⟨_, _, rfl, .same _, ⟨_, _, rfl, .same _, rfl⟩⟩⟩ bwNil (ok_slices_stableCmpFunc_impl_File hh0 (oq := some oq) (fun e => by cases e) (fm := fm) hok1 hf1) rfl (.inl rfl) lt0 ?_)
  rintro _ _ ⟨rfl, rfl⟩
  refine VO.weakenK (Keeps.say 0 (y := .sref oq 7 0 (List.length y0)) rfl (congrArg (PV.sref oq 7 0) hh1.symm)) ?_
  refine VO.nil ?_
  obtain rfl := Option.some.inj hm0
  exact ⟨_, _, rfl, (sub1 (k := 0) rfl), rfl, rfl⟩

theorem ok_impl_ClosedSince_1 {rn : Nat} {a : File} {b_ : File} {r : Int} (h : M.impl_ClosedSince_1 a b_ = some r) : Does Tryd.prog 87 [encFile a, encFile b_] [] rn (fun x H => x = .int .i64 r ∧ H = []) := by
 have hm0 := h; clear h; unfold M.impl_ClosedSince_1 at hm0
 try dsimp only at hm0
 refine Does.intro (N := 10) Tryd.func87 rfl rfl rfl rfl ?_
 intro w0 S0 L0
 refine V.seq ?_
 refine V.region ?_
 refine VO.cons rfl (V1.boxN (n := 7) rfl rfl rfl rfl rfl lt0 ?_)
 intro b0
 refine VO.cons rfl (V1.boxN (n := 7) rfl rfl rfl rfl rfl lt0 ?_)
 intro b1
 refine VO.cons rfl (V1.assign rfl rfl rfl lt0 ?_)
 refine VO.nil ?_
 refine V.seq ?_
 replace hm0 := bindO hm0; rcases hm0 with ⟨y0, hh0, hm0⟩
 refine V.region ?_
 refine VO.cons rfl (V1.fieldRef rfl rfl fo_97_4 rfl lt0 ?_)
 refine VO.cons rfl (V1.loadRef (k := 1) rfl rfl tyk_3 rfl rfl rfl rfl rfl lt0 ?_)
 refine VO.cons rfl (V1.fieldRef rfl rfl fo_97_4 rfl lt0 ?_)
 refine VO.cons rfl (V1.loadRef (k := 0) rfl rfl tyk_3 rfl rfl rfl rfl rfl lt0 ?_)
 refine VO.cons rfl (V1.call rfl rfl rfl cok_79 rfl (ok_cmp_Compare_int hh0) rfl lt0 ?_)
 rintro _ _ ⟨rfl, rfl⟩
 refine VO.cons rfl (V1.assign rfl rfl rfl lt0 ?_)
 refine VO.nil ?_
 refine V.ret ?_
 obtain rfl := Option.some.inj hm0
 exact ⟨_, [], ⟨_, _, rfl, rfl, rfl⟩, List.nil_sublist _, rfl, rfl⟩
end Go.Proofs.YteocnbeefedbkaaDoor
