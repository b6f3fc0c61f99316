/- the functions do what their models say -/
import Derived.Test.YtfebeomnlkfgoaaQg2
set_option linter.unusedSimpArgs false
set_option linter.unusedVariables false
set_option maxRecDepth 100000
set_option maxHeartbeats 4000000
namespace Go.Proofs.Ytfebeomnlkfgoaa
open Go.VS
theorem ok_spec_MoveCarton {rn : Nat} {list : List Carton} {id_ : Int} {room : Int} {shelf : Int} {r : List Carton × Bool} (h : M.spec_MoveCarton list id_ room shelf = some r) : Does Try.prog 31 [.vl rn 5 (List.map (encCarton rn) list), .int .i64 id_, .int .i64 room, .int .i64 shelf] [] rn (fun x H => ∃ (ob0_ : Nat), x = .tup [PV.sref ob0_ 5 0 (List.length r.1), .bool r.2] ∧ H = [(ob0_, ⟨5, List.map (encCarton rn) r.1⟩)]) := by
 have hm0 := h; clear h; unfold M.spec_MoveCarton at hm0
 try dsimp only at hm0
 refine Does.intro (N := 43) Try.func31 rfl rfl rfl rfl ?_
 intro w0 S0
 refine V.seq (V.region (VO.cons rfl (V1.as ?_)))
 refine VO.cons rfl (V1.as ?_)
 refine VO.nil (V.seq ?_)
 replace hm0 := bindO hm0; rcases hm0 with ⟨y0, hh0, hm0⟩
 refine V.region (VO.cons rfl (V1.mv ?_))
 refine VO.cons rfl (V1.mv ?_)
 refine VO.cons rfl (V1.call rfl rfl rfl cok_63 rfl (ok_spec_l18Find hh0) rfl lt0 ?_)
 rintro _ _ ⟨rfl, rfl⟩
 refine VO.cons rfl (V1.as ?_)
 refine VO.nil (V.keep 43 [0, 2, 3, 10] [] (E0 := [(0, .vl rn 5 (List.map (encCarton rn) list)), (2, .int .i64 room), (3, .int .i64 shelf), (10, .int .i64 y0)]) (H0 := []) rfl (⟨_, _, rfl, rfl, _, _, rfl, rfl, _, _, rfl, rfl, _, _, rfl, rfl, rfl⟩) (rfl) rfl ?_)
 refine V.seq (V.seq ?_)
 replace hm0 := bindO hm0; rcases hm0 with ⟨y1, hh1, hm0⟩
 refine V.region (VO.cons rfl (V1.mv ?_))
 refine VO.cons rfl (V1.call rfl rfl rfl cok_60 rfl (ok_spec_l18Good hh1) rfl lt0 ?_)
 rintro _ _ ⟨rfl, rfl⟩
 refine VO.cons rfl (V1.not rfl rfl rfl lt0 ?_)
 refine VO.cons rfl (V1.mv ?_)
 apply VO.or (n := 2) rfl rfl rfl rfl rfl rfl lt0 (.none rfl)
 ·
  intro hg0
  refine VO.step (.some rfl rfl rfl) (V1.mv ?_)
  refine VO.step (.some rfl rfl rfl) (V1.it ?_)
  exact VO.nil ⟨rfl, rfl, rfl, rfl, .inr ⟨rfl, .inr ⟨rfl, .inr ⟨rfl, .inl rfl⟩⟩⟩⟩
 refine VO.nil (V.keep 43 [0, 2, 3, 10, 22] [] (E0 := [(0, .vl rn 5 (List.map (encCarton rn) list)), (2, .int .i64 room), (3, .int .i64 shelf), (10, .int .i64 y0), (22, .bool ((!y1) || (decide (y0 < (0 : Int)))))]) (H0 := []) rfl (⟨_, _, rfl, rfl, _, _, rfl, rfl, _, _, rfl, rfl, _, _, rfl, rfl, _, _, rfl, rfl, rfl⟩) (rfl) rfl ?_)
 refine V.cond rfl (fun hc0 => ?_) (fun hc0 => ?_)
 ·
  replace hm0 := cond_t hc0 hm0
  refine V.seq (V.region (VO.cons rfl (V1.buildSliceT (f := (encCarton rn)) ([] : List Carton) rfl rfl esz_39 zk_67 rfl rfl rfl rfl rfl rfl rfl lt0 ?_)))
  intro b0
  refine VO.cons rfl (V1.as ?_)
  refine VO.cons rfl (V1.as ?_)
  refine VO.nil (V.keep 43 [8, 9] [0] (E0 := [(8, .sref b0 5 0 (List.length ([] : List Carton))), (9, .bool false)]) (H0 := [(b0, ⟨5, List.map (encCarton rn) ([] : List Carton)⟩)]) rfl (⟨_, _, rfl, rfl, _, _, rfl, rfl, rfl⟩) (⟨_, _, rfl, rfl, rfl⟩) rfl ?_)
  refine V.ret ?_
  obtain rfl := oi hm0
  exact ⟨_, _, ⟨_, _, rfl, rfl, _, _, rfl, rfl, rfl⟩, List.Sublist.refl _, b0, rfl, rfl⟩
 ·
  replace hm0 := cond_f hc0 hm0
  refine V.skip ?_
  refine V.seq ?_
  replace hm0 := bindO hm0; rcases hm0 with ⟨y2, hh2, hm0⟩
  refine V.region (VO.cons rfl (V1.mv ?_))
  refine VO.cons rfl (V1.call rfl rfl rfl cok_64 rfl (ok_spec_l18Own hh2) rfl lt0 ?_)
  rintro _ _ ⟨b1, rfl, rfl⟩
  refine VO.cons rfl (V1.as ?_)
  refine VO.nil (V.keep 43 [2, 3, 10, 11] [0] (E0 := [(2, .int .i64 room), (3, .int .i64 shelf), (10, .int .i64 y0), (11, .sref b1 5 0 (List.length y2))]) (H0 := [(b1, ⟨5, List.map (encCarton rn) y2⟩)]) rfl (⟨_, _, rfl, rfl, _, _, rfl, rfl, _, _, rfl, rfl, _, _, rfl, rfl, rfl⟩) (⟨_, _, rfl, rfl, rfl⟩) rfl ?_)
  refine V.seq ?_
  replace hm0 := asrt_some hm0; rcases hm0 with ⟨hh3, hm0⟩
  refine V.region (VO.cons rfl (V1.mv ?_))
  refine VO.cons rfl (V1.mv ?_)
  refine VO.cons rfl (V1.indexSr rfl rfl esz_39 rfl rfl hh3 lt0 ?_)
  refine VO.cons rfl (V1.loadMapAll (k := 0) (f := (encCarton rn)) rfl rfl tyk_67 rfl rfl (by simpa using natLt hh3.1 hh3.2) rfl lt0 ?_)
  refine VO.cons rfl (V1.alloc rfl rfl zk_67 lt0 ?_)
  intro b2
  refine VO.cons rfl (V1.storeRefAll (k := 0) rfl rfl tyk_67 rfl rfl rfl rfl rfl rfl ?_)
  refine VO.nil (V.keep 43 [2, 3, 10, 11, 12] [0, 1] (E0 := [(2, .int .i64 room), (3, .int .i64 shelf), (10, .int .i64 y0), (11, .sref b1 5 0 (List.length y2)), (12, .ref b2 5 0 0)]) (H0 := [(b2, ⟨5, [encCarton rn (y2.getD (Int.toNat y0) default)]⟩), (b1, ⟨5, List.map (encCarton rn) y2⟩)]) rfl (⟨_, _, rfl, rfl, _, _, rfl, rfl, _, _, rfl, rfl, _, _, rfl, rfl, _, _, rfl, rfl, rfl⟩) (⟨_, _, rfl, rfl, _, _, rfl, rfl, rfl⟩) rfl ?_)
  refine V.seq (V.region (VO.cons rfl (V1.mv ?_)))
  refine VO.cons rfl (V1.fieldRef rfl rfl fo_67_2 rfl lt0 ?_)
  refine VO.cons rfl (V1.storeRef (k := 0) rfl rfl tyk_3 rfl rfl rfl rfl rfl rfl rfl rfl rfl ?_)
  refine VO.nil (V.seq (V.region (VO.cons rfl (V1.mv ?_))))
  refine VO.cons rfl (V1.fieldRef rfl rfl fo_67_1 rfl lt0 ?_)
  refine VO.cons rfl (V1.storeRef (k := 0) rfl rfl tyk_3 rfl rfl rfl rfl rfl rfl rfl rfl rfl ?_)
  refine VO.nil (V.keep 43 [10, 11, 12] [0, 1] (E0 := [(10, .int .i64 y0), (11, .sref b1 5 0 (List.length y2)), (12, .ref b2 5 0 0)]) (H0 := [(b2, ⟨5, [.agg [.int .i64 ((y2.getD (Int.toNat y0) default).Id), .int .i64 shelf, .int .i64 room, .vl rn 1 (List.map encInt ((y2.getD (Int.toNat y0) default).Files)), .int .i64 ((y2.getD (Int.toNat y0) default).Thick)]]⟩), (b1, ⟨5, List.map (encCarton rn) y2⟩)]) rfl (⟨_, _, rfl, rfl, _, _, rfl, rfl, _, _, rfl, rfl, rfl⟩) (⟨_, _, rfl, rfl, _, _, rfl, rfl, rfl⟩) rfl ?_)
  refine V.seq ?_
  replace hm0 := asrt_some hm0; rcases hm0 with ⟨hh4, hm0⟩
  refine V.region (VO.cons rfl (V1.mv ?_))
  refine VO.cons rfl (V1.mv ?_)
  refine VO.cons rfl (V1.loadRefAll (k := 0) rfl rfl tyk_67 rfl rfl rfl rfl rfl lt0 ?_)
  refine VO.cons rfl (V1.indexSr rfl rfl esz_39 rfl rfl hh4 lt0 ?_)
  refine VO.cons rfl (V1.storeMap (k := 1) (f := (encCarton rn)) (x := (⟨(y2.getD (Int.toNat y0) default).Id, shelf, room, (y2.getD (Int.toNat y0) default).Files, (y2.getD (Int.toNat y0) default).Thick⟩ : Carton)) rfl rfl tyk_67 rfl rfl (by simpa using natLt hh4.1 hh4.2) rfl rfl ?_)
  refine VO.weakenK (Keeps.say 11 (y := .sref b1 5 0 (List.length (y2.set (Int.toNat y0) (⟨(y2.getD (Int.toNat y0) default).Id, shelf, room, (y2.getD (Int.toNat y0) default).Files, (y2.getD (Int.toNat y0) default).Thick⟩ : Carton)))) rfl (by simp [optS])) ?_
  refine VO.nil (V.keep 43 [11] [1] (E0 := [(11, .sref b1 5 0 (List.length (y2.set (Int.toNat y0) (⟨(y2.getD (Int.toNat y0) default).Id, shelf, room, (y2.getD (Int.toNat y0) default).Files, (y2.getD (Int.toNat y0) default).Thick⟩ : Carton))))]) (H0 := [(b1, ⟨5, List.map (encCarton rn) (y2.set (Int.toNat y0) (⟨(y2.getD (Int.toNat y0) default).Id, shelf, room, (y2.getD (Int.toNat y0) default).Files, (y2.getD (Int.toNat y0) default).Thick⟩ : Carton))⟩)]) rfl (⟨_, _, rfl, rfl, rfl⟩) (⟨_, _, rfl, rfl, rfl⟩) rfl ?_)
  refine V.seq (V.seq ?_)
  replace hm0 := bindO hm0; rcases hm0 with ⟨y3, hh5, hm0⟩
  refine V.region (VO.cons rfl (V1.mv ?_))
  refine VO.cons rfl (V1.callL (rn + 1) [b1] [.vl (rn + 1) 5 (List.map (encCarton rn) (y2.set (Int.toNat y0) (⟨(y2.getD (Int.toNat y0) default).Id, shelf, room, (y2.getD (Int.toNat y0) default).Files, (y2.getD (Int.toNat y0) default).Thick⟩ : Carton)))] rfl rfl rfl cok_60 rfl ⟨_, _, rfl, Lend.srMap 0 rfl (fun _ => rfl) (.head _), rfl⟩ (bwCons (k := 0) rfl bwNil) (ok_spec_l18Good hh5) rfl (⟨(by first | omega | (dsimp only; omega)), by rintro _ _ ⟨rfl, rfl⟩; exact ⟨rfl, by simp⟩⟩) lt0 ?_)
  rintro _ _ ⟨rfl, rfl⟩
  refine VO.cons rfl (V1.not rfl rfl rfl lt0 ?_)
  refine VO.nil (V.cond rfl (fun hc1 => ?_) (fun hc1 => ?_))
  ·
   replace hm0 := cond_t hc1 hm0
   refine V.seq (V.region (VO.cons rfl (V1.buildSliceT (f := (encCarton rn)) ([] : List Carton) rfl rfl esz_39 zk_67 rfl rfl rfl rfl rfl rfl rfl lt0 ?_)))
   intro b3
   refine VO.cons rfl (V1.as ?_)
   refine VO.cons rfl (V1.as ?_)
   refine VO.nil (V.keep 43 [8, 9] [0] (E0 := [(8, .sref b3 5 0 (List.length ([] : List Carton))), (9, .bool false)]) (H0 := [(b3, ⟨5, List.map (encCarton rn) ([] : List Carton)⟩)]) rfl (⟨_, _, rfl, rfl, _, _, rfl, rfl, rfl⟩) (⟨_, _, rfl, rfl, rfl⟩) rfl ?_)
   refine V.ret ?_
   obtain rfl := oi hm0
   exact ⟨_, _, ⟨_, _, rfl, rfl, _, _, rfl, rfl, rfl⟩, List.Sublist.refl _, b3, rfl, rfl⟩
  ·
   replace hm0 := cond_f hc1 hm0
   refine V.skip ?_
   refine V.seq (V.region (VO.cons rfl (V1.mv ?_)))
   refine VO.cons rfl (V1.as ?_)
   refine VO.cons rfl (V1.as ?_)
   refine VO.nil (V.keep 43 [8, 9] [0] (E0 := [(8, .sref b1 5 0 (List.length (y2.set (Int.toNat y0) (⟨(y2.getD (Int.toNat y0) default).Id, shelf, room, (y2.getD (Int.toNat y0) default).Files, (y2.getD (Int.toNat y0) default).Thick⟩ : Carton)))), (9, .bool true)]) (H0 := [(b1, ⟨5, List.map (encCarton rn) (y2.set (Int.toNat y0) (⟨(y2.getD (Int.toNat y0) default).Id, shelf, room, (y2.getD (Int.toNat y0) default).Files, (y2.getD (Int.toNat y0) default).Thick⟩ : Carton))⟩)]) rfl (⟨_, _, rfl, rfl, _, _, rfl, rfl, rfl⟩) (⟨_, _, rfl, rfl, rfl⟩) rfl ?_)
   refine V.ret ?_
   obtain rfl := oi hm0
   exact ⟨_, _, ⟨_, _, rfl, rfl, _, _, rfl, rfl, rfl⟩, List.Sublist.refl _, b1, rfl, rfl⟩
theorem ok_impl_FreeOn {ρ0 rn : Nat} {list : List Carton} {room : Int} {shelf : Int} {r : Int × Bool} (h : M.impl_FreeOn list room shelf = some r) : Does Try.prog 47 [.vl ρ0 5 (List.map (encCarton ρ0) list), .int .i64 room, .int .i64 shelf] [] rn (fun x H => x = .tup [.int .i64 r.1, .bool r.2] ∧ H = []) := by
 have hm0 := h; clear h; unfold M.impl_FreeOn at hm0
 try dsimp only at hm0
 refine Does.intro (N := 25) Try.func47 rfl rfl rfl rfl ?_
 intro w0 S0
 refine V.seq (V.region (VO.cons rfl (V1.as ?_)))
 refine VO.cons rfl (V1.as ?_)
 refine VO.nil (V.seq (V.seq ?_))
 replace hm0 := bindO hm0; rcases hm0 with ⟨y0, hh0, hm0⟩
 replace hm0 := bindO hm0; rcases hm0 with ⟨y1, hh1, hm0⟩
 replace hm0 := bindO hm0; rcases hm0 with ⟨y2, hh2, hm0⟩
 refine V.region (VO.cons rfl (V1.mv ?_))
 refine VO.cons rfl (V1.call rfl rfl rfl cok_45 rfl (ok_impl_AreCartons hh0) rfl lt0 ?_)
 rintro _ _ ⟨rfl, rfl⟩
 refine VO.cons rfl (V1.not rfl rfl rfl lt0 ?_)
 refine VO.cons rfl (V1.mv ?_)
 apply VO.or (n := 3) rfl rfl rfl rfl rfl rfl lt0 (.none rfl)
 ·
  intro hg0
  refine VO.step (.some rfl rfl rfl) (V1.mv ?_)
  refine VO.step (.some rfl rfl rfl) (V1.call rfl rfl rfl cok_95 rfl (ok_impl_isRoom (cond_f hg0 hh1)) rfl lt0 ?_)
  rintro _ _ ⟨rfl, rfl⟩
  refine VO.step (.some rfl rfl rfl) (V1.not rfl rfl rfl lt0 ?_)
  exact VO.nil ⟨rfl, rfl, rfl, rfl, .inr ⟨rfl, .inr ⟨rfl, .inr ⟨rfl, .inr ⟨rfl, .inl rfl⟩⟩⟩⟩⟩
 refine VO.cons rfl (V1.mv ?_)
 apply VO.or (n := 3) rfl rfl rfl rfl rfl rfl lt0 (.none rfl)
 ·
  intro hg1
  refine VO.step (.some rfl rfl rfl) (V1.mv ?_)
  refine VO.step (.some rfl rfl rfl) (V1.call rfl rfl rfl cok_96 rfl (ok_impl_isShelf (cond_f hg1 hh2)) rfl lt0 ?_)
  rintro _ _ ⟨rfl, rfl⟩
  refine VO.step (.some rfl rfl rfl) (V1.not rfl rfl rfl lt0 ?_)
  exact VO.nil ⟨rfl, rfl, rfl, rfl, .inr ⟨rfl, .inr ⟨rfl, .inr ⟨rfl, .inr ⟨rfl, .inl rfl⟩⟩⟩⟩⟩
 refine VO.nil (V.keep 25 [0, 1, 2, 20] [] (E0 := [(0, .vl ρ0 5 (List.map (encCarton ρ0) list)), (1, .int .i64 room), (2, .int .i64 shelf), (20, .bool (((!y0) || (!y1)) || (!y2)))]) (H0 := []) rfl (⟨_, _, rfl, rfl, _, _, rfl, rfl, _, _, rfl, rfl, _, _, rfl, rfl, rfl⟩) (rfl) rfl ?_)
 refine V.cond rfl (fun hc0 => ?_) (fun hc0 => ?_)
 ·
  replace hm0 := cond_t hc0 hm0
  refine V.seq (V.region (VO.cons rfl (V1.as ?_)))
  refine VO.cons rfl (V1.as ?_)
  refine VO.nil (V.ret ?_)
  obtain rfl := oi hm0
  exact ⟨_, [], ⟨_, _, rfl, rfl, _, _, rfl, rfl, rfl⟩, List.nil_sublist _, rfl, rfl⟩
 ·
  replace hm0 := cond_f hc0 hm0
  refine V.skip ?_
  refine V.seq ?_
  replace hm0 := bindO hm0; rcases hm0 with ⟨y3, hh3, hm0⟩
  refine V.region (VO.cons rfl (V1.mv ?_))
  refine VO.cons rfl (V1.mv ?_)
  refine VO.cons rfl (V1.mv ?_)
  refine VO.cons rfl (V1.call rfl rfl rfl cok_92 rfl (ok_impl_freeOn hh3) rfl lt0 ?_)
  rintro _ _ ⟨rfl, rfl⟩
  refine VO.cons rfl (V1.as ?_)
  refine VO.cons rfl (V1.as ?_)
  refine VO.nil (V.ret ?_)
  obtain rfl := oi hm0
  exact ⟨_, [], ⟨_, _, rfl, rfl, _, _, rfl, rfl, rfl⟩, List.nil_sublist _, rfl, rfl⟩
theorem ok_spec_DrawMergeCartons {ρ0 rn : Nat} {code : List Int} {r : List Carton × Int × Int} (h : M.spec_DrawMergeCartons code = some r) : Does Try.prog 48 [.vl ρ0 1 (List.map encU8 code)] [] rn (fun x H => ∃ (ob0_ : Nat), x = .tup [PV.sref ob0_ 5 0 (List.length r.1), .int .i64 r.2.1, .int .i64 r.2.2] ∧ H = [(ob0_, ⟨5, List.map (encCarton rn) r.1⟩)]) := by
 have hm0 := h; clear h; unfold M.spec_DrawMergeCartons at hm0
 try dsimp only at hm0
 refine Does.intro (N := 19) Try.func48 rfl rfl rfl rfl ?_
 intro w0 S0
 refine V.seq (V.region (VO.cons rfl (V1.as ?_)))
 refine VO.cons rfl (V1.as ?_)
 refine VO.cons rfl (V1.as ?_)
 refine VO.nil (V.seq (V.region (VO.cons rfl (V1.mv ?_))))
 refine VO.cons rfl (V1.build rfl rfl zk_99 pl_99 rfl rfl lt0 ?_)
 refine VO.cons rfl (V1.boxN (n := 3) rfl rfl rfl rfl rfl lt0 ?_)
 intro b0
 refine VO.cons rfl (V1.as ?_)
 refine VO.nil (V.keep 19 [5] [0] (E0 := [(5, .ref b0 3 0 0)]) (H0 := [(b0, ⟨3, [.agg [.vl ρ0 1 (List.map encU8 code), .int .i64 (0 : Int), .int .u64 (0 : Int)]]⟩)]) rfl (⟨_, _, rfl, rfl, rfl⟩) (⟨_, _, rfl, rfl, rfl⟩) rfl ?_)
 refine V.seq ?_
 replace hm0 := bindO hm0; rcases hm0 with ⟨y0, hh0, hm0⟩
 refine V.region (VO.cons rfl (V1.mv ?_))
 refine VO.cons rfl (V1.callM 0 (rn + ρ0 + 1) [] [.ref b0 3 0 0] (p := (b0, ⟨3, [.agg [.vl ρ0 1 (List.map encU8 code), .int .i64 (0 : Int), .int .u64 (0 : Int)]]⟩)) rfl rfl rfl cok_84 rfl rfl ⟨_, _, rfl, .same _, rfl⟩ bwNil (ok_spec_l1Cur_cartons hh0) rfl (.inl rfl) lt0 ?_)
 rintro _ _ ⟨b1, rfl, rfl⟩
 refine VO.cons rfl (V1.as ?_)
 refine VO.nil (V.seq ?_)
 replace hm0 := bindO hm0; rcases hm0 with ⟨y1, hh1, hm0⟩
 replace hm0 := bindO hm0; rcases hm0 with ⟨y2, hh2, hm0⟩
 refine V.region (VO.cons rfl (V1.mv ?_))
 refine VO.cons rfl (V1.mv ?_)
 refine VO.cons rfl (V1.mv ?_)
 refine VO.cons rfl (V1.callM 1 (rn + ρ0 + 1) [b1] [.ref b0 3 0 0, .vl (rn + ρ0 + 1) 5 (List.map (encCarton rn) y0.1)] (p := (b0, ⟨3, [encCur ρ0 y0.2]⟩)) rfl rfl rfl cok_86 rfl rfl ⟨_, _, rfl, .same _, ⟨_, _, rfl, Lend.srMap 0 rfl (fun _ => rfl) (.head _), rfl⟩⟩ (bwCons (k := 0) rfl bwNil) (ok_spec_l1Cur_cartonId hh1) rfl (.inr ⟨(by first | omega | (dsimp only; omega)), by rintro _ _ ⟨rfl, rfl⟩; exact ⟨by simp [PV.no, PV.noL, optS_no, noL_iff, nbeq] <;> omega, by intro b ob h; first | exact optH_no (noL_map (fun _ => by simp [PV.no, PV.noL, noL_iff, nbeq]) _) b ob h | (simp only [List.append_assoc, List.mem_append, List.mem_cons, List.mem_singleton, List.not_mem_nil, or_false, Prod.mk.injEq] at h; rcases h with ⟨rfl, rfl⟩ | ⟨rfl, rfl⟩ <;> first | exact noL_map (fun _ => by simp [PV.no, PV.noL, noL_iff, nbeq]) _ | (simp [PV.no, PV.noL, optS_no, noL_iff, nbeq] <;> omega)) | (simp at h; obtain ⟨rfl, rfl⟩ := h; exact noL_map (fun _ => by simp [PV.no, PV.noL, noL_iff, nbeq]) _) | (simp at h; obtain ⟨rfl, rfl⟩ := h; simp [PV.no, PV.noL, optS_no, noL_iff, nbeq] <;> omega)⟩⟩) lt0 ?_)
 rintro _ _ ⟨rfl, rfl⟩
 refine VO.cons rfl (V1.mv ?_)
 refine VO.cons rfl (V1.mv ?_)
 refine VO.cons rfl (V1.callM 0 (rn + ρ0 + 1) [b1] [.ref b0 3 0 0, .vl (rn + ρ0 + 1) 5 (List.map (encCarton rn) y0.1)] (p := (b0, ⟨3, [encCur ρ0 y1.2]⟩)) rfl rfl rfl cok_86 rfl rfl ⟨_, _, rfl, .same _, ⟨_, _, rfl, Lend.srMap 1 rfl (fun _ => rfl) (.head _), rfl⟩⟩ (bwCons (k := 0) rfl bwNil) (ok_spec_l1Cur_cartonId hh2) rfl (.inr ⟨(by first | omega | (dsimp only; omega)), by rintro _ _ ⟨rfl, rfl⟩; exact ⟨by simp [PV.no, PV.noL, optS_no, noL_iff, nbeq] <;> omega, by intro b ob h; first | exact optH_no (noL_map (fun _ => by simp [PV.no, PV.noL, noL_iff, nbeq]) _) b ob h | (simp only [List.append_assoc, List.mem_append, List.mem_cons, List.mem_singleton, List.not_mem_nil, or_false, Prod.mk.injEq] at h; rcases h with ⟨rfl, rfl⟩ | ⟨rfl, rfl⟩ <;> first | exact noL_map (fun _ => by simp [PV.no, PV.noL, noL_iff, nbeq]) _ | (simp [PV.no, PV.noL, optS_no, noL_iff, nbeq] <;> omega)) | (simp at h; obtain ⟨rfl, rfl⟩ := h; exact noL_map (fun _ => by simp [PV.no, PV.noL, noL_iff, nbeq]) _) | (simp at h; obtain ⟨rfl, rfl⟩ := h; simp [PV.no, PV.noL, optS_no, noL_iff, nbeq] <;> omega)⟩⟩) lt0 ?_)
 rintro _ _ ⟨rfl, rfl⟩
 refine VO.cons rfl (V1.as ?_)
 refine VO.cons rfl (V1.as ?_)
 refine VO.cons rfl (V1.as ?_)
 refine VO.nil (V.keep 19 [2, 3, 4] [1] (E0 := [(2, .sref b1 5 0 (List.length y0.1)), (3, .int .i64 y1.1), (4, .int .i64 y2.1)]) (H0 := [(b1, ⟨5, List.map (encCarton rn) y0.1⟩)]) rfl (⟨_, _, rfl, rfl, _, _, rfl, rfl, _, _, rfl, rfl, rfl⟩) (⟨_, _, rfl, rfl, rfl⟩) rfl ?_)
 refine V.ret ?_
 obtain rfl := oi hm0
 exact ⟨_, _, ⟨_, _, rfl, rfl, _, _, rfl, rfl, _, _, rfl, rfl, rfl⟩, List.Sublist.refl _, b1, rfl, rfl⟩
theorem okr_slices_Delete_impl_Carton_impl_Carton {rn : Nat} {oq : Option Nat} {s : List PV} {i : Int} {j_ : Int} {r : List PV} (h : delM (PV.agg [.int .i64 (0 : Int), .int .i64 (0 : Int), .int .i64 (0 : Int), .nils, .int .i64 (0 : Int)]) s i j_ = some r) (hoq : oq = none → s = []) : Does Try.prog 80 [optS 5 oq (List.length s), .int .i64 i, .int .i64 j_] (optH 5 oq (List.map (fun t_ : PV => t_) s)) rn (fun x H => ∃ (ob0_ : Option Nat), (ob0_ = none → r = []) ∧ x = optS 5 ob0_ (List.length r) ∧ H = optH 5 ob0_ (List.map (fun t_ : PV => t_) r)) := by
 have hm0 := h; clear h; unfold delM at hm0
 try dsimp only at hm0
 refine Does.intro (N := 33) Try.func80 rfl rfl rfl rfl ?_
 intro w0 S0
 rcases oq with _ | oq
 ·
  refine V.seq (V.region (VO.cons rfl (V1.as ?_)))
  refine VO.nil (V.seq ?_)
  replace hm0 := asrt_some hm0; rcases hm0 with ⟨hh0, hm0⟩
  refine V.region (VO.cons rfl (V1.mv ?_))
  refine VO.cons rfl (V1.mv ?_)
  refine VO.cons rfl (V1.mv ?_)
  refine VO.cons rfl (V1.mv ?_)
  refine VO.cons rfl (V1.lenNilsE (l := s) (hoq rfl) rfl rfl rfl rfl rfl rfl isl_39 lt0 ?_)
  refine VO.cons rfl (V1.slice3N (l := s) (hoq rfl) rfl rfl esz_39 rfl rfl rfl rfl hh0 lt0 ?_)
  refine VO.nil (V.keep 33 [0, 1, 2] [] (E0 := [(0, .nils), (1, .int .i64 i), (2, .int .i64 j_)]) (H0 := []) rfl (⟨_, _, rfl, rfl, _, _, rfl, rfl, _, _, rfl, rfl, rfl⟩) (rfl) rfl ?_)
  refine V.seq (V.seq (V.region (VO.cons rfl (V1.mv ?_))))
  refine VO.cons rfl (V1.mv ?_)
  refine VO.cons rfl (V1.it ?_)
  refine VO.nil (V.cond rfl (fun hc0 => ?_) (fun hc0 => ?_))
  ·
   replace hm0 := cond_t hc0 hm0
   refine V.seq (V.region (VO.cons rfl (V1.mv ?_)))
   refine VO.cons rfl (V1.as ?_)
   refine VO.nil (V.keep 33 [6] [] (E0 := [(6, .nils)]) (H0 := []) rfl (⟨_, _, rfl, rfl, rfl⟩) (rfl) rfl ?_)
   refine V.ret ?_
   obtain rfl := oi hm0
   exact ⟨_, _, ⟨_, _, rfl, rfl, rfl⟩, List.Sublist.refl _, none, (fun _ => (hoq rfl)), rfl, rfl⟩
  ·
   replace hm0 := cond_f hc0 hm0
   exfalso
   obtain rfl := hoq rfl; simp only [beq_eq_false_iff_ne, ne_eq, List.length_nil] at *; omega
 ·
  refine V.seq (V.region (VO.cons rfl (V1.as ?_)))
  refine VO.nil (V.seq ?_)
  replace hm0 := asrt_some hm0; rcases hm0 with ⟨hh0, hm0⟩
  refine V.region (VO.cons rfl (V1.mv ?_))
  refine VO.cons rfl (V1.mv ?_)
  refine VO.cons rfl (V1.mv ?_)
  refine VO.cons rfl (V1.mv ?_)
  refine VO.cons rfl (V1.lenSref rfl rfl rfl rfl rfl rfl isl_39 lt0 ?_)
  refine VO.cons rfl (V1.slice3 rfl rfl esz_39 rfl rfl rfl rfl hh0 lt0 ?_)
  refine VO.nil (V.keep 33 [0, 1, 2] [0] (E0 := [(0, .sref oq 5 0 (List.length s)), (1, .int .i64 i), (2, .int .i64 j_)]) (H0 := [(oq, ⟨5, List.map (fun t_ : PV => t_) s⟩)]) rfl (⟨_, _, rfl, rfl, _, _, rfl, rfl, _, _, rfl, rfl, rfl⟩) (⟨_, _, rfl, rfl, rfl⟩) rfl ?_)
  refine V.seq (V.seq (V.region (VO.cons rfl (V1.mv ?_))))
  refine VO.cons rfl (V1.mv ?_)
  refine VO.cons rfl (V1.it ?_)
  refine VO.nil (V.cond rfl (fun hc0 => ?_) (fun hc0 => ?_))
  ·
   replace hm0 := cond_t hc0 hm0
   refine V.seq (V.region (VO.cons rfl (V1.mv ?_)))
   refine VO.cons rfl (V1.as ?_)
   refine VO.nil (V.keep 33 [6] [0] (E0 := [(6, .sref oq 5 0 (List.length s))]) (H0 := [(oq, ⟨5, List.map (fun t_ : PV => t_) s⟩)]) rfl (⟨_, _, rfl, rfl, rfl⟩) (⟨_, _, rfl, rfl, rfl⟩) rfl ?_)
   refine V.ret ?_
   obtain rfl := oi hm0
   exact ⟨_, _, ⟨_, _, rfl, rfl, rfl⟩, List.Sublist.refl _, some oq, (fun e => by cases e), rfl, rfl⟩
  ·
   replace hm0 := cond_f hc0 hm0
   refine V.skip ?_
   refine V.seq (V.region (VO.cons rfl (V1.mv ?_)))
   refine VO.cons rfl (V1.lenSref rfl rfl rfl rfl rfl rfl isl_39 lt0 ?_)
   refine VO.cons rfl (V1.as ?_)
   refine VO.nil (V.keep 33 [0, 1, 2, 7] [0] (E0 := [(0, .sref oq 5 0 (List.length s)), (1, .int .i64 i), (2, .int .i64 j_), (7, .int .i64 (s.length : Int))]) (H0 := [(oq, ⟨5, List.map (fun t_ : PV => t_) s⟩)]) rfl (⟨_, _, rfl, rfl, _, _, rfl, rfl, _, _, rfl, rfl, _, _, rfl, rfl, rfl⟩) (⟨_, _, rfl, rfl, rfl⟩) rfl ?_)
   refine V.seq ?_
   replace hm0 := asrt_some hm0; rcases hm0 with ⟨hh1, hm0⟩
   replace hm0 := asrt_some hm0; rcases hm0 with ⟨hh2, hm0⟩
   replace hm0 := asrt_some hm0; rcases hm0 with ⟨hh3, hm0⟩
   replace hm0 := asrt_some hm0; rcases hm0 with ⟨hh4, hm0⟩
   refine V.regionS [] 33 6 [⟨[(0, none)], false⟩, ⟨[(1, none)], false⟩, ⟨[(20, some 0), (21, some 1)], false⟩, ⟨[(0, none)], false⟩, ⟨[(2, none)], false⟩, ⟨[(23, some 3), (24, some 4)], false⟩] [(7, none), (22, some 2), (25, some 5)] 0 (⟨_, rfl, ⟨_, rfl, ⟨_, rfl, ⟨_, rfl, ⟨_, rfl, ⟨_, rfl, ⟨rfl, rfl⟩⟩⟩⟩⟩⟩⟩) mixed_orders rfl (by decide +kernel) ?_
   refine WalkP.step (p := ?pv13) 0 rfl rfl rfl rfl rfl (⟨_, _, rfl, rfl, rfl⟩) ?hv13 ?rest13
   case hv13 =>
    intro E1 H1 hI1
    refine (V1.mv ?_)
    exact rfl
   refine WalkP.step (p := ?pv14) 1 rfl rfl rfl rfl rfl (⟨_, _, rfl, rfl, rfl⟩) ?hv14 ?rest14
   case hv14 =>
    intro E1 H1 hI1
    refine (V1.mv ?_)
    exact rfl
   refine WalkP.step (p := ?pv15) 2 rfl rfl rfl rfl rfl (⟨_, _, rfl, rfl, _, _, rfl, rfl, rfl⟩) ?hv15 ?rest15
   case hv15 =>
    intro E1 H1 hI1
    refine (V1.sliceSw (a := (0 : Int)) (c := i) rfl rfl esz_39 rfl (Bnd.none _ _) (Bnd.some rfl (Int.le_trans hh1.1 hh1.2.1) _) hh1 lt0 ?_)
    exact rfl
   refine WalkP.step (p := ?pv16) 3 rfl rfl rfl rfl rfl (⟨_, _, rfl, rfl, rfl⟩) ?hv16 ?rest16
   case hv16 =>
    intro E1 H1 hI1
    refine (V1.mv ?_)
    exact rfl
   refine WalkP.step (p := ?pv17) 4 rfl rfl rfl rfl rfl (⟨_, _, rfl, rfl, rfl⟩) ?hv17 ?rest17
   case hv17 =>
    intro E1 H1 hI1
    refine (V1.mv ?_)
    exact rfl
   refine WalkP.step (p := ?pv18) 5 rfl rfl rfl rfl rfl (⟨_, _, rfl, rfl, _, _, rfl, rfl, rfl⟩) ?hv18 ?rest18
   case hv18 =>
    intro E1 H1 hI1
    refine (V1.sliceSw (a := j_) (c := (((List.length s) : Nat) : Int)) rfl rfl esz_39 rfl (Bnd.some rfl hh2.1 _) (Bnd.none _ _) hh2 lt0 ?_)
    exact rfl
   refine WalkP.nil (NodeS.fin inNil rfl rfl rfl (⟨_, _, rfl, rfl, _, _, rfl, rfl, _, _, rfl, rfl, rfl⟩) ?_)
   refine VO.cons rfl (V1.appendIn (k := 0) (f := (fun t_ : PV => t_)) (l := s) (m := (List.take (Int.toNat (((List.length s) : Nat) : Int) - Int.toNat j_) (List.drop (0 + Int.toNat j_) s))) (i := (Int.toNat i - Int.toNat (0 : Int))) rfl rfl rfl rfl rfl esz_39 rfl rfl rfl (SrcOf.swMap (k := 0) (l := s) rfl hh3 isl_39) hh4 lt0 ?_)
   refine VO.cons rfl (V1.as ?_)
   refine VO.nil (V.seq ?_)
   replace hm0 := asrt_some hm0; rcases hm0 with ⟨hh5, hm0⟩
   replace hm0 := asrt_some hm0; rcases hm0 with ⟨hh6, hm0⟩
   refine V.region (VO.cons rfl (V1.mv ?_))
   refine VO.cons rfl (V1.mv ?_)
   refine VO.cons rfl (V1.lenSref rfl rfl rfl rfl rfl rfl isl_39 lt0 ?_)
   refine VO.cons rfl (V1.mv ?_)
   refine VO.cons rfl (V1.sliceSwX (k := 0) (f := (fun t_ : PV => t_)) (l := (List.take (Int.toNat i - Int.toNat (0 : Int)) s ++ (List.take (Int.toNat (((List.length s) : Nat) : Int) - Int.toNat j_) (List.drop (0 + Int.toNat j_) s)) ++ List.drop ((Int.toNat i - Int.toNat (0 : Int)) + List.length (List.take (Int.toNat (((List.length s) : Nat) : Int) - Int.toNat j_) (List.drop (0 + Int.toNat j_) s))) s)) (a := ((((Int.toNat i - Int.toNat (0 : Int)) + List.length (List.take (Int.toNat (((List.length s) : Nat) : Int) - Int.toNat j_) (List.drop (0 + Int.toNat j_) s))) : Nat) : Int)) (c := (s.length : Int)) rfl rfl esz_39 rfl rfl (Bnd.some rfl hh5.1 _) rfl hh5 lt0 ?_)
   refine VO.cons rfl (V1.clearSw (k := 0) (f := (fun t_ : PV => t_)) (l := (List.take (Int.toNat i - Int.toNat (0 : Int)) s ++ (List.take (Int.toNat (((List.length s) : Nat) : Int) - Int.toNat j_) (List.drop (0 + Int.toNat j_) s)) ++ List.drop ((Int.toNat i - Int.toNat (0 : Int)) + List.length (List.take (Int.toNat (((List.length s) : Nat) : Int) - Int.toNat j_) (List.drop (0 + Int.toNat j_) s))) s)) (z := (PV.agg [.int .i64 (0 : Int), .int .i64 (0 : Int), .int .i64 (0 : Int), .nils, .int .i64 (0 : Int)])) rfl rfl rfl rfl rfl esz_39 zk_67 .same rfl rfl hh6 ?_)
   refine VO.nil (V.keep 33 [0] [0] (E0 := [(0, .sref oq 5 0 ((Int.toNat i - Int.toNat (0 : Int)) + List.length (List.take (Int.toNat (((List.length s) : Nat) : Int) - Int.toNat j_) (List.drop (0 + Int.toNat j_) s))))]) (H0 := [(oq, ⟨5, List.map (fun t_ : PV => t_) (List.take (0 + Int.toNat ((((Int.toNat i - Int.toNat (0 : Int)) + List.length (List.take (Int.toNat (((List.length s) : Nat) : Int) - Int.toNat j_) (List.drop (0 + Int.toNat j_) s))) : Nat) : Int)) (List.take (Int.toNat i - Int.toNat (0 : Int)) s ++ (List.take (Int.toNat (((List.length s) : Nat) : Int) - Int.toNat j_) (List.drop (0 + Int.toNat j_) s)) ++ List.drop ((Int.toNat i - Int.toNat (0 : Int)) + List.length (List.take (Int.toNat (((List.length s) : Nat) : Int) - Int.toNat j_) (List.drop (0 + Int.toNat j_) s))) s) ++ List.replicate (Int.toNat (s.length : Int) - Int.toNat ((((Int.toNat i - Int.toNat (0 : Int)) + List.length (List.take (Int.toNat (((List.length s) : Nat) : Int) - Int.toNat j_) (List.drop (0 + Int.toNat j_) s))) : Nat) : Int)) (PV.agg [.int .i64 (0 : Int), .int .i64 (0 : Int), .int .i64 (0 : Int), .nils, .int .i64 (0 : Int)]) ++ List.drop ((0 + Int.toNat ((((Int.toNat i - Int.toNat (0 : Int)) + List.length (List.take (Int.toNat (((List.length s) : Nat) : Int) - Int.toNat j_) (List.drop (0 + Int.toNat j_) s))) : Nat) : Int)) + (Int.toNat (s.length : Int) - Int.toNat ((((Int.toNat i - Int.toNat (0 : Int)) + List.length (List.take (Int.toNat (((List.length s) : Nat) : Int) - Int.toNat j_) (List.drop (0 + Int.toNat j_) s))) : Nat) : Int))) (List.take (Int.toNat i - Int.toNat (0 : Int)) s ++ (List.take (Int.toNat (((List.length s) : Nat) : Int) - Int.toNat j_) (List.drop (0 + Int.toNat j_) s)) ++ List.drop ((Int.toNat i - Int.toNat (0 : Int)) + List.length (List.take (Int.toNat (((List.length s) : Nat) : Int) - Int.toNat j_) (List.drop (0 + Int.toNat j_) s))) s))⟩)]) rfl (⟨_, _, rfl, rfl, rfl⟩) (⟨_, _, rfl, rfl, rfl⟩) rfl ?_)
   refine V.seq (V.region (VO.cons rfl (V1.mv ?_)))
   refine VO.cons rfl (V1.as ?_)
   refine VO.nil ?_
   replace hm0 := asrt_some hm0; rcases hm0 with ⟨hh7, hm0⟩
   refine V.weakenK (Keeps.cut 6 0 ((Int.toNat i - Int.toNat (0 : Int)) + List.length (List.take (Int.toNat (((List.length s) : Nat) : Int) - Int.toNat j_) (List.drop (0 + Int.toNat j_) s))) (f := (fun t_ : PV => t_)) (l := (List.take (0 + Int.toNat ((((Int.toNat i - Int.toNat (0 : Int)) + List.length (List.take (Int.toNat (((List.length s) : Nat) : Int) - Int.toNat j_) (List.drop (0 + Int.toNat j_) s))) : Nat) : Int)) (List.take (Int.toNat i - Int.toNat (0 : Int)) s ++ (List.take (Int.toNat (((List.length s) : Nat) : Int) - Int.toNat j_) (List.drop (0 + Int.toNat j_) s)) ++ List.drop ((Int.toNat i - Int.toNat (0 : Int)) + List.length (List.take (Int.toNat (((List.length s) : Nat) : Int) - Int.toNat j_) (List.drop (0 + Int.toNat j_) s))) s) ++ List.replicate (Int.toNat (s.length : Int) - Int.toNat ((((Int.toNat i - Int.toNat (0 : Int)) + List.length (List.take (Int.toNat (((List.length s) : Nat) : Int) - Int.toNat j_) (List.drop (0 + Int.toNat j_) s))) : Nat) : Int)) (PV.agg [.int .i64 (0 : Int), .int .i64 (0 : Int), .int .i64 (0 : Int), .nils, .int .i64 (0 : Int)]) ++ List.drop ((0 + Int.toNat ((((Int.toNat i - Int.toNat (0 : Int)) + List.length (List.take (Int.toNat (((List.length s) : Nat) : Int) - Int.toNat j_) (List.drop (0 + Int.toNat j_) s))) : Nat) : Int)) + (Int.toNat (s.length : Int) - Int.toNat ((((Int.toNat i - Int.toNat (0 : Int)) + List.length (List.take (Int.toNat (((List.length s) : Nat) : Int) - Int.toNat j_) (List.drop (0 + Int.toNat j_) s))) : Nat) : Int))) (List.take (Int.toNat i - Int.toNat (0 : Int)) s ++ (List.take (Int.toNat (((List.length s) : Nat) : Int) - Int.toNat j_) (List.drop (0 + Int.toNat j_) s)) ++ List.drop ((Int.toNat i - Int.toNat (0 : Int)) + List.length (List.take (Int.toNat (((List.length s) : Nat) : Int) - Int.toNat j_) (List.drop (0 + Int.toNat j_) s))) s))) rfl rfl hh7) ?_
   refine V.keep 33 [6] [0] (E0 := [(6, .sref oq 5 0 (List.length (List.take ((Int.toNat i - Int.toNat (0 : Int)) + List.length (List.take (Int.toNat (((List.length s) : Nat) : Int) - Int.toNat j_) (List.drop (0 + Int.toNat j_) s))) (List.take (0 + Int.toNat ((((Int.toNat i - Int.toNat (0 : Int)) + List.length (List.take (Int.toNat (((List.length s) : Nat) : Int) - Int.toNat j_) (List.drop (0 + Int.toNat j_) s))) : Nat) : Int)) (List.take (Int.toNat i - Int.toNat (0 : Int)) s ++ (List.take (Int.toNat (((List.length s) : Nat) : Int) - Int.toNat j_) (List.drop (0 + Int.toNat j_) s)) ++ List.drop ((Int.toNat i - Int.toNat (0 : Int)) + List.length (List.take (Int.toNat (((List.length s) : Nat) : Int) - Int.toNat j_) (List.drop (0 + Int.toNat j_) s))) s) ++ List.replicate (Int.toNat (s.length : Int) - Int.toNat ((((Int.toNat i - Int.toNat (0 : Int)) + List.length (List.take (Int.toNat (((List.length s) : Nat) : Int) - Int.toNat j_) (List.drop (0 + Int.toNat j_) s))) : Nat) : Int)) (PV.agg [.int .i64 (0 : Int), .int .i64 (0 : Int), .int .i64 (0 : Int), .nils, .int .i64 (0 : Int)]) ++ List.drop ((0 + Int.toNat ((((Int.toNat i - Int.toNat (0 : Int)) + List.length (List.take (Int.toNat (((List.length s) : Nat) : Int) - Int.toNat j_) (List.drop (0 + Int.toNat j_) s))) : Nat) : Int)) + (Int.toNat (s.length : Int) - Int.toNat ((((Int.toNat i - Int.toNat (0 : Int)) + List.length (List.take (Int.toNat (((List.length s) : Nat) : Int) - Int.toNat j_) (List.drop (0 + Int.toNat j_) s))) : Nat) : Int))) (List.take (Int.toNat i - Int.toNat (0 : Int)) s ++ (List.take (Int.toNat (((List.length s) : Nat) : Int) - Int.toNat j_) (List.drop (0 + Int.toNat j_) s)) ++ List.drop ((Int.toNat i - Int.toNat (0 : Int)) + List.length (List.take (Int.toNat (((List.length s) : Nat) : Int) - Int.toNat j_) (List.drop (0 + Int.toNat j_) s))) s)))))]) (H0 := [(oq, ⟨5, List.map (fun t_ : PV => t_) (List.take ((Int.toNat i - Int.toNat (0 : Int)) + List.length (List.take (Int.toNat (((List.length s) : Nat) : Int) - Int.toNat j_) (List.drop (0 + Int.toNat j_) s))) (List.take (0 + Int.toNat ((((Int.toNat i - Int.toNat (0 : Int)) + List.length (List.take (Int.toNat (((List.length s) : Nat) : Int) - Int.toNat j_) (List.drop (0 + Int.toNat j_) s))) : Nat) : Int)) (List.take (Int.toNat i - Int.toNat (0 : Int)) s ++ (List.take (Int.toNat (((List.length s) : Nat) : Int) - Int.toNat j_) (List.drop (0 + Int.toNat j_) s)) ++ List.drop ((Int.toNat i - Int.toNat (0 : Int)) + List.length (List.take (Int.toNat (((List.length s) : Nat) : Int) - Int.toNat j_) (List.drop (0 + Int.toNat j_) s))) s) ++ List.replicate (Int.toNat (s.length : Int) - Int.toNat ((((Int.toNat i - Int.toNat (0 : Int)) + List.length (List.take (Int.toNat (((List.length s) : Nat) : Int) - Int.toNat j_) (List.drop (0 + Int.toNat j_) s))) : Nat) : Int)) (PV.agg [.int .i64 (0 : Int), .int .i64 (0 : Int), .int .i64 (0 : Int), .nils, .int .i64 (0 : Int)]) ++ List.drop ((0 + Int.toNat ((((Int.toNat i - Int.toNat (0 : Int)) + List.length (List.take (Int.toNat (((List.length s) : Nat) : Int) - Int.toNat j_) (List.drop (0 + Int.toNat j_) s))) : Nat) : Int)) + (Int.toNat (s.length : Int) - Int.toNat ((((Int.toNat i - Int.toNat (0 : Int)) + List.length (List.take (Int.toNat (((List.length s) : Nat) : Int) - Int.toNat j_) (List.drop (0 + Int.toNat j_) s))) : Nat) : Int))) (List.take (Int.toNat i - Int.toNat (0 : Int)) s ++ (List.take (Int.toNat (((List.length s) : Nat) : Int) - Int.toNat j_) (List.drop (0 + Int.toNat j_) s)) ++ List.drop ((Int.toNat i - Int.toNat (0 : Int)) + List.length (List.take (Int.toNat (((List.length s) : Nat) : Int) - Int.toNat j_) (List.drop (0 + Int.toNat j_) s))) s)))⟩)]) rfl (⟨_, _, rfl, rfl, rfl⟩) (⟨_, _, rfl, rfl, rfl⟩) rfl ?_
   refine V.ret ?_
   obtain rfl := oi hm0
   exact ⟨_, _, ⟨_, _, rfl, rfl, rfl⟩, List.Sublist.refl _, some oq, (fun e => by cases e), rfl, rfl⟩
theorem ok_slices_Delete_impl_Carton_impl_Carton {rn : Nat} {oq : Option Nat} {s : List PV} {i : Int} {j_ : Int} {r : List PV} (h : delM (PV.agg [.int .i64 (0 : Int), .int .i64 (0 : Int), .int .i64 (0 : Int), .nils, .int .i64 (0 : Int)]) s i j_ = some r) (hoq : oq = none → s = []) : Does Try.prog 80 [optS 5 oq (List.length s), .int .i64 i, .int .i64 j_] (optH 5 oq s) rn (fun x H => ∃ (ob0_ : Option Nat), (ob0_ = none → r = []) ∧ x = optS 5 ob0_ (List.length r) ∧ H = optH 5 ob0_ r) := by
 have q := okr_slices_Delete_impl_Carton_impl_Carton h hoq (rn := rn)
 simp only [List.map_id'] at q
 exact q
theorem ok_impl_MergeCartons {ρ0 rn : Nat} {list : List Carton} {a : Int} {b_ : Int} {r : List Carton × Bool} (h : M.impl_MergeCartons list a b_ = some r) : Does Try.prog 38 [.vl ρ0 5 (List.map (encCarton ρ0) list), .int .i64 a, .int .i64 b_] [] rn (fun x H => ∃ (ob0_ : Option Nat) (ts_ : List PV) (os_ : List (Nat × Obj')), (ob0_ = none → r.1 = []) ∧ (Deep 1 (fun c_ : Carton => List.map encInt c_.Files) ts_ os_ r.1) ∧ x = .tup [optS 5 ob0_ (List.length r.1), .bool r.2] ∧ H = (optH 5 ob0_ (deepC cellCarton ts_ r.1) ++ os_)) := by
 have hm0 := h; clear h; unfold M.impl_MergeCartons at hm0
 try dsimp only at hm0
 refine Does.intro (N := 78) Try.func38 rfl rfl rfl rfl ?_
 intro w0 S0
 refine V.seq (V.region (VO.cons rfl (V1.as ?_)))
 refine VO.cons rfl (V1.as ?_)
 refine VO.nil (V.seq ?_)
 replace hm0 := bindO hm0; rcases hm0 with ⟨y0, hh0, hm0⟩
 replace hm0 := bindO hm0; rcases hm0 with ⟨y1, hh1, hm0⟩
 refine V.region (VO.cons rfl (V1.mv ?_))
 refine VO.cons rfl (V1.mv ?_)
 refine VO.cons rfl (V1.call rfl rfl rfl cok_65 rfl (ok_impl_cartonAt hh0) rfl lt0 ?_)
 rintro _ _ ⟨rfl, rfl⟩
 refine VO.cons rfl (V1.mv ?_)
 refine VO.cons rfl (V1.mv ?_)
 refine VO.cons rfl (V1.call rfl rfl rfl cok_65 rfl (ok_impl_cartonAt hh1) rfl lt0 ?_)
 rintro _ _ ⟨rfl, rfl⟩
 refine VO.cons rfl (V1.as ?_)
 refine VO.cons rfl (V1.as ?_)
 refine VO.nil (V.keep 78 [0, 8, 9] [] (E0 := [(0, .vl ρ0 5 (List.map (encCarton ρ0) list)), (8, .int .i64 y0), (9, .int .i64 y1)]) (H0 := []) rfl (⟨_, _, rfl, rfl, _, _, rfl, rfl, _, _, rfl, rfl, rfl⟩) (rfl) rfl ?_)
 refine V.seq (V.seq ?_)
 replace hm0 := bindO hm0; rcases hm0 with ⟨y2, hh2, hm0⟩
 refine V.region (VO.cons rfl (V1.mv ?_))
 refine VO.cons rfl (V1.call rfl rfl rfl cok_45 rfl (ok_impl_AreCartons hh2) rfl lt0 ?_)
 rintro _ _ ⟨rfl, rfl⟩
 refine VO.cons rfl (V1.not rfl rfl rfl lt0 ?_)
 refine VO.cons rfl (V1.mv ?_)
 apply VO.or (n := 2) rfl rfl rfl rfl rfl rfl lt0 (.none rfl)
 ·
  intro hg0
  refine VO.step (.some rfl rfl rfl) (V1.mv ?_)
  refine VO.step (.some rfl rfl rfl) (V1.it ?_)
  exact VO.nil ⟨rfl, rfl, rfl, rfl, .inr ⟨rfl, .inr ⟨rfl, .inr ⟨rfl, .inl rfl⟩⟩⟩⟩
 refine VO.cons rfl (V1.mv ?_)
 apply VO.or (n := 2) rfl rfl rfl rfl rfl rfl lt0 (.none rfl)
 ·
  intro hg1
  refine VO.step (.some rfl rfl rfl) (V1.mv ?_)
  refine VO.step (.some rfl rfl rfl) (V1.it ?_)
  exact VO.nil ⟨rfl, rfl, rfl, rfl, .inr ⟨rfl, .inr ⟨rfl, .inr ⟨rfl, .inl rfl⟩⟩⟩⟩
 refine VO.cons rfl (V1.mv ?_)
 apply VO.or (n := 3) rfl rfl rfl rfl rfl rfl lt0 (.none rfl)
 ·
  intro hg2
  refine VO.step (.some rfl rfl rfl) (V1.mv ?_)
  refine VO.step (.some rfl rfl rfl) (V1.mv ?_)
  refine VO.step (.some rfl rfl rfl) (V1.it ?_)
  exact VO.nil ⟨rfl, rfl, rfl, rfl, .inr ⟨rfl, .inr ⟨rfl, .inr ⟨rfl, .inr ⟨rfl, .inl rfl⟩⟩⟩⟩⟩
 refine VO.nil (V.keep 78 [0, 8, 9, 32] [] (E0 := [(0, .vl ρ0 5 (List.map (encCarton ρ0) list)), (8, .int .i64 y0), (9, .int .i64 y1), (32, .bool ((((!y2) || (decide (y0 < (0 : Int)))) || (decide (y1 < (0 : Int)))) || (y0 == y1)))]) (H0 := []) rfl (⟨_, _, rfl, rfl, _, _, rfl, rfl, _, _, rfl, rfl, _, _, rfl, rfl, rfl⟩) (rfl) rfl ?_)
 refine V.cond rfl (fun hc0 => ?_) (fun hc0 => ?_)
 ·
  replace hm0 := cond_t hc0 hm0
  refine V.seq (V.region (VO.cons rfl (V1.as ?_)))
  refine VO.cons rfl (V1.as ?_)
  refine VO.nil (V.keep 78 [6, 7] [] (E0 := [(6, .nils), (7, .bool false)]) (H0 := []) rfl (⟨_, _, rfl, rfl, _, _, rfl, rfl, rfl⟩) (rfl) rfl ?_)
  refine V.ret ?_
  obtain rfl := oi hm0
  exact ⟨_, _, ⟨_, _, rfl, rfl, _, _, rfl, rfl, rfl⟩, List.Sublist.refl _, none, [], [], (fun _ => rfl), (Deep.ofNil rfl), rfl, rfl⟩
 ·
  replace hm0 := cond_f hc0 hm0
  refine V.skip ?_
  refine V.seq ?_
  replace hm0 := bindO hm0; rcases hm0 with ⟨y3, hh3, hm0⟩
  refine V.region (VO.cons rfl (V1.mv ?_))
  refine VO.cons rfl (V1.permK (V1.call rfl rfl rfl cok_66 rfl (ok_impl_copyCartons hh3) rfl lt0 ?_))
  rintro _ _ ⟨ob0, ts_105, os_105, hob0, hd_105, rfl, rfl⟩
  refine ⟨_, ?_, Keeps.perm (optH 5 ob0 (deepC cellCarton ts_105 y3) ++ (([] : List (Nat × Obj')) ++ os_105)) (permDeepO1 (o := optH 5 ob0 (deepC cellCarton ts_105 y3)) (os := os_105) (A := []))⟩
  refine VO.cons rfl (V1.as ?_)
  refine VO.nil ?_
  rcases ob0 with _ | ob0
  ·
   obtain ⟨rfl, rfl⟩ := Deep.nil (hob0 rfl) hd_105
   refine V.seq ?_
   replace hm0 := asrt_some hm0; rcases hm0 with ⟨hh4, hm0⟩
   exact (nilsNo (hob0 rfl) hh4).elim
  ·
   refine V.seq ?_
   replace hm0 := asrt_some hm0; rcases hm0 with ⟨hh4, hm0⟩
   replace hm0 := asrt_some hm0; rcases hm0 with ⟨hh5, hm0⟩
   replace hm0 := asrt_some hm0; rcases hm0 with ⟨hh6, hm0⟩
   obtain ⟨ob_153, os1_153, os2_153, hob_153, ht_153, hos_153, hp_153, hs_153⟩ := Deep.focusM (f := encInt) (g := (fun c_ : Carton => c_.Files)) (Int.toNat y0) hd_105 (by simpa using natLt hh4.1 hh4.2)
   refine V.weakenK (Keeps.holeBack (A := [(ob0, ⟨5, deepC cellCarton ts_105 y3⟩)]) (os1 := os1_153) (os2 := os2_153) (X := optH 1 ob_153 (List.map encInt ((y3.getD (Int.toNat y0) default).Files))) (appEq (A := [(ob0, ⟨5, deepC cellCarton ts_105 y3⟩)]) hos_153)) ?_
   obtain ⟨ob_154, hob_154, ht_154, hm_154⟩ := Deep.other (f := encInt) (g := (fun c_ : Carton => c_.Files)) (k := Int.toNat y1) rfl hp_153 hh6 (by simpa using natLt hh5.1 hh5.2)
   replace hm0 := asrt_some hm0; rcases hm0 with ⟨hh7, hm0⟩
   replace hm0 := asrt_some hm0; rcases hm0 with ⟨hh8, hm0⟩
   replace hm0 := asrt_some hm0; rcases hm0 with ⟨hh9, hm0⟩
   replace hm0 := asrt_some hm0; rcases hm0 with ⟨hh10, hm0⟩
   replace hm0 := bindO hm0; rcases hm0 with ⟨j0, hm1, hm0⟩
   refine V.cutT (D := (List Carton) × (List PV × (List (Nat × Obj')))) (fun ⟨out_, ⟨ts_170, os_170⟩⟩ => ⟨78, [(10, .sref ob0 5 0 (List.length out_)), (8, .int .i64 y0), (9, .int .i64 y1)], ([(ob0, ⟨5, deepC cellCarton ts_170 out_⟩)]) ++ os_170⟩) (fun ⟨out_, ⟨ts_170, os_170⟩⟩ => (out_ = j0) ∧ Deep 1 (fun c_ : Carton => List.map encInt c_.Files) ts_170 os_170 out_) ?_ ?_
   ·
    refine V.regionS [] 78 13 [⟨[(10, none)], false⟩, ⟨[(8, none)], false⟩, ⟨[(10, none)], false⟩, ⟨[(8, none)], false⟩, ⟨[(37, some 2), (38, some 3)], false⟩, ⟨[(39, some 4)], false⟩, ⟨[(40, some 5)], true⟩, ⟨[(10, none)], false⟩, ⟨[(9, none)], false⟩, ⟨[(42, some 7), (43, some 8)], false⟩, ⟨[(44, some 9)], false⟩, ⟨[(45, some 10)], true⟩, ⟨[(41, some 6), (46, some 11)], true⟩] [(8, none), (9, none), (10, none), (35, some 0), (36, some 1), (47, some 12)] 3 (⟨_, rfl, ⟨_, rfl, ⟨_, rfl, ⟨_, rfl, ⟨_, rfl, ⟨_, rfl, ⟨_, rfl, ⟨_, rfl, ⟨_, rfl, ⟨_, rfl, ⟨_, rfl, ⟨_, rfl, ⟨_, rfl, ⟨rfl, rfl⟩⟩⟩⟩⟩⟩⟩⟩⟩⟩⟩⟩⟩⟩) mixed_orders rfl (by decide +kernel) ?_
    refine WalkP.step (p := ?pv172) 0 rfl rfl rfl rfl rfl (⟨_, _, rfl, rfl, rfl⟩) ?hv172 ?rest172
    case hv172 =>
     intro E1 H1 hI1
     refine (V1.mv ?_)
     exact rfl
    refine WalkP.step (p := ?pv173) 1 rfl rfl rfl rfl rfl (⟨_, _, rfl, rfl, rfl⟩) ?hv173 ?rest173
    case hv173 =>
     intro E1 H1 hI1
     refine (V1.mv ?_)
     exact rfl
    refine WalkP.step (p := ?pv174) 2 rfl rfl rfl rfl rfl (⟨_, _, rfl, rfl, rfl⟩) ?hv174 ?rest174
    case hv174 =>
     intro E1 H1 hI1
     refine (V1.mv ?_)
     exact rfl
    refine WalkP.step (p := ?pv175) 3 rfl rfl rfl rfl rfl (⟨_, _, rfl, rfl, rfl⟩) ?hv175 ?rest175
    case hv175 =>
     intro E1 H1 hI1
     refine (V1.mv ?_)
     exact rfl
    refine WalkP.step (p := ?pv176) 4 rfl rfl rfl rfl rfl (⟨_, _, rfl, rfl, _, _, rfl, rfl, rfl⟩) ?hv176 ?rest176
    case hv176 =>
     intro E1 H1 hI1
     refine (V1.indexSr rfl rfl esz_39 rfl rfl hh7 lt0 ?_)
     exact rfl
    refine WalkP.step (p := ?pv177) 5 rfl rfl rfl rfl rfl (⟨_, _, rfl, rfl, rfl⟩) ?hv177 ?rest177
    case hv177 =>
     intro E1 H1 hI1
     refine (V1.fieldRef rfl rfl fo_67_3 rfl lt0 ?_)
     exact rfl
    refine WalkP.step (p := ?pv178) 7 rfl rfl rfl rfl rfl (⟨_, _, rfl, rfl, rfl⟩) ?hv178 ?rest178
    case hv178 =>
     intro E1 H1 hI1
     refine (V1.mv ?_)
     exact rfl
    refine WalkP.step (p := ?pv179) 8 rfl rfl rfl rfl rfl (⟨_, _, rfl, rfl, rfl⟩) ?hv179 ?rest179
    case hv179 =>
     intro E1 H1 hI1
     refine (V1.mv ?_)
     exact rfl
    refine WalkP.step (p := ?pv180) 9 rfl rfl rfl rfl rfl (⟨_, _, rfl, rfl, _, _, rfl, rfl, rfl⟩) ?hv180 ?rest180
    case hv180 =>
     intro E1 H1 hI1
     refine (V1.indexSr rfl rfl esz_39 rfl rfl hh8 lt0 ?_)
     exact rfl
    refine WalkP.step (p := ?pv181) 10 rfl rfl rfl rfl rfl (⟨_, _, rfl, rfl, rfl⟩) ?hv181 ?rest181
    case hv181 =>
     intro E1 H1 hI1
     refine (V1.fieldRef rfl rfl fo_67_3 rfl lt0 ?_)
     exact rfl
    refine WalkP.nil (NodeS.branch [6, 11] inNil rfl rfl rfl ⟨?_, ?_, trivial⟩)
    ·
     refine ⟨_, _, _, _, rfl, rfl, rfl, (⟨_, _, rfl, rfl, rfl⟩), fun E1 => ?_⟩
     refine (V1.loadKnown (inn := (fun c_ : Carton => List.map encInt c_.Files)) (cell := cellCarton) (ts := ts_105) (xs := y3) (k := 0) cokCarton rfl rfl tyk_36 rfl rfl (Deep.length hd_105) (by simpa using natLt hh7.1 hh7.2) ht_153 optS_cells lt0 ?_)
     refine ⟨_, _, rfl, ?_⟩
     refine WalkP.nil (NodeS.branch [11] inNil rfl rfl rfl ⟨?_, trivial⟩)
     ·
      refine ⟨_, _, _, _, rfl, rfl, rfl, (⟨_, _, rfl, rfl, rfl⟩), fun E1 => ?_⟩
      refine (V1.loadKnown (inn := (fun c_ : Carton => List.map encInt c_.Files)) (cell := cellCarton) (ts := ts_105) (xs := y3) (k := 0) cokCarton rfl rfl tyk_36 rfl rfl (Deep.length hd_105) (by simpa using natLt hh8.1 hh8.2) ht_154 optS_cells lt0 ?_)
      refine ⟨_, _, rfl, ?_⟩
      refine WalkP.nil (NodeS.branch [12] inNil rfl rfl rfl ⟨?_, trivial⟩)
      ·
       refine ⟨_, _, _, _, rfl, rfl, rfl, (⟨_, _, rfl, rfl, _, _, rfl, rfl, rfl⟩), fun E1 => ?_⟩
       refine (V1.permK (V1.appendOO (f := encInt) (l := (y3.getD (Int.toNat y0) default).Files) (m := (y3.getD (Int.toNat y1) default).Files) (([(ob0, ⟨5, deepC cellCarton ts_105 y3⟩)] : List (Nat × Obj')) ++ (os1_153 ++ os2_153)) hob_153 rfl rfl rfl rfl rfl esz_36 eby_36 zk_3 rfl rfl rfl rfl (SrcOf.optMem (f := encInt) (l := (y3.getD (Int.toNat y1) default).Files) hob_154 (fun p hp => memMid (A := [(ob0, ⟨5, deepC cellCarton ts_105 y3⟩)]) (T := (os1_153 ++ os2_153)) (X := optH 1 ob_153 (List.map encInt ((y3.getD (Int.toNat y0) default).Files))) (hm_154 p hp) rfl) isl_36) hh9 lt0 ?_))
       intro ob2 hob2
       refine ⟨_, ?_, Keeps.optBack (n := 1) (ob := ob2) (xs := List.map encInt (((y3.getD (Int.toNat y0) default).Files) ++ ((y3.getD (Int.toNat y1) default).Files))) (H1 := []) (H2 := (([(ob0, ⟨5, deepC cellCarton ts_105 y3⟩)] : List (Nat × Obj')) ++ (os1_153 ++ os2_153))) rfl⟩
       refine ⟨_, _, rfl, ?_⟩
       refine WalkP.nil (NodeS.fin inNil rfl rfl rfl (⟨_, _, rfl, rfl, _, _, rfl, rfl, _, _, rfl, rfl, _, _, rfl, rfl, _, _, rfl, rfl, _, _, rfl, rfl, rfl⟩) ?_)
       refine VO.cons rfl (V1.indexSr rfl rfl esz_39 rfl rfl hh10 lt0 ?_)
       refine VO.cons rfl (V1.fieldRef rfl rfl fo_67_3 rfl lt0 ?_)
       refine VO.cons rfl (V1.storeDeepIn (inn := (fun c_ : Carton => List.map encInt c_.Files)) (cell := cellCarton) (ts := ts_105) (xs := y3) (k := 0) cokCarton (⟨(y3.getD (Int.toNat y0) default).Id, (y3.getD (Int.toNat y0) default).Shelf, (y3.getD (Int.toNat y0) default).Room, (((y3.getD (Int.toNat y0) default).Files) ++ ((y3.getD (Int.toNat y1) default).Files)), (y3.getD (Int.toNat y0) default).Thick⟩ : Carton) rfl rfl tyk_36 rfl rfl (Deep.length hd_105) (by rw [ht_153]; cases ob_153 <;> exact ⟨rfl, rfl⟩) (by simpa using natLt hh10.1 hh10.2) rfl (by cases ob2 <;> rfl) (by cases ob2 <;> rfl) rfl rfl ?_)
       refine VO.weakenK (Keeps.fillDeep (A := [(ob0, ⟨5, deepC cellCarton (List.set ts_105 (Int.toNat y0) (optS 1 ob2 (List.length (((y3.getD (Int.toNat y0) default).Files) ++ ((y3.getD (Int.toNat y1) default).Files))))) (y3.set (Int.toNat y0) (⟨(y3.getD (Int.toNat y0) default).Id, (y3.getD (Int.toNat y0) default).Shelf, (y3.getD (Int.toNat y0) default).Room, (((y3.getD (Int.toNat y0) default).Files) ++ ((y3.getD (Int.toNat y1) default).Files)), (y3.getD (Int.toNat y0) default).Thick⟩ : Carton))⟩)]) (os1 := os1_153) (os2 := os2_153) (X := optH 1 ob2 (List.map encInt (((y3.getD (Int.toNat y0) default).Files) ++ ((y3.getD (Int.toNat y1) default).Files)))) rfl) ?_
       have hd_153n := hp_153 (optS 1 ob2 (List.length (((y3.getD (Int.toNat y0) default).Files) ++ ((y3.getD (Int.toNat y1) default).Files)))) (optH 1 ob2 (List.map encInt (((y3.getD (Int.toNat y0) default).Files) ++ ((y3.getD (Int.toNat y1) default).Files)))) (⟨(y3.getD (Int.toNat y0) default).Id, (y3.getD (Int.toNat y0) default).Shelf, (y3.getD (Int.toNat y0) default).Room, (((y3.getD (Int.toNat y0) default).Files) ++ ((y3.getD (Int.toNat y1) default).Files)), (y3.getD (Int.toNat y0) default).Thick⟩ : Carton) (Deep1.opt (by simp) (fun e_ => by rw [hob2 e_]; rfl))
       refine VO.weakenK (Keeps.say 10 (y := .sref ob0 5 0 (List.length (y3.set (Int.toNat y0) (⟨(y3.getD (Int.toNat y0) default).Id, (y3.getD (Int.toNat y0) default).Shelf, (y3.getD (Int.toNat y0) default).Room, (((y3.getD (Int.toNat y0) default).Files) ++ ((y3.getD (Int.toNat y1) default).Files)), (y3.getD (Int.toNat y0) default).Thick⟩ : Carton)))) rfl (by simp [optS])) ?_
       refine VO.nil ?_
       exact ⟨((y3.set (Int.toNat y0) (⟨(y3.getD (Int.toNat y0) default).Id, (y3.getD (Int.toNat y0) default).Shelf, (y3.getD (Int.toNat y0) default).Room, (((y3.getD (Int.toNat y0) default).Files) ++ ((y3.getD (Int.toNat y1) default).Files)), (y3.getD (Int.toNat y0) default).Thick⟩ : Carton)), ((List.set ts_105 (Int.toNat y0) (optS 1 ob2 (List.length (((y3.getD (Int.toNat y0) default).Files) ++ ((y3.getD (Int.toNat y1) default).Files))))), (os1_153 ++ (optH 1 ob2 (List.map encInt (((y3.getD (Int.toNat y0) default).Files) ++ ((y3.getD (Int.toNat y1) default).Files))) ++ os2_153)))), ⟨oi hm1, hd_153n⟩, Keeps.mkT (A := [(ob0, ⟨5, deepC cellCarton (List.set ts_105 (Int.toNat y0) (optS 1 ob2 (List.length (((y3.getD (Int.toNat y0) default).Files) ++ ((y3.getD (Int.toNat y1) default).Files))))) (y3.set (Int.toNat y0) (⟨(y3.getD (Int.toNat y0) default).Id, (y3.getD (Int.toNat y0) default).Shelf, (y3.getD (Int.toNat y0) default).Room, (((y3.getD (Int.toNat y0) default).Files) ++ ((y3.getD (Int.toNat y1) default).Files)), (y3.getD (Int.toNat y0) default).Thick⟩ : Carton))⟩)]) (T := (os1_153 ++ (optH 1 ob2 (List.map encInt (((y3.getD (Int.toNat y0) default).Files) ++ ((y3.getD (Int.toNat y1) default).Files))) ++ os2_153))) (T' := (os1_153 ++ (optH 1 ob2 (List.map encInt (((y3.getD (Int.toNat y0) default).Files) ++ ((y3.getD (Int.toNat y1) default).Files))) ++ os2_153))) (H := [(ob0, ⟨5, deepC cellCarton (List.set ts_105 (Int.toNat y0) (optS 1 ob2 (List.length (((y3.getD (Int.toNat y0) default).Files) ++ ((y3.getD (Int.toNat y1) default).Files))))) (y3.set (Int.toNat y0) (⟨(y3.getD (Int.toNat y0) default).Id, (y3.getD (Int.toNat y0) default).Shelf, (y3.getD (Int.toNat y0) default).Room, (((y3.getD (Int.toNat y0) default).Files) ++ ((y3.getD (Int.toNat y1) default).Files)), (y3.getD (Int.toNat y0) default).Thick⟩ : Carton))⟩)]) (ks := [0]) rfl (by exact ⟨(someSref (by simp)), rfl, rfl, trivial⟩) rfl (by exact (⟨_, _, rfl, rfl, rfl⟩)) rfl (List.Sublist.refl _)⟩
    ·
     refine ⟨_, _, _, _, rfl, rfl, rfl, (⟨_, _, rfl, rfl, rfl⟩), fun E1 => ?_⟩
     refine (V1.loadKnown (inn := (fun c_ : Carton => List.map encInt c_.Files)) (cell := cellCarton) (ts := ts_105) (xs := y3) (k := 0) cokCarton rfl rfl tyk_36 rfl rfl (Deep.length hd_105) (by simpa using natLt hh8.1 hh8.2) ht_154 optS_cells lt0 ?_)
     refine ⟨_, _, rfl, ?_⟩
     refine WalkP.nil (NodeS.branch [6] inNil rfl rfl rfl ⟨?_, trivial⟩)
     ·
      refine ⟨_, _, _, _, rfl, rfl, rfl, (⟨_, _, rfl, rfl, rfl⟩), fun E1 => ?_⟩
      refine (V1.loadKnown (inn := (fun c_ : Carton => List.map encInt c_.Files)) (cell := cellCarton) (ts := ts_105) (xs := y3) (k := 0) cokCarton rfl rfl tyk_36 rfl rfl (Deep.length hd_105) (by simpa using natLt hh7.1 hh7.2) ht_153 optS_cells lt0 ?_)
      refine ⟨_, _, rfl, ?_⟩
      refine WalkP.nil (NodeS.branch [12] inNil rfl rfl rfl ⟨?_, trivial⟩)
      ·
       refine ⟨_, _, _, _, rfl, rfl, rfl, (⟨_, _, rfl, rfl, _, _, rfl, rfl, rfl⟩), fun E1 => ?_⟩
       refine (V1.permK (V1.appendOO (f := encInt) (l := (y3.getD (Int.toNat y0) default).Files) (m := (y3.getD (Int.toNat y1) default).Files) (([(ob0, ⟨5, deepC cellCarton ts_105 y3⟩)] : List (Nat × Obj')) ++ (os1_153 ++ os2_153)) hob_153 rfl rfl rfl rfl rfl esz_36 eby_36 zk_3 rfl rfl rfl rfl (SrcOf.optMem (f := encInt) (l := (y3.getD (Int.toNat y1) default).Files) hob_154 (fun p hp => memMid (A := [(ob0, ⟨5, deepC cellCarton ts_105 y3⟩)]) (T := (os1_153 ++ os2_153)) (X := optH 1 ob_153 (List.map encInt ((y3.getD (Int.toNat y0) default).Files))) (hm_154 p hp) rfl) isl_36) hh9 lt0 ?_))
       intro ob3 hob3
       refine ⟨_, ?_, Keeps.optBack (n := 1) (ob := ob3) (xs := List.map encInt (((y3.getD (Int.toNat y0) default).Files) ++ ((y3.getD (Int.toNat y1) default).Files))) (H1 := []) (H2 := (([(ob0, ⟨5, deepC cellCarton ts_105 y3⟩)] : List (Nat × Obj')) ++ (os1_153 ++ os2_153))) rfl⟩
       refine ⟨_, _, rfl, ?_⟩
       refine WalkP.nil (NodeS.fin inNil rfl rfl rfl (⟨_, _, rfl, rfl, _, _, rfl, rfl, _, _, rfl, rfl, _, _, rfl, rfl, _, _, rfl, rfl, _, _, rfl, rfl, rfl⟩) ?_)
       refine VO.cons rfl (V1.indexSr rfl rfl esz_39 rfl rfl hh10 lt0 ?_)
       refine VO.cons rfl (V1.fieldRef rfl rfl fo_67_3 rfl lt0 ?_)
       refine VO.cons rfl (V1.storeDeepIn (inn := (fun c_ : Carton => List.map encInt c_.Files)) (cell := cellCarton) (ts := ts_105) (xs := y3) (k := 0) cokCarton (⟨(y3.getD (Int.toNat y0) default).Id, (y3.getD (Int.toNat y0) default).Shelf, (y3.getD (Int.toNat y0) default).Room, (((y3.getD (Int.toNat y0) default).Files) ++ ((y3.getD (Int.toNat y1) default).Files)), (y3.getD (Int.toNat y0) default).Thick⟩ : Carton) rfl rfl tyk_36 rfl rfl (Deep.length hd_105) (by rw [ht_153]; cases ob_153 <;> exact ⟨rfl, rfl⟩) (by simpa using natLt hh10.1 hh10.2) rfl (by cases ob3 <;> rfl) (by cases ob3 <;> rfl) rfl rfl ?_)
       refine VO.weakenK (Keeps.fillDeep (A := [(ob0, ⟨5, deepC cellCarton (List.set ts_105 (Int.toNat y0) (optS 1 ob3 (List.length (((y3.getD (Int.toNat y0) default).Files) ++ ((y3.getD (Int.toNat y1) default).Files))))) (y3.set (Int.toNat y0) (⟨(y3.getD (Int.toNat y0) default).Id, (y3.getD (Int.toNat y0) default).Shelf, (y3.getD (Int.toNat y0) default).Room, (((y3.getD (Int.toNat y0) default).Files) ++ ((y3.getD (Int.toNat y1) default).Files)), (y3.getD (Int.toNat y0) default).Thick⟩ : Carton))⟩)]) (os1 := os1_153) (os2 := os2_153) (X := optH 1 ob3 (List.map encInt (((y3.getD (Int.toNat y0) default).Files) ++ ((y3.getD (Int.toNat y1) default).Files)))) rfl) ?_
       have hd_153n := hp_153 (optS 1 ob3 (List.length (((y3.getD (Int.toNat y0) default).Files) ++ ((y3.getD (Int.toNat y1) default).Files)))) (optH 1 ob3 (List.map encInt (((y3.getD (Int.toNat y0) default).Files) ++ ((y3.getD (Int.toNat y1) default).Files)))) (⟨(y3.getD (Int.toNat y0) default).Id, (y3.getD (Int.toNat y0) default).Shelf, (y3.getD (Int.toNat y0) default).Room, (((y3.getD (Int.toNat y0) default).Files) ++ ((y3.getD (Int.toNat y1) default).Files)), (y3.getD (Int.toNat y0) default).Thick⟩ : Carton) (Deep1.opt (by simp) (fun e_ => by rw [hob3 e_]; rfl))
       refine VO.weakenK (Keeps.say 10 (y := .sref ob0 5 0 (List.length (y3.set (Int.toNat y0) (⟨(y3.getD (Int.toNat y0) default).Id, (y3.getD (Int.toNat y0) default).Shelf, (y3.getD (Int.toNat y0) default).Room, (((y3.getD (Int.toNat y0) default).Files) ++ ((y3.getD (Int.toNat y1) default).Files)), (y3.getD (Int.toNat y0) default).Thick⟩ : Carton)))) rfl (by simp [optS])) ?_
       refine VO.nil ?_
       exact ⟨((y3.set (Int.toNat y0) (⟨(y3.getD (Int.toNat y0) default).Id, (y3.getD (Int.toNat y0) default).Shelf, (y3.getD (Int.toNat y0) default).Room, (((y3.getD (Int.toNat y0) default).Files) ++ ((y3.getD (Int.toNat y1) default).Files)), (y3.getD (Int.toNat y0) default).Thick⟩ : Carton)), ((List.set ts_105 (Int.toNat y0) (optS 1 ob3 (List.length (((y3.getD (Int.toNat y0) default).Files) ++ ((y3.getD (Int.toNat y1) default).Files))))), (os1_153 ++ (optH 1 ob3 (List.map encInt (((y3.getD (Int.toNat y0) default).Files) ++ ((y3.getD (Int.toNat y1) default).Files))) ++ os2_153)))), ⟨oi hm1, hd_153n⟩, Keeps.mkT (A := [(ob0, ⟨5, deepC cellCarton (List.set ts_105 (Int.toNat y0) (optS 1 ob3 (List.length (((y3.getD (Int.toNat y0) default).Files) ++ ((y3.getD (Int.toNat y1) default).Files))))) (y3.set (Int.toNat y0) (⟨(y3.getD (Int.toNat y0) default).Id, (y3.getD (Int.toNat y0) default).Shelf, (y3.getD (Int.toNat y0) default).Room, (((y3.getD (Int.toNat y0) default).Files) ++ ((y3.getD (Int.toNat y1) default).Files)), (y3.getD (Int.toNat y0) default).Thick⟩ : Carton))⟩)]) (T := (os1_153 ++ (optH 1 ob3 (List.map encInt (((y3.getD (Int.toNat y0) default).Files) ++ ((y3.getD (Int.toNat y1) default).Files))) ++ os2_153))) (T' := (os1_153 ++ (optH 1 ob3 (List.map encInt (((y3.getD (Int.toNat y0) default).Files) ++ ((y3.getD (Int.toNat y1) default).Files))) ++ os2_153))) (H := [(ob0, ⟨5, deepC cellCarton (List.set ts_105 (Int.toNat y0) (optS 1 ob3 (List.length (((y3.getD (Int.toNat y0) default).Files) ++ ((y3.getD (Int.toNat y1) default).Files))))) (y3.set (Int.toNat y0) (⟨(y3.getD (Int.toNat y0) default).Id, (y3.getD (Int.toNat y0) default).Shelf, (y3.getD (Int.toNat y0) default).Room, (((y3.getD (Int.toNat y0) default).Files) ++ ((y3.getD (Int.toNat y1) default).Files)), (y3.getD (Int.toNat y0) default).Thick⟩ : Carton))⟩)]) (ks := [0]) rfl (by exact ⟨(someSref (by simp)), rfl, rfl, trivial⟩) rfl (by exact (⟨_, _, rfl, rfl, rfl⟩)) rfl (List.Sublist.refl _)⟩
   ·
    rintro ⟨out_, ⟨ts_170, os_170⟩⟩ ⟨rfl, hd_170⟩
    try dsimp only at hm0
    refine V.seq ?_
    replace hm0 := asrt_some hm0; rcases hm0 with ⟨hh11, hm0⟩
    replace hm0 := bindO hm0; rcases hm0 with ⟨y4, hh12, hm0⟩
    replace hm0 := asrt_some hm0; rcases hm0 with ⟨hh13, hm0⟩
    refine V.region (VO.cons rfl (V1.mv ?_))
    refine VO.cons rfl (V1.mv ?_)
    refine VO.cons rfl (V1.indexSr rfl rfl esz_39 rfl rfl hh11 lt0 ?_)
    refine VO.cons rfl (V1.fieldRef rfl rfl fo_67_3 rfl lt0 ?_)
    refine VO.cons rfl (V1.loadDeepIn (inn := (fun c_ : Carton => List.map encInt c_.Files)) (cell := cellCarton) (ts := ts_170) (xs := out_) (k := 0) cokCarton rfl rfl tyk_36 rfl rfl hd_170 (by simpa using natLt hh11.1 hh11.2) lt0 ?_)
    obtain ⟨ob_183, os1_183, os2_183, hob_183, ht_183, hos_183, hp_183, hs_183⟩ := Deep.focusM (f := encInt) (g := (fun c_ : Carton => c_.Files)) (Int.toNat y0) hd_170 (by simpa using natLt hh11.1 hh11.2)
    refine VO.weakenK (Keeps.say 54 (y := optS 1 ob_183 (List.length ((out_.getD (Int.toNat y0) default).Files))) rfl ht_183) ?_
    refine VO.cons rfl (V1.callD (A := [(ob0, ⟨5, deepC cellCarton ts_170 out_⟩)]) (os1 := os1_183) (os2 := os2_183) (Hc := optH 1 ob_183 (List.map encInt ((out_.getD (Int.toNat y0) default).Files))) rfl rfl rfl cok_79 rfl (appEq (A := [(ob0, ⟨5, deepC cellCarton ts_170 out_⟩)]) hos_183) (rn + 1) [] [optS 1 ob_183 (List.length ((out_.getD (Int.toNat y0) default).Files))] ⟨_, _, rfl, .same _, rfl⟩ bwNil (ok_slices_Sort_int_int hh12 (oq := ob_183) hob_183) rfl (.inl rfl) lt0 ?_)
    rintro _ _ ⟨rfl, rfl⟩
    have hd_183 := hs_183 (⟨(out_.getD (Int.toNat y0) default).Id, (out_.getD (Int.toNat y0) default).Shelf, (out_.getD (Int.toNat y0) default).Room, y4, (out_.getD (Int.toNat y0) default).Thick⟩ : Carton) hh13
    refine VO.weakenK (Keeps.sayObj 0 (ys := deepC cellCarton ts_170 (out_.set (Int.toNat y0) (⟨(out_.getD (Int.toNat y0) default).Id, (out_.getD (Int.toNat y0) default).Shelf, (out_.getD (Int.toNat y0) default).Room, y4, (out_.getD (Int.toNat y0) default).Thick⟩ : Carton))) rfl (deepC_same (Deep.length hd_170) (fun _ => rfl))) ?_
    refine VO.weakenK (Keeps.say 10 (y := .sref ob0 5 0 (List.length (out_.set (Int.toNat y0) (⟨(out_.getD (Int.toNat y0) default).Id, (out_.getD (Int.toNat y0) default).Shelf, (out_.getD (Int.toNat y0) default).Room, y4, (out_.getD (Int.toNat y0) default).Thick⟩ : Carton)))) rfl (by simp [optS])) ?_
    refine VO.nil (V.seq ?_)
    replace hm0 := asrt_some hm0; rcases hm0 with ⟨hh14, hm0⟩
    replace hm0 := asrt_some hm0; rcases hm0 with ⟨hh15, hm0⟩
    replace hm0 := asrt_some hm0; rcases hm0 with ⟨hh16, hm0⟩
    refine V.regionM 78 10 [⟨[(10, none)], [], none⟩, ⟨[(8, none)], [], none⟩, ⟨[(56, some 1), (57, some 0)], [], none⟩, ⟨[(58, some 0)], [], none⟩, ⟨[(59, some 0)], [], none⟩, ⟨[(10, none)], [], none⟩, ⟨[(9, none)], [], none⟩, ⟨[(61, some 1), (62, some 0)], [], none⟩, ⟨[(63, some 0)], [], none⟩, ⟨[(64, some 0)], [], none⟩] [(9, none), (10, none), (56, some 9), (57, some 8), (60, some 5), (65, some 0)] (⟨_, rfl, ⟨_, rfl, ⟨_, rfl, ⟨_, rfl, ⟨_, rfl, ⟨_, rfl, ⟨_, rfl, ⟨_, rfl, ⟨_, rfl, ⟨_, rfl, ⟨rfl, rfl⟩⟩⟩⟩⟩⟩⟩⟩⟩⟩⟩) mixed_orders rfl (by decide +kernel) (fun hck7 => ?_)
    refine VP.step (p := ?pv187) rfl rfl rfl (⟨_, _, rfl, rfl, rfl⟩) ?hv187 ?rest187 hck7
    case hv187 =>
     intro E1
     refine (V1.mv ?_)
     exact rfl
    refine VP.step (p := ?pv188) rfl rfl rfl (⟨_, _, rfl, rfl, rfl⟩) ?hv188 ?rest188 hck7
    case hv188 =>
     intro E1
     refine (V1.mv ?_)
     exact rfl
    refine VP.step (p := ?pv189) rfl rfl rfl (⟨_, _, rfl, rfl, _, _, rfl, rfl, rfl⟩) ?hv189 ?rest189 hck7
    case hv189 =>
     intro E1
     refine (V1.indexSr rfl rfl esz_39 rfl rfl hh14 lt0 ?_)
     exact rfl
    refine VP.step (p := ?pv190) rfl rfl rfl (⟨_, _, rfl, rfl, rfl⟩) ?hv190 ?rest190 hck7
    case hv190 =>
     intro E1
     refine (V1.fieldRef rfl rfl fo_67_4 rfl lt0 ?_)
     exact rfl
    refine VP.step (p := ?pv191) rfl rfl rfl (⟨_, _, rfl, rfl, rfl⟩) ?hv191 ?rest191 hck7
    case hv191 =>
     intro E1
     refine (V1.loadDeep (inn := (fun c_ : Carton => List.map encInt c_.Files)) (cell := cellCarton) (ts := ts_170) (xs := (out_.set (Int.toNat y0) (⟨(out_.getD (Int.toNat y0) default).Id, (out_.getD (Int.toNat y0) default).Shelf, (out_.getD (Int.toNat y0) default).Room, y4, (out_.getD (Int.toNat y0) default).Thick⟩ : Carton))) (k := 0) rfl rfl tyk_3 rfl rfl hd_183 (by simpa using natLt hh14.1 hh14.2) rfl lt0 ?_)
     exact rfl
    refine VP.step (p := ?pv192) rfl rfl rfl (⟨_, _, rfl, rfl, rfl⟩) ?hv192 ?rest192 hck7
    case hv192 =>
     intro E1
     refine (V1.mv ?_)
     exact rfl
    refine VP.step (p := ?pv193) rfl rfl rfl (⟨_, _, rfl, rfl, rfl⟩) ?hv193 ?rest193 hck7
    case hv193 =>
     intro E1
     refine (V1.mv ?_)
     exact rfl
    refine VP.step (p := ?pv194) rfl rfl rfl (⟨_, _, rfl, rfl, _, _, rfl, rfl, rfl⟩) ?hv194 ?rest194 hck7
    case hv194 =>
     intro E1
     refine (V1.indexSr rfl rfl esz_39 rfl rfl hh15 lt0 ?_)
     exact rfl
    refine VP.step (p := ?pv195) rfl rfl rfl (⟨_, _, rfl, rfl, rfl⟩) ?hv195 ?rest195 hck7
    case hv195 =>
     intro E1
     refine (V1.fieldRef rfl rfl fo_67_4 rfl lt0 ?_)
     exact rfl
    refine VP.step (p := ?pv196) rfl rfl rfl (⟨_, _, rfl, rfl, rfl⟩) ?hv196 ?rest196 hck7
    case hv196 =>
     intro E1
     refine (V1.loadDeep (inn := (fun c_ : Carton => List.map encInt c_.Files)) (cell := cellCarton) (ts := ts_170) (xs := (out_.set (Int.toNat y0) (⟨(out_.getD (Int.toNat y0) default).Id, (out_.getD (Int.toNat y0) default).Shelf, (out_.getD (Int.toNat y0) default).Room, y4, (out_.getD (Int.toNat y0) default).Thick⟩ : Carton))) (k := 0) rfl rfl tyk_3 rfl rfl hd_183 (by simpa using natLt hh15.1 hh15.2) rfl lt0 ?_)
     exact rfl
    refine VP.fin rfl (⟨_, _, rfl, rfl, _, _, rfl, rfl, _, _, rfl, rfl, _, _, rfl, rfl, _, _, rfl, rfl, _, _, rfl, rfl, rfl⟩) ?_
    refine VO.cons rfl (V1.it ?_)
    refine VO.cons rfl (V1.indexSr rfl rfl esz_39 rfl rfl hh16 lt0 ?_)
    refine VO.cons rfl (V1.fieldRef rfl rfl fo_67_4 rfl lt0 ?_)
    refine VO.cons rfl (V1.storeDeepCell (inn := (fun c_ : Carton => List.map encInt c_.Files)) (cell := cellCarton) (ts := ts_170) (xs := (out_.set (Int.toNat y0) (⟨(out_.getD (Int.toNat y0) default).Id, (out_.getD (Int.toNat y0) default).Shelf, (out_.getD (Int.toNat y0) default).Room, y4, (out_.getD (Int.toNat y0) default).Thick⟩ : Carton))) (k := 0) cokCarton (⟨((out_.set (Int.toNat y0) (⟨(out_.getD (Int.toNat y0) default).Id, (out_.getD (Int.toNat y0) default).Shelf, (out_.getD (Int.toNat y0) default).Room, y4, (out_.getD (Int.toNat y0) default).Thick⟩ : Carton)).getD (Int.toNat y0) default).Id, ((out_.set (Int.toNat y0) (⟨(out_.getD (Int.toNat y0) default).Id, (out_.getD (Int.toNat y0) default).Shelf, (out_.getD (Int.toNat y0) default).Room, y4, (out_.getD (Int.toNat y0) default).Thick⟩ : Carton)).getD (Int.toNat y0) default).Shelf, ((out_.set (Int.toNat y0) (⟨(out_.getD (Int.toNat y0) default).Id, (out_.getD (Int.toNat y0) default).Shelf, (out_.getD (Int.toNat y0) default).Room, y4, (out_.getD (Int.toNat y0) default).Thick⟩ : Carton)).getD (Int.toNat y0) default).Room, ((out_.set (Int.toNat y0) (⟨(out_.getD (Int.toNat y0) default).Id, (out_.getD (Int.toNat y0) default).Shelf, (out_.getD (Int.toNat y0) default).Room, y4, (out_.getD (Int.toNat y0) default).Thick⟩ : Carton)).getD (Int.toNat y0) default).Files, (IntKind.i64.wrap ((((out_.set (Int.toNat y0) (⟨(out_.getD (Int.toNat y0) default).Id, (out_.getD (Int.toNat y0) default).Shelf, (out_.getD (Int.toNat y0) default).Room, y4, (out_.getD (Int.toNat y0) default).Thick⟩ : Carton)).getD (Int.toNat y0) default).Thick) + (((out_.set (Int.toNat y0) (⟨(out_.getD (Int.toNat y0) default).Id, (out_.getD (Int.toNat y0) default).Shelf, (out_.getD (Int.toNat y0) default).Room, y4, (out_.getD (Int.toNat y0) default).Thick⟩ : Carton)).getD (Int.toNat y1) default).Thick)))⟩ : Carton) rfl rfl tyk_3 rfl rfl hd_183 (by simpa using natLt hh16.1 hh16.2) rfl rfl rfl rfl (fun _ => rfl) ?_)
    have hd_196 := Deep.setSame (i := (Int.toNat y0)) (⟨((out_.set (Int.toNat y0) (⟨(out_.getD (Int.toNat y0) default).Id, (out_.getD (Int.toNat y0) default).Shelf, (out_.getD (Int.toNat y0) default).Room, y4, (out_.getD (Int.toNat y0) default).Thick⟩ : Carton)).getD (Int.toNat y0) default).Id, ((out_.set (Int.toNat y0) (⟨(out_.getD (Int.toNat y0) default).Id, (out_.getD (Int.toNat y0) default).Shelf, (out_.getD (Int.toNat y0) default).Room, y4, (out_.getD (Int.toNat y0) default).Thick⟩ : Carton)).getD (Int.toNat y0) default).Shelf, ((out_.set (Int.toNat y0) (⟨(out_.getD (Int.toNat y0) default).Id, (out_.getD (Int.toNat y0) default).Shelf, (out_.getD (Int.toNat y0) default).Room, y4, (out_.getD (Int.toNat y0) default).Thick⟩ : Carton)).getD (Int.toNat y0) default).Room, ((out_.set (Int.toNat y0) (⟨(out_.getD (Int.toNat y0) default).Id, (out_.getD (Int.toNat y0) default).Shelf, (out_.getD (Int.toNat y0) default).Room, y4, (out_.getD (Int.toNat y0) default).Thick⟩ : Carton)).getD (Int.toNat y0) default).Files, (IntKind.i64.wrap ((((out_.set (Int.toNat y0) (⟨(out_.getD (Int.toNat y0) default).Id, (out_.getD (Int.toNat y0) default).Shelf, (out_.getD (Int.toNat y0) default).Room, y4, (out_.getD (Int.toNat y0) default).Thick⟩ : Carton)).getD (Int.toNat y0) default).Thick) + (((out_.set (Int.toNat y0) (⟨(out_.getD (Int.toNat y0) default).Id, (out_.getD (Int.toNat y0) default).Shelf, (out_.getD (Int.toNat y0) default).Room, y4, (out_.getD (Int.toNat y0) default).Thick⟩ : Carton)).getD (Int.toNat y1) default).Thick)))⟩ : Carton) rfl hd_183
    refine VO.weakenK (Keeps.say 10 (y := .sref ob0 5 0 (List.length ((out_.set (Int.toNat y0) (⟨(out_.getD (Int.toNat y0) default).Id, (out_.getD (Int.toNat y0) default).Shelf, (out_.getD (Int.toNat y0) default).Room, y4, (out_.getD (Int.toNat y0) default).Thick⟩ : Carton)).set (Int.toNat y0) (⟨((out_.set (Int.toNat y0) (⟨(out_.getD (Int.toNat y0) default).Id, (out_.getD (Int.toNat y0) default).Shelf, (out_.getD (Int.toNat y0) default).Room, y4, (out_.getD (Int.toNat y0) default).Thick⟩ : Carton)).getD (Int.toNat y0) default).Id, ((out_.set (Int.toNat y0) (⟨(out_.getD (Int.toNat y0) default).Id, (out_.getD (Int.toNat y0) default).Shelf, (out_.getD (Int.toNat y0) default).Room, y4, (out_.getD (Int.toNat y0) default).Thick⟩ : Carton)).getD (Int.toNat y0) default).Shelf, ((out_.set (Int.toNat y0) (⟨(out_.getD (Int.toNat y0) default).Id, (out_.getD (Int.toNat y0) default).Shelf, (out_.getD (Int.toNat y0) default).Room, y4, (out_.getD (Int.toNat y0) default).Thick⟩ : Carton)).getD (Int.toNat y0) default).Room, ((out_.set (Int.toNat y0) (⟨(out_.getD (Int.toNat y0) default).Id, (out_.getD (Int.toNat y0) default).Shelf, (out_.getD (Int.toNat y0) default).Room, y4, (out_.getD (Int.toNat y0) default).Thick⟩ : Carton)).getD (Int.toNat y0) default).Files, (IntKind.i64.wrap ((((out_.set (Int.toNat y0) (⟨(out_.getD (Int.toNat y0) default).Id, (out_.getD (Int.toNat y0) default).Shelf, (out_.getD (Int.toNat y0) default).Room, y4, (out_.getD (Int.toNat y0) default).Thick⟩ : Carton)).getD (Int.toNat y0) default).Thick) + (((out_.set (Int.toNat y0) (⟨(out_.getD (Int.toNat y0) default).Id, (out_.getD (Int.toNat y0) default).Shelf, (out_.getD (Int.toNat y0) default).Room, y4, (out_.getD (Int.toNat y0) default).Thick⟩ : Carton)).getD (Int.toNat y1) default).Thick)))⟩ : Carton)))) rfl (by simp [optS])) ?_
    refine VO.nil (V.keepT 78 [9, 10] [0] (E0 := [(9, .int .i64 y1), (10, .sref ob0 5 0 (List.length ((out_.set (Int.toNat y0) (⟨(out_.getD (Int.toNat y0) default).Id, (out_.getD (Int.toNat y0) default).Shelf, (out_.getD (Int.toNat y0) default).Room, y4, (out_.getD (Int.toNat y0) default).Thick⟩ : Carton)).set (Int.toNat y0) (⟨((out_.set (Int.toNat y0) (⟨(out_.getD (Int.toNat y0) default).Id, (out_.getD (Int.toNat y0) default).Shelf, (out_.getD (Int.toNat y0) default).Room, y4, (out_.getD (Int.toNat y0) default).Thick⟩ : Carton)).getD (Int.toNat y0) default).Id, ((out_.set (Int.toNat y0) (⟨(out_.getD (Int.toNat y0) default).Id, (out_.getD (Int.toNat y0) default).Shelf, (out_.getD (Int.toNat y0) default).Room, y4, (out_.getD (Int.toNat y0) default).Thick⟩ : Carton)).getD (Int.toNat y0) default).Shelf, ((out_.set (Int.toNat y0) (⟨(out_.getD (Int.toNat y0) default).Id, (out_.getD (Int.toNat y0) default).Shelf, (out_.getD (Int.toNat y0) default).Room, y4, (out_.getD (Int.toNat y0) default).Thick⟩ : Carton)).getD (Int.toNat y0) default).Room, ((out_.set (Int.toNat y0) (⟨(out_.getD (Int.toNat y0) default).Id, (out_.getD (Int.toNat y0) default).Shelf, (out_.getD (Int.toNat y0) default).Room, y4, (out_.getD (Int.toNat y0) default).Thick⟩ : Carton)).getD (Int.toNat y0) default).Files, (IntKind.i64.wrap ((((out_.set (Int.toNat y0) (⟨(out_.getD (Int.toNat y0) default).Id, (out_.getD (Int.toNat y0) default).Shelf, (out_.getD (Int.toNat y0) default).Room, y4, (out_.getD (Int.toNat y0) default).Thick⟩ : Carton)).getD (Int.toNat y0) default).Thick) + (((out_.set (Int.toNat y0) (⟨(out_.getD (Int.toNat y0) default).Id, (out_.getD (Int.toNat y0) default).Shelf, (out_.getD (Int.toNat y0) default).Room, y4, (out_.getD (Int.toNat y0) default).Thick⟩ : Carton)).getD (Int.toNat y1) default).Thick)))⟩ : Carton))))]) (A := [(ob0, ⟨5, deepC cellCarton ts_170 ((out_.set (Int.toNat y0) (⟨(out_.getD (Int.toNat y0) default).Id, (out_.getD (Int.toNat y0) default).Shelf, (out_.getD (Int.toNat y0) default).Room, y4, (out_.getD (Int.toNat y0) default).Thick⟩ : Carton)).set (Int.toNat y0) (⟨((out_.set (Int.toNat y0) (⟨(out_.getD (Int.toNat y0) default).Id, (out_.getD (Int.toNat y0) default).Shelf, (out_.getD (Int.toNat y0) default).Room, y4, (out_.getD (Int.toNat y0) default).Thick⟩ : Carton)).getD (Int.toNat y0) default).Id, ((out_.set (Int.toNat y0) (⟨(out_.getD (Int.toNat y0) default).Id, (out_.getD (Int.toNat y0) default).Shelf, (out_.getD (Int.toNat y0) default).Room, y4, (out_.getD (Int.toNat y0) default).Thick⟩ : Carton)).getD (Int.toNat y0) default).Shelf, ((out_.set (Int.toNat y0) (⟨(out_.getD (Int.toNat y0) default).Id, (out_.getD (Int.toNat y0) default).Shelf, (out_.getD (Int.toNat y0) default).Room, y4, (out_.getD (Int.toNat y0) default).Thick⟩ : Carton)).getD (Int.toNat y0) default).Room, ((out_.set (Int.toNat y0) (⟨(out_.getD (Int.toNat y0) default).Id, (out_.getD (Int.toNat y0) default).Shelf, (out_.getD (Int.toNat y0) default).Room, y4, (out_.getD (Int.toNat y0) default).Thick⟩ : Carton)).getD (Int.toNat y0) default).Files, (IntKind.i64.wrap ((((out_.set (Int.toNat y0) (⟨(out_.getD (Int.toNat y0) default).Id, (out_.getD (Int.toNat y0) default).Shelf, (out_.getD (Int.toNat y0) default).Room, y4, (out_.getD (Int.toNat y0) default).Thick⟩ : Carton)).getD (Int.toNat y0) default).Thick) + (((out_.set (Int.toNat y0) (⟨(out_.getD (Int.toNat y0) default).Id, (out_.getD (Int.toNat y0) default).Shelf, (out_.getD (Int.toNat y0) default).Room, y4, (out_.getD (Int.toNat y0) default).Thick⟩ : Carton)).getD (Int.toNat y1) default).Thick)))⟩ : Carton))⟩)]) (T := (os1_183 ++ (optH 1 ob_183 (List.map encInt y4) ++ os2_183))) (H0 := [(ob0, ⟨5, deepC cellCarton ts_170 ((out_.set (Int.toNat y0) (⟨(out_.getD (Int.toNat y0) default).Id, (out_.getD (Int.toNat y0) default).Shelf, (out_.getD (Int.toNat y0) default).Room, y4, (out_.getD (Int.toNat y0) default).Thick⟩ : Carton)).set (Int.toNat y0) (⟨((out_.set (Int.toNat y0) (⟨(out_.getD (Int.toNat y0) default).Id, (out_.getD (Int.toNat y0) default).Shelf, (out_.getD (Int.toNat y0) default).Room, y4, (out_.getD (Int.toNat y0) default).Thick⟩ : Carton)).getD (Int.toNat y0) default).Id, ((out_.set (Int.toNat y0) (⟨(out_.getD (Int.toNat y0) default).Id, (out_.getD (Int.toNat y0) default).Shelf, (out_.getD (Int.toNat y0) default).Room, y4, (out_.getD (Int.toNat y0) default).Thick⟩ : Carton)).getD (Int.toNat y0) default).Shelf, ((out_.set (Int.toNat y0) (⟨(out_.getD (Int.toNat y0) default).Id, (out_.getD (Int.toNat y0) default).Shelf, (out_.getD (Int.toNat y0) default).Room, y4, (out_.getD (Int.toNat y0) default).Thick⟩ : Carton)).getD (Int.toNat y0) default).Room, ((out_.set (Int.toNat y0) (⟨(out_.getD (Int.toNat y0) default).Id, (out_.getD (Int.toNat y0) default).Shelf, (out_.getD (Int.toNat y0) default).Room, y4, (out_.getD (Int.toNat y0) default).Thick⟩ : Carton)).getD (Int.toNat y0) default).Files, (IntKind.i64.wrap ((((out_.set (Int.toNat y0) (⟨(out_.getD (Int.toNat y0) default).Id, (out_.getD (Int.toNat y0) default).Shelf, (out_.getD (Int.toNat y0) default).Room, y4, (out_.getD (Int.toNat y0) default).Thick⟩ : Carton)).getD (Int.toNat y0) default).Thick) + (((out_.set (Int.toNat y0) (⟨(out_.getD (Int.toNat y0) default).Id, (out_.getD (Int.toNat y0) default).Shelf, (out_.getD (Int.toNat y0) default).Room, y4, (out_.getD (Int.toNat y0) default).Thick⟩ : Carton)).getD (Int.toNat y1) default).Thick)))⟩ : Carton))⟩)]) (T' := (os1_183 ++ (optH 1 ob_183 (List.map encInt y4) ++ os2_183))) rfl (⟨_, _, rfl, rfl, _, _, rfl, rfl, rfl⟩) rfl (⟨_, _, rfl, rfl, rfl⟩) rfl (List.Sublist.refl _) ?_)
    refine V.seq ?_
    replace hm0 := bindO hm0; rcases hm0 with ⟨y5, hh17, hm0⟩
    refine V.region (VO.cons rfl (V1.mv ?_))
    refine VO.cons rfl (V1.mv ?_)
    refine VO.cons rfl (V1.mv ?_)
    refine VO.cons rfl (V1.it ?_)
    refine VO.cons rfl (V1.callDel (m := 1) (inn := (fun c_ : Carton => List.map encInt c_.Files)) (cell := cellCarton) (ts := ts_170) (os := (os1_183 ++ (optH 1 ob_183 (List.map encInt y4) ++ os2_183))) (xs := ((out_.set (Int.toNat y0) (⟨(out_.getD (Int.toNat y0) default).Id, (out_.getD (Int.toNat y0) default).Shelf, (out_.getD (Int.toNat y0) default).Room, y4, (out_.getD (Int.toNat y0) default).Thick⟩ : Carton)).set (Int.toNat y0) (⟨((out_.set (Int.toNat y0) (⟨(out_.getD (Int.toNat y0) default).Id, (out_.getD (Int.toNat y0) default).Shelf, (out_.getD (Int.toNat y0) default).Room, y4, (out_.getD (Int.toNat y0) default).Thick⟩ : Carton)).getD (Int.toNat y0) default).Id, ((out_.set (Int.toNat y0) (⟨(out_.getD (Int.toNat y0) default).Id, (out_.getD (Int.toNat y0) default).Shelf, (out_.getD (Int.toNat y0) default).Room, y4, (out_.getD (Int.toNat y0) default).Thick⟩ : Carton)).getD (Int.toNat y0) default).Shelf, ((out_.set (Int.toNat y0) (⟨(out_.getD (Int.toNat y0) default).Id, (out_.getD (Int.toNat y0) default).Shelf, (out_.getD (Int.toNat y0) default).Room, y4, (out_.getD (Int.toNat y0) default).Thick⟩ : Carton)).getD (Int.toNat y0) default).Room, ((out_.set (Int.toNat y0) (⟨(out_.getD (Int.toNat y0) default).Id, (out_.getD (Int.toNat y0) default).Shelf, (out_.getD (Int.toNat y0) default).Room, y4, (out_.getD (Int.toNat y0) default).Thick⟩ : Carton)).getD (Int.toNat y0) default).Files, (IntKind.i64.wrap ((((out_.set (Int.toNat y0) (⟨(out_.getD (Int.toNat y0) default).Id, (out_.getD (Int.toNat y0) default).Shelf, (out_.getD (Int.toNat y0) default).Room, y4, (out_.getD (Int.toNat y0) default).Thick⟩ : Carton)).getD (Int.toNat y0) default).Thick) + (((out_.set (Int.toNat y0) (⟨(out_.getD (Int.toNat y0) default).Id, (out_.getD (Int.toNat y0) default).Shelf, (out_.getD (Int.toNat y0) default).Room, y4, (out_.getD (Int.toNat y0) default).Thick⟩ : Carton)).getD (Int.toNat y1) default).Thick)))⟩ : Carton))) (r := y5) (z := (⟨(0 : Int), (0 : Int), (0 : Int), ([] : List Int), (0 : Int)⟩ : Carton)) (zr := (PV.agg [.int .i64 (0 : Int), .int .i64 (0 : Int), .int .i64 (0 : Int), .nils, .int .i64 (0 : Int)])) 0 (A := [(ob0, ⟨5, deepC cellCarton ts_170 ((out_.set (Int.toNat y0) (⟨(out_.getD (Int.toNat y0) default).Id, (out_.getD (Int.toNat y0) default).Shelf, (out_.getD (Int.toNat y0) default).Room, y4, (out_.getD (Int.toNat y0) default).Thick⟩ : Carton)).set (Int.toNat y0) (⟨((out_.set (Int.toNat y0) (⟨(out_.getD (Int.toNat y0) default).Id, (out_.getD (Int.toNat y0) default).Shelf, (out_.getD (Int.toNat y0) default).Room, y4, (out_.getD (Int.toNat y0) default).Thick⟩ : Carton)).getD (Int.toNat y0) default).Id, ((out_.set (Int.toNat y0) (⟨(out_.getD (Int.toNat y0) default).Id, (out_.getD (Int.toNat y0) default).Shelf, (out_.getD (Int.toNat y0) default).Room, y4, (out_.getD (Int.toNat y0) default).Thick⟩ : Carton)).getD (Int.toNat y0) default).Shelf, ((out_.set (Int.toNat y0) (⟨(out_.getD (Int.toNat y0) default).Id, (out_.getD (Int.toNat y0) default).Shelf, (out_.getD (Int.toNat y0) default).Room, y4, (out_.getD (Int.toNat y0) default).Thick⟩ : Carton)).getD (Int.toNat y0) default).Room, ((out_.set (Int.toNat y0) (⟨(out_.getD (Int.toNat y0) default).Id, (out_.getD (Int.toNat y0) default).Shelf, (out_.getD (Int.toNat y0) default).Room, y4, (out_.getD (Int.toNat y0) default).Thick⟩ : Carton)).getD (Int.toNat y0) default).Files, (IntKind.i64.wrap ((((out_.set (Int.toNat y0) (⟨(out_.getD (Int.toNat y0) default).Id, (out_.getD (Int.toNat y0) default).Shelf, (out_.getD (Int.toNat y0) default).Room, y4, (out_.getD (Int.toNat y0) default).Thick⟩ : Carton)).getD (Int.toNat y0) default).Thick) + (((out_.set (Int.toNat y0) (⟨(out_.getD (Int.toNat y0) default).Id, (out_.getD (Int.toNat y0) default).Shelf, (out_.getD (Int.toNat y0) default).Room, y4, (out_.getD (Int.toNat y0) default).Thick⟩ : Carton)).getD (Int.toNat y1) default).Thick)))⟩ : Carton))⟩)]) (A' := []) rfl rfl rfl cok_80 rfl rfl rfl rfl hd_196 hh17 (fun rL hL => ok_slices_Delete_impl_Carton_impl_Carton (oq := some ob0) hL (fun e => by cases e)) rfl lt0 ?_)
    intro ob4 ts_197 os_197 hob4 hd_197
    refine VO.cons rfl (V1.as ?_)
    refine VO.nil ?_
    rcases ob4 with _ | ob4
    ·
     obtain ⟨rfl, rfl⟩ := Deep.nil (hob4 rfl) hd_197
     refine V.keep 78 [10] [] (E0 := [(10, .nils)]) (H0 := []) rfl (⟨_, _, rfl, rfl, rfl⟩) (rfl) rfl ?_
     refine V.seq (V.seq ?_)
     replace hm0 := bindO hm0; rcases hm0 with ⟨y6, hh18, hm0⟩
     refine V.region (VO.cons rfl (V1.mv ?_))
     refine VO.weakenK (Keeps.nilsE (l := y5) 74 rn 5 (encCarton rn) (hob4 rfl) rfl rfl) ?_
     refine VO.cons rfl (V1.call rfl rfl rfl cok_45 rfl (ok_impl_AreCartons hh18) rfl lt0 ?_)
     rintro _ _ ⟨rfl, rfl⟩
     refine VO.cons rfl (V1.not rfl rfl rfl lt0 ?_)
     refine VO.nil (V.cond rfl (fun hc1 => ?_) (fun hc1 => ?_))
     ·
      replace hm0 := cond_t hc1 hm0
      refine V.seq (V.region (VO.cons rfl (V1.as ?_)))
      refine VO.cons rfl (V1.as ?_)
      refine VO.nil (V.keep 78 [6, 7] [] (E0 := [(6, .nils), (7, .bool false)]) (H0 := []) rfl (⟨_, _, rfl, rfl, _, _, rfl, rfl, rfl⟩) (rfl) rfl ?_)
      refine V.ret ?_
      obtain rfl := oi hm0
      exact ⟨_, _, ⟨_, _, rfl, rfl, _, _, rfl, rfl, rfl⟩, List.Sublist.refl _, none, [], [], (fun _ => rfl), (Deep.ofNil rfl), rfl, rfl⟩
     ·
      replace hm0 := cond_f hc1 hm0
      refine V.skip ?_
      refine V.seq (V.region (VO.cons rfl (V1.mv ?_)))
      refine VO.cons rfl (V1.as ?_)
      refine VO.cons rfl (V1.as ?_)
      refine VO.nil (V.keep 78 [6, 7] [] (E0 := [(6, .nils), (7, .bool true)]) (H0 := []) rfl (⟨_, _, rfl, rfl, _, _, rfl, rfl, rfl⟩) (rfl) rfl ?_)
      refine V.ret ?_
      obtain rfl := oi hm0
      exact ⟨_, _, ⟨_, _, rfl, rfl, _, _, rfl, rfl, rfl⟩, List.Sublist.refl _, none, [], [], (fun _ => (hob4 rfl)), (Deep.ofNil (hob4 rfl)), rfl, rfl⟩
    ·
     refine V.keepT 78 [10] [0] (E0 := [(10, .sref ob4 5 0 (List.length y5))]) (A := [(ob4, ⟨5, deepC cellCarton ts_197 y5⟩)]) (T := os_197) (H0 := [(ob4, ⟨5, deepC cellCarton ts_197 y5⟩)]) (T' := os_197) rfl (⟨_, _, rfl, rfl, rfl⟩) rfl (⟨_, _, rfl, rfl, rfl⟩) rfl (List.Sublist.refl _) ?_
     refine V.seq (V.seq ?_)
     replace hm0 := bindO hm0; rcases hm0 with ⟨y6, hh18, hm0⟩
     refine V.region (VO.cons rfl (V1.mv ?_))
     refine VO.cons rfl (V1.callL (rn + 1) ([ob4] ++ List.map Prod.fst os_197) [.vl (rn + 1) 5 (List.map (encCarton (rn + 1)) y5)] rfl rfl rfl cok_45 rfl ⟨_, _, rfl, Lend.deep (m := 1) (inn := (fun c_ : Carton => List.map encInt c_.Files)) (cell := cellCarton) cokCarton (ts := ts_197) (os := os_197) (xs := y5) 0 hd_197 rfl (fun _ => roL_map (fun _ => rfl) _) rfl (fun p hp => memTail (A := [(ob4, ⟨5, deepC cellCarton ts_197 y5⟩)]) (T := os_197) hp rfl) (List.mem_append_left _ (.head _)) (fun p hp => List.mem_append_right _ (List.mem_map.2 ⟨p, hp, rfl⟩)), rfl⟩ (bwTail (A := [(ob4, ⟨5, deepC cellCarton ts_197 y5⟩)]) (T := os_197) rfl (bwCons (k := 0) rfl bwNil) (fun p hp => hp)) (ok_impl_AreCartons hh18) rfl (⟨(by first | omega | (dsimp only; omega)), by rintro _ _ ⟨rfl, rfl⟩; exact ⟨rfl, by simp⟩⟩) lt0 ?_)
     rintro _ _ ⟨rfl, rfl⟩
     refine VO.cons rfl (V1.not rfl rfl rfl lt0 ?_)
     refine VO.nil (V.cond rfl (fun hc1 => ?_) (fun hc1 => ?_))
     ·
      replace hm0 := cond_t hc1 hm0
      refine V.seq (V.region (VO.cons rfl (V1.as ?_)))
      refine VO.cons rfl (V1.as ?_)
      refine VO.nil (V.keepT 78 [6, 7] [] (E0 := [(6, .nils), (7, .bool false)]) (A := [(ob4, ⟨5, deepC cellCarton ts_197 y5⟩)]) (T := os_197) (H0 := []) (T' := []) rfl (⟨_, _, rfl, rfl, _, _, rfl, rfl, rfl⟩) rfl (rfl) rfl (List.nil_sublist _) ?_)
      refine V.ret ?_
      obtain rfl := oi hm0
      exact ⟨_, _, ⟨_, _, rfl, rfl, _, _, rfl, rfl, rfl⟩, List.Sublist.refl _, none, [], [], (fun _ => rfl), (Deep.ofNil rfl), rfl, rfl⟩
     ·
      replace hm0 := cond_f hc1 hm0
      refine V.skip ?_
      refine V.seq (V.region (VO.cons rfl (V1.mv ?_)))
      refine VO.cons rfl (V1.as ?_)
      refine VO.cons rfl (V1.as ?_)
      refine VO.nil (V.keepT 78 [6, 7] [0] (E0 := [(6, .sref ob4 5 0 (List.length y5)), (7, .bool true)]) (A := [(ob4, ⟨5, deepC cellCarton ts_197 y5⟩)]) (T := os_197) (H0 := [(ob4, ⟨5, deepC cellCarton ts_197 y5⟩)]) (T' := os_197) rfl (⟨_, _, rfl, rfl, _, _, rfl, rfl, rfl⟩) rfl (⟨_, _, rfl, rfl, rfl⟩) rfl (List.Sublist.refl _) ?_)
      refine V.ret ?_
      obtain rfl := oi hm0
      exact ⟨_, _, ⟨_, _, rfl, rfl, _, _, rfl, rfl, rfl⟩, List.Sublist.refl _, some ob4, ts_197, os_197, (fun e => by cases e), hd_197, rfl, rfl⟩
theorem ok_spec_MergeCartons {rn : Nat} {list : List Carton} {a : Int} {b_ : Int} {r : List Carton × Bool} (h : M.spec_MergeCartons list a b_ = some r) : Does Try.prog 37 [.vl rn 5 (List.map (encCarton rn) list), .int .i64 a, .int .i64 b_] [] rn (fun x H => ∃ (ob0_ : Nat), x = .tup [PV.sref ob0_ 5 0 (List.length r.1), .bool r.2] ∧ H = [(ob0_, ⟨5, List.map (encCarton rn) r.1⟩)]) := by
 have hm0 := h; clear h; unfold M.spec_MergeCartons at hm0
 try dsimp only at hm0
 refine Does.intro (N := 97) Try.func37 rfl rfl rfl rfl ?_
 intro w0 S0
 refine V.seq (V.region (VO.cons rfl (V1.as ?_)))
 refine VO.cons rfl (V1.as ?_)
 refine VO.nil (V.seq ?_)
 replace hm0 := bindO hm0; rcases hm0 with ⟨y0, hh0, hm0⟩
 replace hm0 := bindO hm0; rcases hm0 with ⟨y1, hh1, hm0⟩
 refine V.region (VO.cons rfl (V1.mv ?_))
 refine VO.cons rfl (V1.mv ?_)
 refine VO.cons rfl (V1.call rfl rfl rfl cok_63 rfl (ok_spec_l18Find hh0) rfl lt0 ?_)
 rintro _ _ ⟨rfl, rfl⟩
 refine VO.cons rfl (V1.mv ?_)
 refine VO.cons rfl (V1.mv ?_)
 refine VO.cons rfl (V1.call rfl rfl rfl cok_63 rfl (ok_spec_l18Find hh1) rfl lt0 ?_)
 rintro _ _ ⟨rfl, rfl⟩
 refine VO.cons rfl (V1.as ?_)
 refine VO.cons rfl (V1.as ?_)
 refine VO.nil (V.keep 97 [0, 8, 9] [] (E0 := [(0, .vl rn 5 (List.map (encCarton rn) list)), (8, .int .i64 y0), (9, .int .i64 y1)]) (H0 := []) rfl (⟨_, _, rfl, rfl, _, _, rfl, rfl, _, _, rfl, rfl, rfl⟩) (rfl) rfl ?_)
 refine V.seq (V.seq ?_)
 replace hm0 := bindO hm0; rcases hm0 with ⟨y2, hh2, hm0⟩
 refine V.region (VO.cons rfl (V1.mv ?_))
 refine VO.cons rfl (V1.call rfl rfl rfl cok_60 rfl (ok_spec_l18Good hh2) rfl lt0 ?_)
 rintro _ _ ⟨rfl, rfl⟩
 refine VO.cons rfl (V1.not rfl rfl rfl lt0 ?_)
 refine VO.cons rfl (V1.mv ?_)
 apply VO.or (n := 2) rfl rfl rfl rfl rfl rfl lt0 (.none rfl)
 ·
  intro hg0
  refine VO.step (.some rfl rfl rfl) (V1.mv ?_)
  refine VO.step (.some rfl rfl rfl) (V1.it ?_)
  exact VO.nil ⟨rfl, rfl, rfl, rfl, .inr ⟨rfl, .inr ⟨rfl, .inr ⟨rfl, .inl rfl⟩⟩⟩⟩
 refine VO.cons rfl (V1.mv ?_)
 apply VO.or (n := 2) rfl rfl rfl rfl rfl rfl lt0 (.none rfl)
 ·
  intro hg1
  refine VO.step (.some rfl rfl rfl) (V1.mv ?_)
  refine VO.step (.some rfl rfl rfl) (V1.it ?_)
  exact VO.nil ⟨rfl, rfl, rfl, rfl, .inr ⟨rfl, .inr ⟨rfl, .inr ⟨rfl, .inl rfl⟩⟩⟩⟩
 refine VO.cons rfl (V1.mv ?_)
 apply VO.or (n := 3) rfl rfl rfl rfl rfl rfl lt0 (.none rfl)
 ·
  intro hg2
  refine VO.step (.some rfl rfl rfl) (V1.mv ?_)
  refine VO.step (.some rfl rfl rfl) (V1.mv ?_)
  refine VO.step (.some rfl rfl rfl) (V1.it ?_)
  exact VO.nil ⟨rfl, rfl, rfl, rfl, .inr ⟨rfl, .inr ⟨rfl, .inr ⟨rfl, .inr ⟨rfl, .inl rfl⟩⟩⟩⟩⟩
 refine VO.nil (V.keep 97 [0, 8, 9, 36] [] (E0 := [(0, .vl rn 5 (List.map (encCarton rn) list)), (8, .int .i64 y0), (9, .int .i64 y1), (36, .bool ((((!y2) || (decide (y0 < (0 : Int)))) || (decide (y1 < (0 : Int)))) || (y0 == y1)))]) (H0 := []) rfl (⟨_, _, rfl, rfl, _, _, rfl, rfl, _, _, rfl, rfl, _, _, rfl, rfl, rfl⟩) (rfl) rfl ?_)
 refine V.cond rfl (fun hc0 => ?_) (fun hc0 => ?_)
 ·
  replace hm0 := cond_t hc0 hm0
  refine V.seq (V.region (VO.cons rfl (V1.buildSliceT (f := (encCarton rn)) ([] : List Carton) rfl rfl esz_39 zk_67 rfl rfl rfl rfl rfl rfl rfl lt0 ?_)))
  intro b0
  refine VO.cons rfl (V1.as ?_)
  refine VO.cons rfl (V1.as ?_)
  refine VO.nil (V.keep 97 [6, 7] [0] (E0 := [(6, .sref b0 5 0 (List.length ([] : List Carton))), (7, .bool false)]) (H0 := [(b0, ⟨5, List.map (encCarton rn) ([] : List Carton)⟩)]) rfl (⟨_, _, rfl, rfl, _, _, rfl, rfl, rfl⟩) (⟨_, _, rfl, rfl, rfl⟩) rfl ?_)
  refine V.ret ?_
  obtain rfl := oi hm0
  exact ⟨_, _, ⟨_, _, rfl, rfl, _, _, rfl, rfl, rfl⟩, List.Sublist.refl _, b0, rfl, rfl⟩
 ·
  replace hm0 := cond_f hc0 hm0
  refine V.skip ?_
  refine V.seq (V.region (VO.cons rfl (V1.buildSliceT (f := (encCarton rn)) ([] : List Carton) rfl rfl esz_39 zk_67 rfl rfl rfl rfl rfl rfl rfl lt0 ?_)))
  intro b1
  refine VO.cons rfl (V1.as ?_)
  refine VO.nil (V.seq ?_)
  replace hm0 := bindO hm0; rcases hm0 with ⟨y3, hh3, hm0⟩
  refine V.region (VO.cons rfl (V1.mv ?_))
  refine VO.cons rfl (V1.call rfl rfl rfl cok_64 rfl (ok_spec_l18Own hh3) rfl lt0 ?_)
  rintro _ _ ⟨b2, rfl, rfl⟩
  refine VO.weakenK (Keeps.freezeG 0 rn [(40, .vl rn 5 (List.map (encCarton rn) y3))] ([(b1, ⟨5, List.map (encCarton rn) ([] : List Carton)⟩)]) (f := (encCarton rn)) (l := y3) rfl (fun _ => rfl) ⟨⟨_, rfl, .here⟩, trivial⟩ ⟨_, _, rfl, rfl, .inl rfl, rfl⟩ rfl iNil) ?_
  refine VO.cons rfl (V1.as ?_)
  refine VO.nil (V.keep 97 [0, 8, 9, 10, 11] [0] (E0 := [(0, .vl rn 5 (List.map (encCarton rn) list)), (8, .int .i64 y0), (9, .int .i64 y1), (10, .sref b1 5 0 (List.length ([] : List Carton))), (11, .vl rn 5 (List.map (encCarton rn) y3))]) (H0 := [(b1, ⟨5, List.map (encCarton rn) ([] : List Carton)⟩)]) rfl (⟨_, _, rfl, rfl, _, _, rfl, rfl, _, _, rfl, rfl, _, _, rfl, rfl, _, _, rfl, rfl, rfl⟩) (⟨_, _, rfl, rfl, rfl⟩) rfl ?_)
  refine V.seq (V.seq (V.region (VO.cons rfl (V1.as ?_))))
  refine VO.nil ?_
  replace hm0 := bindO hm0; rcases hm0 with ⟨e0, he1, hm0⟩
  refine V.cutT (D := (List Carton) × (Nat)) (fun ⟨out_, b3⟩ => ⟨97, [(10, .sref b3 5 0 (List.length out_))], [(b3, ⟨5, List.map (encCarton rn) out_⟩)]⟩) (fun ⟨out_, b3⟩ => (out_ = e0)) ?_ ?_
  ·
   refine V.block ?_
   refine V.keep 97 [10, 12, 0, 8, 9, 11] [0] (E0 := [(10, .sref b1 5 0 (List.length ([] : List Carton))), (12, .int .i64 (0 : Int)), (0, .vl rn 5 (List.map (encCarton rn) list)), (8, .int .i64 y0), (9, .int .i64 y1), (11, .vl rn 5 (List.map (encCarton rn) y3))]) (H0 := [(b1, ⟨5, List.map (encCarton rn) ([] : List Carton)⟩)]) rfl (⟨_, _, rfl, rfl, _, _, rfl, rfl, _, _, rfl, rfl, _, _, rfl, rfl, _, _, rfl, rfl, _, _, rfl, rfl, rfl⟩) (⟨_, _, rfl, rfl, rfl⟩) rfl ?_
   refine V.loopE (D := Nat × (List Carton × Int) × (Nat)) (fun ⟨n0, ⟨out_0, n_⟩, b4⟩ => [(10, .sref b4 5 0 (List.length out_0)), (12, .int .i64 n_)]) (fun ⟨n0, ⟨out_0, n_⟩, b4⟩ => [(b4, ⟨5, List.map (encCarton rn) out_0⟩)]) (fun ⟨n0, ⟨out_0, n_⟩, b4⟩ => loopO (M.spec_MergeCartons_l0 list y0 y1 y3) n0 (out_0, n_) = some e0) (fun ⟨n0, _, _⟩ => n0) (rounds, (([] : List Carton), (0 : Int)), b1) rfl he1 ?_
   rintro ⟨n0, ⟨out_0, n_⟩, b4⟩ hP0
   obtain ⟨m0, y4, rfl, hm1, hl1, hr1⟩ := loop_head hP0
   unfold M.spec_MergeCartons_l0 at hm1; dsimp only at hm1
   show V _ _ _ ⟨97, [(10, .sref b4 5 0 (List.length out_0)), (12, .int .i64 n_), (0, .vl rn 5 (List.map (encCarton rn) list)), (8, .int .i64 y0), (9, .int .i64 y1), (11, .vl rn 5 (List.map (encCarton rn) y3))], [(b4, ⟨5, List.map (encCarton rn) out_0⟩)]⟩
   refine V.seq (V.seq (V.region (VO.cons rfl (V1.mv ?_))))
   refine VO.cons rfl (V1.mv ?_)
   refine VO.cons rfl (V1.lenMap rfl rfl rfl rfl rfl rfl isl_39 lt0 ?_)
   refine VO.cons rfl (V1.it ?_)
   refine VO.nil (V.cond rfl (fun hc1 => ?_) (fun hc1 => ?_))
   ·
    replace hm1 := cond_t hc1 hm1
    refine V.skip ?_
    refine V.keep 97 [0, 8, 9, 10, 11, 12] [0] (E0 := [(0, .vl rn 5 (List.map (encCarton rn) list)), (8, .int .i64 y0), (9, .int .i64 y1), (10, .sref b4 5 0 (List.length out_0)), (11, .vl rn 5 (List.map (encCarton rn) y3)), (12, .int .i64 n_)]) (H0 := [(b4, ⟨5, List.map (encCarton rn) out_0⟩)]) rfl (⟨_, _, rfl, rfl, _, _, rfl, rfl, _, _, rfl, rfl, _, _, rfl, rfl, _, _, rfl, rfl, _, _, rfl, rfl, rfl⟩) (⟨_, _, rfl, rfl, rfl⟩) rfl ?_
    refine V.seq ?_
    replace hm1 := bindO hm1; rcases hm1 with ⟨j0, hm2, hm1⟩
    refine V.cutT (D := (List Carton) × (Nat)) (fun ⟨out_1, b5⟩ => ⟨97, [(10, .sref b5 5 0 (List.length out_1)), (0, .vl rn 5 (List.map (encCarton rn) list)), (8, .int .i64 y0), (9, .int .i64 y1), (11, .vl rn 5 (List.map (encCarton rn) y3)), (12, .int .i64 n_)], [(b5, ⟨5, List.map (encCarton rn) out_1⟩)]⟩) (fun ⟨out_1, b5⟩ => (out_1 = j0)) ?_ ?_
    ·
     refine V.block ?_
     refine V.seq ?_
     replace hm2 := asrt_some hm2; rcases hm2 with ⟨hh4, hm2⟩
     refine V.region (VO.cons rfl (V1.mv ?_))
     refine VO.cons rfl (V1.mv ?_)
     refine VO.cons rfl (V1.indexI rfl rfl esz_39 rfl rfl hh4 lt0 ?_)
     refine VO.cons rfl (V1.loadPinAll rfl rfl tyk_67 rfl rfl lt0 ?_)
     refine VO.cons rfl (V1.alloc rfl rfl zk_67 lt0 ?_)
     intro b6
     refine VO.cons rfl (V1.storeRefAll (k := 0) rfl rfl tyk_67 rfl rfl rfl rfl rfl rfl ?_)
     refine VO.nil (V.keep 97 [0, 8, 9, 10, 11, 12, 13] [0, 1] (E0 := [(0, .vl rn 5 (List.map (encCarton rn) list)), (8, .int .i64 y0), (9, .int .i64 y1), (10, .sref b4 5 0 (List.length out_0)), (11, .vl rn 5 (List.map (encCarton rn) y3)), (12, .int .i64 n_), (13, .ref b6 5 0 0)]) (H0 := [(b6, ⟨5, [encCarton rn (y3.getD (Int.toNat n_) default)]⟩), (b4, ⟨5, List.map (encCarton rn) out_0⟩)]) rfl (⟨_, _, rfl, rfl, _, _, rfl, rfl, _, _, rfl, rfl, _, _, rfl, rfl, _, _, rfl, rfl, _, _, rfl, rfl, _, _, rfl, rfl, rfl⟩) (⟨_, _, rfl, rfl, _, _, rfl, rfl, rfl⟩) rfl ?_)
     refine V.seq ?_
     replace hm2 := bindO hm2; rcases hm2 with ⟨j1, hm3, hm2⟩
     refine V.cutT (D := (Carton) × (Unit)) (fun ⟨x, _⟩ => ⟨97, [(0, .vl rn 5 (List.map (encCarton rn) list)), (8, .int .i64 y0), (9, .int .i64 y1), (10, .sref b4 5 0 (List.length out_0)), (11, .vl rn 5 (List.map (encCarton rn) y3)), (12, .int .i64 n_), (13, .ref b6 5 0 0)], [(b6, ⟨5, [encCarton rn x]⟩), (b4, ⟨5, List.map (encCarton rn) out_0⟩)]⟩) (fun ⟨x, _⟩ => (x = j1)) ?_ ?_
     ·
      refine V.seq (V.region (VO.cons rfl (V1.mv ?_)))
      refine VO.cons rfl (V1.mv ?_)
      refine VO.cons rfl (V1.it ?_)
      refine VO.nil (V.cond rfl (fun hc2 => ?_) (fun hc2 => ?_))
      ·
       replace hm3 := cond_t hc2 hm3
       refine V.seq ?_
       replace hm3 := asrt_some hm3; rcases hm3 with ⟨hh5, hm3⟩
       refine V.regionM 97 7 [⟨[(13, none)], [], none⟩, ⟨[(54, some 0)], [], none⟩, ⟨[(0, none)], [], none⟩, ⟨[(9, none)], [], none⟩, ⟨[(56, some 1), (57, some 0)], [], none⟩, ⟨[(58, some 0)], [], none⟩, ⟨[(59, some 0)], [], none⟩] [(0, none), (8, none), (9, none), (10, none), (11, none), (12, none), (13, none), (55, some 5), (60, some 0)] (⟨_, rfl, ⟨_, rfl, ⟨_, rfl, ⟨_, rfl, ⟨_, rfl, ⟨_, rfl, ⟨_, rfl, ⟨rfl, rfl⟩⟩⟩⟩⟩⟩⟩⟩) mixed_orders rfl (by decide +kernel) (fun hck11 => ?_)
       refine VP.step (p := ?pv1940) rfl rfl rfl (⟨_, _, rfl, rfl, rfl⟩) ?hv1940 ?rest1940 hck11
       case hv1940 =>
        intro E1
        refine (V1.fieldRef rfl rfl fo_67_4 rfl lt0 ?_)
        exact rfl
       refine VP.step (p := ?pv1941) rfl rfl rfl (⟨_, _, rfl, rfl, rfl⟩) ?hv1941 ?rest1941 hck11
       case hv1941 =>
        intro E1
        refine (V1.loadRef (k := 0) rfl rfl tyk_3 rfl rfl rfl rfl rfl lt0 ?_)
        exact rfl
       refine VP.step (p := ?pv1942) rfl rfl rfl (⟨_, _, rfl, rfl, rfl⟩) ?hv1942 ?rest1942 hck11
       case hv1942 =>
        intro E1
        refine (V1.mv ?_)
        exact rfl
       refine VP.step (p := ?pv1943) rfl rfl rfl (⟨_, _, rfl, rfl, rfl⟩) ?hv1943 ?rest1943 hck11
       case hv1943 =>
        intro E1
        refine (V1.mv ?_)
        exact rfl
       refine VP.step (p := ?pv1944) rfl rfl rfl (⟨_, _, rfl, rfl, _, _, rfl, rfl, rfl⟩) ?hv1944 ?rest1944 hck11
       case hv1944 =>
        intro E1
        refine (V1.indexI rfl rfl esz_39 rfl rfl hh5 lt0 ?_)
        exact rfl
       refine VP.step (p := ?pv1945) rfl rfl rfl (⟨_, _, rfl, rfl, rfl⟩) ?hv1945 ?rest1945 hck11
       case hv1945 =>
        intro E1
        refine (V1.fieldPin rfl rfl fo_67_4 rfl lt0 ?_)
        exact rfl
       refine VP.step (p := ?pv1946) rfl rfl rfl (⟨_, _, rfl, rfl, rfl⟩) ?hv1946 ?rest1946 hck11
       case hv1946 =>
        intro E1
        refine (V1.loadPin rfl rfl tyk_3 rfl rfl lt0 ?_)
        exact rfl
       refine VP.fin rfl (⟨_, _, rfl, rfl, _, _, rfl, rfl, _, _, rfl, rfl, _, _, rfl, rfl, _, _, rfl, rfl, _, _, rfl, rfl, _, _, rfl, rfl, _, _, rfl, rfl, _, _, rfl, rfl, rfl⟩) ?_
       refine VO.cons rfl (V1.it ?_)
       refine VO.cons rfl (V1.fieldRef rfl rfl fo_67_4 rfl lt0 ?_)
       refine VO.cons rfl (V1.storeRef (k := 0) rfl rfl tyk_3 rfl rfl rfl rfl rfl rfl rfl rfl rfl ?_)
       refine VO.nil (V.keep 97 [0, 8, 9, 10, 11, 12, 13] [0, 1] (E0 := [(0, .vl rn 5 (List.map (encCarton rn) list)), (8, .int .i64 y0), (9, .int .i64 y1), (10, .sref b4 5 0 (List.length out_0)), (11, .vl rn 5 (List.map (encCarton rn) y3)), (12, .int .i64 n_), (13, .ref b6 5 0 0)]) (H0 := [(b6, ⟨5, [.agg [.int .i64 ((y3.getD (Int.toNat n_) default).Id), .int .i64 ((y3.getD (Int.toNat n_) default).Shelf), .int .i64 ((y3.getD (Int.toNat n_) default).Room), .vl rn 1 (List.map encInt ((y3.getD (Int.toNat n_) default).Files)), .int .i64 (IntKind.i64.wrap (((y3.getD (Int.toNat n_) default).Thick) + ((list.getD (Int.toNat y1) default).Thick)))]]⟩), (b4, ⟨5, List.map (encCarton rn) out_0⟩)]) rfl (⟨_, _, rfl, rfl, _, _, rfl, rfl, _, _, rfl, rfl, _, _, rfl, rfl, _, _, rfl, rfl, _, _, rfl, rfl, _, _, rfl, rfl, rfl⟩) (⟨_, _, rfl, rfl, _, _, rfl, rfl, rfl⟩) rfl ?_)
       refine V.seq (V.region (VO.cons rfl (V1.as ?_)))
       refine VO.nil ?_
       replace hm3 := bindO hm3; rcases hm3 with ⟨e1, he4, hm3⟩
       refine V.cutT (D := (Carton) × (Unit)) (fun ⟨x0, _⟩ => ⟨97, [(0, .vl rn 5 (List.map (encCarton rn) list)), (8, .int .i64 y0), (9, .int .i64 y1), (10, .sref b4 5 0 (List.length out_0)), (11, .vl rn 5 (List.map (encCarton rn) y3)), (12, .int .i64 n_), (13, .ref b6 5 0 0)], [(b6, ⟨5, [encCarton rn x0]⟩), (b4, ⟨5, List.map (encCarton rn) out_0⟩)]⟩) (fun ⟨x0, _⟩ => (x0 = e1)) ?_ ?_
       ·
        refine V.block ?_
        refine V.keep 97 [14, 0, 8, 9, 10, 11, 12, 13] [0, 1] (E0 := [(14, .int .i64 (0 : Int)), (0, .vl rn 5 (List.map (encCarton rn) list)), (8, .int .i64 y0), (9, .int .i64 y1), (10, .sref b4 5 0 (List.length out_0)), (11, .vl rn 5 (List.map (encCarton rn) y3)), (12, .int .i64 n_), (13, .ref b6 5 0 0)]) (H0 := [(b6, ⟨5, [.agg [.int .i64 ((y3.getD (Int.toNat n_) default).Id), .int .i64 ((y3.getD (Int.toNat n_) default).Shelf), .int .i64 ((y3.getD (Int.toNat n_) default).Room), .vl rn 1 (List.map encInt ((y3.getD (Int.toNat n_) default).Files)), .int .i64 (IntKind.i64.wrap (((y3.getD (Int.toNat n_) default).Thick) + ((list.getD (Int.toNat y1) default).Thick)))]]⟩), (b4, ⟨5, List.map (encCarton rn) out_0⟩)]) rfl (⟨_, _, rfl, rfl, _, _, rfl, rfl, _, _, rfl, rfl, _, _, rfl, rfl, _, _, rfl, rfl, _, _, rfl, rfl, _, _, rfl, rfl, _, _, rfl, rfl, rfl⟩) (⟨_, _, rfl, rfl, _, _, rfl, rfl, rfl⟩) rfl ?_
        refine V.loopE (D := Nat × (Int × Carton) × (Unit)) (fun ⟨n1, ⟨m_, x1⟩, _⟩ => [(14, .int .i64 m_)]) (fun ⟨n1, ⟨m_, x1⟩, _⟩ => [(b6, ⟨5, [encCarton rn x1]⟩)]) (fun ⟨n1, ⟨m_, x1⟩, _⟩ => loopO (M.spec_MergeCartons_l1 list y1) n1 (m_, x1) = some e1) (fun ⟨n1, _, _⟩ => n1) (rounds, ((0 : Int), (⟨(y3.getD (Int.toNat n_) default).Id, (y3.getD (Int.toNat n_) default).Shelf, (y3.getD (Int.toNat n_) default).Room, (y3.getD (Int.toNat n_) default).Files, (IntKind.i64.wrap (((y3.getD (Int.toNat n_) default).Thick) + ((list.getD (Int.toNat y1) default).Thick)))⟩ : Carton)), ()) rfl he4 ?_
        rintro ⟨n1, ⟨m_, x1⟩, _⟩ hP1
        obtain ⟨m1, y5, rfl, hm4, hl4, hr4⟩ := loop_head hP1
        unfold M.spec_MergeCartons_l1 at hm4; dsimp only at hm4
        show V _ _ _ ⟨97, [(14, .int .i64 m_), (0, .vl rn 5 (List.map (encCarton rn) list)), (8, .int .i64 y0), (9, .int .i64 y1), (10, .sref b4 5 0 (List.length out_0)), (11, .vl rn 5 (List.map (encCarton rn) y3)), (12, .int .i64 n_), (13, .ref b6 5 0 0)], [(b6, ⟨5, [encCarton rn x1]⟩), (b4, ⟨5, List.map (encCarton rn) out_0⟩)]⟩
        refine V.seq (V.seq ?_)
        replace hm4 := asrt_some hm4; rcases hm4 with ⟨hh6, hm4⟩
        refine V.region (VO.cons rfl (V1.mv ?_))
        refine VO.cons rfl (V1.mv ?_)
        refine VO.cons rfl (V1.mv ?_)
        refine VO.cons rfl (V1.indexI rfl rfl esz_39 rfl rfl hh6 lt0 ?_)
        refine VO.cons rfl (V1.fieldPin rfl rfl fo_67_3 rfl lt0 ?_)
        refine VO.cons rfl (V1.loadPin rfl rfl tyk_36 rfl rfl lt0 ?_)
        refine VO.cons rfl (V1.lenMap rfl rfl rfl rfl rfl rfl isl_36 lt0 ?_)
        refine VO.cons rfl (V1.it ?_)
        refine VO.nil (V.keep 97 [0, 8, 9, 10, 11, 12, 13, 14, 70] [0, 1] (E0 := [(0, .vl rn 5 (List.map (encCarton rn) list)), (8, .int .i64 y0), (9, .int .i64 y1), (10, .sref b4 5 0 (List.length out_0)), (11, .vl rn 5 (List.map (encCarton rn) y3)), (12, .int .i64 n_), (13, .ref b6 5 0 0), (14, .int .i64 m_), (70, .bool (decide (m_ < (((list.getD (Int.toNat y1) default).Files).length : Int))))]) (H0 := [(b6, ⟨5, [encCarton rn x1]⟩), (b4, ⟨5, List.map (encCarton rn) out_0⟩)]) rfl (⟨_, _, rfl, rfl, _, _, rfl, rfl, _, _, rfl, rfl, _, _, rfl, rfl, _, _, rfl, rfl, _, _, rfl, rfl, _, _, rfl, rfl, _, _, rfl, rfl, _, _, rfl, rfl, rfl⟩) (⟨_, _, rfl, rfl, _, _, rfl, rfl, rfl⟩) rfl ?_)
        refine V.cond rfl (fun hc3 => ?_) (fun hc3 => ?_)
        ·
         replace hm4 := cond_t hc3 hm4
         refine V.skip ?_
         refine V.seq (V.block ?_)
         replace hm4 := asrt_some hm4; rcases hm4 with ⟨hh7, hm4⟩
         replace hm4 := asrt_some hm4; rcases hm4 with ⟨hh8, hm4⟩
         replace hm4 := bindO hm4; rcases hm4 with ⟨y6, hh9, hm4⟩
         refine V.regionM 97 10 [⟨[(13, none)], [], none⟩, ⟨[(73, some 0)], [], none⟩, ⟨[(0, none)], [], none⟩, ⟨[(9, none)], [], none⟩, ⟨[(75, some 1), (76, some 0)], [], none⟩, ⟨[(77, some 0)], [], none⟩, ⟨[(78, some 0)], [], none⟩, ⟨[(14, none)], [], none⟩, ⟨[(79, some 1), (80, some 0)], [], none⟩, ⟨[(81, some 0)], [], none⟩] [(0, none), (8, none), (9, none), (10, none), (11, none), (12, none), (13, none), (14, none), (74, some 8), (82, some 0)] (⟨_, rfl, ⟨_, rfl, ⟨_, rfl, ⟨_, rfl, ⟨_, rfl, ⟨_, rfl, ⟨_, rfl, ⟨_, rfl, ⟨_, rfl, ⟨_, rfl, ⟨rfl, rfl⟩⟩⟩⟩⟩⟩⟩⟩⟩⟩⟩) mixed_orders rfl (by decide +kernel) (fun hck15 => ?_)
         refine VP.step (p := ?pv1984) rfl rfl rfl (⟨_, _, rfl, rfl, rfl⟩) ?hv1984 ?rest1984 hck15
         case hv1984 =>
          intro E1
          refine (V1.fieldRef rfl rfl fo_67_3 rfl lt0 ?_)
          exact rfl
         refine VP.step (p := ?pv1985) rfl rfl rfl (⟨_, _, rfl, rfl, rfl⟩) ?hv1985 ?rest1985 hck15
         case hv1985 =>
          intro E1
          refine (V1.loadRef (k := 0) rfl rfl tyk_36 rfl rfl rfl rfl rfl lt0 ?_)
          exact rfl
         refine VP.step (p := ?pv1986) rfl rfl rfl (⟨_, _, rfl, rfl, rfl⟩) ?hv1986 ?rest1986 hck15
         case hv1986 =>
          intro E1
          refine (V1.mv ?_)
          exact rfl
         refine VP.step (p := ?pv1987) rfl rfl rfl (⟨_, _, rfl, rfl, rfl⟩) ?hv1987 ?rest1987 hck15
         case hv1987 =>
          intro E1
          refine (V1.mv ?_)
          exact rfl
         refine VP.step (p := ?pv1988) rfl rfl rfl (⟨_, _, rfl, rfl, _, _, rfl, rfl, rfl⟩) ?hv1988 ?rest1988 hck15
         case hv1988 =>
          intro E1
          refine (V1.indexI rfl rfl esz_39 rfl rfl hh7 lt0 ?_)
          exact rfl
         refine VP.step (p := ?pv1989) rfl rfl rfl (⟨_, _, rfl, rfl, rfl⟩) ?hv1989 ?rest1989 hck15
         case hv1989 =>
          intro E1
          refine (V1.fieldPin rfl rfl fo_67_3 rfl lt0 ?_)
          exact rfl
         refine VP.step (p := ?pv1990) rfl rfl rfl (⟨_, _, rfl, rfl, rfl⟩) ?hv1990 ?rest1990 hck15
         case hv1990 =>
          intro E1
          refine (V1.loadPin rfl rfl tyk_36 rfl rfl lt0 ?_)
          exact rfl
         refine VP.step (p := ?pv1991) rfl rfl rfl (⟨_, _, rfl, rfl, rfl⟩) ?hv1991 ?rest1991 hck15
         case hv1991 =>
          intro E1
          refine (V1.mv ?_)
          exact rfl
         refine VP.step (p := ?pv1992) rfl rfl rfl (⟨_, _, rfl, rfl, _, _, rfl, rfl, rfl⟩) ?hv1992 ?rest1992 hck15
         case hv1992 =>
          intro E1
          refine (V1.indexI rfl rfl esz_36 rfl rfl hh8 lt0 ?_)
          exact rfl
         refine VP.step (p := ?pv1993) rfl rfl rfl (⟨_, _, rfl, rfl, rfl⟩) ?hv1993 ?rest1993 hck15
         case hv1993 =>
          intro E1
          refine (V1.loadPin rfl rfl tyk_3 rfl rfl lt0 ?_)
          exact rfl
         refine VP.fin rfl (⟨_, _, rfl, rfl, _, _, rfl, rfl, _, _, rfl, rfl, _, _, rfl, rfl, _, _, rfl, rfl, _, _, rfl, rfl, _, _, rfl, rfl, _, _, rfl, rfl, _, _, rfl, rfl, _, _, rfl, rfl, rfl⟩) ?_
         refine VO.cons rfl (V1.call rfl rfl rfl cok_71 rfl (ok_spec_l1Put hh9) rfl lt0 ?_)
         rintro _ _ ⟨rfl, rfl⟩
         refine VO.cons rfl (V1.fieldRef rfl rfl fo_67_3 rfl lt0 ?_)
         refine VO.cons rfl (V1.storeRef (k := 0) rfl rfl tyk_36 rfl rfl rfl rfl rfl rfl rfl rfl rfl ?_)
         refine VO.nil (V.keep 97 [0, 8, 9, 10, 11, 12, 13, 14] [0, 1] (E0 := [(0, .vl rn 5 (List.map (encCarton rn) list)), (8, .int .i64 y0), (9, .int .i64 y1), (10, .sref b4 5 0 (List.length out_0)), (11, .vl rn 5 (List.map (encCarton rn) y3)), (12, .int .i64 n_), (13, .ref b6 5 0 0), (14, .int .i64 m_)]) (H0 := [(b6, ⟨5, [.agg [.int .i64 x1.Id, .int .i64 x1.Shelf, .int .i64 x1.Room, .vl rn 1 (List.map encInt y6), .int .i64 x1.Thick]]⟩), (b4, ⟨5, List.map (encCarton rn) out_0⟩)]) rfl (⟨_, _, rfl, rfl, _, _, rfl, rfl, _, _, rfl, rfl, _, _, rfl, rfl, _, _, rfl, rfl, _, _, rfl, rfl, _, _, rfl, rfl, _, _, rfl, rfl, rfl⟩) (⟨_, _, rfl, rfl, _, _, rfl, rfl, rfl⟩) rfl ?_)
         refine V.region (VO.cons rfl (V1.mv ?_))
         refine VO.cons rfl (V1.it ?_)
         refine VO.cons rfl (V1.as ?_)
         refine VO.nil ?_
         exact ⟨(m1, ((IntKind.i64.wrap (m_ + (1 : Int))), (⟨x1.Id, x1.Shelf, x1.Room, y6, x1.Thick⟩ : Carton)), ()), hl4 _ (oi hm4).symm, Nat.lt_succ_self _, Keeps.mk (ks := [0, 1]) rfl ⟨rfl, rfl, rfl, rfl, rfl, rfl, rfl, rfl, trivial⟩ (⟨_, _, rfl, rfl, _, _, rfl, rfl, rfl⟩) rfl⟩
        ·
         replace hm4 := cond_f hc3 hm4
         refine V.exit ?_
         obtain rfl := hr4 _ (oi hm4).symm
         exact ⟨(x1, ()), rfl, Keeps.mk (ks := [0, 1]) rfl ⟨rfl, rfl, rfl, rfl, rfl, rfl, rfl, trivial⟩ (⟨_, _, rfl, rfl, _, _, rfl, rfl, rfl⟩) rfl⟩
       ·
        rintro ⟨x0, _⟩ rfl
        try dsimp only at hm3
        exact ⟨(x0, ()), oi hm3, Keeps.mk (ks := [0, 1]) rfl ⟨rfl, rfl, rfl, rfl, rfl, rfl, rfl, trivial⟩ (⟨_, _, rfl, rfl, _, _, rfl, rfl, rfl⟩) rfl⟩
      ·
       replace hm3 := cond_f hc2 hm3
       refine V.skip ?_
       exact ⟨((y3.getD (Int.toNat n_) default), ()), oi hm3, Keeps.mk (ks := [0, 1]) rfl ⟨rfl, rfl, rfl, rfl, rfl, rfl, rfl, trivial⟩ (⟨_, _, rfl, rfl, _, _, rfl, rfl, rfl⟩) rfl⟩
     ·
      rintro ⟨x, _⟩ rfl
      try dsimp only at hm2
      refine V.seq (V.region (VO.cons rfl (V1.mv ?_)))
      refine VO.cons rfl (V1.mv ?_)
      refine VO.cons rfl (V1.it ?_)
      refine VO.nil (V.cond rfl (fun hc4 => ?_) (fun hc4 => ?_))
      ·
       replace hm2 := cond_t hc4 hm2
       replace hm2 := asrt_some hm2; rcases hm2 with ⟨hh10, hm2⟩
       refine V.region (VO.cons rfl (V1.mv ?_))
       refine VO.cons rfl (V1.loadRefAll (k := 0) rfl rfl tyk_67 rfl rfl rfl rfl rfl lt0 ?_)
       refine VO.cons rfl (V1.buildSliceT (f := (encCarton rn)) ([x] : List Carton) rfl rfl esz_39 zk_67 rfl rfl rfl rfl rfl rfl rfl lt0 ?_)
       intro b7
       refine VO.cons rfl (V1.appendMap (k := 2) (f := (encCarton rn)) (l := out_0) (m := ([x] : List Carton)) rfl rfl rfl rfl rfl esz_39 eby_39 zk_67 rfl rfl rfl (SrcOf.srMap (k := 0) rfl isl_39) hh10 lt0 ?_)
       intro b8
       refine VO.cons rfl (V1.as ?_)
       refine VO.nil ?_
       exact ⟨((out_0 ++ ([x] : List Carton)), b8), oi hm2, Keeps.mk (ks := [0]) rfl ⟨rfl, rfl, rfl, rfl, rfl, rfl, trivial⟩ (⟨_, _, rfl, rfl, rfl⟩) rfl⟩
      ·
       replace hm2 := cond_f hc4 hm2
       refine V.skip ?_
       exact ⟨(out_0, b4), oi hm2, Keeps.mk (ks := [1]) rfl ⟨rfl, rfl, rfl, rfl, rfl, rfl, trivial⟩ (⟨_, _, rfl, rfl, rfl⟩) rfl⟩
    ·
     rintro ⟨out_1, b5⟩ rfl
     try dsimp only at hm1
     refine V.region (VO.cons rfl (V1.mv ?_))
     refine VO.cons rfl (V1.it ?_)
     refine VO.cons rfl (V1.as ?_)
     refine VO.nil ?_
     exact ⟨(m0, (out_1, (IntKind.i64.wrap (n_ + (1 : Int)))), b5), hl1 _ (oi hm1).symm, Nat.lt_succ_self _, Keeps.mk (ks := [0]) rfl ⟨rfl, rfl, rfl, rfl, rfl, rfl, trivial⟩ (⟨_, _, rfl, rfl, rfl⟩) rfl⟩
   ·
    replace hm1 := cond_f hc1 hm1
    refine V.exit ?_
    obtain rfl := hr1 _ (oi hm1).symm
    exact ⟨(out_0, b4), rfl, Keeps.mk (ks := [0]) rfl ⟨rfl, trivial⟩ (⟨_, _, rfl, rfl, rfl⟩) rfl⟩
  ·
   rintro ⟨out_, b3⟩ rfl
   try dsimp only at hm0
   refine V.seq (V.seq ?_)
   replace hm0 := bindO hm0; rcases hm0 with ⟨y7, hh11, hm0⟩
   refine V.region (VO.cons rfl (V1.mv ?_))
   refine VO.cons rfl (V1.callL (rn + 1) [b3] [.vl (rn + 1) 5 (List.map (encCarton rn) out_)] rfl rfl rfl cok_60 rfl ⟨_, _, rfl, Lend.srMap 0 rfl (fun _ => rfl) (.head _), rfl⟩ (bwCons (k := 0) rfl bwNil) (ok_spec_l18Good hh11) rfl (⟨(by first | omega | (dsimp only; omega)), by rintro _ _ ⟨rfl, rfl⟩; exact ⟨rfl, by simp⟩⟩) lt0 ?_)
   rintro _ _ ⟨rfl, rfl⟩
   refine VO.cons rfl (V1.not rfl rfl rfl lt0 ?_)
   refine VO.nil (V.cond rfl (fun hc5 => ?_) (fun hc5 => ?_))
   ·
    replace hm0 := cond_t hc5 hm0
    refine V.seq (V.region (VO.cons rfl (V1.buildSliceT (f := (encCarton rn)) ([] : List Carton) rfl rfl esz_39 zk_67 rfl rfl rfl rfl rfl rfl rfl lt0 ?_)))
    intro b9
    refine VO.cons rfl (V1.as ?_)
    refine VO.cons rfl (V1.as ?_)
    refine VO.nil (V.keep 97 [6, 7] [0] (E0 := [(6, .sref b9 5 0 (List.length ([] : List Carton))), (7, .bool false)]) (H0 := [(b9, ⟨5, List.map (encCarton rn) ([] : List Carton)⟩)]) rfl (⟨_, _, rfl, rfl, _, _, rfl, rfl, rfl⟩) (⟨_, _, rfl, rfl, rfl⟩) rfl ?_)
    refine V.ret ?_
    obtain rfl := oi hm0
    exact ⟨_, _, ⟨_, _, rfl, rfl, _, _, rfl, rfl, rfl⟩, List.Sublist.refl _, b9, rfl, rfl⟩
   ·
    replace hm0 := cond_f hc5 hm0
    refine V.skip ?_
    refine V.seq (V.region (VO.cons rfl (V1.mv ?_)))
    refine VO.cons rfl (V1.as ?_)
    refine VO.cons rfl (V1.as ?_)
    refine VO.nil (V.keep 97 [6, 7] [0] (E0 := [(6, .sref b3 5 0 (List.length out_)), (7, .bool true)]) (H0 := [(b3, ⟨5, List.map (encCarton rn) out_⟩)]) rfl (⟨_, _, rfl, rfl, _, _, rfl, rfl, rfl⟩) (⟨_, _, rfl, rfl, rfl⟩) rfl ?_)
    refine V.ret ?_
    obtain rfl := oi hm0
    exact ⟨_, _, ⟨_, _, rfl, rfl, _, _, rfl, rfl, rfl⟩, List.Sublist.refl _, b3, rfl, rfl⟩
theorem ok_spec_DrawFindFile {ρ0 rn : Nat} {code : List Int} {r : List Carton × Int} (h : M.spec_DrawFindFile code = some r) : Does Try.prog 49 [.vl ρ0 1 (List.map encU8 code)] [] rn (fun x H => ∃ (ob0_ : Nat), x = .tup [PV.sref ob0_ 5 0 (List.length r.1), .int .i64 r.2] ∧ H = [(ob0_, ⟨5, List.map (encCarton rn) r.1⟩)]) := by
 have hm0 := h; clear h; unfold M.spec_DrawFindFile at hm0
 try dsimp only at hm0
 refine Does.intro (N := 15) Try.func49 rfl rfl rfl rfl ?_
 intro w0 S0
 refine V.seq (V.region (VO.cons rfl (V1.as ?_)))
 refine VO.cons rfl (V1.as ?_)
 refine VO.nil (V.seq (V.region (VO.cons rfl (V1.mv ?_))))
 refine VO.cons rfl (V1.build rfl rfl zk_99 pl_99 rfl rfl lt0 ?_)
 refine VO.cons rfl (V1.boxN (n := 3) rfl rfl rfl rfl rfl lt0 ?_)
 intro b0
 refine VO.cons rfl (V1.as ?_)
 refine VO.nil (V.keep 15 [4] [0] (E0 := [(4, .ref b0 3 0 0)]) (H0 := [(b0, ⟨3, [.agg [.vl ρ0 1 (List.map encU8 code), .int .i64 (0 : Int), .int .u64 (0 : Int)]]⟩)]) rfl (⟨_, _, rfl, rfl, rfl⟩) (⟨_, _, rfl, rfl, rfl⟩) rfl ?_)
 refine V.seq ?_
 replace hm0 := bindO hm0; rcases hm0 with ⟨y0, hh0, hm0⟩
 refine V.region (VO.cons rfl (V1.mv ?_))
 refine VO.cons rfl (V1.callM 0 (rn + ρ0 + 1) [] [.ref b0 3 0 0] (p := (b0, ⟨3, [.agg [.vl ρ0 1 (List.map encU8 code), .int .i64 (0 : Int), .int .u64 (0 : Int)]]⟩)) rfl rfl rfl cok_84 rfl rfl ⟨_, _, rfl, .same _, rfl⟩ bwNil (ok_spec_l1Cur_cartons hh0) rfl (.inl rfl) lt0 ?_)
 rintro _ _ ⟨b1, rfl, rfl⟩
 refine VO.cons rfl (V1.as ?_)
 refine VO.nil (V.seq ?_)
 replace hm0 := bindO hm0; rcases hm0 with ⟨y1, hh1, hm0⟩
 refine V.region (VO.cons rfl (V1.mv ?_))
 refine VO.cons rfl (V1.mv ?_)
 refine VO.cons rfl (V1.mv ?_)
 refine VO.cons rfl (V1.callM 1 (rn + ρ0 + 1) [b1] [.ref b0 3 0 0, .vl (rn + ρ0 + 1) 5 (List.map (encCarton rn) y0.1)] (p := (b0, ⟨3, [encCur ρ0 y0.2]⟩)) rfl rfl rfl cok_85 rfl rfl ⟨_, _, rfl, .same _, ⟨_, _, rfl, Lend.srMap 0 rfl (fun _ => rfl) (.head _), rfl⟩⟩ (bwCons (k := 0) rfl bwNil) (ok_spec_l1Cur_filed hh1) rfl (.inr ⟨(by first | omega | (dsimp only; omega)), by rintro _ _ ⟨rfl, rfl⟩; exact ⟨by simp [PV.no, PV.noL, optS_no, noL_iff, nbeq] <;> omega, by intro b ob h; first | exact optH_no (noL_map (fun _ => by simp [PV.no, PV.noL, noL_iff, nbeq]) _) b ob h | (simp only [List.append_assoc, List.mem_append, List.mem_cons, List.mem_singleton, List.not_mem_nil, or_false, Prod.mk.injEq] at h; rcases h with ⟨rfl, rfl⟩ | ⟨rfl, rfl⟩ <;> first | exact noL_map (fun _ => by simp [PV.no, PV.noL, noL_iff, nbeq]) _ | (simp [PV.no, PV.noL, optS_no, noL_iff, nbeq] <;> omega)) | (simp at h; obtain ⟨rfl, rfl⟩ := h; exact noL_map (fun _ => by simp [PV.no, PV.noL, noL_iff, nbeq]) _) | (simp at h; obtain ⟨rfl, rfl⟩ := h; simp [PV.no, PV.noL, optS_no, noL_iff, nbeq] <;> omega)⟩⟩) lt0 ?_)
 rintro _ _ ⟨rfl, rfl⟩
 refine VO.cons rfl (V1.as ?_)
 refine VO.cons rfl (V1.as ?_)
 refine VO.nil (V.keep 15 [2, 3] [1] (E0 := [(2, .sref b1 5 0 (List.length y0.1)), (3, .int .i64 y1.1)]) (H0 := [(b1, ⟨5, List.map (encCarton rn) y0.1⟩)]) rfl (⟨_, _, rfl, rfl, _, _, rfl, rfl, rfl⟩) (⟨_, _, rfl, rfl, rfl⟩) rfl ?_)
 refine V.ret ?_
 obtain rfl := oi hm0
 exact ⟨_, _, ⟨_, _, rfl, rfl, _, _, rfl, rfl, rfl⟩, List.Sublist.refl _, b1, rfl, rfl⟩
theorem ok_spec_FindFile {ρ0 σ0 rn : Nat} {list : List Carton} {file : Int} {r : Int × Int × Int × Bool} (h : M.spec_FindFile list file = some r) : Does Try.prog 50 [.vl ρ0 5 (List.map (encCarton σ0) list), .int .i64 file] [] rn (fun x H => x = .tup [.int .i64 r.1, .int .i64 r.2.1, .int .i64 r.2.2.1, .bool r.2.2.2] ∧ H = []) := by
 have hm0 := h; clear h; unfold M.spec_FindFile at hm0
 try dsimp only at hm0
 refine Does.intro (N := 34) Try.func50 rfl rfl rfl rfl ?_
 intro w0 S0
 refine V.seq (V.region (VO.cons rfl (V1.as ?_)))
 refine VO.cons rfl (V1.as ?_)
 refine VO.cons rfl (V1.as ?_)
 refine VO.cons rfl (V1.as ?_)
 refine VO.nil (V.keep 34 [0, 1] [] (E0 := [(0, .vl ρ0 5 (List.map (encCarton σ0) list)), (1, .int .i64 file)]) (H0 := []) rfl (⟨_, _, rfl, rfl, _, _, rfl, rfl, rfl⟩) (rfl) rfl ?_)
 refine V.seq ?_
 replace hm0 := bindO hm0; rcases hm0 with ⟨y0, hh0, hm0⟩
 refine V.region (VO.cons rfl (V1.mv ?_))
 refine VO.cons rfl (V1.mv ?_)
 refine VO.cons rfl (V1.call rfl rfl rfl cok_69 rfl (ok_spec_l18Holds hh0) rfl lt0 ?_)
 rintro _ _ ⟨rfl, rfl⟩
 refine VO.cons rfl (V1.as ?_)
 refine VO.nil (V.keep 34 [0, 8] [] (E0 := [(0, .vl ρ0 5 (List.map (encCarton σ0) list)), (8, .int .i64 y0)]) (H0 := []) rfl (⟨_, _, rfl, rfl, _, _, rfl, rfl, rfl⟩) (rfl) rfl ?_)
 refine V.seq (V.seq ?_)
 replace hm0 := bindO hm0; rcases hm0 with ⟨y1, hh1, hm0⟩
 refine V.region (VO.cons rfl (V1.mv ?_))
 refine VO.cons rfl (V1.call rfl rfl rfl cok_60 rfl (ok_spec_l18Good hh1) rfl lt0 ?_)
 rintro _ _ ⟨rfl, rfl⟩
 refine VO.cons rfl (V1.not rfl rfl rfl lt0 ?_)
 refine VO.cons rfl (V1.mv ?_)
 apply VO.or (n := 2) rfl rfl rfl rfl rfl rfl lt0 (.none rfl)
 ·
  intro hg0
  refine VO.step (.some rfl rfl rfl) (V1.mv ?_)
  refine VO.step (.some rfl rfl rfl) (V1.it ?_)
  exact VO.nil ⟨rfl, rfl, rfl, rfl, .inr ⟨rfl, .inr ⟨rfl, .inr ⟨rfl, .inl rfl⟩⟩⟩⟩
 refine VO.nil (V.keep 34 [0, 8, 18] [] (E0 := [(0, .vl ρ0 5 (List.map (encCarton σ0) list)), (8, .int .i64 y0), (18, .bool ((!y1) || (decide (y0 < (0 : Int)))))]) (H0 := []) rfl (⟨_, _, rfl, rfl, _, _, rfl, rfl, _, _, rfl, rfl, rfl⟩) (rfl) rfl ?_)
 refine V.cond rfl (fun hc0 => ?_) (fun hc0 => ?_)
 ·
  replace hm0 := cond_t hc0 hm0
  refine V.seq (V.region (VO.cons rfl (V1.as ?_)))
  refine VO.cons rfl (V1.as ?_)
  refine VO.cons rfl (V1.as ?_)
  refine VO.cons rfl (V1.as ?_)
  refine VO.nil (V.ret ?_)
  obtain rfl := oi hm0
  exact ⟨_, [], ⟨_, _, rfl, rfl, _, _, rfl, rfl, _, _, rfl, rfl, _, _, rfl, rfl, rfl⟩, List.nil_sublist _, rfl, rfl⟩
 ·
  replace hm0 := cond_f hc0 hm0
  refine V.skip ?_
  refine V.seq ?_
  replace hm0 := asrt_some hm0; rcases hm0 with ⟨hh2, hm0⟩
  replace hm0 := asrt_some hm0; rcases hm0 with ⟨hh3, hm0⟩
  replace hm0 := asrt_some hm0; rcases hm0 with ⟨hh4, hm0⟩
  refine V.regionM 34 17 [⟨[(0, none)], [], none⟩, ⟨[(8, none)], [], none⟩, ⟨[(19, some 1), (20, some 0)], [], none⟩, ⟨[(21, some 0)], [], none⟩, ⟨[(22, some 0)], [], none⟩, ⟨[(0, none)], [], none⟩, ⟨[(8, none)], [], none⟩, ⟨[(24, some 1), (25, some 0)], [], none⟩, ⟨[(26, some 0)], [], none⟩, ⟨[(27, some 0)], [], none⟩, ⟨[(0, none)], [], none⟩, ⟨[(8, none)], [], none⟩, ⟨[(29, some 1), (30, some 0)], [], none⟩, ⟨[(31, some 0)], [], none⟩, ⟨[(32, some 0)], [], none⟩, ⟨[(23, some 10)], [], none⟩, ⟨[(28, some 6)], [], none⟩] [(4, some 1), (5, some 0), (33, some 2)] (⟨_, rfl, ⟨_, rfl, ⟨_, rfl, ⟨_, rfl, ⟨_, rfl, ⟨_, rfl, ⟨_, rfl, ⟨_, rfl, ⟨_, rfl, ⟨_, rfl, ⟨_, rfl, ⟨_, rfl, ⟨_, rfl, ⟨_, rfl, ⟨_, rfl, ⟨_, rfl, ⟨_, rfl, ⟨rfl, rfl⟩⟩⟩⟩⟩⟩⟩⟩⟩⟩⟩⟩⟩⟩⟩⟩⟩⟩) mixed_orders rfl (by decide +kernel) (fun hck4 => ?_)
  refine VP.step (p := ?pv41) rfl rfl rfl (⟨_, _, rfl, rfl, rfl⟩) ?hv41 ?rest41 hck4
  case hv41 =>
   intro E1
   refine (V1.mv ?_)
   exact rfl
  refine VP.step (p := ?pv42) rfl rfl rfl (⟨_, _, rfl, rfl, rfl⟩) ?hv42 ?rest42 hck4
  case hv42 =>
   intro E1
   refine (V1.mv ?_)
   exact rfl
  refine VP.step (p := ?pv43) rfl rfl rfl (⟨_, _, rfl, rfl, _, _, rfl, rfl, rfl⟩) ?hv43 ?rest43 hck4
  case hv43 =>
   intro E1
   refine (V1.indexI rfl rfl esz_39 rfl rfl hh2 lt0 ?_)
   exact rfl
  refine VP.step (p := ?pv44) rfl rfl rfl (⟨_, _, rfl, rfl, rfl⟩) ?hv44 ?rest44 hck4
  case hv44 =>
   intro E1
   refine (V1.fieldPin rfl rfl fo_67_0 rfl lt0 ?_)
   exact rfl
  refine VP.step (p := ?pv45) rfl rfl rfl (⟨_, _, rfl, rfl, rfl⟩) ?hv45 ?rest45 hck4
  case hv45 =>
   intro E1
   refine (V1.loadPin rfl rfl tyk_3 rfl rfl lt0 ?_)
   exact rfl
  refine VP.step (p := ?pv46) rfl rfl rfl (⟨_, _, rfl, rfl, rfl⟩) ?hv46 ?rest46 hck4
  case hv46 =>
   intro E1
   refine (V1.mv ?_)
   exact rfl
  refine VP.step (p := ?pv47) rfl rfl rfl (⟨_, _, rfl, rfl, rfl⟩) ?hv47 ?rest47 hck4
  case hv47 =>
   intro E1
   refine (V1.mv ?_)
   exact rfl
  refine VP.step (p := ?pv48) rfl rfl rfl (⟨_, _, rfl, rfl, _, _, rfl, rfl, rfl⟩) ?hv48 ?rest48 hck4
  case hv48 =>
   intro E1
   refine (V1.indexI rfl rfl esz_39 rfl rfl hh3 lt0 ?_)
   exact rfl
  refine VP.step (p := ?pv49) rfl rfl rfl (⟨_, _, rfl, rfl, rfl⟩) ?hv49 ?rest49 hck4
  case hv49 =>
   intro E1
   refine (V1.fieldPin rfl rfl fo_67_2 rfl lt0 ?_)
   exact rfl
  refine VP.step (p := ?pv50) rfl rfl rfl (⟨_, _, rfl, rfl, rfl⟩) ?hv50 ?rest50 hck4
  case hv50 =>
   intro E1
   refine (V1.loadPin rfl rfl tyk_3 rfl rfl lt0 ?_)
   exact rfl
  refine VP.step (p := ?pv51) rfl rfl rfl (⟨_, _, rfl, rfl, rfl⟩) ?hv51 ?rest51 hck4
  case hv51 =>
   intro E1
   refine (V1.mv ?_)
   exact rfl
  refine VP.step (p := ?pv52) rfl rfl rfl (⟨_, _, rfl, rfl, rfl⟩) ?hv52 ?rest52 hck4
  case hv52 =>
   intro E1
   refine (V1.mv ?_)
   exact rfl
  refine VP.step (p := ?pv53) rfl rfl rfl (⟨_, _, rfl, rfl, _, _, rfl, rfl, rfl⟩) ?hv53 ?rest53 hck4
  case hv53 =>
   intro E1
   refine (V1.indexI rfl rfl esz_39 rfl rfl hh4 lt0 ?_)
   exact rfl
  refine VP.step (p := ?pv54) rfl rfl rfl (⟨_, _, rfl, rfl, rfl⟩) ?hv54 ?rest54 hck4
  case hv54 =>
   intro E1
   refine (V1.fieldPin rfl rfl fo_67_1 rfl lt0 ?_)
   exact rfl
  refine VP.step (p := ?pv55) rfl rfl rfl (⟨_, _, rfl, rfl, rfl⟩) ?hv55 ?rest55 hck4
  case hv55 =>
   intro E1
   refine (V1.loadPin rfl rfl tyk_3 rfl rfl lt0 ?_)
   exact rfl
  refine VP.step (p := ?pv56) rfl rfl rfl (⟨_, _, rfl, rfl, rfl⟩) ?hv56 ?rest56 hck4
  case hv56 =>
   intro E1
   refine (V1.as ?_)
   exact rfl
  refine VP.step (p := ?pv57) rfl rfl rfl (⟨_, _, rfl, rfl, rfl⟩) ?hv57 ?rest57 hck4
  case hv57 =>
   intro E1
   refine (V1.as ?_)
   exact rfl
  refine VP.fin rfl (⟨_, _, rfl, rfl, _, _, rfl, rfl, _, _, rfl, rfl, rfl⟩) ?_
  refine VO.cons rfl (V1.as ?_)
  refine VO.cons rfl (V1.as ?_)
  refine VO.nil (V.ret ?_)
  obtain rfl := oi hm0
  exact ⟨_, [], ⟨_, _, rfl, rfl, _, _, rfl, rfl, _, _, rfl, rfl, _, _, rfl, rfl, rfl⟩, List.nil_sublist _, rfl, rfl⟩
end Go.Proofs.Ytfebeomnlkfgoaa
