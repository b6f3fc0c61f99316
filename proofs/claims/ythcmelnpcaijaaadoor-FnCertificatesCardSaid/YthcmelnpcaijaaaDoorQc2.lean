/- the functions do what their models say -/
import Derived.Test.YthcmelnpcaijaaaDoorQc1
set_option linter.unusedSimpArgs false
set_option linter.unusedVariables false
set_option maxRecDepth 100000
set_option maxHeartbeats 4000000
namespace Go.Proofs.YthcmelnpcaijaaaDoor
open Go.VS

theorem ok_spec_l1Cur_path {ρ0 rn bp : Nat} {c : Cur} {r : List UInt8 × (List (Int × Int)) × Int × Cur} (h : M.spec_l1Cur_path c = some r) : Does Tryd.prog 143 [.ref bp 3 0 0] [(bp, ⟨3, [encCur ρ0 c]⟩)] rn (fun x H => ∃ (ob1_ : Nat), x = .tup [.str r.1, PV.sref ob1_ 2 0 (List.length r.2.1), .int .i64 r.2.2.1] ∧ H = [(ob1_, ⟨2, List.map encPair r.2.1⟩)] ++ [(bp, ⟨3, [encCur ρ0 r.2.2.2]⟩)]) := by
 have hm0 := h; clear h; unfold M.spec_l1Cur_path at hm0
 try dsimp only at hm0
 refine Does.intro (N := 95) Tryd.func143 rfl rfl rfl rfl ?_
 intro w0 S0 L0
 refine V.seq ?_
 refine V.region ?_
 refine VO.cons rfl (V1.assign rfl rfl rfl lt0 ?_)
 refine VO.cons rfl (V1.assign rfl rfl rfl lt0 ?_)
 refine VO.cons rfl (V1.assign rfl rfl rfl lt0 ?_)
 refine VO.nil ?_
 refine V.seq ?_
 replace hm0 := bindO hm0; rcases hm0 with ⟨y0, hh0, hm0⟩
 refine V.region ?_
 refine VO.cons rfl (V1.move rfl rfl rfl lt0 ?_)
 refine VO.cons rfl (V1.callM 0 (rn + ρ0 + 1) [] [.ref bp 3 0 0] (p := (bp, ⟨3, [encCur ρ0 c]⟩)) rfl rfl rfl cok_123 rfl rfl ⟨_, _, rfl, .same _, rfl⟩ bwNil (ok_spec_l1Cur_ledger hh0) rfl (.inl rfl) lt0 ?_)
 rintro _ _ ⟨b0, rfl, rfl⟩
 refine VO.weakenK (Keeps.freezeG 0 rn [(14, .vl rn 1 (List.map encStr y0.1))] ([(bp, ⟨3, [encCur ρ0 y0.2]⟩)]) (f := encStr) (l := y0.1) rfl (fun _ => rfl) ⟨⟨_, rfl, .here⟩, trivial⟩ ⟨_, _, rfl, rfl, .inl rfl, rfl⟩ rfl (iOne (b := bp) 0 rfl)) ?_
 refine VO.cons rfl (V1.assign rfl rfl rfl lt0 ?_)
 refine VO.nil ?_
 refine V.keep 95 [0, 5] [0] (E0 := [(0, .ref bp 3 0 0), (5, .vl rn 1 (List.map encStr y0.1))]) (H0 := [(bp, ⟨3, [encCur ρ0 y0.2]⟩)]) rfl (⟨_, _, rfl, rfl, _, _, rfl, rfl, rfl⟩) (⟨_, _, rfl, rfl, rfl⟩) rfl ?_
 refine V.seq ?_
 replace hm0 := bindO hm0; rcases hm0 with ⟨y1, hh1, hm0⟩
 replace hm0 := bindO hm0; rcases hm0 with ⟨y2, hh2, hm0⟩
 refine V.region ?_
 refine VO.cons rfl (V1.move rfl rfl rfl lt0 ?_)
 refine VO.cons rfl (V1.move rfl rfl rfl lt0 ?_)
 refine VO.cons rfl (V1.lenMap rfl rfl rfl rfl rfl rfl isl_28 lt0 ?_)
 refine VO.cons rfl (V1.call rfl rfl rfl cok_167 rfl (ok_spec_l1Most hh1) rfl lt0 ?_)
 rintro _ _ ⟨rfl, rfl⟩
 refine VO.cons rfl (V1.callM 0 (rn + ρ0 + 1) [] [.ref bp 3 0 0, .int .i64 y1] (p := (bp, ⟨3, [encCur ρ0 y0.2]⟩)) rfl rfl rfl cok_139 rfl rfl ⟨_, _, rfl, .same _, ⟨_, _, rfl, .same _, rfl⟩⟩ bwNil (ok_spec_l1Cur_pick hh2) rfl (.inl rfl) lt0 ?_)
 rintro _ _ ⟨rfl, rfl⟩
 refine VO.cons rfl (V1.assign rfl rfl rfl lt0 ?_)
 refine VO.nil ?_
 refine V.keep 95 [0, 5, 6] [0] (E0 := [(0, .ref bp 3 0 0), (5, .vl rn 1 (List.map encStr y0.1)), (6, .int .i64 y2.1)]) (H0 := [(bp, ⟨3, [encCur ρ0 y2.2]⟩)]) rfl (⟨_, _, rfl, rfl, _, _, rfl, rfl, _, _, rfl, rfl, rfl⟩) (⟨_, _, rfl, rfl, rfl⟩) rfl ?_
 refine V.seq ?_
 replace hm0 := bindO hm0; rcases hm0 with ⟨y3, hh3, hm0⟩
 refine V.region ?_
 refine VO.cons rfl (V1.move rfl rfl rfl lt0 ?_)
 refine VO.cons rfl (V1.move rfl rfl rfl lt0 ?_)
 refine VO.cons rfl (V1.call rfl rfl rfl cok_32 rfl (ok_spec_PathOf hh3) rfl lt0 ?_)
 rintro _ _ ⟨b1, rfl, rfl⟩
 refine VO.cons rfl (V1.move rfl rfl rfl lt0 ?_)
 refine VO.cons rfl (V1.extract rfl rfl rfl rfl lt0 ?_)
 refine VO.cons rfl (V1.extract rfl rfl rfl rfl lt0 ?_)
 refine VO.cons rfl (V1.assign rfl rfl rfl lt0 ?_)
 refine VO.cons rfl (V1.assign rfl rfl rfl lt0 ?_)
 refine VO.nil ?_
 refine V.keep 95 [0, 5, 6, 7, 8] [0, 1] (E0 := [(0, .ref bp 3 0 0), (5, .vl rn 1 (List.map encStr y0.1)), (6, .int .i64 y2.1), (7, .sref b1 2 0 (List.length y3.1)), (8, .bool y3.2)]) (H0 := [(b1, ⟨2, List.map encPair y3.1⟩), (bp, ⟨3, [encCur ρ0 y2.2]⟩)]) rfl (⟨_, _, rfl, rfl, _, _, rfl, rfl, _, _, rfl, rfl, _, _, rfl, rfl, _, _, rfl, rfl, rfl⟩) (⟨_, _, rfl, rfl, _, _, rfl, rfl, rfl⟩) rfl ?_
 refine V.seq ?_
 replace hm0 := bindO hm0; rcases hm0 with ⟨y4, hh4, hm0⟩
 refine V.region ?_
 refine VO.cons rfl (V1.move rfl rfl rfl lt0 ?_)
 refine VO.cons rfl (V1.call rfl rfl rfl cok_26 rfl (ok_spec_RootOf hh4) rfl lt0 ?_)
 rintro _ _ ⟨rfl, rfl⟩
 refine VO.cons rfl (V1.move rfl rfl rfl lt0 ?_)
 refine VO.cons rfl (V1.extract rfl rfl rfl rfl lt0 ?_)
 refine VO.cons rfl (V1.extract rfl rfl rfl rfl lt0 ?_)
 refine VO.cons rfl (V1.assign rfl rfl rfl lt0 ?_)
 refine VO.cons rfl (V1.assign rfl rfl rfl lt0 ?_)
 refine VO.nil ?_
 refine V.keep 95 [0, 5, 6, 7, 8, 9, 10] [0, 1] (E0 := [(0, .ref bp 3 0 0), (5, .vl rn 1 (List.map encStr y0.1)), (6, .int .i64 y2.1), (7, .sref b1 2 0 (List.length y3.1)), (8, .bool y3.2), (9, .int .i64 y4.1), (10, .bool y4.2)]) (H0 := [(b1, ⟨2, List.map encPair y3.1⟩), (bp, ⟨3, [encCur ρ0 y2.2]⟩)]) rfl (⟨_, _, rfl, rfl, _, _, rfl, rfl, _, _, rfl, rfl, _, _, rfl, rfl, _, _, rfl, rfl, _, _, rfl, rfl, _, _, rfl, rfl, rfl⟩) (⟨_, _, rfl, rfl, _, _, rfl, rfl, rfl⟩) rfl ?_
 refine V.seq ?_
 refine V.seq ?_
 replace hm0 := bindO hm0; rcases hm0 with ⟨y5, hh5, hm0⟩
 refine V.region ?_
 refine VO.cons rfl (V1.move rfl rfl rfl lt0 ?_)
 refine VO.cons rfl (V1.not rfl rfl rfl lt0 ?_)
 refine VO.cons rfl (V1.move rfl rfl rfl lt0 ?_)
 apply VO.or (n := 2) rfl rfl rfl rfl rfl rfl lt0 (.none rfl)
 ·
  intro hg0
  refine VO.step (.some rfl rfl rfl) (V1.move rfl rfl rfl lt0 ?_)
  refine VO.step (.some rfl rfl rfl) (V1.not rfl rfl rfl lt0 ?_)
  exact VO.nil ⟨rfl, rfl, rfl, rfl, .inr ⟨rfl, .inr ⟨rfl, .inr ⟨rfl, .inl rfl⟩⟩⟩⟩
 refine VO.cons rfl (V1.move rfl rfl rfl lt0 ?_)
 apply VO.orH (n := 2) [(b1, ⟨2, List.map encPair y3.1⟩), (bp, ⟨3, [encCur ρ0 (bif ((!y3.2) || (!y4.2)) then y2.2 else y5.2)]⟩)] rfl rfl rfl rfl rfl rfl lt0 (.none rfl) (fun h => by rw [h]; rfl)
 ·
  intro hg1
  refine VO.step (.some rfl rfl rfl) (V1.move rfl rfl rfl lt0 ?_)
  refine VO.step (.some rfl rfl rfl) (V1.callM 1 (rn + ρ0 + 1) [] [.ref bp 3 0 0, .int .i64 (8 : Int)] (p := (bp, ⟨3, [encCur ρ0 y2.2]⟩)) rfl rfl rfl cok_147 rfl rfl ⟨_, _, rfl, .same _, ⟨_, _, rfl, .same _, rfl⟩⟩ bwNil (ok_spec_l1Cur_one (cond_f hg1 hh5)) rfl (.inl rfl) lt0 ?_)
  rintro _ _ ⟨rfl, rfl⟩
  refine VO.weakenK (Keeps.setAt (H := [(b1, ⟨2, List.map encPair y3.1⟩), (bp, ⟨3, [encCur ρ0 y2.2]⟩)]) 1 lt0) ?_
  exact VO.nil ⟨rfl, rfl, rfl, (by rw [hg1]; rfl), .inr ⟨rfl, .inr ⟨rfl, .inr ⟨rfl, .inl rfl⟩⟩⟩⟩
 refine VO.nil ?_
 refine V.keep 95 [0, 5, 6, 7, 9, 40] [0, 1] (E0 := [(0, .ref bp 3 0 0), (5, .vl rn 1 (List.map encStr y0.1)), (6, .int .i64 y2.1), (7, .sref b1 2 0 (List.length y3.1)), (9, .int .i64 y4.1), (40, .bool (((!y3.2) || (!y4.2)) || y5.1))]) (H0 := [(b1, ⟨2, List.map encPair y3.1⟩), (bp, ⟨3, [encCur ρ0 (bif ((!y3.2) || (!y4.2)) then y2.2 else y5.2)]⟩)]) rfl (⟨_, _, rfl, rfl, _, _, rfl, rfl, _, _, rfl, rfl, _, _, rfl, rfl, _, _, rfl, rfl, _, _, rfl, rfl, rfl⟩) (⟨_, _, rfl, rfl, _, _, rfl, rfl, rfl⟩) rfl ?_
 refine V.cond rfl (fun hc0 => ?_) (fun hc0 => ?_)
 ·
  replace hm0 := cond_t hc0 hm0
  refine V.seq ?_
  replace hm0 := bindO hm0; rcases hm0 with ⟨y6, hh6, hm0⟩
  replace hm0 := bindO hm0; rcases hm0 with ⟨y7, hh7, hm0⟩
  replace hm0 := bindO hm0; rcases hm0 with ⟨y8, hh8, hm0⟩
  refine V.region ?_
  refine VO.cons rfl (V1.move rfl rfl rfl lt0 ?_)
  refine VO.cons rfl (V1.callM 1 (rn + ρ0 + 1) [] [.ref bp 3 0 0] (p := (bp, ⟨3, [encCur ρ0 (bif ((!y3.2) || (!y4.2)) then y2.2 else y5.2)]⟩)) rfl rfl rfl cok_111 rfl rfl ⟨_, _, rfl, .same _, rfl⟩ bwNil (ok_spec_l1Cur_entry hh6) rfl (.inl rfl) lt0 ?_)
  rintro _ _ ⟨rfl, rfl⟩
  refine VO.cons rfl (V1.move rfl rfl rfl lt0 ?_)
  refine VO.cons rfl (V1.callM 0 (rn + ρ0 + 1) [] [.ref bp 3 0 0, .int .i64 (3 : Int)] (p := (bp, ⟨3, [encCur ρ0 y6.2]⟩)) rfl rfl rfl cok_139 rfl rfl ⟨_, _, rfl, .same _, ⟨_, _, rfl, .same _, rfl⟩⟩ bwNil (ok_spec_l1Cur_pick hh7) rfl (.inl rfl) lt0 ?_)
  rintro _ _ ⟨rfl, rfl⟩
  refine VO.cons rfl (V1.move rfl rfl rfl lt0 ?_)
  refine VO.cons rfl (V1.buildSliceT (f := encInt) ([(0 : Int), (5 : Int), (999999 : Int), (1000000 : Int)] : List Int) rfl rfl esz_76 zk_3 rfl rfl rfl rfl rfl rfl rfl lt0 ?_)
  intro b2
  refine VO.cons rfl (V1.callM 1 (rn + ρ0 + 1) [b2] [.ref bp 3 0 0, .vl (rn + ρ0 + 1) 1 (List.map encInt ([(0 : Int), (5 : Int), (999999 : Int), (1000000 : Int)] : List Int))] (p := (bp, ⟨3, [encCur ρ0 y7.2]⟩)) rfl rfl rfl cok_120 rfl rfl ⟨_, _, rfl, .same _, ⟨_, _, rfl, Lend.srMap 0 rfl (fun _ => rfl) (.head _), rfl⟩⟩ (bwCons (k := 0) rfl bwNil) (ok_spec_l1Cur_among hh8) rfl (.inr ⟨(by first | omega | (dsimp only; omega)), by rintro _ _ ⟨rfl, rfl⟩; exact ⟨by simp [PV.no, PV.noL, optS_no, noL_iff, nbeq] <;> omega, by intro b ob h; first | exact optH_no (noL_map (fun _ => by simp [PV.no, PV.noL, noL_iff, nbeq]) _) b ob h | (simp only [List.append_assoc, List.mem_append, List.mem_cons, List.mem_singleton, List.not_mem_nil, or_false, Prod.mk.injEq] at h; rcases h with ⟨rfl, rfl⟩ | ⟨rfl, rfl⟩ <;> first | exact noL_map (fun _ => by simp [PV.no, PV.noL, noL_iff, nbeq]) _ | (simp [PV.no, PV.noL, optS_no, noL_iff, nbeq] <;> omega)) | (simp at h; obtain ⟨rfl, rfl⟩ := h; exact noL_map (fun _ => by simp [PV.no, PV.noL, noL_iff, nbeq]) _) | (simp at h; obtain ⟨rfl, rfl⟩ := h; simp [PV.no, PV.noL, optS_no, noL_iff, nbeq] <;> omega)⟩⟩) lt0 ?_)
  rintro _ _ ⟨rfl, rfl⟩
  refine VO.cons rfl (V1.buildArr rfl rfl zk_145 und_145 tyk_3 rfl rfl lt0 ?_)
  refine VO.cons rfl (V1.buildSliceT (f := encPair) ([(y7.1, y8.1)] : List (Int × Int)) rfl rfl esz_46 zk_145 rfl rfl rfl rfl rfl rfl rfl lt0 ?_)
  intro b3
  refine VO.cons rfl (V1.assign rfl rfl rfl lt0 ?_)
  refine VO.cons rfl (V1.assign rfl rfl rfl lt0 ?_)
  refine VO.cons rfl (V1.assign rfl rfl rfl lt0 ?_)
  refine VO.nil ?_
  refine V.keep 95 [2, 3, 4] [0, 1] (E0 := [(2, .str y6.1), (3, .sref b3 2 0 (List.length ([(y7.1, y8.1)] : List (Int × Int)))), (4, .int .i64 (7 : Int))]) (H0 := [(b3, ⟨2, List.map encPair ([(y7.1, y8.1)] : List (Int × Int))⟩), (bp, ⟨3, [encCur ρ0 y8.2]⟩)]) rfl (⟨_, _, rfl, rfl, _, _, rfl, rfl, _, _, rfl, rfl, rfl⟩) (⟨_, _, rfl, rfl, _, _, rfl, rfl, rfl⟩) rfl ?_
  refine V.ret ?_
  obtain rfl := Option.some.inj hm0
  exact ⟨_, _, ⟨_, _, rfl, rfl, _, _, rfl, rfl, _, _, rfl, rfl, rfl⟩, List.Sublist.refl _, b3, rfl, rfl⟩
 ·
  replace hm0 := cond_f hc0 hm0
  refine V.skip ?_
  refine V.seq ?_
  replace hm0 := asrt_some hm0; rcases hm0 with ⟨hh9, hm0⟩
  refine V.region ?_
  refine VO.cons rfl (V1.move rfl rfl rfl lt0 ?_)
  refine VO.cons rfl (V1.move rfl rfl rfl lt0 ?_)
  refine VO.cons rfl (V1.indexI rfl rfl esz_28 rfl rfl hh9 lt0 ?_)
  refine VO.cons rfl (V1.loadPin rfl rfl tyk_9 rfl rfl lt0 ?_)
  refine VO.cons rfl (V1.assign rfl rfl rfl lt0 ?_)
  refine VO.nil ?_
  refine V.keep 95 [0, 7, 9, 11] [0, 1] (E0 := [(0, .ref bp 3 0 0), (7, .sref b1 2 0 (List.length y3.1)), (9, .int .i64 y4.1), (11, .str (y0.1.getD (Int.toNat y2.1) default))]) (H0 := [(b1, ⟨2, List.map encPair y3.1⟩), (bp, ⟨3, [encCur ρ0 (bif ((!y3.2) || (!y4.2)) then y2.2 else y5.2)]⟩)]) rfl (⟨_, _, rfl, rfl, _, _, rfl, rfl, _, _, rfl, rfl, _, _, rfl, rfl, rfl⟩) (⟨_, _, rfl, rfl, _, _, rfl, rfl, rfl⟩) rfl ?_
  refine V.seq ?_
  replace hm0 := bindO hm0; rcases hm0 with ⟨j0, hm1, hm0⟩
  refine V.cutT (D := (List UInt8 × Cur) × (Unit)) (fun ⟨⟨entry, c_⟩, _⟩ => ⟨95, [(11, .str entry), (0, .ref bp 3 0 0), (7, .sref b1 2 0 (List.length y3.1)), (9, .int .i64 y4.1)], [(bp, ⟨3, [encCur ρ0 c_]⟩), (b1, ⟨2, List.map encPair y3.1⟩)]⟩) (fun ⟨⟨entry, c_⟩, _⟩ => ((entry, c_) = j0)) ?_ ?_
  ·
   refine V.seq ?_
   replace hm1 := bindO hm1; rcases hm1 with ⟨y9, hh10, hm1⟩
   refine V.region ?_
   refine VO.cons rfl (V1.move rfl rfl rfl lt0 ?_)
   refine VO.cons rfl (V1.callM 1 (rn + ρ0 + 1) [] [.ref bp 3 0 0, .int .i64 (4 : Int)] (p := (bp, ⟨3, [encCur ρ0 (bif ((!y3.2) || (!y4.2)) then y2.2 else y5.2)]⟩)) rfl rfl rfl cok_147 rfl rfl ⟨_, _, rfl, .same _, ⟨_, _, rfl, .same _, rfl⟩⟩ bwNil (ok_spec_l1Cur_one hh10) rfl (.inl rfl) lt0 ?_)
   rintro _ _ ⟨rfl, rfl⟩
   refine VO.nil ?_
   refine V.cond rfl (fun hc1 => ?_) (fun hc1 => ?_)
   ·
    replace hm1 := cond_t hc1 hm1
    replace hm1 := bindO hm1; rcases hm1 with ⟨y10, hh11, hm1⟩
    refine V.region ?_
    refine VO.cons rfl (V1.move rfl rfl rfl lt0 ?_)
    refine VO.cons rfl (V1.callM 0 (rn + ρ0 + 1) [] [.ref bp 3 0 0] (p := (bp, ⟨3, [encCur ρ0 y9.2]⟩)) rfl rfl rfl cok_111 rfl rfl ⟨_, _, rfl, .same _, rfl⟩ bwNil (ok_spec_l1Cur_entry hh11) rfl (.inl rfl) lt0 ?_)
    rintro _ _ ⟨rfl, rfl⟩
    refine VO.cons rfl (V1.assign rfl rfl rfl lt0 ?_)
    refine VO.nil ?_
    exact ⟨((y10.1, y10.2), ()), Option.some.inj hm1, Keeps.mk (ks := [0, 1]) rfl ⟨rfl, rfl, rfl, rfl, trivial⟩ (⟨_, _, rfl, rfl, _, _, rfl, rfl, rfl⟩) rfl⟩
   ·
    replace hm1 := cond_f hc1 hm1
    refine V.skip ?_
    exact ⟨(((y0.1.getD (Int.toNat y2.1) default), y9.2), ()), Option.some.inj hm1, Keeps.mk (ks := [0, 1]) rfl ⟨rfl, rfl, rfl, rfl, trivial⟩ (⟨_, _, rfl, rfl, _, _, rfl, rfl, rfl⟩) rfl⟩
  ·
   rintro ⟨⟨entry, c_⟩, _⟩ rfl
   try dsimp only at hm0
   refine V.seq ?_
   replace hm0 := bindO hm0; rcases hm0 with ⟨j1, hm1, hm0⟩
   refine V.cutT (D := ((List (Int × Int)) × Cur) × (Unit)) (fun ⟨⟨out_, c_0⟩, _⟩ => ⟨95, [(7, .sref b1 2 0 (List.length out_)), (0, .ref bp 3 0 0), (9, .int .i64 y4.1), (11, .str entry)], [(b1, ⟨2, List.map encPair out_⟩), (bp, ⟨3, [encCur ρ0 c_0]⟩)]⟩) (fun ⟨⟨out_, c_0⟩, _⟩ => ((out_, c_0) = j1)) ?_ ?_
   ·
    refine V.seq ?_
    replace hm1 := bindO hm1; rcases hm1 with ⟨y11, hh12, hm1⟩
    refine V.region ?_
    refine VO.cons rfl (V1.move rfl rfl rfl lt0 ?_)
    refine VO.cons rfl (V1.callM 0 (rn + ρ0 + 1) [] [.ref bp 3 0 0, .int .i64 (4 : Int)] (p := (bp, ⟨3, [encCur ρ0 c_]⟩)) rfl rfl rfl cok_147 rfl rfl ⟨_, _, rfl, .same _, ⟨_, _, rfl, .same _, rfl⟩⟩ bwNil (ok_spec_l1Cur_one hh12) rfl (.inl rfl) lt0 ?_)
    rintro _ _ ⟨rfl, rfl⟩
    refine VO.cons rfl (V1.move rfl rfl rfl lt0 ?_)
    apply VO.and (n := 3) rfl rfl rfl rfl rfl rfl lt0 (.none rfl)
    ·
     intro hg2
     refine VO.step (.some rfl rfl rfl) (V1.move rfl rfl rfl lt0 ?_)
     refine VO.step (.some rfl rfl rfl) (V1.lenSref rfl rfl rfl rfl rfl rfl isl_46 lt0 ?_)
     refine VO.step (.some rfl rfl rfl) (V1.int rfl rfl rfl rfl rfl lt0 ?_)
     exact VO.nil ⟨rfl, rfl, rfl, rfl, .inr ⟨rfl, .inr ⟨rfl, .inr ⟨rfl, .inr ⟨rfl, .inl rfl⟩⟩⟩⟩⟩
    refine VO.nil ?_
    refine V.cond rfl (fun hc2 => ?_) (fun hc2 => ?_)
    ·
     replace hm1 := cond_t hc2 hm1
     refine V.seq ?_
     replace hm1 := bindO hm1; rcases hm1 with ⟨y12, hh13, hm1⟩
     refine V.region ?_
     refine VO.cons rfl (V1.move rfl rfl rfl lt0 ?_)
     refine VO.cons rfl (V1.move rfl rfl rfl lt0 ?_)
     refine VO.cons rfl (V1.lenSref rfl rfl rfl rfl rfl rfl isl_46 lt0 ?_)
     refine VO.cons rfl (V1.callM 0 (rn + ρ0 + 1) [] [.ref bp 3 0 0, .int .i64 (y3.1.length : Int)] (p := (bp, ⟨3, [encCur ρ0 y11.2]⟩)) rfl rfl rfl cok_139 rfl rfl ⟨_, _, rfl, .same _, ⟨_, _, rfl, .same _, rfl⟩⟩ bwNil (ok_spec_l1Cur_pick hh13) rfl (.inl rfl) lt0 ?_)
     rintro _ _ ⟨rfl, rfl⟩
     refine VO.cons rfl (V1.assign rfl rfl rfl lt0 ?_)
     refine VO.nil ?_
     refine V.keep 95 [0, 7, 9, 11, 12] [0, 1] (E0 := [(0, .ref bp 3 0 0), (7, .sref b1 2 0 (List.length y3.1)), (9, .int .i64 y4.1), (11, .str entry), (12, .int .i64 y12.1)]) (H0 := [(bp, ⟨3, [encCur ρ0 y12.2]⟩), (b1, ⟨2, List.map encPair y3.1⟩)]) rfl (⟨_, _, rfl, rfl, _, _, rfl, rfl, _, _, rfl, rfl, _, _, rfl, rfl, _, _, rfl, rfl, rfl⟩) (⟨_, _, rfl, rfl, _, _, rfl, rfl, rfl⟩) rfl ?_
     replace hm1 := bindO hm1; rcases hm1 with ⟨y13, hh14, hm1⟩
     replace hm1 := asrt_some hm1; rcases hm1 with ⟨hh15, hm1⟩
     replace hm1 := asrt_some hm1; rcases hm1 with ⟨hh16, hm1⟩
     replace hm1 := bindO hm1; rcases hm1 with ⟨j2, hm2, hm1⟩
     refine V.cutT (D := ((List (Int × Int)) × Cur) × (Unit)) (fun ⟨⟨out_0, c_1⟩, _⟩ => ⟨95, [(7, .sref b1 2 0 (List.length out_0)), (0, .ref bp 3 0 0), (9, .int .i64 y4.1), (11, .str entry)], [(b1, ⟨2, List.map encPair out_0⟩), (bp, ⟨3, [encCur ρ0 c_1]⟩)]⟩) (fun ⟨⟨out_0, c_1⟩, _⟩ => ((out_0, c_1) = j2)) ?_ ?_
     ·
      refine V.regionS [] 95 10 [⟨[(7, none)], false⟩, ⟨[(12, none)], false⟩, ⟨[(0, none)], false⟩, ⟨[(71, some 2)], true⟩, ⟨[(7, none)], false⟩, ⟨[(12, none)], false⟩, ⟨[(73, some 4), (74, some 5)], false⟩, ⟨[(75, some 6)], false⟩, ⟨[(76, some 7)], true⟩, ⟨[(72, some 3), (77, some 8)], false⟩] [(0, none), (7, none), (9, none), (11, none), (69, some 0), (70, some 1), (78, some 9)] 2 (⟨_, rfl, ⟨_, rfl, ⟨_, rfl, ⟨_, rfl, ⟨_, rfl, ⟨_, rfl, ⟨_, rfl, ⟨_, rfl, ⟨_, rfl, ⟨_, rfl, ⟨rfl, rfl⟩⟩⟩⟩⟩⟩⟩⟩⟩⟩⟩) mixed_orders rfl (by decide +kernel) ?_
      refine WalkP.step (p := ?pv211) 0 rfl rfl rfl rfl rfl (⟨_, _, rfl, rfl, rfl⟩) ?hv211 ?rest211
      case hv211 =>
       intro E1 H1 hI1
       refine (V1.move rfl rfl rfl lt0 ?_)
       exact rfl
      refine WalkP.step (p := ?pv212) 1 rfl rfl rfl rfl rfl (⟨_, _, rfl, rfl, rfl⟩) ?hv212 ?rest212
      case hv212 =>
       intro E1 H1 hI1
       refine (V1.move rfl rfl rfl lt0 ?_)
       exact rfl
      refine WalkP.step (p := ?pv213) 2 rfl rfl rfl rfl rfl (⟨_, _, rfl, rfl, rfl⟩) ?hv213 ?rest213
      case hv213 =>
       intro E1 H1 hI1
       refine (V1.move rfl rfl rfl lt0 ?_)
       exact rfl
      refine WalkP.step (p := ?pv214) 4 rfl rfl rfl rfl rfl (⟨_, _, rfl, rfl, rfl⟩) ?hv214 ?rest214
      case hv214 =>
       intro E1 H1 hI1
       refine (V1.move rfl rfl rfl lt0 ?_)
       exact rfl
      refine WalkP.step (p := ?pv215) 5 rfl rfl rfl rfl rfl (⟨_, _, rfl, rfl, rfl⟩) ?hv215 ?rest215
      case hv215 =>
       intro E1 H1 hI1
       refine (V1.move rfl rfl rfl lt0 ?_)
       exact rfl
      refine WalkP.step (p := ?pv216) 6 rfl rfl rfl rfl rfl (⟨_, _, rfl, rfl, _, _, rfl, rfl, rfl⟩) ?hv216 ?rest216
      case hv216 =>
       intro E1 H1 hI1
       refine (V1.indexSr rfl rfl esz_46 rfl rfl hh15 lt0 ?_)
       exact rfl
      refine WalkP.step (p := ?pv217) 7 rfl rfl rfl rfl rfl (⟨_, _, rfl, rfl, rfl⟩) ?hv217 ?rest217
      case hv217 =>
       intro E1 H1 hI1
       refine (V1.idxRef rfl rfl und_145 tyk_3 rfl rfl (by decide) lt0 ?_)
       exact rfl
      refine WalkP.nil ?_
      refine NodeS.branch [3, 8] inNil rfl rfl rfl ⟨?_, ?_, trivial⟩
      ·
       refine ⟨_, _, _, _, rfl, rfl, rfl, (⟨_, _, rfl, rfl, rfl⟩), fun E1 => ?_⟩
       refine (V1.callM 0 (rn + ρ0 + 1) [] [.ref bp 3 0 0, .int .i64 (2 : Int)] (p := (bp, ⟨3, [encCur ρ0 y12.2]⟩)) rfl rfl rfl cok_139 rfl rfl ⟨_, _, rfl, .same _, ⟨_, _, rfl, .same _, rfl⟩⟩ bwNil (ok_spec_l1Cur_pick hh14) rfl (.inl rfl) lt0 ?_)
       rintro _ _ ⟨rfl, rfl⟩
       refine ⟨_, _, rfl, ?_⟩
       refine WalkP.nil ?_
       refine NodeS.branch [8] inNil rfl rfl rfl ⟨?_, trivial⟩
       ·
        refine ⟨_, _, _, _, rfl, rfl, rfl, (⟨_, _, rfl, rfl, rfl⟩), fun E1 => ?_⟩
        refine (V1.loadMap (k := 1) (f := encPair) rfl rfl tyk_3 rfl rfl (by simpa using natLt hh15.1 hh15.2) rfl lt0 ?_)
        refine ⟨_, _, rfl, ?_⟩
        refine WalkP.step (p := ?pv219) 9 rfl rfl rfl rfl rfl (⟨_, _, rfl, rfl, _, _, rfl, rfl, rfl⟩) ?hv219 ?rest219
        case hv219 =>
         intro E1 H1 hI1
         refine (V1.buildArr rfl rfl zk_145 und_145 tyk_3 rfl rfl lt0 ?_)
         exact rfl
        refine WalkP.nil ?_
        refine NodeS.fin inNil rfl rfl rfl (⟨_, _, rfl, rfl, _, _, rfl, rfl, _, _, rfl, rfl, _, _, rfl, rfl, _, _, rfl, rfl, _, _, rfl, rfl, _, _, rfl, rfl, rfl⟩) ?_
        refine VO.cons rfl (V1.indexSr rfl rfl esz_46 rfl rfl hh16 lt0 ?_)
        refine VO.cons rfl (V1.storeMap (k := 1) (f := encPair) (x := (y13.1, (y3.1.getD (Int.toNat y12.1) default).2)) rfl rfl tyk_145 rfl rfl (by simpa using natLt hh16.1 hh16.2) rfl rfl ?_)
        refine VO.weakenK (Keeps.say 7 (y := .sref b1 2 0 (List.length (y3.1.set (Int.toNat y12.1) (y13.1, (y3.1.getD (Int.toNat y12.1) default).2)))) rfl (by simp [optS])) ?_
        refine VO.nil ?_
        exact ⟨(((y3.1.set (Int.toNat y12.1) (y13.1, (y3.1.getD (Int.toNat y12.1) default).2)), y13.2), ()), Option.some.inj hm2, Keeps.mk (ks := [1, 0]) rfl ⟨(someSref (by simp)), rfl, rfl, rfl, trivial⟩ (⟨_, _, rfl, rfl, _, _, rfl, rfl, rfl⟩) rfl⟩
      ·
       refine ⟨_, _, _, _, rfl, rfl, rfl, (⟨_, _, rfl, rfl, rfl⟩), fun E1 => ?_⟩
       refine (V1.loadMap (k := 1) (f := encPair) rfl rfl tyk_3 rfl rfl (by simpa using natLt hh15.1 hh15.2) rfl lt0 ?_)
       refine ⟨_, _, rfl, ?_⟩
       refine WalkP.nil ?_
       refine NodeS.branch [3] inNil rfl rfl rfl ⟨?_, trivial⟩
       ·
        refine ⟨_, _, _, _, rfl, rfl, rfl, (⟨_, _, rfl, rfl, rfl⟩), fun E1 => ?_⟩
        refine (V1.callM 0 (rn + ρ0 + 1) [] [.ref bp 3 0 0, .int .i64 (2 : Int)] (p := (bp, ⟨3, [encCur ρ0 y12.2]⟩)) rfl rfl rfl cok_139 rfl rfl ⟨_, _, rfl, .same _, ⟨_, _, rfl, .same _, rfl⟩⟩ bwNil (ok_spec_l1Cur_pick hh14) rfl (.inl rfl) lt0 ?_)
        rintro _ _ ⟨rfl, rfl⟩
        refine ⟨_, _, rfl, ?_⟩
        refine WalkP.step (p := ?pv221) 9 rfl rfl rfl rfl rfl (⟨_, _, rfl, rfl, _, _, rfl, rfl, rfl⟩) ?hv221 ?rest221
        case hv221 =>
         intro E1 H1 hI1
         refine (V1.buildArr rfl rfl zk_145 und_145 tyk_3 rfl rfl lt0 ?_)
         exact rfl
        refine WalkP.nil ?_
        refine NodeS.fin inNil rfl rfl rfl (⟨_, _, rfl, rfl, _, _, rfl, rfl, _, _, rfl, rfl, _, _, rfl, rfl, _, _, rfl, rfl, _, _, rfl, rfl, _, _, rfl, rfl, rfl⟩) ?_
        refine VO.cons rfl (V1.indexSr rfl rfl esz_46 rfl rfl hh16 lt0 ?_)
        refine VO.cons rfl (V1.storeMap (k := 1) (f := encPair) (x := (y13.1, (y3.1.getD (Int.toNat y12.1) default).2)) rfl rfl tyk_145 rfl rfl (by simpa using natLt hh16.1 hh16.2) rfl rfl ?_)
        refine VO.weakenK (Keeps.say 7 (y := .sref b1 2 0 (List.length (y3.1.set (Int.toNat y12.1) (y13.1, (y3.1.getD (Int.toNat y12.1) default).2)))) rfl (by simp [optS])) ?_
        refine VO.nil ?_
        exact ⟨(((y3.1.set (Int.toNat y12.1) (y13.1, (y3.1.getD (Int.toNat y12.1) default).2)), y13.2), ()), Option.some.inj hm2, Keeps.mk (ks := [1, 0]) rfl ⟨(someSref (by simp)), rfl, rfl, rfl, trivial⟩ (⟨_, _, rfl, rfl, _, _, rfl, rfl, rfl⟩) rfl⟩
     ·
      rintro ⟨⟨out_0, c_1⟩, _⟩ rfl
      try dsimp only at hm1
      exact ⟨((out_0, c_1), ()), Option.some.inj hm1, Keeps.mk (ks := [0, 1]) rfl ⟨(someSref (by simp)), rfl, rfl, rfl, trivial⟩ (⟨_, _, rfl, rfl, _, _, rfl, rfl, rfl⟩) rfl⟩
    ·
     replace hm1 := cond_f hc2 hm1
     refine V.skip ?_
     exact ⟨((y3.1, y11.2), ()), Option.some.inj hm1, Keeps.mk (ks := [1, 0]) rfl ⟨(someSref (by simp)), rfl, rfl, rfl, trivial⟩ (⟨_, _, rfl, rfl, _, _, rfl, rfl, rfl⟩) rfl⟩
   ·
    rintro ⟨⟨out_, c_0⟩, _⟩ rfl
    try dsimp only at hm0
    refine V.seq ?_
    replace hm0 := bindO hm0; rcases hm0 with ⟨j3, hm1, hm0⟩
    refine V.cutT (D := ((List (Int × Int)) × Cur) × (Nat)) (fun ⟨⟨out_1, o⟩, b4⟩ => ⟨95, [(7, .sref b4 2 0 (List.length out_1)), (9, .int .i64 y4.1), (11, .str entry)], [(b4, ⟨2, List.map encPair out_1⟩), (bp, ⟨3, [encCur ρ0 o]⟩)]⟩) (fun ⟨⟨out_1, o⟩, b4⟩ => ((out_1, o) = j3)) ?_ ?_
    ·
     refine V.seq ?_
     replace hm1 := bindO hm1; rcases hm1 with ⟨y14, hh17, hm1⟩
     refine V.region ?_
     refine VO.cons rfl (V1.move rfl rfl rfl lt0 ?_)
     refine VO.cons rfl (V1.callM 1 (rn + ρ0 + 1) [] [.ref bp 3 0 0, .int .i64 (32 : Int)] (p := (bp, ⟨3, [encCur ρ0 c_0]⟩)) rfl rfl rfl cok_147 rfl rfl ⟨_, _, rfl, .same _, ⟨_, _, rfl, .same _, rfl⟩⟩ bwNil (ok_spec_l1Cur_one hh17) rfl (.inl rfl) lt0 ?_)
     rintro _ _ ⟨rfl, rfl⟩
     refine VO.nil ?_
     refine V.cond rfl (fun hc3 => ?_) (fun hc3 => ?_)
     ·
      replace hm1 := cond_t hc3 hm1
      replace hm1 := bindO hm1; rcases hm1 with ⟨e0, he2, hm1⟩
      refine V.cutT (D := ((List (Int × Int)) × Cur) × (Nat)) (fun ⟨⟨out_2, c_2⟩, b5⟩ => ⟨95, [(7, .sref b5 2 0 (List.length out_2)), (9, .int .i64 y4.1), (11, .str entry)], [(b5, ⟨2, List.map encPair out_2⟩), (bp, ⟨3, [encCur ρ0 c_2]⟩)]⟩) (fun ⟨⟨out_2, c_2⟩, b5⟩ => ((out_2, c_2) = e0)) ?_ ?_
      ·
       refine V.block ?_
       refine V.keep 95 [7, 0, 9, 11] [1, 0] (E0 := [(7, .sref b1 2 0 (List.length out_)), (0, .ref bp 3 0 0), (9, .int .i64 y4.1), (11, .str entry)]) (H0 := [(b1, ⟨2, List.map encPair out_⟩), (bp, ⟨3, [encCur ρ0 y14.2]⟩)]) rfl (⟨_, _, rfl, rfl, _, _, rfl, rfl, _, _, rfl, rfl, _, _, rfl, rfl, rfl⟩) (⟨_, _, rfl, rfl, _, _, rfl, rfl, rfl⟩) rfl ?_
       refine V.loopE (D := Nat × ((List (Int × Int)) × Cur) × (Nat)) (fun ⟨n0, ⟨out_3, c_3⟩, b6⟩ => [(7, .sref b6 2 0 (List.length out_3))]) (fun ⟨n0, ⟨out_3, c_3⟩, b6⟩ => [(b6, ⟨2, List.map encPair out_3⟩), (bp, ⟨3, [encCur ρ0 c_3]⟩)]) (fun ⟨n0, ⟨out_3, c_3⟩, b6⟩ => loopO (M.spec_l1Cur_path_l0) n0 (out_3, c_3) = some e0) (fun ⟨n0, _, _⟩ => n0) (rounds, (out_, y14.2), b1) rfl he2 ?_
       rintro ⟨n0, ⟨out_3, c_3⟩, b6⟩ hP0
       obtain ⟨m0, y15, rfl, hm2, hl2, hr2⟩ := loop_head hP0
       unfold M.spec_l1Cur_path_l0 at hm2; dsimp only at hm2
       show V _ _ _ ⟨95, [(7, .sref b6 2 0 (List.length out_3)), (0, .ref bp 3 0 0), (9, .int .i64 y4.1), (11, .str entry)], [(b6, ⟨2, List.map encPair out_3⟩), (bp, ⟨3, [encCur ρ0 c_3]⟩)]⟩
       refine V.seq ?_
       refine V.seq ?_
       replace hm2 := bindO hm2; rcases hm2 with ⟨y16, hh18, hm2⟩
       refine V.region ?_
       refine VO.cons rfl (V1.move rfl rfl rfl lt0 ?_)
       refine VO.cons rfl (V1.lenSref rfl rfl rfl rfl rfl rfl isl_46 lt0 ?_)
       refine VO.cons rfl (V1.move rfl rfl rfl lt0 ?_)
       refine VO.cons rfl (V1.callM 1 (rn + ρ0 + 1) [] [.ref bp 3 0 0, .int .i64 (2 : Int)] (p := (bp, ⟨3, [encCur ρ0 c_3]⟩)) rfl rfl rfl cok_139 rfl rfl ⟨_, _, rfl, .same _, ⟨_, _, rfl, .same _, rfl⟩⟩ bwNil (ok_spec_l1Cur_pick hh18) rfl (.inl rfl) lt0 ?_)
       rintro _ _ ⟨rfl, rfl⟩
       refine VO.cons rfl (V1.int rfl rfl rfl rfl rfl lt0 ?_)
       refine VO.cons rfl (V1.int rfl rfl rfl rfl rfl lt0 ?_)
       refine VO.nil ?_
       refine V.keep 95 [0, 7, 9, 11, 87] [0, 1] (E0 := [(0, .ref bp 3 0 0), (7, .sref b6 2 0 (List.length out_3)), (9, .int .i64 y4.1), (11, .str entry), (87, .bool (decide ((out_3.length : Int) < (IntKind.i64.wrap ((8 : Int) + y16.1)))))]) (H0 := [(bp, ⟨3, [encCur ρ0 y16.2]⟩), (b6, ⟨2, List.map encPair out_3⟩)]) rfl (⟨_, _, rfl, rfl, _, _, rfl, rfl, _, _, rfl, rfl, _, _, rfl, rfl, _, _, rfl, rfl, rfl⟩) (⟨_, _, rfl, rfl, _, _, rfl, rfl, rfl⟩) rfl ?_
       refine V.cond rfl (fun hc4 => ?_) (fun hc4 => ?_)
       ·
        replace hm2 := cond_t hc4 hm2
        refine V.skip ?_
        refine V.block ?_
        replace hm2 := asrt_some hm2; rcases hm2 with ⟨hh19, hm2⟩
        refine V.region ?_
        refine VO.cons rfl (V1.move rfl rfl rfl lt0 ?_)
        refine VO.cons rfl (V1.buildArr rfl rfl zk_145 und_145 tyk_3 rfl rfl lt0 ?_)
        refine VO.cons rfl (V1.buildSliceT (f := encPair) ([((1 : Int), (3 : Int))] : List (Int × Int)) rfl rfl esz_46 zk_145 rfl rfl rfl rfl rfl rfl rfl lt0 ?_)
        intro b7
        refine VO.cons rfl (V1.appendMap (k := 2) (f := encPair) (l := out_3) (m := ([((1 : Int), (3 : Int))] : List (Int × Int))) rfl rfl rfl rfl rfl esz_46 eby_46 zk_145 rfl rfl rfl (SrcOf.srMap (k := 0) rfl isl_46) hh19 lt0 ?_)
        intro b8
        refine VO.cons rfl (V1.assign rfl rfl rfl lt0 ?_)
        refine VO.nil ?_
        exact ⟨(m0, ((out_3 ++ ([((1 : Int), (3 : Int))] : List (Int × Int))), y16.2), b8), hl2 _ (Option.some.inj hm2).symm, Nat.lt_succ_self _, Keeps.mk (ks := [0, 2]) rfl ⟨rfl, rfl, rfl, rfl, trivial⟩ (⟨_, _, rfl, rfl, _, _, rfl, rfl, rfl⟩) rfl⟩
       ·
        replace hm2 := cond_f hc4 hm2
        refine V.exit ?_
        obtain rfl := hr2 _ (Option.some.inj hm2).symm
        exact ⟨((out_3, y16.2), b6), rfl, Keeps.mk (ks := [1, 0]) rfl ⟨rfl, rfl, rfl, trivial⟩ (⟨_, _, rfl, rfl, _, _, rfl, rfl, rfl⟩) rfl⟩
      ·
       rintro ⟨⟨out_2, c_2⟩, b5⟩ rfl
       try dsimp only at hm1
       exact ⟨((out_2, c_2), b5), Option.some.inj hm1, Keeps.mk (ks := [0, 1]) rfl ⟨rfl, rfl, rfl, trivial⟩ (⟨_, _, rfl, rfl, _, _, rfl, rfl, rfl⟩) rfl⟩
     ·
      replace hm1 := cond_f hc3 hm1
      refine V.skip ?_
      exact ⟨((out_, y14.2), b1), Option.some.inj hm1, Keeps.mk (ks := [1, 0]) rfl ⟨rfl, rfl, rfl, trivial⟩ (⟨_, _, rfl, rfl, _, _, rfl, rfl, rfl⟩) rfl⟩
    ·
     rintro ⟨⟨out_1, o⟩, b4⟩ rfl
     try dsimp only at hm0
     refine V.seq ?_
     refine V.region ?_
     refine VO.cons rfl (V1.move rfl rfl rfl lt0 ?_)
     refine VO.cons rfl (V1.move rfl rfl rfl lt0 ?_)
     refine VO.cons rfl (V1.move rfl rfl rfl lt0 ?_)
     refine VO.cons rfl (V1.assign rfl rfl rfl lt0 ?_)
     refine VO.cons rfl (V1.assign rfl rfl rfl lt0 ?_)
     refine VO.cons rfl (V1.assign rfl rfl rfl lt0 ?_)
     refine VO.nil ?_
     refine V.keep 95 [2, 3, 4] [0, 1] (E0 := [(2, .str entry), (3, .sref b4 2 0 (List.length out_1)), (4, .int .i64 y4.1)]) (H0 := [(b4, ⟨2, List.map encPair out_1⟩), (bp, ⟨3, [encCur ρ0 o]⟩)]) rfl (⟨_, _, rfl, rfl, _, _, rfl, rfl, _, _, rfl, rfl, rfl⟩) (⟨_, _, rfl, rfl, _, _, rfl, rfl, rfl⟩) rfl ?_
     refine V.ret ?_
     obtain rfl := Option.some.inj hm0
     exact ⟨_, _, ⟨_, _, rfl, rfl, _, _, rfl, rfl, _, _, rfl, rfl, rfl⟩, List.Sublist.refl _, b4, rfl, rfl⟩

theorem ok_spec_DrawIsCertified {ρ0 rn : Nat} {code : List Int} {r : List UInt8 × (List (Int × Int)) × Int} (h : M.spec_DrawIsCertified code = some r) : Does Tryd.prog 34 [.vl ρ0 1 (List.map encU8 code)] [] rn (fun x H => ∃ (ob1_ : Nat), x = .tup [.str r.1, PV.sref ob1_ 2 0 (List.length r.2.1), .int .i64 r.2.2] ∧ H = [(ob1_, ⟨2, List.map encPair r.2.1⟩)]) := by
 have hm0 := h; clear h; unfold M.spec_DrawIsCertified at hm0
 try dsimp only at hm0
 refine Does.intro (N := 21) Tryd.func34 rfl rfl rfl rfl ?_
 intro w0 S0 L0
 refine V.seq ?_
 refine V.region ?_
 refine VO.cons rfl (V1.assign rfl rfl rfl lt0 ?_)
 refine VO.cons rfl (V1.assign rfl rfl rfl lt0 ?_)
 refine VO.cons rfl (V1.assign rfl rfl rfl lt0 ?_)
 refine VO.nil ?_
 refine V.seq ?_
 refine V.region ?_
 refine VO.cons rfl (V1.move rfl rfl rfl lt0 ?_)
 refine VO.cons rfl (V1.build rfl rfl zk_128 pl_128 rfl rfl lt0 ?_)
 refine VO.cons rfl (V1.boxN (n := 3) rfl rfl rfl rfl rfl lt0 ?_)
 intro b0
 refine VO.cons rfl (V1.assign rfl rfl rfl lt0 ?_)
 refine VO.nil ?_
 refine V.keep 21 [5] [0] (E0 := [(5, .ref b0 3 0 0)]) (H0 := [(b0, ⟨3, [.agg [.vl ρ0 1 (List.map encU8 code), .int .i64 (0 : Int), .int .u64 (0 : Int)]]⟩)]) rfl (⟨_, _, rfl, rfl, rfl⟩) (⟨_, _, rfl, rfl, rfl⟩) rfl ?_
 refine V.seq ?_
 replace hm0 := bindO hm0; rcases hm0 with ⟨y0, hh0, hm0⟩
 refine V.region ?_
 refine VO.cons rfl (V1.move rfl rfl rfl lt0 ?_)
 refine VO.cons rfl (V1.callM 0 (rn + ρ0 + 1) [] [.ref b0 3 0 0] (p := (b0, ⟨3, [.agg [.vl ρ0 1 (List.map encU8 code), .int .i64 (0 : Int), .int .u64 (0 : Int)]]⟩)) rfl rfl rfl cok_143 rfl rfl ⟨_, _, rfl, .same _, rfl⟩ bwNil (ok_spec_l1Cur_path hh0) rfl (.inl rfl) lt0 ?_)
 rintro _ _ ⟨b1, rfl, rfl⟩
 refine VO.cons rfl (V1.move rfl rfl rfl lt0 ?_)
 refine VO.cons rfl (V1.extract rfl rfl rfl rfl lt0 ?_)
 refine VO.cons rfl (V1.extract rfl rfl rfl rfl lt0 ?_)
 refine VO.cons rfl (V1.extract rfl rfl rfl rfl lt0 ?_)
 refine VO.cons rfl (V1.assign rfl rfl rfl lt0 ?_)
 refine VO.cons rfl (V1.assign rfl rfl rfl lt0 ?_)
 refine VO.cons rfl (V1.assign rfl rfl rfl lt0 ?_)
 refine VO.nil ?_
 refine V.keep 21 [6, 7, 8] [0] (E0 := [(6, .str y0.1), (7, .sref b1 2 0 (List.length y0.2.1)), (8, .int .i64 y0.2.2.1)]) (H0 := [(b1, ⟨2, List.map encPair y0.2.1⟩)]) rfl (⟨_, _, rfl, rfl, _, _, rfl, rfl, _, _, rfl, rfl, rfl⟩) (⟨_, _, rfl, rfl, rfl⟩) rfl ?_
 refine V.seq ?_
 refine V.region ?_
 refine VO.cons rfl (V1.move rfl rfl rfl lt0 ?_)
 refine VO.cons rfl (V1.move rfl rfl rfl lt0 ?_)
 refine VO.cons rfl (V1.move rfl rfl rfl lt0 ?_)
 refine VO.cons rfl (V1.assign rfl rfl rfl lt0 ?_)
 refine VO.cons rfl (V1.assign rfl rfl rfl lt0 ?_)
 refine VO.cons rfl (V1.assign rfl rfl rfl lt0 ?_)
 refine VO.nil ?_
 refine V.keep 21 [2, 3, 4] [0] (E0 := [(2, .str y0.1), (3, .sref b1 2 0 (List.length y0.2.1)), (4, .int .i64 y0.2.2.1)]) (H0 := [(b1, ⟨2, List.map encPair y0.2.1⟩)]) rfl (⟨_, _, rfl, rfl, _, _, rfl, rfl, _, _, rfl, rfl, rfl⟩) (⟨_, _, rfl, rfl, rfl⟩) rfl ?_
 refine V.ret ?_
 obtain rfl := Option.some.inj hm0
 exact ⟨_, _, ⟨_, _, rfl, rfl, _, _, rfl, rfl, _, _, rfl, rfl, rfl⟩, List.Sublist.refl _, b1, rfl, rfl⟩

theorem ok_spec_l16Hash {rn : Nat} {n : Int} {r : Bool} (h : M.spec_l16Hash n = some r) : Does Tryd.prog 121 [.int .i64 n] [] rn (fun x H => x = .bool r ∧ H = []) := by
 have hm0 := h; clear h; unfold M.spec_l16Hash at hm0
 try dsimp only at hm0
 refine Does.intro (N := 5) Tryd.func121 rfl rfl rfl rfl ?_
 intro w0 S0 L0
 refine V.seq ?_
 refine V.region ?_
 refine VO.cons rfl (V1.assign rfl rfl rfl lt0 ?_)
 refine VO.nil ?_
 refine V.seq ?_
 replace hm0 := bindO hm0; rcases hm0 with ⟨y0, hh0, hm0⟩
 refine V.region ?_
 refine VO.cons rfl (V1.move rfl rfl rfl lt0 ?_)
 refine VO.cons rfl (V1.call rfl rfl rfl cok_140 rfl (ok_spec_l1In hh0) rfl lt0 ?_)
 rintro _ _ ⟨rfl, rfl⟩
 refine VO.cons rfl (V1.assign rfl rfl rfl lt0 ?_)
 refine VO.nil ?_
 refine V.ret ?_
 obtain rfl := Option.some.inj hm0
 exact ⟨_, [], ⟨_, _, rfl, rfl, rfl⟩, List.nil_sublist _, rfl, rfl⟩

theorem ok_spec_l16Path {ρ0 rn : Nat} {path : List (Int × Int)} {r : Bool} (h : M.spec_l16Path path = some r) : Does Tryd.prog 144 [.vl ρ0 2 (List.map encPair path)] [] rn (fun x H => x = .bool r ∧ H = []) := by
 have hm0 := h; clear h; unfold M.spec_l16Path at hm0
 try dsimp only at hm0
 refine Does.intro (N := 29) Tryd.func144 rfl rfl rfl rfl ?_
 intro w0 S0 L0
 refine V.seq ?_
 refine V.region ?_
 refine VO.cons rfl (V1.assign rfl rfl rfl lt0 ?_)
 refine VO.nil ?_
 refine V.seq ?_
 refine V.seq ?_
 refine V.region ?_
 refine VO.cons rfl (V1.assign rfl rfl rfl lt0 ?_)
 refine VO.nil ?_
 replace hm0 := bindO hm0; rcases hm0 with ⟨e0, he1, hm0⟩
 refine V.cutT (D := (Unit) × (Unit)) (fun ⟨_, _⟩ => ⟨29, [(0, .vl ρ0 2 (List.map encPair path))], []⟩) (fun ⟨_, _⟩ => (.inl () = e0)) ?_ ?_
 ·
  refine V.block ?_
  refine V.keep 29 [3, 0] [] (E0 := [(3, .int .i64 (0 : Int)), (0, .vl ρ0 2 (List.map encPair path))]) (H0 := []) rfl (⟨_, _, rfl, rfl, _, _, rfl, rfl, rfl⟩) (rfl) rfl ?_
  refine V.loopE (D := Nat × (Int) × (Unit)) (fun ⟨n0, i, _⟩ => [(3, .int .i64 i)]) (fun ⟨n0, i, _⟩ => []) (fun ⟨n0, i, _⟩ => loopO (M.spec_l16Path_l0 path) n0 i = some e0) (fun ⟨n0, _, _⟩ => n0) (rounds, (0 : Int), ()) rfl he1 ?_
  rintro ⟨n0, i, _⟩ hP0
  obtain ⟨m0, y0, rfl, hm1, hl1, hr1⟩ := loop_head hP0
  unfold M.spec_l16Path_l0 at hm1; dsimp only at hm1
  show V _ _ _ ⟨29, [(3, .int .i64 i), (0, .vl ρ0 2 (List.map encPair path))], []⟩
  refine V.seq ?_
  refine V.seq ?_
  refine V.region ?_
  refine VO.cons rfl (V1.move rfl rfl rfl lt0 ?_)
  refine VO.cons rfl (V1.move rfl rfl rfl lt0 ?_)
  refine VO.cons rfl (V1.lenMap rfl rfl rfl rfl rfl rfl isl_46 lt0 ?_)
  refine VO.cons rfl (V1.int rfl rfl rfl rfl rfl lt0 ?_)
  refine VO.nil ?_
  refine V.cond rfl (fun hc0 => ?_) (fun hc0 => ?_)
  ·
   replace hm1 := cond_t hc0 hm1
   refine V.skip ?_
   refine V.keep 29 [0, 3] [] (E0 := [(0, .vl ρ0 2 (List.map encPair path)), (3, .int .i64 i)]) (H0 := []) rfl (⟨_, _, rfl, rfl, _, _, rfl, rfl, rfl⟩) (rfl) rfl ?_
   refine V.seq ?_
   refine V.block ?_
   refine V.seq ?_
   replace hm1 := asrt_some hm1; rcases hm1 with ⟨hh0, hm1⟩
   replace hm1 := bindO hm1; rcases hm1 with ⟨y1, hh1, hm1⟩
   replace hm1 := asrt_some hm1; rcases hm1 with ⟨hh2, hm1⟩
   replace hm1 := bindO hm1; rcases hm1 with ⟨y2, hh3, hm1⟩
   refine V.region ?_
   refine VO.cons rfl (V1.move rfl rfl rfl lt0 ?_)
   refine VO.cons rfl (V1.move rfl rfl rfl lt0 ?_)
   refine VO.cons rfl (V1.indexI rfl rfl esz_46 rfl rfl hh0 lt0 ?_)
   refine VO.cons rfl (V1.idxPin rfl rfl und_145 tyk_3 rfl rfl (by decide) lt0 ?_)
   refine VO.cons rfl (V1.loadPin rfl rfl tyk_3 rfl rfl lt0 ?_)
   refine VO.cons rfl (V1.call rfl rfl rfl cok_140 rfl (ok_spec_l1In hh1) rfl lt0 ?_)
   rintro _ _ ⟨rfl, rfl⟩
   refine VO.cons rfl (V1.not rfl rfl rfl lt0 ?_)
   refine VO.cons rfl (V1.move rfl rfl rfl lt0 ?_)
   apply VO.or (n := 7) rfl rfl rfl rfl rfl rfl lt0 (.none rfl)
   ·
    intro hg0
    refine VO.step (.some rfl rfl rfl) (V1.move rfl rfl rfl lt0 ?_)
    refine VO.step (.some rfl rfl rfl) (V1.move rfl rfl rfl lt0 ?_)
    refine VO.step (.some rfl rfl rfl) (V1.indexI rfl rfl esz_46 rfl rfl (hh2 hg0) lt0 ?_)
    refine VO.step (.some rfl rfl rfl) (V1.idxPin rfl rfl und_145 tyk_3 rfl rfl (by decide) lt0 ?_)
    refine VO.step (.some rfl rfl rfl) (V1.loadPin rfl rfl tyk_3 rfl rfl lt0 ?_)
    refine VO.step (.some rfl rfl rfl) (V1.call rfl rfl rfl cok_121 rfl (ok_spec_l16Hash (cond_f hg0 hh3)) rfl lt0 ?_)
    rintro _ _ ⟨rfl, rfl⟩
    refine VO.step (.some rfl rfl rfl) (V1.not rfl rfl rfl lt0 ?_)
    exact VO.nil ⟨rfl, rfl, rfl, rfl, .inr ⟨rfl, .inr ⟨rfl, .inr ⟨rfl, .inr ⟨rfl, .inr ⟨rfl, .inr ⟨rfl, .inr ⟨rfl, .inr ⟨rfl, .inl rfl⟩⟩⟩⟩⟩⟩⟩⟩⟩
   refine VO.nil ?_
   refine V.keep 29 [0, 3, 25] [] (E0 := [(0, .vl ρ0 2 (List.map encPair path)), (3, .int .i64 i), (25, .bool ((!y1) || (!y2)))]) (H0 := []) rfl (⟨_, _, rfl, rfl, _, _, rfl, rfl, _, _, rfl, rfl, rfl⟩) (rfl) rfl ?_
   refine V.cond rfl (fun hc1 => ?_) (fun hc1 => ?_)
   ·
    replace hm1 := cond_t hc1 hm1
    refine V.seq ?_
    refine V.region ?_
    refine VO.cons rfl (V1.assign rfl rfl rfl lt0 ?_)
    refine VO.nil ?_
    refine V.ret ?_
    obtain rfl := hr1 _ (Option.some.inj hm1).symm
    change some _ = some _ at hm0
    obtain rfl := Option.some.inj hm0
    exact ⟨_, [], ⟨_, _, rfl, rfl, rfl⟩, List.nil_sublist _, rfl, rfl⟩
   ·
    replace hm1 := cond_f hc1 hm1
    refine V.skip ?_
    refine V.region ?_
    refine VO.cons rfl (V1.move rfl rfl rfl lt0 ?_)
    refine VO.cons rfl (V1.int rfl rfl rfl rfl rfl lt0 ?_)
    refine VO.cons rfl (V1.assign rfl rfl rfl lt0 ?_)
    refine VO.nil ?_
    exact ⟨(m0, (IntKind.i64.wrap (i + (1 : Int))), ()), hl1 _ (Option.some.inj hm1).symm, Nat.lt_succ_self _, Keeps.mk (ks := []) rfl ⟨rfl, rfl, trivial⟩ (rfl) rfl⟩
  ·
   replace hm1 := cond_f hc0 hm1
   refine V.exit ?_
   obtain rfl := hr1 _ (Option.some.inj hm1).symm
   exact ⟨((), ()), rfl, Keeps.mk (ks := []) rfl ⟨rfl, trivial⟩ (rfl) rfl⟩
 ·
  rintro ⟨_, _⟩ rfl
  try dsimp only at hm0
  refine V.seq ?_
  refine V.region ?_
  refine VO.cons rfl (V1.move rfl rfl rfl lt0 ?_)
  refine VO.cons rfl (V1.lenMap rfl rfl rfl rfl rfl rfl isl_46 lt0 ?_)
  refine VO.cons rfl (V1.int rfl rfl rfl rfl rfl lt0 ?_)
  refine VO.cons rfl (V1.assign rfl rfl rfl lt0 ?_)
  refine VO.nil ?_
  refine V.ret ?_
  obtain rfl := Option.some.inj hm0
  exact ⟨_, [], ⟨_, _, rfl, rfl, rfl⟩, List.nil_sublist _, rfl, rfl⟩

theorem ok_spec_l16From {ρ1 rn : Nat} {entry : List UInt8} {path : List (Int × Int)} {r : Int} (h : M.spec_l16From entry path = some r) : Does Tryd.prog 145 [.str entry, .vl ρ1 2 (List.map encPair path)] [] rn (fun x H => x = .int .i64 r ∧ H = []) := by
 have hm0 := h; clear h; unfold M.spec_l16From at hm0
 try dsimp only at hm0
 refine Does.intro (N := 36) Tryd.func145 rfl rfl rfl rfl ?_
 intro w0 S0 L0
 refine V.seq ?_
 refine V.region ?_
 refine VO.cons rfl (V1.assign rfl rfl rfl lt0 ?_)
 refine VO.nil ?_
 refine V.seq ?_
 replace hm0 := bindO hm0; rcases hm0 with ⟨y0, hh0, hm0⟩
 refine V.region ?_
 refine VO.cons rfl (V1.move rfl rfl rfl lt0 ?_)
 refine VO.cons rfl (V1.call rfl rfl rfl cok_115 rfl (ok_spec_l16Leaf hh0) rfl lt0 ?_)
 rintro _ _ ⟨rfl, rfl⟩
 refine VO.cons rfl (V1.assign rfl rfl rfl lt0 ?_)
 refine VO.nil ?_
 refine V.keep 36 [1, 5] [] (E0 := [(1, .vl ρ1 2 (List.map encPair path)), (5, .int .i64 y0)]) (H0 := []) rfl (⟨_, _, rfl, rfl, _, _, rfl, rfl, rfl⟩) (rfl) rfl ?_
 refine V.seq ?_
 refine V.seq ?_
 refine V.region ?_
 refine VO.cons rfl (V1.assign rfl rfl rfl lt0 ?_)
 refine VO.nil ?_
 replace hm0 := bindO hm0; rcases hm0 with ⟨e0, he1, hm0⟩
 refine V.cutT (D := (Int) × (Unit)) (fun ⟨n_, _⟩ => ⟨36, [(5, .int .i64 n_)], []⟩) (fun ⟨n_, _⟩ => (n_ = e0)) ?_ ?_
 ·
  refine V.block ?_
  refine V.keep 36 [5, 6, 1] [] (E0 := [(5, .int .i64 y0), (6, .int .i64 (0 : Int)), (1, .vl ρ1 2 (List.map encPair path))]) (H0 := []) rfl (⟨_, _, rfl, rfl, _, _, rfl, rfl, _, _, rfl, rfl, rfl⟩) (rfl) rfl ?_
  refine V.loopE (D := Nat × (Int × Int) × (Unit)) (fun ⟨n0, ⟨n_0, i⟩, _⟩ => [(5, .int .i64 n_0), (6, .int .i64 i)]) (fun ⟨n0, ⟨n_0, i⟩, _⟩ => []) (fun ⟨n0, ⟨n_0, i⟩, _⟩ => loopO (M.spec_l16From_l0 path) n0 (n_0, i) = some e0) (fun ⟨n0, _, _⟩ => n0) (rounds, (y0, (0 : Int)), ()) rfl he1 ?_
  rintro ⟨n0, ⟨n_0, i⟩, _⟩ hP0
  obtain ⟨m0, y1, rfl, hm1, hl1, hr1⟩ := loop_head hP0
  unfold M.spec_l16From_l0 at hm1; dsimp only at hm1
  show V _ _ _ ⟨36, [(5, .int .i64 n_0), (6, .int .i64 i), (1, .vl ρ1 2 (List.map encPair path))], []⟩
  refine V.seq ?_
  refine V.seq ?_
  refine V.region ?_
  refine VO.cons rfl (V1.move rfl rfl rfl lt0 ?_)
  refine VO.cons rfl (V1.move rfl rfl rfl lt0 ?_)
  refine VO.cons rfl (V1.lenMap rfl rfl rfl rfl rfl rfl isl_46 lt0 ?_)
  refine VO.cons rfl (V1.int rfl rfl rfl rfl rfl lt0 ?_)
  refine VO.nil ?_
  refine V.cond rfl (fun hc0 => ?_) (fun hc0 => ?_)
  ·
   replace hm1 := cond_t hc0 hm1
   refine V.skip ?_
   refine V.keep 36 [1, 5, 6] [] (E0 := [(1, .vl ρ1 2 (List.map encPair path)), (5, .int .i64 n_0), (6, .int .i64 i)]) (H0 := []) rfl (⟨_, _, rfl, rfl, _, _, rfl, rfl, _, _, rfl, rfl, rfl⟩) (rfl) rfl ?_
   refine V.seq ?_
   replace hm1 := bindO hm1; rcases hm1 with ⟨j0, hm2, hm1⟩
   refine V.cutT (D := (Int) × (Unit)) (fun ⟨n_1, _⟩ => ⟨36, [(5, .int .i64 n_1), (1, .vl ρ1 2 (List.map encPair path)), (6, .int .i64 i)], []⟩) (fun ⟨n_1, _⟩ => (n_1 = j0)) ?_ ?_
   ·
    refine V.block ?_
    refine V.seq ?_
    replace hm2 := asrt_some hm2; rcases hm2 with ⟨hh1, hm2⟩
    refine V.region ?_
    refine VO.cons rfl (V1.move rfl rfl rfl lt0 ?_)
    refine VO.cons rfl (V1.move rfl rfl rfl lt0 ?_)
    refine VO.cons rfl (V1.indexI rfl rfl esz_46 rfl rfl hh1 lt0 ?_)
    refine VO.cons rfl (V1.idxPin rfl rfl und_145 tyk_3 rfl rfl (by decide) lt0 ?_)
    refine VO.cons rfl (V1.loadPin rfl rfl tyk_3 rfl rfl lt0 ?_)
    refine VO.cons rfl (V1.int rfl rfl rfl rfl rfl lt0 ?_)
    refine VO.nil ?_
    refine V.keep 36 [1, 5, 6, 20] [] (E0 := [(1, .vl ρ1 2 (List.map encPair path)), (5, .int .i64 n_0), (6, .int .i64 i), (20, .bool (((path.getD (Int.toNat i) default).1) == (0 : Int)))]) (H0 := []) rfl (⟨_, _, rfl, rfl, _, _, rfl, rfl, _, _, rfl, rfl, _, _, rfl, rfl, rfl⟩) (rfl) rfl ?_
    refine V.cond rfl (fun hc1 => ?_) (fun hc1 => ?_)
    ·
     replace hm2 := cond_t hc1 hm2
     replace hm2 := asrt_some hm2; rcases hm2 with ⟨hh2, hm2⟩
     replace hm2 := bindO hm2; rcases hm2 with ⟨y2, hh3, hm2⟩
     refine V.region ?_
     refine VO.cons rfl (V1.move rfl rfl rfl lt0 ?_)
     refine VO.cons rfl (V1.move rfl rfl rfl lt0 ?_)
     refine VO.cons rfl (V1.indexI rfl rfl esz_46 rfl rfl hh2 lt0 ?_)
     refine VO.cons rfl (V1.idxPin rfl rfl und_145 tyk_3 rfl rfl (by decide) lt0 ?_)
     refine VO.cons rfl (V1.loadPin rfl rfl tyk_3 rfl rfl lt0 ?_)
     refine VO.cons rfl (V1.move rfl rfl rfl lt0 ?_)
     refine VO.cons rfl (V1.call rfl rfl rfl cok_122 rfl (ok_spec_l16Pair hh3) rfl lt0 ?_)
     rintro _ _ ⟨rfl, rfl⟩
     refine VO.cons rfl (V1.assign rfl rfl rfl lt0 ?_)
     refine VO.nil ?_
     exact ⟨(y2, ()), Option.some.inj hm2, Keeps.mk (ks := []) rfl ⟨rfl, rfl, rfl, trivial⟩ (rfl) rfl⟩
    ·
     replace hm2 := cond_f hc1 hm2
     replace hm2 := asrt_some hm2; rcases hm2 with ⟨hh4, hm2⟩
     replace hm2 := bindO hm2; rcases hm2 with ⟨y3, hh5, hm2⟩
     refine V.region ?_
     refine VO.cons rfl (V1.move rfl rfl rfl lt0 ?_)
     refine VO.cons rfl (V1.move rfl rfl rfl lt0 ?_)
     refine VO.cons rfl (V1.move rfl rfl rfl lt0 ?_)
     refine VO.cons rfl (V1.indexI rfl rfl esz_46 rfl rfl hh4 lt0 ?_)
     refine VO.cons rfl (V1.idxPin rfl rfl und_145 tyk_3 rfl rfl (by decide) lt0 ?_)
     refine VO.cons rfl (V1.loadPin rfl rfl tyk_3 rfl rfl lt0 ?_)
     refine VO.cons rfl (V1.call rfl rfl rfl cok_122 rfl (ok_spec_l16Pair hh5) rfl lt0 ?_)
     rintro _ _ ⟨rfl, rfl⟩
     refine VO.cons rfl (V1.assign rfl rfl rfl lt0 ?_)
     refine VO.nil ?_
     exact ⟨(y3, ()), Option.some.inj hm2, Keeps.mk (ks := []) rfl ⟨rfl, rfl, rfl, trivial⟩ (rfl) rfl⟩
   ·
    rintro ⟨n_1, _⟩ rfl
    try dsimp only at hm1
    refine V.region ?_
    refine VO.cons rfl (V1.move rfl rfl rfl lt0 ?_)
    refine VO.cons rfl (V1.int rfl rfl rfl rfl rfl lt0 ?_)
    refine VO.cons rfl (V1.assign rfl rfl rfl lt0 ?_)
    refine VO.nil ?_
    exact ⟨(m0, (n_1, (IntKind.i64.wrap (i + (1 : Int)))), ()), hl1 _ (Option.some.inj hm1).symm, Nat.lt_succ_self _, Keeps.mk (ks := []) rfl ⟨rfl, rfl, rfl, trivial⟩ (rfl) rfl⟩
  ·
   replace hm1 := cond_f hc0 hm1
   refine V.exit ?_
   obtain rfl := hr1 _ (Option.some.inj hm1).symm
   exact ⟨(n_0, ()), rfl, Keeps.mk (ks := []) rfl ⟨rfl, trivial⟩ (rfl) rfl⟩
 ·
  rintro ⟨n_, _⟩ rfl
  try dsimp only at hm0
  refine V.seq ?_
  refine V.region ?_
  refine VO.cons rfl (V1.move rfl rfl rfl lt0 ?_)
  refine VO.cons rfl (V1.assign rfl rfl rfl lt0 ?_)
  refine VO.nil ?_
  refine V.ret ?_
  obtain rfl := Option.some.inj hm0
  exact ⟨_, [], ⟨_, _, rfl, rfl, rfl⟩, List.nil_sublist _, rfl, rfl⟩

theorem ok_spec_IsCertified {ρ1 rn : Nat} {entry : List UInt8} {path : List (Int × Int)} {root : Int} {r : Bool × Bool} (h : M.spec_IsCertified entry path root = some r) : Does Tryd.prog 35 [.str entry, .vl ρ1 2 (List.map encPair path), .int .i64 root] [] rn (fun x H => x = .tup [.bool r.1, .bool r.2] ∧ H = []) := by
 have hm0 := h; clear h; unfold M.spec_IsCertified at hm0
 try dsimp only at hm0
 refine Does.intro (N := 21) Tryd.func35 rfl rfl rfl rfl ?_
 intro w0 S0 L0
 refine V.seq ?_
 refine V.region ?_
 refine VO.cons rfl (V1.assign rfl rfl rfl lt0 ?_)
 refine VO.cons rfl (V1.assign rfl rfl rfl lt0 ?_)
 refine VO.nil ?_
 refine V.seq ?_
 refine V.seq ?_
 replace hm0 := bindO hm0; rcases hm0 with ⟨y0, hh0, hm0⟩
 replace hm0 := bindO hm0; rcases hm0 with ⟨y1, hh1, hm0⟩
 refine V.region ?_
 refine VO.cons rfl (V1.move rfl rfl rfl lt0 ?_)
 refine VO.cons rfl (V1.call rfl rfl rfl cok_114 rfl (ok_spec_l16Entry hh0) rfl lt0 ?_)
 rintro _ _ ⟨rfl, rfl⟩
 refine VO.cons rfl (V1.not rfl rfl rfl lt0 ?_)
 refine VO.cons rfl (V1.move rfl rfl rfl lt0 ?_)
 apply VO.or (n := 3) rfl rfl rfl rfl rfl rfl lt0 (.none rfl)
 ·
  intro hg0
  refine VO.step (.some rfl rfl rfl) (V1.move rfl rfl rfl lt0 ?_)
  refine VO.step (.some rfl rfl rfl) (V1.call rfl rfl rfl cok_144 rfl (ok_spec_l16Path (cond_f hg0 hh1)) rfl lt0 ?_)
  rintro _ _ ⟨rfl, rfl⟩
  refine VO.step (.some rfl rfl rfl) (V1.not rfl rfl rfl lt0 ?_)
  exact VO.nil ⟨rfl, rfl, rfl, rfl, .inr ⟨rfl, .inr ⟨rfl, .inr ⟨rfl, .inr ⟨rfl, .inl rfl⟩⟩⟩⟩⟩
 refine VO.nil ?_
 refine V.keep 21 [0, 1, 2, 15] [] (E0 := [(0, .str entry), (1, .vl ρ1 2 (List.map encPair path)), (2, .int .i64 root), (15, .bool ((!y0) || (!y1)))]) (H0 := []) rfl (⟨_, _, rfl, rfl, _, _, rfl, rfl, _, _, rfl, rfl, _, _, rfl, rfl, rfl⟩) (rfl) rfl ?_
 refine V.cond rfl (fun hc0 => ?_) (fun hc0 => ?_)
 ·
  replace hm0 := cond_t hc0 hm0
  refine V.seq ?_
  refine V.region ?_
  refine VO.cons rfl (V1.assign rfl rfl rfl lt0 ?_)
  refine VO.cons rfl (V1.assign rfl rfl rfl lt0 ?_)
  refine VO.nil ?_
  refine V.ret ?_
  obtain rfl := Option.some.inj hm0
  exact ⟨_, [], ⟨_, _, rfl, rfl, _, _, rfl, rfl, rfl⟩, List.nil_sublist _, rfl, rfl⟩
 ·
  replace hm0 := cond_f hc0 hm0
  refine V.skip ?_
  refine V.seq ?_
  replace hm0 := bindO hm0; rcases hm0 with ⟨y2, hh2, hm0⟩
  refine V.region ?_
  refine VO.cons rfl (V1.move rfl rfl rfl lt0 ?_)
  refine VO.cons rfl (V1.move rfl rfl rfl lt0 ?_)
  refine VO.cons rfl (V1.call rfl rfl rfl cok_145 rfl (ok_spec_l16From hh2) rfl lt0 ?_)
  rintro _ _ ⟨rfl, rfl⟩
  refine VO.cons rfl (V1.move rfl rfl rfl lt0 ?_)
  refine VO.cons rfl (V1.int rfl rfl rfl rfl rfl lt0 ?_)
  refine VO.cons rfl (V1.assign rfl rfl rfl lt0 ?_)
  refine VO.cons rfl (V1.assign rfl rfl rfl lt0 ?_)
  refine VO.nil ?_
  refine V.ret ?_
  obtain rfl := Option.some.inj hm0
  exact ⟨_, [], ⟨_, _, rfl, rfl, _, _, rfl, rfl, rfl⟩, List.nil_sublist _, rfl, rfl⟩

theorem ok_spec_RootFrom {ρ1 rn : Nat} {entry : List UInt8} {path : List (Int × Int)} {r : Int × Bool} (h : M.spec_RootFrom entry path = some r) : Does Tryd.prog 37 [.str entry, .vl ρ1 2 (List.map encPair path)] [] rn (fun x H => x = .tup [.int .i64 r.1, .bool r.2] ∧ H = []) := by
 have hm0 := h; clear h; unfold M.spec_RootFrom at hm0
 try dsimp only at hm0
 refine Does.intro (N := 17) Tryd.func37 rfl rfl rfl rfl ?_
 intro w0 S0 L0
 refine V.seq ?_
 refine V.region ?_
 refine VO.cons rfl (V1.assign rfl rfl rfl lt0 ?_)
 refine VO.cons rfl (V1.assign rfl rfl rfl lt0 ?_)
 refine VO.nil ?_
 refine V.seq ?_
 refine V.seq ?_
 replace hm0 := bindO hm0; rcases hm0 with ⟨y0, hh0, hm0⟩
 replace hm0 := bindO hm0; rcases hm0 with ⟨y1, hh1, hm0⟩
 refine V.region ?_
 refine VO.cons rfl (V1.move rfl rfl rfl lt0 ?_)
 refine VO.cons rfl (V1.call rfl rfl rfl cok_114 rfl (ok_spec_l16Entry hh0) rfl lt0 ?_)
 rintro _ _ ⟨rfl, rfl⟩
 refine VO.cons rfl (V1.not rfl rfl rfl lt0 ?_)
 refine VO.cons rfl (V1.move rfl rfl rfl lt0 ?_)
 apply VO.or (n := 3) rfl rfl rfl rfl rfl rfl lt0 (.none rfl)
 ·
  intro hg0
  refine VO.step (.some rfl rfl rfl) (V1.move rfl rfl rfl lt0 ?_)
  refine VO.step (.some rfl rfl rfl) (V1.call rfl rfl rfl cok_144 rfl (ok_spec_l16Path (cond_f hg0 hh1)) rfl lt0 ?_)
  rintro _ _ ⟨rfl, rfl⟩
  refine VO.step (.some rfl rfl rfl) (V1.not rfl rfl rfl lt0 ?_)
  exact VO.nil ⟨rfl, rfl, rfl, rfl, .inr ⟨rfl, .inr ⟨rfl, .inr ⟨rfl, .inr ⟨rfl, .inl rfl⟩⟩⟩⟩⟩
 refine VO.nil ?_
 refine V.keep 17 [0, 1, 13] [] (E0 := [(0, .str entry), (1, .vl ρ1 2 (List.map encPair path)), (13, .bool ((!y0) || (!y1)))]) (H0 := []) rfl (⟨_, _, rfl, rfl, _, _, rfl, rfl, _, _, rfl, rfl, rfl⟩) (rfl) rfl ?_
 refine V.cond rfl (fun hc0 => ?_) (fun hc0 => ?_)
 ·
  replace hm0 := cond_t hc0 hm0
  refine V.seq ?_
  refine V.region ?_
  refine VO.cons rfl (V1.assign rfl rfl rfl lt0 ?_)
  refine VO.cons rfl (V1.assign rfl rfl rfl lt0 ?_)
  refine VO.nil ?_
  refine V.ret ?_
  obtain rfl := Option.some.inj hm0
  exact ⟨_, [], ⟨_, _, rfl, rfl, _, _, rfl, rfl, rfl⟩, List.nil_sublist _, rfl, rfl⟩
 ·
  replace hm0 := cond_f hc0 hm0
  refine V.skip ?_
  refine V.seq ?_
  replace hm0 := bindO hm0; rcases hm0 with ⟨y2, hh2, hm0⟩
  refine V.region ?_
  refine VO.cons rfl (V1.move rfl rfl rfl lt0 ?_)
  refine VO.cons rfl (V1.move rfl rfl rfl lt0 ?_)
  refine VO.cons rfl (V1.call rfl rfl rfl cok_145 rfl (ok_spec_l16From hh2) rfl lt0 ?_)
  rintro _ _ ⟨rfl, rfl⟩
  refine VO.cons rfl (V1.assign rfl rfl rfl lt0 ?_)
  refine VO.cons rfl (V1.assign rfl rfl rfl lt0 ?_)
  refine VO.nil ?_
  refine V.ret ?_
  obtain rfl := Option.some.inj hm0
  exact ⟨_, [], ⟨_, _, rfl, rfl, _, _, rfl, rfl, rfl⟩, List.nil_sublist _, rfl, rfl⟩

theorem ok_spec_DrawPlaceFrom {ρ0 rn : Nat} {code : List Int} {r : (List (Int × Int))} (h : M.spec_DrawPlaceFrom code = some r) : Does Tryd.prog 38 [.vl ρ0 1 (List.map encU8 code)] [] rn (fun x H => ∃ (ob0_ : Nat), x = PV.sref ob0_ 2 0 (List.length r) ∧ H = [(ob0_, ⟨2, List.map encPair r⟩)]) := by
 have hm0 := h; clear h; unfold M.spec_DrawPlaceFrom at hm0
 try dsimp only at hm0
 refine Does.intro (N := 17) Tryd.func38 rfl rfl rfl rfl ?_
 intro w0 S0 L0
 refine V.seq ?_
 refine V.region ?_
 refine VO.cons rfl (V1.assign rfl rfl rfl lt0 ?_)
 refine VO.nil ?_
 refine V.seq ?_
 refine V.region ?_
 refine VO.cons rfl (V1.move rfl rfl rfl lt0 ?_)
 refine VO.cons rfl (V1.build rfl rfl zk_128 pl_128 rfl rfl lt0 ?_)
 refine VO.cons rfl (V1.boxN (n := 3) rfl rfl rfl rfl rfl lt0 ?_)
 intro b0
 refine VO.cons rfl (V1.assign rfl rfl rfl lt0 ?_)
 refine VO.nil ?_
 refine V.keep 17 [3] [0] (E0 := [(3, .ref b0 3 0 0)]) (H0 := [(b0, ⟨3, [.agg [.vl ρ0 1 (List.map encU8 code), .int .i64 (0 : Int), .int .u64 (0 : Int)]]⟩)]) rfl (⟨_, _, rfl, rfl, rfl⟩) (⟨_, _, rfl, rfl, rfl⟩) rfl ?_
 refine V.seq ?_
 replace hm0 := bindO hm0; rcases hm0 with ⟨y0, hh0, hm0⟩
 refine V.region ?_
 refine VO.cons rfl (V1.move rfl rfl rfl lt0 ?_)
 refine VO.cons rfl (V1.callM 0 (rn + ρ0 + 1) [] [.ref b0 3 0 0] (p := (b0, ⟨3, [.agg [.vl ρ0 1 (List.map encU8 code), .int .i64 (0 : Int), .int .u64 (0 : Int)]]⟩)) rfl rfl rfl cok_143 rfl rfl ⟨_, _, rfl, .same _, rfl⟩ bwNil (ok_spec_l1Cur_path hh0) rfl (.inl rfl) lt0 ?_)
 rintro _ _ ⟨b1, rfl, rfl⟩
 refine VO.cons rfl (V1.move rfl rfl rfl lt0 ?_)
 refine VO.cons rfl (V1.extract rfl rfl rfl rfl lt0 ?_)
 refine VO.cons rfl (V1.extract rfl rfl rfl rfl lt0 ?_)
 refine VO.cons rfl (V1.extract rfl rfl rfl rfl lt0 ?_)
 refine VO.cons rfl (V1.assign rfl rfl rfl lt0 ?_)
 refine VO.cons rfl (V1.assign rfl rfl rfl lt0 ?_)
 refine VO.cons rfl (V1.assign rfl rfl rfl lt0 ?_)
 refine VO.nil ?_
 refine V.keep 17 [5] [0] (E0 := [(5, .sref b1 2 0 (List.length y0.2.1))]) (H0 := [(b1, ⟨2, List.map encPair y0.2.1⟩)]) rfl (⟨_, _, rfl, rfl, rfl⟩) (⟨_, _, rfl, rfl, rfl⟩) rfl ?_
 refine V.seq ?_
 refine V.region ?_
 refine VO.cons rfl (V1.move rfl rfl rfl lt0 ?_)
 refine VO.cons rfl (V1.assign rfl rfl rfl lt0 ?_)
 refine VO.nil ?_
 refine V.keep 17 [2] [0] (E0 := [(2, .sref b1 2 0 (List.length y0.2.1))]) (H0 := [(b1, ⟨2, List.map encPair y0.2.1⟩)]) rfl (⟨_, _, rfl, rfl, rfl⟩) (⟨_, _, rfl, rfl, rfl⟩) rfl ?_
 refine V.ret ?_
 obtain rfl := Option.some.inj hm0
 exact ⟨_, _, ⟨_, _, rfl, rfl, rfl⟩, List.Sublist.refl _, b1, rfl, rfl⟩

theorem ok_spec_PlaceFrom {ρ0 rn : Nat} {path : List (Int × Int)} {r : Int × Bool} (h : M.spec_PlaceFrom path = some r) : Does Tryd.prog 39 [.vl ρ0 2 (List.map encPair path)] [] rn (fun x H => x = .tup [.int .i64 r.1, .bool r.2] ∧ H = []) := by
 have hm0 := h; clear h; unfold M.spec_PlaceFrom at hm0
 try dsimp only at hm0
 refine Does.intro (N := 24) Tryd.func39 rfl rfl rfl rfl ?_
 intro w0 S0 L0
 refine V.seq ?_
 refine V.region ?_
 refine VO.cons rfl (V1.assign rfl rfl rfl lt0 ?_)
 refine VO.cons rfl (V1.assign rfl rfl rfl lt0 ?_)
 refine VO.nil ?_
 refine V.seq ?_
 refine V.seq ?_
 replace hm0 := bindO hm0; rcases hm0 with ⟨y0, hh0, hm0⟩
 refine V.region ?_
 refine VO.cons rfl (V1.move rfl rfl rfl lt0 ?_)
 refine VO.cons rfl (V1.call rfl rfl rfl cok_144 rfl (ok_spec_l16Path hh0) rfl lt0 ?_)
 rintro _ _ ⟨rfl, rfl⟩
 refine VO.cons rfl (V1.not rfl rfl rfl lt0 ?_)
 refine VO.nil ?_
 refine V.keep 24 [0, 8] [] (E0 := [(0, .vl ρ0 2 (List.map encPair path)), (8, .bool (!y0))]) (H0 := []) rfl (⟨_, _, rfl, rfl, _, _, rfl, rfl, rfl⟩) (rfl) rfl ?_
 refine V.cond rfl (fun hc0 => ?_) (fun hc0 => ?_)
 ·
  replace hm0 := cond_t hc0 hm0
  refine V.seq ?_
  refine V.region ?_
  refine VO.cons rfl (V1.assign rfl rfl rfl lt0 ?_)
  refine VO.cons rfl (V1.assign rfl rfl rfl lt0 ?_)
  refine VO.nil ?_
  refine V.ret ?_
  obtain rfl := Option.some.inj hm0
  exact ⟨_, [], ⟨_, _, rfl, rfl, _, _, rfl, rfl, rfl⟩, List.nil_sublist _, rfl, rfl⟩
 ·
  replace hm0 := cond_f hc0 hm0
  refine V.skip ?_
  refine V.seq ?_
  refine V.region ?_
  refine VO.cons rfl (V1.assign rfl rfl rfl lt0 ?_)
  refine VO.nil ?_
  refine V.seq ?_
  refine V.seq ?_
  refine V.region ?_
  refine VO.cons rfl (V1.assign rfl rfl rfl lt0 ?_)
  refine VO.nil ?_
  replace hm0 := bindO hm0; rcases hm0 with ⟨e0, he1, hm0⟩
  refine V.cutT (D := (Int) × (Unit)) (fun ⟨n_, _⟩ => ⟨24, [(4, .int .i64 n_)], []⟩) (fun ⟨n_, _⟩ => (n_ = e0)) ?_ ?_
  ·
   refine V.block ?_
   refine V.keep 24 [4, 5, 0] [] (E0 := [(4, .int .i64 (0 : Int)), (5, .int .i64 (0 : Int)), (0, .vl ρ0 2 (List.map encPair path))]) (H0 := []) rfl (⟨_, _, rfl, rfl, _, _, rfl, rfl, _, _, rfl, rfl, rfl⟩) (rfl) rfl ?_
   refine V.loopE (D := Nat × (Int × Int) × (Unit)) (fun ⟨n0, ⟨n_0, i⟩, _⟩ => [(4, .int .i64 n_0), (5, .int .i64 i)]) (fun ⟨n0, ⟨n_0, i⟩, _⟩ => []) (fun ⟨n0, ⟨n_0, i⟩, _⟩ => loopO (M.spec_PlaceFrom_l0 path) n0 (n_0, i) = some e0) (fun ⟨n0, _, _⟩ => n0) (rounds, ((0 : Int), (0 : Int)), ()) rfl he1 ?_
   rintro ⟨n0, ⟨n_0, i⟩, _⟩ hP0
   obtain ⟨m0, y1, rfl, hm1, hl1, hr1⟩ := loop_head hP0
   unfold M.spec_PlaceFrom_l0 at hm1; dsimp only at hm1
   show V _ _ _ ⟨24, [(4, .int .i64 n_0), (5, .int .i64 i), (0, .vl ρ0 2 (List.map encPair path))], []⟩
   refine V.seq ?_
   refine V.seq ?_
   refine V.region ?_
   refine VO.cons rfl (V1.move rfl rfl rfl lt0 ?_)
   refine VO.cons rfl (V1.move rfl rfl rfl lt0 ?_)
   refine VO.cons rfl (V1.lenMap rfl rfl rfl rfl rfl rfl isl_46 lt0 ?_)
   refine VO.cons rfl (V1.int rfl rfl rfl rfl rfl lt0 ?_)
   refine VO.nil ?_
   refine V.cond rfl (fun hc1 => ?_) (fun hc1 => ?_)
   ·
    replace hm1 := cond_t hc1 hm1
    refine V.skip ?_
    refine V.keep 24 [0, 4, 5] [] (E0 := [(0, .vl ρ0 2 (List.map encPair path)), (4, .int .i64 n_0), (5, .int .i64 i)]) (H0 := []) rfl (⟨_, _, rfl, rfl, _, _, rfl, rfl, _, _, rfl, rfl, rfl⟩) (rfl) rfl ?_
    refine V.seq ?_
    replace hm1 := bindO hm1; rcases hm1 with ⟨j0, hm2, hm1⟩
    refine V.cutT (D := (Int) × (Unit)) (fun ⟨n_1, _⟩ => ⟨24, [(4, .int .i64 n_1), (0, .vl ρ0 2 (List.map encPair path)), (5, .int .i64 i)], []⟩) (fun ⟨n_1, _⟩ => (n_1 = j0)) ?_ ?_
    ·
     refine V.block ?_
     refine V.seq ?_
     replace hm2 := asrt_some hm2; rcases hm2 with ⟨hh1, hm2⟩
     refine V.region ?_
     refine VO.cons rfl (V1.move rfl rfl rfl lt0 ?_)
     refine VO.cons rfl (V1.move rfl rfl rfl lt0 ?_)
     refine VO.cons rfl (V1.indexI rfl rfl esz_46 rfl rfl hh1 lt0 ?_)
     refine VO.cons rfl (V1.idxPin rfl rfl und_145 tyk_3 rfl rfl (by decide) lt0 ?_)
     refine VO.cons rfl (V1.loadPin rfl rfl tyk_3 rfl rfl lt0 ?_)
     refine VO.cons rfl (V1.int rfl rfl rfl rfl rfl lt0 ?_)
     refine VO.nil ?_
     refine V.keep 24 [0, 4, 5, 20] [] (E0 := [(0, .vl ρ0 2 (List.map encPair path)), (4, .int .i64 n_0), (5, .int .i64 i), (20, .bool (((path.getD (Int.toNat i) default).1) == (0 : Int)))]) (H0 := []) rfl (⟨_, _, rfl, rfl, _, _, rfl, rfl, _, _, rfl, rfl, _, _, rfl, rfl, rfl⟩) (rfl) rfl ?_
     refine V.cond rfl (fun hc2 => ?_) (fun hc2 => ?_)
     ·
      replace hm2 := cond_t hc2 hm2
      refine V.region ?_
      refine VO.cons rfl (V1.move rfl rfl rfl lt0 ?_)
      refine VO.cons rfl (V1.int rfl rfl rfl rfl rfl lt0 ?_)
      refine VO.cons rfl (V1.assign rfl rfl rfl lt0 ?_)
      refine VO.nil ?_
      exact ⟨((IntKind.i64.wrap (n_0 + (1 : Int))), ()), Option.some.inj hm2, Keeps.mk (ks := []) rfl ⟨rfl, rfl, rfl, trivial⟩ (rfl) rfl⟩
     ·
      replace hm2 := cond_f hc2 hm2
      refine V.skip ?_
      exact ⟨(n_0, ()), Option.some.inj hm2, Keeps.mk (ks := []) rfl ⟨rfl, rfl, rfl, trivial⟩ (rfl) rfl⟩
    ·
     rintro ⟨n_1, _⟩ rfl
     try dsimp only at hm1
     refine V.region ?_
     refine VO.cons rfl (V1.move rfl rfl rfl lt0 ?_)
     refine VO.cons rfl (V1.int rfl rfl rfl rfl rfl lt0 ?_)
     refine VO.cons rfl (V1.assign rfl rfl rfl lt0 ?_)
     refine VO.nil ?_
     exact ⟨(m0, (n_1, (IntKind.i64.wrap (i + (1 : Int)))), ()), hl1 _ (Option.some.inj hm1).symm, Nat.lt_succ_self _, Keeps.mk (ks := []) rfl ⟨rfl, rfl, rfl, trivial⟩ (rfl) rfl⟩
   ·
    replace hm1 := cond_f hc1 hm1
    refine V.exit ?_
    obtain rfl := hr1 _ (Option.some.inj hm1).symm
    exact ⟨(n_0, ()), rfl, Keeps.mk (ks := []) rfl ⟨rfl, trivial⟩ (rfl) rfl⟩
  ·
   rintro ⟨n_, _⟩ rfl
   try dsimp only at hm0
   refine V.seq ?_
   refine V.region ?_
   refine VO.cons rfl (V1.move rfl rfl rfl lt0 ?_)
   refine VO.cons rfl (V1.assign rfl rfl rfl lt0 ?_)
   refine VO.cons rfl (V1.assign rfl rfl rfl lt0 ?_)
   refine VO.nil ?_
   refine V.ret ?_
   obtain rfl := Option.some.inj hm0
   exact ⟨_, [], ⟨_, _, rfl, rfl, _, _, rfl, rfl, rfl⟩, List.nil_sublist _, rfl, rfl⟩

theorem ok_laws_FnCertificates {ρ0 rn : Nat} {code : List Int} {r : Bool} (h : M.laws_FnCertificates code = some r) : Does Tryd.prog 4 [.vl ρ0 1 (List.map encU8 code)] [] rn (fun x H => x = .bool r ∧ H = []) := by
 have hm0 := h; clear h; unfold M.laws_FnCertificates at hm0
 try dsimp only at hm0
 refine Does.intro (N := 229) Tryd.func4 rfl rfl rfl rfl ?_
 intro w0 S0 L0
 refine V.seq ?_
 refine V.region ?_
 refine VO.cons rfl (V1.assign rfl rfl rfl lt0 ?_)
 refine VO.nil ?_
 refine V.seq ?_
 refine V.seq ?_
 replace hm0 := bindO hm0; rcases hm0 with ⟨y0, hh0, hm0⟩
 refine V.region ?_
 refine VO.cons rfl (V1.move rfl rfl rfl lt0 ?_)
 refine VO.cons rfl (V1.call rfl rfl rfl cok_10 rfl (ok_laws_vBig hh0) rfl lt0 ?_)
 rintro _ _ ⟨rfl, rfl⟩
 refine VO.nil ?_
 refine V.cond rfl (fun hc0 => ?_) (fun hc0 => ?_)
 ·
  replace hm0 := cond_t hc0 hm0
  refine V.seq ?_
  refine V.region ?_
  refine VO.cons rfl (V1.assign rfl rfl rfl lt0 ?_)
  refine VO.nil ?_
  refine V.ret ?_
  obtain rfl := Option.some.inj hm0
  exact ⟨_, [], ⟨_, _, rfl, rfl, rfl⟩, List.nil_sublist _, rfl, rfl⟩
 ·
  replace hm0 := cond_f hc0 hm0
  refine V.skip ?_
  refine V.seq ?_
  replace hm0 := bindO hm0; rcases hm0 with ⟨y1, hh1, hm0⟩
  refine V.region ?_
  refine VO.cons rfl (V1.move rfl rfl rfl lt0 ?_)
  refine VO.cons rfl (V1.call rfl rfl rfl cok_25 rfl (ok_spec_DrawRootOf hh1) rfl lt0 ?_)
  rintro _ _ ⟨b0, rfl, rfl⟩
  refine VO.weakenK (Keeps.freezeG 0 rn [(40, .vl rn 1 (List.map encStr y1))] ([]) (f := encStr) (l := y1) rfl (fun _ => rfl) ⟨⟨_, rfl, .here⟩, trivial⟩ rfl rfl iNil) ?_
  refine VO.cons rfl (V1.assign rfl rfl rfl lt0 ?_)
  refine VO.nil ?_
  refine V.keep 229 [0, 3] [] (E0 := [(0, .vl ρ0 1 (List.map encU8 code)), (3, .vl rn 1 (List.map encStr y1))]) (H0 := []) rfl (⟨_, _, rfl, rfl, _, _, rfl, rfl, rfl⟩) (rfl) rfl ?_
  refine V.seq ?_
  replace hm0 := bindO hm0; rcases hm0 with ⟨y2, hh2, hm0⟩
  refine V.region ?_
  refine VO.cons rfl (V1.move rfl rfl rfl lt0 ?_)
  refine VO.cons rfl (V1.call rfl rfl rfl cok_14 rfl (ok_impl_RootOf hh2) rfl lt0 ?_)
  rintro _ _ ⟨rfl, rfl⟩
  refine VO.cons rfl (V1.move rfl rfl rfl lt0 ?_)
  refine VO.cons rfl (V1.extract rfl rfl rfl rfl lt0 ?_)
  refine VO.cons rfl (V1.extract rfl rfl rfl rfl lt0 ?_)
  refine VO.cons rfl (V1.assign rfl rfl rfl lt0 ?_)
  refine VO.cons rfl (V1.assign rfl rfl rfl lt0 ?_)
  refine VO.nil ?_
  refine V.keep 229 [0, 3, 4, 5] [] (E0 := [(0, .vl ρ0 1 (List.map encU8 code)), (3, .vl rn 1 (List.map encStr y1)), (4, .int .i64 y2.1), (5, .bool y2.2)]) (H0 := []) rfl (⟨_, _, rfl, rfl, _, _, rfl, rfl, _, _, rfl, rfl, _, _, rfl, rfl, rfl⟩) (rfl) rfl ?_
  refine V.seq ?_
  refine V.seq ?_
  replace hm0 := bindO hm0; rcases hm0 with ⟨y3, hh3, hm0⟩
  refine V.region ?_
  refine VO.cons rfl (V1.move rfl rfl rfl lt0 ?_)
  refine VO.cons rfl (V1.call rfl rfl rfl cok_26 rfl (ok_spec_RootOf hh3) rfl lt0 ?_)
  rintro _ _ ⟨rfl, rfl⟩
  refine VO.cons rfl (V1.move rfl rfl rfl lt0 ?_)
  refine VO.cons rfl (V1.extract rfl rfl rfl rfl lt0 ?_)
  refine VO.cons rfl (V1.extract rfl rfl rfl rfl lt0 ?_)
  refine VO.cons rfl (V1.assign rfl rfl rfl lt0 ?_)
  refine VO.cons rfl (V1.assign rfl rfl rfl lt0 ?_)
  refine VO.nil ?_
  refine V.keep 229 [0, 3, 4, 5, 6, 7] [] (E0 := [(0, .vl ρ0 1 (List.map encU8 code)), (3, .vl rn 1 (List.map encStr y1)), (4, .int .i64 y2.1), (5, .bool y2.2), (6, .int .i64 y3.1), (7, .bool y3.2)]) (H0 := []) rfl (⟨_, _, rfl, rfl, _, _, rfl, rfl, _, _, rfl, rfl, _, _, rfl, rfl, _, _, rfl, rfl, _, _, rfl, rfl, rfl⟩) (rfl) rfl ?_
  refine V.seq ?_
  replace hm0 := bindO hm0; rcases hm0 with ⟨y4, hh4, hm0⟩
  refine V.region ?_
  refine VO.cons rfl (V1.move rfl rfl rfl lt0 ?_)
  refine VO.cons rfl (V1.move rfl rfl rfl lt0 ?_)
  refine VO.cons rfl (V1.int rfl rfl rfl rfl rfl lt0 ?_)
  refine VO.cons rfl (V1.move rfl rfl rfl lt0 ?_)
  apply VO.or (n := 3) rfl rfl rfl rfl rfl rfl lt0 (.none rfl)
  ·
   intro hg0
   refine VO.step (.some rfl rfl rfl) (V1.move rfl rfl rfl lt0 ?_)
   refine VO.step (.some rfl rfl rfl) (V1.move rfl rfl rfl lt0 ?_)
   refine VO.step (.some rfl rfl rfl) (V1.boolNeq rfl rfl und_4 rfl rfl lt0 ?_)
   exact VO.nil ⟨rfl, rfl, rfl, rfl, .inr ⟨rfl, .inr ⟨rfl, .inr ⟨rfl, .inr ⟨rfl, .inl rfl⟩⟩⟩⟩⟩
  refine VO.cons rfl (V1.move rfl rfl rfl lt0 ?_)
  apply VO.or (n := 4) rfl rfl rfl rfl rfl rfl lt0 (.none rfl)
  ·
   intro hg1
   refine VO.step (.some rfl rfl rfl) (V1.move rfl rfl rfl lt0 ?_)
   refine VO.step (.some rfl rfl rfl) (V1.move rfl rfl rfl lt0 ?_)
   refine VO.step (.some rfl rfl rfl) (V1.call rfl rfl rfl cok_27 rfl (ok_impl_IsLedger (cond_f hg1 hh4)) rfl lt0 ?_)
   rintro _ _ ⟨rfl, rfl⟩
   refine VO.step (.some rfl rfl rfl) (V1.boolNeq rfl rfl und_4 rfl rfl lt0 ?_)
   exact VO.nil ⟨rfl, rfl, rfl, rfl, .inr ⟨rfl, .inr ⟨rfl, .inr ⟨rfl, .inr ⟨rfl, .inr ⟨rfl, .inl rfl⟩⟩⟩⟩⟩⟩
  refine VO.nil ?_
  refine V.keep 229 [0, 3, 4, 5, 64] [] (E0 := [(0, .vl ρ0 1 (List.map encU8 code)), (3, .vl rn 1 (List.map encStr y1)), (4, .int .i64 y2.1), (5, .bool y2.2), (64, .bool (((y2.1 != y3.1) || (!(y2.2 == y3.2))) || (!(y2.2 == y4))))]) (H0 := []) rfl (⟨_, _, rfl, rfl, _, _, rfl, rfl, _, _, rfl, rfl, _, _, rfl, rfl, _, _, rfl, rfl, rfl⟩) (rfl) rfl ?_
  refine V.cond rfl (fun hc1 => ?_) (fun hc1 => ?_)
  ·
   replace hm0 := cond_t hc1 hm0
   refine V.seq ?_
   refine V.region ?_
   refine VO.cons rfl (V1.assign rfl rfl rfl lt0 ?_)
   refine VO.nil ?_
   refine V.ret ?_
   obtain rfl := Option.some.inj hm0
   exact ⟨_, [], ⟨_, _, rfl, rfl, rfl⟩, List.nil_sublist _, rfl, rfl⟩
  ·
   replace hm0 := cond_f hc1 hm0
   refine V.skip ?_
   refine V.seq ?_
   refine V.seq ?_
   refine V.region ?_
   refine VO.cons rfl (V1.assign rfl rfl rfl lt0 ?_)
   refine VO.nil ?_
   replace hm0 := bindO hm0; rcases hm0 with ⟨e0, he1, hm0⟩
   refine V.cutT (D := (Unit) × (Unit)) (fun ⟨_, _⟩ => ⟨229, [(0, .vl ρ0 1 (List.map encU8 code))], []⟩) (fun ⟨_, _⟩ => (.inl () = e0)) ?_ ?_
   ·
    refine V.block ?_
    refine V.keep 229 [8, 0, 3, 4, 5] [] (E0 := [(8, .int .i64 (0 : Int)), (0, .vl ρ0 1 (List.map encU8 code)), (3, .vl rn 1 (List.map encStr y1)), (4, .int .i64 y2.1), (5, .bool y2.2)]) (H0 := []) rfl (⟨_, _, rfl, rfl, _, _, rfl, rfl, _, _, rfl, rfl, _, _, rfl, rfl, _, _, rfl, rfl, rfl⟩) (rfl) rfl ?_
    refine V.loopE (D := Nat × (Int) × (Unit)) (fun ⟨n0, i, _⟩ => [(8, .int .i64 i)]) (fun ⟨n0, i, _⟩ => []) (fun ⟨n0, i, _⟩ => loopO (M.laws_FnCertificates_l0 y1 y2) n0 i = some e0) (fun ⟨n0, _, _⟩ => n0) (rounds, (0 : Int), ()) rfl he1 ?_
    rintro ⟨n0, i, _⟩ hP0
    obtain ⟨m0, y5, rfl, hm1, hl1, hr1⟩ := loop_head hP0
    unfold M.laws_FnCertificates_l0 at hm1; dsimp only at hm1
    show V _ _ _ ⟨229, [(8, .int .i64 i), (0, .vl ρ0 1 (List.map encU8 code)), (3, .vl rn 1 (List.map encStr y1)), (4, .int .i64 y2.1), (5, .bool y2.2)], []⟩
    refine V.seq ?_
    refine V.seq ?_
    refine V.region ?_
    refine VO.cons rfl (V1.move rfl rfl rfl lt0 ?_)
    refine VO.cons rfl (V1.move rfl rfl rfl lt0 ?_)
    refine VO.cons rfl (V1.lenMap rfl rfl rfl rfl rfl rfl isl_28 lt0 ?_)
    refine VO.cons rfl (V1.int rfl rfl rfl rfl rfl lt0 ?_)
    refine VO.cons rfl (V1.move rfl rfl rfl lt0 ?_)
    apply VO.and (n := 1) rfl rfl rfl rfl rfl rfl lt0 (.none rfl)
    ·
     intro hg2
     refine VO.step (.some rfl rfl rfl) (V1.move rfl rfl rfl lt0 ?_)
     exact VO.nil ⟨rfl, rfl, rfl, rfl, .inr ⟨rfl, .inr ⟨rfl, .inl rfl⟩⟩⟩
    refine VO.nil ?_
    refine V.keep 229 [0, 3, 4, 5, 8, 71] [] (E0 := [(0, .vl ρ0 1 (List.map encU8 code)), (3, .vl rn 1 (List.map encStr y1)), (4, .int .i64 y2.1), (5, .bool y2.2), (8, .int .i64 i), (71, .bool ((decide (i < (y1.length : Int))) && y2.2))]) (H0 := []) rfl (⟨_, _, rfl, rfl, _, _, rfl, rfl, _, _, rfl, rfl, _, _, rfl, rfl, _, _, rfl, rfl, _, _, rfl, rfl, rfl⟩) (rfl) rfl ?_
    refine V.cond rfl (fun hc2 => ?_) (fun hc2 => ?_)
    ·
     replace hm1 := cond_t hc2 hm1
     refine V.skip ?_
     refine V.seq ?_
     refine V.block ?_
     refine V.seq ?_
     replace hm1 := bindO hm1; rcases hm1 with ⟨y6, hh5, hm1⟩
     refine V.region ?_
     refine VO.cons rfl (V1.move rfl rfl rfl lt0 ?_)
     refine VO.cons rfl (V1.move rfl rfl rfl lt0 ?_)
     refine VO.cons rfl (V1.permK (V1.call rfl rfl rfl cok_28 rfl (ok_impl_PathOf hh5) rfl lt0 ?_))
     rintro _ _ ⟨ob0, hob0, rfl, rfl⟩
     refine ⟨_, ?_, Keeps.optBack (n := 2) (ob := ob0) (xs := List.map encPair y6.1) (H1 := []) (H2 := []) rfl⟩
     refine VO.cons rfl (V1.move rfl rfl rfl lt0 ?_)
     refine VO.cons rfl (V1.extract rfl rfl rfl rfl lt0 ?_)
     refine VO.weakenK (Keeps.optFront (n := 2) (ob := ob0) (xs := (List.map encPair y6.1)) (H1 := []) rfl) ?_
     refine VO.weakenK (Keeps.optVl 78 [] rn (f := encPair) (l := y6.1) (ob := ob0) (H1 := []) hob0 rfl rfl ⟨rfl, trivial⟩ (fun _ => rfl) rfl iNil) ?_
     refine VO.cons rfl (V1.extract rfl rfl rfl rfl lt0 ?_)
     refine VO.cons rfl (V1.assign rfl rfl rfl lt0 ?_)
     refine VO.cons rfl (V1.assign rfl rfl rfl lt0 ?_)
     refine VO.nil ?_
     refine V.keep 229 [0, 3, 4, 5, 8, 9, 10] [] (E0 := [(0, .vl ρ0 1 (List.map encU8 code)), (3, .vl rn 1 (List.map encStr y1)), (4, .int .i64 y2.1), (5, .bool y2.2), (8, .int .i64 i), (9, .vl rn 2 (List.map encPair y6.1)), (10, .bool y6.2)]) (H0 := []) rfl (⟨_, _, rfl, rfl, _, _, rfl, rfl, _, _, rfl, rfl, _, _, rfl, rfl, _, _, rfl, rfl, _, _, rfl, rfl, _, _, rfl, rfl, rfl⟩) (rfl) rfl ?_
     refine V.seq ?_
     replace hm1 := asrt_some hm1; rcases hm1 with ⟨hh6, hm1⟩
     replace hm1 := bindO hm1; rcases hm1 with ⟨y7, hh7, hm1⟩
     refine V.region ?_
     refine VO.cons rfl (V1.move rfl rfl rfl lt0 ?_)
     refine VO.cons rfl (V1.move rfl rfl rfl lt0 ?_)
     refine VO.cons rfl (V1.indexI rfl rfl esz_28 rfl rfl hh6 lt0 ?_)
     refine VO.cons rfl (V1.loadPin rfl rfl tyk_9 rfl rfl lt0 ?_)
     refine VO.cons rfl (V1.move rfl rfl rfl lt0 ?_)
     refine VO.cons rfl (V1.move rfl rfl rfl lt0 ?_)
     refine VO.cons rfl (V1.call rfl rfl rfl cok_29 rfl (ok_impl_IsCertified hh7) rfl lt0 ?_)
     rintro _ _ ⟨rfl, rfl⟩
     refine VO.cons rfl (V1.move rfl rfl rfl lt0 ?_)
     refine VO.cons rfl (V1.extract rfl rfl rfl rfl lt0 ?_)
     refine VO.cons rfl (V1.extract rfl rfl rfl rfl lt0 ?_)
     refine VO.cons rfl (V1.assign rfl rfl rfl lt0 ?_)
     refine VO.cons rfl (V1.assign rfl rfl rfl lt0 ?_)
     refine VO.nil ?_
     refine V.keep 229 [0, 3, 4, 5, 8, 9, 10, 11, 12] [] (E0 := [(0, .vl ρ0 1 (List.map encU8 code)), (3, .vl rn 1 (List.map encStr y1)), (4, .int .i64 y2.1), (5, .bool y2.2), (8, .int .i64 i), (9, .vl rn 2 (List.map encPair y6.1)), (10, .bool y6.2), (11, .bool y7.1), (12, .bool y7.2)]) (H0 := []) rfl (⟨_, _, rfl, rfl, _, _, rfl, rfl, _, _, rfl, rfl, _, _, rfl, rfl, _, _, rfl, rfl, _, _, rfl, rfl, _, _, rfl, rfl, _, _, rfl, rfl, _, _, rfl, rfl, rfl⟩) (rfl) rfl ?_
     refine V.seq ?_
     replace hm1 := bindO hm1; rcases hm1 with ⟨y8, hh8, hm1⟩
     refine V.region ?_
     refine VO.cons rfl (V1.move rfl rfl rfl lt0 ?_)
     refine VO.cons rfl (V1.call rfl rfl rfl cok_30 rfl (ok_impl_PlaceFrom hh8) rfl lt0 ?_)
     rintro _ _ ⟨rfl, rfl⟩
     refine VO.cons rfl (V1.move rfl rfl rfl lt0 ?_)
     refine VO.cons rfl (V1.extract rfl rfl rfl rfl lt0 ?_)
     refine VO.cons rfl (V1.extract rfl rfl rfl rfl lt0 ?_)
     refine VO.cons rfl (V1.assign rfl rfl rfl lt0 ?_)
     refine VO.cons rfl (V1.assign rfl rfl rfl lt0 ?_)
     refine VO.nil ?_
     refine V.keep 229 [0, 3, 4, 5, 8, 9, 10, 11, 12, 13, 14] [] (E0 := [(0, .vl ρ0 1 (List.map encU8 code)), (3, .vl rn 1 (List.map encStr y1)), (4, .int .i64 y2.1), (5, .bool y2.2), (8, .int .i64 i), (9, .vl rn 2 (List.map encPair y6.1)), (10, .bool y6.2), (11, .bool y7.1), (12, .bool y7.2), (13, .int .i64 y8.1), (14, .bool y8.2)]) (H0 := []) rfl (⟨_, _, rfl, rfl, _, _, rfl, rfl, _, _, rfl, rfl, _, _, rfl, rfl, _, _, rfl, rfl, _, _, rfl, rfl, _, _, rfl, rfl, _, _, rfl, rfl, _, _, rfl, rfl, _, _, rfl, rfl, _, _, rfl, rfl, rfl⟩) (rfl) rfl ?_
     refine V.seq ?_
     refine V.region ?_
     refine VO.cons rfl (V1.move rfl rfl rfl lt0 ?_)
     refine VO.cons rfl (V1.not rfl rfl rfl lt0 ?_)
     refine VO.cons rfl (V1.move rfl rfl rfl lt0 ?_)
     apply VO.or (n := 2) rfl rfl rfl rfl rfl rfl lt0 (.none rfl)
     ·
      intro hg3
      refine VO.step (.some rfl rfl rfl) (V1.move rfl rfl rfl lt0 ?_)
      refine VO.step (.some rfl rfl rfl) (V1.not rfl rfl rfl lt0 ?_)
      exact VO.nil ⟨rfl, rfl, rfl, rfl, .inr ⟨rfl, .inr ⟨rfl, .inr ⟨rfl, .inl rfl⟩⟩⟩⟩
     refine VO.cons rfl (V1.move rfl rfl rfl lt0 ?_)
     apply VO.or (n := 2) rfl rfl rfl rfl rfl rfl lt0 (.none rfl)
     ·
      intro hg4
      refine VO.step (.some rfl rfl rfl) (V1.move rfl rfl rfl lt0 ?_)
      refine VO.step (.some rfl rfl rfl) (V1.not rfl rfl rfl lt0 ?_)
      exact VO.nil ⟨rfl, rfl, rfl, rfl, .inr ⟨rfl, .inr ⟨rfl, .inr ⟨rfl, .inl rfl⟩⟩⟩⟩
     refine VO.cons rfl (V1.move rfl rfl rfl lt0 ?_)
     apply VO.or (n := 2) rfl rfl rfl rfl rfl rfl lt0 (.none rfl)
     ·
      intro hg5
      refine VO.step (.some rfl rfl rfl) (V1.move rfl rfl rfl lt0 ?_)
      refine VO.step (.some rfl rfl rfl) (V1.not rfl rfl rfl lt0 ?_)
      exact VO.nil ⟨rfl, rfl, rfl, rfl, .inr ⟨rfl, .inr ⟨rfl, .inr ⟨rfl, .inl rfl⟩⟩⟩⟩
     refine VO.cons rfl (V1.move rfl rfl rfl lt0 ?_)
     apply VO.or (n := 4) rfl rfl rfl rfl rfl rfl lt0 (.none rfl)
     ·
      intro hg6
      refine VO.step (.some rfl rfl rfl) (V1.move rfl rfl rfl lt0 ?_)
      refine VO.step (.some rfl rfl rfl) (V1.move rfl rfl rfl lt0 ?_)
      refine VO.step (.some rfl rfl rfl) (V1.lenMap rfl rfl rfl rfl rfl rfl isl_46 lt0 ?_)
      refine VO.step (.some rfl rfl rfl) (V1.int rfl rfl rfl rfl rfl lt0 ?_)
      exact VO.nil ⟨rfl, rfl, rfl, rfl, .inr ⟨rfl, .inr ⟨rfl, .inr ⟨rfl, .inr ⟨rfl, .inr ⟨rfl, .inl rfl⟩⟩⟩⟩⟩⟩
     refine VO.cons rfl (V1.move rfl rfl rfl lt0 ?_)
     apply VO.or (n := 3) rfl rfl rfl rfl rfl rfl lt0 (.none rfl)
     ·
      intro hg7
      refine VO.step (.some rfl rfl rfl) (V1.move rfl rfl rfl lt0 ?_)
      refine VO.step (.some rfl rfl rfl) (V1.lenMap rfl rfl rfl rfl rfl rfl isl_46 lt0 ?_)
      refine VO.step (.some rfl rfl rfl) (V1.int rfl rfl rfl rfl rfl lt0 ?_)
      exact VO.nil ⟨rfl, rfl, rfl, rfl, .inr ⟨rfl, .inr ⟨rfl, .inr ⟨rfl, .inr ⟨rfl, .inl rfl⟩⟩⟩⟩⟩
     refine VO.nil ?_
     refine V.keep 229 [0, 3, 4, 5, 8, 119] [] (E0 := [(0, .vl ρ0 1 (List.map encU8 code)), (3, .vl rn 1 (List.map encStr y1)), (4, .int .i64 y2.1), (5, .bool y2.2), (8, .int .i64 i), (119, .bool ((((((!y6.2) || (!y7.2)) || (!y7.1)) || (!y8.2)) || (decide (y8.1 > (y6.1.length : Int)))) || (decide ((y6.1.length : Int) > (3 : Int)))))]) (H0 := []) rfl (⟨_, _, rfl, rfl, _, _, rfl, rfl, _, _, rfl, rfl, _, _, rfl, rfl, _, _, rfl, rfl, _, _, rfl, rfl, rfl⟩) (rfl) rfl ?_
     refine V.cond rfl (fun hc3 => ?_) (fun hc3 => ?_)
     ·
      replace hm1 := cond_t hc3 hm1
      refine V.seq ?_
      refine V.region ?_
      refine VO.cons rfl (V1.assign rfl rfl rfl lt0 ?_)
      refine VO.nil ?_
      refine V.ret ?_
      obtain rfl := hr1 _ (Option.some.inj hm1).symm
      change some _ = some _ at hm0
      obtain rfl := Option.some.inj hm0
      exact ⟨_, [], ⟨_, _, rfl, rfl, rfl⟩, List.nil_sublist _, rfl, rfl⟩
     ·
      replace hm1 := cond_f hc3 hm1
      refine V.skip ?_
      refine V.region ?_
      refine VO.cons rfl (V1.move rfl rfl rfl lt0 ?_)
      refine VO.cons rfl (V1.int rfl rfl rfl rfl rfl lt0 ?_)
      refine VO.cons rfl (V1.assign rfl rfl rfl lt0 ?_)
      refine VO.nil ?_
      exact ⟨(m0, (IntKind.i64.wrap (i + (1 : Int))), ()), hl1 _ (Option.some.inj hm1).symm, Nat.lt_succ_self _, Keeps.mk (ks := []) rfl ⟨rfl, rfl, rfl, rfl, rfl, trivial⟩ (rfl) rfl⟩
    ·
     replace hm1 := cond_f hc2 hm1
     refine V.exit ?_
     obtain rfl := hr1 _ (Option.some.inj hm1).symm
     exact ⟨((), ()), rfl, Keeps.mk (ks := []) rfl ⟨rfl, trivial⟩ (rfl) rfl⟩
   ·
    rintro ⟨_, _⟩ rfl
    try dsimp only at hm0
    refine V.seq ?_
    replace hm0 := bindO hm0; rcases hm0 with ⟨y9, hh9, hm0⟩
    refine V.region ?_
    refine VO.cons rfl (V1.move rfl rfl rfl lt0 ?_)
    refine VO.cons rfl (V1.call rfl rfl rfl cok_31 rfl (ok_spec_DrawPathOf hh9) rfl lt0 ?_)
    rintro _ _ ⟨b1, rfl, rfl⟩
    refine VO.cons rfl (V1.move rfl rfl rfl lt0 ?_)
    refine VO.cons rfl (V1.extract rfl rfl rfl rfl lt0 ?_)
    refine VO.weakenK (Keeps.freezeG 0 rn [(123, .vl rn 1 (List.map encStr y9.1))] ([]) (f := encStr) (l := y9.1) rfl (fun _ => rfl) ⟨⟨_, rfl, .here⟩, trivial⟩ rfl rfl iNil) ?_
    refine VO.cons rfl (V1.extract rfl rfl rfl rfl lt0 ?_)
    refine VO.cons rfl (V1.assign rfl rfl rfl lt0 ?_)
    refine VO.cons rfl (V1.assign rfl rfl rfl lt0 ?_)
    refine VO.nil ?_
    refine V.keep 229 [0, 15, 16] [] (E0 := [(0, .vl ρ0 1 (List.map encU8 code)), (15, .vl rn 1 (List.map encStr y9.1)), (16, .int .i64 y9.2)]) (H0 := []) rfl (⟨_, _, rfl, rfl, _, _, rfl, rfl, _, _, rfl, rfl, rfl⟩) (rfl) rfl ?_
    refine V.seq ?_
    replace hm0 := bindO hm0; rcases hm0 with ⟨y10, hh10, hm0⟩
    refine V.region ?_
    refine VO.cons rfl (V1.move rfl rfl rfl lt0 ?_)
    refine VO.cons rfl (V1.move rfl rfl rfl lt0 ?_)
    refine VO.cons rfl (V1.permK (V1.call rfl rfl rfl cok_28 rfl (ok_impl_PathOf hh10) rfl lt0 ?_))
    rintro _ _ ⟨ob1, hob1, rfl, rfl⟩
    refine ⟨_, ?_, Keeps.optBack (n := 2) (ob := ob1) (xs := List.map encPair y10.1) (H1 := []) (H2 := []) rfl⟩
    refine VO.cons rfl (V1.move rfl rfl rfl lt0 ?_)
    refine VO.cons rfl (V1.extract rfl rfl rfl rfl lt0 ?_)
    refine VO.weakenK (Keeps.optFront (n := 2) (ob := ob1) (xs := (List.map encPair y10.1)) (H1 := []) rfl) ?_
    refine VO.weakenK (Keeps.optVl 129 [] rn (f := encPair) (l := y10.1) (ob := ob1) (H1 := []) hob1 rfl rfl ⟨rfl, trivial⟩ (fun _ => rfl) rfl iNil) ?_
    refine VO.cons rfl (V1.extract rfl rfl rfl rfl lt0 ?_)
    refine VO.cons rfl (V1.assign rfl rfl rfl lt0 ?_)
    refine VO.cons rfl (V1.assign rfl rfl rfl lt0 ?_)
    refine VO.nil ?_
    refine V.keep 229 [0, 15, 16, 17, 18] [] (E0 := [(0, .vl ρ0 1 (List.map encU8 code)), (15, .vl rn 1 (List.map encStr y9.1)), (16, .int .i64 y9.2), (17, .vl rn 2 (List.map encPair y10.1)), (18, .bool y10.2)]) (H0 := []) rfl (⟨_, _, rfl, rfl, _, _, rfl, rfl, _, _, rfl, rfl, _, _, rfl, rfl, _, _, rfl, rfl, rfl⟩) (rfl) rfl ?_
    refine V.seq ?_
    refine V.seq ?_
    replace hm0 := bindO hm0; rcases hm0 with ⟨y11, hh11, hm0⟩
    refine V.region ?_
    refine VO.cons rfl (V1.move rfl rfl rfl lt0 ?_)
    refine VO.cons rfl (V1.move rfl rfl rfl lt0 ?_)
    refine VO.cons rfl (V1.call rfl rfl rfl cok_32 rfl (ok_spec_PathOf hh11) rfl lt0 ?_)
    rintro _ _ ⟨b2, rfl, rfl⟩
    refine VO.cons rfl (V1.move rfl rfl rfl lt0 ?_)
    refine VO.cons rfl (V1.extract rfl rfl rfl rfl lt0 ?_)
    refine VO.weakenK (Keeps.freezeG 0 rn [(135, .vl rn 2 (List.map encPair y11.1))] ([]) (f := encPair) (l := y11.1) rfl (fun _ => rfl) ⟨⟨_, rfl, .here⟩, trivial⟩ rfl rfl iNil) ?_
    refine VO.cons rfl (V1.extract rfl rfl rfl rfl lt0 ?_)
    refine VO.cons rfl (V1.assign rfl rfl rfl lt0 ?_)
    refine VO.cons rfl (V1.assign rfl rfl rfl lt0 ?_)
    refine VO.nil ?_
    refine V.keep 229 [0, 17, 18, 19, 20] [] (E0 := [(0, .vl ρ0 1 (List.map encU8 code)), (17, .vl rn 2 (List.map encPair y10.1)), (18, .bool y10.2), (19, .vl rn 2 (List.map encPair y11.1)), (20, .bool y11.2)]) (H0 := []) rfl (⟨_, _, rfl, rfl, _, _, rfl, rfl, _, _, rfl, rfl, _, _, rfl, rfl, _, _, rfl, rfl, rfl⟩) (rfl) rfl ?_
    refine V.seq ?_
    replace hm0 := bindO hm0; rcases hm0 with ⟨y12, hh12, hm0⟩
    refine V.region ?_
    refine VO.cons rfl (V1.move rfl rfl rfl lt0 ?_)
    refine VO.cons rfl (V1.move rfl rfl rfl lt0 ?_)
    refine VO.cons rfl (V1.boolNeq rfl rfl und_4 rfl rfl lt0 ?_)
    refine VO.cons rfl (V1.move rfl rfl rfl lt0 ?_)
    apply VO.or (n := 4) rfl rfl rfl rfl rfl rfl lt0 (.none rfl)
    ·
     intro hg8
     refine VO.step (.some rfl rfl rfl) (V1.move rfl rfl rfl lt0 ?_)
     refine VO.step (.some rfl rfl rfl) (V1.move rfl rfl rfl lt0 ?_)
     refine VO.step (.some rfl rfl rfl) (V1.call rfl rfl rfl cok_33 rfl (ok_laws_vPairs (cond_f hg8 hh12)) rfl lt0 ?_)
     rintro _ _ ⟨rfl, rfl⟩
     refine VO.step (.some rfl rfl rfl) (V1.not rfl rfl rfl lt0 ?_)
     exact VO.nil ⟨rfl, rfl, rfl, rfl, .inr ⟨rfl, .inr ⟨rfl, .inr ⟨rfl, .inr ⟨rfl, .inr ⟨rfl, .inl rfl⟩⟩⟩⟩⟩⟩
    refine VO.nil ?_
    refine V.keep 229 [0, 145] [] (E0 := [(0, .vl ρ0 1 (List.map encU8 code)), (145, .bool ((!(y10.2 == y11.2)) || (!y12)))]) (H0 := []) rfl (⟨_, _, rfl, rfl, _, _, rfl, rfl, rfl⟩) (rfl) rfl ?_
    refine V.cond rfl (fun hc4 => ?_) (fun hc4 => ?_)
    ·
     replace hm0 := cond_t hc4 hm0
     refine V.seq ?_
     refine V.region ?_
     refine VO.cons rfl (V1.assign rfl rfl rfl lt0 ?_)
     refine VO.nil ?_
     refine V.ret ?_
     obtain rfl := Option.some.inj hm0
     exact ⟨_, [], ⟨_, _, rfl, rfl, rfl⟩, List.nil_sublist _, rfl, rfl⟩
    ·
     replace hm0 := cond_f hc4 hm0
     refine V.skip ?_
     refine V.seq ?_
     replace hm0 := bindO hm0; rcases hm0 with ⟨y13, hh13, hm0⟩
     refine V.region ?_
     refine VO.cons rfl (V1.move rfl rfl rfl lt0 ?_)
     refine VO.cons rfl (V1.call rfl rfl rfl cok_34 rfl (ok_spec_DrawIsCertified hh13) rfl lt0 ?_)
     rintro _ _ ⟨b3, rfl, rfl⟩
     refine VO.cons rfl (V1.move rfl rfl rfl lt0 ?_)
     refine VO.cons rfl (V1.extract rfl rfl rfl rfl lt0 ?_)
     refine VO.cons rfl (V1.extract rfl rfl rfl rfl lt0 ?_)
     refine VO.weakenK (Keeps.freezeG 0 rn [(150, .vl rn 2 (List.map encPair y13.2.1))] ([]) (f := encPair) (l := y13.2.1) rfl (fun _ => rfl) ⟨⟨_, rfl, .here⟩, trivial⟩ rfl rfl iNil) ?_
     refine VO.cons rfl (V1.extract rfl rfl rfl rfl lt0 ?_)
     refine VO.cons rfl (V1.assign rfl rfl rfl lt0 ?_)
     refine VO.cons rfl (V1.assign rfl rfl rfl lt0 ?_)
     refine VO.cons rfl (V1.assign rfl rfl rfl lt0 ?_)
     refine VO.nil ?_
     refine V.keep 229 [0, 21, 22, 23] [] (E0 := [(0, .vl ρ0 1 (List.map encU8 code)), (21, .str y13.1), (22, .vl rn 2 (List.map encPair y13.2.1)), (23, .int .i64 y13.2.2)]) (H0 := []) rfl (⟨_, _, rfl, rfl, _, _, rfl, rfl, _, _, rfl, rfl, _, _, rfl, rfl, rfl⟩) (rfl) rfl ?_
     refine V.seq ?_
     replace hm0 := bindO hm0; rcases hm0 with ⟨y14, hh14, hm0⟩
     refine V.region ?_
     refine VO.cons rfl (V1.move rfl rfl rfl lt0 ?_)
     refine VO.cons rfl (V1.move rfl rfl rfl lt0 ?_)
     refine VO.cons rfl (V1.move rfl rfl rfl lt0 ?_)
     refine VO.cons rfl (V1.call rfl rfl rfl cok_29 rfl (ok_impl_IsCertified hh14) rfl lt0 ?_)
     rintro _ _ ⟨rfl, rfl⟩
     refine VO.cons rfl (V1.move rfl rfl rfl lt0 ?_)
     refine VO.cons rfl (V1.extract rfl rfl rfl rfl lt0 ?_)
     refine VO.cons rfl (V1.extract rfl rfl rfl rfl lt0 ?_)
     refine VO.cons rfl (V1.assign rfl rfl rfl lt0 ?_)
     refine VO.cons rfl (V1.assign rfl rfl rfl lt0 ?_)
     refine VO.nil ?_
     refine V.keep 229 [0, 21, 22, 23, 24, 25] [] (E0 := [(0, .vl ρ0 1 (List.map encU8 code)), (21, .str y13.1), (22, .vl rn 2 (List.map encPair y13.2.1)), (23, .int .i64 y13.2.2), (24, .bool y14.1), (25, .bool y14.2)]) (H0 := []) rfl (⟨_, _, rfl, rfl, _, _, rfl, rfl, _, _, rfl, rfl, _, _, rfl, rfl, _, _, rfl, rfl, _, _, rfl, rfl, rfl⟩) (rfl) rfl ?_
     refine V.seq ?_
     refine V.seq ?_
     replace hm0 := bindO hm0; rcases hm0 with ⟨y15, hh15, hm0⟩
     refine V.region ?_
     refine VO.cons rfl (V1.move rfl rfl rfl lt0 ?_)
     refine VO.cons rfl (V1.move rfl rfl rfl lt0 ?_)
     refine VO.cons rfl (V1.move rfl rfl rfl lt0 ?_)
     refine VO.cons rfl (V1.call rfl rfl rfl cok_35 rfl (ok_spec_IsCertified hh15) rfl lt0 ?_)
     rintro _ _ ⟨rfl, rfl⟩
     refine VO.cons rfl (V1.move rfl rfl rfl lt0 ?_)
     refine VO.cons rfl (V1.extract rfl rfl rfl rfl lt0 ?_)
     refine VO.cons rfl (V1.extract rfl rfl rfl rfl lt0 ?_)
     refine VO.cons rfl (V1.assign rfl rfl rfl lt0 ?_)
     refine VO.cons rfl (V1.assign rfl rfl rfl lt0 ?_)
     refine VO.nil ?_
     refine V.keep 229 [0, 21, 22, 23, 24, 25, 26, 27] [] (E0 := [(0, .vl ρ0 1 (List.map encU8 code)), (21, .str y13.1), (22, .vl rn 2 (List.map encPair y13.2.1)), (23, .int .i64 y13.2.2), (24, .bool y14.1), (25, .bool y14.2), (26, .bool y15.1), (27, .bool y15.2)]) (H0 := []) rfl (⟨_, _, rfl, rfl, _, _, rfl, rfl, _, _, rfl, rfl, _, _, rfl, rfl, _, _, rfl, rfl, _, _, rfl, rfl, _, _, rfl, rfl, _, _, rfl, rfl, rfl⟩) (rfl) rfl ?_
     refine V.seq ?_
     refine V.region ?_
     refine VO.cons rfl (V1.move rfl rfl rfl lt0 ?_)
     refine VO.cons rfl (V1.move rfl rfl rfl lt0 ?_)
     refine VO.cons rfl (V1.boolNeq rfl rfl und_4 rfl rfl lt0 ?_)
     refine VO.cons rfl (V1.move rfl rfl rfl lt0 ?_)
     apply VO.or (n := 3) rfl rfl rfl rfl rfl rfl lt0 (.none rfl)
     ·
      intro hg9
      refine VO.step (.some rfl rfl rfl) (V1.move rfl rfl rfl lt0 ?_)
      refine VO.step (.some rfl rfl rfl) (V1.move rfl rfl rfl lt0 ?_)
      refine VO.step (.some rfl rfl rfl) (V1.boolNeq rfl rfl und_4 rfl rfl lt0 ?_)
      exact VO.nil ⟨rfl, rfl, rfl, rfl, .inr ⟨rfl, .inr ⟨rfl, .inr ⟨rfl, .inr ⟨rfl, .inl rfl⟩⟩⟩⟩⟩
     refine VO.nil ?_
     refine V.keep 229 [0, 21, 22, 23, 24, 25, 173] [] (E0 := [(0, .vl ρ0 1 (List.map encU8 code)), (21, .str y13.1), (22, .vl rn 2 (List.map encPair y13.2.1)), (23, .int .i64 y13.2.2), (24, .bool y14.1), (25, .bool y14.2), (173, .bool ((!(y14.1 == y15.1)) || (!(y14.2 == y15.2))))]) (H0 := []) rfl (⟨_, _, rfl, rfl, _, _, rfl, rfl, _, _, rfl, rfl, _, _, rfl, rfl, _, _, rfl, rfl, _, _, rfl, rfl, _, _, rfl, rfl, rfl⟩) (rfl) rfl ?_
     refine V.cond rfl (fun hc5 => ?_) (fun hc5 => ?_)
     ·
      replace hm0 := cond_t hc5 hm0
      refine V.seq ?_
      refine V.region ?_
      refine VO.cons rfl (V1.assign rfl rfl rfl lt0 ?_)
      refine VO.nil ?_
      refine V.ret ?_
      obtain rfl := Option.some.inj hm0
      exact ⟨_, [], ⟨_, _, rfl, rfl, rfl⟩, List.nil_sublist _, rfl, rfl⟩
     ·
      replace hm0 := cond_f hc5 hm0
      refine V.skip ?_
      refine V.seq ?_
      replace hm0 := bindO hm0; rcases hm0 with ⟨y16, hh16, hm0⟩
      refine V.region ?_
      refine VO.cons rfl (V1.move rfl rfl rfl lt0 ?_)
      refine VO.cons rfl (V1.move rfl rfl rfl lt0 ?_)
      refine VO.cons rfl (V1.call rfl rfl rfl cok_36 rfl (ok_impl_RootFrom hh16) rfl lt0 ?_)
      rintro _ _ ⟨rfl, rfl⟩
      refine VO.cons rfl (V1.move rfl rfl rfl lt0 ?_)
      refine VO.cons rfl (V1.extract rfl rfl rfl rfl lt0 ?_)
      refine VO.cons rfl (V1.extract rfl rfl rfl rfl lt0 ?_)
      refine VO.cons rfl (V1.assign rfl rfl rfl lt0 ?_)
      refine VO.cons rfl (V1.assign rfl rfl rfl lt0 ?_)
      refine VO.nil ?_
      refine V.keep 229 [0, 21, 22, 23, 24, 25, 28, 29] [] (E0 := [(0, .vl ρ0 1 (List.map encU8 code)), (21, .str y13.1), (22, .vl rn 2 (List.map encPair y13.2.1)), (23, .int .i64 y13.2.2), (24, .bool y14.1), (25, .bool y14.2), (28, .int .i64 y16.1), (29, .bool y16.2)]) (H0 := []) rfl (⟨_, _, rfl, rfl, _, _, rfl, rfl, _, _, rfl, rfl, _, _, rfl, rfl, _, _, rfl, rfl, _, _, rfl, rfl, _, _, rfl, rfl, _, _, rfl, rfl, rfl⟩) (rfl) rfl ?_
      refine V.seq ?_
      refine V.seq ?_
      replace hm0 := bindO hm0; rcases hm0 with ⟨y17, hh17, hm0⟩
      refine V.region ?_
      refine VO.cons rfl (V1.move rfl rfl rfl lt0 ?_)
      refine VO.cons rfl (V1.move rfl rfl rfl lt0 ?_)
      refine VO.cons rfl (V1.call rfl rfl rfl cok_37 rfl (ok_spec_RootFrom hh17) rfl lt0 ?_)
      rintro _ _ ⟨rfl, rfl⟩
      refine VO.cons rfl (V1.move rfl rfl rfl lt0 ?_)
      refine VO.cons rfl (V1.extract rfl rfl rfl rfl lt0 ?_)
      refine VO.cons rfl (V1.extract rfl rfl rfl rfl lt0 ?_)
      refine VO.cons rfl (V1.assign rfl rfl rfl lt0 ?_)
      refine VO.cons rfl (V1.assign rfl rfl rfl lt0 ?_)
      refine VO.nil ?_
      refine V.keep 229 [0, 23, 24, 25, 28, 29, 30, 31] [] (E0 := [(0, .vl ρ0 1 (List.map encU8 code)), (23, .int .i64 y13.2.2), (24, .bool y14.1), (25, .bool y14.2), (28, .int .i64 y16.1), (29, .bool y16.2), (30, .int .i64 y17.1), (31, .bool y17.2)]) (H0 := []) rfl (⟨_, _, rfl, rfl, _, _, rfl, rfl, _, _, rfl, rfl, _, _, rfl, rfl, _, _, rfl, rfl, _, _, rfl, rfl, _, _, rfl, rfl, _, _, rfl, rfl, rfl⟩) (rfl) rfl ?_
      refine V.seq ?_
      refine V.region ?_
      refine VO.cons rfl (V1.move rfl rfl rfl lt0 ?_)
      refine VO.cons rfl (V1.move rfl rfl rfl lt0 ?_)
      refine VO.cons rfl (V1.int rfl rfl rfl rfl rfl lt0 ?_)
      refine VO.cons rfl (V1.move rfl rfl rfl lt0 ?_)
      apply VO.or (n := 3) rfl rfl rfl rfl rfl rfl lt0 (.none rfl)
      ·
       intro hg10
       refine VO.step (.some rfl rfl rfl) (V1.move rfl rfl rfl lt0 ?_)
       refine VO.step (.some rfl rfl rfl) (V1.move rfl rfl rfl lt0 ?_)
       refine VO.step (.some rfl rfl rfl) (V1.boolNeq rfl rfl und_4 rfl rfl lt0 ?_)
       exact VO.nil ⟨rfl, rfl, rfl, rfl, .inr ⟨rfl, .inr ⟨rfl, .inr ⟨rfl, .inr ⟨rfl, .inl rfl⟩⟩⟩⟩⟩
      refine VO.cons rfl (V1.move rfl rfl rfl lt0 ?_)
      apply VO.or (n := 3) rfl rfl rfl rfl rfl rfl lt0 (.none rfl)
      ·
       intro hg11
       refine VO.step (.some rfl rfl rfl) (V1.move rfl rfl rfl lt0 ?_)
       refine VO.step (.some rfl rfl rfl) (V1.move rfl rfl rfl lt0 ?_)
       refine VO.step (.some rfl rfl rfl) (V1.boolNeq rfl rfl und_4 rfl rfl lt0 ?_)
       exact VO.nil ⟨rfl, rfl, rfl, rfl, .inr ⟨rfl, .inr ⟨rfl, .inr ⟨rfl, .inr ⟨rfl, .inl rfl⟩⟩⟩⟩⟩
      refine VO.cons rfl (V1.move rfl rfl rfl lt0 ?_)
      apply VO.or (n := 8) rfl rfl rfl rfl rfl rfl lt0 (.none rfl)
      ·
       intro hg12
       refine VO.step (.some rfl rfl rfl) (V1.move rfl rfl rfl lt0 ?_)
       refine VO.step (.some rfl rfl rfl) (V1.move rfl rfl rfl lt0 ?_)
       apply VO.and (n := 5) rfl rfl rfl rfl rfl rfl lt0 (.some rfl rfl rfl)
       ·
        intro hg13
        refine VO.step (.some rfl rfl rfl) (V1.move rfl rfl rfl lt0 ?_)
        refine VO.step (.some rfl rfl rfl) (V1.move rfl rfl rfl lt0 ?_)
        refine VO.step (.some rfl rfl rfl) (V1.move rfl rfl rfl lt0 ?_)
        refine VO.step (.some rfl rfl rfl) (V1.int rfl rfl rfl rfl rfl lt0 ?_)
        refine VO.step (.some rfl rfl rfl) (V1.boolNeq rfl rfl und_4 rfl rfl lt0 ?_)
        exact VO.nil ⟨rfl, rfl, rfl, rfl, .inr ⟨rfl, .inr ⟨rfl, .inr ⟨rfl, .inr ⟨rfl, .inr ⟨rfl, .inr ⟨rfl, .inl rfl⟩⟩⟩⟩⟩⟩⟩
       exact VO.nil ⟨rfl, rfl, rfl, rfl, .inr ⟨rfl, .inr ⟨rfl, .inr ⟨rfl, .inr ⟨rfl, .inl rfl⟩⟩⟩⟩⟩
      refine VO.nil ?_
      refine V.keep 229 [0, 208] [] (E0 := [(0, .vl ρ0 1 (List.map encU8 code)), (208, .bool ((((y16.1 != y17.1) || (!(y16.2 == y17.2))) || (!(y16.2 == y14.2))) || (y14.2 && (!(y14.1 == (y16.1 == y13.2.2))))))]) (H0 := []) rfl (⟨_, _, rfl, rfl, _, _, rfl, rfl, rfl⟩) (rfl) rfl ?_
      refine V.cond rfl (fun hc6 => ?_) (fun hc6 => ?_)
      ·
       replace hm0 := cond_t hc6 hm0
       refine V.seq ?_
       refine V.region ?_
       refine VO.cons rfl (V1.assign rfl rfl rfl lt0 ?_)
       refine VO.nil ?_
       refine V.ret ?_
       obtain rfl := Option.some.inj hm0
       exact ⟨_, [], ⟨_, _, rfl, rfl, rfl⟩, List.nil_sublist _, rfl, rfl⟩
      ·
       replace hm0 := cond_f hc6 hm0
       refine V.skip ?_
       refine V.seq ?_
       replace hm0 := bindO hm0; rcases hm0 with ⟨y18, hh18, hm0⟩
       refine V.region ?_
       refine VO.cons rfl (V1.move rfl rfl rfl lt0 ?_)
       refine VO.cons rfl (V1.call rfl rfl rfl cok_38 rfl (ok_spec_DrawPlaceFrom hh18) rfl lt0 ?_)
       rintro _ _ ⟨b4, rfl, rfl⟩
       refine VO.weakenK (Keeps.freezeG 0 rn [(210, .vl rn 2 (List.map encPair y18))] ([]) (f := encPair) (l := y18) rfl (fun _ => rfl) ⟨⟨_, rfl, .here⟩, trivial⟩ rfl rfl iNil) ?_
       refine VO.cons rfl (V1.assign rfl rfl rfl lt0 ?_)
       refine VO.nil ?_
       refine V.keep 229 [32] [] (E0 := [(32, .vl rn 2 (List.map encPair y18))]) (H0 := []) rfl (⟨_, _, rfl, rfl, rfl⟩) (rfl) rfl ?_
       refine V.seq ?_
       replace hm0 := bindO hm0; rcases hm0 with ⟨y19, hh19, hm0⟩
       refine V.region ?_
       refine VO.cons rfl (V1.move rfl rfl rfl lt0 ?_)
       refine VO.cons rfl (V1.call rfl rfl rfl cok_30 rfl (ok_impl_PlaceFrom hh19) rfl lt0 ?_)
       rintro _ _ ⟨rfl, rfl⟩
       refine VO.cons rfl (V1.move rfl rfl rfl lt0 ?_)
       refine VO.cons rfl (V1.extract rfl rfl rfl rfl lt0 ?_)
       refine VO.cons rfl (V1.extract rfl rfl rfl rfl lt0 ?_)
       refine VO.cons rfl (V1.assign rfl rfl rfl lt0 ?_)
       refine VO.cons rfl (V1.assign rfl rfl rfl lt0 ?_)
       refine VO.nil ?_
       refine V.keep 229 [32, 33, 34] [] (E0 := [(32, .vl rn 2 (List.map encPair y18)), (33, .int .i64 y19.1), (34, .bool y19.2)]) (H0 := []) rfl (⟨_, _, rfl, rfl, _, _, rfl, rfl, _, _, rfl, rfl, rfl⟩) (rfl) rfl ?_
       refine V.seq ?_
       replace hm0 := bindO hm0; rcases hm0 with ⟨y20, hh20, hm0⟩
       refine V.region ?_
       refine VO.cons rfl (V1.move rfl rfl rfl lt0 ?_)
       refine VO.cons rfl (V1.call rfl rfl rfl cok_39 rfl (ok_spec_PlaceFrom hh20) rfl lt0 ?_)
       rintro _ _ ⟨rfl, rfl⟩
       refine VO.cons rfl (V1.move rfl rfl rfl lt0 ?_)
       refine VO.cons rfl (V1.extract rfl rfl rfl rfl lt0 ?_)
       refine VO.cons rfl (V1.extract rfl rfl rfl rfl lt0 ?_)
       refine VO.cons rfl (V1.assign rfl rfl rfl lt0 ?_)
       refine VO.cons rfl (V1.assign rfl rfl rfl lt0 ?_)
       refine VO.nil ?_
       refine V.keep 229 [33, 34, 35, 36] [] (E0 := [(33, .int .i64 y19.1), (34, .bool y19.2), (35, .int .i64 y20.1), (36, .bool y20.2)]) (H0 := []) rfl (⟨_, _, rfl, rfl, _, _, rfl, rfl, _, _, rfl, rfl, _, _, rfl, rfl, rfl⟩) (rfl) rfl ?_
       refine V.seq ?_
       refine V.region ?_
       refine VO.cons rfl (V1.move rfl rfl rfl lt0 ?_)
       refine VO.cons rfl (V1.move rfl rfl rfl lt0 ?_)
       refine VO.cons rfl (V1.int rfl rfl rfl rfl rfl lt0 ?_)
       refine VO.cons rfl (V1.move rfl rfl rfl lt0 ?_)
       apply VO.and (n := 3) rfl rfl rfl rfl rfl rfl lt0 (.none rfl)
       ·
        intro hg14
        refine VO.step (.some rfl rfl rfl) (V1.move rfl rfl rfl lt0 ?_)
        refine VO.step (.some rfl rfl rfl) (V1.move rfl rfl rfl lt0 ?_)
        refine VO.step (.some rfl rfl rfl) (V1.boolEql rfl rfl und_4 rfl rfl lt0 ?_)
        exact VO.nil ⟨rfl, rfl, rfl, rfl, .inr ⟨rfl, .inr ⟨rfl, .inr ⟨rfl, .inr ⟨rfl, .inl rfl⟩⟩⟩⟩⟩
       refine VO.cons rfl (V1.assign rfl rfl rfl lt0 ?_)
       refine VO.nil ?_
       refine V.ret ?_
       obtain rfl := Option.some.inj hm0
       exact ⟨_, [], ⟨_, _, rfl, rfl, rfl⟩, List.nil_sublist _, rfl, rfl⟩
end Go.Proofs.YthcmelnpcaijaaaDoor
