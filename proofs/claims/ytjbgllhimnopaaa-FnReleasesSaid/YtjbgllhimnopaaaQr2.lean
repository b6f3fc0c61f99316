/- the functions do what their models say -/
import Derived.Test.YtjbgllhimnopaaaQr1
set_option linter.unusedSimpArgs false
set_option linter.unusedVariables false
set_option maxRecDepth 100000
set_option maxHeartbeats 4000000
namespace Go.Proofs.Ytjbgllhimnopaaa
open Go.VS

theorem ok_spec_l1Cur_record {ρ0 rn bp : Nat} {c : Cur} {id_ : Int} {r : Record × Cur} (h : M.spec_l1Cur_record c id_ = some r) : Does Try.prog 182 [.ref bp 3 0 0, .int .i64 id_] [(bp, ⟨3, [encCur ρ0 c]⟩)] rn (fun x H => x = encRecord rn r.1 ∧ H = [(bp, ⟨3, [encCur ρ0 r.2]⟩)]) := by
 have hm0 := h; clear h; unfold M.spec_l1Cur_record at hm0
 try dsimp only at hm0
 refine Does.intro (N := 64) Try.func182 rfl rfl rfl rfl ?_
 intro w0 S0
 refine V.seq ?_
 refine V.region ?_
 refine VO.cons rfl (V1.alloc rfl rfl zk_95 (ltb rfl) ?_)
 intro b0
 refine VO.nil ?_
 refine V.seq ?_
 replace hm0 := bindO hm0; rcases hm0 with ⟨y0, hh0, hm0⟩
 replace hm0 := bindO hm0; rcases hm0 with ⟨y1, hh1, hm0⟩
 refine V.region ?_
 refine VO.cons rfl (V1.move rfl rfl rfl (ltb rfl) ?_)
 refine VO.cons rfl (V1.move rfl rfl rfl (ltb rfl) ?_)
 refine VO.cons rfl (V1.buildSliceT (f := encInt) ([(1 : Int), (2 : Int), (3 : Int), (3 : Int), (7 : Int), (99 : Int)] : List Int) rfl rfl esz_34 zk_3 rfl rfl rfl rfl rfl rfl rfl (ltb rfl) ?_)
 intro b1
 refine VO.cons rfl (V1.callM 2 (rn + ρ0 + 1) [b1] [.ref bp 3 0 0, .vl (rn + ρ0 + 1) 1 (List.map encInt ([(1 : Int), (2 : Int), (3 : Int), (3 : Int), (7 : Int), (99 : Int)] : List Int))] (p := (bp, ⟨3, [encCur ρ0 c]⟩)) rfl rfl rfl cok_151 rfl rfl ⟨_, _, rfl, .same _, ⟨_, _, rfl, Lend.srMap 0 rfl (fun _ => rfl) (.head _), rfl⟩⟩ (bwCons (k := 0) rfl bwNil) (ok_spec_l1Cur_among hh0) rfl (.inr ⟨(by dsimp only; omega), by rintro _ _ ⟨rfl, rfl⟩; exact ⟨by simp [PV.no, PV.noL, optS_no, noL_iff, nbeq] <;> omega, by intro b ob h; first | exact optH_no (noL_map (fun _ => by simp [PV.no, PV.noL, noL_iff, nbeq]) _) b ob h | (simp at h; obtain ⟨rfl, rfl⟩ := h; exact noL_map (fun _ => by simp [PV.no, PV.noL, noL_iff, nbeq]) _) | (simp at h; obtain ⟨rfl, rfl⟩ := h; simp [PV.no, PV.noL, optS_no, noL_iff, nbeq] <;> omega)⟩⟩) (ltb rfl) ?_)
 rintro _ _ ⟨rfl, rfl⟩
 refine VO.cons rfl (V1.move rfl rfl rfl (ltb rfl) ?_)
 refine VO.cons rfl (V1.buildSliceT (f := encInt) ([(0 : Int), (100 : Int), (100 : Int), (500 : Int), (3000 : Int)] : List Int) rfl rfl esz_34 zk_3 rfl rfl rfl rfl rfl rfl rfl (ltb rfl) ?_)
 intro b2
 refine VO.cons rfl (V1.callM 1 (rn + ρ0 + 1) [b2] [.ref bp 3 0 0, .vl (rn + ρ0 + 1) 1 (List.map encInt ([(0 : Int), (100 : Int), (100 : Int), (500 : Int), (3000 : Int)] : List Int))] (p := (bp, ⟨3, [encCur ρ0 y0.2]⟩)) rfl rfl rfl cok_151 rfl rfl ⟨_, _, rfl, .same _, ⟨_, _, rfl, Lend.srMap 0 rfl (fun _ => rfl) (.head _), rfl⟩⟩ (bwCons (k := 0) rfl bwNil) (ok_spec_l1Cur_among hh1) rfl (.inr ⟨(by dsimp only; omega), by rintro _ _ ⟨rfl, rfl⟩; exact ⟨by simp [PV.no, PV.noL, optS_no, noL_iff, nbeq] <;> omega, by intro b ob h; first | exact optH_no (noL_map (fun _ => by simp [PV.no, PV.noL, noL_iff, nbeq]) _) b ob h | (simp at h; obtain ⟨rfl, rfl⟩ := h; exact noL_map (fun _ => by simp [PV.no, PV.noL, noL_iff, nbeq]) _) | (simp at h; obtain ⟨rfl, rfl⟩ := h; simp [PV.no, PV.noL, optS_no, noL_iff, nbeq] <;> omega)⟩⟩) (ltb rfl) ?_)
 rintro _ _ ⟨rfl, rfl⟩
 refine VO.cons rfl (V1.buildSliceT (f := encEvent) ([] : List Event) rfl rfl esz_93 zk_125 rfl rfl rfl rfl rfl rfl rfl (ltb rfl) ?_)
 intro b3
 refine VO.cons rfl (V1.build rfl rfl zk_95 pl_95 rfl rfl (ltb rfl) ?_)
 refine VO.cons rfl (V1.alloc rfl rfl zk_95 (ltb rfl) ?_)
 intro b4
 refine VO.cons rfl (V1.storeRefAll (k := 0) rfl rfl tyk_95 rfl rfl rfl rfl rfl rfl ?_)
 refine VO.nil ?_
 refine V.keep 64 [0, 4, 5] [0, 1, 2, 5] (E0 := [(0, .ref bp 3 0 0), (4, .ref b0 4 0 0), (5, .ref b4 4 0 0)]) (H0 := [(b4, ⟨4, [.agg [.int .i64 id_, .int .i64 y0.1, .int .i64 y1.1, .sref b3 2 0 (List.length ([] : List Event))]]⟩), (b3, ⟨2, List.map encEvent ([] : List Event)⟩), (bp, ⟨3, [encCur ρ0 y1.2]⟩), (b0, ⟨4, [.agg [.int .i64 (0 : Int), .int .i64 (0 : Int), .int .i64 (0 : Int), .nils]]⟩)]) rfl (⟨_, _, rfl, rfl, ⟨_, _, rfl, rfl, ⟨_, _, rfl, rfl, rfl⟩⟩⟩) (⟨_, _, rfl, rfl, ⟨_, _, rfl, rfl, ⟨_, _, rfl, rfl, ⟨_, _, rfl, rfl, rfl⟩⟩⟩⟩) rfl ?_
 refine V.seq ?_
 refine V.seq ?_
 refine V.region ?_
 refine VO.cons rfl (V1.assign rfl rfl rfl (ltb rfl) ?_)
 refine VO.nil ?_
 replace hm0 := bindO hm0; rcases hm0 with ⟨e0, he1, hm0⟩
 refine V.cutT (D := (List Event × Cur) × (Nat)) (fun ⟨⟨r_Events, c_⟩, b5⟩ => ⟨64, [(0, .ref bp 3 0 0), (4, .ref b0 4 0 0), (5, .ref b4 4 0 0)], [(b5, ⟨2, List.map encEvent r_Events⟩), (bp, ⟨3, [encCur ρ0 c_]⟩), (b4, ⟨4, [.agg [.int .i64 id_, .int .i64 y0.1, .int .i64 y1.1, .sref b5 2 0 (List.length r_Events)]]⟩), (b0, ⟨4, [.agg [.int .i64 (0 : Int), .int .i64 (0 : Int), .int .i64 (0 : Int), .nils]]⟩)]⟩) (fun ⟨⟨r_Events, c_⟩, b5⟩ => ((r_Events, c_) = e0)) ?_ ?_
 ·
  refine V.block ?_
  refine V.keep 64 [6, 0, 4, 5] [1, 2, 0, 3] (E0 := [(6, .int .i64 (1 : Int)), (0, .ref bp 3 0 0), (4, .ref b0 4 0 0), (5, .ref b4 4 0 0)]) (H0 := [(b3, ⟨2, List.map encEvent ([] : List Event)⟩), (bp, ⟨3, [encCur ρ0 y1.2]⟩), (b4, ⟨4, [.agg [.int .i64 id_, .int .i64 y0.1, .int .i64 y1.1, .sref b3 2 0 (List.length ([] : List Event))]]⟩), (b0, ⟨4, [.agg [.int .i64 (0 : Int), .int .i64 (0 : Int), .int .i64 (0 : Int), .nils]]⟩)]) rfl (⟨_, _, rfl, rfl, ⟨_, _, rfl, rfl, ⟨_, _, rfl, rfl, ⟨_, _, rfl, rfl, rfl⟩⟩⟩⟩) (⟨_, _, rfl, rfl, ⟨_, _, rfl, rfl, ⟨_, _, rfl, rfl, ⟨_, _, rfl, rfl, rfl⟩⟩⟩⟩) rfl ?_
  refine V.loopE (D := Nat × (Int × List Event × Cur) × (Nat)) (fun ⟨n0, ⟨k, r_Events0, c_0⟩, b6⟩ => [(6, .int .i64 k)]) (fun ⟨n0, ⟨k, r_Events0, c_0⟩, b6⟩ => [(b6, ⟨2, List.map encEvent r_Events0⟩), (bp, ⟨3, [encCur ρ0 c_0]⟩), (b4, ⟨4, [.agg [.int .i64 id_, .int .i64 y0.1, .int .i64 y1.1, .sref b6 2 0 (List.length r_Events0)]]⟩)]) (fun ⟨n0, ⟨k, r_Events0, c_0⟩, b6⟩ => loopO (M.spec_l1Cur_record_l0 y1) n0 (k, r_Events0, c_0) = some e0) (fun ⟨n0, _, _⟩ => n0) (rounds, ((1 : Int), ([] : List Event), y1.2), b3) rfl he1 ?_
  rintro ⟨n0, ⟨k, r_Events0, c_0⟩, b6⟩ hP0
  obtain ⟨m0, y2, rfl, hm1, hl1, hr1⟩ := loop_head hP0
  unfold M.spec_l1Cur_record_l0 at hm1; dsimp only at hm1
  show V _ _ _ ⟨64, [(6, .int .i64 k), (0, .ref bp 3 0 0), (4, .ref b0 4 0 0), (5, .ref b4 4 0 0)], [(b6, ⟨2, List.map encEvent r_Events0⟩), (bp, ⟨3, [encCur ρ0 c_0]⟩), (b4, ⟨4, [.agg [.int .i64 id_, .int .i64 y0.1, .int .i64 y1.1, .sref b6 2 0 (List.length r_Events0)]]⟩), (b0, ⟨4, [.agg [.int .i64 (0 : Int), .int .i64 (0 : Int), .int .i64 (0 : Int), .nils]]⟩)]⟩
  refine V.seq ?_
  refine V.seq ?_
  refine V.region ?_
  refine VO.cons rfl (V1.move rfl rfl rfl (ltb rfl) ?_)
  refine VO.cons rfl (V1.int rfl rfl rfl rfl rfl (ltb rfl) ?_)
  refine VO.nil ?_
  refine V.cond rfl (fun hc0 => ?_) (fun hc0 => ?_)
  ·
   replace hm1 := cond_t hc0 hm1
   refine V.skip ?_
   refine V.seq ?_
   replace hm1 := bindO hm1; rcases hm1 with ⟨j0, hm2, hm1⟩
   refine V.cutT (D := (List Event × Cur) × (Nat)) (fun ⟨⟨r_Events1, c_1⟩, b7⟩ => ⟨64, [(0, .ref bp 3 0 0), (4, .ref b0 4 0 0), (5, .ref b4 4 0 0), (6, .int .i64 k)], [(b7, ⟨2, List.map encEvent r_Events1⟩), (bp, ⟨3, [encCur ρ0 c_1]⟩), (b4, ⟨4, [.agg [.int .i64 id_, .int .i64 y0.1, .int .i64 y1.1, .sref b7 2 0 (List.length r_Events1)]]⟩), (b0, ⟨4, [.agg [.int .i64 (0 : Int), .int .i64 (0 : Int), .int .i64 (0 : Int), .nils]]⟩)]⟩) (fun ⟨⟨r_Events1, c_1⟩, b7⟩ => ((r_Events1, c_1) = j0)) ?_ ?_
   ·
    refine V.block ?_
    refine V.seq ?_
    replace hm2 := bindO hm2; rcases hm2 with ⟨y3, hh2, hm2⟩
    refine V.region ?_
    refine VO.cons rfl (V1.move rfl rfl rfl (ltb rfl) ?_)
    refine VO.cons rfl (V1.callM 1 (rn + ρ0 + 1) [] [.ref bp 3 0 0, .int .i64 (3 : Int)] (p := (bp, ⟨3, [encCur ρ0 c_0]⟩)) rfl rfl rfl cok_155 rfl rfl ⟨_, _, rfl, .same _, ⟨_, _, rfl, .same _, rfl⟩⟩ bwNil (ok_spec_l1Cur_one hh2) rfl (.inl rfl) (ltb rfl) ?_)
    rintro _ _ ⟨rfl, rfl⟩
    refine VO.nil ?_
    refine V.cond rfl (fun hc1 => ?_) (fun hc1 => ?_)
    ·
     replace hm2 := cond_t hc1 hm2
     replace hm2 := bindO hm2; rcases hm2 with ⟨y4, hh3, hm2⟩
     replace hm2 := asrt_some hm2; rcases hm2 with ⟨hh4, hm2⟩
     replace hm2 := bindO hm2; rcases hm2 with ⟨j1, hm3, hm2⟩
     refine V.cutT (D := (List Event × Cur) × (Nat)) (fun ⟨⟨r_Events2, c_2⟩, b11⟩ => ⟨64, [(0, .ref bp 3 0 0), (4, .ref b0 4 0 0), (5, .ref b4 4 0 0), (6, .int .i64 k)], [(b11, ⟨2, List.map encEvent r_Events2⟩), (bp, ⟨3, [encCur ρ0 c_2]⟩), (b4, ⟨4, [.agg [.int .i64 id_, .int .i64 y0.1, .int .i64 y1.1, .sref b11 2 0 (List.length r_Events2)]]⟩), (b0, ⟨4, [.agg [.int .i64 (0 : Int), .int .i64 (0 : Int), .int .i64 (0 : Int), .nils]]⟩)]⟩) (fun ⟨⟨r_Events2, c_2⟩, b11⟩ => ((r_Events2, c_2) = j1)) ?_ ?_
     ·
      refine V.regionS [] 64 11 [⟨[(5, none)], false⟩, ⟨[(22, some 0)], true⟩, ⟨[(6, none)], false⟩, ⟨[(5, none)], false⟩, ⟨[(25, some 3)], true⟩, ⟨[(0, none)], false⟩, ⟨[], true⟩, ⟨[(27, some 5), (28, some 6)], true⟩, ⟨[(26, some 4), (29, some 7)], false⟩, ⟨[(24, some 2), (30, some 8)], false⟩, ⟨[(31, some 9)], true⟩] [(0, none), (4, none), (5, none), (6, none), (23, some 1), (32, some 10)] 5 (⟨_, rfl, ⟨_, rfl, ⟨_, rfl, ⟨_, rfl, ⟨_, rfl, ⟨_, rfl, ⟨_, rfl, ⟨_, rfl, ⟨_, rfl, ⟨_, rfl, ⟨_, rfl, ⟨rfl, rfl⟩⟩⟩⟩⟩⟩⟩⟩⟩⟩⟩⟩) mixed_orders rfl (by decide +kernel) ?_
      refine WalkP.step (p := ?pv1461) 0 rfl rfl rfl rfl rfl (⟨_, _, rfl, rfl, rfl⟩) ?hv1461 ?rest1461
      case hv1461 =>
       intro E1 H1 hI1
       refine (V1.fieldRef rfl rfl fo_95_3 rfl (ltb rfl) ?_)
       exact rfl
      refine WalkP.step (p := ?pv1462) 2 rfl rfl rfl rfl rfl (⟨_, _, rfl, rfl, rfl⟩) ?hv1462 ?rest1462
      case hv1462 =>
       intro E1 H1 hI1
       refine (V1.move rfl rfl rfl (ltb rfl) ?_)
       exact rfl
      refine WalkP.step (p := ?pv1463) 3 rfl rfl rfl rfl rfl (⟨_, _, rfl, rfl, rfl⟩) ?hv1463 ?rest1463
      case hv1463 =>
       intro E1 H1 hI1
       refine (V1.fieldRef rfl rfl fo_95_2 rfl (ltb rfl) ?_)
       exact rfl
      refine WalkP.step (p := ?pv1464) 5 rfl rfl rfl rfl rfl (⟨_, _, rfl, rfl, rfl⟩) ?hv1464 ?rest1464
      case hv1464 =>
       intro E1 H1 hI1
       refine (V1.move rfl rfl rfl (ltb rfl) ?_)
       exact rfl
      refine WalkP.nil ?_
      refine NodeS.branch [1, 4, 6] inNil rfl rfl rfl ⟨?_, ?_, ?_, trivial⟩
      ·
       refine ⟨_, _, _, _, rfl, rfl, rfl, (⟨_, _, rfl, rfl, rfl⟩), fun E1 => ?_⟩
       refine (V1.loadRef (k := 2) rfl rfl tyk_93 rfl rfl rfl rfl rfl (ltb rfl) ?_)
       refine ⟨_, _, rfl, ?_⟩
       refine WalkP.nil ?_
       refine NodeS.branch [4, 6] inNil rfl rfl rfl ⟨?_, ?_, trivial⟩
       ·
        refine ⟨_, _, _, _, rfl, rfl, rfl, (⟨_, _, rfl, rfl, rfl⟩), fun E1 => ?_⟩
        refine (V1.loadRef (k := 2) rfl rfl tyk_3 rfl rfl rfl rfl rfl (ltb rfl) ?_)
        refine ⟨_, _, rfl, ?_⟩
        refine WalkP.nil ?_
        refine NodeS.branch [6] inNil rfl rfl rfl ⟨?_, trivial⟩
        ·
         refine ⟨_, _, _, _, rfl, rfl, rfl, (rfl), fun E1 => ?_⟩
         refine (V1.buildSliceT (f := encInt) ([(0 : Int), (1 : Int), (30 : Int), (365 : Int), (1000 : Int)] : List Int) rfl rfl esz_34 zk_3 rfl rfl rfl rfl rfl rfl rfl (ltb rfl) ?_)
         intro b12
         refine ⟨_, _, rfl, ?_⟩
         refine WalkP.nil ?_
         refine NodeS.branch [7] inNil rfl rfl rfl ⟨?_, trivial⟩
         ·
          refine ⟨_, _, _, _, rfl, rfl, rfl, (⟨_, _, rfl, rfl, ⟨_, _, rfl, rfl, rfl⟩⟩), fun E1 => ?_⟩
          refine (V1.callM 1 (rn + ρ0 + 1) [b12] [.ref bp 3 0 0, .vl (rn + ρ0 + 1) 1 (List.map encInt ([(0 : Int), (1 : Int), (30 : Int), (365 : Int), (1000 : Int)] : List Int))] (p := (bp, ⟨3, [encCur ρ0 y3.2]⟩)) rfl rfl rfl cok_151 rfl rfl ⟨_, _, rfl, .same _, ⟨_, _, rfl, Lend.srMap 0 rfl (fun _ => rfl) (.head _), rfl⟩⟩ (bwCons (k := 0) rfl bwNil) (ok_spec_l1Cur_among hh3) rfl (.inr ⟨(by dsimp only; omega), by rintro _ _ ⟨rfl, rfl⟩; exact ⟨by simp [PV.no, PV.noL, optS_no, noL_iff, nbeq] <;> omega, by intro b ob h; first | exact optH_no (noL_map (fun _ => by simp [PV.no, PV.noL, noL_iff, nbeq]) _) b ob h | (simp at h; obtain ⟨rfl, rfl⟩ := h; exact noL_map (fun _ => by simp [PV.no, PV.noL, noL_iff, nbeq]) _) | (simp at h; obtain ⟨rfl, rfl⟩ := h; simp [PV.no, PV.noL, optS_no, noL_iff, nbeq] <;> omega)⟩⟩) (ltb rfl) ?_)
          rintro _ _ ⟨rfl, rfl⟩
          refine ⟨_, _, rfl, ?_⟩
          refine WalkP.step (p := ?pv1465) 8 rfl rfl rfl rfl rfl (⟨_, _, rfl, rfl, ⟨_, _, rfl, rfl, rfl⟩⟩) ?hv1465 ?rest1465
          case hv1465 =>
           intro E1 H1 hI1
           refine (V1.int rfl rfl rfl rfl rfl (ltb rfl) ?_)
           exact rfl
          refine WalkP.step (p := ?pv1466) 9 rfl rfl rfl rfl rfl (⟨_, _, rfl, rfl, ⟨_, _, rfl, rfl, rfl⟩⟩) ?hv1466 ?rest1466
          case hv1466 =>
           intro E1 H1 hI1
           refine (V1.build rfl rfl zk_125 pl_125 rfl rfl (ltb rfl) ?_)
           exact rfl
          refine WalkP.nil ?_
          refine NodeS.branch [10] inNil rfl rfl rfl ⟨?_, trivial⟩
          ·
           refine ⟨_, _, _, _, rfl, rfl, rfl, (⟨_, _, rfl, rfl, rfl⟩), fun E1 => ?_⟩
           refine (V1.buildSliceT (f := encEvent) ([(⟨k, (IntKind.i64.wrap (y1.1 + y4.1))⟩ : Event)] : List Event) rfl rfl esz_93 zk_125 rfl rfl rfl rfl rfl rfl rfl (ltb rfl) ?_)
           intro b13
           refine ⟨_, _, rfl, ?_⟩
           refine WalkP.nil ?_
           refine NodeS.fin inNil rfl rfl rfl (⟨_, _, rfl, rfl, ⟨_, _, rfl, rfl, ⟨_, _, rfl, rfl, ⟨_, _, rfl, rfl, ⟨_, _, rfl, rfl, ⟨_, _, rfl, rfl, rfl⟩⟩⟩⟩⟩⟩) ?_
           refine VO.cons rfl (V1.appendMap (k := 3) (f := encEvent) (l := r_Events0) (m := ([(⟨k, (IntKind.i64.wrap (y1.1 + y4.1))⟩ : Event)] : List Event)) rfl rfl rfl rfl rfl esz_93 eby_93 zk_125 rfl rfl rfl (SrcOf.srMap (k := 0) rfl isl_93) hh4 (ltb rfl) ?_)
           intro b14
           refine VO.cons rfl (V1.fieldRef rfl rfl fo_95_3 rfl (ltb rfl) ?_)
           refine VO.cons rfl (V1.storeRef (k := 4) rfl rfl tyk_93 rfl rfl rfl rfl rfl rfl rfl rfl rfl ?_)
           refine VO.nil ?_
           exact ⟨(((r_Events0 ++ ([(⟨k, (IntKind.i64.wrap (y1.1 + y4.1))⟩ : Event)] : List Event)), y4.2), b14), Option.some.inj hm3, Keeps.mk (ks := [0, 2, 4, 5]) rfl ⟨rfl, rfl, rfl, rfl, trivial⟩ (⟨_, _, rfl, rfl, ⟨_, _, rfl, rfl, ⟨_, _, rfl, rfl, ⟨_, _, rfl, rfl, rfl⟩⟩⟩⟩) rfl⟩
       ·
        refine ⟨_, _, _, _, rfl, rfl, rfl, (rfl), fun E1 => ?_⟩
        refine (V1.buildSliceT (f := encInt) ([(0 : Int), (1 : Int), (30 : Int), (365 : Int), (1000 : Int)] : List Int) rfl rfl esz_34 zk_3 rfl rfl rfl rfl rfl rfl rfl (ltb rfl) ?_)
        intro b15
        refine ⟨_, _, rfl, ?_⟩
        refine WalkP.nil ?_
        refine NodeS.branch [4, 7] inNil rfl rfl rfl ⟨?_, ?_, trivial⟩
        ·
         refine ⟨_, _, _, _, rfl, rfl, rfl, (⟨_, _, rfl, rfl, rfl⟩), fun E1 => ?_⟩
         refine (V1.loadRef (k := 3) rfl rfl tyk_3 rfl rfl rfl rfl rfl (ltb rfl) ?_)
         refine ⟨_, _, rfl, ?_⟩
         refine WalkP.nil ?_
         refine NodeS.branch [7] inNil rfl rfl rfl ⟨?_, trivial⟩
         ·
          refine ⟨_, _, _, _, rfl, rfl, rfl, (⟨_, _, rfl, rfl, ⟨_, _, rfl, rfl, rfl⟩⟩), fun E1 => ?_⟩
          refine (V1.callM 1 (rn + ρ0 + 1) [b15] [.ref bp 3 0 0, .vl (rn + ρ0 + 1) 1 (List.map encInt ([(0 : Int), (1 : Int), (30 : Int), (365 : Int), (1000 : Int)] : List Int))] (p := (bp, ⟨3, [encCur ρ0 y3.2]⟩)) rfl rfl rfl cok_151 rfl rfl ⟨_, _, rfl, .same _, ⟨_, _, rfl, Lend.srMap 0 rfl (fun _ => rfl) (.head _), rfl⟩⟩ (bwCons (k := 0) rfl bwNil) (ok_spec_l1Cur_among hh3) rfl (.inr ⟨(by dsimp only; omega), by rintro _ _ ⟨rfl, rfl⟩; exact ⟨by simp [PV.no, PV.noL, optS_no, noL_iff, nbeq] <;> omega, by intro b ob h; first | exact optH_no (noL_map (fun _ => by simp [PV.no, PV.noL, noL_iff, nbeq]) _) b ob h | (simp at h; obtain ⟨rfl, rfl⟩ := h; exact noL_map (fun _ => by simp [PV.no, PV.noL, noL_iff, nbeq]) _) | (simp at h; obtain ⟨rfl, rfl⟩ := h; simp [PV.no, PV.noL, optS_no, noL_iff, nbeq] <;> omega)⟩⟩) (ltb rfl) ?_)
          rintro _ _ ⟨rfl, rfl⟩
          refine ⟨_, _, rfl, ?_⟩
          refine WalkP.step (p := ?pv1467) 8 rfl rfl rfl rfl rfl (⟨_, _, rfl, rfl, ⟨_, _, rfl, rfl, rfl⟩⟩) ?hv1467 ?rest1467
          case hv1467 =>
           intro E1 H1 hI1
           refine (V1.int rfl rfl rfl rfl rfl (ltb rfl) ?_)
           exact rfl
          refine WalkP.step (p := ?pv1468) 9 rfl rfl rfl rfl rfl (⟨_, _, rfl, rfl, ⟨_, _, rfl, rfl, rfl⟩⟩) ?hv1468 ?rest1468
          case hv1468 =>
           intro E1 H1 hI1
           refine (V1.build rfl rfl zk_125 pl_125 rfl rfl (ltb rfl) ?_)
           exact rfl
          refine WalkP.nil ?_
          refine NodeS.branch [10] inNil rfl rfl rfl ⟨?_, trivial⟩
          ·
           refine ⟨_, _, _, _, rfl, rfl, rfl, (⟨_, _, rfl, rfl, rfl⟩), fun E1 => ?_⟩
           refine (V1.buildSliceT (f := encEvent) ([(⟨k, (IntKind.i64.wrap (y1.1 + y4.1))⟩ : Event)] : List Event) rfl rfl esz_93 zk_125 rfl rfl rfl rfl rfl rfl rfl (ltb rfl) ?_)
           intro b16
           refine ⟨_, _, rfl, ?_⟩
           refine WalkP.nil ?_
           refine NodeS.fin inNil rfl rfl rfl (⟨_, _, rfl, rfl, ⟨_, _, rfl, rfl, ⟨_, _, rfl, rfl, ⟨_, _, rfl, rfl, ⟨_, _, rfl, rfl, ⟨_, _, rfl, rfl, rfl⟩⟩⟩⟩⟩⟩) ?_
           refine VO.cons rfl (V1.appendMap (k := 3) (f := encEvent) (l := r_Events0) (m := ([(⟨k, (IntKind.i64.wrap (y1.1 + y4.1))⟩ : Event)] : List Event)) rfl rfl rfl rfl rfl esz_93 eby_93 zk_125 rfl rfl rfl (SrcOf.srMap (k := 0) rfl isl_93) hh4 (ltb rfl) ?_)
           intro b17
           refine VO.cons rfl (V1.fieldRef rfl rfl fo_95_3 rfl (ltb rfl) ?_)
           refine VO.cons rfl (V1.storeRef (k := 4) rfl rfl tyk_93 rfl rfl rfl rfl rfl rfl rfl rfl rfl ?_)
           refine VO.nil ?_
           exact ⟨(((r_Events0 ++ ([(⟨k, (IntKind.i64.wrap (y1.1 + y4.1))⟩ : Event)] : List Event)), y4.2), b17), Option.some.inj hm3, Keeps.mk (ks := [0, 2, 4, 5]) rfl ⟨rfl, rfl, rfl, rfl, trivial⟩ (⟨_, _, rfl, rfl, ⟨_, _, rfl, rfl, ⟨_, _, rfl, rfl, ⟨_, _, rfl, rfl, rfl⟩⟩⟩⟩) rfl⟩
        ·
         refine ⟨_, _, _, _, rfl, rfl, rfl, (⟨_, _, rfl, rfl, ⟨_, _, rfl, rfl, rfl⟩⟩), fun E1 => ?_⟩
         refine (V1.callM 1 (rn + ρ0 + 1) [b15] [.ref bp 3 0 0, .vl (rn + ρ0 + 1) 1 (List.map encInt ([(0 : Int), (1 : Int), (30 : Int), (365 : Int), (1000 : Int)] : List Int))] (p := (bp, ⟨3, [encCur ρ0 y3.2]⟩)) rfl rfl rfl cok_151 rfl rfl ⟨_, _, rfl, .same _, ⟨_, _, rfl, Lend.srMap 0 rfl (fun _ => rfl) (.head _), rfl⟩⟩ (bwCons (k := 0) rfl bwNil) (ok_spec_l1Cur_among hh3) rfl (.inr ⟨(by dsimp only; omega), by rintro _ _ ⟨rfl, rfl⟩; exact ⟨by simp [PV.no, PV.noL, optS_no, noL_iff, nbeq] <;> omega, by intro b ob h; first | exact optH_no (noL_map (fun _ => by simp [PV.no, PV.noL, noL_iff, nbeq]) _) b ob h | (simp at h; obtain ⟨rfl, rfl⟩ := h; exact noL_map (fun _ => by simp [PV.no, PV.noL, noL_iff, nbeq]) _) | (simp at h; obtain ⟨rfl, rfl⟩ := h; simp [PV.no, PV.noL, optS_no, noL_iff, nbeq] <;> omega)⟩⟩) (ltb rfl) ?_)
         rintro _ _ ⟨rfl, rfl⟩
         refine ⟨_, _, rfl, ?_⟩
         refine WalkP.nil ?_
         refine NodeS.branch [4] inNil rfl rfl rfl ⟨?_, trivial⟩
         ·
          refine ⟨_, _, _, _, rfl, rfl, rfl, (⟨_, _, rfl, rfl, rfl⟩), fun E1 => ?_⟩
          refine (V1.loadRef (k := 3) rfl rfl tyk_3 rfl rfl rfl rfl rfl (ltb rfl) ?_)
          refine ⟨_, _, rfl, ?_⟩
          refine WalkP.step (p := ?pv1469) 8 rfl rfl rfl rfl rfl (⟨_, _, rfl, rfl, ⟨_, _, rfl, rfl, rfl⟩⟩) ?hv1469 ?rest1469
          case hv1469 =>
           intro E1 H1 hI1
           refine (V1.int rfl rfl rfl rfl rfl (ltb rfl) ?_)
           exact rfl
          refine WalkP.step (p := ?pv1470) 9 rfl rfl rfl rfl rfl (⟨_, _, rfl, rfl, ⟨_, _, rfl, rfl, rfl⟩⟩) ?hv1470 ?rest1470
          case hv1470 =>
           intro E1 H1 hI1
           refine (V1.build rfl rfl zk_125 pl_125 rfl rfl (ltb rfl) ?_)
           exact rfl
          refine WalkP.nil ?_
          refine NodeS.branch [10] inNil rfl rfl rfl ⟨?_, trivial⟩
          ·
           refine ⟨_, _, _, _, rfl, rfl, rfl, (⟨_, _, rfl, rfl, rfl⟩), fun E1 => ?_⟩
           refine (V1.buildSliceT (f := encEvent) ([(⟨k, (IntKind.i64.wrap (y1.1 + y4.1))⟩ : Event)] : List Event) rfl rfl esz_93 zk_125 rfl rfl rfl rfl rfl rfl rfl (ltb rfl) ?_)
           intro b18
           refine ⟨_, _, rfl, ?_⟩
           refine WalkP.nil ?_
           refine NodeS.fin inNil rfl rfl rfl (⟨_, _, rfl, rfl, ⟨_, _, rfl, rfl, ⟨_, _, rfl, rfl, ⟨_, _, rfl, rfl, ⟨_, _, rfl, rfl, ⟨_, _, rfl, rfl, rfl⟩⟩⟩⟩⟩⟩) ?_
           refine VO.cons rfl (V1.appendMap (k := 3) (f := encEvent) (l := r_Events0) (m := ([(⟨k, (IntKind.i64.wrap (y1.1 + y4.1))⟩ : Event)] : List Event)) rfl rfl rfl rfl rfl esz_93 eby_93 zk_125 rfl rfl rfl (SrcOf.srMap (k := 0) rfl isl_93) hh4 (ltb rfl) ?_)
           intro b19
           refine VO.cons rfl (V1.fieldRef rfl rfl fo_95_3 rfl (ltb rfl) ?_)
           refine VO.cons rfl (V1.storeRef (k := 4) rfl rfl tyk_93 rfl rfl rfl rfl rfl rfl rfl rfl rfl ?_)
           refine VO.nil ?_
           exact ⟨(((r_Events0 ++ ([(⟨k, (IntKind.i64.wrap (y1.1 + y4.1))⟩ : Event)] : List Event)), y4.2), b19), Option.some.inj hm3, Keeps.mk (ks := [0, 2, 4, 5]) rfl ⟨rfl, rfl, rfl, rfl, trivial⟩ (⟨_, _, rfl, rfl, ⟨_, _, rfl, rfl, ⟨_, _, rfl, rfl, ⟨_, _, rfl, rfl, rfl⟩⟩⟩⟩) rfl⟩
      ·
       refine ⟨_, _, _, _, rfl, rfl, rfl, (⟨_, _, rfl, rfl, rfl⟩), fun E1 => ?_⟩
       refine (V1.loadRef (k := 2) rfl rfl tyk_3 rfl rfl rfl rfl rfl (ltb rfl) ?_)
       refine ⟨_, _, rfl, ?_⟩
       refine WalkP.nil ?_
       refine NodeS.branch [1, 6] inNil rfl rfl rfl ⟨?_, ?_, trivial⟩
       ·
        refine ⟨_, _, _, _, rfl, rfl, rfl, (⟨_, _, rfl, rfl, rfl⟩), fun E1 => ?_⟩
        refine (V1.loadRef (k := 2) rfl rfl tyk_93 rfl rfl rfl rfl rfl (ltb rfl) ?_)
        refine ⟨_, _, rfl, ?_⟩
        refine WalkP.nil ?_
        refine NodeS.branch [6] inNil rfl rfl rfl ⟨?_, trivial⟩
        ·
         refine ⟨_, _, _, _, rfl, rfl, rfl, (rfl), fun E1 => ?_⟩
         refine (V1.buildSliceT (f := encInt) ([(0 : Int), (1 : Int), (30 : Int), (365 : Int), (1000 : Int)] : List Int) rfl rfl esz_34 zk_3 rfl rfl rfl rfl rfl rfl rfl (ltb rfl) ?_)
         intro b20
         refine ⟨_, _, rfl, ?_⟩
         refine WalkP.nil ?_
         refine NodeS.branch [7] inNil rfl rfl rfl ⟨?_, trivial⟩
         ·
          refine ⟨_, _, _, _, rfl, rfl, rfl, (⟨_, _, rfl, rfl, ⟨_, _, rfl, rfl, rfl⟩⟩), fun E1 => ?_⟩
          refine (V1.callM 1 (rn + ρ0 + 1) [b20] [.ref bp 3 0 0, .vl (rn + ρ0 + 1) 1 (List.map encInt ([(0 : Int), (1 : Int), (30 : Int), (365 : Int), (1000 : Int)] : List Int))] (p := (bp, ⟨3, [encCur ρ0 y3.2]⟩)) rfl rfl rfl cok_151 rfl rfl ⟨_, _, rfl, .same _, ⟨_, _, rfl, Lend.srMap 0 rfl (fun _ => rfl) (.head _), rfl⟩⟩ (bwCons (k := 0) rfl bwNil) (ok_spec_l1Cur_among hh3) rfl (.inr ⟨(by dsimp only; omega), by rintro _ _ ⟨rfl, rfl⟩; exact ⟨by simp [PV.no, PV.noL, optS_no, noL_iff, nbeq] <;> omega, by intro b ob h; first | exact optH_no (noL_map (fun _ => by simp [PV.no, PV.noL, noL_iff, nbeq]) _) b ob h | (simp at h; obtain ⟨rfl, rfl⟩ := h; exact noL_map (fun _ => by simp [PV.no, PV.noL, noL_iff, nbeq]) _) | (simp at h; obtain ⟨rfl, rfl⟩ := h; simp [PV.no, PV.noL, optS_no, noL_iff, nbeq] <;> omega)⟩⟩) (ltb rfl) ?_)
          rintro _ _ ⟨rfl, rfl⟩
          refine ⟨_, _, rfl, ?_⟩
          refine WalkP.step (p := ?pv1471) 8 rfl rfl rfl rfl rfl (⟨_, _, rfl, rfl, ⟨_, _, rfl, rfl, rfl⟩⟩) ?hv1471 ?rest1471
          case hv1471 =>
           intro E1 H1 hI1
           refine (V1.int rfl rfl rfl rfl rfl (ltb rfl) ?_)
           exact rfl
          refine WalkP.step (p := ?pv1472) 9 rfl rfl rfl rfl rfl (⟨_, _, rfl, rfl, ⟨_, _, rfl, rfl, rfl⟩⟩) ?hv1472 ?rest1472
          case hv1472 =>
           intro E1 H1 hI1
           refine (V1.build rfl rfl zk_125 pl_125 rfl rfl (ltb rfl) ?_)
           exact rfl
          refine WalkP.nil ?_
          refine NodeS.branch [10] inNil rfl rfl rfl ⟨?_, trivial⟩
          ·
           refine ⟨_, _, _, _, rfl, rfl, rfl, (⟨_, _, rfl, rfl, rfl⟩), fun E1 => ?_⟩
           refine (V1.buildSliceT (f := encEvent) ([(⟨k, (IntKind.i64.wrap (y1.1 + y4.1))⟩ : Event)] : List Event) rfl rfl esz_93 zk_125 rfl rfl rfl rfl rfl rfl rfl (ltb rfl) ?_)
           intro b21
           refine ⟨_, _, rfl, ?_⟩
           refine WalkP.nil ?_
           refine NodeS.fin inNil rfl rfl rfl (⟨_, _, rfl, rfl, ⟨_, _, rfl, rfl, ⟨_, _, rfl, rfl, ⟨_, _, rfl, rfl, ⟨_, _, rfl, rfl, ⟨_, _, rfl, rfl, rfl⟩⟩⟩⟩⟩⟩) ?_
           refine VO.cons rfl (V1.appendMap (k := 3) (f := encEvent) (l := r_Events0) (m := ([(⟨k, (IntKind.i64.wrap (y1.1 + y4.1))⟩ : Event)] : List Event)) rfl rfl rfl rfl rfl esz_93 eby_93 zk_125 rfl rfl rfl (SrcOf.srMap (k := 0) rfl isl_93) hh4 (ltb rfl) ?_)
           intro b22
           refine VO.cons rfl (V1.fieldRef rfl rfl fo_95_3 rfl (ltb rfl) ?_)
           refine VO.cons rfl (V1.storeRef (k := 4) rfl rfl tyk_93 rfl rfl rfl rfl rfl rfl rfl rfl rfl ?_)
           refine VO.nil ?_
           exact ⟨(((r_Events0 ++ ([(⟨k, (IntKind.i64.wrap (y1.1 + y4.1))⟩ : Event)] : List Event)), y4.2), b22), Option.some.inj hm3, Keeps.mk (ks := [0, 2, 4, 5]) rfl ⟨rfl, rfl, rfl, rfl, trivial⟩ (⟨_, _, rfl, rfl, ⟨_, _, rfl, rfl, ⟨_, _, rfl, rfl, ⟨_, _, rfl, rfl, rfl⟩⟩⟩⟩) rfl⟩
       ·
        refine ⟨_, _, _, _, rfl, rfl, rfl, (rfl), fun E1 => ?_⟩
        refine (V1.buildSliceT (f := encInt) ([(0 : Int), (1 : Int), (30 : Int), (365 : Int), (1000 : Int)] : List Int) rfl rfl esz_34 zk_3 rfl rfl rfl rfl rfl rfl rfl (ltb rfl) ?_)
        intro b23
        refine ⟨_, _, rfl, ?_⟩
        refine WalkP.nil ?_
        refine NodeS.branch [1, 7] inNil rfl rfl rfl ⟨?_, ?_, trivial⟩
        ·
         refine ⟨_, _, _, _, rfl, rfl, rfl, (⟨_, _, rfl, rfl, rfl⟩), fun E1 => ?_⟩
         refine (V1.loadRef (k := 3) rfl rfl tyk_93 rfl rfl rfl rfl rfl (ltb rfl) ?_)
         refine ⟨_, _, rfl, ?_⟩
         refine WalkP.nil ?_
         refine NodeS.branch [7] inNil rfl rfl rfl ⟨?_, trivial⟩
         ·
          refine ⟨_, _, _, _, rfl, rfl, rfl, (⟨_, _, rfl, rfl, ⟨_, _, rfl, rfl, rfl⟩⟩), fun E1 => ?_⟩
          refine (V1.callM 1 (rn + ρ0 + 1) [b23] [.ref bp 3 0 0, .vl (rn + ρ0 + 1) 1 (List.map encInt ([(0 : Int), (1 : Int), (30 : Int), (365 : Int), (1000 : Int)] : List Int))] (p := (bp, ⟨3, [encCur ρ0 y3.2]⟩)) rfl rfl rfl cok_151 rfl rfl ⟨_, _, rfl, .same _, ⟨_, _, rfl, Lend.srMap 0 rfl (fun _ => rfl) (.head _), rfl⟩⟩ (bwCons (k := 0) rfl bwNil) (ok_spec_l1Cur_among hh3) rfl (.inr ⟨(by dsimp only; omega), by rintro _ _ ⟨rfl, rfl⟩; exact ⟨by simp [PV.no, PV.noL, optS_no, noL_iff, nbeq] <;> omega, by intro b ob h; first | exact optH_no (noL_map (fun _ => by simp [PV.no, PV.noL, noL_iff, nbeq]) _) b ob h | (simp at h; obtain ⟨rfl, rfl⟩ := h; exact noL_map (fun _ => by simp [PV.no, PV.noL, noL_iff, nbeq]) _) | (simp at h; obtain ⟨rfl, rfl⟩ := h; simp [PV.no, PV.noL, optS_no, noL_iff, nbeq] <;> omega)⟩⟩) (ltb rfl) ?_)
          rintro _ _ ⟨rfl, rfl⟩
          refine ⟨_, _, rfl, ?_⟩
          refine WalkP.step (p := ?pv1473) 8 rfl rfl rfl rfl rfl (⟨_, _, rfl, rfl, ⟨_, _, rfl, rfl, rfl⟩⟩) ?hv1473 ?rest1473
          case hv1473 =>
           intro E1 H1 hI1
           refine (V1.int rfl rfl rfl rfl rfl (ltb rfl) ?_)
           exact rfl
          refine WalkP.step (p := ?pv1474) 9 rfl rfl rfl rfl rfl (⟨_, _, rfl, rfl, ⟨_, _, rfl, rfl, rfl⟩⟩) ?hv1474 ?rest1474
          case hv1474 =>
           intro E1 H1 hI1
           refine (V1.build rfl rfl zk_125 pl_125 rfl rfl (ltb rfl) ?_)
           exact rfl
          refine WalkP.nil ?_
          refine NodeS.branch [10] inNil rfl rfl rfl ⟨?_, trivial⟩
          ·
           refine ⟨_, _, _, _, rfl, rfl, rfl, (⟨_, _, rfl, rfl, rfl⟩), fun E1 => ?_⟩
           refine (V1.buildSliceT (f := encEvent) ([(⟨k, (IntKind.i64.wrap (y1.1 + y4.1))⟩ : Event)] : List Event) rfl rfl esz_93 zk_125 rfl rfl rfl rfl rfl rfl rfl (ltb rfl) ?_)
           intro b24
           refine ⟨_, _, rfl, ?_⟩
           refine WalkP.nil ?_
           refine NodeS.fin inNil rfl rfl rfl (⟨_, _, rfl, rfl, ⟨_, _, rfl, rfl, ⟨_, _, rfl, rfl, ⟨_, _, rfl, rfl, ⟨_, _, rfl, rfl, ⟨_, _, rfl, rfl, rfl⟩⟩⟩⟩⟩⟩) ?_
           refine VO.cons rfl (V1.appendMap (k := 3) (f := encEvent) (l := r_Events0) (m := ([(⟨k, (IntKind.i64.wrap (y1.1 + y4.1))⟩ : Event)] : List Event)) rfl rfl rfl rfl rfl esz_93 eby_93 zk_125 rfl rfl rfl (SrcOf.srMap (k := 0) rfl isl_93) hh4 (ltb rfl) ?_)
           intro b25
           refine VO.cons rfl (V1.fieldRef rfl rfl fo_95_3 rfl (ltb rfl) ?_)
           refine VO.cons rfl (V1.storeRef (k := 4) rfl rfl tyk_93 rfl rfl rfl rfl rfl rfl rfl rfl rfl ?_)
           refine VO.nil ?_
           exact ⟨(((r_Events0 ++ ([(⟨k, (IntKind.i64.wrap (y1.1 + y4.1))⟩ : Event)] : List Event)), y4.2), b25), Option.some.inj hm3, Keeps.mk (ks := [0, 2, 4, 5]) rfl ⟨rfl, rfl, rfl, rfl, trivial⟩ (⟨_, _, rfl, rfl, ⟨_, _, rfl, rfl, ⟨_, _, rfl, rfl, ⟨_, _, rfl, rfl, rfl⟩⟩⟩⟩) rfl⟩
        ·
         refine ⟨_, _, _, _, rfl, rfl, rfl, (⟨_, _, rfl, rfl, ⟨_, _, rfl, rfl, rfl⟩⟩), fun E1 => ?_⟩
         refine (V1.callM 1 (rn + ρ0 + 1) [b23] [.ref bp 3 0 0, .vl (rn + ρ0 + 1) 1 (List.map encInt ([(0 : Int), (1 : Int), (30 : Int), (365 : Int), (1000 : Int)] : List Int))] (p := (bp, ⟨3, [encCur ρ0 y3.2]⟩)) rfl rfl rfl cok_151 rfl rfl ⟨_, _, rfl, .same _, ⟨_, _, rfl, Lend.srMap 0 rfl (fun _ => rfl) (.head _), rfl⟩⟩ (bwCons (k := 0) rfl bwNil) (ok_spec_l1Cur_among hh3) rfl (.inr ⟨(by dsimp only; omega), by rintro _ _ ⟨rfl, rfl⟩; exact ⟨by simp [PV.no, PV.noL, optS_no, noL_iff, nbeq] <;> omega, by intro b ob h; first | exact optH_no (noL_map (fun _ => by simp [PV.no, PV.noL, noL_iff, nbeq]) _) b ob h | (simp at h; obtain ⟨rfl, rfl⟩ := h; exact noL_map (fun _ => by simp [PV.no, PV.noL, noL_iff, nbeq]) _) | (simp at h; obtain ⟨rfl, rfl⟩ := h; simp [PV.no, PV.noL, optS_no, noL_iff, nbeq] <;> omega)⟩⟩) (ltb rfl) ?_)
         rintro _ _ ⟨rfl, rfl⟩
         refine ⟨_, _, rfl, ?_⟩
         refine WalkP.step (p := ?pv1475) 8 rfl rfl rfl rfl rfl (⟨_, _, rfl, rfl, ⟨_, _, rfl, rfl, rfl⟩⟩) ?hv1475 ?rest1475
         case hv1475 =>
          intro E1 H1 hI1
          refine (V1.int rfl rfl rfl rfl rfl (ltb rfl) ?_)
          exact rfl
         refine WalkP.step (p := ?pv1476) 9 rfl rfl rfl rfl rfl (⟨_, _, rfl, rfl, ⟨_, _, rfl, rfl, rfl⟩⟩) ?hv1476 ?rest1476
         case hv1476 =>
          intro E1 H1 hI1
          refine (V1.build rfl rfl zk_125 pl_125 rfl rfl (ltb rfl) ?_)
          exact rfl
         refine WalkP.nil ?_
         refine NodeS.branch [1, 10] inNil rfl rfl rfl ⟨?_, ?_, trivial⟩
         ·
          refine ⟨_, _, _, _, rfl, rfl, rfl, (⟨_, _, rfl, rfl, rfl⟩), fun E1 => ?_⟩
          refine (V1.loadRef (k := 3) rfl rfl tyk_93 rfl rfl rfl rfl rfl (ltb rfl) ?_)
          refine ⟨_, _, rfl, ?_⟩
          refine WalkP.nil ?_
          refine NodeS.branch [10] inNil rfl rfl rfl ⟨?_, trivial⟩
          ·
           refine ⟨_, _, _, _, rfl, rfl, rfl, (⟨_, _, rfl, rfl, rfl⟩), fun E1 => ?_⟩
           refine (V1.buildSliceT (f := encEvent) ([(⟨k, (IntKind.i64.wrap (y1.1 + y4.1))⟩ : Event)] : List Event) rfl rfl esz_93 zk_125 rfl rfl rfl rfl rfl rfl rfl (ltb rfl) ?_)
           intro b26
           refine ⟨_, _, rfl, ?_⟩
           refine WalkP.nil ?_
           refine NodeS.fin inNil rfl rfl rfl (⟨_, _, rfl, rfl, ⟨_, _, rfl, rfl, ⟨_, _, rfl, rfl, ⟨_, _, rfl, rfl, ⟨_, _, rfl, rfl, ⟨_, _, rfl, rfl, rfl⟩⟩⟩⟩⟩⟩) ?_
           refine VO.cons rfl (V1.appendMap (k := 3) (f := encEvent) (l := r_Events0) (m := ([(⟨k, (IntKind.i64.wrap (y1.1 + y4.1))⟩ : Event)] : List Event)) rfl rfl rfl rfl rfl esz_93 eby_93 zk_125 rfl rfl rfl (SrcOf.srMap (k := 0) rfl isl_93) hh4 (ltb rfl) ?_)
           intro b27
           refine VO.cons rfl (V1.fieldRef rfl rfl fo_95_3 rfl (ltb rfl) ?_)
           refine VO.cons rfl (V1.storeRef (k := 4) rfl rfl tyk_93 rfl rfl rfl rfl rfl rfl rfl rfl rfl ?_)
           refine VO.nil ?_
           exact ⟨(((r_Events0 ++ ([(⟨k, (IntKind.i64.wrap (y1.1 + y4.1))⟩ : Event)] : List Event)), y4.2), b27), Option.some.inj hm3, Keeps.mk (ks := [0, 2, 4, 5]) rfl ⟨rfl, rfl, rfl, rfl, trivial⟩ (⟨_, _, rfl, rfl, ⟨_, _, rfl, rfl, ⟨_, _, rfl, rfl, ⟨_, _, rfl, rfl, rfl⟩⟩⟩⟩) rfl⟩
         ·
          refine ⟨_, _, _, _, rfl, rfl, rfl, (⟨_, _, rfl, rfl, rfl⟩), fun E1 => ?_⟩
          refine (V1.buildSliceT (f := encEvent) ([(⟨k, (IntKind.i64.wrap (y1.1 + y4.1))⟩ : Event)] : List Event) rfl rfl esz_93 zk_125 rfl rfl rfl rfl rfl rfl rfl (ltb rfl) ?_)
          intro b28
          refine ⟨_, _, rfl, ?_⟩
          refine WalkP.nil ?_
          refine NodeS.branch [1] inNil rfl rfl rfl ⟨?_, trivial⟩
          ·
           refine ⟨_, _, _, _, rfl, rfl, rfl, (⟨_, _, rfl, rfl, rfl⟩), fun E1 => ?_⟩
           refine (V1.loadRef (k := 4) rfl rfl tyk_93 rfl rfl rfl rfl rfl (ltb rfl) ?_)
           refine ⟨_, _, rfl, ?_⟩
           refine WalkP.nil ?_
           refine NodeS.fin inNil rfl rfl rfl (⟨_, _, rfl, rfl, ⟨_, _, rfl, rfl, ⟨_, _, rfl, rfl, ⟨_, _, rfl, rfl, ⟨_, _, rfl, rfl, ⟨_, _, rfl, rfl, rfl⟩⟩⟩⟩⟩⟩) ?_
           refine VO.cons rfl (V1.appendMap (k := 3) (f := encEvent) (l := r_Events0) (m := ([(⟨k, (IntKind.i64.wrap (y1.1 + y4.1))⟩ : Event)] : List Event)) rfl rfl rfl rfl rfl esz_93 eby_93 zk_125 rfl rfl rfl (SrcOf.srMap (k := 0) rfl isl_93) hh4 (ltb rfl) ?_)
           intro b29
           refine VO.cons rfl (V1.fieldRef rfl rfl fo_95_3 rfl (ltb rfl) ?_)
           refine VO.cons rfl (V1.storeRef (k := 4) rfl rfl tyk_93 rfl rfl rfl rfl rfl rfl rfl rfl rfl ?_)
           refine VO.nil ?_
           exact ⟨(((r_Events0 ++ ([(⟨k, (IntKind.i64.wrap (y1.1 + y4.1))⟩ : Event)] : List Event)), y4.2), b29), Option.some.inj hm3, Keeps.mk (ks := [0, 2, 4, 5]) rfl ⟨rfl, rfl, rfl, rfl, trivial⟩ (⟨_, _, rfl, rfl, ⟨_, _, rfl, rfl, ⟨_, _, rfl, rfl, ⟨_, _, rfl, rfl, rfl⟩⟩⟩⟩) rfl⟩
      ·
       refine ⟨_, _, _, _, rfl, rfl, rfl, (rfl), fun E1 => ?_⟩
       refine (V1.buildSliceT (f := encInt) ([(0 : Int), (1 : Int), (30 : Int), (365 : Int), (1000 : Int)] : List Int) rfl rfl esz_34 zk_3 rfl rfl rfl rfl rfl rfl rfl (ltb rfl) ?_)
       intro b30
       refine ⟨_, _, rfl, ?_⟩
       refine WalkP.nil ?_
       refine NodeS.branch [1, 4, 7] inNil rfl rfl rfl ⟨?_, ?_, ?_, trivial⟩
       ·
        refine ⟨_, _, _, _, rfl, rfl, rfl, (⟨_, _, rfl, rfl, rfl⟩), fun E1 => ?_⟩
        refine (V1.loadRef (k := 3) rfl rfl tyk_93 rfl rfl rfl rfl rfl (ltb rfl) ?_)
        refine ⟨_, _, rfl, ?_⟩
        refine WalkP.nil ?_
        refine NodeS.branch [4, 7] inNil rfl rfl rfl ⟨?_, ?_, trivial⟩
        ·
         refine ⟨_, _, _, _, rfl, rfl, rfl, (⟨_, _, rfl, rfl, rfl⟩), fun E1 => ?_⟩
         refine (V1.loadRef (k := 3) rfl rfl tyk_3 rfl rfl rfl rfl rfl (ltb rfl) ?_)
         refine ⟨_, _, rfl, ?_⟩
         refine WalkP.nil ?_
         refine NodeS.branch [7] inNil rfl rfl rfl ⟨?_, trivial⟩
         ·
          refine ⟨_, _, _, _, rfl, rfl, rfl, (⟨_, _, rfl, rfl, ⟨_, _, rfl, rfl, rfl⟩⟩), fun E1 => ?_⟩
          refine (V1.callM 1 (rn + ρ0 + 1) [b30] [.ref bp 3 0 0, .vl (rn + ρ0 + 1) 1 (List.map encInt ([(0 : Int), (1 : Int), (30 : Int), (365 : Int), (1000 : Int)] : List Int))] (p := (bp, ⟨3, [encCur ρ0 y3.2]⟩)) rfl rfl rfl cok_151 rfl rfl ⟨_, _, rfl, .same _, ⟨_, _, rfl, Lend.srMap 0 rfl (fun _ => rfl) (.head _), rfl⟩⟩ (bwCons (k := 0) rfl bwNil) (ok_spec_l1Cur_among hh3) rfl (.inr ⟨(by dsimp only; omega), by rintro _ _ ⟨rfl, rfl⟩; exact ⟨by simp [PV.no, PV.noL, optS_no, noL_iff, nbeq] <;> omega, by intro b ob h; first | exact optH_no (noL_map (fun _ => by simp [PV.no, PV.noL, noL_iff, nbeq]) _) b ob h | (simp at h; obtain ⟨rfl, rfl⟩ := h; exact noL_map (fun _ => by simp [PV.no, PV.noL, noL_iff, nbeq]) _) | (simp at h; obtain ⟨rfl, rfl⟩ := h; simp [PV.no, PV.noL, optS_no, noL_iff, nbeq] <;> omega)⟩⟩) (ltb rfl) ?_)
          rintro _ _ ⟨rfl, rfl⟩
          refine ⟨_, _, rfl, ?_⟩
          refine WalkP.step (p := ?pv1477) 8 rfl rfl rfl rfl rfl (⟨_, _, rfl, rfl, ⟨_, _, rfl, rfl, rfl⟩⟩) ?hv1477 ?rest1477
          case hv1477 =>
           intro E1 H1 hI1
           refine (V1.int rfl rfl rfl rfl rfl (ltb rfl) ?_)
           exact rfl
          refine WalkP.step (p := ?pv1478) 9 rfl rfl rfl rfl rfl (⟨_, _, rfl, rfl, ⟨_, _, rfl, rfl, rfl⟩⟩) ?hv1478 ?rest1478
          case hv1478 =>
           intro E1 H1 hI1
           refine (V1.build rfl rfl zk_125 pl_125 rfl rfl (ltb rfl) ?_)
           exact rfl
          refine WalkP.nil ?_
          refine NodeS.branch [10] inNil rfl rfl rfl ⟨?_, trivial⟩
          ·
           refine ⟨_, _, _, _, rfl, rfl, rfl, (⟨_, _, rfl, rfl, rfl⟩), fun E1 => ?_⟩
           refine (V1.buildSliceT (f := encEvent) ([(⟨k, (IntKind.i64.wrap (y1.1 + y4.1))⟩ : Event)] : List Event) rfl rfl esz_93 zk_125 rfl rfl rfl rfl rfl rfl rfl (ltb rfl) ?_)
           intro b31
           refine ⟨_, _, rfl, ?_⟩
           refine WalkP.nil ?_
           refine NodeS.fin inNil rfl rfl rfl (⟨_, _, rfl, rfl, ⟨_, _, rfl, rfl, ⟨_, _, rfl, rfl, ⟨_, _, rfl, rfl, ⟨_, _, rfl, rfl, ⟨_, _, rfl, rfl, rfl⟩⟩⟩⟩⟩⟩) ?_
           refine VO.cons rfl (V1.appendMap (k := 3) (f := encEvent) (l := r_Events0) (m := ([(⟨k, (IntKind.i64.wrap (y1.1 + y4.1))⟩ : Event)] : List Event)) rfl rfl rfl rfl rfl esz_93 eby_93 zk_125 rfl rfl rfl (SrcOf.srMap (k := 0) rfl isl_93) hh4 (ltb rfl) ?_)
           intro b32
           refine VO.cons rfl (V1.fieldRef rfl rfl fo_95_3 rfl (ltb rfl) ?_)
           refine VO.cons rfl (V1.storeRef (k := 4) rfl rfl tyk_93 rfl rfl rfl rfl rfl rfl rfl rfl rfl ?_)
           refine VO.nil ?_
           exact ⟨(((r_Events0 ++ ([(⟨k, (IntKind.i64.wrap (y1.1 + y4.1))⟩ : Event)] : List Event)), y4.2), b32), Option.some.inj hm3, Keeps.mk (ks := [0, 2, 4, 5]) rfl ⟨rfl, rfl, rfl, rfl, trivial⟩ (⟨_, _, rfl, rfl, ⟨_, _, rfl, rfl, ⟨_, _, rfl, rfl, ⟨_, _, rfl, rfl, rfl⟩⟩⟩⟩) rfl⟩
        ·
         refine ⟨_, _, _, _, rfl, rfl, rfl, (⟨_, _, rfl, rfl, ⟨_, _, rfl, rfl, rfl⟩⟩), fun E1 => ?_⟩
         refine (V1.callM 1 (rn + ρ0 + 1) [b30] [.ref bp 3 0 0, .vl (rn + ρ0 + 1) 1 (List.map encInt ([(0 : Int), (1 : Int), (30 : Int), (365 : Int), (1000 : Int)] : List Int))] (p := (bp, ⟨3, [encCur ρ0 y3.2]⟩)) rfl rfl rfl cok_151 rfl rfl ⟨_, _, rfl, .same _, ⟨_, _, rfl, Lend.srMap 0 rfl (fun _ => rfl) (.head _), rfl⟩⟩ (bwCons (k := 0) rfl bwNil) (ok_spec_l1Cur_among hh3) rfl (.inr ⟨(by dsimp only; omega), by rintro _ _ ⟨rfl, rfl⟩; exact ⟨by simp [PV.no, PV.noL, optS_no, noL_iff, nbeq] <;> omega, by intro b ob h; first | exact optH_no (noL_map (fun _ => by simp [PV.no, PV.noL, noL_iff, nbeq]) _) b ob h | (simp at h; obtain ⟨rfl, rfl⟩ := h; exact noL_map (fun _ => by simp [PV.no, PV.noL, noL_iff, nbeq]) _) | (simp at h; obtain ⟨rfl, rfl⟩ := h; simp [PV.no, PV.noL, optS_no, noL_iff, nbeq] <;> omega)⟩⟩) (ltb rfl) ?_)
         rintro _ _ ⟨rfl, rfl⟩
         refine ⟨_, _, rfl, ?_⟩
         refine WalkP.nil ?_
         refine NodeS.branch [4] inNil rfl rfl rfl ⟨?_, trivial⟩
         ·
          refine ⟨_, _, _, _, rfl, rfl, rfl, (⟨_, _, rfl, rfl, rfl⟩), fun E1 => ?_⟩
          refine (V1.loadRef (k := 3) rfl rfl tyk_3 rfl rfl rfl rfl rfl (ltb rfl) ?_)
          refine ⟨_, _, rfl, ?_⟩
          refine WalkP.step (p := ?pv1479) 8 rfl rfl rfl rfl rfl (⟨_, _, rfl, rfl, ⟨_, _, rfl, rfl, rfl⟩⟩) ?hv1479 ?rest1479
          case hv1479 =>
           intro E1 H1 hI1
           refine (V1.int rfl rfl rfl rfl rfl (ltb rfl) ?_)
           exact rfl
          refine WalkP.step (p := ?pv1480) 9 rfl rfl rfl rfl rfl (⟨_, _, rfl, rfl, ⟨_, _, rfl, rfl, rfl⟩⟩) ?hv1480 ?rest1480
          case hv1480 =>
           intro E1 H1 hI1
           refine (V1.build rfl rfl zk_125 pl_125 rfl rfl (ltb rfl) ?_)
           exact rfl
          refine WalkP.nil ?_
          refine NodeS.branch [10] inNil rfl rfl rfl ⟨?_, trivial⟩
          ·
           refine ⟨_, _, _, _, rfl, rfl, rfl, (⟨_, _, rfl, rfl, rfl⟩), fun E1 => ?_⟩
           refine (V1.buildSliceT (f := encEvent) ([(⟨k, (IntKind.i64.wrap (y1.1 + y4.1))⟩ : Event)] : List Event) rfl rfl esz_93 zk_125 rfl rfl rfl rfl rfl rfl rfl (ltb rfl) ?_)
           intro b33
           refine ⟨_, _, rfl, ?_⟩
           refine WalkP.nil ?_
           refine NodeS.fin inNil rfl rfl rfl (⟨_, _, rfl, rfl, ⟨_, _, rfl, rfl, ⟨_, _, rfl, rfl, ⟨_, _, rfl, rfl, ⟨_, _, rfl, rfl, ⟨_, _, rfl, rfl, rfl⟩⟩⟩⟩⟩⟩) ?_
           refine VO.cons rfl (V1.appendMap (k := 3) (f := encEvent) (l := r_Events0) (m := ([(⟨k, (IntKind.i64.wrap (y1.1 + y4.1))⟩ : Event)] : List Event)) rfl rfl rfl rfl rfl esz_93 eby_93 zk_125 rfl rfl rfl (SrcOf.srMap (k := 0) rfl isl_93) hh4 (ltb rfl) ?_)
           intro b34
           refine VO.cons rfl (V1.fieldRef rfl rfl fo_95_3 rfl (ltb rfl) ?_)
           refine VO.cons rfl (V1.storeRef (k := 4) rfl rfl tyk_93 rfl rfl rfl rfl rfl rfl rfl rfl rfl ?_)
           refine VO.nil ?_
           exact ⟨(((r_Events0 ++ ([(⟨k, (IntKind.i64.wrap (y1.1 + y4.1))⟩ : Event)] : List Event)), y4.2), b34), Option.some.inj hm3, Keeps.mk (ks := [0, 2, 4, 5]) rfl ⟨rfl, rfl, rfl, rfl, trivial⟩ (⟨_, _, rfl, rfl, ⟨_, _, rfl, rfl, ⟨_, _, rfl, rfl, ⟨_, _, rfl, rfl, rfl⟩⟩⟩⟩) rfl⟩
       ·
        refine ⟨_, _, _, _, rfl, rfl, rfl, (⟨_, _, rfl, rfl, rfl⟩), fun E1 => ?_⟩
        refine (V1.loadRef (k := 3) rfl rfl tyk_3 rfl rfl rfl rfl rfl (ltb rfl) ?_)
        refine ⟨_, _, rfl, ?_⟩
        refine WalkP.nil ?_
        refine NodeS.branch [1, 7] inNil rfl rfl rfl ⟨?_, ?_, trivial⟩
        ·
         refine ⟨_, _, _, _, rfl, rfl, rfl, (⟨_, _, rfl, rfl, rfl⟩), fun E1 => ?_⟩
         refine (V1.loadRef (k := 3) rfl rfl tyk_93 rfl rfl rfl rfl rfl (ltb rfl) ?_)
         refine ⟨_, _, rfl, ?_⟩
         refine WalkP.nil ?_
         refine NodeS.branch [7] inNil rfl rfl rfl ⟨?_, trivial⟩
         ·
          refine ⟨_, _, _, _, rfl, rfl, rfl, (⟨_, _, rfl, rfl, ⟨_, _, rfl, rfl, rfl⟩⟩), fun E1 => ?_⟩
          refine (V1.callM 1 (rn + ρ0 + 1) [b30] [.ref bp 3 0 0, .vl (rn + ρ0 + 1) 1 (List.map encInt ([(0 : Int), (1 : Int), (30 : Int), (365 : Int), (1000 : Int)] : List Int))] (p := (bp, ⟨3, [encCur ρ0 y3.2]⟩)) rfl rfl rfl cok_151 rfl rfl ⟨_, _, rfl, .same _, ⟨_, _, rfl, Lend.srMap 0 rfl (fun _ => rfl) (.head _), rfl⟩⟩ (bwCons (k := 0) rfl bwNil) (ok_spec_l1Cur_among hh3) rfl (.inr ⟨(by dsimp only; omega), by rintro _ _ ⟨rfl, rfl⟩; exact ⟨by simp [PV.no, PV.noL, optS_no, noL_iff, nbeq] <;> omega, by intro b ob h; first | exact optH_no (noL_map (fun _ => by simp [PV.no, PV.noL, noL_iff, nbeq]) _) b ob h | (simp at h; obtain ⟨rfl, rfl⟩ := h; exact noL_map (fun _ => by simp [PV.no, PV.noL, noL_iff, nbeq]) _) | (simp at h; obtain ⟨rfl, rfl⟩ := h; simp [PV.no, PV.noL, optS_no, noL_iff, nbeq] <;> omega)⟩⟩) (ltb rfl) ?_)
          rintro _ _ ⟨rfl, rfl⟩
          refine ⟨_, _, rfl, ?_⟩
          refine WalkP.step (p := ?pv1481) 8 rfl rfl rfl rfl rfl (⟨_, _, rfl, rfl, ⟨_, _, rfl, rfl, rfl⟩⟩) ?hv1481 ?rest1481
          case hv1481 =>
           intro E1 H1 hI1
           refine (V1.int rfl rfl rfl rfl rfl (ltb rfl) ?_)
           exact rfl
          refine WalkP.step (p := ?pv1482) 9 rfl rfl rfl rfl rfl (⟨_, _, rfl, rfl, ⟨_, _, rfl, rfl, rfl⟩⟩) ?hv1482 ?rest1482
          case hv1482 =>
           intro E1 H1 hI1
           refine (V1.build rfl rfl zk_125 pl_125 rfl rfl (ltb rfl) ?_)
           exact rfl
          refine WalkP.nil ?_
          refine NodeS.branch [10] inNil rfl rfl rfl ⟨?_, trivial⟩
          ·
           refine ⟨_, _, _, _, rfl, rfl, rfl, (⟨_, _, rfl, rfl, rfl⟩), fun E1 => ?_⟩
           refine (V1.buildSliceT (f := encEvent) ([(⟨k, (IntKind.i64.wrap (y1.1 + y4.1))⟩ : Event)] : List Event) rfl rfl esz_93 zk_125 rfl rfl rfl rfl rfl rfl rfl (ltb rfl) ?_)
           intro b35
           refine ⟨_, _, rfl, ?_⟩
           refine WalkP.nil ?_
           refine NodeS.fin inNil rfl rfl rfl (⟨_, _, rfl, rfl, ⟨_, _, rfl, rfl, ⟨_, _, rfl, rfl, ⟨_, _, rfl, rfl, ⟨_, _, rfl, rfl, ⟨_, _, rfl, rfl, rfl⟩⟩⟩⟩⟩⟩) ?_
           refine VO.cons rfl (V1.appendMap (k := 3) (f := encEvent) (l := r_Events0) (m := ([(⟨k, (IntKind.i64.wrap (y1.1 + y4.1))⟩ : Event)] : List Event)) rfl rfl rfl rfl rfl esz_93 eby_93 zk_125 rfl rfl rfl (SrcOf.srMap (k := 0) rfl isl_93) hh4 (ltb rfl) ?_)
           intro b36
           refine VO.cons rfl (V1.fieldRef rfl rfl fo_95_3 rfl (ltb rfl) ?_)
           refine VO.cons rfl (V1.storeRef (k := 4) rfl rfl tyk_93 rfl rfl rfl rfl rfl rfl rfl rfl rfl ?_)
           refine VO.nil ?_
           exact ⟨(((r_Events0 ++ ([(⟨k, (IntKind.i64.wrap (y1.1 + y4.1))⟩ : Event)] : List Event)), y4.2), b36), Option.some.inj hm3, Keeps.mk (ks := [0, 2, 4, 5]) rfl ⟨rfl, rfl, rfl, rfl, trivial⟩ (⟨_, _, rfl, rfl, ⟨_, _, rfl, rfl, ⟨_, _, rfl, rfl, ⟨_, _, rfl, rfl, rfl⟩⟩⟩⟩) rfl⟩
        ·
         refine ⟨_, _, _, _, rfl, rfl, rfl, (⟨_, _, rfl, rfl, ⟨_, _, rfl, rfl, rfl⟩⟩), fun E1 => ?_⟩
         refine (V1.callM 1 (rn + ρ0 + 1) [b30] [.ref bp 3 0 0, .vl (rn + ρ0 + 1) 1 (List.map encInt ([(0 : Int), (1 : Int), (30 : Int), (365 : Int), (1000 : Int)] : List Int))] (p := (bp, ⟨3, [encCur ρ0 y3.2]⟩)) rfl rfl rfl cok_151 rfl rfl ⟨_, _, rfl, .same _, ⟨_, _, rfl, Lend.srMap 0 rfl (fun _ => rfl) (.head _), rfl⟩⟩ (bwCons (k := 0) rfl bwNil) (ok_spec_l1Cur_among hh3) rfl (.inr ⟨(by dsimp only; omega), by rintro _ _ ⟨rfl, rfl⟩; exact ⟨by simp [PV.no, PV.noL, optS_no, noL_iff, nbeq] <;> omega, by intro b ob h; first | exact optH_no (noL_map (fun _ => by simp [PV.no, PV.noL, noL_iff, nbeq]) _) b ob h | (simp at h; obtain ⟨rfl, rfl⟩ := h; exact noL_map (fun _ => by simp [PV.no, PV.noL, noL_iff, nbeq]) _) | (simp at h; obtain ⟨rfl, rfl⟩ := h; simp [PV.no, PV.noL, optS_no, noL_iff, nbeq] <;> omega)⟩⟩) (ltb rfl) ?_)
         rintro _ _ ⟨rfl, rfl⟩
         refine ⟨_, _, rfl, ?_⟩
         refine WalkP.step (p := ?pv1483) 8 rfl rfl rfl rfl rfl (⟨_, _, rfl, rfl, ⟨_, _, rfl, rfl, rfl⟩⟩) ?hv1483 ?rest1483
         case hv1483 =>
          intro E1 H1 hI1
          refine (V1.int rfl rfl rfl rfl rfl (ltb rfl) ?_)
          exact rfl
         refine WalkP.step (p := ?pv1484) 9 rfl rfl rfl rfl rfl (⟨_, _, rfl, rfl, ⟨_, _, rfl, rfl, rfl⟩⟩) ?hv1484 ?rest1484
         case hv1484 =>
          intro E1 H1 hI1
          refine (V1.build rfl rfl zk_125 pl_125 rfl rfl (ltb rfl) ?_)
          exact rfl
         refine WalkP.nil ?_
         refine NodeS.branch [1, 10] inNil rfl rfl rfl ⟨?_, ?_, trivial⟩
         ·
          refine ⟨_, _, _, _, rfl, rfl, rfl, (⟨_, _, rfl, rfl, rfl⟩), fun E1 => ?_⟩
          refine (V1.loadRef (k := 3) rfl rfl tyk_93 rfl rfl rfl rfl rfl (ltb rfl) ?_)
          refine ⟨_, _, rfl, ?_⟩
          refine WalkP.nil ?_
          refine NodeS.branch [10] inNil rfl rfl rfl ⟨?_, trivial⟩
          ·
           refine ⟨_, _, _, _, rfl, rfl, rfl, (⟨_, _, rfl, rfl, rfl⟩), fun E1 => ?_⟩
           refine (V1.buildSliceT (f := encEvent) ([(⟨k, (IntKind.i64.wrap (y1.1 + y4.1))⟩ : Event)] : List Event) rfl rfl esz_93 zk_125 rfl rfl rfl rfl rfl rfl rfl (ltb rfl) ?_)
           intro b37
           refine ⟨_, _, rfl, ?_⟩
           refine WalkP.nil ?_
           refine NodeS.fin inNil rfl rfl rfl (⟨_, _, rfl, rfl, ⟨_, _, rfl, rfl, ⟨_, _, rfl, rfl, ⟨_, _, rfl, rfl, ⟨_, _, rfl, rfl, ⟨_, _, rfl, rfl, rfl⟩⟩⟩⟩⟩⟩) ?_
           refine VO.cons rfl (V1.appendMap (k := 3) (f := encEvent) (l := r_Events0) (m := ([(⟨k, (IntKind.i64.wrap (y1.1 + y4.1))⟩ : Event)] : List Event)) rfl rfl rfl rfl rfl esz_93 eby_93 zk_125 rfl rfl rfl (SrcOf.srMap (k := 0) rfl isl_93) hh4 (ltb rfl) ?_)
           intro b38
           refine VO.cons rfl (V1.fieldRef rfl rfl fo_95_3 rfl (ltb rfl) ?_)
           refine VO.cons rfl (V1.storeRef (k := 4) rfl rfl tyk_93 rfl rfl rfl rfl rfl rfl rfl rfl rfl ?_)
           refine VO.nil ?_
           exact ⟨(((r_Events0 ++ ([(⟨k, (IntKind.i64.wrap (y1.1 + y4.1))⟩ : Event)] : List Event)), y4.2), b38), Option.some.inj hm3, Keeps.mk (ks := [0, 2, 4, 5]) rfl ⟨rfl, rfl, rfl, rfl, trivial⟩ (⟨_, _, rfl, rfl, ⟨_, _, rfl, rfl, ⟨_, _, rfl, rfl, ⟨_, _, rfl, rfl, rfl⟩⟩⟩⟩) rfl⟩
         ·
          refine ⟨_, _, _, _, rfl, rfl, rfl, (⟨_, _, rfl, rfl, rfl⟩), fun E1 => ?_⟩
          refine (V1.buildSliceT (f := encEvent) ([(⟨k, (IntKind.i64.wrap (y1.1 + y4.1))⟩ : Event)] : List Event) rfl rfl esz_93 zk_125 rfl rfl rfl rfl rfl rfl rfl (ltb rfl) ?_)
          intro b39
          refine ⟨_, _, rfl, ?_⟩
          refine WalkP.nil ?_
          refine NodeS.branch [1] inNil rfl rfl rfl ⟨?_, trivial⟩
          ·
           refine ⟨_, _, _, _, rfl, rfl, rfl, (⟨_, _, rfl, rfl, rfl⟩), fun E1 => ?_⟩
           refine (V1.loadRef (k := 4) rfl rfl tyk_93 rfl rfl rfl rfl rfl (ltb rfl) ?_)
           refine ⟨_, _, rfl, ?_⟩
           refine WalkP.nil ?_
           refine NodeS.fin inNil rfl rfl rfl (⟨_, _, rfl, rfl, ⟨_, _, rfl, rfl, ⟨_, _, rfl, rfl, ⟨_, _, rfl, rfl, ⟨_, _, rfl, rfl, ⟨_, _, rfl, rfl, rfl⟩⟩⟩⟩⟩⟩) ?_
           refine VO.cons rfl (V1.appendMap (k := 3) (f := encEvent) (l := r_Events0) (m := ([(⟨k, (IntKind.i64.wrap (y1.1 + y4.1))⟩ : Event)] : List Event)) rfl rfl rfl rfl rfl esz_93 eby_93 zk_125 rfl rfl rfl (SrcOf.srMap (k := 0) rfl isl_93) hh4 (ltb rfl) ?_)
           intro b40
           refine VO.cons rfl (V1.fieldRef rfl rfl fo_95_3 rfl (ltb rfl) ?_)
           refine VO.cons rfl (V1.storeRef (k := 4) rfl rfl tyk_93 rfl rfl rfl rfl rfl rfl rfl rfl rfl ?_)
           refine VO.nil ?_
           exact ⟨(((r_Events0 ++ ([(⟨k, (IntKind.i64.wrap (y1.1 + y4.1))⟩ : Event)] : List Event)), y4.2), b40), Option.some.inj hm3, Keeps.mk (ks := [0, 2, 4, 5]) rfl ⟨rfl, rfl, rfl, rfl, trivial⟩ (⟨_, _, rfl, rfl, ⟨_, _, rfl, rfl, ⟨_, _, rfl, rfl, ⟨_, _, rfl, rfl, rfl⟩⟩⟩⟩) rfl⟩
       ·
        refine ⟨_, _, _, _, rfl, rfl, rfl, (⟨_, _, rfl, rfl, ⟨_, _, rfl, rfl, rfl⟩⟩), fun E1 => ?_⟩
        refine (V1.callM 1 (rn + ρ0 + 1) [b30] [.ref bp 3 0 0, .vl (rn + ρ0 + 1) 1 (List.map encInt ([(0 : Int), (1 : Int), (30 : Int), (365 : Int), (1000 : Int)] : List Int))] (p := (bp, ⟨3, [encCur ρ0 y3.2]⟩)) rfl rfl rfl cok_151 rfl rfl ⟨_, _, rfl, .same _, ⟨_, _, rfl, Lend.srMap 0 rfl (fun _ => rfl) (.head _), rfl⟩⟩ (bwCons (k := 0) rfl bwNil) (ok_spec_l1Cur_among hh3) rfl (.inr ⟨(by dsimp only; omega), by rintro _ _ ⟨rfl, rfl⟩; exact ⟨by simp [PV.no, PV.noL, optS_no, noL_iff, nbeq] <;> omega, by intro b ob h; first | exact optH_no (noL_map (fun _ => by simp [PV.no, PV.noL, noL_iff, nbeq]) _) b ob h | (simp at h; obtain ⟨rfl, rfl⟩ := h; exact noL_map (fun _ => by simp [PV.no, PV.noL, noL_iff, nbeq]) _) | (simp at h; obtain ⟨rfl, rfl⟩ := h; simp [PV.no, PV.noL, optS_no, noL_iff, nbeq] <;> omega)⟩⟩) (ltb rfl) ?_)
        rintro _ _ ⟨rfl, rfl⟩
        refine ⟨_, _, rfl, ?_⟩
        refine WalkP.nil ?_
        refine NodeS.branch [1, 4] inNil rfl rfl rfl ⟨?_, ?_, trivial⟩
        ·
         refine ⟨_, _, _, _, rfl, rfl, rfl, (⟨_, _, rfl, rfl, rfl⟩), fun E1 => ?_⟩
         refine (V1.loadRef (k := 3) rfl rfl tyk_93 rfl rfl rfl rfl rfl (ltb rfl) ?_)
         refine ⟨_, _, rfl, ?_⟩
         refine WalkP.nil ?_
         refine NodeS.branch [4] inNil rfl rfl rfl ⟨?_, trivial⟩
         ·
          refine ⟨_, _, _, _, rfl, rfl, rfl, (⟨_, _, rfl, rfl, rfl⟩), fun E1 => ?_⟩
          refine (V1.loadRef (k := 3) rfl rfl tyk_3 rfl rfl rfl rfl rfl (ltb rfl) ?_)
          refine ⟨_, _, rfl, ?_⟩
          refine WalkP.step (p := ?pv1485) 8 rfl rfl rfl rfl rfl (⟨_, _, rfl, rfl, ⟨_, _, rfl, rfl, rfl⟩⟩) ?hv1485 ?rest1485
          case hv1485 =>
           intro E1 H1 hI1
           refine (V1.int rfl rfl rfl rfl rfl (ltb rfl) ?_)
           exact rfl
          refine WalkP.step (p := ?pv1486) 9 rfl rfl rfl rfl rfl (⟨_, _, rfl, rfl, ⟨_, _, rfl, rfl, rfl⟩⟩) ?hv1486 ?rest1486
          case hv1486 =>
           intro E1 H1 hI1
           refine (V1.build rfl rfl zk_125 pl_125 rfl rfl (ltb rfl) ?_)
           exact rfl
          refine WalkP.nil ?_
          refine NodeS.branch [10] inNil rfl rfl rfl ⟨?_, trivial⟩
          ·
           refine ⟨_, _, _, _, rfl, rfl, rfl, (⟨_, _, rfl, rfl, rfl⟩), fun E1 => ?_⟩
           refine (V1.buildSliceT (f := encEvent) ([(⟨k, (IntKind.i64.wrap (y1.1 + y4.1))⟩ : Event)] : List Event) rfl rfl esz_93 zk_125 rfl rfl rfl rfl rfl rfl rfl (ltb rfl) ?_)
           intro b41
           refine ⟨_, _, rfl, ?_⟩
           refine WalkP.nil ?_
           refine NodeS.fin inNil rfl rfl rfl (⟨_, _, rfl, rfl, ⟨_, _, rfl, rfl, ⟨_, _, rfl, rfl, ⟨_, _, rfl, rfl, ⟨_, _, rfl, rfl, ⟨_, _, rfl, rfl, rfl⟩⟩⟩⟩⟩⟩) ?_
           refine VO.cons rfl (V1.appendMap (k := 3) (f := encEvent) (l := r_Events0) (m := ([(⟨k, (IntKind.i64.wrap (y1.1 + y4.1))⟩ : Event)] : List Event)) rfl rfl rfl rfl rfl esz_93 eby_93 zk_125 rfl rfl rfl (SrcOf.srMap (k := 0) rfl isl_93) hh4 (ltb rfl) ?_)
           intro b42
           refine VO.cons rfl (V1.fieldRef rfl rfl fo_95_3 rfl (ltb rfl) ?_)
           refine VO.cons rfl (V1.storeRef (k := 4) rfl rfl tyk_93 rfl rfl rfl rfl rfl rfl rfl rfl rfl ?_)
           refine VO.nil ?_
           exact ⟨(((r_Events0 ++ ([(⟨k, (IntKind.i64.wrap (y1.1 + y4.1))⟩ : Event)] : List Event)), y4.2), b42), Option.some.inj hm3, Keeps.mk (ks := [0, 2, 4, 5]) rfl ⟨rfl, rfl, rfl, rfl, trivial⟩ (⟨_, _, rfl, rfl, ⟨_, _, rfl, rfl, ⟨_, _, rfl, rfl, ⟨_, _, rfl, rfl, rfl⟩⟩⟩⟩) rfl⟩
        ·
         refine ⟨_, _, _, _, rfl, rfl, rfl, (⟨_, _, rfl, rfl, rfl⟩), fun E1 => ?_⟩
         refine (V1.loadRef (k := 3) rfl rfl tyk_3 rfl rfl rfl rfl rfl (ltb rfl) ?_)
         refine ⟨_, _, rfl, ?_⟩
         refine WalkP.step (p := ?pv1487) 8 rfl rfl rfl rfl rfl (⟨_, _, rfl, rfl, ⟨_, _, rfl, rfl, rfl⟩⟩) ?hv1487 ?rest1487
         case hv1487 =>
          intro E1 H1 hI1
          refine (V1.int rfl rfl rfl rfl rfl (ltb rfl) ?_)
          exact rfl
         refine WalkP.step (p := ?pv1488) 9 rfl rfl rfl rfl rfl (⟨_, _, rfl, rfl, ⟨_, _, rfl, rfl, rfl⟩⟩) ?hv1488 ?rest1488
         case hv1488 =>
          intro E1 H1 hI1
          refine (V1.build rfl rfl zk_125 pl_125 rfl rfl (ltb rfl) ?_)
          exact rfl
         refine WalkP.nil ?_
         refine NodeS.branch [1, 10] inNil rfl rfl rfl ⟨?_, ?_, trivial⟩
         ·
          refine ⟨_, _, _, _, rfl, rfl, rfl, (⟨_, _, rfl, rfl, rfl⟩), fun E1 => ?_⟩
          refine (V1.loadRef (k := 3) rfl rfl tyk_93 rfl rfl rfl rfl rfl (ltb rfl) ?_)
          refine ⟨_, _, rfl, ?_⟩
          refine WalkP.nil ?_
          refine NodeS.branch [10] inNil rfl rfl rfl ⟨?_, trivial⟩
          ·
           refine ⟨_, _, _, _, rfl, rfl, rfl, (⟨_, _, rfl, rfl, rfl⟩), fun E1 => ?_⟩
           refine (V1.buildSliceT (f := encEvent) ([(⟨k, (IntKind.i64.wrap (y1.1 + y4.1))⟩ : Event)] : List Event) rfl rfl esz_93 zk_125 rfl rfl rfl rfl rfl rfl rfl (ltb rfl) ?_)
           intro b43
           refine ⟨_, _, rfl, ?_⟩
           refine WalkP.nil ?_
           refine NodeS.fin inNil rfl rfl rfl (⟨_, _, rfl, rfl, ⟨_, _, rfl, rfl, ⟨_, _, rfl, rfl, ⟨_, _, rfl, rfl, ⟨_, _, rfl, rfl, ⟨_, _, rfl, rfl, rfl⟩⟩⟩⟩⟩⟩) ?_
           refine VO.cons rfl (V1.appendMap (k := 3) (f := encEvent) (l := r_Events0) (m := ([(⟨k, (IntKind.i64.wrap (y1.1 + y4.1))⟩ : Event)] : List Event)) rfl rfl rfl rfl rfl esz_93 eby_93 zk_125 rfl rfl rfl (SrcOf.srMap (k := 0) rfl isl_93) hh4 (ltb rfl) ?_)
           intro b44
           refine VO.cons rfl (V1.fieldRef rfl rfl fo_95_3 rfl (ltb rfl) ?_)
           refine VO.cons rfl (V1.storeRef (k := 4) rfl rfl tyk_93 rfl rfl rfl rfl rfl rfl rfl rfl rfl ?_)
           refine VO.nil ?_
           exact ⟨(((r_Events0 ++ ([(⟨k, (IntKind.i64.wrap (y1.1 + y4.1))⟩ : Event)] : List Event)), y4.2), b44), Option.some.inj hm3, Keeps.mk (ks := [0, 2, 4, 5]) rfl ⟨rfl, rfl, rfl, rfl, trivial⟩ (⟨_, _, rfl, rfl, ⟨_, _, rfl, rfl, ⟨_, _, rfl, rfl, ⟨_, _, rfl, rfl, rfl⟩⟩⟩⟩) rfl⟩
         ·
          refine ⟨_, _, _, _, rfl, rfl, rfl, (⟨_, _, rfl, rfl, rfl⟩), fun E1 => ?_⟩
          refine (V1.buildSliceT (f := encEvent) ([(⟨k, (IntKind.i64.wrap (y1.1 + y4.1))⟩ : Event)] : List Event) rfl rfl esz_93 zk_125 rfl rfl rfl rfl rfl rfl rfl (ltb rfl) ?_)
          intro b45
          refine ⟨_, _, rfl, ?_⟩
          refine WalkP.nil ?_
          refine NodeS.branch [1] inNil rfl rfl rfl ⟨?_, trivial⟩
          ·
           refine ⟨_, _, _, _, rfl, rfl, rfl, (⟨_, _, rfl, rfl, rfl⟩), fun E1 => ?_⟩
           refine (V1.loadRef (k := 4) rfl rfl tyk_93 rfl rfl rfl rfl rfl (ltb rfl) ?_)
           refine ⟨_, _, rfl, ?_⟩
           refine WalkP.nil ?_
           refine NodeS.fin inNil rfl rfl rfl (⟨_, _, rfl, rfl, ⟨_, _, rfl, rfl, ⟨_, _, rfl, rfl, ⟨_, _, rfl, rfl, ⟨_, _, rfl, rfl, ⟨_, _, rfl, rfl, rfl⟩⟩⟩⟩⟩⟩) ?_
           refine VO.cons rfl (V1.appendMap (k := 3) (f := encEvent) (l := r_Events0) (m := ([(⟨k, (IntKind.i64.wrap (y1.1 + y4.1))⟩ : Event)] : List Event)) rfl rfl rfl rfl rfl esz_93 eby_93 zk_125 rfl rfl rfl (SrcOf.srMap (k := 0) rfl isl_93) hh4 (ltb rfl) ?_)
           intro b46
           refine VO.cons rfl (V1.fieldRef rfl rfl fo_95_3 rfl (ltb rfl) ?_)
           refine VO.cons rfl (V1.storeRef (k := 4) rfl rfl tyk_93 rfl rfl rfl rfl rfl rfl rfl rfl rfl ?_)
           refine VO.nil ?_
           exact ⟨(((r_Events0 ++ ([(⟨k, (IntKind.i64.wrap (y1.1 + y4.1))⟩ : Event)] : List Event)), y4.2), b46), Option.some.inj hm3, Keeps.mk (ks := [0, 2, 4, 5]) rfl ⟨rfl, rfl, rfl, rfl, trivial⟩ (⟨_, _, rfl, rfl, ⟨_, _, rfl, rfl, ⟨_, _, rfl, rfl, ⟨_, _, rfl, rfl, rfl⟩⟩⟩⟩) rfl⟩
     ·
      rintro ⟨⟨r_Events2, c_2⟩, b11⟩ rfl
      try dsimp only at hm2
      exact ⟨((r_Events2, c_2), b11), Option.some.inj hm2, Keeps.mk (ks := [0, 1, 2, 3]) rfl ⟨rfl, rfl, rfl, rfl, trivial⟩ (⟨_, _, rfl, rfl, ⟨_, _, rfl, rfl, ⟨_, _, rfl, rfl, ⟨_, _, rfl, rfl, rfl⟩⟩⟩⟩) rfl⟩
    ·
     replace hm2 := cond_f hc1 hm2
     refine V.skip ?_
     exact ⟨((r_Events0, y3.2), b6), Option.some.inj hm2, Keeps.mk (ks := [1, 0, 2, 3]) rfl ⟨rfl, rfl, rfl, rfl, trivial⟩ (⟨_, _, rfl, rfl, ⟨_, _, rfl, rfl, ⟨_, _, rfl, rfl, ⟨_, _, rfl, rfl, rfl⟩⟩⟩⟩) rfl⟩
   ·
    rintro ⟨⟨r_Events1, c_1⟩, b7⟩ rfl
    try dsimp only at hm1
    refine V.region ?_
    refine VO.cons rfl (V1.move rfl rfl rfl (ltb rfl) ?_)
    refine VO.cons rfl (V1.int rfl rfl rfl rfl rfl (ltb rfl) ?_)
    refine VO.cons rfl (V1.assign rfl rfl rfl (ltb rfl) ?_)
    refine VO.nil ?_
    exact ⟨(m0, ((IntKind.i64.wrap (k + (1 : Int))), r_Events1, c_1), b7), hl1 _ (Option.some.inj hm1).symm, Nat.lt_succ_self _, Keeps.mk (ks := [0, 1, 2, 3]) rfl ⟨rfl, rfl, rfl, rfl, trivial⟩ (⟨_, _, rfl, rfl, ⟨_, _, rfl, rfl, ⟨_, _, rfl, rfl, ⟨_, _, rfl, rfl, rfl⟩⟩⟩⟩) rfl⟩
  ·
   replace hm1 := cond_f hc0 hm1
   refine V.exit ?_
   obtain rfl := hr1 _ (Option.some.inj hm1).symm
   exact ⟨((r_Events0, c_0), b6), rfl, Keeps.mk (ks := [0, 1, 2, 3]) rfl ⟨rfl, rfl, rfl, trivial⟩ (⟨_, _, rfl, rfl, ⟨_, _, rfl, rfl, ⟨_, _, rfl, rfl, ⟨_, _, rfl, rfl, rfl⟩⟩⟩⟩) rfl⟩
 ·
  rintro ⟨⟨r_Events, c_⟩, b5⟩ rfl
  try dsimp only at hm0
  refine V.seq ?_
  refine V.seq ?_
  replace hm0 := bindO hm0; rcases hm0 with ⟨y5, hh5, hm0⟩
  refine V.region ?_
  refine VO.cons rfl (V1.move rfl rfl rfl (ltb rfl) ?_)
  refine VO.cons rfl (V1.callM 1 (rn + ρ0 + 1) [] [.ref bp 3 0 0, .int .i64 (48 : Int)] (p := (bp, ⟨3, [encCur ρ0 c_]⟩)) rfl rfl rfl cok_152 rfl rfl ⟨_, _, rfl, .same _, ⟨_, _, rfl, .same _, rfl⟩⟩ bwNil (ok_spec_l1Cur_pick hh5) rfl (.inl rfl) (ltb rfl) ?_)
  rintro _ _ ⟨rfl, rfl⟩
  refine VO.nil ?_
  replace hm0 := bindO hm0; rcases hm0 with ⟨j2, hm1, hm0⟩
  refine V.cutT (D := (Int × Int × List Event × Cur) × (Nat)) (fun ⟨⟨r_Series, r_Made, r_Events3, c_3⟩, b47⟩ => ⟨64, [(4, .ref b0 4 0 0), (5, .ref b4 4 0 0)], [(b47, ⟨2, List.map encEvent r_Events3⟩), (bp, ⟨3, [encCur ρ0 c_3]⟩), (b4, ⟨4, [.agg [.int .i64 id_, .int .i64 r_Series, .int .i64 r_Made, .sref b47 2 0 (List.length r_Events3)]]⟩), (b0, ⟨4, [.agg [.int .i64 (0 : Int), .int .i64 (0 : Int), .int .i64 (0 : Int), .nils]]⟩)]⟩) (fun ⟨⟨r_Series, r_Made, r_Events3, c_3⟩, b47⟩ => ((r_Series, r_Made, r_Events3, c_3) = j2)) ?_ ?_
  ·
   refine V.block ?_
   refine V.seq ?_
   refine V.region ?_
   refine VO.cons rfl (V1.int rfl rfl rfl rfl rfl (ltb rfl) ?_)
   refine VO.cons rfl (V1.assign rfl rfl rfl (ltb rfl) ?_)
   refine VO.nil ?_
   refine V.cond rfl (fun hc2 => ?_) (fun hc2 => ?_)
   ·
    replace hm1 := cond_t hc2 hm1
    replace hm1 := bindO hm1; rcases hm1 with ⟨y6, hh6, hm1⟩
    refine V.region ?_
    refine VO.cons rfl (V1.move rfl rfl rfl (ltb rfl) ?_)
    refine VO.cons rfl (V1.buildSliceT (f := encInt) ([(0 : Int), (100 : Int)] : List Int) rfl rfl esz_34 zk_3 rfl rfl rfl rfl rfl rfl rfl (ltb rfl) ?_)
    intro b48
    refine VO.cons rfl (V1.callM 1 (rn + ρ0 + 1) [b48] [.ref bp 3 0 0, .vl (rn + ρ0 + 1) 1 (List.map encInt ([(0 : Int), (100 : Int)] : List Int))] (p := (bp, ⟨3, [encCur ρ0 y5.2]⟩)) rfl rfl rfl cok_151 rfl rfl ⟨_, _, rfl, .same _, ⟨_, _, rfl, Lend.srMap 0 rfl (fun _ => rfl) (.head _), rfl⟩⟩ (bwCons (k := 0) rfl bwNil) (ok_spec_l1Cur_among hh6) rfl (.inr ⟨(by dsimp only; omega), by rintro _ _ ⟨rfl, rfl⟩; exact ⟨by simp [PV.no, PV.noL, optS_no, noL_iff, nbeq] <;> omega, by intro b ob h; first | exact optH_no (noL_map (fun _ => by simp [PV.no, PV.noL, noL_iff, nbeq]) _) b ob h | (simp at h; obtain ⟨rfl, rfl⟩ := h; exact noL_map (fun _ => by simp [PV.no, PV.noL, noL_iff, nbeq]) _) | (simp at h; obtain ⟨rfl, rfl⟩ := h; simp [PV.no, PV.noL, optS_no, noL_iff, nbeq] <;> omega)⟩⟩) (ltb rfl) ?_)
    rintro _ _ ⟨rfl, rfl⟩
    refine VO.cons rfl (V1.fieldRef rfl rfl fo_95_1 rfl (ltb rfl) ?_)
    refine VO.cons rfl (V1.storeRef (k := 3) rfl rfl tyk_3 rfl rfl rfl rfl rfl rfl rfl rfl rfl ?_)
    refine VO.nil ?_
    exact ⟨((y6.1, y1.1, r_Events, y6.2), b5), Option.some.inj hm1, Keeps.mk (ks := [2, 0, 3, 4]) rfl ⟨rfl, rfl, trivial⟩ (⟨_, _, rfl, rfl, ⟨_, _, rfl, rfl, ⟨_, _, rfl, rfl, ⟨_, _, rfl, rfl, rfl⟩⟩⟩⟩) rfl⟩
   ·
    replace hm1 := cond_f hc2 hm1
    refine V.seq ?_
    refine V.region ?_
    refine VO.cons rfl (V1.int rfl rfl rfl rfl rfl (ltb rfl) ?_)
    refine VO.cons rfl (V1.assign rfl rfl rfl (ltb rfl) ?_)
    refine VO.nil ?_
    refine V.keep 64 [0, 4, 5, 36, 43] [0, 1, 2, 3] (E0 := [(0, .ref bp 3 0 0), (4, .ref b0 4 0 0), (5, .ref b4 4 0 0), (36, .int .i64 y5.1), (43, .bool (y5.1 == (1 : Int)))]) (H0 := [(bp, ⟨3, [encCur ρ0 y5.2]⟩), (b5, ⟨2, List.map encEvent r_Events⟩), (b4, ⟨4, [.agg [.int .i64 id_, .int .i64 y0.1, .int .i64 y1.1, .sref b5 2 0 (List.length r_Events)]]⟩), (b0, ⟨4, [.agg [.int .i64 (0 : Int), .int .i64 (0 : Int), .int .i64 (0 : Int), .nils]]⟩)]) rfl (⟨_, _, rfl, rfl, ⟨_, _, rfl, rfl, ⟨_, _, rfl, rfl, ⟨_, _, rfl, rfl, ⟨_, _, rfl, rfl, rfl⟩⟩⟩⟩⟩) (⟨_, _, rfl, rfl, ⟨_, _, rfl, rfl, ⟨_, _, rfl, rfl, ⟨_, _, rfl, rfl, rfl⟩⟩⟩⟩) rfl ?_
    refine V.cond rfl (fun hc3 => ?_) (fun hc3 => ?_)
    ·
     replace hm1 := cond_t hc3 hm1
     replace hm1 := bindO hm1; rcases hm1 with ⟨y7, hh7, hm1⟩
     refine V.region ?_
     refine VO.cons rfl (V1.move rfl rfl rfl (ltb rfl) ?_)
     refine VO.cons rfl (V1.buildSliceT (f := encInt) ([(-1 : Int), (20001 : Int), (19999 : Int)] : List Int) rfl rfl esz_34 zk_3 rfl rfl rfl rfl rfl rfl rfl (ltb rfl) ?_)
     intro b49
     refine VO.cons rfl (V1.callM 1 (rn + ρ0 + 1) [b49] [.ref bp 3 0 0, .vl (rn + ρ0 + 1) 1 (List.map encInt ([(-1 : Int), (20001 : Int), (19999 : Int)] : List Int))] (p := (bp, ⟨3, [encCur ρ0 y5.2]⟩)) rfl rfl rfl cok_151 rfl rfl ⟨_, _, rfl, .same _, ⟨_, _, rfl, Lend.srMap 0 rfl (fun _ => rfl) (.head _), rfl⟩⟩ (bwCons (k := 0) rfl bwNil) (ok_spec_l1Cur_among hh7) rfl (.inr ⟨(by dsimp only; omega), by rintro _ _ ⟨rfl, rfl⟩; exact ⟨by simp [PV.no, PV.noL, optS_no, noL_iff, nbeq] <;> omega, by intro b ob h; first | exact optH_no (noL_map (fun _ => by simp [PV.no, PV.noL, noL_iff, nbeq]) _) b ob h | (simp at h; obtain ⟨rfl, rfl⟩ := h; exact noL_map (fun _ => by simp [PV.no, PV.noL, noL_iff, nbeq]) _) | (simp at h; obtain ⟨rfl, rfl⟩ := h; simp [PV.no, PV.noL, optS_no, noL_iff, nbeq] <;> omega)⟩⟩) (ltb rfl) ?_)
     rintro _ _ ⟨rfl, rfl⟩
     refine VO.cons rfl (V1.fieldRef rfl rfl fo_95_2 rfl (ltb rfl) ?_)
     refine VO.cons rfl (V1.storeRef (k := 3) rfl rfl tyk_3 rfl rfl rfl rfl rfl rfl rfl rfl rfl ?_)
     refine VO.nil ?_
     exact ⟨((y0.1, y7.1, r_Events, y7.2), b5), Option.some.inj hm1, Keeps.mk (ks := [2, 0, 3, 4]) rfl ⟨rfl, rfl, trivial⟩ (⟨_, _, rfl, rfl, ⟨_, _, rfl, rfl, ⟨_, _, rfl, rfl, ⟨_, _, rfl, rfl, rfl⟩⟩⟩⟩) rfl⟩
    ·
     replace hm1 := cond_f hc3 hm1
     refine V.seq ?_
     refine V.region ?_
     refine VO.cons rfl (V1.int rfl rfl rfl rfl rfl (ltb rfl) ?_)
     refine VO.cons rfl (V1.assign rfl rfl rfl (ltb rfl) ?_)
     refine VO.nil ?_
     refine V.cond rfl (fun hc4 => ?_) (fun hc4 => ?_)
     ·
      replace hm1 := cond_t hc4 hm1
      replace hm1 := bindO hm1; rcases hm1 with ⟨y8, hh8, hm1⟩
      replace hm1 := bindO hm1; rcases hm1 with ⟨y9, hh9, hm1⟩
      replace hm1 := asrt_some hm1; rcases hm1 with ⟨hh10, hm1⟩
      replace hm1 := bindO hm1; rcases hm1 with ⟨j3, hm2, hm1⟩
      refine V.cutT (D := (List Event × Cur) × (Nat)) (fun ⟨⟨r_Events4, o⟩, b54⟩ => ⟨64, [(4, .ref b0 4 0 0), (5, .ref b4 4 0 0)], [(b54, ⟨2, List.map encEvent r_Events4⟩), (bp, ⟨3, [encCur ρ0 o]⟩), (b4, ⟨4, [.agg [.int .i64 id_, .int .i64 y0.1, .int .i64 y1.1, .sref b54 2 0 (List.length r_Events4)]]⟩), (b0, ⟨4, [.agg [.int .i64 (0 : Int), .int .i64 (0 : Int), .int .i64 (0 : Int), .nils]]⟩)]⟩) (fun ⟨⟨r_Events4, o⟩, b54⟩ => ((r_Events4, o) = j3)) ?_ ?_
      ·
       refine V.regionS [] 64 10 [⟨[(5, none)], false⟩, ⟨[(51, some 0)], true⟩, ⟨[(0, none)], false⟩, ⟨[], true⟩, ⟨[(53, some 2), (54, some 3)], true⟩, ⟨[(0, none)], false⟩, ⟨[], true⟩, ⟨[(56, some 5), (57, some 6)], true⟩, ⟨[(55, some 4), (58, some 7)], false⟩, ⟨[(59, some 8)], true⟩] [(4, none), (5, none), (52, some 1), (60, some 9)] 6 (⟨_, rfl, ⟨_, rfl, ⟨_, rfl, ⟨_, rfl, ⟨_, rfl, ⟨_, rfl, ⟨_, rfl, ⟨_, rfl, ⟨_, rfl, ⟨_, rfl, ⟨rfl, rfl⟩⟩⟩⟩⟩⟩⟩⟩⟩⟩⟩) mixed_orders rfl (by decide +kernel) ?_
       refine WalkP.step (p := ?pv1543) 0 rfl rfl rfl rfl rfl (⟨_, _, rfl, rfl, rfl⟩) ?hv1543 ?rest1543
       case hv1543 =>
        intro E1 H1 hI1
        refine (V1.fieldRef rfl rfl fo_95_3 rfl (ltb rfl) ?_)
        exact rfl
       refine WalkP.step (p := ?pv1544) 2 rfl rfl rfl rfl rfl (⟨_, _, rfl, rfl, rfl⟩) ?hv1544 ?rest1544
       case hv1544 =>
        intro E1 H1 hI1
        refine (V1.move rfl rfl rfl (ltb rfl) ?_)
        exact rfl
       refine WalkP.step (p := ?pv1545) 5 rfl rfl rfl rfl rfl (⟨_, _, rfl, rfl, rfl⟩) ?hv1545 ?rest1545
       case hv1545 =>
        intro E1 H1 hI1
        refine (V1.move rfl rfl rfl (ltb rfl) ?_)
        exact rfl
       refine WalkP.nil ?_
       refine NodeS.branch [1, 3, 6] inNil rfl rfl rfl ⟨?_, ?_, ?_, trivial⟩
       ·
        refine ⟨_, _, _, _, rfl, rfl, rfl, (⟨_, _, rfl, rfl, rfl⟩), fun E1 => ?_⟩
        refine (V1.loadRef (k := 2) rfl rfl tyk_93 rfl rfl rfl rfl rfl (ltb rfl) ?_)
        refine ⟨_, _, rfl, ?_⟩
        refine WalkP.nil ?_
        refine NodeS.branch [3, 6] inNil rfl rfl rfl ⟨?_, ?_, trivial⟩
        ·
         refine ⟨_, _, _, _, rfl, rfl, rfl, (rfl), fun E1 => ?_⟩
         refine (V1.buildSliceT (f := encInt) ([(1 : Int), (9 : Int), (10 : Int)] : List Int) rfl rfl esz_34 zk_3 rfl rfl rfl rfl rfl rfl rfl (ltb rfl) ?_)
         intro b55
         refine ⟨_, _, rfl, ?_⟩
         refine WalkP.nil ?_
         refine NodeS.branch [4, 6] inNil rfl rfl rfl ⟨?_, ?_, trivial⟩
         ·
          refine ⟨_, _, _, _, rfl, rfl, rfl, (⟨_, _, rfl, rfl, ⟨_, _, rfl, rfl, rfl⟩⟩), fun E1 => ?_⟩
          refine (V1.callM 1 (rn + ρ0 + 1) [b55] [.ref bp 3 0 0, .vl (rn + ρ0 + 1) 1 (List.map encInt ([(1 : Int), (9 : Int), (10 : Int)] : List Int))] (p := (bp, ⟨3, [encCur ρ0 y5.2]⟩)) rfl rfl rfl cok_151 rfl rfl ⟨_, _, rfl, .same _, ⟨_, _, rfl, Lend.srMap 0 rfl (fun _ => rfl) (.head _), rfl⟩⟩ (bwCons (k := 0) rfl bwNil) (ok_spec_l1Cur_among hh8) rfl (.inr ⟨(by dsimp only; omega), by rintro _ _ ⟨rfl, rfl⟩; exact ⟨by simp [PV.no, PV.noL, optS_no, noL_iff, nbeq] <;> omega, by intro b ob h; first | exact optH_no (noL_map (fun _ => by simp [PV.no, PV.noL, noL_iff, nbeq]) _) b ob h | (simp at h; obtain ⟨rfl, rfl⟩ := h; exact noL_map (fun _ => by simp [PV.no, PV.noL, noL_iff, nbeq]) _) | (simp at h; obtain ⟨rfl, rfl⟩ := h; simp [PV.no, PV.noL, optS_no, noL_iff, nbeq] <;> omega)⟩⟩) (ltb rfl) ?_)
          rintro _ _ ⟨rfl, rfl⟩
          refine ⟨_, _, rfl, ?_⟩
          refine WalkP.nil ?_
          refine NodeS.branch [6] inNil rfl rfl rfl ⟨?_, trivial⟩
          ·
           refine ⟨_, _, _, _, rfl, rfl, rfl, (rfl), fun E1 => ?_⟩
           refine (V1.buildSliceT (f := encInt) ([(0 : Int), (20000 : Int)] : List Int) rfl rfl esz_34 zk_3 rfl rfl rfl rfl rfl rfl rfl (ltb rfl) ?_)
           intro b56
           refine ⟨_, _, rfl, ?_⟩
           refine WalkP.nil ?_
           refine NodeS.branch [7] inNil rfl rfl rfl ⟨?_, trivial⟩
           ·
            refine ⟨_, _, _, _, rfl, rfl, rfl, (⟨_, _, rfl, rfl, ⟨_, _, rfl, rfl, rfl⟩⟩), fun E1 => ?_⟩
            refine (V1.callM 1 (rn + ρ0 + 1) [b56] [.ref bp 3 0 0, .vl (rn + ρ0 + 1) 1 (List.map encInt ([(0 : Int), (20000 : Int)] : List Int))] (p := (bp, ⟨3, [encCur ρ0 y8.2]⟩)) rfl rfl rfl cok_151 rfl rfl ⟨_, _, rfl, .same _, ⟨_, _, rfl, Lend.srMap 0 rfl (fun _ => rfl) (.head _), rfl⟩⟩ (bwCons (k := 0) rfl bwNil) (ok_spec_l1Cur_among hh9) rfl (.inr ⟨(by dsimp only; omega), by rintro _ _ ⟨rfl, rfl⟩; exact ⟨by simp [PV.no, PV.noL, optS_no, noL_iff, nbeq] <;> omega, by intro b ob h; first | exact optH_no (noL_map (fun _ => by simp [PV.no, PV.noL, noL_iff, nbeq]) _) b ob h | (simp at h; obtain ⟨rfl, rfl⟩ := h; exact noL_map (fun _ => by simp [PV.no, PV.noL, noL_iff, nbeq]) _) | (simp at h; obtain ⟨rfl, rfl⟩ := h; simp [PV.no, PV.noL, optS_no, noL_iff, nbeq] <;> omega)⟩⟩) (ltb rfl) ?_)
            rintro _ _ ⟨rfl, rfl⟩
            refine ⟨_, _, rfl, ?_⟩
            refine WalkP.step (p := ?pv1546) 8 rfl rfl rfl rfl rfl (⟨_, _, rfl, rfl, ⟨_, _, rfl, rfl, rfl⟩⟩) ?hv1546 ?rest1546
            case hv1546 =>
             intro E1 H1 hI1
             refine (V1.build rfl rfl zk_125 pl_125 rfl rfl (ltb rfl) ?_)
             exact rfl
            refine WalkP.nil ?_
            refine NodeS.branch [9] inNil rfl rfl rfl ⟨?_, trivial⟩
            ·
             refine ⟨_, _, _, _, rfl, rfl, rfl, (⟨_, _, rfl, rfl, rfl⟩), fun E1 => ?_⟩
             refine (V1.buildSliceT (f := encEvent) ([(⟨y8.1, y9.1⟩ : Event)] : List Event) rfl rfl esz_93 zk_125 rfl rfl rfl rfl rfl rfl rfl (ltb rfl) ?_)
             intro b57
             refine ⟨_, _, rfl, ?_⟩
             refine WalkP.nil ?_
             refine NodeS.fin inNil rfl rfl rfl (⟨_, _, rfl, rfl, ⟨_, _, rfl, rfl, ⟨_, _, rfl, rfl, ⟨_, _, rfl, rfl, rfl⟩⟩⟩⟩) ?_
             refine VO.cons rfl (V1.appendMap (k := 4) (f := encEvent) (l := r_Events) (m := ([(⟨y8.1, y9.1⟩ : Event)] : List Event)) rfl rfl rfl rfl rfl esz_93 eby_93 zk_125 rfl rfl rfl (SrcOf.srMap (k := 0) rfl isl_93) hh10 (ltb rfl) ?_)
             intro b58
             refine VO.cons rfl (V1.fieldRef rfl rfl fo_95_3 rfl (ltb rfl) ?_)
             refine VO.cons rfl (V1.storeRef (k := 5) rfl rfl tyk_93 rfl rfl rfl rfl rfl rfl rfl rfl rfl ?_)
             refine VO.nil ?_
             exact ⟨(((r_Events ++ ([(⟨y8.1, y9.1⟩ : Event)] : List Event)), y9.2), b58), Option.some.inj hm2, Keeps.mk (ks := [0, 2, 5, 6]) rfl ⟨rfl, rfl, trivial⟩ (⟨_, _, rfl, rfl, ⟨_, _, rfl, rfl, ⟨_, _, rfl, rfl, ⟨_, _, rfl, rfl, rfl⟩⟩⟩⟩) rfl⟩
         ·
          refine ⟨_, _, _, _, rfl, rfl, rfl, (rfl), fun E1 => ?_⟩
          refine (V1.buildSliceT (f := encInt) ([(0 : Int), (20000 : Int)] : List Int) rfl rfl esz_34 zk_3 rfl rfl rfl rfl rfl rfl rfl (ltb rfl) ?_)
          intro b59
          refine ⟨_, _, rfl, ?_⟩
          refine WalkP.nil ?_
          refine NodeS.branch [4] inNil rfl rfl rfl ⟨?_, trivial⟩
          ·
           refine ⟨_, _, _, _, rfl, rfl, rfl, (⟨_, _, rfl, rfl, ⟨_, _, rfl, rfl, rfl⟩⟩), fun E1 => ?_⟩
           refine (V1.callM 2 (rn + ρ0 + 1) [b55] [.ref bp 3 0 0, .vl (rn + ρ0 + 1) 1 (List.map encInt ([(1 : Int), (9 : Int), (10 : Int)] : List Int))] (p := (bp, ⟨3, [encCur ρ0 y5.2]⟩)) rfl rfl rfl cok_151 rfl rfl ⟨_, _, rfl, .same _, ⟨_, _, rfl, Lend.srMap 1 rfl (fun _ => rfl) (.head _), rfl⟩⟩ (bwCons (k := 1) rfl bwNil) (ok_spec_l1Cur_among hh8) rfl (.inr ⟨(by dsimp only; omega), by rintro _ _ ⟨rfl, rfl⟩; exact ⟨by simp [PV.no, PV.noL, optS_no, noL_iff, nbeq] <;> omega, by intro b ob h; first | exact optH_no (noL_map (fun _ => by simp [PV.no, PV.noL, noL_iff, nbeq]) _) b ob h | (simp at h; obtain ⟨rfl, rfl⟩ := h; exact noL_map (fun _ => by simp [PV.no, PV.noL, noL_iff, nbeq]) _) | (simp at h; obtain ⟨rfl, rfl⟩ := h; simp [PV.no, PV.noL, optS_no, noL_iff, nbeq] <;> omega)⟩⟩) (ltb rfl) ?_)
           rintro _ _ ⟨rfl, rfl⟩
           refine ⟨_, _, rfl, ?_⟩
           refine WalkP.nil ?_
           refine NodeS.branch [7] inNil rfl rfl rfl ⟨?_, trivial⟩
           ·
            refine ⟨_, _, _, _, rfl, rfl, rfl, (⟨_, _, rfl, rfl, ⟨_, _, rfl, rfl, rfl⟩⟩), fun E1 => ?_⟩
            refine (V1.callM 0 (rn + ρ0 + 1) [b59] [.ref bp 3 0 0, .vl (rn + ρ0 + 1) 1 (List.map encInt ([(0 : Int), (20000 : Int)] : List Int))] (p := (bp, ⟨3, [encCur ρ0 y8.2]⟩)) rfl rfl rfl cok_151 rfl rfl ⟨_, _, rfl, .same _, ⟨_, _, rfl, Lend.srMap 1 rfl (fun _ => rfl) (.head _), rfl⟩⟩ (bwCons (k := 0) rfl bwNil) (ok_spec_l1Cur_among hh9) rfl (.inr ⟨(by dsimp only; omega), by rintro _ _ ⟨rfl, rfl⟩; exact ⟨by simp [PV.no, PV.noL, optS_no, noL_iff, nbeq] <;> omega, by intro b ob h; first | exact optH_no (noL_map (fun _ => by simp [PV.no, PV.noL, noL_iff, nbeq]) _) b ob h | (simp at h; obtain ⟨rfl, rfl⟩ := h; exact noL_map (fun _ => by simp [PV.no, PV.noL, noL_iff, nbeq]) _) | (simp at h; obtain ⟨rfl, rfl⟩ := h; simp [PV.no, PV.noL, optS_no, noL_iff, nbeq] <;> omega)⟩⟩) (ltb rfl) ?_)
            rintro _ _ ⟨rfl, rfl⟩
            refine ⟨_, _, rfl, ?_⟩
            refine WalkP.step (p := ?pv1547) 8 rfl rfl rfl rfl rfl (⟨_, _, rfl, rfl, ⟨_, _, rfl, rfl, rfl⟩⟩) ?hv1547 ?rest1547
            case hv1547 =>
             intro E1 H1 hI1
             refine (V1.build rfl rfl zk_125 pl_125 rfl rfl (ltb rfl) ?_)
             exact rfl
            refine WalkP.nil ?_
            refine NodeS.branch [9] inNil rfl rfl rfl ⟨?_, trivial⟩
            ·
             refine ⟨_, _, _, _, rfl, rfl, rfl, (⟨_, _, rfl, rfl, rfl⟩), fun E1 => ?_⟩
             refine (V1.buildSliceT (f := encEvent) ([(⟨y8.1, y9.1⟩ : Event)] : List Event) rfl rfl esz_93 zk_125 rfl rfl rfl rfl rfl rfl rfl (ltb rfl) ?_)
             intro b60
             refine ⟨_, _, rfl, ?_⟩
             refine WalkP.nil ?_
             refine NodeS.fin inNil rfl rfl rfl (⟨_, _, rfl, rfl, ⟨_, _, rfl, rfl, ⟨_, _, rfl, rfl, ⟨_, _, rfl, rfl, rfl⟩⟩⟩⟩) ?_
             refine VO.cons rfl (V1.appendMap (k := 4) (f := encEvent) (l := r_Events) (m := ([(⟨y8.1, y9.1⟩ : Event)] : List Event)) rfl rfl rfl rfl rfl esz_93 eby_93 zk_125 rfl rfl rfl (SrcOf.srMap (k := 0) rfl isl_93) hh10 (ltb rfl) ?_)
             intro b61
             refine VO.cons rfl (V1.fieldRef rfl rfl fo_95_3 rfl (ltb rfl) ?_)
             refine VO.cons rfl (V1.storeRef (k := 5) rfl rfl tyk_93 rfl rfl rfl rfl rfl rfl rfl rfl rfl ?_)
             refine VO.nil ?_
             exact ⟨(((r_Events ++ ([(⟨y8.1, y9.1⟩ : Event)] : List Event)), y9.2), b61), Option.some.inj hm2, Keeps.mk (ks := [0, 2, 5, 6]) rfl ⟨rfl, rfl, trivial⟩ (⟨_, _, rfl, rfl, ⟨_, _, rfl, rfl, ⟨_, _, rfl, rfl, ⟨_, _, rfl, rfl, rfl⟩⟩⟩⟩) rfl⟩
        ·
         refine ⟨_, _, _, _, rfl, rfl, rfl, (rfl), fun E1 => ?_⟩
         refine (V1.buildSliceT (f := encInt) ([(0 : Int), (20000 : Int)] : List Int) rfl rfl esz_34 zk_3 rfl rfl rfl rfl rfl rfl rfl (ltb rfl) ?_)
         intro b62
         refine ⟨_, _, rfl, ?_⟩
         refine WalkP.nil ?_
         refine NodeS.branch [3] inNil rfl rfl rfl ⟨?_, trivial⟩
         ·
          refine ⟨_, _, _, _, rfl, rfl, rfl, (rfl), fun E1 => ?_⟩
          refine (V1.buildSliceT (f := encInt) ([(1 : Int), (9 : Int), (10 : Int)] : List Int) rfl rfl esz_34 zk_3 rfl rfl rfl rfl rfl rfl rfl (ltb rfl) ?_)
          intro b63
          refine ⟨_, _, rfl, ?_⟩
          refine WalkP.nil ?_
          refine NodeS.branch [4] inNil rfl rfl rfl ⟨?_, trivial⟩
          ·
           refine ⟨_, _, _, _, rfl, rfl, rfl, (⟨_, _, rfl, rfl, ⟨_, _, rfl, rfl, rfl⟩⟩), fun E1 => ?_⟩
           refine (V1.callM 2 (rn + ρ0 + 1) [b63] [.ref bp 3 0 0, .vl (rn + ρ0 + 1) 1 (List.map encInt ([(1 : Int), (9 : Int), (10 : Int)] : List Int))] (p := (bp, ⟨3, [encCur ρ0 y5.2]⟩)) rfl rfl rfl cok_151 rfl rfl ⟨_, _, rfl, .same _, ⟨_, _, rfl, Lend.srMap 0 rfl (fun _ => rfl) (.head _), rfl⟩⟩ (bwCons (k := 0) rfl bwNil) (ok_spec_l1Cur_among hh8) rfl (.inr ⟨(by dsimp only; omega), by rintro _ _ ⟨rfl, rfl⟩; exact ⟨by simp [PV.no, PV.noL, optS_no, noL_iff, nbeq] <;> omega, by intro b ob h; first | exact optH_no (noL_map (fun _ => by simp [PV.no, PV.noL, noL_iff, nbeq]) _) b ob h | (simp at h; obtain ⟨rfl, rfl⟩ := h; exact noL_map (fun _ => by simp [PV.no, PV.noL, noL_iff, nbeq]) _) | (simp at h; obtain ⟨rfl, rfl⟩ := h; simp [PV.no, PV.noL, optS_no, noL_iff, nbeq] <;> omega)⟩⟩) (ltb rfl) ?_)
           rintro _ _ ⟨rfl, rfl⟩
           refine ⟨_, _, rfl, ?_⟩
           refine WalkP.nil ?_
           refine NodeS.branch [7] inNil rfl rfl rfl ⟨?_, trivial⟩
           ·
            refine ⟨_, _, _, _, rfl, rfl, rfl, (⟨_, _, rfl, rfl, ⟨_, _, rfl, rfl, rfl⟩⟩), fun E1 => ?_⟩
            refine (V1.callM 0 (rn + ρ0 + 1) [b62] [.ref bp 3 0 0, .vl (rn + ρ0 + 1) 1 (List.map encInt ([(0 : Int), (20000 : Int)] : List Int))] (p := (bp, ⟨3, [encCur ρ0 y8.2]⟩)) rfl rfl rfl cok_151 rfl rfl ⟨_, _, rfl, .same _, ⟨_, _, rfl, Lend.srMap 2 rfl (fun _ => rfl) (.head _), rfl⟩⟩ (bwCons (k := 1) rfl bwNil) (ok_spec_l1Cur_among hh9) rfl (.inr ⟨(by dsimp only; omega), by rintro _ _ ⟨rfl, rfl⟩; exact ⟨by simp [PV.no, PV.noL, optS_no, noL_iff, nbeq] <;> omega, by intro b ob h; first | exact optH_no (noL_map (fun _ => by simp [PV.no, PV.noL, noL_iff, nbeq]) _) b ob h | (simp at h; obtain ⟨rfl, rfl⟩ := h; exact noL_map (fun _ => by simp [PV.no, PV.noL, noL_iff, nbeq]) _) | (simp at h; obtain ⟨rfl, rfl⟩ := h; simp [PV.no, PV.noL, optS_no, noL_iff, nbeq] <;> omega)⟩⟩) (ltb rfl) ?_)
            rintro _ _ ⟨rfl, rfl⟩
            refine ⟨_, _, rfl, ?_⟩
            refine WalkP.step (p := ?pv1548) 8 rfl rfl rfl rfl rfl (⟨_, _, rfl, rfl, ⟨_, _, rfl, rfl, rfl⟩⟩) ?hv1548 ?rest1548
            case hv1548 =>
             intro E1 H1 hI1
             refine (V1.build rfl rfl zk_125 pl_125 rfl rfl (ltb rfl) ?_)
             exact rfl
            refine WalkP.nil ?_
            refine NodeS.branch [9] inNil rfl rfl rfl ⟨?_, trivial⟩
            ·
             refine ⟨_, _, _, _, rfl, rfl, rfl, (⟨_, _, rfl, rfl, rfl⟩), fun E1 => ?_⟩
             refine (V1.buildSliceT (f := encEvent) ([(⟨y8.1, y9.1⟩ : Event)] : List Event) rfl rfl esz_93 zk_125 rfl rfl rfl rfl rfl rfl rfl (ltb rfl) ?_)
             intro b64
             refine ⟨_, _, rfl, ?_⟩
             refine WalkP.nil ?_
             refine NodeS.fin inNil rfl rfl rfl (⟨_, _, rfl, rfl, ⟨_, _, rfl, rfl, ⟨_, _, rfl, rfl, ⟨_, _, rfl, rfl, rfl⟩⟩⟩⟩) ?_
             refine VO.cons rfl (V1.appendMap (k := 4) (f := encEvent) (l := r_Events) (m := ([(⟨y8.1, y9.1⟩ : Event)] : List Event)) rfl rfl rfl rfl rfl esz_93 eby_93 zk_125 rfl rfl rfl (SrcOf.srMap (k := 0) rfl isl_93) hh10 (ltb rfl) ?_)
             intro b65
             refine VO.cons rfl (V1.fieldRef rfl rfl fo_95_3 rfl (ltb rfl) ?_)
             refine VO.cons rfl (V1.storeRef (k := 5) rfl rfl tyk_93 rfl rfl rfl rfl rfl rfl rfl rfl rfl ?_)
             refine VO.nil ?_
             exact ⟨(((r_Events ++ ([(⟨y8.1, y9.1⟩ : Event)] : List Event)), y9.2), b65), Option.some.inj hm2, Keeps.mk (ks := [0, 2, 5, 6]) rfl ⟨rfl, rfl, trivial⟩ (⟨_, _, rfl, rfl, ⟨_, _, rfl, rfl, ⟨_, _, rfl, rfl, ⟨_, _, rfl, rfl, rfl⟩⟩⟩⟩) rfl⟩
       ·
        refine ⟨_, _, _, _, rfl, rfl, rfl, (rfl), fun E1 => ?_⟩
        refine (V1.buildSliceT (f := encInt) ([(1 : Int), (9 : Int), (10 : Int)] : List Int) rfl rfl esz_34 zk_3 rfl rfl rfl rfl rfl rfl rfl (ltb rfl) ?_)
        intro b66
        refine ⟨_, _, rfl, ?_⟩
        refine WalkP.nil ?_
        refine NodeS.branch [1, 4, 6] inNil rfl rfl rfl ⟨?_, ?_, ?_, trivial⟩
        ·
         refine ⟨_, _, _, _, rfl, rfl, rfl, (⟨_, _, rfl, rfl, rfl⟩), fun E1 => ?_⟩
         refine (V1.loadRef (k := 3) rfl rfl tyk_93 rfl rfl rfl rfl rfl (ltb rfl) ?_)
         refine ⟨_, _, rfl, ?_⟩
         refine WalkP.nil ?_
         refine NodeS.branch [4, 6] inNil rfl rfl rfl ⟨?_, ?_, trivial⟩
         ·
          refine ⟨_, _, _, _, rfl, rfl, rfl, (⟨_, _, rfl, rfl, ⟨_, _, rfl, rfl, rfl⟩⟩), fun E1 => ?_⟩
          refine (V1.callM 1 (rn + ρ0 + 1) [b66] [.ref bp 3 0 0, .vl (rn + ρ0 + 1) 1 (List.map encInt ([(1 : Int), (9 : Int), (10 : Int)] : List Int))] (p := (bp, ⟨3, [encCur ρ0 y5.2]⟩)) rfl rfl rfl cok_151 rfl rfl ⟨_, _, rfl, .same _, ⟨_, _, rfl, Lend.srMap 0 rfl (fun _ => rfl) (.head _), rfl⟩⟩ (bwCons (k := 0) rfl bwNil) (ok_spec_l1Cur_among hh8) rfl (.inr ⟨(by dsimp only; omega), by rintro _ _ ⟨rfl, rfl⟩; exact ⟨by simp [PV.no, PV.noL, optS_no, noL_iff, nbeq] <;> omega, by intro b ob h; first | exact optH_no (noL_map (fun _ => by simp [PV.no, PV.noL, noL_iff, nbeq]) _) b ob h | (simp at h; obtain ⟨rfl, rfl⟩ := h; exact noL_map (fun _ => by simp [PV.no, PV.noL, noL_iff, nbeq]) _) | (simp at h; obtain ⟨rfl, rfl⟩ := h; simp [PV.no, PV.noL, optS_no, noL_iff, nbeq] <;> omega)⟩⟩) (ltb rfl) ?_)
          rintro _ _ ⟨rfl, rfl⟩
          refine ⟨_, _, rfl, ?_⟩
          refine WalkP.nil ?_
          refine NodeS.branch [6] inNil rfl rfl rfl ⟨?_, trivial⟩
          ·
           refine ⟨_, _, _, _, rfl, rfl, rfl, (rfl), fun E1 => ?_⟩
           refine (V1.buildSliceT (f := encInt) ([(0 : Int), (20000 : Int)] : List Int) rfl rfl esz_34 zk_3 rfl rfl rfl rfl rfl rfl rfl (ltb rfl) ?_)
           intro b67
           refine ⟨_, _, rfl, ?_⟩
           refine WalkP.nil ?_
           refine NodeS.branch [7] inNil rfl rfl rfl ⟨?_, trivial⟩
           ·
            refine ⟨_, _, _, _, rfl, rfl, rfl, (⟨_, _, rfl, rfl, ⟨_, _, rfl, rfl, rfl⟩⟩), fun E1 => ?_⟩
            refine (V1.callM 1 (rn + ρ0 + 1) [b67] [.ref bp 3 0 0, .vl (rn + ρ0 + 1) 1 (List.map encInt ([(0 : Int), (20000 : Int)] : List Int))] (p := (bp, ⟨3, [encCur ρ0 y8.2]⟩)) rfl rfl rfl cok_151 rfl rfl ⟨_, _, rfl, .same _, ⟨_, _, rfl, Lend.srMap 0 rfl (fun _ => rfl) (.head _), rfl⟩⟩ (bwCons (k := 0) rfl bwNil) (ok_spec_l1Cur_among hh9) rfl (.inr ⟨(by dsimp only; omega), by rintro _ _ ⟨rfl, rfl⟩; exact ⟨by simp [PV.no, PV.noL, optS_no, noL_iff, nbeq] <;> omega, by intro b ob h; first | exact optH_no (noL_map (fun _ => by simp [PV.no, PV.noL, noL_iff, nbeq]) _) b ob h | (simp at h; obtain ⟨rfl, rfl⟩ := h; exact noL_map (fun _ => by simp [PV.no, PV.noL, noL_iff, nbeq]) _) | (simp at h; obtain ⟨rfl, rfl⟩ := h; simp [PV.no, PV.noL, optS_no, noL_iff, nbeq] <;> omega)⟩⟩) (ltb rfl) ?_)
            rintro _ _ ⟨rfl, rfl⟩
            refine ⟨_, _, rfl, ?_⟩
            refine WalkP.step (p := ?pv1549) 8 rfl rfl rfl rfl rfl (⟨_, _, rfl, rfl, ⟨_, _, rfl, rfl, rfl⟩⟩) ?hv1549 ?rest1549
            case hv1549 =>
             intro E1 H1 hI1
             refine (V1.build rfl rfl zk_125 pl_125 rfl rfl (ltb rfl) ?_)
             exact rfl
            refine WalkP.nil ?_
            refine NodeS.branch [9] inNil rfl rfl rfl ⟨?_, trivial⟩
            ·
             refine ⟨_, _, _, _, rfl, rfl, rfl, (⟨_, _, rfl, rfl, rfl⟩), fun E1 => ?_⟩
             refine (V1.buildSliceT (f := encEvent) ([(⟨y8.1, y9.1⟩ : Event)] : List Event) rfl rfl esz_93 zk_125 rfl rfl rfl rfl rfl rfl rfl (ltb rfl) ?_)
             intro b68
             refine ⟨_, _, rfl, ?_⟩
             refine WalkP.nil ?_
             refine NodeS.fin inNil rfl rfl rfl (⟨_, _, rfl, rfl, ⟨_, _, rfl, rfl, ⟨_, _, rfl, rfl, ⟨_, _, rfl, rfl, rfl⟩⟩⟩⟩) ?_
             refine VO.cons rfl (V1.appendMap (k := 4) (f := encEvent) (l := r_Events) (m := ([(⟨y8.1, y9.1⟩ : Event)] : List Event)) rfl rfl rfl rfl rfl esz_93 eby_93 zk_125 rfl rfl rfl (SrcOf.srMap (k := 0) rfl isl_93) hh10 (ltb rfl) ?_)
             intro b69
             refine VO.cons rfl (V1.fieldRef rfl rfl fo_95_3 rfl (ltb rfl) ?_)
             refine VO.cons rfl (V1.storeRef (k := 5) rfl rfl tyk_93 rfl rfl rfl rfl rfl rfl rfl rfl rfl ?_)
             refine VO.nil ?_
             exact ⟨(((r_Events ++ ([(⟨y8.1, y9.1⟩ : Event)] : List Event)), y9.2), b69), Option.some.inj hm2, Keeps.mk (ks := [0, 2, 5, 6]) rfl ⟨rfl, rfl, trivial⟩ (⟨_, _, rfl, rfl, ⟨_, _, rfl, rfl, ⟨_, _, rfl, rfl, ⟨_, _, rfl, rfl, rfl⟩⟩⟩⟩) rfl⟩
         ·
          refine ⟨_, _, _, _, rfl, rfl, rfl, (rfl), fun E1 => ?_⟩
          refine (V1.buildSliceT (f := encInt) ([(0 : Int), (20000 : Int)] : List Int) rfl rfl esz_34 zk_3 rfl rfl rfl rfl rfl rfl rfl (ltb rfl) ?_)
          intro b70
          refine ⟨_, _, rfl, ?_⟩
          refine WalkP.nil ?_
          refine NodeS.branch [4] inNil rfl rfl rfl ⟨?_, trivial⟩
          ·
           refine ⟨_, _, _, _, rfl, rfl, rfl, (⟨_, _, rfl, rfl, ⟨_, _, rfl, rfl, rfl⟩⟩), fun E1 => ?_⟩
           refine (V1.callM 2 (rn + ρ0 + 1) [b66] [.ref bp 3 0 0, .vl (rn + ρ0 + 1) 1 (List.map encInt ([(1 : Int), (9 : Int), (10 : Int)] : List Int))] (p := (bp, ⟨3, [encCur ρ0 y5.2]⟩)) rfl rfl rfl cok_151 rfl rfl ⟨_, _, rfl, .same _, ⟨_, _, rfl, Lend.srMap 1 rfl (fun _ => rfl) (.head _), rfl⟩⟩ (bwCons (k := 1) rfl bwNil) (ok_spec_l1Cur_among hh8) rfl (.inr ⟨(by dsimp only; omega), by rintro _ _ ⟨rfl, rfl⟩; exact ⟨by simp [PV.no, PV.noL, optS_no, noL_iff, nbeq] <;> omega, by intro b ob h; first | exact optH_no (noL_map (fun _ => by simp [PV.no, PV.noL, noL_iff, nbeq]) _) b ob h | (simp at h; obtain ⟨rfl, rfl⟩ := h; exact noL_map (fun _ => by simp [PV.no, PV.noL, noL_iff, nbeq]) _) | (simp at h; obtain ⟨rfl, rfl⟩ := h; simp [PV.no, PV.noL, optS_no, noL_iff, nbeq] <;> omega)⟩⟩) (ltb rfl) ?_)
           rintro _ _ ⟨rfl, rfl⟩
           refine ⟨_, _, rfl, ?_⟩
           refine WalkP.nil ?_
           refine NodeS.branch [7] inNil rfl rfl rfl ⟨?_, trivial⟩
           ·
            refine ⟨_, _, _, _, rfl, rfl, rfl, (⟨_, _, rfl, rfl, ⟨_, _, rfl, rfl, rfl⟩⟩), fun E1 => ?_⟩
            refine (V1.callM 0 (rn + ρ0 + 1) [b70] [.ref bp 3 0 0, .vl (rn + ρ0 + 1) 1 (List.map encInt ([(0 : Int), (20000 : Int)] : List Int))] (p := (bp, ⟨3, [encCur ρ0 y8.2]⟩)) rfl rfl rfl cok_151 rfl rfl ⟨_, _, rfl, .same _, ⟨_, _, rfl, Lend.srMap 1 rfl (fun _ => rfl) (.head _), rfl⟩⟩ (bwCons (k := 0) rfl bwNil) (ok_spec_l1Cur_among hh9) rfl (.inr ⟨(by dsimp only; omega), by rintro _ _ ⟨rfl, rfl⟩; exact ⟨by simp [PV.no, PV.noL, optS_no, noL_iff, nbeq] <;> omega, by intro b ob h; first | exact optH_no (noL_map (fun _ => by simp [PV.no, PV.noL, noL_iff, nbeq]) _) b ob h | (simp at h; obtain ⟨rfl, rfl⟩ := h; exact noL_map (fun _ => by simp [PV.no, PV.noL, noL_iff, nbeq]) _) | (simp at h; obtain ⟨rfl, rfl⟩ := h; simp [PV.no, PV.noL, optS_no, noL_iff, nbeq] <;> omega)⟩⟩) (ltb rfl) ?_)
            rintro _ _ ⟨rfl, rfl⟩
            refine ⟨_, _, rfl, ?_⟩
            refine WalkP.step (p := ?pv1550) 8 rfl rfl rfl rfl rfl (⟨_, _, rfl, rfl, ⟨_, _, rfl, rfl, rfl⟩⟩) ?hv1550 ?rest1550
            case hv1550 =>
             intro E1 H1 hI1
             refine (V1.build rfl rfl zk_125 pl_125 rfl rfl (ltb rfl) ?_)
             exact rfl
            refine WalkP.nil ?_
            refine NodeS.branch [9] inNil rfl rfl rfl ⟨?_, trivial⟩
            ·
             refine ⟨_, _, _, _, rfl, rfl, rfl, (⟨_, _, rfl, rfl, rfl⟩), fun E1 => ?_⟩
             refine (V1.buildSliceT (f := encEvent) ([(⟨y8.1, y9.1⟩ : Event)] : List Event) rfl rfl esz_93 zk_125 rfl rfl rfl rfl rfl rfl rfl (ltb rfl) ?_)
             intro b71
             refine ⟨_, _, rfl, ?_⟩
             refine WalkP.nil ?_
             refine NodeS.fin inNil rfl rfl rfl (⟨_, _, rfl, rfl, ⟨_, _, rfl, rfl, ⟨_, _, rfl, rfl, ⟨_, _, rfl, rfl, rfl⟩⟩⟩⟩) ?_
             refine VO.cons rfl (V1.appendMap (k := 4) (f := encEvent) (l := r_Events) (m := ([(⟨y8.1, y9.1⟩ : Event)] : List Event)) rfl rfl rfl rfl rfl esz_93 eby_93 zk_125 rfl rfl rfl (SrcOf.srMap (k := 0) rfl isl_93) hh10 (ltb rfl) ?_)
             intro b72
             refine VO.cons rfl (V1.fieldRef rfl rfl fo_95_3 rfl (ltb rfl) ?_)
             refine VO.cons rfl (V1.storeRef (k := 5) rfl rfl tyk_93 rfl rfl rfl rfl rfl rfl rfl rfl rfl ?_)
             refine VO.nil ?_
             exact ⟨(((r_Events ++ ([(⟨y8.1, y9.1⟩ : Event)] : List Event)), y9.2), b72), Option.some.inj hm2, Keeps.mk (ks := [0, 2, 5, 6]) rfl ⟨rfl, rfl, trivial⟩ (⟨_, _, rfl, rfl, ⟨_, _, rfl, rfl, ⟨_, _, rfl, rfl, ⟨_, _, rfl, rfl, rfl⟩⟩⟩⟩) rfl⟩
        ·
         refine ⟨_, _, _, _, rfl, rfl, rfl, (⟨_, _, rfl, rfl, ⟨_, _, rfl, rfl, rfl⟩⟩), fun E1 => ?_⟩
         refine (V1.callM 1 (rn + ρ0 + 1) [b66] [.ref bp 3 0 0, .vl (rn + ρ0 + 1) 1 (List.map encInt ([(1 : Int), (9 : Int), (10 : Int)] : List Int))] (p := (bp, ⟨3, [encCur ρ0 y5.2]⟩)) rfl rfl rfl cok_151 rfl rfl ⟨_, _, rfl, .same _, ⟨_, _, rfl, Lend.srMap 0 rfl (fun _ => rfl) (.head _), rfl⟩⟩ (bwCons (k := 0) rfl bwNil) (ok_spec_l1Cur_among hh8) rfl (.inr ⟨(by dsimp only; omega), by rintro _ _ ⟨rfl, rfl⟩; exact ⟨by simp [PV.no, PV.noL, optS_no, noL_iff, nbeq] <;> omega, by intro b ob h; first | exact optH_no (noL_map (fun _ => by simp [PV.no, PV.noL, noL_iff, nbeq]) _) b ob h | (simp at h; obtain ⟨rfl, rfl⟩ := h; exact noL_map (fun _ => by simp [PV.no, PV.noL, noL_iff, nbeq]) _) | (simp at h; obtain ⟨rfl, rfl⟩ := h; simp [PV.no, PV.noL, optS_no, noL_iff, nbeq] <;> omega)⟩⟩) (ltb rfl) ?_)
         rintro _ _ ⟨rfl, rfl⟩
         refine ⟨_, _, rfl, ?_⟩
         refine WalkP.nil ?_
         refine NodeS.branch [1, 6] inNil rfl rfl rfl ⟨?_, ?_, trivial⟩
         ·
          refine ⟨_, _, _, _, rfl, rfl, rfl, (⟨_, _, rfl, rfl, rfl⟩), fun E1 => ?_⟩
          refine (V1.loadRef (k := 3) rfl rfl tyk_93 rfl rfl rfl rfl rfl (ltb rfl) ?_)
          refine ⟨_, _, rfl, ?_⟩
          refine WalkP.nil ?_
          refine NodeS.branch [6] inNil rfl rfl rfl ⟨?_, trivial⟩
          ·
           refine ⟨_, _, _, _, rfl, rfl, rfl, (rfl), fun E1 => ?_⟩
           refine (V1.buildSliceT (f := encInt) ([(0 : Int), (20000 : Int)] : List Int) rfl rfl esz_34 zk_3 rfl rfl rfl rfl rfl rfl rfl (ltb rfl) ?_)
           intro b73
           refine ⟨_, _, rfl, ?_⟩
           refine WalkP.nil ?_
           refine NodeS.branch [7] inNil rfl rfl rfl ⟨?_, trivial⟩
           ·
            refine ⟨_, _, _, _, rfl, rfl, rfl, (⟨_, _, rfl, rfl, ⟨_, _, rfl, rfl, rfl⟩⟩), fun E1 => ?_⟩
            refine (V1.callM 1 (rn + ρ0 + 1) [b73] [.ref bp 3 0 0, .vl (rn + ρ0 + 1) 1 (List.map encInt ([(0 : Int), (20000 : Int)] : List Int))] (p := (bp, ⟨3, [encCur ρ0 y8.2]⟩)) rfl rfl rfl cok_151 rfl rfl ⟨_, _, rfl, .same _, ⟨_, _, rfl, Lend.srMap 0 rfl (fun _ => rfl) (.head _), rfl⟩⟩ (bwCons (k := 0) rfl bwNil) (ok_spec_l1Cur_among hh9) rfl (.inr ⟨(by dsimp only; omega), by rintro _ _ ⟨rfl, rfl⟩; exact ⟨by simp [PV.no, PV.noL, optS_no, noL_iff, nbeq] <;> omega, by intro b ob h; first | exact optH_no (noL_map (fun _ => by simp [PV.no, PV.noL, noL_iff, nbeq]) _) b ob h | (simp at h; obtain ⟨rfl, rfl⟩ := h; exact noL_map (fun _ => by simp [PV.no, PV.noL, noL_iff, nbeq]) _) | (simp at h; obtain ⟨rfl, rfl⟩ := h; simp [PV.no, PV.noL, optS_no, noL_iff, nbeq] <;> omega)⟩⟩) (ltb rfl) ?_)
            rintro _ _ ⟨rfl, rfl⟩
            refine ⟨_, _, rfl, ?_⟩
            refine WalkP.step (p := ?pv1551) 8 rfl rfl rfl rfl rfl (⟨_, _, rfl, rfl, ⟨_, _, rfl, rfl, rfl⟩⟩) ?hv1551 ?rest1551
            case hv1551 =>
             intro E1 H1 hI1
             refine (V1.build rfl rfl zk_125 pl_125 rfl rfl (ltb rfl) ?_)
             exact rfl
            refine WalkP.nil ?_
            refine NodeS.branch [9] inNil rfl rfl rfl ⟨?_, trivial⟩
            ·
             refine ⟨_, _, _, _, rfl, rfl, rfl, (⟨_, _, rfl, rfl, rfl⟩), fun E1 => ?_⟩
             refine (V1.buildSliceT (f := encEvent) ([(⟨y8.1, y9.1⟩ : Event)] : List Event) rfl rfl esz_93 zk_125 rfl rfl rfl rfl rfl rfl rfl (ltb rfl) ?_)
             intro b74
             refine ⟨_, _, rfl, ?_⟩
             refine WalkP.nil ?_
             refine NodeS.fin inNil rfl rfl rfl (⟨_, _, rfl, rfl, ⟨_, _, rfl, rfl, ⟨_, _, rfl, rfl, ⟨_, _, rfl, rfl, rfl⟩⟩⟩⟩) ?_
             refine VO.cons rfl (V1.appendMap (k := 4) (f := encEvent) (l := r_Events) (m := ([(⟨y8.1, y9.1⟩ : Event)] : List Event)) rfl rfl rfl rfl rfl esz_93 eby_93 zk_125 rfl rfl rfl (SrcOf.srMap (k := 0) rfl isl_93) hh10 (ltb rfl) ?_)
             intro b75
             refine VO.cons rfl (V1.fieldRef rfl rfl fo_95_3 rfl (ltb rfl) ?_)
             refine VO.cons rfl (V1.storeRef (k := 5) rfl rfl tyk_93 rfl rfl rfl rfl rfl rfl rfl rfl rfl ?_)
             refine VO.nil ?_
             exact ⟨(((r_Events ++ ([(⟨y8.1, y9.1⟩ : Event)] : List Event)), y9.2), b75), Option.some.inj hm2, Keeps.mk (ks := [0, 2, 5, 6]) rfl ⟨rfl, rfl, trivial⟩ (⟨_, _, rfl, rfl, ⟨_, _, rfl, rfl, ⟨_, _, rfl, rfl, ⟨_, _, rfl, rfl, rfl⟩⟩⟩⟩) rfl⟩
         ·
          refine ⟨_, _, _, _, rfl, rfl, rfl, (rfl), fun E1 => ?_⟩
          refine (V1.buildSliceT (f := encInt) ([(0 : Int), (20000 : Int)] : List Int) rfl rfl esz_34 zk_3 rfl rfl rfl rfl rfl rfl rfl (ltb rfl) ?_)
          intro b76
          refine ⟨_, _, rfl, ?_⟩
          refine WalkP.nil ?_
          refine NodeS.branch [1, 7] inNil rfl rfl rfl ⟨?_, ?_, trivial⟩
          ·
           refine ⟨_, _, _, _, rfl, rfl, rfl, (⟨_, _, rfl, rfl, rfl⟩), fun E1 => ?_⟩
           refine (V1.loadRef (k := 4) rfl rfl tyk_93 rfl rfl rfl rfl rfl (ltb rfl) ?_)
           refine ⟨_, _, rfl, ?_⟩
           refine WalkP.nil ?_
           refine NodeS.branch [7] inNil rfl rfl rfl ⟨?_, trivial⟩
           ·
            refine ⟨_, _, _, _, rfl, rfl, rfl, (⟨_, _, rfl, rfl, ⟨_, _, rfl, rfl, rfl⟩⟩), fun E1 => ?_⟩
            refine (V1.callM 1 (rn + ρ0 + 1) [b76] [.ref bp 3 0 0, .vl (rn + ρ0 + 1) 1 (List.map encInt ([(0 : Int), (20000 : Int)] : List Int))] (p := (bp, ⟨3, [encCur ρ0 y8.2]⟩)) rfl rfl rfl cok_151 rfl rfl ⟨_, _, rfl, .same _, ⟨_, _, rfl, Lend.srMap 0 rfl (fun _ => rfl) (.head _), rfl⟩⟩ (bwCons (k := 0) rfl bwNil) (ok_spec_l1Cur_among hh9) rfl (.inr ⟨(by dsimp only; omega), by rintro _ _ ⟨rfl, rfl⟩; exact ⟨by simp [PV.no, PV.noL, optS_no, noL_iff, nbeq] <;> omega, by intro b ob h; first | exact optH_no (noL_map (fun _ => by simp [PV.no, PV.noL, noL_iff, nbeq]) _) b ob h | (simp at h; obtain ⟨rfl, rfl⟩ := h; exact noL_map (fun _ => by simp [PV.no, PV.noL, noL_iff, nbeq]) _) | (simp at h; obtain ⟨rfl, rfl⟩ := h; simp [PV.no, PV.noL, optS_no, noL_iff, nbeq] <;> omega)⟩⟩) (ltb rfl) ?_)
            rintro _ _ ⟨rfl, rfl⟩
            refine ⟨_, _, rfl, ?_⟩
            refine WalkP.step (p := ?pv1552) 8 rfl rfl rfl rfl rfl (⟨_, _, rfl, rfl, ⟨_, _, rfl, rfl, rfl⟩⟩) ?hv1552 ?rest1552
            case hv1552 =>
             intro E1 H1 hI1
             refine (V1.build rfl rfl zk_125 pl_125 rfl rfl (ltb rfl) ?_)
             exact rfl
            refine WalkP.nil ?_
            refine NodeS.branch [9] inNil rfl rfl rfl ⟨?_, trivial⟩
            ·
             refine ⟨_, _, _, _, rfl, rfl, rfl, (⟨_, _, rfl, rfl, rfl⟩), fun E1 => ?_⟩
             refine (V1.buildSliceT (f := encEvent) ([(⟨y8.1, y9.1⟩ : Event)] : List Event) rfl rfl esz_93 zk_125 rfl rfl rfl rfl rfl rfl rfl (ltb rfl) ?_)
             intro b77
             refine ⟨_, _, rfl, ?_⟩
             refine WalkP.nil ?_
             refine NodeS.fin inNil rfl rfl rfl (⟨_, _, rfl, rfl, ⟨_, _, rfl, rfl, ⟨_, _, rfl, rfl, ⟨_, _, rfl, rfl, rfl⟩⟩⟩⟩) ?_
             refine VO.cons rfl (V1.appendMap (k := 4) (f := encEvent) (l := r_Events) (m := ([(⟨y8.1, y9.1⟩ : Event)] : List Event)) rfl rfl rfl rfl rfl esz_93 eby_93 zk_125 rfl rfl rfl (SrcOf.srMap (k := 0) rfl isl_93) hh10 (ltb rfl) ?_)
             intro b78
             refine VO.cons rfl (V1.fieldRef rfl rfl fo_95_3 rfl (ltb rfl) ?_)
             refine VO.cons rfl (V1.storeRef (k := 5) rfl rfl tyk_93 rfl rfl rfl rfl rfl rfl rfl rfl rfl ?_)
             refine VO.nil ?_
             exact ⟨(((r_Events ++ ([(⟨y8.1, y9.1⟩ : Event)] : List Event)), y9.2), b78), Option.some.inj hm2, Keeps.mk (ks := [0, 2, 5, 6]) rfl ⟨rfl, rfl, trivial⟩ (⟨_, _, rfl, rfl, ⟨_, _, rfl, rfl, ⟨_, _, rfl, rfl, ⟨_, _, rfl, rfl, rfl⟩⟩⟩⟩) rfl⟩
          ·
           refine ⟨_, _, _, _, rfl, rfl, rfl, (⟨_, _, rfl, rfl, ⟨_, _, rfl, rfl, rfl⟩⟩), fun E1 => ?_⟩
           refine (V1.callM 1 (rn + ρ0 + 1) [b76] [.ref bp 3 0 0, .vl (rn + ρ0 + 1) 1 (List.map encInt ([(0 : Int), (20000 : Int)] : List Int))] (p := (bp, ⟨3, [encCur ρ0 y8.2]⟩)) rfl rfl rfl cok_151 rfl rfl ⟨_, _, rfl, .same _, ⟨_, _, rfl, Lend.srMap 0 rfl (fun _ => rfl) (.head _), rfl⟩⟩ (bwCons (k := 0) rfl bwNil) (ok_spec_l1Cur_among hh9) rfl (.inr ⟨(by dsimp only; omega), by rintro _ _ ⟨rfl, rfl⟩; exact ⟨by simp [PV.no, PV.noL, optS_no, noL_iff, nbeq] <;> omega, by intro b ob h; first | exact optH_no (noL_map (fun _ => by simp [PV.no, PV.noL, noL_iff, nbeq]) _) b ob h | (simp at h; obtain ⟨rfl, rfl⟩ := h; exact noL_map (fun _ => by simp [PV.no, PV.noL, noL_iff, nbeq]) _) | (simp at h; obtain ⟨rfl, rfl⟩ := h; simp [PV.no, PV.noL, optS_no, noL_iff, nbeq] <;> omega)⟩⟩) (ltb rfl) ?_)
           rintro _ _ ⟨rfl, rfl⟩
           refine ⟨_, _, rfl, ?_⟩
           refine WalkP.step (p := ?pv1553) 8 rfl rfl rfl rfl rfl (⟨_, _, rfl, rfl, ⟨_, _, rfl, rfl, rfl⟩⟩) ?hv1553 ?rest1553
           case hv1553 =>
            intro E1 H1 hI1
            refine (V1.build rfl rfl zk_125 pl_125 rfl rfl (ltb rfl) ?_)
            exact rfl
           refine WalkP.nil ?_
           refine NodeS.branch [1, 9] inNil rfl rfl rfl ⟨?_, ?_, trivial⟩
           ·
            refine ⟨_, _, _, _, rfl, rfl, rfl, (⟨_, _, rfl, rfl, rfl⟩), fun E1 => ?_⟩
            refine (V1.loadRef (k := 4) rfl rfl tyk_93 rfl rfl rfl rfl rfl (ltb rfl) ?_)
            refine ⟨_, _, rfl, ?_⟩
            refine WalkP.nil ?_
            refine NodeS.branch [9] inNil rfl rfl rfl ⟨?_, trivial⟩
            ·
             refine ⟨_, _, _, _, rfl, rfl, rfl, (⟨_, _, rfl, rfl, rfl⟩), fun E1 => ?_⟩
             refine (V1.buildSliceT (f := encEvent) ([(⟨y8.1, y9.1⟩ : Event)] : List Event) rfl rfl esz_93 zk_125 rfl rfl rfl rfl rfl rfl rfl (ltb rfl) ?_)
             intro b79
             refine ⟨_, _, rfl, ?_⟩
             refine WalkP.nil ?_
             refine NodeS.fin inNil rfl rfl rfl (⟨_, _, rfl, rfl, ⟨_, _, rfl, rfl, ⟨_, _, rfl, rfl, ⟨_, _, rfl, rfl, rfl⟩⟩⟩⟩) ?_
             refine VO.cons rfl (V1.appendMap (k := 4) (f := encEvent) (l := r_Events) (m := ([(⟨y8.1, y9.1⟩ : Event)] : List Event)) rfl rfl rfl rfl rfl esz_93 eby_93 zk_125 rfl rfl rfl (SrcOf.srMap (k := 0) rfl isl_93) hh10 (ltb rfl) ?_)
             intro b80
             refine VO.cons rfl (V1.fieldRef rfl rfl fo_95_3 rfl (ltb rfl) ?_)
             refine VO.cons rfl (V1.storeRef (k := 5) rfl rfl tyk_93 rfl rfl rfl rfl rfl rfl rfl rfl rfl ?_)
             refine VO.nil ?_
             exact ⟨(((r_Events ++ ([(⟨y8.1, y9.1⟩ : Event)] : List Event)), y9.2), b80), Option.some.inj hm2, Keeps.mk (ks := [0, 2, 5, 6]) rfl ⟨rfl, rfl, trivial⟩ (⟨_, _, rfl, rfl, ⟨_, _, rfl, rfl, ⟨_, _, rfl, rfl, ⟨_, _, rfl, rfl, rfl⟩⟩⟩⟩) rfl⟩
           ·
            refine ⟨_, _, _, _, rfl, rfl, rfl, (⟨_, _, rfl, rfl, rfl⟩), fun E1 => ?_⟩
            refine (V1.buildSliceT (f := encEvent) ([(⟨y8.1, y9.1⟩ : Event)] : List Event) rfl rfl esz_93 zk_125 rfl rfl rfl rfl rfl rfl rfl (ltb rfl) ?_)
            intro b81
            refine ⟨_, _, rfl, ?_⟩
            refine WalkP.nil ?_
            refine NodeS.branch [1] inNil rfl rfl rfl ⟨?_, trivial⟩
            ·
             refine ⟨_, _, _, _, rfl, rfl, rfl, (⟨_, _, rfl, rfl, rfl⟩), fun E1 => ?_⟩
             refine (V1.loadRef (k := 5) rfl rfl tyk_93 rfl rfl rfl rfl rfl (ltb rfl) ?_)
             refine ⟨_, _, rfl, ?_⟩
             refine WalkP.nil ?_
             refine NodeS.fin inNil rfl rfl rfl (⟨_, _, rfl, rfl, ⟨_, _, rfl, rfl, ⟨_, _, rfl, rfl, ⟨_, _, rfl, rfl, rfl⟩⟩⟩⟩) ?_
             refine VO.cons rfl (V1.appendMap (k := 4) (f := encEvent) (l := r_Events) (m := ([(⟨y8.1, y9.1⟩ : Event)] : List Event)) rfl rfl rfl rfl rfl esz_93 eby_93 zk_125 rfl rfl rfl (SrcOf.srMap (k := 0) rfl isl_93) hh10 (ltb rfl) ?_)
             intro b82
             refine VO.cons rfl (V1.fieldRef rfl rfl fo_95_3 rfl (ltb rfl) ?_)
             refine VO.cons rfl (V1.storeRef (k := 5) rfl rfl tyk_93 rfl rfl rfl rfl rfl rfl rfl rfl rfl ?_)
             refine VO.nil ?_
             exact ⟨(((r_Events ++ ([(⟨y8.1, y9.1⟩ : Event)] : List Event)), y9.2), b82), Option.some.inj hm2, Keeps.mk (ks := [0, 2, 5, 6]) rfl ⟨rfl, rfl, trivial⟩ (⟨_, _, rfl, rfl, ⟨_, _, rfl, rfl, ⟨_, _, rfl, rfl, ⟨_, _, rfl, rfl, rfl⟩⟩⟩⟩) rfl⟩
        ·
         refine ⟨_, _, _, _, rfl, rfl, rfl, (rfl), fun E1 => ?_⟩
         refine (V1.buildSliceT (f := encInt) ([(0 : Int), (20000 : Int)] : List Int) rfl rfl esz_34 zk_3 rfl rfl rfl rfl rfl rfl rfl (ltb rfl) ?_)
         intro b83
         refine ⟨_, _, rfl, ?_⟩
         refine WalkP.nil ?_
         refine NodeS.branch [1, 4] inNil rfl rfl rfl ⟨?_, ?_, trivial⟩
         ·
          refine ⟨_, _, _, _, rfl, rfl, rfl, (⟨_, _, rfl, rfl, rfl⟩), fun E1 => ?_⟩
          refine (V1.loadRef (k := 4) rfl rfl tyk_93 rfl rfl rfl rfl rfl (ltb rfl) ?_)
          refine ⟨_, _, rfl, ?_⟩
          refine WalkP.nil ?_
          refine NodeS.branch [4] inNil rfl rfl rfl ⟨?_, trivial⟩
          ·
           refine ⟨_, _, _, _, rfl, rfl, rfl, (⟨_, _, rfl, rfl, ⟨_, _, rfl, rfl, rfl⟩⟩), fun E1 => ?_⟩
           refine (V1.callM 2 (rn + ρ0 + 1) [b66] [.ref bp 3 0 0, .vl (rn + ρ0 + 1) 1 (List.map encInt ([(1 : Int), (9 : Int), (10 : Int)] : List Int))] (p := (bp, ⟨3, [encCur ρ0 y5.2]⟩)) rfl rfl rfl cok_151 rfl rfl ⟨_, _, rfl, .same _, ⟨_, _, rfl, Lend.srMap 1 rfl (fun _ => rfl) (.head _), rfl⟩⟩ (bwCons (k := 1) rfl bwNil) (ok_spec_l1Cur_among hh8) rfl (.inr ⟨(by dsimp only; omega), by rintro _ _ ⟨rfl, rfl⟩; exact ⟨by simp [PV.no, PV.noL, optS_no, noL_iff, nbeq] <;> omega, by intro b ob h; first | exact optH_no (noL_map (fun _ => by simp [PV.no, PV.noL, noL_iff, nbeq]) _) b ob h | (simp at h; obtain ⟨rfl, rfl⟩ := h; exact noL_map (fun _ => by simp [PV.no, PV.noL, noL_iff, nbeq]) _) | (simp at h; obtain ⟨rfl, rfl⟩ := h; simp [PV.no, PV.noL, optS_no, noL_iff, nbeq] <;> omega)⟩⟩) (ltb rfl) ?_)
           rintro _ _ ⟨rfl, rfl⟩
           refine ⟨_, _, rfl, ?_⟩
           refine WalkP.nil ?_
           refine NodeS.branch [7] inNil rfl rfl rfl ⟨?_, trivial⟩
           ·
            refine ⟨_, _, _, _, rfl, rfl, rfl, (⟨_, _, rfl, rfl, ⟨_, _, rfl, rfl, rfl⟩⟩), fun E1 => ?_⟩
            refine (V1.callM 0 (rn + ρ0 + 1) [b83] [.ref bp 3 0 0, .vl (rn + ρ0 + 1) 1 (List.map encInt ([(0 : Int), (20000 : Int)] : List Int))] (p := (bp, ⟨3, [encCur ρ0 y8.2]⟩)) rfl rfl rfl cok_151 rfl rfl ⟨_, _, rfl, .same _, ⟨_, _, rfl, Lend.srMap 1 rfl (fun _ => rfl) (.head _), rfl⟩⟩ (bwCons (k := 0) rfl bwNil) (ok_spec_l1Cur_among hh9) rfl (.inr ⟨(by dsimp only; omega), by rintro _ _ ⟨rfl, rfl⟩; exact ⟨by simp [PV.no, PV.noL, optS_no, noL_iff, nbeq] <;> omega, by intro b ob h; first | exact optH_no (noL_map (fun _ => by simp [PV.no, PV.noL, noL_iff, nbeq]) _) b ob h | (simp at h; obtain ⟨rfl, rfl⟩ := h; exact noL_map (fun _ => by simp [PV.no, PV.noL, noL_iff, nbeq]) _) | (simp at h; obtain ⟨rfl, rfl⟩ := h; simp [PV.no, PV.noL, optS_no, noL_iff, nbeq] <;> omega)⟩⟩) (ltb rfl) ?_)
            rintro _ _ ⟨rfl, rfl⟩
            refine ⟨_, _, rfl, ?_⟩
            refine WalkP.step (p := ?pv1554) 8 rfl rfl rfl rfl rfl (⟨_, _, rfl, rfl, ⟨_, _, rfl, rfl, rfl⟩⟩) ?hv1554 ?rest1554
            case hv1554 =>
             intro E1 H1 hI1
             refine (V1.build rfl rfl zk_125 pl_125 rfl rfl (ltb rfl) ?_)
             exact rfl
            refine WalkP.nil ?_
            refine NodeS.branch [9] inNil rfl rfl rfl ⟨?_, trivial⟩
            ·
             refine ⟨_, _, _, _, rfl, rfl, rfl, (⟨_, _, rfl, rfl, rfl⟩), fun E1 => ?_⟩
             refine (V1.buildSliceT (f := encEvent) ([(⟨y8.1, y9.1⟩ : Event)] : List Event) rfl rfl esz_93 zk_125 rfl rfl rfl rfl rfl rfl rfl (ltb rfl) ?_)
             intro b84
             refine ⟨_, _, rfl, ?_⟩
             refine WalkP.nil ?_
             refine NodeS.fin inNil rfl rfl rfl (⟨_, _, rfl, rfl, ⟨_, _, rfl, rfl, ⟨_, _, rfl, rfl, ⟨_, _, rfl, rfl, rfl⟩⟩⟩⟩) ?_
             refine VO.cons rfl (V1.appendMap (k := 4) (f := encEvent) (l := r_Events) (m := ([(⟨y8.1, y9.1⟩ : Event)] : List Event)) rfl rfl rfl rfl rfl esz_93 eby_93 zk_125 rfl rfl rfl (SrcOf.srMap (k := 0) rfl isl_93) hh10 (ltb rfl) ?_)
             intro b85
             refine VO.cons rfl (V1.fieldRef rfl rfl fo_95_3 rfl (ltb rfl) ?_)
             refine VO.cons rfl (V1.storeRef (k := 5) rfl rfl tyk_93 rfl rfl rfl rfl rfl rfl rfl rfl rfl ?_)
             refine VO.nil ?_
             exact ⟨(((r_Events ++ ([(⟨y8.1, y9.1⟩ : Event)] : List Event)), y9.2), b85), Option.some.inj hm2, Keeps.mk (ks := [0, 2, 5, 6]) rfl ⟨rfl, rfl, trivial⟩ (⟨_, _, rfl, rfl, ⟨_, _, rfl, rfl, ⟨_, _, rfl, rfl, ⟨_, _, rfl, rfl, rfl⟩⟩⟩⟩) rfl⟩
         ·
          refine ⟨_, _, _, _, rfl, rfl, rfl, (⟨_, _, rfl, rfl, ⟨_, _, rfl, rfl, rfl⟩⟩), fun E1 => ?_⟩
          refine (V1.callM 2 (rn + ρ0 + 1) [b66] [.ref bp 3 0 0, .vl (rn + ρ0 + 1) 1 (List.map encInt ([(1 : Int), (9 : Int), (10 : Int)] : List Int))] (p := (bp, ⟨3, [encCur ρ0 y5.2]⟩)) rfl rfl rfl cok_151 rfl rfl ⟨_, _, rfl, .same _, ⟨_, _, rfl, Lend.srMap 1 rfl (fun _ => rfl) (.head _), rfl⟩⟩ (bwCons (k := 1) rfl bwNil) (ok_spec_l1Cur_among hh8) rfl (.inr ⟨(by dsimp only; omega), by rintro _ _ ⟨rfl, rfl⟩; exact ⟨by simp [PV.no, PV.noL, optS_no, noL_iff, nbeq] <;> omega, by intro b ob h; first | exact optH_no (noL_map (fun _ => by simp [PV.no, PV.noL, noL_iff, nbeq]) _) b ob h | (simp at h; obtain ⟨rfl, rfl⟩ := h; exact noL_map (fun _ => by simp [PV.no, PV.noL, noL_iff, nbeq]) _) | (simp at h; obtain ⟨rfl, rfl⟩ := h; simp [PV.no, PV.noL, optS_no, noL_iff, nbeq] <;> omega)⟩⟩) (ltb rfl) ?_)
          rintro _ _ ⟨rfl, rfl⟩
          refine ⟨_, _, rfl, ?_⟩
          refine WalkP.nil ?_
          refine NodeS.branch [1, 7] inNil rfl rfl rfl ⟨?_, ?_, trivial⟩
          ·
           refine ⟨_, _, _, _, rfl, rfl, rfl, (⟨_, _, rfl, rfl, rfl⟩), fun E1 => ?_⟩
           refine (V1.loadRef (k := 4) rfl rfl tyk_93 rfl rfl rfl rfl rfl (ltb rfl) ?_)
           refine ⟨_, _, rfl, ?_⟩
           refine WalkP.nil ?_
           refine NodeS.branch [7] inNil rfl rfl rfl ⟨?_, trivial⟩
           ·
            refine ⟨_, _, _, _, rfl, rfl, rfl, (⟨_, _, rfl, rfl, ⟨_, _, rfl, rfl, rfl⟩⟩), fun E1 => ?_⟩
            refine (V1.callM 0 (rn + ρ0 + 1) [b83] [.ref bp 3 0 0, .vl (rn + ρ0 + 1) 1 (List.map encInt ([(0 : Int), (20000 : Int)] : List Int))] (p := (bp, ⟨3, [encCur ρ0 y8.2]⟩)) rfl rfl rfl cok_151 rfl rfl ⟨_, _, rfl, .same _, ⟨_, _, rfl, Lend.srMap 1 rfl (fun _ => rfl) (.head _), rfl⟩⟩ (bwCons (k := 0) rfl bwNil) (ok_spec_l1Cur_among hh9) rfl (.inr ⟨(by dsimp only; omega), by rintro _ _ ⟨rfl, rfl⟩; exact ⟨by simp [PV.no, PV.noL, optS_no, noL_iff, nbeq] <;> omega, by intro b ob h; first | exact optH_no (noL_map (fun _ => by simp [PV.no, PV.noL, noL_iff, nbeq]) _) b ob h | (simp at h; obtain ⟨rfl, rfl⟩ := h; exact noL_map (fun _ => by simp [PV.no, PV.noL, noL_iff, nbeq]) _) | (simp at h; obtain ⟨rfl, rfl⟩ := h; simp [PV.no, PV.noL, optS_no, noL_iff, nbeq] <;> omega)⟩⟩) (ltb rfl) ?_)
            rintro _ _ ⟨rfl, rfl⟩
            refine ⟨_, _, rfl, ?_⟩
            refine WalkP.step (p := ?pv1555) 8 rfl rfl rfl rfl rfl (⟨_, _, rfl, rfl, ⟨_, _, rfl, rfl, rfl⟩⟩) ?hv1555 ?rest1555
            case hv1555 =>
             intro E1 H1 hI1
             refine (V1.build rfl rfl zk_125 pl_125 rfl rfl (ltb rfl) ?_)
             exact rfl
            refine WalkP.nil ?_
            refine NodeS.branch [9] inNil rfl rfl rfl ⟨?_, trivial⟩
            ·
             refine ⟨_, _, _, _, rfl, rfl, rfl, (⟨_, _, rfl, rfl, rfl⟩), fun E1 => ?_⟩
             refine (V1.buildSliceT (f := encEvent) ([(⟨y8.1, y9.1⟩ : Event)] : List Event) rfl rfl esz_93 zk_125 rfl rfl rfl rfl rfl rfl rfl (ltb rfl) ?_)
             intro b86
             refine ⟨_, _, rfl, ?_⟩
             refine WalkP.nil ?_
             refine NodeS.fin inNil rfl rfl rfl (⟨_, _, rfl, rfl, ⟨_, _, rfl, rfl, ⟨_, _, rfl, rfl, ⟨_, _, rfl, rfl, rfl⟩⟩⟩⟩) ?_
             refine VO.cons rfl (V1.appendMap (k := 4) (f := encEvent) (l := r_Events) (m := ([(⟨y8.1, y9.1⟩ : Event)] : List Event)) rfl rfl rfl rfl rfl esz_93 eby_93 zk_125 rfl rfl rfl (SrcOf.srMap (k := 0) rfl isl_93) hh10 (ltb rfl) ?_)
             intro b87
             refine VO.cons rfl (V1.fieldRef rfl rfl fo_95_3 rfl (ltb rfl) ?_)
             refine VO.cons rfl (V1.storeRef (k := 5) rfl rfl tyk_93 rfl rfl rfl rfl rfl rfl rfl rfl rfl ?_)
             refine VO.nil ?_
             exact ⟨(((r_Events ++ ([(⟨y8.1, y9.1⟩ : Event)] : List Event)), y9.2), b87), Option.some.inj hm2, Keeps.mk (ks := [0, 2, 5, 6]) rfl ⟨rfl, rfl, trivial⟩ (⟨_, _, rfl, rfl, ⟨_, _, rfl, rfl, ⟨_, _, rfl, rfl, ⟨_, _, rfl, rfl, rfl⟩⟩⟩⟩) rfl⟩
          ·
           refine ⟨_, _, _, _, rfl, rfl, rfl, (⟨_, _, rfl, rfl, ⟨_, _, rfl, rfl, rfl⟩⟩), fun E1 => ?_⟩
           refine (V1.callM 0 (rn + ρ0 + 1) [b83] [.ref bp 3 0 0, .vl (rn + ρ0 + 1) 1 (List.map encInt ([(0 : Int), (20000 : Int)] : List Int))] (p := (bp, ⟨3, [encCur ρ0 y8.2]⟩)) rfl rfl rfl cok_151 rfl rfl ⟨_, _, rfl, .same _, ⟨_, _, rfl, Lend.srMap 1 rfl (fun _ => rfl) (.head _), rfl⟩⟩ (bwCons (k := 0) rfl bwNil) (ok_spec_l1Cur_among hh9) rfl (.inr ⟨(by dsimp only; omega), by rintro _ _ ⟨rfl, rfl⟩; exact ⟨by simp [PV.no, PV.noL, optS_no, noL_iff, nbeq] <;> omega, by intro b ob h; first | exact optH_no (noL_map (fun _ => by simp [PV.no, PV.noL, noL_iff, nbeq]) _) b ob h | (simp at h; obtain ⟨rfl, rfl⟩ := h; exact noL_map (fun _ => by simp [PV.no, PV.noL, noL_iff, nbeq]) _) | (simp at h; obtain ⟨rfl, rfl⟩ := h; simp [PV.no, PV.noL, optS_no, noL_iff, nbeq] <;> omega)⟩⟩) (ltb rfl) ?_)
           rintro _ _ ⟨rfl, rfl⟩
           refine ⟨_, _, rfl, ?_⟩
           refine WalkP.step (p := ?pv1556) 8 rfl rfl rfl rfl rfl (⟨_, _, rfl, rfl, ⟨_, _, rfl, rfl, rfl⟩⟩) ?hv1556 ?rest1556
           case hv1556 =>
            intro E1 H1 hI1
            refine (V1.build rfl rfl zk_125 pl_125 rfl rfl (ltb rfl) ?_)
            exact rfl
           refine WalkP.nil ?_
           refine NodeS.branch [1, 9] inNil rfl rfl rfl ⟨?_, ?_, trivial⟩
           ·
            refine ⟨_, _, _, _, rfl, rfl, rfl, (⟨_, _, rfl, rfl, rfl⟩), fun E1 => ?_⟩
            refine (V1.loadRef (k := 4) rfl rfl tyk_93 rfl rfl rfl rfl rfl (ltb rfl) ?_)
            refine ⟨_, _, rfl, ?_⟩
            refine WalkP.nil ?_
            refine NodeS.branch [9] inNil rfl rfl rfl ⟨?_, trivial⟩
            ·
             refine ⟨_, _, _, _, rfl, rfl, rfl, (⟨_, _, rfl, rfl, rfl⟩), fun E1 => ?_⟩
             refine (V1.buildSliceT (f := encEvent) ([(⟨y8.1, y9.1⟩ : Event)] : List Event) rfl rfl esz_93 zk_125 rfl rfl rfl rfl rfl rfl rfl (ltb rfl) ?_)
             intro b88
             refine ⟨_, _, rfl, ?_⟩
             refine WalkP.nil ?_
             refine NodeS.fin inNil rfl rfl rfl (⟨_, _, rfl, rfl, ⟨_, _, rfl, rfl, ⟨_, _, rfl, rfl, ⟨_, _, rfl, rfl, rfl⟩⟩⟩⟩) ?_
             refine VO.cons rfl (V1.appendMap (k := 4) (f := encEvent) (l := r_Events) (m := ([(⟨y8.1, y9.1⟩ : Event)] : List Event)) rfl rfl rfl rfl rfl esz_93 eby_93 zk_125 rfl rfl rfl (SrcOf.srMap (k := 0) rfl isl_93) hh10 (ltb rfl) ?_)
             intro b89
             refine VO.cons rfl (V1.fieldRef rfl rfl fo_95_3 rfl (ltb rfl) ?_)
             refine VO.cons rfl (V1.storeRef (k := 5) rfl rfl tyk_93 rfl rfl rfl rfl rfl rfl rfl rfl rfl ?_)
             refine VO.nil ?_
             exact ⟨(((r_Events ++ ([(⟨y8.1, y9.1⟩ : Event)] : List Event)), y9.2), b89), Option.some.inj hm2, Keeps.mk (ks := [0, 2, 5, 6]) rfl ⟨rfl, rfl, trivial⟩ (⟨_, _, rfl, rfl, ⟨_, _, rfl, rfl, ⟨_, _, rfl, rfl, ⟨_, _, rfl, rfl, rfl⟩⟩⟩⟩) rfl⟩
           ·
            refine ⟨_, _, _, _, rfl, rfl, rfl, (⟨_, _, rfl, rfl, rfl⟩), fun E1 => ?_⟩
            refine (V1.buildSliceT (f := encEvent) ([(⟨y8.1, y9.1⟩ : Event)] : List Event) rfl rfl esz_93 zk_125 rfl rfl rfl rfl rfl rfl rfl (ltb rfl) ?_)
            intro b90
            refine ⟨_, _, rfl, ?_⟩
            refine WalkP.nil ?_
            refine NodeS.branch [1] inNil rfl rfl rfl ⟨?_, trivial⟩
            ·
             refine ⟨_, _, _, _, rfl, rfl, rfl, (⟨_, _, rfl, rfl, rfl⟩), fun E1 => ?_⟩
             refine (V1.loadRef (k := 5) rfl rfl tyk_93 rfl rfl rfl rfl rfl (ltb rfl) ?_)
             refine ⟨_, _, rfl, ?_⟩
             refine WalkP.nil ?_
             refine NodeS.fin inNil rfl rfl rfl (⟨_, _, rfl, rfl, ⟨_, _, rfl, rfl, ⟨_, _, rfl, rfl, ⟨_, _, rfl, rfl, rfl⟩⟩⟩⟩) ?_
             refine VO.cons rfl (V1.appendMap (k := 4) (f := encEvent) (l := r_Events) (m := ([(⟨y8.1, y9.1⟩ : Event)] : List Event)) rfl rfl rfl rfl rfl esz_93 eby_93 zk_125 rfl rfl rfl (SrcOf.srMap (k := 0) rfl isl_93) hh10 (ltb rfl) ?_)
             intro b91
             refine VO.cons rfl (V1.fieldRef rfl rfl fo_95_3 rfl (ltb rfl) ?_)
             refine VO.cons rfl (V1.storeRef (k := 5) rfl rfl tyk_93 rfl rfl rfl rfl rfl rfl rfl rfl rfl ?_)
             refine VO.nil ?_
             exact ⟨(((r_Events ++ ([(⟨y8.1, y9.1⟩ : Event)] : List Event)), y9.2), b91), Option.some.inj hm2, Keeps.mk (ks := [0, 2, 5, 6]) rfl ⟨rfl, rfl, trivial⟩ (⟨_, _, rfl, rfl, ⟨_, _, rfl, rfl, ⟨_, _, rfl, rfl, ⟨_, _, rfl, rfl, rfl⟩⟩⟩⟩) rfl⟩
       ·
        refine ⟨_, _, _, _, rfl, rfl, rfl, (rfl), fun E1 => ?_⟩
        refine (V1.buildSliceT (f := encInt) ([(0 : Int), (20000 : Int)] : List Int) rfl rfl esz_34 zk_3 rfl rfl rfl rfl rfl rfl rfl (ltb rfl) ?_)
        intro b92
        refine ⟨_, _, rfl, ?_⟩
        refine WalkP.nil ?_
        refine NodeS.branch [1, 3] inNil rfl rfl rfl ⟨?_, ?_, trivial⟩
        ·
         refine ⟨_, _, _, _, rfl, rfl, rfl, (⟨_, _, rfl, rfl, rfl⟩), fun E1 => ?_⟩
         refine (V1.loadRef (k := 3) rfl rfl tyk_93 rfl rfl rfl rfl rfl (ltb rfl) ?_)
         refine ⟨_, _, rfl, ?_⟩
         refine WalkP.nil ?_
         refine NodeS.branch [3] inNil rfl rfl rfl ⟨?_, trivial⟩
         ·
          refine ⟨_, _, _, _, rfl, rfl, rfl, (rfl), fun E1 => ?_⟩
          refine (V1.buildSliceT (f := encInt) ([(1 : Int), (9 : Int), (10 : Int)] : List Int) rfl rfl esz_34 zk_3 rfl rfl rfl rfl rfl rfl rfl (ltb rfl) ?_)
          intro b93
          refine ⟨_, _, rfl, ?_⟩
          refine WalkP.nil ?_
          refine NodeS.branch [4] inNil rfl rfl rfl ⟨?_, trivial⟩
          ·
           refine ⟨_, _, _, _, rfl, rfl, rfl, (⟨_, _, rfl, rfl, ⟨_, _, rfl, rfl, rfl⟩⟩), fun E1 => ?_⟩
           refine (V1.callM 2 (rn + ρ0 + 1) [b93] [.ref bp 3 0 0, .vl (rn + ρ0 + 1) 1 (List.map encInt ([(1 : Int), (9 : Int), (10 : Int)] : List Int))] (p := (bp, ⟨3, [encCur ρ0 y5.2]⟩)) rfl rfl rfl cok_151 rfl rfl ⟨_, _, rfl, .same _, ⟨_, _, rfl, Lend.srMap 0 rfl (fun _ => rfl) (.head _), rfl⟩⟩ (bwCons (k := 0) rfl bwNil) (ok_spec_l1Cur_among hh8) rfl (.inr ⟨(by dsimp only; omega), by rintro _ _ ⟨rfl, rfl⟩; exact ⟨by simp [PV.no, PV.noL, optS_no, noL_iff, nbeq] <;> omega, by intro b ob h; first | exact optH_no (noL_map (fun _ => by simp [PV.no, PV.noL, noL_iff, nbeq]) _) b ob h | (simp at h; obtain ⟨rfl, rfl⟩ := h; exact noL_map (fun _ => by simp [PV.no, PV.noL, noL_iff, nbeq]) _) | (simp at h; obtain ⟨rfl, rfl⟩ := h; simp [PV.no, PV.noL, optS_no, noL_iff, nbeq] <;> omega)⟩⟩) (ltb rfl) ?_)
           rintro _ _ ⟨rfl, rfl⟩
           refine ⟨_, _, rfl, ?_⟩
           refine WalkP.nil ?_
           refine NodeS.branch [7] inNil rfl rfl rfl ⟨?_, trivial⟩
           ·
            refine ⟨_, _, _, _, rfl, rfl, rfl, (⟨_, _, rfl, rfl, ⟨_, _, rfl, rfl, rfl⟩⟩), fun E1 => ?_⟩
            refine (V1.callM 0 (rn + ρ0 + 1) [b92] [.ref bp 3 0 0, .vl (rn + ρ0 + 1) 1 (List.map encInt ([(0 : Int), (20000 : Int)] : List Int))] (p := (bp, ⟨3, [encCur ρ0 y8.2]⟩)) rfl rfl rfl cok_151 rfl rfl ⟨_, _, rfl, .same _, ⟨_, _, rfl, Lend.srMap 2 rfl (fun _ => rfl) (.head _), rfl⟩⟩ (bwCons (k := 1) rfl bwNil) (ok_spec_l1Cur_among hh9) rfl (.inr ⟨(by dsimp only; omega), by rintro _ _ ⟨rfl, rfl⟩; exact ⟨by simp [PV.no, PV.noL, optS_no, noL_iff, nbeq] <;> omega, by intro b ob h; first | exact optH_no (noL_map (fun _ => by simp [PV.no, PV.noL, noL_iff, nbeq]) _) b ob h | (simp at h; obtain ⟨rfl, rfl⟩ := h; exact noL_map (fun _ => by simp [PV.no, PV.noL, noL_iff, nbeq]) _) | (simp at h; obtain ⟨rfl, rfl⟩ := h; simp [PV.no, PV.noL, optS_no, noL_iff, nbeq] <;> omega)⟩⟩) (ltb rfl) ?_)
            rintro _ _ ⟨rfl, rfl⟩
            refine ⟨_, _, rfl, ?_⟩
            refine WalkP.step (p := ?pv1557) 8 rfl rfl rfl rfl rfl (⟨_, _, rfl, rfl, ⟨_, _, rfl, rfl, rfl⟩⟩) ?hv1557 ?rest1557
            case hv1557 =>
             intro E1 H1 hI1
             refine (V1.build rfl rfl zk_125 pl_125 rfl rfl (ltb rfl) ?_)
             exact rfl
            refine WalkP.nil ?_
            refine NodeS.branch [9] inNil rfl rfl rfl ⟨?_, trivial⟩
            ·
             refine ⟨_, _, _, _, rfl, rfl, rfl, (⟨_, _, rfl, rfl, rfl⟩), fun E1 => ?_⟩
             refine (V1.buildSliceT (f := encEvent) ([(⟨y8.1, y9.1⟩ : Event)] : List Event) rfl rfl esz_93 zk_125 rfl rfl rfl rfl rfl rfl rfl (ltb rfl) ?_)
             intro b94
             refine ⟨_, _, rfl, ?_⟩
             refine WalkP.nil ?_
             refine NodeS.fin inNil rfl rfl rfl (⟨_, _, rfl, rfl, ⟨_, _, rfl, rfl, ⟨_, _, rfl, rfl, ⟨_, _, rfl, rfl, rfl⟩⟩⟩⟩) ?_
             refine VO.cons rfl (V1.appendMap (k := 4) (f := encEvent) (l := r_Events) (m := ([(⟨y8.1, y9.1⟩ : Event)] : List Event)) rfl rfl rfl rfl rfl esz_93 eby_93 zk_125 rfl rfl rfl (SrcOf.srMap (k := 0) rfl isl_93) hh10 (ltb rfl) ?_)
             intro b95
             refine VO.cons rfl (V1.fieldRef rfl rfl fo_95_3 rfl (ltb rfl) ?_)
             refine VO.cons rfl (V1.storeRef (k := 5) rfl rfl tyk_93 rfl rfl rfl rfl rfl rfl rfl rfl rfl ?_)
             refine VO.nil ?_
             exact ⟨(((r_Events ++ ([(⟨y8.1, y9.1⟩ : Event)] : List Event)), y9.2), b95), Option.some.inj hm2, Keeps.mk (ks := [0, 2, 5, 6]) rfl ⟨rfl, rfl, trivial⟩ (⟨_, _, rfl, rfl, ⟨_, _, rfl, rfl, ⟨_, _, rfl, rfl, ⟨_, _, rfl, rfl, rfl⟩⟩⟩⟩) rfl⟩
        ·
         refine ⟨_, _, _, _, rfl, rfl, rfl, (rfl), fun E1 => ?_⟩
         refine (V1.buildSliceT (f := encInt) ([(1 : Int), (9 : Int), (10 : Int)] : List Int) rfl rfl esz_34 zk_3 rfl rfl rfl rfl rfl rfl rfl (ltb rfl) ?_)
         intro b96
         refine ⟨_, _, rfl, ?_⟩
         refine WalkP.nil ?_
         refine NodeS.branch [1, 4] inNil rfl rfl rfl ⟨?_, ?_, trivial⟩
         ·
          refine ⟨_, _, _, _, rfl, rfl, rfl, (⟨_, _, rfl, rfl, rfl⟩), fun E1 => ?_⟩
          refine (V1.loadRef (k := 4) rfl rfl tyk_93 rfl rfl rfl rfl rfl (ltb rfl) ?_)
          refine ⟨_, _, rfl, ?_⟩
          refine WalkP.nil ?_
          refine NodeS.branch [4] inNil rfl rfl rfl ⟨?_, trivial⟩
          ·
           refine ⟨_, _, _, _, rfl, rfl, rfl, (⟨_, _, rfl, rfl, ⟨_, _, rfl, rfl, rfl⟩⟩), fun E1 => ?_⟩
           refine (V1.callM 2 (rn + ρ0 + 1) [b96] [.ref bp 3 0 0, .vl (rn + ρ0 + 1) 1 (List.map encInt ([(1 : Int), (9 : Int), (10 : Int)] : List Int))] (p := (bp, ⟨3, [encCur ρ0 y5.2]⟩)) rfl rfl rfl cok_151 rfl rfl ⟨_, _, rfl, .same _, ⟨_, _, rfl, Lend.srMap 0 rfl (fun _ => rfl) (.head _), rfl⟩⟩ (bwCons (k := 0) rfl bwNil) (ok_spec_l1Cur_among hh8) rfl (.inr ⟨(by dsimp only; omega), by rintro _ _ ⟨rfl, rfl⟩; exact ⟨by simp [PV.no, PV.noL, optS_no, noL_iff, nbeq] <;> omega, by intro b ob h; first | exact optH_no (noL_map (fun _ => by simp [PV.no, PV.noL, noL_iff, nbeq]) _) b ob h | (simp at h; obtain ⟨rfl, rfl⟩ := h; exact noL_map (fun _ => by simp [PV.no, PV.noL, noL_iff, nbeq]) _) | (simp at h; obtain ⟨rfl, rfl⟩ := h; simp [PV.no, PV.noL, optS_no, noL_iff, nbeq] <;> omega)⟩⟩) (ltb rfl) ?_)
           rintro _ _ ⟨rfl, rfl⟩
           refine ⟨_, _, rfl, ?_⟩
           refine WalkP.nil ?_
           refine NodeS.branch [7] inNil rfl rfl rfl ⟨?_, trivial⟩
           ·
            refine ⟨_, _, _, _, rfl, rfl, rfl, (⟨_, _, rfl, rfl, ⟨_, _, rfl, rfl, rfl⟩⟩), fun E1 => ?_⟩
            refine (V1.callM 0 (rn + ρ0 + 1) [b92] [.ref bp 3 0 0, .vl (rn + ρ0 + 1) 1 (List.map encInt ([(0 : Int), (20000 : Int)] : List Int))] (p := (bp, ⟨3, [encCur ρ0 y8.2]⟩)) rfl rfl rfl cok_151 rfl rfl ⟨_, _, rfl, .same _, ⟨_, _, rfl, Lend.srMap 2 rfl (fun _ => rfl) (.head _), rfl⟩⟩ (bwCons (k := 1) rfl bwNil) (ok_spec_l1Cur_among hh9) rfl (.inr ⟨(by dsimp only; omega), by rintro _ _ ⟨rfl, rfl⟩; exact ⟨by simp [PV.no, PV.noL, optS_no, noL_iff, nbeq] <;> omega, by intro b ob h; first | exact optH_no (noL_map (fun _ => by simp [PV.no, PV.noL, noL_iff, nbeq]) _) b ob h | (simp at h; obtain ⟨rfl, rfl⟩ := h; exact noL_map (fun _ => by simp [PV.no, PV.noL, noL_iff, nbeq]) _) | (simp at h; obtain ⟨rfl, rfl⟩ := h; simp [PV.no, PV.noL, optS_no, noL_iff, nbeq] <;> omega)⟩⟩) (ltb rfl) ?_)
            rintro _ _ ⟨rfl, rfl⟩
            refine ⟨_, _, rfl, ?_⟩
            refine WalkP.step (p := ?pv1558) 8 rfl rfl rfl rfl rfl (⟨_, _, rfl, rfl, ⟨_, _, rfl, rfl, rfl⟩⟩) ?hv1558 ?rest1558
            case hv1558 =>
             intro E1 H1 hI1
             refine (V1.build rfl rfl zk_125 pl_125 rfl rfl (ltb rfl) ?_)
             exact rfl
            refine WalkP.nil ?_
            refine NodeS.branch [9] inNil rfl rfl rfl ⟨?_, trivial⟩
            ·
             refine ⟨_, _, _, _, rfl, rfl, rfl, (⟨_, _, rfl, rfl, rfl⟩), fun E1 => ?_⟩
             refine (V1.buildSliceT (f := encEvent) ([(⟨y8.1, y9.1⟩ : Event)] : List Event) rfl rfl esz_93 zk_125 rfl rfl rfl rfl rfl rfl rfl (ltb rfl) ?_)
             intro b97
             refine ⟨_, _, rfl, ?_⟩
             refine WalkP.nil ?_
             refine NodeS.fin inNil rfl rfl rfl (⟨_, _, rfl, rfl, ⟨_, _, rfl, rfl, ⟨_, _, rfl, rfl, ⟨_, _, rfl, rfl, rfl⟩⟩⟩⟩) ?_
             refine VO.cons rfl (V1.appendMap (k := 4) (f := encEvent) (l := r_Events) (m := ([(⟨y8.1, y9.1⟩ : Event)] : List Event)) rfl rfl rfl rfl rfl esz_93 eby_93 zk_125 rfl rfl rfl (SrcOf.srMap (k := 0) rfl isl_93) hh10 (ltb rfl) ?_)
             intro b98
             refine VO.cons rfl (V1.fieldRef rfl rfl fo_95_3 rfl (ltb rfl) ?_)
             refine VO.cons rfl (V1.storeRef (k := 5) rfl rfl tyk_93 rfl rfl rfl rfl rfl rfl rfl rfl rfl ?_)
             refine VO.nil ?_
             exact ⟨(((r_Events ++ ([(⟨y8.1, y9.1⟩ : Event)] : List Event)), y9.2), b98), Option.some.inj hm2, Keeps.mk (ks := [0, 2, 5, 6]) rfl ⟨rfl, rfl, trivial⟩ (⟨_, _, rfl, rfl, ⟨_, _, rfl, rfl, ⟨_, _, rfl, rfl, ⟨_, _, rfl, rfl, rfl⟩⟩⟩⟩) rfl⟩
         ·
          refine ⟨_, _, _, _, rfl, rfl, rfl, (⟨_, _, rfl, rfl, ⟨_, _, rfl, rfl, rfl⟩⟩), fun E1 => ?_⟩
          refine (V1.callM 2 (rn + ρ0 + 1) [b96] [.ref bp 3 0 0, .vl (rn + ρ0 + 1) 1 (List.map encInt ([(1 : Int), (9 : Int), (10 : Int)] : List Int))] (p := (bp, ⟨3, [encCur ρ0 y5.2]⟩)) rfl rfl rfl cok_151 rfl rfl ⟨_, _, rfl, .same _, ⟨_, _, rfl, Lend.srMap 0 rfl (fun _ => rfl) (.head _), rfl⟩⟩ (bwCons (k := 0) rfl bwNil) (ok_spec_l1Cur_among hh8) rfl (.inr ⟨(by dsimp only; omega), by rintro _ _ ⟨rfl, rfl⟩; exact ⟨by simp [PV.no, PV.noL, optS_no, noL_iff, nbeq] <;> omega, by intro b ob h; first | exact optH_no (noL_map (fun _ => by simp [PV.no, PV.noL, noL_iff, nbeq]) _) b ob h | (simp at h; obtain ⟨rfl, rfl⟩ := h; exact noL_map (fun _ => by simp [PV.no, PV.noL, noL_iff, nbeq]) _) | (simp at h; obtain ⟨rfl, rfl⟩ := h; simp [PV.no, PV.noL, optS_no, noL_iff, nbeq] <;> omega)⟩⟩) (ltb rfl) ?_)
          rintro _ _ ⟨rfl, rfl⟩
          refine ⟨_, _, rfl, ?_⟩
          refine WalkP.nil ?_
          refine NodeS.branch [1, 7] inNil rfl rfl rfl ⟨?_, ?_, trivial⟩
          ·
           refine ⟨_, _, _, _, rfl, rfl, rfl, (⟨_, _, rfl, rfl, rfl⟩), fun E1 => ?_⟩
           refine (V1.loadRef (k := 4) rfl rfl tyk_93 rfl rfl rfl rfl rfl (ltb rfl) ?_)
           refine ⟨_, _, rfl, ?_⟩
           refine WalkP.nil ?_
           refine NodeS.branch [7] inNil rfl rfl rfl ⟨?_, trivial⟩
           ·
            refine ⟨_, _, _, _, rfl, rfl, rfl, (⟨_, _, rfl, rfl, ⟨_, _, rfl, rfl, rfl⟩⟩), fun E1 => ?_⟩
            refine (V1.callM 0 (rn + ρ0 + 1) [b92] [.ref bp 3 0 0, .vl (rn + ρ0 + 1) 1 (List.map encInt ([(0 : Int), (20000 : Int)] : List Int))] (p := (bp, ⟨3, [encCur ρ0 y8.2]⟩)) rfl rfl rfl cok_151 rfl rfl ⟨_, _, rfl, .same _, ⟨_, _, rfl, Lend.srMap 2 rfl (fun _ => rfl) (.head _), rfl⟩⟩ (bwCons (k := 1) rfl bwNil) (ok_spec_l1Cur_among hh9) rfl (.inr ⟨(by dsimp only; omega), by rintro _ _ ⟨rfl, rfl⟩; exact ⟨by simp [PV.no, PV.noL, optS_no, noL_iff, nbeq] <;> omega, by intro b ob h; first | exact optH_no (noL_map (fun _ => by simp [PV.no, PV.noL, noL_iff, nbeq]) _) b ob h | (simp at h; obtain ⟨rfl, rfl⟩ := h; exact noL_map (fun _ => by simp [PV.no, PV.noL, noL_iff, nbeq]) _) | (simp at h; obtain ⟨rfl, rfl⟩ := h; simp [PV.no, PV.noL, optS_no, noL_iff, nbeq] <;> omega)⟩⟩) (ltb rfl) ?_)
            rintro _ _ ⟨rfl, rfl⟩
            refine ⟨_, _, rfl, ?_⟩
            refine WalkP.step (p := ?pv1559) 8 rfl rfl rfl rfl rfl (⟨_, _, rfl, rfl, ⟨_, _, rfl, rfl, rfl⟩⟩) ?hv1559 ?rest1559
            case hv1559 =>
             intro E1 H1 hI1
             refine (V1.build rfl rfl zk_125 pl_125 rfl rfl (ltb rfl) ?_)
             exact rfl
            refine WalkP.nil ?_
            refine NodeS.branch [9] inNil rfl rfl rfl ⟨?_, trivial⟩
            ·
             refine ⟨_, _, _, _, rfl, rfl, rfl, (⟨_, _, rfl, rfl, rfl⟩), fun E1 => ?_⟩
             refine (V1.buildSliceT (f := encEvent) ([(⟨y8.1, y9.1⟩ : Event)] : List Event) rfl rfl esz_93 zk_125 rfl rfl rfl rfl rfl rfl rfl (ltb rfl) ?_)
             intro b99
             refine ⟨_, _, rfl, ?_⟩
             refine WalkP.nil ?_
             refine NodeS.fin inNil rfl rfl rfl (⟨_, _, rfl, rfl, ⟨_, _, rfl, rfl, ⟨_, _, rfl, rfl, ⟨_, _, rfl, rfl, rfl⟩⟩⟩⟩) ?_
             refine VO.cons rfl (V1.appendMap (k := 4) (f := encEvent) (l := r_Events) (m := ([(⟨y8.1, y9.1⟩ : Event)] : List Event)) rfl rfl rfl rfl rfl esz_93 eby_93 zk_125 rfl rfl rfl (SrcOf.srMap (k := 0) rfl isl_93) hh10 (ltb rfl) ?_)
             intro b100
             refine VO.cons rfl (V1.fieldRef rfl rfl fo_95_3 rfl (ltb rfl) ?_)
             refine VO.cons rfl (V1.storeRef (k := 5) rfl rfl tyk_93 rfl rfl rfl rfl rfl rfl rfl rfl rfl ?_)
             refine VO.nil ?_
             exact ⟨(((r_Events ++ ([(⟨y8.1, y9.1⟩ : Event)] : List Event)), y9.2), b100), Option.some.inj hm2, Keeps.mk (ks := [0, 2, 5, 6]) rfl ⟨rfl, rfl, trivial⟩ (⟨_, _, rfl, rfl, ⟨_, _, rfl, rfl, ⟨_, _, rfl, rfl, ⟨_, _, rfl, rfl, rfl⟩⟩⟩⟩) rfl⟩
          ·
           refine ⟨_, _, _, _, rfl, rfl, rfl, (⟨_, _, rfl, rfl, ⟨_, _, rfl, rfl, rfl⟩⟩), fun E1 => ?_⟩
           refine (V1.callM 0 (rn + ρ0 + 1) [b92] [.ref bp 3 0 0, .vl (rn + ρ0 + 1) 1 (List.map encInt ([(0 : Int), (20000 : Int)] : List Int))] (p := (bp, ⟨3, [encCur ρ0 y8.2]⟩)) rfl rfl rfl cok_151 rfl rfl ⟨_, _, rfl, .same _, ⟨_, _, rfl, Lend.srMap 2 rfl (fun _ => rfl) (.head _), rfl⟩⟩ (bwCons (k := 1) rfl bwNil) (ok_spec_l1Cur_among hh9) rfl (.inr ⟨(by dsimp only; omega), by rintro _ _ ⟨rfl, rfl⟩; exact ⟨by simp [PV.no, PV.noL, optS_no, noL_iff, nbeq] <;> omega, by intro b ob h; first | exact optH_no (noL_map (fun _ => by simp [PV.no, PV.noL, noL_iff, nbeq]) _) b ob h | (simp at h; obtain ⟨rfl, rfl⟩ := h; exact noL_map (fun _ => by simp [PV.no, PV.noL, noL_iff, nbeq]) _) | (simp at h; obtain ⟨rfl, rfl⟩ := h; simp [PV.no, PV.noL, optS_no, noL_iff, nbeq] <;> omega)⟩⟩) (ltb rfl) ?_)
           rintro _ _ ⟨rfl, rfl⟩
           refine ⟨_, _, rfl, ?_⟩
           refine WalkP.step (p := ?pv1560) 8 rfl rfl rfl rfl rfl (⟨_, _, rfl, rfl, ⟨_, _, rfl, rfl, rfl⟩⟩) ?hv1560 ?rest1560
           case hv1560 =>
            intro E1 H1 hI1
            refine (V1.build rfl rfl zk_125 pl_125 rfl rfl (ltb rfl) ?_)
            exact rfl
           refine WalkP.nil ?_
           refine NodeS.branch [1, 9] inNil rfl rfl rfl ⟨?_, ?_, trivial⟩
           ·
            refine ⟨_, _, _, _, rfl, rfl, rfl, (⟨_, _, rfl, rfl, rfl⟩), fun E1 => ?_⟩
            refine (V1.loadRef (k := 4) rfl rfl tyk_93 rfl rfl rfl rfl rfl (ltb rfl) ?_)
            refine ⟨_, _, rfl, ?_⟩
            refine WalkP.nil ?_
            refine NodeS.branch [9] inNil rfl rfl rfl ⟨?_, trivial⟩
            ·
             refine ⟨_, _, _, _, rfl, rfl, rfl, (⟨_, _, rfl, rfl, rfl⟩), fun E1 => ?_⟩
             refine (V1.buildSliceT (f := encEvent) ([(⟨y8.1, y9.1⟩ : Event)] : List Event) rfl rfl esz_93 zk_125 rfl rfl rfl rfl rfl rfl rfl (ltb rfl) ?_)
             intro b101
             refine ⟨_, _, rfl, ?_⟩
             refine WalkP.nil ?_
             refine NodeS.fin inNil rfl rfl rfl (⟨_, _, rfl, rfl, ⟨_, _, rfl, rfl, ⟨_, _, rfl, rfl, ⟨_, _, rfl, rfl, rfl⟩⟩⟩⟩) ?_
             refine VO.cons rfl (V1.appendMap (k := 4) (f := encEvent) (l := r_Events) (m := ([(⟨y8.1, y9.1⟩ : Event)] : List Event)) rfl rfl rfl rfl rfl esz_93 eby_93 zk_125 rfl rfl rfl (SrcOf.srMap (k := 0) rfl isl_93) hh10 (ltb rfl) ?_)
             intro b102
             refine VO.cons rfl (V1.fieldRef rfl rfl fo_95_3 rfl (ltb rfl) ?_)
             refine VO.cons rfl (V1.storeRef (k := 5) rfl rfl tyk_93 rfl rfl rfl rfl rfl rfl rfl rfl rfl ?_)
             refine VO.nil ?_
             exact ⟨(((r_Events ++ ([(⟨y8.1, y9.1⟩ : Event)] : List Event)), y9.2), b102), Option.some.inj hm2, Keeps.mk (ks := [0, 2, 5, 6]) rfl ⟨rfl, rfl, trivial⟩ (⟨_, _, rfl, rfl, ⟨_, _, rfl, rfl, ⟨_, _, rfl, rfl, ⟨_, _, rfl, rfl, rfl⟩⟩⟩⟩) rfl⟩
           ·
            refine ⟨_, _, _, _, rfl, rfl, rfl, (⟨_, _, rfl, rfl, rfl⟩), fun E1 => ?_⟩
            refine (V1.buildSliceT (f := encEvent) ([(⟨y8.1, y9.1⟩ : Event)] : List Event) rfl rfl esz_93 zk_125 rfl rfl rfl rfl rfl rfl rfl (ltb rfl) ?_)
            intro b103
            refine ⟨_, _, rfl, ?_⟩
            refine WalkP.nil ?_
            refine NodeS.branch [1] inNil rfl rfl rfl ⟨?_, trivial⟩
            ·
             refine ⟨_, _, _, _, rfl, rfl, rfl, (⟨_, _, rfl, rfl, rfl⟩), fun E1 => ?_⟩
             refine (V1.loadRef (k := 5) rfl rfl tyk_93 rfl rfl rfl rfl rfl (ltb rfl) ?_)
             refine ⟨_, _, rfl, ?_⟩
             refine WalkP.nil ?_
             refine NodeS.fin inNil rfl rfl rfl (⟨_, _, rfl, rfl, ⟨_, _, rfl, rfl, ⟨_, _, rfl, rfl, ⟨_, _, rfl, rfl, rfl⟩⟩⟩⟩) ?_
             refine VO.cons rfl (V1.appendMap (k := 4) (f := encEvent) (l := r_Events) (m := ([(⟨y8.1, y9.1⟩ : Event)] : List Event)) rfl rfl rfl rfl rfl esz_93 eby_93 zk_125 rfl rfl rfl (SrcOf.srMap (k := 0) rfl isl_93) hh10 (ltb rfl) ?_)
             intro b104
             refine VO.cons rfl (V1.fieldRef rfl rfl fo_95_3 rfl (ltb rfl) ?_)
             refine VO.cons rfl (V1.storeRef (k := 5) rfl rfl tyk_93 rfl rfl rfl rfl rfl rfl rfl rfl rfl ?_)
             refine VO.nil ?_
             exact ⟨(((r_Events ++ ([(⟨y8.1, y9.1⟩ : Event)] : List Event)), y9.2), b104), Option.some.inj hm2, Keeps.mk (ks := [0, 2, 5, 6]) rfl ⟨rfl, rfl, trivial⟩ (⟨_, _, rfl, rfl, ⟨_, _, rfl, rfl, ⟨_, _, rfl, rfl, ⟨_, _, rfl, rfl, rfl⟩⟩⟩⟩) rfl⟩
      ·
       rintro ⟨⟨r_Events4, o⟩, b54⟩ rfl
       try dsimp only at hm1
       exact ⟨((y0.1, y1.1, r_Events4, o), b54), Option.some.inj hm1, Keeps.mk (ks := [0, 1, 2, 3]) rfl ⟨rfl, rfl, trivial⟩ (⟨_, _, rfl, rfl, ⟨_, _, rfl, rfl, ⟨_, _, rfl, rfl, ⟨_, _, rfl, rfl, rfl⟩⟩⟩⟩) rfl⟩
     ·
      replace hm1 := cond_f hc4 hm1
      refine V.skip ?_
      exact ⟨((y0.1, y1.1, r_Events, y5.2), b5), Option.some.inj hm1, Keeps.mk (ks := [1, 0, 2, 3]) rfl ⟨rfl, rfl, trivial⟩ (⟨_, _, rfl, rfl, ⟨_, _, rfl, rfl, ⟨_, _, rfl, rfl, ⟨_, _, rfl, rfl, rfl⟩⟩⟩⟩) rfl⟩
  ·
   rintro ⟨⟨r_Series, r_Made, r_Events3, c_3⟩, b47⟩ rfl
   try dsimp only at hm0
   refine V.seq ?_
   refine V.region ?_
   refine VO.cons rfl (V1.loadRefAll (k := 2) rfl rfl tyk_95 rfl rfl rfl rfl rfl (ltb rfl) ?_)
   refine VO.cons rfl (V1.storeRefAll (k := 3) rfl rfl tyk_95 rfl rfl rfl rfl rfl rfl ?_)
   refine VO.nil ?_
   refine V.weakenK (Keeps.freezeG 0 rn [(63, .agg [.int .i64 id_, .int .i64 r_Series, .int .i64 r_Made, .vl rn 2 (List.map encEvent r_Events3)])] [(bp, ⟨3, [encCur ρ0 c_3]⟩), (b4, ⟨4, [.agg [.int .i64 id_, .int .i64 r_Series, .int .i64 r_Made, .vl rn 2 (List.map encEvent r_Events3)]]⟩), (b0, ⟨4, [.agg [.int .i64 id_, .int .i64 r_Series, .int .i64 r_Made, .vl rn 2 (List.map encEvent r_Events3)]]⟩)] (f := encEvent) (l := r_Events3) rfl (fun _ => rfl) ⟨⟨_, rfl, (.agg (.cons .same (.cons .same (.cons .same (.cons .here .nil)))))⟩, trivial⟩ ⟨_, _, rfl, rfl, .inl rfl, ⟨_, _, rfl, rfl, .inr (.cons (.agg (.cons .same (.cons .same (.cons .same (.cons .here .nil))))) .nil), ⟨_, _, rfl, rfl, .inr (.cons (.agg (.cons .same (.cons .same (.cons .same (.cons .here .nil))))) .nil), rfl⟩⟩⟩ rfl (iOne (b := bp) 0 rfl)) ?_
   refine V.ret ?_
   obtain rfl := Option.some.inj hm0
   exact ⟨_, _, ⟨_, _, rfl, ⟨_, _, 2, _, rfl, rfl, rfl, rfl, tyk_95, rfl⟩, rfl⟩, (sub1 (k := 0) rfl), rfl, rfl⟩

theorem ok_spec_DrawIsRecord {ρ0 rn : Nat} {code : List Int} {r : Record} (h : M.spec_DrawIsRecord code = some r) : Does Try.prog 105 [.vl ρ0 1 (List.map encU8 code)] [] rn (fun x H => x = encRecord rn r ∧ H = []) := by
 have hm0 := h; clear h; unfold M.spec_DrawIsRecord at hm0
 try dsimp only at hm0
 refine Does.intro (N := 12) Try.func105 rfl rfl rfl rfl ?_
 intro w0 S0
 refine V.seq ?_
 refine V.region ?_
 refine VO.cons rfl (V1.alloc rfl rfl zk_95 (ltb rfl) ?_)
 intro b0
 refine VO.nil ?_
 refine V.seq ?_
 refine V.region ?_
 refine VO.cons rfl (V1.move rfl rfl rfl (ltb rfl) ?_)
 refine VO.cons rfl (V1.build rfl rfl zk_149 pl_149 rfl rfl (ltb rfl) ?_)
 refine VO.cons rfl (V1.boxN (n := 3) rfl rfl rfl rfl rfl (ltb rfl) ?_)
 intro b1
 refine VO.cons rfl (V1.assign rfl rfl rfl (ltb rfl) ?_)
 refine VO.nil ?_
 refine V.keep 12 [2, 3] [0, 1] (E0 := [(2, .ref b0 4 0 0), (3, .ref b1 3 0 0)]) (H0 := [(b1, ⟨3, [.agg [.vl ρ0 1 (List.map encU8 code), .int .i64 (0 : Int), .int .u64 (0 : Int)]]⟩), (b0, ⟨4, [.agg [.int .i64 (0 : Int), .int .i64 (0 : Int), .int .i64 (0 : Int), .nils]]⟩)]) rfl (⟨_, _, rfl, rfl, ⟨_, _, rfl, rfl, rfl⟩⟩) (⟨_, _, rfl, rfl, ⟨_, _, rfl, rfl, rfl⟩⟩) rfl ?_
 refine V.seq ?_
 replace hm0 := bindO hm0; rcases hm0 with ⟨y0, hh0, hm0⟩
 replace hm0 := bindO hm0; rcases hm0 with ⟨y1, hh1, hm0⟩
 refine V.region ?_
 refine VO.cons rfl (V1.move rfl rfl rfl (ltb rfl) ?_)
 refine VO.cons rfl (V1.move rfl rfl rfl (ltb rfl) ?_)
 refine VO.cons rfl (V1.buildSliceT (f := encInt) ([(1 : Int), (12 : Int), (999 : Int), (0 : Int), (1000 : Int)] : List Int) rfl rfl esz_34 zk_3 rfl rfl rfl rfl rfl rfl rfl (ltb rfl) ?_)
 intro b2
 refine VO.cons rfl (V1.callM 1 (rn + ρ0 + 1) [b2] [.ref b1 3 0 0, .vl (rn + ρ0 + 1) 1 (List.map encInt ([(1 : Int), (12 : Int), (999 : Int), (0 : Int), (1000 : Int)] : List Int))] (p := (b1, ⟨3, [.agg [.vl ρ0 1 (List.map encU8 code), .int .i64 (0 : Int), .int .u64 (0 : Int)]]⟩)) rfl rfl rfl cok_151 rfl rfl ⟨_, _, rfl, .same _, ⟨_, _, rfl, Lend.srMap 0 rfl (fun _ => rfl) (.head _), rfl⟩⟩ (bwCons (k := 0) rfl bwNil) (ok_spec_l1Cur_among hh0) rfl (.inr ⟨(by dsimp only; omega), by rintro _ _ ⟨rfl, rfl⟩; exact ⟨by simp [PV.no, PV.noL, optS_no, noL_iff, nbeq] <;> omega, by intro b ob h; first | exact optH_no (noL_map (fun _ => by simp [PV.no, PV.noL, noL_iff, nbeq]) _) b ob h | (simp at h; obtain ⟨rfl, rfl⟩ := h; exact noL_map (fun _ => by simp [PV.no, PV.noL, noL_iff, nbeq]) _) | (simp at h; obtain ⟨rfl, rfl⟩ := h; simp [PV.no, PV.noL, optS_no, noL_iff, nbeq] <;> omega)⟩⟩) (ltb rfl) ?_)
 rintro _ _ ⟨rfl, rfl⟩
 refine VO.cons rfl (V1.callM 0 (rn + ρ0 + 1) [] [.ref b1 3 0 0, .int .i64 y0.1] (p := (b1, ⟨3, [encCur ρ0 y0.2]⟩)) rfl rfl rfl cok_182 rfl rfl ⟨_, _, rfl, .same _, ⟨_, _, rfl, .same _, rfl⟩⟩ bwNil (ok_spec_l1Cur_record hh1) rfl (.inl rfl) (ltb rfl) ?_)
 rintro _ _ ⟨rfl, rfl⟩
 refine VO.cons rfl (V1.storeRefAll (k := 2) rfl rfl tyk_95 rfl rfl rfl rfl rfl rfl ?_)
 refine VO.nil ?_
 refine V.ret ?_
 obtain rfl := Option.some.inj hm0
 exact ⟨_, [], ⟨_, _, rfl, ⟨_, _, 2, _, rfl, rfl, rfl, rfl, tyk_95, rfl⟩, rfl⟩, List.nil_sublist _, rfl, rfl⟩

theorem ok_impl_IsEvent {rn : Nat} {e_ : Event} {r : Bool} (h : M.impl_IsEvent e_ = some r) : Does Try.prog 123 [encEvent e_] [] rn (fun x H => x = .bool r ∧ H = []) := by
 have hm0 := h; clear h; unfold M.impl_IsEvent at hm0
 try dsimp only at hm0
 refine Does.intro (N := 11) Try.func123 rfl rfl rfl rfl ?_
 intro w0 S0
 refine V.seq ?_
 refine V.region ?_
 refine VO.cons rfl (V1.boxN (n := 2) rfl rfl rfl rfl rfl (ltb rfl) ?_)
 intro b0
 refine VO.cons rfl (V1.assign rfl rfl rfl (ltb rfl) ?_)
 refine VO.nil ?_
 refine V.seq ?_
 replace hm0 := bindO hm0; rcases hm0 with ⟨y0, hh0, hm0⟩
 replace hm0 := bindO hm0; rcases hm0 with ⟨y1, hh1, hm0⟩
 refine V.region ?_
 refine VO.cons rfl (V1.fieldRef rfl rfl fo_125_0 rfl (ltb rfl) ?_)
 refine VO.cons rfl (V1.loadRef (k := 0) rfl rfl tyk_3 rfl rfl rfl rfl rfl (ltb rfl) ?_)
 refine VO.cons rfl (V1.call rfl rfl rfl cok_157 rfl (ok_impl_within hh0) rfl (ltb rfl) ?_)
 rintro _ _ ⟨rfl, rfl⟩
 refine VO.cons rfl (V1.move rfl rfl rfl (ltb rfl) ?_)
 apply VO.and (n := 3) rfl rfl rfl rfl rfl rfl (ltb rfl) (.none rfl)
 ·
  intro hg0
  refine VO.step (.some rfl rfl rfl) (V1.fieldRef rfl rfl fo_125_1 rfl (ltb rfl) ?_)
  refine VO.step (.some rfl rfl rfl) (V1.loadRef (k := 0) rfl rfl tyk_3 rfl rfl rfl rfl rfl (ltb rfl) ?_)
  refine VO.step (.some rfl rfl rfl) (V1.call rfl rfl rfl cok_144 rfl (ok_impl_isDay (cond_t hg0 hh1)) rfl (ltb rfl) ?_)
  rintro _ _ ⟨rfl, rfl⟩
  exact VO.nil ⟨rfl, rfl, rfl, rfl, .inr ⟨rfl, .inr ⟨rfl, .inr ⟨rfl, .inr ⟨rfl, .inl rfl⟩⟩⟩⟩⟩
 refine VO.cons rfl (V1.assign rfl rfl rfl (ltb rfl) ?_)
 refine VO.nil ?_
 refine V.ret ?_
 obtain rfl := Option.some.inj hm0
 exact ⟨_, [], ⟨_, _, rfl, rfl, rfl⟩, List.nil_sublist _, rfl, rfl⟩

theorem ok_impl_IsRecord {ρ0 rn : Nat} {r_ : Record} {r : Bool} (h : M.impl_IsRecord r_ = some r) : Does Try.prog 106 [encRecord ρ0 r_] [] rn (fun x H => x = .bool r ∧ H = []) := by
 have hm0 := h; clear h; unfold M.impl_IsRecord at hm0
 try dsimp only at hm0
 refine Does.intro (N := 62) Try.func106 rfl rfl rfl rfl ?_
 intro w0 S0
 refine V.seq ?_
 refine V.region ?_
 refine VO.cons rfl (V1.boxN (n := 4) rfl rfl rfl rfl rfl (ltb rfl) ?_)
 intro b0
 refine VO.cons rfl (V1.assign rfl rfl rfl (ltb rfl) ?_)
 refine VO.nil ?_
 refine V.seq ?_
 refine V.seq ?_
 replace hm0 := bindO hm0; rcases hm0 with ⟨y0, hh0, hm0⟩
 replace hm0 := bindO hm0; rcases hm0 with ⟨y1, hh1, hm0⟩
 replace hm0 := bindO hm0; rcases hm0 with ⟨y2, hh2, hm0⟩
 refine V.region ?_
 refine VO.cons rfl (V1.fieldRef rfl rfl fo_95_0 rfl (ltb rfl) ?_)
 refine VO.cons rfl (V1.loadRef (k := 0) rfl rfl tyk_3 rfl rfl rfl rfl rfl (ltb rfl) ?_)
 refine VO.cons rfl (V1.call rfl rfl rfl cok_157 rfl (ok_impl_within hh0) rfl (ltb rfl) ?_)
 rintro _ _ ⟨rfl, rfl⟩
 refine VO.cons rfl (V1.not rfl rfl rfl (ltb rfl) ?_)
 refine VO.cons rfl (V1.move rfl rfl rfl (ltb rfl) ?_)
 apply VO.or (n := 4) rfl rfl rfl rfl rfl rfl (ltb rfl) (.none rfl)
 ·
  intro hg0
  refine VO.step (.some rfl rfl rfl) (V1.fieldRef rfl rfl fo_95_1 rfl (ltb rfl) ?_)
  refine VO.step (.some rfl rfl rfl) (V1.loadRef (k := 0) rfl rfl tyk_3 rfl rfl rfl rfl rfl (ltb rfl) ?_)
  refine VO.step (.some rfl rfl rfl) (V1.call rfl rfl rfl cok_165 rfl (ok_impl_isId (cond_f hg0 hh1)) rfl (ltb rfl) ?_)
  rintro _ _ ⟨rfl, rfl⟩
  refine VO.step (.some rfl rfl rfl) (V1.not rfl rfl rfl (ltb rfl) ?_)
  exact VO.nil ⟨rfl, rfl, rfl, rfl, .inr ⟨rfl, .inr ⟨rfl, .inr ⟨rfl, .inr ⟨rfl, .inr ⟨rfl, .inl rfl⟩⟩⟩⟩⟩⟩
 refine VO.cons rfl (V1.move rfl rfl rfl (ltb rfl) ?_)
 apply VO.or (n := 4) rfl rfl rfl rfl rfl rfl (ltb rfl) (.none rfl)
 ·
  intro hg1
  refine VO.step (.some rfl rfl rfl) (V1.fieldRef rfl rfl fo_95_2 rfl (ltb rfl) ?_)
  refine VO.step (.some rfl rfl rfl) (V1.loadRef (k := 0) rfl rfl tyk_3 rfl rfl rfl rfl rfl (ltb rfl) ?_)
  refine VO.step (.some rfl rfl rfl) (V1.call rfl rfl rfl cok_144 rfl (ok_impl_isDay (cond_f hg1 hh2)) rfl (ltb rfl) ?_)
  rintro _ _ ⟨rfl, rfl⟩
  refine VO.step (.some rfl rfl rfl) (V1.not rfl rfl rfl (ltb rfl) ?_)
  exact VO.nil ⟨rfl, rfl, rfl, rfl, .inr ⟨rfl, .inr ⟨rfl, .inr ⟨rfl, .inr ⟨rfl, .inr ⟨rfl, .inl rfl⟩⟩⟩⟩⟩⟩
 refine VO.cons rfl (V1.move rfl rfl rfl (ltb rfl) ?_)
 apply VO.or (n := 4) rfl rfl rfl rfl rfl rfl (ltb rfl) (.none rfl)
 ·
  intro hg2
  refine VO.step (.some rfl rfl rfl) (V1.fieldRef rfl rfl fo_95_3 rfl (ltb rfl) ?_)
  refine VO.step (.some rfl rfl rfl) (V1.loadRef (k := 0) rfl rfl tyk_93 rfl rfl rfl rfl rfl (ltb rfl) ?_)
  refine VO.step (.some rfl rfl rfl) (V1.lenMap rfl rfl rfl rfl rfl rfl isl_93 (ltb rfl) ?_)
  refine VO.step (.some rfl rfl rfl) (V1.int rfl rfl rfl rfl rfl (ltb rfl) ?_)
  exact VO.nil ⟨rfl, rfl, rfl, rfl, .inr ⟨rfl, .inr ⟨rfl, .inr ⟨rfl, .inr ⟨rfl, .inr ⟨rfl, .inl rfl⟩⟩⟩⟩⟩⟩
 refine VO.nil ?_
 refine V.keep 62 [1, 26] [0] (E0 := [(1, .ref b0 4 0 0), (26, .bool ((((!y0) || (!y1)) || (!y2)) || (decide ((r_.Events.length : Int) > (6 : Int)))))]) (H0 := [(b0, ⟨4, [encRecord ρ0 r_]⟩)]) rfl (⟨_, _, rfl, rfl, ⟨_, _, rfl, rfl, rfl⟩⟩) (⟨_, _, rfl, rfl, rfl⟩) rfl ?_
 refine V.cond rfl (fun hc0 => ?_) (fun hc0 => ?_)
 ·
  replace hm0 := cond_t hc0 hm0
  refine V.seq ?_
  refine V.region ?_
  refine VO.cons rfl (V1.assign rfl rfl rfl (ltb rfl) ?_)
  refine VO.nil ?_
  refine V.ret ?_
  obtain rfl := Option.some.inj hm0
  exact ⟨_, [], ⟨_, _, rfl, rfl, rfl⟩, List.nil_sublist _, rfl, rfl⟩
 ·
  replace hm0 := cond_f hc0 hm0
  refine V.skip ?_
  refine V.seq ?_
  refine V.seq ?_
  refine V.region ?_
  refine VO.cons rfl (V1.fieldRef rfl rfl fo_95_3 rfl (ltb rfl) ?_)
  refine VO.cons rfl (V1.loadRef (k := 0) rfl rfl tyk_93 rfl rfl rfl rfl rfl (ltb rfl) ?_)
  refine VO.cons rfl (V1.lenMap rfl rfl rfl rfl rfl rfl isl_93 (ltb rfl) ?_)
  refine VO.cons rfl (V1.move rfl rfl rfl (ltb rfl) ?_)
  refine VO.nil ?_
  replace hm0 := bindO hm0; rcases hm0 with ⟨e0, he1, hm0⟩
  refine V.cutT (D := (Unit) × (Unit)) (fun ⟨_, _⟩ => ⟨62, [], []⟩) (fun ⟨_, _⟩ => (.inl () = e0)) ?_ ?_
  ·
   refine V.block ?_
   refine V.keep 62 [30, 1, 28, 29] [0] (E0 := [(30, .int .i64 (0 : Int)), (1, .ref b0 4 0 0), (28, .vl ρ0 2 (List.map encEvent r_.Events)), (29, .int .i64 (r_.Events.length : Int))]) (H0 := [(b0, ⟨4, [encRecord ρ0 r_]⟩)]) rfl (⟨_, _, rfl, rfl, ⟨_, _, rfl, rfl, ⟨_, _, rfl, rfl, ⟨_, _, rfl, rfl, rfl⟩⟩⟩⟩) (⟨_, _, rfl, rfl, rfl⟩) rfl ?_
   refine V.loopE (D := Nat × (Int) × (Unit)) (fun ⟨n0, v, _⟩ => [(30, .int .i64 v)]) (fun ⟨n0, v, _⟩ => []) (fun ⟨n0, v, _⟩ => loopO (M.impl_IsRecord_l0 r_) n0 v = some e0) (fun ⟨n0, _, _⟩ => n0) (rounds, (0 : Int), ()) rfl he1 ?_
   rintro ⟨n0, v, _⟩ hP0
   obtain ⟨m0, y3, rfl, hm1, hl1, hr1⟩ := loop_head hP0
   unfold M.impl_IsRecord_l0 at hm1; dsimp only at hm1
   show V _ _ _ ⟨62, [(30, .int .i64 v), (1, .ref b0 4 0 0), (28, .vl ρ0 2 (List.map encEvent r_.Events)), (29, .int .i64 (r_.Events.length : Int))], [(b0, ⟨4, [encRecord ρ0 r_]⟩)]⟩
   refine V.seq ?_
   refine V.region ?_
   refine VO.cons rfl (V1.int rfl rfl rfl rfl rfl (ltb rfl) ?_)
   refine VO.nil ?_
   refine V.seq ?_
   refine V.cond rfl (fun hc1 => ?_) (fun hc1 => ?_)
   ·
    replace hm1 := cond_t hc1 hm1
    refine V.skip ?_
    refine V.seq ?_
    refine V.block ?_
    refine V.seq ?_
    replace hm1 := asrt_some hm1; rcases hm1 with ⟨hh3, hm1⟩
    refine V.region ?_
    refine VO.cons rfl (V1.move rfl rfl rfl (ltb rfl) ?_)
    refine VO.cons rfl (V1.indexI rfl rfl esz_93 rfl rfl hh3 (ltb rfl) ?_)
    refine VO.cons rfl (V1.loadPinAll rfl rfl tyk_125 rfl rfl (ltb rfl) ?_)
    refine VO.cons rfl (V1.alloc rfl rfl zk_125 (ltb rfl) ?_)
    intro b1
    refine VO.cons rfl (V1.assign rfl rfl rfl (ltb rfl) ?_)
    refine VO.cons rfl (V1.storeRefAll (k := 0) rfl rfl tyk_125 rfl rfl rfl rfl rfl rfl ?_)
    refine VO.nil ?_
    refine V.keep 62 [1, 3, 4, 28, 29, 30] [0, 1] (E0 := [(1, .ref b0 4 0 0), (3, .int .i64 v), (4, .ref b1 2 0 0), (28, .vl ρ0 2 (List.map encEvent r_.Events)), (29, .int .i64 (r_.Events.length : Int)), (30, .int .i64 v)]) (H0 := [(b1, ⟨2, [encEvent (r_.Events.getD (Int.toNat v) default)]⟩), (b0, ⟨4, [encRecord ρ0 r_]⟩)]) rfl (⟨_, _, rfl, rfl, ⟨_, _, rfl, rfl, ⟨_, _, rfl, rfl, ⟨_, _, rfl, rfl, ⟨_, _, rfl, rfl, ⟨_, _, rfl, rfl, rfl⟩⟩⟩⟩⟩⟩) (⟨_, _, rfl, rfl, ⟨_, _, rfl, rfl, rfl⟩⟩) rfl ?_
    refine V.seq ?_
    replace hm1 := bindO hm1; rcases hm1 with ⟨y4, hh4, hm1⟩
    replace hm1 := asrt_some hm1; rcases hm1 with ⟨hh5, hm1⟩
    refine V.regionM 62 26 [⟨[(4, none)], [], none⟩, ⟨[(35, some 0)], [], none⟩, ⟨[(36, some 0)], [], none⟩, ⟨[(37, some 0)], [], none⟩, ⟨[(4, none)], [(0, false)], none⟩, ⟨[(39, some 0)], [(1, false)], none⟩, ⟨[(1, none)], [(2, false)], none⟩, ⟨[(41, some 0)], [(3, false)], none⟩, ⟨[(40, some 2), (42, some 0)], [(4, false)], none⟩, ⟨[], [], some (false, 38, 43, 5, 0)⟩, ⟨[(44, some 0)], [], none⟩, ⟨[(3, none)], [(0, false)], none⟩, ⟨[(46, some 0)], [(1, false)], none⟩, ⟨[(47, some 0)], [(2, false)], none⟩, ⟨[(1, none)], [(0, true), (3, false)], none⟩, ⟨[(49, some 0)], [(1, true), (4, false)], none⟩, ⟨[(3, none)], [(2, true), (5, false)], none⟩, ⟨[(51, some 0)], [(3, true), (6, false)], none⟩, ⟨[(50, some 2), (52, some 0)], [(4, true), (7, false)], none⟩, ⟨[(53, some 0)], [(5, true), (8, false)], none⟩, ⟨[(54, some 0)], [(6, true), (9, false)], none⟩, ⟨[(4, none)], [(7, true), (10, false)], none⟩, ⟨[(56, some 0)], [(8, true), (11, false)], none⟩, ⟨[(55, some 2), (57, some 0)], [(9, true), (12, false)], none⟩, ⟨[], [(13, false)], some (true, 48, 58, 10, 0)⟩, ⟨[], [], some (false, 45, 59, 14, 0)⟩] [(1, none), (28, none), (29, none), (30, none), (60, some 0)] (⟨_, rfl, ⟨_, rfl, ⟨_, rfl, ⟨_, rfl, ⟨_, rfl, ⟨_, rfl, ⟨_, rfl, ⟨_, rfl, ⟨_, rfl, ⟨_, rfl, ⟨_, rfl, ⟨_, rfl, ⟨_, rfl, ⟨_, rfl, ⟨_, rfl, ⟨_, rfl, ⟨_, rfl, ⟨_, rfl, ⟨_, rfl, ⟨_, rfl, ⟨_, rfl, ⟨_, rfl, ⟨_, rfl, ⟨_, rfl, ⟨_, rfl, ⟨_, rfl, ⟨rfl, rfl⟩⟩⟩⟩⟩⟩⟩⟩⟩⟩⟩⟩⟩⟩⟩⟩⟩⟩⟩⟩⟩⟩⟩⟩⟩⟩⟩) mixed_orders rfl (by decide +kernel) (fun hck6 => ?_)
    refine VP.step (p := ?pv185) rfl rfl rfl (⟨_, _, rfl, rfl, rfl⟩) ?hv185 ?rest185 hck6
    case hv185 =>
     intro E1
     refine (V1.loadRefAll (k := 0) rfl rfl tyk_125 rfl rfl rfl rfl rfl (ltb rfl) ?_)
     exact rfl
    refine VP.step (p := ?pv186) rfl rfl rfl (⟨_, _, rfl, rfl, rfl⟩) ?hv186 ?rest186 hck6
    case hv186 =>
     intro E1
     refine (V1.call rfl rfl rfl cok_123 rfl (ok_impl_IsEvent hh4) rfl (ltb rfl) ?_)
     rintro _ _ ⟨rfl, rfl⟩
     exact rfl
    refine VP.step (p := ?pv187) rfl rfl rfl (⟨_, _, rfl, rfl, rfl⟩) ?hv187 ?rest187 hck6
    case hv187 =>
     intro E1
     refine (V1.not rfl rfl rfl (ltb rfl) ?_)
     exact rfl
    refine VP.step (p := ?pv188) rfl rfl rfl (⟨_, _, rfl, rfl, rfl⟩) ?hv188 ?rest188 hck6
    case hv188 =>
     intro E1
     refine (V1.move rfl rfl rfl (ltb rfl) ?_)
     exact rfl
    refine VP.step (p := ?pv189) rfl rfl rfl (⟨_, _, rfl, rfl, rfl⟩) ?hv189 ?rest189 hck6
    case hv189 =>
     refine ⟨_, rfl, fun hg3 => ?_⟩
     intro E1
     refine (V1.fieldRef rfl rfl fo_125_1 rfl (ltb rfl) ?_)
     exact rfl
    refine VP.step (p := ?pv190) rfl rfl rfl (⟨_, _, rfl, rfl, rfl⟩) ?hv190 ?rest190 hck6
    case hv190 =>
     refine ⟨_, rfl, fun hg3 => ?_⟩
     intro E1
     refine (V1.loadRef (k := 0) rfl rfl tyk_3 rfl rfl rfl rfl rfl (ltb rfl) ?_)
     exact rfl
    refine VP.step (p := ?pv191) rfl rfl rfl (⟨_, _, rfl, rfl, rfl⟩) ?hv191 ?rest191 hck6
    case hv191 =>
     refine ⟨_, rfl, fun hg3 => ?_⟩
     intro E1
     refine (V1.fieldRef rfl rfl fo_95_2 rfl (ltb rfl) ?_)
     exact rfl
    refine VP.step (p := ?pv192) rfl rfl rfl (⟨_, _, rfl, rfl, rfl⟩) ?hv192 ?rest192 hck6
    case hv192 =>
     refine ⟨_, rfl, fun hg3 => ?_⟩
     intro E1
     refine (V1.loadRef (k := 1) rfl rfl tyk_3 rfl rfl rfl rfl rfl (ltb rfl) ?_)
     exact rfl
    refine VP.step (p := ?pv193) rfl rfl rfl (⟨_, _, rfl, rfl, ⟨_, _, rfl, rfl, rfl⟩⟩) ?hv193 ?rest193 hck6
    case hv193 =>
     refine ⟨_, rfl, fun hg3 => ?_⟩
     intro E1
     refine (V1.int rfl rfl rfl rfl rfl (ltb rfl) ?_)
     exact rfl
    refine VP.pickOr rfl rfl rfl rfl rfl rfl (trivial) ?_ hck6
    refine VP.step (p := ?pv194) rfl rfl rfl (⟨_, _, rfl, rfl, rfl⟩) ?hv194 ?rest194 hck6
    case hv194 =>
     intro E1
     refine (V1.move rfl rfl rfl (ltb rfl) ?_)
     exact rfl
    refine VP.step (p := ?pv195) rfl rfl rfl (⟨_, _, rfl, rfl, rfl⟩) ?hv195 ?rest195 hck6
    case hv195 =>
     refine ⟨_, rfl, fun hg4 => ?_⟩
     intro E1
     refine (V1.move rfl rfl rfl (ltb rfl) ?_)
     exact rfl
    refine VP.step (p := ?pv196) rfl rfl rfl (⟨_, _, rfl, rfl, rfl⟩) ?hv196 ?rest196 hck6
    case hv196 =>
     refine ⟨_, rfl, fun hg4 => ?_⟩
     intro E1
     refine (V1.int rfl rfl rfl rfl rfl (ltb rfl) ?_)
     exact rfl
    refine VP.step (p := ?pv197) rfl rfl rfl (⟨_, _, rfl, rfl, rfl⟩) ?hv197 ?rest197 hck6
    case hv197 =>
     refine ⟨_, rfl, fun hg4 => ?_⟩
     intro E1
     refine (V1.move rfl rfl rfl (ltb rfl) ?_)
     exact rfl
    refine VP.step (p := ?pv198) rfl rfl rfl (⟨_, _, rfl, rfl, rfl⟩) ?hv198 ?rest198 hck6
    case hv198 =>
     refine ⟨_, rfl, fun hg5 => ?_⟩
     refine ⟨_, rfl, fun hg4 => ?_⟩
     intro E1
     refine (V1.fieldRef rfl rfl fo_95_3 rfl (ltb rfl) ?_)
     exact rfl
    refine VP.step (p := ?pv199) rfl rfl rfl (⟨_, _, rfl, rfl, rfl⟩) ?hv199 ?rest199 hck6
    case hv199 =>
     refine ⟨_, rfl, fun hg5 => ?_⟩
     refine ⟨_, rfl, fun hg4 => ?_⟩
     intro E1
     refine (V1.loadRef (k := 1) rfl rfl tyk_93 rfl rfl rfl rfl rfl (ltb rfl) ?_)
     exact rfl
    refine VP.step (p := ?pv200) rfl rfl rfl (⟨_, _, rfl, rfl, rfl⟩) ?hv200 ?rest200 hck6
    case hv200 =>
     refine ⟨_, rfl, fun hg5 => ?_⟩
     refine ⟨_, rfl, fun hg4 => ?_⟩
     intro E1
     refine (V1.move rfl rfl rfl (ltb rfl) ?_)
     exact rfl
    refine VP.step (p := ?pv201) rfl rfl rfl (⟨_, _, rfl, rfl, rfl⟩) ?hv201 ?rest201 hck6
    case hv201 =>
     refine ⟨_, rfl, fun hg5 => ?_⟩
     refine ⟨_, rfl, fun hg4 => ?_⟩
     intro E1
     refine (V1.int rfl rfl rfl rfl rfl (ltb rfl) ?_)
     exact rfl
    refine VP.step (p := ?pv202) rfl rfl rfl (⟨_, _, rfl, rfl, ⟨_, _, rfl, rfl, rfl⟩⟩) ?hv202 ?rest202 hck6
    case hv202 =>
     refine ⟨_, rfl, fun hg5 => ?_⟩
     refine ⟨_, rfl, fun hg4 => ?_⟩
     intro E1
     refine (V1.indexI rfl rfl esz_93 rfl rfl (hh5 hg4 hg5) (ltb rfl) ?_)
     exact rfl
    refine VP.step (p := ?pv203) rfl rfl rfl (⟨_, _, rfl, rfl, rfl⟩) ?hv203 ?rest203 hck6
    case hv203 =>
     refine ⟨_, rfl, fun hg5 => ?_⟩
     refine ⟨_, rfl, fun hg4 => ?_⟩
     intro E1
     refine (V1.fieldPin rfl rfl fo_125_0 rfl (ltb rfl) ?_)
     exact rfl
    refine VP.step (p := ?pv204) rfl rfl rfl (⟨_, _, rfl, rfl, rfl⟩) ?hv204 ?rest204 hck6
    case hv204 =>
     refine ⟨_, rfl, fun hg5 => ?_⟩
     refine ⟨_, rfl, fun hg4 => ?_⟩
     intro E1
     refine (V1.loadPin rfl rfl tyk_3 rfl rfl (ltb rfl) ?_)
     exact rfl
    refine VP.step (p := ?pv205) rfl rfl rfl (⟨_, _, rfl, rfl, rfl⟩) ?hv205 ?rest205 hck6
    case hv205 =>
     refine ⟨_, rfl, fun hg5 => ?_⟩
     refine ⟨_, rfl, fun hg4 => ?_⟩
     intro E1
     refine (V1.fieldRef rfl rfl fo_125_0 rfl (ltb rfl) ?_)
     exact rfl
    refine VP.step (p := ?pv206) rfl rfl rfl (⟨_, _, rfl, rfl, rfl⟩) ?hv206 ?rest206 hck6
    case hv206 =>
     refine ⟨_, rfl, fun hg5 => ?_⟩
     refine ⟨_, rfl, fun hg4 => ?_⟩
     intro E1
     refine (V1.loadRef (k := 0) rfl rfl tyk_3 rfl rfl rfl rfl rfl (ltb rfl) ?_)
     exact rfl
    refine VP.step (p := ?pv207) rfl rfl rfl (⟨_, _, rfl, rfl, ⟨_, _, rfl, rfl, rfl⟩⟩) ?hv207 ?rest207 hck6
    case hv207 =>
     refine ⟨_, rfl, fun hg5 => ?_⟩
     refine ⟨_, rfl, fun hg4 => ?_⟩
     intro E1
     refine (V1.int rfl rfl rfl rfl rfl (ltb rfl) ?_)
     exact rfl
    refine VP.pickAnd rfl rfl rfl rfl rfl rfl (⟨_, rfl, fun _ => trivial⟩) ?_ hck6
    refine VP.pickOr rfl rfl rfl rfl rfl rfl (trivial) ?_ hck6
    refine VP.fin rfl (⟨_, _, rfl, rfl, ⟨_, _, rfl, rfl, ⟨_, _, rfl, rfl, ⟨_, _, rfl, rfl, ⟨_, _, rfl, rfl, rfl⟩⟩⟩⟩⟩) ?_
    refine VO.nil ?_
    refine V.cond rfl (fun hc2 => ?_) (fun hc2 => ?_)
    ·
     replace hm1 := cond_t hc2 hm1
     refine V.seq ?_
     refine V.region ?_
     refine VO.cons rfl (V1.assign rfl rfl rfl (ltb rfl) ?_)
     refine VO.nil ?_
     refine V.ret ?_
     obtain rfl := hr1 _ (Option.some.inj hm1).symm
     change some _ = some _ at hm0
     obtain rfl := Option.some.inj hm0
     exact ⟨_, [], ⟨_, _, rfl, rfl, rfl⟩, List.nil_sublist _, rfl, rfl⟩
    ·
     replace hm1 := cond_f hc2 hm1
     refine V.skip ?_
     refine V.region ?_
     refine VO.cons rfl (V1.int rfl rfl rfl rfl rfl (ltb rfl) ?_)
     refine VO.cons rfl (V1.move rfl rfl rfl (ltb rfl) ?_)
     refine VO.nil ?_
     exact ⟨(m0, (IntKind.i64.wrap (v + (1 : Int))), ()), hl1 _ (Option.some.inj hm1).symm, Nat.lt_succ_self _, Keeps.mk (ks := [1]) rfl ⟨rfl, rfl, rfl, rfl, trivial⟩ (⟨_, _, rfl, rfl, rfl⟩) rfl⟩
   ·
    replace hm1 := cond_f hc1 hm1
    refine V.exit ?_
    obtain rfl := hr1 _ (Option.some.inj hm1).symm
    exact ⟨((), ()), rfl, Keeps.mk (ks := []) rfl trivial (rfl) rfl⟩
  ·
   rintro ⟨_, _⟩ rfl
   try dsimp only at hm0
   refine V.seq ?_
   refine V.region ?_
   refine VO.cons rfl (V1.assign rfl rfl rfl (ltb rfl) ?_)
   refine VO.nil ?_
   refine V.ret ?_
   obtain rfl := Option.some.inj hm0
   exact ⟨_, [], ⟨_, _, rfl, rfl, rfl⟩, List.nil_sublist _, rfl, rfl⟩

theorem ok_impl_areHeld {ρ0 σ0 ρ1 rn : Nat} {list : List Hold} {r_ : Record} {day : Int} {r : Bool} (h : M.impl_areHeld list r_ day = some r) : Does Try.prog 185 [.vl ρ0 6 (List.map (encHold σ0) list), encRecord ρ1 r_, .int .i64 day] [] rn (fun x H => x = .bool r ∧ H = []) := by
 have hm0 := h; clear h; unfold M.impl_areHeld at hm0
 try dsimp only at hm0
 refine Does.intro (N := 17) Try.func185 rfl rfl rfl rfl ?_
 intro w0 S0
 refine V.seq ?_
 refine V.region ?_
 refine VO.cons rfl (V1.boxN (n := 4) rfl rfl rfl rfl rfl (ltb rfl) ?_)
 intro b0
 refine VO.cons rfl (V1.assign rfl rfl rfl (ltb rfl) ?_)
 refine VO.nil ?_
 refine V.seq ?_
 replace hm0 := bindO hm0; rcases hm0 with ⟨y0, hh0, hm0⟩
 replace hm0 := bindO hm0; rcases hm0 with ⟨y1, hh1, hm0⟩
 replace hm0 := bindO hm0; rcases hm0 with ⟨y2, hh2, hm0⟩
 refine V.region ?_
 refine VO.cons rfl (V1.move rfl rfl rfl (ltb rfl) ?_)
 refine VO.cons rfl (V1.call rfl rfl rfl cok_89 rfl (ok_impl_AreHolds hh0) rfl (ltb rfl) ?_)
 rintro _ _ ⟨rfl, rfl⟩
 refine VO.cons rfl (V1.move rfl rfl rfl (ltb rfl) ?_)
 apply VO.and (n := 2) rfl rfl rfl rfl rfl rfl (ltb rfl) (.none rfl)
 ·
  intro hg0
  refine VO.step (.some rfl rfl rfl) (V1.loadRefAll (k := 0) rfl rfl tyk_95 rfl rfl rfl rfl rfl (ltb rfl) ?_)
  refine VO.step (.some rfl rfl rfl) (V1.call rfl rfl rfl cok_106 rfl (ok_impl_IsRecord (cond_t hg0 hh1)) rfl (ltb rfl) ?_)
  rintro _ _ ⟨rfl, rfl⟩
  exact VO.nil ⟨rfl, rfl, rfl, rfl, .inr ⟨rfl, .inr ⟨rfl, .inr ⟨rfl, .inl rfl⟩⟩⟩⟩
 refine VO.cons rfl (V1.move rfl rfl rfl (ltb rfl) ?_)
 apply VO.and (n := 2) rfl rfl rfl rfl rfl rfl (ltb rfl) (.none rfl)
 ·
  intro hg1
  refine VO.step (.some rfl rfl rfl) (V1.move rfl rfl rfl (ltb rfl) ?_)
  refine VO.step (.some rfl rfl rfl) (V1.call rfl rfl rfl cok_144 rfl (ok_impl_isDay (cond_t hg1 hh2)) rfl (ltb rfl) ?_)
  rintro _ _ ⟨rfl, rfl⟩
  exact VO.nil ⟨rfl, rfl, rfl, rfl, .inr ⟨rfl, .inr ⟨rfl, .inr ⟨rfl, .inl rfl⟩⟩⟩⟩
 refine VO.cons rfl (V1.assign rfl rfl rfl (ltb rfl) ?_)
 refine VO.nil ?_
 refine V.ret ?_
 obtain rfl := Option.some.inj hm0
 exact ⟨_, [], ⟨_, _, rfl, rfl, rfl⟩, List.nil_sublist _, rfl, rfl⟩

theorem ok_slices_Index_int_int {ρ0 rn : Nat} {s : List Int} {v : Int} {r : Int} (h : M.slices_Index_int_int s v = some r) : Does Try.prog 178 [.vl ρ0 1 (List.map encInt s), .int .i64 v] [] rn (fun x H => x = .int .i64 r ∧ H = []) := by
 have hm0 := h; clear h; unfold M.slices_Index_int_int at hm0
 try dsimp only at hm0
 refine Does.intro (N := 19) Try.func178 rfl rfl rfl rfl ?_
 intro w0 S0
 refine V.seq ?_
 refine V.region ?_
 refine VO.cons rfl (V1.assign rfl rfl rfl (ltb rfl) ?_)
 refine VO.nil ?_
 refine V.seq ?_
 refine V.seq ?_
 refine V.region ?_
 refine VO.cons rfl (V1.move rfl rfl rfl (ltb rfl) ?_)
 refine VO.cons rfl (V1.lenMap rfl rfl rfl rfl rfl rfl isl_34 (ltb rfl) ?_)
 refine VO.cons rfl (V1.move rfl rfl rfl (ltb rfl) ?_)
 refine VO.nil ?_
 replace hm0 := bindO hm0; rcases hm0 with ⟨e0, he1, hm0⟩
 refine V.cutT (D := (Unit) × (Unit)) (fun ⟨_, _⟩ => ⟨19, [], []⟩) (fun ⟨_, _⟩ => (.inl () = e0)) ?_ ?_
 ·
  refine V.block ?_
  refine V.keep 19 [8, 0, 1, 7] [] (E0 := [(8, .int .i64 (0 : Int)), (0, .vl ρ0 1 (List.map encInt s)), (1, .int .i64 v), (7, .int .i64 (s.length : Int))]) (H0 := []) rfl (⟨_, _, rfl, rfl, ⟨_, _, rfl, rfl, ⟨_, _, rfl, rfl, ⟨_, _, rfl, rfl, rfl⟩⟩⟩⟩) (rfl) rfl ?_
  refine V.loopE (D := Nat × (Int) × (Unit)) (fun ⟨n0, v0, _⟩ => [(8, .int .i64 v0)]) (fun ⟨n0, v0, _⟩ => []) (fun ⟨n0, v0, _⟩ => loopO (M.slices_Index_int_int_l0 s v) n0 v0 = some e0) (fun ⟨n0, _, _⟩ => n0) (rounds, (0 : Int), ()) rfl he1 ?_
  rintro ⟨n0, v0, _⟩ hP0
  obtain ⟨m0, y0, rfl, hm1, hl1, hr1⟩ := loop_head hP0
  unfold M.slices_Index_int_int_l0 at hm1; dsimp only at hm1
  show V _ _ _ ⟨19, [(8, .int .i64 v0), (0, .vl ρ0 1 (List.map encInt s)), (1, .int .i64 v), (7, .int .i64 (s.length : Int))], []⟩
  refine V.seq ?_
  refine V.region ?_
  refine VO.cons rfl (V1.int rfl rfl rfl rfl rfl (ltb rfl) ?_)
  refine VO.nil ?_
  refine V.seq ?_
  refine V.cond rfl (fun hc0 => ?_) (fun hc0 => ?_)
  ·
   replace hm1 := cond_t hc0 hm1
   refine V.skip ?_
   refine V.seq ?_
   refine V.block ?_
   refine V.seq ?_
   refine V.region ?_
   refine VO.cons rfl (V1.move rfl rfl rfl (ltb rfl) ?_)
   refine VO.cons rfl (V1.assign rfl rfl rfl (ltb rfl) ?_)
   refine VO.nil ?_
   refine V.seq ?_
   replace hm1 := asrt_some hm1; rcases hm1 with ⟨hh0, hm1⟩
   refine V.region ?_
   refine VO.cons rfl (V1.move rfl rfl rfl (ltb rfl) ?_)
   refine VO.cons rfl (V1.move rfl rfl rfl (ltb rfl) ?_)
   refine VO.cons rfl (V1.move rfl rfl rfl (ltb rfl) ?_)
   refine VO.cons rfl (V1.indexI rfl rfl esz_34 rfl rfl hh0 (ltb rfl) ?_)
   refine VO.cons rfl (V1.loadPin rfl rfl tyk_3 rfl rfl (ltb rfl) ?_)
   refine VO.cons rfl (V1.int rfl rfl rfl rfl rfl (ltb rfl) ?_)
   refine VO.nil ?_
   refine V.keep 19 [0, 1, 5, 7, 8, 16] [] (E0 := [(0, .vl ρ0 1 (List.map encInt s)), (1, .int .i64 v), (5, .int .i64 v0), (7, .int .i64 (s.length : Int)), (8, .int .i64 v0), (16, .bool (v == (s.getD (Int.toNat v0) default)))]) (H0 := []) rfl (⟨_, _, rfl, rfl, ⟨_, _, rfl, rfl, ⟨_, _, rfl, rfl, ⟨_, _, rfl, rfl, ⟨_, _, rfl, rfl, ⟨_, _, rfl, rfl, rfl⟩⟩⟩⟩⟩⟩) (rfl) rfl ?_
   refine V.cond rfl (fun hc1 => ?_) (fun hc1 => ?_)
   ·
    replace hm1 := cond_t hc1 hm1
    refine V.seq ?_
    refine V.region ?_
    refine VO.cons rfl (V1.move rfl rfl rfl (ltb rfl) ?_)
    refine VO.cons rfl (V1.assign rfl rfl rfl (ltb rfl) ?_)
    refine VO.nil ?_
    refine V.ret ?_
    obtain rfl := hr1 _ (Option.some.inj hm1).symm
    change some _ = some _ at hm0
    obtain rfl := Option.some.inj hm0
    exact ⟨_, [], ⟨_, _, rfl, rfl, rfl⟩, List.nil_sublist _, rfl, rfl⟩
   ·
    replace hm1 := cond_f hc1 hm1
    refine V.skip ?_
    refine V.region ?_
    refine VO.cons rfl (V1.int rfl rfl rfl rfl rfl (ltb rfl) ?_)
    refine VO.cons rfl (V1.move rfl rfl rfl (ltb rfl) ?_)
    refine VO.nil ?_
    exact ⟨(m0, (IntKind.i64.wrap (v0 + (1 : Int))), ()), hl1 _ (Option.some.inj hm1).symm, Nat.lt_succ_self _, Keeps.mk (ks := []) rfl ⟨rfl, rfl, rfl, rfl, trivial⟩ (rfl) rfl⟩
  ·
   replace hm1 := cond_f hc0 hm1
   refine V.exit ?_
   obtain rfl := hr1 _ (Option.some.inj hm1).symm
   exact ⟨((), ()), rfl, Keeps.mk (ks := []) rfl trivial (rfl) rfl⟩
 ·
  rintro ⟨_, _⟩ rfl
  try dsimp only at hm0
  refine V.seq ?_
  refine V.region ?_
  refine VO.cons rfl (V1.assign rfl rfl rfl (ltb rfl) ?_)
  refine VO.nil ?_
  refine V.ret ?_
  obtain rfl := Option.some.inj hm0
  exact ⟨_, [], ⟨_, _, rfl, rfl, rfl⟩, List.nil_sublist _, rfl, rfl⟩

theorem ok_slices_Contains_int_int {ρ0 rn : Nat} {s : List Int} {v : Int} {r : Bool} (h : M.slices_Contains_int_int s v = some r) : Does Try.prog 258 [.vl ρ0 1 (List.map encInt s), .int .i64 v] [] rn (fun x H => x = .bool r ∧ H = []) := by
 have hm0 := h; clear h; unfold M.slices_Contains_int_int at hm0
 try dsimp only at hm0
 refine Does.intro (N := 9) Try.func258 rfl rfl rfl rfl ?_
 intro w0 S0
 refine V.seq ?_
 refine V.region ?_
 refine VO.cons rfl (V1.assign rfl rfl rfl (ltb rfl) ?_)
 refine VO.nil ?_
 refine V.seq ?_
 replace hm0 := bindO hm0; rcases hm0 with ⟨y0, hh0, hm0⟩
 refine V.region ?_
 refine VO.cons rfl (V1.move rfl rfl rfl (ltb rfl) ?_)
 refine VO.cons rfl (V1.move rfl rfl rfl (ltb rfl) ?_)
 refine VO.cons rfl (V1.call rfl rfl rfl cok_178 rfl (ok_slices_Index_int_int hh0) rfl (ltb rfl) ?_)
 rintro _ _ ⟨rfl, rfl⟩
 refine VO.cons rfl (V1.int rfl rfl rfl rfl rfl (ltb rfl) ?_)
 refine VO.cons rfl (V1.assign rfl rfl rfl (ltb rfl) ?_)
 refine VO.nil ?_
 refine V.ret ?_
 obtain rfl := Option.some.inj hm0
 exact ⟨_, [], ⟨_, _, rfl, rfl, rfl⟩, List.nil_sublist _, rfl, rfl⟩

theorem ok_impl_Hold_covers {ρ0 ρ1 rn : Nat} {h_ : Hold} {r_ : Record} {day : Int} {r : Bool} (h : M.impl_Hold_covers h_ r_ day = some r) : Does Try.prog 235 [encHold ρ0 h_, encRecord ρ1 r_, .int .i64 day] [] rn (fun x H => x = .bool r ∧ H = []) := by
 have hm0 := h; clear h; unfold M.impl_Hold_covers at hm0
 try dsimp only at hm0
 refine Does.intro (N := 46) Try.func235 rfl rfl rfl rfl ?_
 intro w0 S0
 refine V.seq ?_
 refine V.region ?_
 refine VO.cons rfl (V1.boxN (n := 6) rfl rfl rfl rfl rfl (ltb rfl) ?_)
 intro b0
 refine VO.cons rfl (V1.boxN (n := 4) rfl rfl rfl rfl rfl (ltb rfl) ?_)
 intro b1
 refine VO.cons rfl (V1.assign rfl rfl rfl (ltb rfl) ?_)
 refine VO.nil ?_
 refine V.seq ?_
 refine V.region ?_
 refine VO.cons rfl (V1.fieldRef rfl rfl fo_183_1 rfl (ltb rfl) ?_)
 refine VO.cons rfl (V1.loadRef (k := 1) rfl rfl tyk_3 rfl rfl rfl rfl rfl (ltb rfl) ?_)
 refine VO.cons rfl (V1.move rfl rfl rfl (ltb rfl) ?_)
 refine VO.cons rfl (V1.int rfl rfl rfl rfl rfl (ltb rfl) ?_)
 refine VO.cons rfl (V1.move rfl rfl rfl (ltb rfl) ?_)
 apply VO.and (n := 9) rfl rfl rfl rfl rfl rfl (ltb rfl) (.none rfl)
 ·
  intro hg0
  refine VO.step (.some rfl rfl rfl) (V1.fieldRef rfl rfl fo_183_2 rfl (ltb rfl) ?_)
  refine VO.step (.some rfl rfl rfl) (V1.loadRef (k := 1) rfl rfl tyk_3 rfl rfl rfl rfl rfl (ltb rfl) ?_)
  refine VO.step (.some rfl rfl rfl) (V1.int rfl rfl rfl rfl rfl (ltb rfl) ?_)
  refine VO.step (.some rfl rfl rfl) (V1.move rfl rfl rfl (ltb rfl) ?_)
  apply VO.or (n := 4) rfl rfl rfl rfl rfl rfl (ltb rfl) (.some rfl rfl rfl)
  ·
   intro hg1
   refine VO.step (.some rfl rfl rfl) (V1.move rfl rfl rfl (ltb rfl) ?_)
   refine VO.step (.some rfl rfl rfl) (V1.fieldRef rfl rfl fo_183_2 rfl (ltb rfl) ?_)
   refine VO.step (.some rfl rfl rfl) (V1.loadRef (k := 1) rfl rfl tyk_3 rfl rfl rfl rfl rfl (ltb rfl) ?_)
   refine VO.step (.some rfl rfl rfl) (V1.int rfl rfl rfl rfl rfl (ltb rfl) ?_)
   exact VO.nil ⟨rfl, rfl, rfl, rfl, .inr ⟨rfl, .inr ⟨rfl, .inr ⟨rfl, .inr ⟨rfl, .inr ⟨rfl, .inl rfl⟩⟩⟩⟩⟩⟩
  exact VO.nil ⟨rfl, rfl, rfl, rfl, .inr ⟨rfl, .inr ⟨rfl, .inr ⟨rfl, .inr ⟨rfl, .inr ⟨rfl, .inr ⟨rfl, .inl rfl⟩⟩⟩⟩⟩⟩⟩
 refine VO.cons rfl (V1.assign rfl rfl rfl (ltb rfl) ?_)
 refine VO.nil ?_
 refine V.keep 46 [3, 4, 7] [0, 1] (E0 := [(3, .ref b0 6 0 0), (4, .ref b1 4 0 0), (7, .bool ((decide (h_.From ≤ day)) && ((decide (h_.Until < (0 : Int))) || (decide (day < h_.Until)))))]) (H0 := [(b1, ⟨4, [encRecord ρ1 r_]⟩), (b0, ⟨6, [encHold ρ0 h_]⟩)]) rfl (⟨_, _, rfl, rfl, ⟨_, _, rfl, rfl, ⟨_, _, rfl, rfl, rfl⟩⟩⟩) (⟨_, _, rfl, rfl, ⟨_, _, rfl, rfl, rfl⟩⟩) rfl ?_
 refine V.seq ?_
 replace hm0 := bindO hm0; rcases hm0 with ⟨y0, hh0, hm0⟩
 replace hm0 := bindO hm0; rcases hm0 with ⟨y1, hh1, hm0⟩
 refine V.region ?_
 refine VO.cons rfl (V1.move rfl rfl rfl (ltb rfl) ?_)
 refine VO.cons rfl (V1.move rfl rfl rfl (ltb rfl) ?_)
 apply VO.and (n := 7) rfl rfl rfl rfl rfl rfl (ltb rfl) (.none rfl)
 ·
  intro hg2
  refine VO.step (.some rfl rfl rfl) (V1.fieldRef rfl rfl fo_95_2 rfl (ltb rfl) ?_)
  refine VO.step (.some rfl rfl rfl) (V1.loadRef (k := 0) rfl rfl tyk_3 rfl rfl rfl rfl rfl (ltb rfl) ?_)
  refine VO.step (.some rfl rfl rfl) (V1.fieldRef rfl rfl fo_183_4 rfl (ltb rfl) ?_)
  refine VO.step (.some rfl rfl rfl) (V1.loadRef (k := 1) rfl rfl tyk_3 rfl rfl rfl rfl rfl (ltb rfl) ?_)
  refine VO.step (.some rfl rfl rfl) (V1.fieldRef rfl rfl fo_183_5 rfl (ltb rfl) ?_)
  refine VO.step (.some rfl rfl rfl) (V1.loadRef (k := 1) rfl rfl tyk_3 rfl rfl rfl rfl rfl (ltb rfl) ?_)
  refine VO.step (.some rfl rfl rfl) (V1.call rfl rfl rfl cok_157 rfl (ok_impl_within (cond_t hg2 hh0)) rfl (ltb rfl) ?_)
  rintro _ _ ⟨rfl, rfl⟩
  exact VO.nil ⟨rfl, rfl, rfl, rfl, .inr ⟨rfl, .inr ⟨rfl, .inr ⟨rfl, .inr ⟨rfl, .inr ⟨rfl, .inr ⟨rfl, .inr ⟨rfl, .inr ⟨rfl, .inl rfl⟩⟩⟩⟩⟩⟩⟩⟩⟩
 refine VO.cons rfl (V1.move rfl rfl rfl (ltb rfl) ?_)
 apply VO.and (n := 11) rfl rfl rfl rfl rfl rfl (ltb rfl) (.none rfl)
 ·
  intro hg3
  refine VO.step (.some rfl rfl rfl) (V1.fieldRef rfl rfl fo_183_3 rfl (ltb rfl) ?_)
  refine VO.step (.some rfl rfl rfl) (V1.loadRef (k := 1) rfl rfl tyk_34 rfl rfl rfl rfl rfl (ltb rfl) ?_)
  refine VO.step (.some rfl rfl rfl) (V1.lenMap rfl rfl rfl rfl rfl rfl isl_34 (ltb rfl) ?_)
  refine VO.step (.some rfl rfl rfl) (V1.int rfl rfl rfl rfl rfl (ltb rfl) ?_)
  refine VO.step (.some rfl rfl rfl) (V1.move rfl rfl rfl (ltb rfl) ?_)
  apply VO.or (n := 5) rfl rfl rfl rfl rfl rfl (ltb rfl) (.some rfl rfl rfl)
  ·
   intro hg4
   refine VO.step (.some rfl rfl rfl) (V1.fieldRef rfl rfl fo_183_3 rfl (ltb rfl) ?_)
   refine VO.step (.some rfl rfl rfl) (V1.loadRef (k := 1) rfl rfl tyk_34 rfl rfl rfl rfl rfl (ltb rfl) ?_)
   refine VO.step (.some rfl rfl rfl) (V1.fieldRef rfl rfl fo_95_1 rfl (ltb rfl) ?_)
   refine VO.step (.some rfl rfl rfl) (V1.loadRef (k := 0) rfl rfl tyk_3 rfl rfl rfl rfl rfl (ltb rfl) ?_)
   refine VO.step (.some rfl rfl rfl) (V1.call rfl rfl rfl cok_258 rfl (ok_slices_Contains_int_int (cond_f hg4 (cond_t hg3 hh1))) rfl (ltb rfl) ?_)
   rintro _ _ ⟨rfl, rfl⟩
   exact VO.nil ⟨rfl, rfl, rfl, rfl, .inr ⟨rfl, .inr ⟨rfl, .inr ⟨rfl, .inr ⟨rfl, .inr ⟨rfl, .inr ⟨rfl, .inl rfl⟩⟩⟩⟩⟩⟩⟩
  exact VO.nil ⟨rfl, rfl, rfl, rfl, .inr ⟨rfl, .inr ⟨rfl, .inr ⟨rfl, .inr ⟨rfl, .inr ⟨rfl, .inr ⟨rfl, .inr ⟨rfl, .inl rfl⟩⟩⟩⟩⟩⟩⟩⟩
 refine VO.cons rfl (V1.assign rfl rfl rfl (ltb rfl) ?_)
 refine VO.nil ?_
 refine V.ret ?_
 obtain rfl := Option.some.inj hm0
 exact ⟨_, [], ⟨_, _, rfl, rfl, rfl⟩, List.nil_sublist _, rfl, rfl⟩

theorem ok_impl_holdsOn {ρ0 σ0 ρ1 rn : Nat} {list : List Hold} {r_ : Record} {day : Int} {r : List Int} (h : M.impl_holdsOn list r_ day = some r) : Does Try.prog 188 [.vl ρ0 6 (List.map (encHold σ0) list), encRecord ρ1 r_, .int .i64 day] [] rn (fun x H => x = .vl rn 1 (List.map encInt r) ∧ H = []) := by
 have hm0 := h; clear h; unfold M.impl_holdsOn at hm0
 try dsimp only at hm0
 refine Does.intro (N := 27) Try.func188 rfl rfl rfl rfl ?_
 intro w0 S0
 refine V.seq ?_
 refine V.region ?_
 refine VO.cons rfl (V1.boxN (n := 4) rfl rfl rfl rfl rfl (ltb rfl) ?_)
 intro b0
 refine VO.cons rfl (V1.assign rfl rfl rfl (ltb rfl) ?_)
 refine VO.nil ?_
 refine V.seq ?_
 refine V.region ?_
 refine VO.cons rfl (V1.assign rfl rfl rfl (ltb rfl) ?_)
 refine VO.nil ?_
 refine V.seq ?_
 refine V.seq ?_
 refine V.region ?_
 refine VO.cons rfl (V1.move rfl rfl rfl (ltb rfl) ?_)
 refine VO.cons rfl (V1.lenMap rfl rfl rfl rfl rfl rfl isl_92 (ltb rfl) ?_)
 refine VO.cons rfl (V1.move rfl rfl rfl (ltb rfl) ?_)
 refine VO.nil ?_
 replace hm0 := bindO hm0; rcases hm0 with ⟨e0, he1, hm0⟩
 refine V.cutT (D := (List Int) × (Unit)) (fun ⟨ids, _⟩ => ⟨27, [(7, .vl rn 1 (List.map encInt ids))], []⟩) (fun ⟨ids, _⟩ => (ids = e0)) ?_ ?_
 ·
  refine V.block ?_
  refine V.keep 27 [7, 12, 2, 4, 10, 11] [0] (E0 := [(7, .nils), (12, .int .i64 (0 : Int)), (2, .int .i64 day), (4, .ref b0 4 0 0), (10, .vl ρ0 6 (List.map (encHold σ0) list)), (11, .int .i64 (list.length : Int))]) (H0 := [(b0, ⟨4, [encRecord ρ1 r_]⟩)]) rfl (⟨_, _, rfl, rfl, ⟨_, _, rfl, rfl, ⟨_, _, rfl, rfl, ⟨_, _, rfl, rfl, ⟨_, _, rfl, rfl, ⟨_, _, rfl, rfl, rfl⟩⟩⟩⟩⟩⟩) (⟨_, _, rfl, rfl, rfl⟩) rfl ?_
  refine V.loopE (D := Nat × (List Int × Int) × (Option Nat)) (fun ⟨n0, ⟨ids0, v⟩, ob0⟩ => [(7, optS 1 ob0 (List.length ids0)), (12, .int .i64 v)]) (fun ⟨n0, ⟨ids0, v⟩, ob0⟩ => optH 1 ob0 (List.map encInt ids0)) (fun ⟨n0, ⟨ids0, v⟩, ob0⟩ => loopO (M.impl_holdsOn_l0 list r_ day) n0 (ids0, v) = some e0 ∧ (ob0 = none → ids0 = [])) (fun ⟨n0, _, _⟩ => n0) (rounds, (([] : List Int), (0 : Int)), none) rfl ⟨he1, (fun _ => rfl)⟩ ?_
  rintro ⟨n0, ⟨ids0, v⟩, ob0⟩ ⟨hP0, hob0⟩
  obtain ⟨m0, y0, rfl, hm1, hl1, hr1⟩ := loop_head hP0
  unfold M.impl_holdsOn_l0 at hm1; dsimp only at hm1
  rcases ob0 with _ | ob0
  ·
   replace hob0 := hob0 rfl
   show V _ _ _ ⟨27, [(7, .nils), (12, .int .i64 v), (2, .int .i64 day), (4, .ref b0 4 0 0), (10, .vl ρ0 6 (List.map (encHold σ0) list)), (11, .int .i64 (list.length : Int))], [(b0, ⟨4, [encRecord ρ1 r_]⟩)]⟩
   refine V.seq ?_
   refine V.region ?_
   refine VO.cons rfl (V1.int rfl rfl rfl rfl rfl (ltb rfl) ?_)
   refine VO.nil ?_
   refine V.seq ?_
   refine V.cond rfl (fun hc0 => ?_) (fun hc0 => ?_)
   ·
    replace hm1 := cond_t hc0 hm1
    refine V.skip ?_
    refine V.seq ?_
    replace hm1 := bindO hm1; rcases hm1 with ⟨j0, hm2, hm1⟩
    refine V.cutT (D := (List Int) × (Option Nat)) (fun ⟨ids1, ob1⟩ => ⟨27, [(7, optS 1 ob1 (List.length ids1)), (2, .int .i64 day), (4, .ref b0 4 0 0), (10, .vl ρ0 6 (List.map (encHold σ0) list)), (11, .int .i64 (list.length : Int)), (12, .int .i64 v)], optH 1 ob1 (List.map encInt ids1) ++ [(b0, ⟨4, [encRecord ρ1 r_]⟩)]⟩) (fun ⟨ids1, ob1⟩ => (ids1 = j0) ∧ (ob1 = none → ids1 = [])) ?_ ?_
    ·
     refine V.block ?_
     refine V.seq ?_
     replace hm2 := asrt_some hm2; rcases hm2 with ⟨hh0, hm2⟩
     refine V.region ?_
     refine VO.cons rfl (V1.indexI rfl rfl esz_92 rfl rfl hh0 (ltb rfl) ?_)
     refine VO.cons rfl (V1.loadPinAll rfl rfl tyk_183 rfl rfl (ltb rfl) ?_)
     refine VO.cons rfl (V1.alloc rfl rfl zk_183 (ltb rfl) ?_)
     intro b1
     refine VO.cons rfl (V1.storeRefAll (k := 0) rfl rfl tyk_183 rfl rfl rfl rfl rfl rfl ?_)
     refine VO.nil ?_
     refine V.seq ?_
     replace hm2 := bindO hm2; rcases hm2 with ⟨y1, hh1, hm2⟩
     refine V.region ?_
     refine VO.cons rfl (V1.loadRefAll (k := 0) rfl rfl tyk_183 rfl rfl rfl rfl rfl (ltb rfl) ?_)
     refine VO.cons rfl (V1.loadRefAll (k := 1) rfl rfl tyk_95 rfl rfl rfl rfl rfl (ltb rfl) ?_)
     refine VO.cons rfl (V1.move rfl rfl rfl (ltb rfl) ?_)
     refine VO.cons rfl (V1.call rfl rfl rfl cok_235 rfl (ok_impl_Hold_covers hh1) rfl (ltb rfl) ?_)
     rintro _ _ ⟨rfl, rfl⟩
     refine VO.nil ?_
     refine V.keep 27 [2, 4, 7, 9, 10, 11, 12, 19] [0, 1] (E0 := [(2, .int .i64 day), (4, .ref b0 4 0 0), (7, .nils), (9, .ref b1 6 0 0), (10, .vl ρ0 6 (List.map (encHold σ0) list)), (11, .int .i64 (list.length : Int)), (12, .int .i64 v), (19, .bool y1)]) (H0 := [(b1, ⟨6, [encHold σ0 (list.getD (Int.toNat v) default)]⟩), (b0, ⟨4, [encRecord ρ1 r_]⟩)]) rfl (⟨_, _, rfl, rfl, ⟨_, _, rfl, rfl, ⟨_, _, rfl, rfl, ⟨_, _, rfl, rfl, ⟨_, _, rfl, rfl, ⟨_, _, rfl, rfl, ⟨_, _, rfl, rfl, ⟨_, _, rfl, rfl, rfl⟩⟩⟩⟩⟩⟩⟩⟩) (⟨_, _, rfl, rfl, ⟨_, _, rfl, rfl, rfl⟩⟩) rfl ?_
     refine V.cond rfl (fun hc1 => ?_) (fun hc1 => ?_)
     ·
      replace hm2 := cond_t hc1 hm2
      replace hm2 := asrt_some hm2; rcases hm2 with ⟨hh2, hm2⟩
      refine V.region ?_
      refine VO.cons rfl (V1.move rfl rfl rfl (ltb rfl) ?_)
      refine VO.cons rfl (V1.fieldRef rfl rfl fo_183_0 rfl (ltb rfl) ?_)
      refine VO.cons rfl (V1.loadRef (k := 0) rfl rfl tyk_3 rfl rfl rfl rfl rfl (ltb rfl) ?_)
      refine VO.cons rfl (V1.buildSliceT (f := encInt) ([(list.getD (Int.toNat v) default).Id] : List Int) rfl rfl esz_34 zk_3 rfl rfl rfl rfl rfl rfl rfl (ltb rfl) ?_)
      intro b2
      refine VO.cons rfl (V1.appendNilE (f := encInt) (l := ids0) (m := ([(list.getD (Int.toNat v) default).Id] : List Int)) hob0 rfl rfl rfl rfl rfl esz_34 eby_34 zk_3 rfl rfl rfl (SrcOf.srMap (k := 0) rfl isl_34) rfl hh2 (ltb rfl) ?_)
      intro b3
      refine VO.cons rfl (V1.assign rfl rfl rfl (ltb rfl) ?_)
      refine VO.nil ?_
      exact ⟨((ids0 ++ ([(list.getD (Int.toNat v) default).Id] : List Int)), (some b3)), ⟨Option.some.inj hm2, (fun e => by cases e)⟩, Keeps.mk (ks := [0, 3]) rfl ⟨rfl, rfl, rfl, rfl, rfl, rfl, trivial⟩ (⟨_, _, rfl, rfl, ⟨_, _, rfl, rfl, rfl⟩⟩) rfl⟩
     ·
      replace hm2 := cond_f hc1 hm2
      refine V.skip ?_
      exact ⟨(ids0, none), ⟨Option.some.inj hm2, (fun _ => hob0)⟩, Keeps.mk (ks := [1]) rfl ⟨rfl, rfl, rfl, rfl, rfl, rfl, trivial⟩ (⟨_, _, rfl, rfl, rfl⟩) rfl⟩
    ·
     rintro ⟨ids1, ob1⟩ ⟨rfl, hob1⟩
     try dsimp only at hm1
     rcases ob1 with _ | ob1
     ·
      replace hob1 := hob1 rfl
      refine V.region ?_
      refine VO.cons rfl (V1.int rfl rfl rfl rfl rfl (ltb rfl) ?_)
      refine VO.cons rfl (V1.move rfl rfl rfl (ltb rfl) ?_)
      refine VO.nil ?_
      exact ⟨(m0, (ids1, (IntKind.i64.wrap (v + (1 : Int)))), none), ⟨hl1 _ (Option.some.inj hm1).symm, (fun _ => hob1)⟩, Nat.lt_succ_self _, Keeps.mk (ks := [0]) rfl ⟨rfl, rfl, rfl, rfl, rfl, rfl, trivial⟩ (⟨_, _, rfl, rfl, rfl⟩) rfl⟩
     ·
      refine V.region ?_
      refine VO.cons rfl (V1.int rfl rfl rfl rfl rfl (ltb rfl) ?_)
      refine VO.cons rfl (V1.move rfl rfl rfl (ltb rfl) ?_)
      refine VO.nil ?_
      exact ⟨(m0, (ids1, (IntKind.i64.wrap (v + (1 : Int)))), (some ob1)), ⟨hl1 _ (Option.some.inj hm1).symm, (fun e => by cases e)⟩, Nat.lt_succ_self _, Keeps.mk (ks := [0, 1]) rfl ⟨rfl, rfl, rfl, rfl, rfl, rfl, trivial⟩ (⟨_, _, rfl, rfl, ⟨_, _, rfl, rfl, rfl⟩⟩) rfl⟩
   ·
    replace hm1 := cond_f hc0 hm1
    refine V.exit ?_
    obtain rfl := hr1 _ (Option.some.inj hm1).symm
    exact ⟨(ids0, ()), rfl, Keeps.trans (Keeps.nilsE (l := ids0) 7 rn 1 encInt hob0 rfl rfl) (Keeps.mk (ks := []) rfl ⟨rfl, trivial⟩ (rfl) rfl)⟩
  ·
   show V _ _ _ ⟨27, [(7, .sref ob0 1 0 (List.length ids0)), (12, .int .i64 v), (2, .int .i64 day), (4, .ref b0 4 0 0), (10, .vl ρ0 6 (List.map (encHold σ0) list)), (11, .int .i64 (list.length : Int))], [(ob0, ⟨1, List.map encInt ids0⟩), (b0, ⟨4, [encRecord ρ1 r_]⟩)]⟩
   refine V.seq ?_
   refine V.region ?_
   refine VO.cons rfl (V1.int rfl rfl rfl rfl rfl (ltb rfl) ?_)
   refine VO.nil ?_
   refine V.seq ?_
   refine V.cond rfl (fun hc0 => ?_) (fun hc0 => ?_)
   ·
    replace hm1 := cond_t hc0 hm1
    refine V.skip ?_
    refine V.seq ?_
    replace hm1 := bindO hm1; rcases hm1 with ⟨j0, hm2, hm1⟩
    refine V.cutT (D := (List Int) × (Nat)) (fun ⟨ids1, b1⟩ => ⟨27, [(7, .sref b1 1 0 (List.length ids1)), (2, .int .i64 day), (4, .ref b0 4 0 0), (10, .vl ρ0 6 (List.map (encHold σ0) list)), (11, .int .i64 (list.length : Int)), (12, .int .i64 v)], [(b1, ⟨1, List.map encInt ids1⟩), (b0, ⟨4, [encRecord ρ1 r_]⟩)]⟩) (fun ⟨ids1, b1⟩ => (ids1 = j0)) ?_ ?_
    ·
     refine V.block ?_
     refine V.seq ?_
     replace hm2 := asrt_some hm2; rcases hm2 with ⟨hh0, hm2⟩
     refine V.region ?_
     refine VO.cons rfl (V1.indexI rfl rfl esz_92 rfl rfl hh0 (ltb rfl) ?_)
     refine VO.cons rfl (V1.loadPinAll rfl rfl tyk_183 rfl rfl (ltb rfl) ?_)
     refine VO.cons rfl (V1.alloc rfl rfl zk_183 (ltb rfl) ?_)
     intro b2
     refine VO.cons rfl (V1.storeRefAll (k := 0) rfl rfl tyk_183 rfl rfl rfl rfl rfl rfl ?_)
     refine VO.nil ?_
     refine V.seq ?_
     replace hm2 := bindO hm2; rcases hm2 with ⟨y1, hh1, hm2⟩
     refine V.region ?_
     refine VO.cons rfl (V1.loadRefAll (k := 0) rfl rfl tyk_183 rfl rfl rfl rfl rfl (ltb rfl) ?_)
     refine VO.cons rfl (V1.loadRefAll (k := 2) rfl rfl tyk_95 rfl rfl rfl rfl rfl (ltb rfl) ?_)
     refine VO.cons rfl (V1.move rfl rfl rfl (ltb rfl) ?_)
     refine VO.cons rfl (V1.call rfl rfl rfl cok_235 rfl (ok_impl_Hold_covers hh1) rfl (ltb rfl) ?_)
     rintro _ _ ⟨rfl, rfl⟩
     refine VO.nil ?_
     refine V.keep 27 [2, 4, 7, 9, 10, 11, 12, 19] [0, 1, 2] (E0 := [(2, .int .i64 day), (4, .ref b0 4 0 0), (7, .sref ob0 1 0 (List.length ids0)), (9, .ref b2 6 0 0), (10, .vl ρ0 6 (List.map (encHold σ0) list)), (11, .int .i64 (list.length : Int)), (12, .int .i64 v), (19, .bool y1)]) (H0 := [(b2, ⟨6, [encHold σ0 (list.getD (Int.toNat v) default)]⟩), (ob0, ⟨1, List.map encInt ids0⟩), (b0, ⟨4, [encRecord ρ1 r_]⟩)]) rfl (⟨_, _, rfl, rfl, ⟨_, _, rfl, rfl, ⟨_, _, rfl, rfl, ⟨_, _, rfl, rfl, ⟨_, _, rfl, rfl, ⟨_, _, rfl, rfl, ⟨_, _, rfl, rfl, ⟨_, _, rfl, rfl, rfl⟩⟩⟩⟩⟩⟩⟩⟩) (⟨_, _, rfl, rfl, ⟨_, _, rfl, rfl, ⟨_, _, rfl, rfl, rfl⟩⟩⟩) rfl ?_
     refine V.cond rfl (fun hc1 => ?_) (fun hc1 => ?_)
     ·
      replace hm2 := cond_t hc1 hm2
      replace hm2 := asrt_some hm2; rcases hm2 with ⟨hh2, hm2⟩
      refine V.region ?_
      refine VO.cons rfl (V1.move rfl rfl rfl (ltb rfl) ?_)
      refine VO.cons rfl (V1.fieldRef rfl rfl fo_183_0 rfl (ltb rfl) ?_)
      refine VO.cons rfl (V1.loadRef (k := 0) rfl rfl tyk_3 rfl rfl rfl rfl rfl (ltb rfl) ?_)
      refine VO.cons rfl (V1.buildSliceT (f := encInt) ([(list.getD (Int.toNat v) default).Id] : List Int) rfl rfl esz_34 zk_3 rfl rfl rfl rfl rfl rfl rfl (ltb rfl) ?_)
      intro b3
      refine VO.cons rfl (V1.appendMap (k := 2) (f := encInt) (l := ids0) (m := ([(list.getD (Int.toNat v) default).Id] : List Int)) rfl rfl rfl rfl rfl esz_34 eby_34 zk_3 rfl rfl rfl (SrcOf.srMap (k := 0) rfl isl_34) hh2 (ltb rfl) ?_)
      intro b4
      refine VO.cons rfl (V1.assign rfl rfl rfl (ltb rfl) ?_)
      refine VO.nil ?_
      exact ⟨((ids0 ++ ([(list.getD (Int.toNat v) default).Id] : List Int)), b4), Option.some.inj hm2, Keeps.mk (ks := [0, 3]) rfl ⟨rfl, rfl, rfl, rfl, rfl, rfl, trivial⟩ (⟨_, _, rfl, rfl, ⟨_, _, rfl, rfl, rfl⟩⟩) rfl⟩
     ·
      replace hm2 := cond_f hc1 hm2
      refine V.skip ?_
      exact ⟨(ids0, ob0), Option.some.inj hm2, Keeps.mk (ks := [1, 2]) rfl ⟨rfl, rfl, rfl, rfl, rfl, rfl, trivial⟩ (⟨_, _, rfl, rfl, ⟨_, _, rfl, rfl, rfl⟩⟩) rfl⟩
    ·
     rintro ⟨ids1, b1⟩ rfl
     try dsimp only at hm1
     refine V.region ?_
     refine VO.cons rfl (V1.int rfl rfl rfl rfl rfl (ltb rfl) ?_)
     refine VO.cons rfl (V1.move rfl rfl rfl (ltb rfl) ?_)
     refine VO.nil ?_
     exact ⟨(m0, (ids1, (IntKind.i64.wrap (v + (1 : Int)))), (some b1)), ⟨hl1 _ (Option.some.inj hm1).symm, (fun e => by cases e)⟩, Nat.lt_succ_self _, Keeps.mk (ks := [0, 1]) rfl ⟨rfl, rfl, rfl, rfl, rfl, rfl, trivial⟩ (⟨_, _, rfl, rfl, ⟨_, _, rfl, rfl, rfl⟩⟩) rfl⟩
   ·
    replace hm1 := cond_f hc0 hm1
    refine V.exit ?_
    obtain rfl := hr1 _ (Option.some.inj hm1).symm
    exact ⟨(ids0, ()), rfl, Keeps.trans (Keeps.freezeG 0 rn [(7, .vl rn 1 (List.map encInt ids0))] [(b0, ⟨4, [encRecord ρ1 r_]⟩)] (f := encInt) (l := ids0) rfl (fun _ => rfl) ⟨⟨_, rfl, .here⟩, trivial⟩ ⟨_, _, rfl, rfl, .inl rfl, rfl⟩ rfl iNil) (Keeps.mk (ks := []) rfl ⟨rfl, trivial⟩ (rfl) rfl)⟩
 ·
  rintro ⟨ids, _⟩ rfl
  try dsimp only at hm0
  refine V.seq ?_
  refine V.region ?_
  refine VO.cons rfl (V1.move rfl rfl rfl (ltb rfl) ?_)
  refine VO.cons rfl (V1.assign rfl rfl rfl (ltb rfl) ?_)
  refine VO.nil ?_
  refine V.ret ?_
  obtain rfl := Option.some.inj hm0
  exact ⟨_, [], ⟨_, _, rfl, rfl, rfl⟩, List.nil_sublist _, rfl, rfl⟩

theorem ok_impl_HoldsOn {ρ0 σ0 ρ1 rn : Nat} {list : List Hold} {r_ : Record} {day : Int} {r : List Int × Bool} (h : M.impl_HoldsOn list r_ day = some r) : Does Try.prog 91 [.vl ρ0 6 (List.map (encHold σ0) list), encRecord ρ1 r_, .int .i64 day] [] rn (fun x H => x = .tup [.vl rn 1 (List.map encInt r.1), .bool r.2] ∧ H = []) := by
 have hm0 := h; clear h; unfold M.impl_HoldsOn at hm0
 try dsimp only at hm0
 refine Does.intro (N := 17) Try.func91 rfl rfl rfl rfl ?_
 intro w0 S0
 refine V.seq ?_
 refine V.region ?_
 refine VO.cons rfl (V1.boxN (n := 4) rfl rfl rfl rfl rfl (ltb rfl) ?_)
 intro b0
 refine VO.cons rfl (V1.assign rfl rfl rfl (ltb rfl) ?_)
 refine VO.cons rfl (V1.assign rfl rfl rfl (ltb rfl) ?_)
 refine VO.nil ?_
 refine V.seq ?_
 refine V.seq ?_
 replace hm0 := bindO hm0; rcases hm0 with ⟨y0, hh0, hm0⟩
 refine V.region ?_
 refine VO.cons rfl (V1.move rfl rfl rfl (ltb rfl) ?_)
 refine VO.cons rfl (V1.loadRefAll (k := 0) rfl rfl tyk_95 rfl rfl rfl rfl rfl (ltb rfl) ?_)
 refine VO.cons rfl (V1.move rfl rfl rfl (ltb rfl) ?_)
 refine VO.cons rfl (V1.call rfl rfl rfl cok_185 rfl (ok_impl_areHeld hh0) rfl (ltb rfl) ?_)
 rintro _ _ ⟨rfl, rfl⟩
 refine VO.cons rfl (V1.not rfl rfl rfl (ltb rfl) ?_)
 refine VO.nil ?_
 refine V.keep 17 [0, 2, 4, 12] [0] (E0 := [(0, .vl ρ0 6 (List.map (encHold σ0) list)), (2, .int .i64 day), (4, .ref b0 4 0 0), (12, .bool (!y0))]) (H0 := [(b0, ⟨4, [encRecord ρ1 r_]⟩)]) rfl (⟨_, _, rfl, rfl, ⟨_, _, rfl, rfl, ⟨_, _, rfl, rfl, ⟨_, _, rfl, rfl, rfl⟩⟩⟩⟩) (⟨_, _, rfl, rfl, rfl⟩) rfl ?_
 refine V.cond rfl (fun hc0 => ?_) (fun hc0 => ?_)
 ·
  replace hm0 := cond_t hc0 hm0
  refine V.seq ?_
  refine V.region ?_
  refine VO.cons rfl (V1.assign rfl rfl rfl (ltb rfl) ?_)
  refine VO.cons rfl (V1.assign rfl rfl rfl (ltb rfl) ?_)
  refine VO.nil ?_
  refine V.weakenK (Keeps.nilsE (l := ([] : List Int)) 6 rn 1 encInt rfl rfl rfl) ?_
  refine V.ret ?_
  obtain rfl := Option.some.inj hm0
  exact ⟨_, [], ⟨_, _, rfl, rfl, ⟨_, _, rfl, rfl, rfl⟩⟩, List.nil_sublist _, rfl, rfl⟩
 ·
  replace hm0 := cond_f hc0 hm0
  refine V.skip ?_
  refine V.seq ?_
  replace hm0 := bindO hm0; rcases hm0 with ⟨y1, hh1, hm0⟩
  refine V.region ?_
  refine VO.cons rfl (V1.move rfl rfl rfl (ltb rfl) ?_)
  refine VO.cons rfl (V1.loadRefAll (k := 0) rfl rfl tyk_95 rfl rfl rfl rfl rfl (ltb rfl) ?_)
  refine VO.cons rfl (V1.move rfl rfl rfl (ltb rfl) ?_)
  refine VO.cons rfl (V1.call rfl rfl rfl cok_188 rfl (ok_impl_holdsOn hh1) rfl (ltb rfl) ?_)
  rintro _ _ ⟨rfl, rfl⟩
  refine VO.cons rfl (V1.assign rfl rfl rfl (ltb rfl) ?_)
  refine VO.cons rfl (V1.assign rfl rfl rfl (ltb rfl) ?_)
  refine VO.nil ?_
  refine V.ret ?_
  obtain rfl := Option.some.inj hm0
  exact ⟨_, [], ⟨_, _, rfl, rfl, ⟨_, _, rfl, rfl, rfl⟩⟩, List.nil_sublist _, rfl, rfl⟩

theorem ok_laws_vHas {ρ0 rn : Nat} {l : List Int} {x : Int} {r : Bool} (h : M.laws_vHas l x = some r) : Does Try.prog 107 [.vl ρ0 1 (List.map encInt l), .int .i64 x] [] rn (fun x H => x = .bool r ∧ H = []) := by
 have hm0 := h; clear h; unfold M.laws_vHas at hm0
 try dsimp only at hm0
 refine Does.intro (N := 18) Try.func107 rfl rfl rfl rfl ?_
 intro w0 S0
 refine V.seq ?_
 refine V.region ?_
 refine VO.cons rfl (V1.assign rfl rfl rfl (ltb rfl) ?_)
 refine VO.nil ?_
 refine V.seq ?_
 refine V.seq ?_
 refine V.region ?_
 refine VO.cons rfl (V1.assign rfl rfl rfl (ltb rfl) ?_)
 refine VO.nil ?_
 replace hm0 := bindO hm0; rcases hm0 with ⟨e0, he1, hm0⟩
 refine V.cutT (D := (Unit) × (Unit)) (fun ⟨_, _⟩ => ⟨18, [], []⟩) (fun ⟨_, _⟩ => (.inl () = e0)) ?_ ?_
 ·
  refine V.block ?_
  refine V.keep 18 [5, 0, 1] [] (E0 := [(5, .int .i64 (0 : Int)), (0, .vl ρ0 1 (List.map encInt l)), (1, .int .i64 x)]) (H0 := []) rfl (⟨_, _, rfl, rfl, ⟨_, _, rfl, rfl, ⟨_, _, rfl, rfl, rfl⟩⟩⟩) (rfl) rfl ?_
  refine V.loopE (D := Nat × (Int) × (Unit)) (fun ⟨n0, i, _⟩ => [(5, .int .i64 i)]) (fun ⟨n0, i, _⟩ => []) (fun ⟨n0, i, _⟩ => loopO (M.laws_vHas_l0 l x) n0 i = some e0) (fun ⟨n0, _, _⟩ => n0) (rounds, (0 : Int), ()) rfl he1 ?_
  rintro ⟨n0, i, _⟩ hP0
  obtain ⟨m0, y0, rfl, hm1, hl1, hr1⟩ := loop_head hP0
  unfold M.laws_vHas_l0 at hm1; dsimp only at hm1
  show V _ _ _ ⟨18, [(5, .int .i64 i), (0, .vl ρ0 1 (List.map encInt l)), (1, .int .i64 x)], []⟩
  refine V.seq ?_
  refine V.seq ?_
  refine V.region ?_
  refine VO.cons rfl (V1.move rfl rfl rfl (ltb rfl) ?_)
  refine VO.cons rfl (V1.move rfl rfl rfl (ltb rfl) ?_)
  refine VO.cons rfl (V1.lenMap rfl rfl rfl rfl rfl rfl isl_34 (ltb rfl) ?_)
  refine VO.cons rfl (V1.int rfl rfl rfl rfl rfl (ltb rfl) ?_)
  refine VO.nil ?_
  refine V.cond rfl (fun hc0 => ?_) (fun hc0 => ?_)
  ·
   replace hm1 := cond_t hc0 hm1
   refine V.skip ?_
   refine V.keep 18 [0, 1, 5] [] (E0 := [(0, .vl ρ0 1 (List.map encInt l)), (1, .int .i64 x), (5, .int .i64 i)]) (H0 := []) rfl (⟨_, _, rfl, rfl, ⟨_, _, rfl, rfl, ⟨_, _, rfl, rfl, rfl⟩⟩⟩) (rfl) rfl ?_
   refine V.seq ?_
   refine V.block ?_
   refine V.seq ?_
   replace hm1 := asrt_some hm1; rcases hm1 with ⟨hh0, hm1⟩
   refine V.region ?_
   refine VO.cons rfl (V1.move rfl rfl rfl (ltb rfl) ?_)
   refine VO.cons rfl (V1.move rfl rfl rfl (ltb rfl) ?_)
   refine VO.cons rfl (V1.indexI rfl rfl esz_34 rfl rfl hh0 (ltb rfl) ?_)
   refine VO.cons rfl (V1.loadPin rfl rfl tyk_3 rfl rfl (ltb rfl) ?_)
   refine VO.cons rfl (V1.move rfl rfl rfl (ltb rfl) ?_)
   refine VO.cons rfl (V1.int rfl rfl rfl rfl rfl (ltb rfl) ?_)
   refine VO.nil ?_
   refine V.keep 18 [0, 1, 5, 17] [] (E0 := [(0, .vl ρ0 1 (List.map encInt l)), (1, .int .i64 x), (5, .int .i64 i), (17, .bool ((l.getD (Int.toNat i) default) == x))]) (H0 := []) rfl (⟨_, _, rfl, rfl, ⟨_, _, rfl, rfl, ⟨_, _, rfl, rfl, ⟨_, _, rfl, rfl, rfl⟩⟩⟩⟩) (rfl) rfl ?_
   refine V.cond rfl (fun hc1 => ?_) (fun hc1 => ?_)
   ·
    replace hm1 := cond_t hc1 hm1
    refine V.seq ?_
    refine V.region ?_
    refine VO.cons rfl (V1.assign rfl rfl rfl (ltb rfl) ?_)
    refine VO.nil ?_
    refine V.ret ?_
    obtain rfl := hr1 _ (Option.some.inj hm1).symm
    change some _ = some _ at hm0
    obtain rfl := Option.some.inj hm0
    exact ⟨_, [], ⟨_, _, rfl, rfl, rfl⟩, List.nil_sublist _, rfl, rfl⟩
   ·
    replace hm1 := cond_f hc1 hm1
    refine V.skip ?_
    refine V.region ?_
    refine VO.cons rfl (V1.move rfl rfl rfl (ltb rfl) ?_)
    refine VO.cons rfl (V1.int rfl rfl rfl rfl rfl (ltb rfl) ?_)
    refine VO.cons rfl (V1.assign rfl rfl rfl (ltb rfl) ?_)
    refine VO.nil ?_
    exact ⟨(m0, (IntKind.i64.wrap (i + (1 : Int))), ()), hl1 _ (Option.some.inj hm1).symm, Nat.lt_succ_self _, Keeps.mk (ks := []) rfl ⟨rfl, rfl, rfl, trivial⟩ (rfl) rfl⟩
  ·
   replace hm1 := cond_f hc0 hm1
   refine V.exit ?_
   obtain rfl := hr1 _ (Option.some.inj hm1).symm
   exact ⟨((), ()), rfl, Keeps.mk (ks := []) rfl trivial (rfl) rfl⟩
 ·
  rintro ⟨_, _⟩ rfl
  try dsimp only at hm0
  refine V.seq ?_
  refine V.region ?_
  refine VO.cons rfl (V1.assign rfl rfl rfl (ltb rfl) ?_)
  refine VO.nil ?_
  refine V.ret ?_
  obtain rfl := Option.some.inj hm0
  exact ⟨_, [], ⟨_, _, rfl, rfl, rfl⟩, List.nil_sublist _, rfl, rfl⟩

theorem ok_laws_vWithin {ρ0 ρ1 rn : Nat} {a : List Int} {b_ : List Int} {r : Bool} (h : M.laws_vWithin a b_ = some r) : Does Try.prog 108 [.vl ρ0 1 (List.map encInt a), .vl ρ1 1 (List.map encInt b_)] [] rn (fun x H => x = .bool r ∧ H = []) := by
 have hm0 := h; clear h; unfold M.laws_vWithin at hm0
 try dsimp only at hm0
 refine Does.intro (N := 19) Try.func108 rfl rfl rfl rfl ?_
 intro w0 S0
 refine V.seq ?_
 refine V.region ?_
 refine VO.cons rfl (V1.assign rfl rfl rfl (ltb rfl) ?_)
 refine VO.nil ?_
 refine V.seq ?_
 refine V.seq ?_
 refine V.region ?_
 refine VO.cons rfl (V1.assign rfl rfl rfl (ltb rfl) ?_)
 refine VO.nil ?_
 replace hm0 := bindO hm0; rcases hm0 with ⟨e0, he1, hm0⟩
 refine V.cutT (D := (Unit) × (Unit)) (fun ⟨_, _⟩ => ⟨19, [], []⟩) (fun ⟨_, _⟩ => (.inl () = e0)) ?_ ?_
 ·
  refine V.block ?_
  refine V.keep 19 [5, 0, 1] [] (E0 := [(5, .int .i64 (0 : Int)), (0, .vl ρ0 1 (List.map encInt a)), (1, .vl ρ1 1 (List.map encInt b_))]) (H0 := []) rfl (⟨_, _, rfl, rfl, ⟨_, _, rfl, rfl, ⟨_, _, rfl, rfl, rfl⟩⟩⟩) (rfl) rfl ?_
  refine V.loopE (D := Nat × (Int) × (Unit)) (fun ⟨n0, i, _⟩ => [(5, .int .i64 i)]) (fun ⟨n0, i, _⟩ => []) (fun ⟨n0, i, _⟩ => loopO (M.laws_vWithin_l0 a b_) n0 i = some e0) (fun ⟨n0, _, _⟩ => n0) (rounds, (0 : Int), ()) rfl he1 ?_
  rintro ⟨n0, i, _⟩ hP0
  obtain ⟨m0, y0, rfl, hm1, hl1, hr1⟩ := loop_head hP0
  unfold M.laws_vWithin_l0 at hm1; dsimp only at hm1
  show V _ _ _ ⟨19, [(5, .int .i64 i), (0, .vl ρ0 1 (List.map encInt a)), (1, .vl ρ1 1 (List.map encInt b_))], []⟩
  refine V.seq ?_
  refine V.seq ?_
  refine V.region ?_
  refine VO.cons rfl (V1.move rfl rfl rfl (ltb rfl) ?_)
  refine VO.cons rfl (V1.move rfl rfl rfl (ltb rfl) ?_)
  refine VO.cons rfl (V1.lenMap rfl rfl rfl rfl rfl rfl isl_34 (ltb rfl) ?_)
  refine VO.cons rfl (V1.int rfl rfl rfl rfl rfl (ltb rfl) ?_)
  refine VO.nil ?_
  refine V.cond rfl (fun hc0 => ?_) (fun hc0 => ?_)
  ·
   replace hm1 := cond_t hc0 hm1
   refine V.skip ?_
   refine V.keep 19 [0, 1, 5] [] (E0 := [(0, .vl ρ0 1 (List.map encInt a)), (1, .vl ρ1 1 (List.map encInt b_)), (5, .int .i64 i)]) (H0 := []) rfl (⟨_, _, rfl, rfl, ⟨_, _, rfl, rfl, ⟨_, _, rfl, rfl, rfl⟩⟩⟩) (rfl) rfl ?_
   refine V.seq ?_
   refine V.block ?_
   refine V.seq ?_
   replace hm1 := asrt_some hm1; rcases hm1 with ⟨hh0, hm1⟩
   replace hm1 := bindO hm1; rcases hm1 with ⟨y1, hh1, hm1⟩
   refine V.region ?_
   refine VO.cons rfl (V1.move rfl rfl rfl (ltb rfl) ?_)
   refine VO.cons rfl (V1.move rfl rfl rfl (ltb rfl) ?_)
   refine VO.cons rfl (V1.move rfl rfl rfl (ltb rfl) ?_)
   refine VO.cons rfl (V1.indexI rfl rfl esz_34 rfl rfl hh0 (ltb rfl) ?_)
   refine VO.cons rfl (V1.loadPin rfl rfl tyk_3 rfl rfl (ltb rfl) ?_)
   refine VO.cons rfl (V1.call rfl rfl rfl cok_107 rfl (ok_laws_vHas hh1) rfl (ltb rfl) ?_)
   rintro _ _ ⟨rfl, rfl⟩
   refine VO.cons rfl (V1.not rfl rfl rfl (ltb rfl) ?_)
   refine VO.nil ?_
   refine V.keep 19 [0, 1, 5, 18] [] (E0 := [(0, .vl ρ0 1 (List.map encInt a)), (1, .vl ρ1 1 (List.map encInt b_)), (5, .int .i64 i), (18, .bool (!y1))]) (H0 := []) rfl (⟨_, _, rfl, rfl, ⟨_, _, rfl, rfl, ⟨_, _, rfl, rfl, ⟨_, _, rfl, rfl, rfl⟩⟩⟩⟩) (rfl) rfl ?_
   refine V.cond rfl (fun hc1 => ?_) (fun hc1 => ?_)
   ·
    replace hm1 := cond_t hc1 hm1
    refine V.seq ?_
    refine V.region ?_
    refine VO.cons rfl (V1.assign rfl rfl rfl (ltb rfl) ?_)
    refine VO.nil ?_
    refine V.ret ?_
    obtain rfl := hr1 _ (Option.some.inj hm1).symm
    change some _ = some _ at hm0
    obtain rfl := Option.some.inj hm0
    exact ⟨_, [], ⟨_, _, rfl, rfl, rfl⟩, List.nil_sublist _, rfl, rfl⟩
   ·
    replace hm1 := cond_f hc1 hm1
    refine V.skip ?_
    refine V.region ?_
    refine VO.cons rfl (V1.move rfl rfl rfl (ltb rfl) ?_)
    refine VO.cons rfl (V1.int rfl rfl rfl rfl rfl (ltb rfl) ?_)
    refine VO.cons rfl (V1.assign rfl rfl rfl (ltb rfl) ?_)
    refine VO.nil ?_
    exact ⟨(m0, (IntKind.i64.wrap (i + (1 : Int))), ()), hl1 _ (Option.some.inj hm1).symm, Nat.lt_succ_self _, Keeps.mk (ks := []) rfl ⟨rfl, rfl, rfl, trivial⟩ (rfl) rfl⟩
  ·
   replace hm1 := cond_f hc0 hm1
   refine V.exit ?_
   obtain rfl := hr1 _ (Option.some.inj hm1).symm
   exact ⟨((), ()), rfl, Keeps.mk (ks := []) rfl trivial (rfl) rfl⟩
 ·
  rintro ⟨_, _⟩ rfl
  try dsimp only at hm0
  refine V.seq ?_
  refine V.region ?_
  refine VO.cons rfl (V1.assign rfl rfl rfl (ltb rfl) ?_)
  refine VO.nil ?_
  refine V.ret ?_
  obtain rfl := Option.some.inj hm0
  exact ⟨_, [], ⟨_, _, rfl, rfl, rfl⟩, List.nil_sublist _, rfl, rfl⟩

theorem ok_spec_DrawMostHolds {ρ0 rn : Nat} {code : List Int} {r : List Hold × Record} (h : M.spec_DrawMostHolds code = some r) : Does Try.prog 109 [.vl ρ0 1 (List.map encU8 code)] [] rn (fun x H => x = .tup [.vl rn 6 (List.map (encHold rn) r.1), encRecord rn r.2] ∧ H = []) := by
 have hm0 := h; clear h; unfold M.spec_DrawMostHolds at hm0
 try dsimp only at hm0
 refine Does.intro (N := 12) Try.func109 rfl rfl rfl rfl ?_
 intro w0 S0
 refine V.seq ?_
 refine V.region ?_
 refine VO.cons rfl (V1.assign rfl rfl rfl (ltb rfl) ?_)
 refine VO.cons rfl (V1.alloc rfl rfl zk_95 (ltb rfl) ?_)
 intro b0
 refine VO.nil ?_
 refine V.seq ?_
 refine V.region ?_
 refine VO.cons rfl (V1.move rfl rfl rfl (ltb rfl) ?_)
 refine VO.cons rfl (V1.build rfl rfl zk_149 pl_149 rfl rfl (ltb rfl) ?_)
 refine VO.cons rfl (V1.boxN (n := 3) rfl rfl rfl rfl rfl (ltb rfl) ?_)
 intro b1
 refine VO.cons rfl (V1.assign rfl rfl rfl (ltb rfl) ?_)
 refine VO.nil ?_
 refine V.keep 12 [3, 4] [0, 1] (E0 := [(3, .ref b0 4 0 0), (4, .ref b1 3 0 0)]) (H0 := [(b1, ⟨3, [.agg [.vl ρ0 1 (List.map encU8 code), .int .i64 (0 : Int), .int .u64 (0 : Int)]]⟩), (b0, ⟨4, [.agg [.int .i64 (0 : Int), .int .i64 (0 : Int), .int .i64 (0 : Int), .nils]]⟩)]) rfl (⟨_, _, rfl, rfl, ⟨_, _, rfl, rfl, rfl⟩⟩) (⟨_, _, rfl, rfl, ⟨_, _, rfl, rfl, rfl⟩⟩) rfl ?_
 refine V.seq ?_
 replace hm0 := bindO hm0; rcases hm0 with ⟨y0, hh0, hm0⟩
 replace hm0 := bindO hm0; rcases hm0 with ⟨y1, hh1, hm0⟩
 refine V.region ?_
 refine VO.cons rfl (V1.move rfl rfl rfl (ltb rfl) ?_)
 refine VO.cons rfl (V1.callM 0 (rn + ρ0 + 1) [] [.ref b1 3 0 0] (p := (b1, ⟨3, [.agg [.vl ρ0 1 (List.map encU8 code), .int .i64 (0 : Int), .int .u64 (0 : Int)]]⟩)) rfl rfl rfl cok_181 rfl rfl ⟨_, _, rfl, .same _, rfl⟩ bwNil (ok_spec_l1Cur_holds hh0) rfl (.inl rfl) (ltb rfl) ?_)
 rintro _ _ ⟨b2, rfl, rfl⟩
 refine VO.cons rfl (V1.move rfl rfl rfl (ltb rfl) ?_)
 refine VO.cons rfl (V1.callM 1 (rn + ρ0 + 1) [] [.ref b1 3 0 0, .int .i64 (12 : Int)] (p := (b1, ⟨3, [encCur ρ0 y0.2]⟩)) rfl rfl rfl cok_182 rfl rfl ⟨_, _, rfl, .same _, ⟨_, _, rfl, .same _, rfl⟩⟩ bwNil (ok_spec_l1Cur_record hh1) rfl (.inl rfl) (ltb rfl) ?_)
 rintro _ _ ⟨rfl, rfl⟩
 refine VO.cons rfl (V1.assign rfl rfl rfl (ltb rfl) ?_)
 refine VO.cons rfl (V1.storeRefAll (k := 2) rfl rfl tyk_95 rfl rfl rfl rfl rfl rfl ?_)
 refine VO.nil ?_
 refine V.weakenK (Keeps.freezeG 1 rn [(9, .vl rn 6 (List.map (encHold rn) y0.1)), (2, .vl rn 6 (List.map (encHold rn) y0.1))] [(b1, ⟨3, [encCur ρ0 y1.2]⟩), (b0, ⟨4, [encRecord rn y1.1]⟩)] (f := (encHold rn)) (l := y0.1) rfl (fun _ => rfl) ⟨⟨_, rfl, .here⟩, ⟨_, rfl, .here⟩, trivial⟩ ⟨_, _, rfl, rfl, .inl rfl, ⟨_, _, rfl, rfl, .inl rfl, rfl⟩⟩ rfl iNil) ?_
 refine V.ret ?_
 obtain rfl := Option.some.inj hm0
 exact ⟨_, [], ⟨_, _, rfl, rfl, ⟨_, _, rfl, ⟨_, _, 1, _, rfl, rfl, rfl, rfl, tyk_95, rfl⟩, rfl⟩⟩, List.nil_sublist _, rfl, rfl⟩

theorem ok_impl_MostHolds {ρ0 σ0 ρ1 rn : Nat} {list : List Hold} {r_ : Record} {r : Int × Int × Bool} (h : M.impl_MostHolds list r_ = some r) : Does Try.prog 110 [.vl ρ0 6 (List.map (encHold σ0) list), encRecord ρ1 r_] [] rn (fun x H => x = .tup [.int .i64 r.1, .int .i64 r.2.1, .bool r.2.2] ∧ H = []) := by
 have hm0 := h; clear h; unfold M.impl_MostHolds at hm0
 try dsimp only at hm0
 refine Does.intro (N := 33) Try.func110 rfl rfl rfl rfl ?_
 intro w0 S0
 refine V.seq ?_
 refine V.region ?_
 refine VO.cons rfl (V1.boxN (n := 4) rfl rfl rfl rfl rfl (ltb rfl) ?_)
 intro b0
 refine VO.cons rfl (V1.assign rfl rfl rfl (ltb rfl) ?_)
 refine VO.cons rfl (V1.assign rfl rfl rfl (ltb rfl) ?_)
 refine VO.cons rfl (V1.assign rfl rfl rfl (ltb rfl) ?_)
 refine VO.nil ?_
 refine V.keep 33 [0, 3] [0] (E0 := [(0, .vl ρ0 6 (List.map (encHold σ0) list)), (3, .ref b0 4 0 0)]) (H0 := [(b0, ⟨4, [encRecord ρ1 r_]⟩)]) rfl (⟨_, _, rfl, rfl, ⟨_, _, rfl, rfl, rfl⟩⟩) (⟨_, _, rfl, rfl, rfl⟩) rfl ?_
 refine V.seq ?_
 refine V.seq ?_
 replace hm0 := bindO hm0; rcases hm0 with ⟨y0, hh0, hm0⟩
 refine V.region ?_
 refine VO.cons rfl (V1.move rfl rfl rfl (ltb rfl) ?_)
 refine VO.cons rfl (V1.loadRefAll (k := 0) rfl rfl tyk_95 rfl rfl rfl rfl rfl (ltb rfl) ?_)
 refine VO.cons rfl (V1.call rfl rfl rfl cok_185 rfl (ok_impl_areHeld hh0) rfl (ltb rfl) ?_)
 rintro _ _ ⟨rfl, rfl⟩
 refine VO.cons rfl (V1.not rfl rfl rfl (ltb rfl) ?_)
 refine VO.nil ?_
 refine V.cond rfl (fun hc0 => ?_) (fun hc0 => ?_)
 ·
  replace hm0 := cond_t hc0 hm0
  refine V.seq ?_
  refine V.region ?_
  refine VO.cons rfl (V1.assign rfl rfl rfl (ltb rfl) ?_)
  refine VO.cons rfl (V1.assign rfl rfl rfl (ltb rfl) ?_)
  refine VO.cons rfl (V1.assign rfl rfl rfl (ltb rfl) ?_)
  refine VO.nil ?_
  refine V.ret ?_
  obtain rfl := Option.some.inj hm0
  exact ⟨_, [], ⟨_, _, rfl, rfl, ⟨_, _, rfl, rfl, ⟨_, _, rfl, rfl, rfl⟩⟩⟩, List.nil_sublist _, rfl, rfl⟩
 ·
  replace hm0 := cond_f hc0 hm0
  refine V.skip ?_
  refine V.keep 33 [0, 3] [0] (E0 := [(0, .vl ρ0 6 (List.map (encHold σ0) list)), (3, .ref b0 4 0 0)]) (H0 := [(b0, ⟨4, [encRecord ρ1 r_]⟩)]) rfl (⟨_, _, rfl, rfl, ⟨_, _, rfl, rfl, rfl⟩⟩) (⟨_, _, rfl, rfl, rfl⟩) rfl ?_
  refine V.seq ?_
  refine V.region ?_
  refine VO.cons rfl (V1.assign rfl rfl rfl (ltb rfl) ?_)
  refine VO.cons rfl (V1.assign rfl rfl rfl (ltb rfl) ?_)
  refine VO.nil ?_
  refine V.seq ?_
  refine V.seq ?_
  refine V.region ?_
  refine VO.cons rfl (V1.move rfl rfl rfl (ltb rfl) ?_)
  refine VO.nil ?_
  replace hm0 := bindO hm0; rcases hm0 with ⟨e0, he1, hm0⟩
  refine V.cutT (D := (Int × Int) × (Unit)) (fun ⟨⟨most, first⟩, _⟩ => ⟨33, [(7, .int .i64 most), (8, .int .i64 first)], []⟩) (fun ⟨⟨most, first⟩, _⟩ => ((most, first) = e0)) ?_ ?_
  ·
   refine V.block ?_
   refine V.keep 33 [7, 8, 15, 0, 3] [0] (E0 := [(7, .int .i64 (0 : Int)), (8, .int .i64 (0 : Int)), (15, .int .i64 (0 : Int)), (0, .vl ρ0 6 (List.map (encHold σ0) list)), (3, .ref b0 4 0 0)]) (H0 := [(b0, ⟨4, [encRecord ρ1 r_]⟩)]) rfl (⟨_, _, rfl, rfl, ⟨_, _, rfl, rfl, ⟨_, _, rfl, rfl, ⟨_, _, rfl, rfl, ⟨_, _, rfl, rfl, rfl⟩⟩⟩⟩⟩) (⟨_, _, rfl, rfl, rfl⟩) rfl ?_
   refine V.loopE (D := Nat × (Int × Int × Int) × (Unit)) (fun ⟨n0, ⟨most0, first0, v⟩, _⟩ => [(7, .int .i64 most0), (8, .int .i64 first0), (15, .int .i64 v)]) (fun ⟨n0, ⟨most0, first0, v⟩, _⟩ => []) (fun ⟨n0, ⟨most0, first0, v⟩, _⟩ => loopO (M.impl_MostHolds_l0 list r_) n0 (most0, first0, v) = some e0) (fun ⟨n0, _, _⟩ => n0) (rounds, ((0 : Int), (0 : Int), (0 : Int)), ()) rfl he1 ?_
   rintro ⟨n0, ⟨most0, first0, v⟩, _⟩ hP0
   obtain ⟨m0, y1, rfl, hm1, hl1, hr1⟩ := loop_head hP0
   unfold M.impl_MostHolds_l0 at hm1; dsimp only at hm1
   show V _ _ _ ⟨33, [(7, .int .i64 most0), (8, .int .i64 first0), (15, .int .i64 v), (0, .vl ρ0 6 (List.map (encHold σ0) list)), (3, .ref b0 4 0 0)], [(b0, ⟨4, [encRecord ρ1 r_]⟩)]⟩
   refine V.seq ?_
   refine V.region ?_
   refine VO.cons rfl (V1.int rfl rfl rfl rfl rfl (ltb rfl) ?_)
   refine VO.nil ?_
   refine V.seq ?_
   refine V.cond rfl (fun hc1 => ?_) (fun hc1 => ?_)
   ·
    replace hm1 := cond_t hc1 hm1
    refine V.skip ?_
    refine V.seq ?_
    replace hm1 := bindO hm1; rcases hm1 with ⟨j0, hm2, hm1⟩
    refine V.cutT (D := (Int × Int) × (Unit)) (fun ⟨⟨most1, first1⟩, _⟩ => ⟨33, [(7, .int .i64 most1), (8, .int .i64 first1), (0, .vl ρ0 6 (List.map (encHold σ0) list)), (3, .ref b0 4 0 0), (15, .int .i64 v)], [(b0, ⟨4, [encRecord ρ1 r_]⟩)]⟩) (fun ⟨⟨most1, first1⟩, _⟩ => ((most1, first1) = j0)) ?_ ?_
    ·
     refine V.block ?_
     refine V.seq ?_
     refine V.region ?_
     refine VO.cons rfl (V1.move rfl rfl rfl (ltb rfl) ?_)
     refine VO.cons rfl (V1.assign rfl rfl rfl (ltb rfl) ?_)
     refine VO.nil ?_
     refine V.seq ?_
     replace hm2 := bindO hm2; rcases hm2 with ⟨y2, hh1, hm2⟩
     refine V.region ?_
     refine VO.cons rfl (V1.move rfl rfl rfl (ltb rfl) ?_)
     refine VO.cons rfl (V1.loadRefAll (k := 0) rfl rfl tyk_95 rfl rfl rfl rfl rfl (ltb rfl) ?_)
     refine VO.cons rfl (V1.move rfl rfl rfl (ltb rfl) ?_)
     refine VO.cons rfl (V1.call rfl rfl rfl cok_188 rfl (ok_impl_holdsOn hh1) rfl (ltb rfl) ?_)
     rintro _ _ ⟨rfl, rfl⟩
     refine VO.cons rfl (V1.lenMap rfl rfl rfl rfl rfl rfl isl_34 (ltb rfl) ?_)
     refine VO.cons rfl (V1.assign rfl rfl rfl (ltb rfl) ?_)
     refine VO.nil ?_
     refine V.keep 33 [0, 3, 7, 8, 9, 10, 15] [0] (E0 := [(0, .vl ρ0 6 (List.map (encHold σ0) list)), (3, .ref b0 4 0 0), (7, .int .i64 most0), (8, .int .i64 first0), (9, .int .i64 v), (10, .int .i64 (y2.length : Int)), (15, .int .i64 v)]) (H0 := [(b0, ⟨4, [encRecord ρ1 r_]⟩)]) rfl (⟨_, _, rfl, rfl, ⟨_, _, rfl, rfl, ⟨_, _, rfl, rfl, ⟨_, _, rfl, rfl, ⟨_, _, rfl, rfl, ⟨_, _, rfl, rfl, ⟨_, _, rfl, rfl, rfl⟩⟩⟩⟩⟩⟩⟩) (⟨_, _, rfl, rfl, rfl⟩) rfl ?_
     refine V.seq ?_
     refine V.region ?_
     refine VO.cons rfl (V1.move rfl rfl rfl (ltb rfl) ?_)
     refine VO.cons rfl (V1.move rfl rfl rfl (ltb rfl) ?_)
     refine VO.cons rfl (V1.int rfl rfl rfl rfl rfl (ltb rfl) ?_)
     refine VO.nil ?_
     refine V.cond rfl (fun hc2 => ?_) (fun hc2 => ?_)
     ·
      replace hm2 := cond_t hc2 hm2
      refine V.region ?_
      refine VO.cons rfl (V1.move rfl rfl rfl (ltb rfl) ?_)
      refine VO.cons rfl (V1.move rfl rfl rfl (ltb rfl) ?_)
      refine VO.cons rfl (V1.assign rfl rfl rfl (ltb rfl) ?_)
      refine VO.cons rfl (V1.assign rfl rfl rfl (ltb rfl) ?_)
      refine VO.nil ?_
      exact ⟨(((y2.length : Int), v), ()), Option.some.inj hm2, Keeps.mk (ks := [0]) rfl ⟨rfl, rfl, rfl, rfl, rfl, trivial⟩ (⟨_, _, rfl, rfl, rfl⟩) rfl⟩
     ·
      replace hm2 := cond_f hc2 hm2
      refine V.skip ?_
      exact ⟨((most0, first0), ()), Option.some.inj hm2, Keeps.mk (ks := [0]) rfl ⟨rfl, rfl, rfl, rfl, rfl, trivial⟩ (⟨_, _, rfl, rfl, rfl⟩) rfl⟩
    ·
     rintro ⟨⟨most1, first1⟩, _⟩ rfl
     try dsimp only at hm1
     refine V.region ?_
     refine VO.cons rfl (V1.int rfl rfl rfl rfl rfl (ltb rfl) ?_)
     refine VO.cons rfl (V1.move rfl rfl rfl (ltb rfl) ?_)
     refine VO.nil ?_
     exact ⟨(m0, (most1, first1, (IntKind.i64.wrap (v + (1 : Int)))), ()), hl1 _ (Option.some.inj hm1).symm, Nat.lt_succ_self _, Keeps.mk (ks := [0]) rfl ⟨rfl, rfl, rfl, rfl, rfl, trivial⟩ (⟨_, _, rfl, rfl, rfl⟩) rfl⟩
   ·
    replace hm1 := cond_f hc1 hm1
    refine V.exit ?_
    obtain rfl := hr1 _ (Option.some.inj hm1).symm
    exact ⟨((most0, first0), ()), rfl, Keeps.mk (ks := []) rfl ⟨rfl, rfl, trivial⟩ (rfl) rfl⟩
  ·
   rintro ⟨⟨most, first⟩, _⟩ rfl
   try dsimp only at hm0
   refine V.seq ?_
   refine V.region ?_
   refine VO.cons rfl (V1.move rfl rfl rfl (ltb rfl) ?_)
   refine VO.cons rfl (V1.move rfl rfl rfl (ltb rfl) ?_)
   refine VO.cons rfl (V1.move rfl rfl rfl (ltb rfl) ?_)
   refine VO.cons rfl (V1.int rfl rfl rfl rfl rfl (ltb rfl) ?_)
   refine VO.cons rfl (V1.assign rfl rfl rfl (ltb rfl) ?_)
   refine VO.cons rfl (V1.assign rfl rfl rfl (ltb rfl) ?_)
   refine VO.cons rfl (V1.assign rfl rfl rfl (ltb rfl) ?_)
   refine VO.nil ?_
   refine V.ret ?_
   obtain rfl := Option.some.inj hm0
   exact ⟨_, [], ⟨_, _, rfl, rfl, ⟨_, _, rfl, rfl, ⟨_, _, rfl, rfl, rfl⟩⟩⟩, List.nil_sublist _, rfl, rfl⟩

theorem ok_spec_l2Event {rn : Nat} {e_ : Event} {r : Bool} (h : M.spec_l2Event e_ = some r) : Does Try.prog 215 [encEvent e_] [] rn (fun x H => x = .bool r ∧ H = []) := by
 have hm0 := h; clear h; unfold M.spec_l2Event at hm0
 try dsimp only at hm0
 refine Does.intro (N := 11) Try.func215 rfl rfl rfl rfl ?_
 intro w0 S0
 refine V.seq ?_
 refine V.region ?_
 refine VO.cons rfl (V1.boxN (n := 2) rfl rfl rfl rfl rfl (ltb rfl) ?_)
 intro b0
 refine VO.cons rfl (V1.assign rfl rfl rfl (ltb rfl) ?_)
 refine VO.nil ?_
 refine V.seq ?_
 replace hm0 := bindO hm0; rcases hm0 with ⟨y0, hh0, hm0⟩
 replace hm0 := bindO hm0; rcases hm0 with ⟨y1, hh1, hm0⟩
 refine V.region ?_
 refine VO.cons rfl (V1.fieldRef rfl rfl fo_125_0 rfl (ltb rfl) ?_)
 refine VO.cons rfl (V1.loadRef (k := 0) rfl rfl tyk_3 rfl rfl rfl rfl rfl (ltb rfl) ?_)
 refine VO.cons rfl (V1.call rfl rfl rfl cok_168 rfl (ok_spec_l1In hh0) rfl (ltb rfl) ?_)
 rintro _ _ ⟨rfl, rfl⟩
 refine VO.cons rfl (V1.move rfl rfl rfl (ltb rfl) ?_)
 apply VO.and (n := 3) rfl rfl rfl rfl rfl rfl (ltb rfl) (.none rfl)
 ·
  intro hg0
  refine VO.step (.some rfl rfl rfl) (V1.fieldRef rfl rfl fo_125_1 rfl (ltb rfl) ?_)
  refine VO.step (.some rfl rfl rfl) (V1.loadRef (k := 0) rfl rfl tyk_3 rfl rfl rfl rfl rfl (ltb rfl) ?_)
  refine VO.step (.some rfl rfl rfl) (V1.call rfl rfl rfl cok_139 rfl (ok_spec_l2Day (cond_t hg0 hh1)) rfl (ltb rfl) ?_)
  rintro _ _ ⟨rfl, rfl⟩
  exact VO.nil ⟨rfl, rfl, rfl, rfl, .inr ⟨rfl, .inr ⟨rfl, .inr ⟨rfl, .inr ⟨rfl, .inl rfl⟩⟩⟩⟩⟩
 refine VO.cons rfl (V1.assign rfl rfl rfl (ltb rfl) ?_)
 refine VO.nil ?_
 refine V.ret ?_
 obtain rfl := Option.some.inj hm0
 exact ⟨_, [], ⟨_, _, rfl, rfl, rfl⟩, List.nil_sublist _, rfl, rfl⟩

theorem ok_spec_l2Record {ρ0 rn : Nat} {r_ : Record} {r : Bool} (h : M.spec_l2Record r_ = some r) : Does Try.prog 214 [encRecord ρ0 r_] [] rn (fun x H => x = .bool r ∧ H = []) := by
 have hm0 := h; clear h; unfold M.spec_l2Record at hm0
 try dsimp only at hm0
 refine Does.intro (N := 62) Try.func214 rfl rfl rfl rfl ?_
 intro w0 S0
 refine V.seq ?_
 refine V.region ?_
 refine VO.cons rfl (V1.boxN (n := 4) rfl rfl rfl rfl rfl (ltb rfl) ?_)
 intro b0
 refine VO.cons rfl (V1.assign rfl rfl rfl (ltb rfl) ?_)
 refine VO.nil ?_
 refine V.seq ?_
 refine V.seq ?_
 refine V.region ?_
 refine VO.cons rfl (V1.assign rfl rfl rfl (ltb rfl) ?_)
 refine VO.nil ?_
 replace hm0 := bindO hm0; rcases hm0 with ⟨e0, he1, hm0⟩
 refine V.cutT (D := (Unit) × (Unit)) (fun ⟨_, _⟩ => ⟨62, [(1, .ref b0 4 0 0)], [(b0, ⟨4, [encRecord ρ0 r_]⟩)]⟩) (fun ⟨_, _⟩ => (.inl () = e0)) ?_ ?_
 ·
  refine V.block ?_
  refine V.keep 62 [3, 1] [0] (E0 := [(3, .int .i64 (0 : Int)), (1, .ref b0 4 0 0)]) (H0 := [(b0, ⟨4, [encRecord ρ0 r_]⟩)]) rfl (⟨_, _, rfl, rfl, ⟨_, _, rfl, rfl, rfl⟩⟩) (⟨_, _, rfl, rfl, rfl⟩) rfl ?_
  refine V.loopE (D := Nat × (Int) × (Unit)) (fun ⟨n0, i, _⟩ => [(3, .int .i64 i)]) (fun ⟨n0, i, _⟩ => []) (fun ⟨n0, i, _⟩ => loopO (M.spec_l2Record_l0 r_) n0 i = some e0) (fun ⟨n0, _, _⟩ => n0) (rounds, (0 : Int), ()) rfl he1 ?_
  rintro ⟨n0, i, _⟩ hP0
  obtain ⟨m0, y0, rfl, hm1, hl1, hr1⟩ := loop_head hP0
  unfold M.spec_l2Record_l0 at hm1; dsimp only at hm1
  show V _ _ _ ⟨62, [(3, .int .i64 i), (1, .ref b0 4 0 0)], [(b0, ⟨4, [encRecord ρ0 r_]⟩)]⟩
  refine V.seq ?_
  refine V.seq ?_
  refine V.region ?_
  refine VO.cons rfl (V1.move rfl rfl rfl (ltb rfl) ?_)
  refine VO.cons rfl (V1.fieldRef rfl rfl fo_95_3 rfl (ltb rfl) ?_)
  refine VO.cons rfl (V1.loadRef (k := 0) rfl rfl tyk_93 rfl rfl rfl rfl rfl (ltb rfl) ?_)
  refine VO.cons rfl (V1.lenMap rfl rfl rfl rfl rfl rfl isl_93 (ltb rfl) ?_)
  refine VO.cons rfl (V1.int rfl rfl rfl rfl rfl (ltb rfl) ?_)
  refine VO.nil ?_
  refine V.keep 62 [1, 3, 9] [0] (E0 := [(1, .ref b0 4 0 0), (3, .int .i64 i), (9, .bool (decide (i < (r_.Events.length : Int))))]) (H0 := [(b0, ⟨4, [encRecord ρ0 r_]⟩)]) rfl (⟨_, _, rfl, rfl, ⟨_, _, rfl, rfl, ⟨_, _, rfl, rfl, rfl⟩⟩⟩) (⟨_, _, rfl, rfl, rfl⟩) rfl ?_
  refine V.cond rfl (fun hc0 => ?_) (fun hc0 => ?_)
  ·
   replace hm1 := cond_t hc0 hm1
   refine V.skip ?_
   refine V.seq ?_
   refine V.block ?_
   refine V.seq ?_
   replace hm1 := asrt_some hm1; rcases hm1 with ⟨hh0, hm1⟩
   refine V.region ?_
   refine VO.cons rfl (V1.fieldRef rfl rfl fo_95_3 rfl (ltb rfl) ?_)
   refine VO.cons rfl (V1.loadRef (k := 0) rfl rfl tyk_93 rfl rfl rfl rfl rfl (ltb rfl) ?_)
   refine VO.cons rfl (V1.move rfl rfl rfl (ltb rfl) ?_)
   refine VO.cons rfl (V1.indexI rfl rfl esz_93 rfl rfl hh0 (ltb rfl) ?_)
   refine VO.cons rfl (V1.loadPinAll rfl rfl tyk_125 rfl rfl (ltb rfl) ?_)
   refine VO.cons rfl (V1.alloc rfl rfl zk_125 (ltb rfl) ?_)
   intro b1
   refine VO.cons rfl (V1.storeRefAll (k := 0) rfl rfl tyk_125 rfl rfl rfl rfl rfl rfl ?_)
   refine VO.nil ?_
   refine V.keep 62 [1, 3, 4] [0, 1] (E0 := [(1, .ref b0 4 0 0), (3, .int .i64 i), (4, .ref b1 2 0 0)]) (H0 := [(b1, ⟨2, [encEvent (r_.Events.getD (Int.toNat i) default)]⟩), (b0, ⟨4, [encRecord ρ0 r_]⟩)]) rfl (⟨_, _, rfl, rfl, ⟨_, _, rfl, rfl, ⟨_, _, rfl, rfl, rfl⟩⟩⟩) (⟨_, _, rfl, rfl, ⟨_, _, rfl, rfl, rfl⟩⟩) rfl ?_
   refine V.seq ?_
   replace hm1 := bindO hm1; rcases hm1 with ⟨y1, hh1, hm1⟩
   replace hm1 := asrt_some hm1; rcases hm1 with ⟨hh2, hm1⟩
   refine V.regionM 62 26 [⟨[(4, none)], [], none⟩, ⟨[(17, some 0)], [], none⟩, ⟨[(18, some 0)], [], none⟩, ⟨[(19, some 0)], [], none⟩, ⟨[(4, none)], [(0, false)], none⟩, ⟨[(21, some 0)], [(1, false)], none⟩, ⟨[(1, none)], [(2, false)], none⟩, ⟨[(23, some 0)], [(3, false)], none⟩, ⟨[(22, some 2), (24, some 0)], [(4, false)], none⟩, ⟨[], [], some (false, 20, 25, 5, 0)⟩, ⟨[(26, some 0)], [], none⟩, ⟨[(3, none)], [(0, false)], none⟩, ⟨[(28, some 0)], [(1, false)], none⟩, ⟨[(29, some 0)], [(2, false)], none⟩, ⟨[(1, none)], [(0, true), (3, false)], none⟩, ⟨[(31, some 0)], [(1, true), (4, false)], none⟩, ⟨[(3, none)], [(2, true), (5, false)], none⟩, ⟨[(33, some 0)], [(3, true), (6, false)], none⟩, ⟨[(32, some 2), (34, some 0)], [(4, true), (7, false)], none⟩, ⟨[(35, some 0)], [(5, true), (8, false)], none⟩, ⟨[(36, some 0)], [(6, true), (9, false)], none⟩, ⟨[(4, none)], [(7, true), (10, false)], none⟩, ⟨[(38, some 0)], [(8, true), (11, false)], none⟩, ⟨[(37, some 2), (39, some 0)], [(9, true), (12, false)], none⟩, ⟨[], [(13, false)], some (true, 30, 40, 10, 0)⟩, ⟨[], [], some (false, 27, 41, 14, 0)⟩] [(1, none), (3, none), (42, some 0)] (⟨_, rfl, ⟨_, rfl, ⟨_, rfl, ⟨_, rfl, ⟨_, rfl, ⟨_, rfl, ⟨_, rfl, ⟨_, rfl, ⟨_, rfl, ⟨_, rfl, ⟨_, rfl, ⟨_, rfl, ⟨_, rfl, ⟨_, rfl, ⟨_, rfl, ⟨_, rfl, ⟨_, rfl, ⟨_, rfl, ⟨_, rfl, ⟨_, rfl, ⟨_, rfl, ⟨_, rfl, ⟨_, rfl, ⟨_, rfl, ⟨_, rfl, ⟨_, rfl, ⟨rfl, rfl⟩⟩⟩⟩⟩⟩⟩⟩⟩⟩⟩⟩⟩⟩⟩⟩⟩⟩⟩⟩⟩⟩⟩⟩⟩⟩⟩) mixed_orders rfl (by decide +kernel) (fun hck5 => ?_)
   refine VP.step (p := ?pv185) rfl rfl rfl (⟨_, _, rfl, rfl, rfl⟩) ?hv185 ?rest185 hck5
   case hv185 =>
    intro E1
    refine (V1.loadRefAll (k := 0) rfl rfl tyk_125 rfl rfl rfl rfl rfl (ltb rfl) ?_)
    exact rfl
   refine VP.step (p := ?pv186) rfl rfl rfl (⟨_, _, rfl, rfl, rfl⟩) ?hv186 ?rest186 hck5
   case hv186 =>
    intro E1
    refine (V1.call rfl rfl rfl cok_215 rfl (ok_spec_l2Event hh1) rfl (ltb rfl) ?_)
    rintro _ _ ⟨rfl, rfl⟩
    exact rfl
   refine VP.step (p := ?pv187) rfl rfl rfl (⟨_, _, rfl, rfl, rfl⟩) ?hv187 ?rest187 hck5
   case hv187 =>
    intro E1
    refine (V1.not rfl rfl rfl (ltb rfl) ?_)
    exact rfl
   refine VP.step (p := ?pv188) rfl rfl rfl (⟨_, _, rfl, rfl, rfl⟩) ?hv188 ?rest188 hck5
   case hv188 =>
    intro E1
    refine (V1.move rfl rfl rfl (ltb rfl) ?_)
    exact rfl
   refine VP.step (p := ?pv189) rfl rfl rfl (⟨_, _, rfl, rfl, rfl⟩) ?hv189 ?rest189 hck5
   case hv189 =>
    refine ⟨_, rfl, fun hg0 => ?_⟩
    intro E1
    refine (V1.fieldRef rfl rfl fo_125_1 rfl (ltb rfl) ?_)
    exact rfl
   refine VP.step (p := ?pv190) rfl rfl rfl (⟨_, _, rfl, rfl, rfl⟩) ?hv190 ?rest190 hck5
   case hv190 =>
    refine ⟨_, rfl, fun hg0 => ?_⟩
    intro E1
    refine (V1.loadRef (k := 0) rfl rfl tyk_3 rfl rfl rfl rfl rfl (ltb rfl) ?_)
    exact rfl
   refine VP.step (p := ?pv191) rfl rfl rfl (⟨_, _, rfl, rfl, rfl⟩) ?hv191 ?rest191 hck5
   case hv191 =>
    refine ⟨_, rfl, fun hg0 => ?_⟩
    intro E1
    refine (V1.fieldRef rfl rfl fo_95_2 rfl (ltb rfl) ?_)
    exact rfl
   refine VP.step (p := ?pv192) rfl rfl rfl (⟨_, _, rfl, rfl, rfl⟩) ?hv192 ?rest192 hck5
   case hv192 =>
    refine ⟨_, rfl, fun hg0 => ?_⟩
    intro E1
    refine (V1.loadRef (k := 1) rfl rfl tyk_3 rfl rfl rfl rfl rfl (ltb rfl) ?_)
    exact rfl
   refine VP.step (p := ?pv193) rfl rfl rfl (⟨_, _, rfl, rfl, ⟨_, _, rfl, rfl, rfl⟩⟩) ?hv193 ?rest193 hck5
   case hv193 =>
    refine ⟨_, rfl, fun hg0 => ?_⟩
    intro E1
    refine (V1.int rfl rfl rfl rfl rfl (ltb rfl) ?_)
    exact rfl
   refine VP.pickOr rfl rfl rfl rfl rfl rfl (trivial) ?_ hck5
   refine VP.step (p := ?pv194) rfl rfl rfl (⟨_, _, rfl, rfl, rfl⟩) ?hv194 ?rest194 hck5
   case hv194 =>
    intro E1
    refine (V1.move rfl rfl rfl (ltb rfl) ?_)
    exact rfl
   refine VP.step (p := ?pv195) rfl rfl rfl (⟨_, _, rfl, rfl, rfl⟩) ?hv195 ?rest195 hck5
   case hv195 =>
    refine ⟨_, rfl, fun hg1 => ?_⟩
    intro E1
    refine (V1.move rfl rfl rfl (ltb rfl) ?_)
    exact rfl
   refine VP.step (p := ?pv196) rfl rfl rfl (⟨_, _, rfl, rfl, rfl⟩) ?hv196 ?rest196 hck5
   case hv196 =>
    refine ⟨_, rfl, fun hg1 => ?_⟩
    intro E1
    refine (V1.int rfl rfl rfl rfl rfl (ltb rfl) ?_)
    exact rfl
   refine VP.step (p := ?pv197) rfl rfl rfl (⟨_, _, rfl, rfl, rfl⟩) ?hv197 ?rest197 hck5
   case hv197 =>
    refine ⟨_, rfl, fun hg1 => ?_⟩
    intro E1
    refine (V1.move rfl rfl rfl (ltb rfl) ?_)
    exact rfl
   refine VP.step (p := ?pv198) rfl rfl rfl (⟨_, _, rfl, rfl, rfl⟩) ?hv198 ?rest198 hck5
   case hv198 =>
    refine ⟨_, rfl, fun hg2 => ?_⟩
    refine ⟨_, rfl, fun hg1 => ?_⟩
    intro E1
    refine (V1.fieldRef rfl rfl fo_95_3 rfl (ltb rfl) ?_)
    exact rfl
   refine VP.step (p := ?pv199) rfl rfl rfl (⟨_, _, rfl, rfl, rfl⟩) ?hv199 ?rest199 hck5
   case hv199 =>
    refine ⟨_, rfl, fun hg2 => ?_⟩
    refine ⟨_, rfl, fun hg1 => ?_⟩
    intro E1
    refine (V1.loadRef (k := 1) rfl rfl tyk_93 rfl rfl rfl rfl rfl (ltb rfl) ?_)
    exact rfl
   refine VP.step (p := ?pv200) rfl rfl rfl (⟨_, _, rfl, rfl, rfl⟩) ?hv200 ?rest200 hck5
   case hv200 =>
    refine ⟨_, rfl, fun hg2 => ?_⟩
    refine ⟨_, rfl, fun hg1 => ?_⟩
    intro E1
    refine (V1.move rfl rfl rfl (ltb rfl) ?_)
    exact rfl
   refine VP.step (p := ?pv201) rfl rfl rfl (⟨_, _, rfl, rfl, rfl⟩) ?hv201 ?rest201 hck5
   case hv201 =>
    refine ⟨_, rfl, fun hg2 => ?_⟩
    refine ⟨_, rfl, fun hg1 => ?_⟩
    intro E1
    refine (V1.int rfl rfl rfl rfl rfl (ltb rfl) ?_)
    exact rfl
   refine VP.step (p := ?pv202) rfl rfl rfl (⟨_, _, rfl, rfl, ⟨_, _, rfl, rfl, rfl⟩⟩) ?hv202 ?rest202 hck5
   case hv202 =>
    refine ⟨_, rfl, fun hg2 => ?_⟩
    refine ⟨_, rfl, fun hg1 => ?_⟩
    intro E1
    refine (V1.indexI rfl rfl esz_93 rfl rfl (hh2 hg1 hg2) (ltb rfl) ?_)
    exact rfl
   refine VP.step (p := ?pv203) rfl rfl rfl (⟨_, _, rfl, rfl, rfl⟩) ?hv203 ?rest203 hck5
   case hv203 =>
    refine ⟨_, rfl, fun hg2 => ?_⟩
    refine ⟨_, rfl, fun hg1 => ?_⟩
    intro E1
    refine (V1.fieldPin rfl rfl fo_125_0 rfl (ltb rfl) ?_)
    exact rfl
   refine VP.step (p := ?pv204) rfl rfl rfl (⟨_, _, rfl, rfl, rfl⟩) ?hv204 ?rest204 hck5
   case hv204 =>
    refine ⟨_, rfl, fun hg2 => ?_⟩
    refine ⟨_, rfl, fun hg1 => ?_⟩
    intro E1
    refine (V1.loadPin rfl rfl tyk_3 rfl rfl (ltb rfl) ?_)
    exact rfl
   refine VP.step (p := ?pv205) rfl rfl rfl (⟨_, _, rfl, rfl, rfl⟩) ?hv205 ?rest205 hck5
   case hv205 =>
    refine ⟨_, rfl, fun hg2 => ?_⟩
    refine ⟨_, rfl, fun hg1 => ?_⟩
    intro E1
    refine (V1.fieldRef rfl rfl fo_125_0 rfl (ltb rfl) ?_)
    exact rfl
   refine VP.step (p := ?pv206) rfl rfl rfl (⟨_, _, rfl, rfl, rfl⟩) ?hv206 ?rest206 hck5
   case hv206 =>
    refine ⟨_, rfl, fun hg2 => ?_⟩
    refine ⟨_, rfl, fun hg1 => ?_⟩
    intro E1
    refine (V1.loadRef (k := 0) rfl rfl tyk_3 rfl rfl rfl rfl rfl (ltb rfl) ?_)
    exact rfl
   refine VP.step (p := ?pv207) rfl rfl rfl (⟨_, _, rfl, rfl, ⟨_, _, rfl, rfl, rfl⟩⟩) ?hv207 ?rest207 hck5
   case hv207 =>
    refine ⟨_, rfl, fun hg2 => ?_⟩
    refine ⟨_, rfl, fun hg1 => ?_⟩
    intro E1
    refine (V1.int rfl rfl rfl rfl rfl (ltb rfl) ?_)
    exact rfl
   refine VP.pickAnd rfl rfl rfl rfl rfl rfl (⟨_, rfl, fun _ => trivial⟩) ?_ hck5
   refine VP.pickOr rfl rfl rfl rfl rfl rfl (trivial) ?_ hck5
   refine VP.fin rfl (⟨_, _, rfl, rfl, ⟨_, _, rfl, rfl, ⟨_, _, rfl, rfl, rfl⟩⟩⟩) ?_
   refine VO.nil ?_
   refine V.cond rfl (fun hc1 => ?_) (fun hc1 => ?_)
   ·
    replace hm1 := cond_t hc1 hm1
    refine V.seq ?_
    refine V.region ?_
    refine VO.cons rfl (V1.assign rfl rfl rfl (ltb rfl) ?_)
    refine VO.nil ?_
    refine V.ret ?_
    obtain rfl := hr1 _ (Option.some.inj hm1).symm
    change some _ = some _ at hm0
    obtain rfl := Option.some.inj hm0
    exact ⟨_, [], ⟨_, _, rfl, rfl, rfl⟩, List.nil_sublist _, rfl, rfl⟩
   ·
    replace hm1 := cond_f hc1 hm1
    refine V.skip ?_
    refine V.region ?_
    refine VO.cons rfl (V1.move rfl rfl rfl (ltb rfl) ?_)
    refine VO.cons rfl (V1.int rfl rfl rfl rfl rfl (ltb rfl) ?_)
    refine VO.cons rfl (V1.assign rfl rfl rfl (ltb rfl) ?_)
    refine VO.nil ?_
    exact ⟨(m0, (IntKind.i64.wrap (i + (1 : Int))), ()), hl1 _ (Option.some.inj hm1).symm, Nat.lt_succ_self _, Keeps.mk (ks := [1]) rfl ⟨rfl, rfl, trivial⟩ (⟨_, _, rfl, rfl, rfl⟩) rfl⟩
  ·
   replace hm1 := cond_f hc0 hm1
   refine V.exit ?_
   obtain rfl := hr1 _ (Option.some.inj hm1).symm
   exact ⟨((), ()), rfl, Keeps.mk (ks := [0]) rfl ⟨rfl, trivial⟩ (⟨_, _, rfl, rfl, rfl⟩) rfl⟩
 ·
  rintro ⟨_, _⟩ rfl
  try dsimp only at hm0
  refine V.seq ?_
  replace hm0 := bindO hm0; rcases hm0 with ⟨y2, hh3, hm0⟩
  replace hm0 := bindO hm0; rcases hm0 with ⟨y3, hh4, hm0⟩
  replace hm0 := bindO hm0; rcases hm0 with ⟨y4, hh5, hm0⟩
  refine V.region ?_
  refine VO.cons rfl (V1.fieldRef rfl rfl fo_95_0 rfl (ltb rfl) ?_)
  refine VO.cons rfl (V1.loadRef (k := 0) rfl rfl tyk_3 rfl rfl rfl rfl rfl (ltb rfl) ?_)
  refine VO.cons rfl (V1.call rfl rfl rfl cok_168 rfl (ok_spec_l1In hh3) rfl (ltb rfl) ?_)
  rintro _ _ ⟨rfl, rfl⟩
  refine VO.cons rfl (V1.move rfl rfl rfl (ltb rfl) ?_)
  apply VO.and (n := 3) rfl rfl rfl rfl rfl rfl (ltb rfl) (.none rfl)
  ·
   intro hg3
   refine VO.step (.some rfl rfl rfl) (V1.fieldRef rfl rfl fo_95_1 rfl (ltb rfl) ?_)
   refine VO.step (.some rfl rfl rfl) (V1.loadRef (k := 0) rfl rfl tyk_3 rfl rfl rfl rfl rfl (ltb rfl) ?_)
   refine VO.step (.some rfl rfl rfl) (V1.call rfl rfl rfl cok_168 rfl (ok_spec_l1In (cond_t hg3 hh4)) rfl (ltb rfl) ?_)
   rintro _ _ ⟨rfl, rfl⟩
   exact VO.nil ⟨rfl, rfl, rfl, rfl, .inr ⟨rfl, .inr ⟨rfl, .inr ⟨rfl, .inr ⟨rfl, .inl rfl⟩⟩⟩⟩⟩
  refine VO.cons rfl (V1.move rfl rfl rfl (ltb rfl) ?_)
  apply VO.and (n := 3) rfl rfl rfl rfl rfl rfl (ltb rfl) (.none rfl)
  ·
   intro hg4
   refine VO.step (.some rfl rfl rfl) (V1.fieldRef rfl rfl fo_95_2 rfl (ltb rfl) ?_)
   refine VO.step (.some rfl rfl rfl) (V1.loadRef (k := 0) rfl rfl tyk_3 rfl rfl rfl rfl rfl (ltb rfl) ?_)
   refine VO.step (.some rfl rfl rfl) (V1.call rfl rfl rfl cok_139 rfl (ok_spec_l2Day (cond_t hg4 hh5)) rfl (ltb rfl) ?_)
   rintro _ _ ⟨rfl, rfl⟩
   exact VO.nil ⟨rfl, rfl, rfl, rfl, .inr ⟨rfl, .inr ⟨rfl, .inr ⟨rfl, .inr ⟨rfl, .inl rfl⟩⟩⟩⟩⟩
  refine VO.cons rfl (V1.move rfl rfl rfl (ltb rfl) ?_)
  apply VO.and (n := 4) rfl rfl rfl rfl rfl rfl (ltb rfl) (.none rfl)
  ·
   intro hg5
   refine VO.step (.some rfl rfl rfl) (V1.fieldRef rfl rfl fo_95_3 rfl (ltb rfl) ?_)
   refine VO.step (.some rfl rfl rfl) (V1.loadRef (k := 0) rfl rfl tyk_93 rfl rfl rfl rfl rfl (ltb rfl) ?_)
   refine VO.step (.some rfl rfl rfl) (V1.lenMap rfl rfl rfl rfl rfl rfl isl_93 (ltb rfl) ?_)
   refine VO.step (.some rfl rfl rfl) (V1.int rfl rfl rfl rfl rfl (ltb rfl) ?_)
   exact VO.nil ⟨rfl, rfl, rfl, rfl, .inr ⟨rfl, .inr ⟨rfl, .inr ⟨rfl, .inr ⟨rfl, .inr ⟨rfl, .inl rfl⟩⟩⟩⟩⟩⟩
  refine VO.cons rfl (V1.assign rfl rfl rfl (ltb rfl) ?_)
  refine VO.nil ?_
  refine V.ret ?_
  obtain rfl := Option.some.inj hm0
  exact ⟨_, [], ⟨_, _, rfl, rfl, rfl⟩, List.nil_sublist _, rfl, rfl⟩

theorem ok_spec_l9Asked {ρ0 σ0 ρ1 rn : Nat} {list : List Hold} {r_ : Record} {day : Int} {r : Bool} (h : M.spec_l9Asked list r_ day = some r) : Does Try.prog 189 [.vl ρ0 6 (List.map (encHold σ0) list), encRecord ρ1 r_, .int .i64 day] [] rn (fun x H => x = .bool r ∧ H = []) := by
 have hm0 := h; clear h; unfold M.spec_l9Asked at hm0
 try dsimp only at hm0
 refine Does.intro (N := 17) Try.func189 rfl rfl rfl rfl ?_
 intro w0 S0
 refine V.seq ?_
 refine V.region ?_
 refine VO.cons rfl (V1.boxN (n := 4) rfl rfl rfl rfl rfl (ltb rfl) ?_)
 intro b0
 refine VO.cons rfl (V1.assign rfl rfl rfl (ltb rfl) ?_)
 refine VO.nil ?_
 refine V.seq ?_
 replace hm0 := bindO hm0; rcases hm0 with ⟨y0, hh0, hm0⟩
 replace hm0 := bindO hm0; rcases hm0 with ⟨y1, hh1, hm0⟩
 replace hm0 := bindO hm0; rcases hm0 with ⟨y2, hh2, hm0⟩
 refine V.region ?_
 refine VO.cons rfl (V1.move rfl rfl rfl (ltb rfl) ?_)
 refine VO.cons rfl (V1.call rfl rfl rfl cok_195 rfl (ok_spec_l9Good hh0) rfl (ltb rfl) ?_)
 rintro _ _ ⟨rfl, rfl⟩
 refine VO.cons rfl (V1.move rfl rfl rfl (ltb rfl) ?_)
 apply VO.and (n := 2) rfl rfl rfl rfl rfl rfl (ltb rfl) (.none rfl)
 ·
  intro hg0
  refine VO.step (.some rfl rfl rfl) (V1.loadRefAll (k := 0) rfl rfl tyk_95 rfl rfl rfl rfl rfl (ltb rfl) ?_)
  refine VO.step (.some rfl rfl rfl) (V1.call rfl rfl rfl cok_214 rfl (ok_spec_l2Record (cond_t hg0 hh1)) rfl (ltb rfl) ?_)
  rintro _ _ ⟨rfl, rfl⟩
  exact VO.nil ⟨rfl, rfl, rfl, rfl, .inr ⟨rfl, .inr ⟨rfl, .inr ⟨rfl, .inl rfl⟩⟩⟩⟩
 refine VO.cons rfl (V1.move rfl rfl rfl (ltb rfl) ?_)
 apply VO.and (n := 2) rfl rfl rfl rfl rfl rfl (ltb rfl) (.none rfl)
 ·
  intro hg1
  refine VO.step (.some rfl rfl rfl) (V1.move rfl rfl rfl (ltb rfl) ?_)
  refine VO.step (.some rfl rfl rfl) (V1.call rfl rfl rfl cok_139 rfl (ok_spec_l2Day (cond_t hg1 hh2)) rfl (ltb rfl) ?_)
  rintro _ _ ⟨rfl, rfl⟩
  exact VO.nil ⟨rfl, rfl, rfl, rfl, .inr ⟨rfl, .inr ⟨rfl, .inr ⟨rfl, .inl rfl⟩⟩⟩⟩
 refine VO.cons rfl (V1.assign rfl rfl rfl (ltb rfl) ?_)
 refine VO.nil ?_
 refine V.ret ?_
 obtain rfl := Option.some.inj hm0
 exact ⟨_, [], ⟨_, _, rfl, rfl, rfl⟩, List.nil_sublist _, rfl, rfl⟩

theorem ok_spec_l1Has {ρ0 rn : Nat} {l : List Int} {n : Int} {r : Bool} (h : M.spec_l1Has l n = some r) : Does Try.prog 141 [.vl ρ0 1 (List.map encInt l), .int .i64 n] [] rn (fun x H => x = .bool r ∧ H = []) := by
 have hm0 := h; clear h; unfold M.spec_l1Has at hm0
 try dsimp only at hm0
 refine Does.intro (N := 18) Try.func141 rfl rfl rfl rfl ?_
 intro w0 S0
 refine V.seq ?_
 refine V.region ?_
 refine VO.cons rfl (V1.assign rfl rfl rfl (ltb rfl) ?_)
 refine VO.nil ?_
 refine V.seq ?_
 refine V.seq ?_
 refine V.region ?_
 refine VO.cons rfl (V1.assign rfl rfl rfl (ltb rfl) ?_)
 refine VO.nil ?_
 replace hm0 := bindO hm0; rcases hm0 with ⟨e0, he1, hm0⟩
 refine V.cutT (D := (Unit) × (Unit)) (fun ⟨_, _⟩ => ⟨18, [], []⟩) (fun ⟨_, _⟩ => (.inl () = e0)) ?_ ?_
 ·
  refine V.block ?_
  refine V.keep 18 [5, 0, 1] [] (E0 := [(5, .int .i64 (0 : Int)), (0, .vl ρ0 1 (List.map encInt l)), (1, .int .i64 n)]) (H0 := []) rfl (⟨_, _, rfl, rfl, ⟨_, _, rfl, rfl, ⟨_, _, rfl, rfl, rfl⟩⟩⟩) (rfl) rfl ?_
  refine V.loopE (D := Nat × (Int) × (Unit)) (fun ⟨n0, i, _⟩ => [(5, .int .i64 i)]) (fun ⟨n0, i, _⟩ => []) (fun ⟨n0, i, _⟩ => loopO (M.spec_l1Has_l0 l n) n0 i = some e0) (fun ⟨n0, _, _⟩ => n0) (rounds, (0 : Int), ()) rfl he1 ?_
  rintro ⟨n0, i, _⟩ hP0
  obtain ⟨m0, y0, rfl, hm1, hl1, hr1⟩ := loop_head hP0
  unfold M.spec_l1Has_l0 at hm1; dsimp only at hm1
  show V _ _ _ ⟨18, [(5, .int .i64 i), (0, .vl ρ0 1 (List.map encInt l)), (1, .int .i64 n)], []⟩
  refine V.seq ?_
  refine V.seq ?_
  refine V.region ?_
  refine VO.cons rfl (V1.move rfl rfl rfl (ltb rfl) ?_)
  refine VO.cons rfl (V1.move rfl rfl rfl (ltb rfl) ?_)
  refine VO.cons rfl (V1.lenMap rfl rfl rfl rfl rfl rfl isl_34 (ltb rfl) ?_)
  refine VO.cons rfl (V1.int rfl rfl rfl rfl rfl (ltb rfl) ?_)
  refine VO.nil ?_
  refine V.cond rfl (fun hc0 => ?_) (fun hc0 => ?_)
  ·
   replace hm1 := cond_t hc0 hm1
   refine V.skip ?_
   refine V.keep 18 [0, 1, 5] [] (E0 := [(0, .vl ρ0 1 (List.map encInt l)), (1, .int .i64 n), (5, .int .i64 i)]) (H0 := []) rfl (⟨_, _, rfl, rfl, ⟨_, _, rfl, rfl, ⟨_, _, rfl, rfl, rfl⟩⟩⟩) (rfl) rfl ?_
   refine V.seq ?_
   refine V.block ?_
   refine V.seq ?_
   replace hm1 := asrt_some hm1; rcases hm1 with ⟨hh0, hm1⟩
   refine V.region ?_
   refine VO.cons rfl (V1.move rfl rfl rfl (ltb rfl) ?_)
   refine VO.cons rfl (V1.move rfl rfl rfl (ltb rfl) ?_)
   refine VO.cons rfl (V1.indexI rfl rfl esz_34 rfl rfl hh0 (ltb rfl) ?_)
   refine VO.cons rfl (V1.loadPin rfl rfl tyk_3 rfl rfl (ltb rfl) ?_)
   refine VO.cons rfl (V1.move rfl rfl rfl (ltb rfl) ?_)
   refine VO.cons rfl (V1.int rfl rfl rfl rfl rfl (ltb rfl) ?_)
   refine VO.nil ?_
   refine V.keep 18 [0, 1, 5, 17] [] (E0 := [(0, .vl ρ0 1 (List.map encInt l)), (1, .int .i64 n), (5, .int .i64 i), (17, .bool ((l.getD (Int.toNat i) default) == n))]) (H0 := []) rfl (⟨_, _, rfl, rfl, ⟨_, _, rfl, rfl, ⟨_, _, rfl, rfl, ⟨_, _, rfl, rfl, rfl⟩⟩⟩⟩) (rfl) rfl ?_
   refine V.cond rfl (fun hc1 => ?_) (fun hc1 => ?_)
   ·
    replace hm1 := cond_t hc1 hm1
    refine V.seq ?_
    refine V.region ?_
    refine VO.cons rfl (V1.assign rfl rfl rfl (ltb rfl) ?_)
    refine VO.nil ?_
    refine V.ret ?_
    obtain rfl := hr1 _ (Option.some.inj hm1).symm
    change some _ = some _ at hm0
    obtain rfl := Option.some.inj hm0
    exact ⟨_, [], ⟨_, _, rfl, rfl, rfl⟩, List.nil_sublist _, rfl, rfl⟩
   ·
    replace hm1 := cond_f hc1 hm1
    refine V.skip ?_
    refine V.region ?_
    refine VO.cons rfl (V1.move rfl rfl rfl (ltb rfl) ?_)
    refine VO.cons rfl (V1.int rfl rfl rfl rfl rfl (ltb rfl) ?_)
    refine VO.cons rfl (V1.assign rfl rfl rfl (ltb rfl) ?_)
    refine VO.nil ?_
    exact ⟨(m0, (IntKind.i64.wrap (i + (1 : Int))), ()), hl1 _ (Option.some.inj hm1).symm, Nat.lt_succ_self _, Keeps.mk (ks := []) rfl ⟨rfl, rfl, rfl, trivial⟩ (rfl) rfl⟩
  ·
   replace hm1 := cond_f hc0 hm1
   refine V.exit ?_
   obtain rfl := hr1 _ (Option.some.inj hm1).symm
   exact ⟨((), ()), rfl, Keeps.mk (ks := []) rfl trivial (rfl) rfl⟩
 ·
  rintro ⟨_, _⟩ rfl
  try dsimp only at hm0
  refine V.seq ?_
  refine V.region ?_
  refine VO.cons rfl (V1.assign rfl rfl rfl (ltb rfl) ?_)
  refine VO.nil ?_
  refine V.ret ?_
  obtain rfl := Option.some.inj hm0
  exact ⟨_, [], ⟨_, _, rfl, rfl, rfl⟩, List.nil_sublist _, rfl, rfl⟩

theorem ok_spec_l9Covers {ρ0 ρ1 rn : Nat} {h_ : Hold} {r_ : Record} {day : Int} {r : Bool} (h : M.spec_l9Covers h_ r_ day = some r) : Does Try.prog 203 [encHold ρ0 h_, encRecord ρ1 r_, .int .i64 day] [] rn (fun x H => x = .bool r ∧ H = []) := by
 have hm0 := h; clear h; unfold M.spec_l9Covers at hm0
 try dsimp only at hm0
 refine Does.intro (N := 46) Try.func203 rfl rfl rfl rfl ?_
 intro w0 S0
 refine V.seq ?_
 refine V.region ?_
 refine VO.cons rfl (V1.boxN (n := 6) rfl rfl rfl rfl rfl (ltb rfl) ?_)
 intro b0
 refine VO.cons rfl (V1.boxN (n := 4) rfl rfl rfl rfl rfl (ltb rfl) ?_)
 intro b1
 refine VO.cons rfl (V1.assign rfl rfl rfl (ltb rfl) ?_)
 refine VO.nil ?_
 refine V.seq ?_
 refine V.region ?_
 refine VO.cons rfl (V1.fieldRef rfl rfl fo_183_1 rfl (ltb rfl) ?_)
 refine VO.cons rfl (V1.loadRef (k := 1) rfl rfl tyk_3 rfl rfl rfl rfl rfl (ltb rfl) ?_)
 refine VO.cons rfl (V1.move rfl rfl rfl (ltb rfl) ?_)
 refine VO.cons rfl (V1.int rfl rfl rfl rfl rfl (ltb rfl) ?_)
 refine VO.cons rfl (V1.move rfl rfl rfl (ltb rfl) ?_)
 apply VO.and (n := 9) rfl rfl rfl rfl rfl rfl (ltb rfl) (.none rfl)
 ·
  intro hg0
  refine VO.step (.some rfl rfl rfl) (V1.fieldRef rfl rfl fo_183_2 rfl (ltb rfl) ?_)
  refine VO.step (.some rfl rfl rfl) (V1.loadRef (k := 1) rfl rfl tyk_3 rfl rfl rfl rfl rfl (ltb rfl) ?_)
  refine VO.step (.some rfl rfl rfl) (V1.int rfl rfl rfl rfl rfl (ltb rfl) ?_)
  refine VO.step (.some rfl rfl rfl) (V1.move rfl rfl rfl (ltb rfl) ?_)
  apply VO.or (n := 4) rfl rfl rfl rfl rfl rfl (ltb rfl) (.some rfl rfl rfl)
  ·
   intro hg1
   refine VO.step (.some rfl rfl rfl) (V1.move rfl rfl rfl (ltb rfl) ?_)
   refine VO.step (.some rfl rfl rfl) (V1.fieldRef rfl rfl fo_183_2 rfl (ltb rfl) ?_)
   refine VO.step (.some rfl rfl rfl) (V1.loadRef (k := 1) rfl rfl tyk_3 rfl rfl rfl rfl rfl (ltb rfl) ?_)
   refine VO.step (.some rfl rfl rfl) (V1.int rfl rfl rfl rfl rfl (ltb rfl) ?_)
   exact VO.nil ⟨rfl, rfl, rfl, rfl, .inr ⟨rfl, .inr ⟨rfl, .inr ⟨rfl, .inr ⟨rfl, .inr ⟨rfl, .inl rfl⟩⟩⟩⟩⟩⟩
  exact VO.nil ⟨rfl, rfl, rfl, rfl, .inr ⟨rfl, .inr ⟨rfl, .inr ⟨rfl, .inr ⟨rfl, .inr ⟨rfl, .inr ⟨rfl, .inl rfl⟩⟩⟩⟩⟩⟩⟩
 refine VO.cons rfl (V1.assign rfl rfl rfl (ltb rfl) ?_)
 refine VO.nil ?_
 refine V.keep 46 [3, 4, 7] [0, 1] (E0 := [(3, .ref b0 6 0 0), (4, .ref b1 4 0 0), (7, .bool ((decide (h_.From ≤ day)) && ((h_.Until == (-1 : Int)) || (decide (day < h_.Until)))))]) (H0 := [(b1, ⟨4, [encRecord ρ1 r_]⟩), (b0, ⟨6, [encHold ρ0 h_]⟩)]) rfl (⟨_, _, rfl, rfl, ⟨_, _, rfl, rfl, ⟨_, _, rfl, rfl, rfl⟩⟩⟩) (⟨_, _, rfl, rfl, ⟨_, _, rfl, rfl, rfl⟩⟩) rfl ?_
 refine V.seq ?_
 replace hm0 := bindO hm0; rcases hm0 with ⟨y0, hh0, hm0⟩
 replace hm0 := bindO hm0; rcases hm0 with ⟨y1, hh1, hm0⟩
 refine V.region ?_
 refine VO.cons rfl (V1.move rfl rfl rfl (ltb rfl) ?_)
 refine VO.cons rfl (V1.move rfl rfl rfl (ltb rfl) ?_)
 apply VO.and (n := 11) rfl rfl rfl rfl rfl rfl (ltb rfl) (.none rfl)
 ·
  intro hg2
  refine VO.step (.some rfl rfl rfl) (V1.fieldRef rfl rfl fo_183_3 rfl (ltb rfl) ?_)
  refine VO.step (.some rfl rfl rfl) (V1.loadRef (k := 1) rfl rfl tyk_34 rfl rfl rfl rfl rfl (ltb rfl) ?_)
  refine VO.step (.some rfl rfl rfl) (V1.lenMap rfl rfl rfl rfl rfl rfl isl_34 (ltb rfl) ?_)
  refine VO.step (.some rfl rfl rfl) (V1.int rfl rfl rfl rfl rfl (ltb rfl) ?_)
  refine VO.step (.some rfl rfl rfl) (V1.move rfl rfl rfl (ltb rfl) ?_)
  apply VO.or (n := 5) rfl rfl rfl rfl rfl rfl (ltb rfl) (.some rfl rfl rfl)
  ·
   intro hg3
   refine VO.step (.some rfl rfl rfl) (V1.fieldRef rfl rfl fo_183_3 rfl (ltb rfl) ?_)
   refine VO.step (.some rfl rfl rfl) (V1.loadRef (k := 1) rfl rfl tyk_34 rfl rfl rfl rfl rfl (ltb rfl) ?_)
   refine VO.step (.some rfl rfl rfl) (V1.fieldRef rfl rfl fo_95_1 rfl (ltb rfl) ?_)
   refine VO.step (.some rfl rfl rfl) (V1.loadRef (k := 0) rfl rfl tyk_3 rfl rfl rfl rfl rfl (ltb rfl) ?_)
   refine VO.step (.some rfl rfl rfl) (V1.call rfl rfl rfl cok_141 rfl (ok_spec_l1Has (cond_f hg3 (cond_t hg2 hh0))) rfl (ltb rfl) ?_)
   rintro _ _ ⟨rfl, rfl⟩
   exact VO.nil ⟨rfl, rfl, rfl, rfl, .inr ⟨rfl, .inr ⟨rfl, .inr ⟨rfl, .inr ⟨rfl, .inr ⟨rfl, .inr ⟨rfl, .inl rfl⟩⟩⟩⟩⟩⟩⟩
  exact VO.nil ⟨rfl, rfl, rfl, rfl, .inr ⟨rfl, .inr ⟨rfl, .inr ⟨rfl, .inr ⟨rfl, .inr ⟨rfl, .inr ⟨rfl, .inr ⟨rfl, .inl rfl⟩⟩⟩⟩⟩⟩⟩⟩
 refine VO.cons rfl (V1.move rfl rfl rfl (ltb rfl) ?_)
 apply VO.and (n := 7) rfl rfl rfl rfl rfl rfl (ltb rfl) (.none rfl)
 ·
  intro hg4
  refine VO.step (.some rfl rfl rfl) (V1.fieldRef rfl rfl fo_95_2 rfl (ltb rfl) ?_)
  refine VO.step (.some rfl rfl rfl) (V1.loadRef (k := 0) rfl rfl tyk_3 rfl rfl rfl rfl rfl (ltb rfl) ?_)
  refine VO.step (.some rfl rfl rfl) (V1.fieldRef rfl rfl fo_183_4 rfl (ltb rfl) ?_)
  refine VO.step (.some rfl rfl rfl) (V1.loadRef (k := 1) rfl rfl tyk_3 rfl rfl rfl rfl rfl (ltb rfl) ?_)
  refine VO.step (.some rfl rfl rfl) (V1.fieldRef rfl rfl fo_183_5 rfl (ltb rfl) ?_)
  refine VO.step (.some rfl rfl rfl) (V1.loadRef (k := 1) rfl rfl tyk_3 rfl rfl rfl rfl rfl (ltb rfl) ?_)
  refine VO.step (.some rfl rfl rfl) (V1.call rfl rfl rfl cok_168 rfl (ok_spec_l1In (cond_t hg4 hh1)) rfl (ltb rfl) ?_)
  rintro _ _ ⟨rfl, rfl⟩
  exact VO.nil ⟨rfl, rfl, rfl, rfl, .inr ⟨rfl, .inr ⟨rfl, .inr ⟨rfl, .inr ⟨rfl, .inr ⟨rfl, .inr ⟨rfl, .inr ⟨rfl, .inr ⟨rfl, .inl rfl⟩⟩⟩⟩⟩⟩⟩⟩⟩
 refine VO.cons rfl (V1.assign rfl rfl rfl (ltb rfl) ?_)
 refine VO.nil ?_
 refine V.ret ?_
 obtain rfl := Option.some.inj hm0
 exact ⟨_, [], ⟨_, _, rfl, rfl, rfl⟩, List.nil_sublist _, rfl, rfl⟩
end Go.Proofs.Ytjbgllhimnopaaa
