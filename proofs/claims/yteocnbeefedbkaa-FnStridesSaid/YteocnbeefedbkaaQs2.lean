/- the functions do what their models say -/
import Derived.Test.YteocnbeefedbkaaQs1
set_option linter.unusedSimpArgs false
set_option linter.unusedVariables false
set_option maxRecDepth 100000
set_option maxHeartbeats 4000000
namespace Go.Proofs.Yteocnbeefedbkaa
open Go.VS

theorem ok_spec_l1Cur_record {ρ0 rn bp : Nat} {c : Cur} {id_ : Int} {r : Record × Cur} (h : M.spec_l1Cur_record c id_ = some r) : Does Try.prog 50 [.ref bp 3 0 0, .int .i64 id_] [(bp, ⟨3, [encCur ρ0 c]⟩)] rn (fun x H => x = encRecord rn r.1 ∧ H = [(bp, ⟨3, [encCur ρ0 r.2]⟩)]) := by
 have hm0 := h; clear h; unfold M.spec_l1Cur_record at hm0
 try dsimp only at hm0
 refine Does.intro (N := 64) Try.func50 rfl rfl rfl rfl ?_
 intro w0 S0 L0
 refine V.seq ?_
 refine V.region ?_
 refine VO.cons rfl (V1.alloc rfl rfl zk_41 lt0 ?_)
 intro b0
 refine VO.nil ?_
 refine V.seq ?_
 replace hm0 := bindO hm0; rcases hm0 with ⟨y0, hh0, hm0⟩
 replace hm0 := bindO hm0; rcases hm0 with ⟨y1, hh1, hm0⟩
 refine V.region ?_
 refine VO.cons rfl (V1.move rfl rfl rfl lt0 ?_)
 refine VO.cons rfl (V1.move rfl rfl rfl lt0 ?_)
 refine VO.cons rfl (V1.buildSliceT (f := encInt) ([(1 : Int), (2 : Int), (3 : Int), (3 : Int), (7 : Int), (99 : Int)] : List Int) rfl rfl esz_24 zk_3 rfl rfl rfl rfl rfl rfl rfl lt0 ?_)
 intro b1
 refine VO.cons rfl (V1.callM 2 (rn + ρ0 + 1) [b1] [.ref bp 3 0 0, .vl (rn + ρ0 + 1) 1 (List.map encInt ([(1 : Int), (2 : Int), (3 : Int), (3 : Int), (7 : Int), (99 : Int)] : List Int))] (p := (bp, ⟨3, [encCur ρ0 c]⟩)) rfl rfl rfl cok_21 rfl rfl ⟨_, _, rfl, .same _, ⟨_, _, rfl, Lend.srMap 0 rfl (fun _ => rfl) (.head _), rfl⟩⟩ (bwCons (k := 0) rfl bwNil) (ok_spec_l1Cur_among hh0) rfl (.inr ⟨(by first | omega | (dsimp only; omega)), by rintro _ _ ⟨rfl, rfl⟩; exact ⟨by simp [PV.no, PV.noL, optS_no, noL_iff, nbeq] <;> omega, by intro b ob h; first | exact optH_no (noL_map (fun _ => by simp [PV.no, PV.noL, noL_iff, nbeq]) _) b ob h | (simp only [List.append_assoc, List.mem_append, List.mem_cons, List.mem_singleton, List.not_mem_nil, or_false, Prod.mk.injEq] at h; rcases h with ⟨rfl, rfl⟩ | ⟨rfl, rfl⟩ <;> first | exact noL_map (fun _ => by simp [PV.no, PV.noL, noL_iff, nbeq]) _ | (simp [PV.no, PV.noL, optS_no, noL_iff, nbeq] <;> omega)) | (simp at h; obtain ⟨rfl, rfl⟩ := h; exact noL_map (fun _ => by simp [PV.no, PV.noL, noL_iff, nbeq]) _) | (simp at h; obtain ⟨rfl, rfl⟩ := h; simp [PV.no, PV.noL, optS_no, noL_iff, nbeq] <;> omega)⟩⟩) lt0 ?_)
 rintro _ _ ⟨rfl, rfl⟩
 refine VO.cons rfl (V1.move rfl rfl rfl lt0 ?_)
 refine VO.cons rfl (V1.buildSliceT (f := encInt) ([(0 : Int), (100 : Int), (100 : Int), (500 : Int), (3000 : Int)] : List Int) rfl rfl esz_24 zk_3 rfl rfl rfl rfl rfl rfl rfl lt0 ?_)
 intro b2
 refine VO.cons rfl (V1.callM 1 (rn + ρ0 + 1) [b2] [.ref bp 3 0 0, .vl (rn + ρ0 + 1) 1 (List.map encInt ([(0 : Int), (100 : Int), (100 : Int), (500 : Int), (3000 : Int)] : List Int))] (p := (bp, ⟨3, [encCur ρ0 y0.2]⟩)) rfl rfl rfl cok_21 rfl rfl ⟨_, _, rfl, .same _, ⟨_, _, rfl, Lend.srMap 0 rfl (fun _ => rfl) (.head _), rfl⟩⟩ (bwCons (k := 0) rfl bwNil) (ok_spec_l1Cur_among hh1) rfl (.inr ⟨(by first | omega | (dsimp only; omega)), by rintro _ _ ⟨rfl, rfl⟩; exact ⟨by simp [PV.no, PV.noL, optS_no, noL_iff, nbeq] <;> omega, by intro b ob h; first | exact optH_no (noL_map (fun _ => by simp [PV.no, PV.noL, noL_iff, nbeq]) _) b ob h | (simp only [List.append_assoc, List.mem_append, List.mem_cons, List.mem_singleton, List.not_mem_nil, or_false, Prod.mk.injEq] at h; rcases h with ⟨rfl, rfl⟩ | ⟨rfl, rfl⟩ <;> first | exact noL_map (fun _ => by simp [PV.no, PV.noL, noL_iff, nbeq]) _ | (simp [PV.no, PV.noL, optS_no, noL_iff, nbeq] <;> omega)) | (simp at h; obtain ⟨rfl, rfl⟩ := h; exact noL_map (fun _ => by simp [PV.no, PV.noL, noL_iff, nbeq]) _) | (simp at h; obtain ⟨rfl, rfl⟩ := h; simp [PV.no, PV.noL, optS_no, noL_iff, nbeq] <;> omega)⟩⟩) lt0 ?_)
 rintro _ _ ⟨rfl, rfl⟩
 refine VO.cons rfl (V1.buildSliceT (f := encEvent) ([] : List Event) rfl rfl esz_39 zk_75 rfl rfl rfl rfl rfl rfl rfl lt0 ?_)
 intro b3
 refine VO.cons rfl (V1.build rfl rfl zk_41 pl_41 rfl rfl lt0 ?_)
 refine VO.cons rfl (V1.alloc rfl rfl zk_41 lt0 ?_)
 intro b4
 refine VO.cons rfl (V1.storeRefAll (k := 0) rfl rfl tyk_41 rfl rfl rfl rfl rfl rfl ?_)
 refine VO.nil ?_
 refine V.keep 64 [0, 4, 5] [0, 1, 2, 5] (E0 := [(0, .ref bp 3 0 0), (4, .ref b0 4 0 0), (5, .ref b4 4 0 0)]) (H0 := [(b4, ⟨4, [.agg [.int .i64 id_, .int .i64 y0.1, .int .i64 y1.1, .sref b3 2 0 (List.length ([] : List Event))]]⟩), (b3, ⟨2, List.map encEvent ([] : List Event)⟩), (bp, ⟨3, [encCur ρ0 y1.2]⟩), (b0, ⟨4, [.agg [.int .i64 (0 : Int), .int .i64 (0 : Int), .int .i64 (0 : Int), .nils]]⟩)]) rfl (⟨_, _, rfl, rfl, _, _, rfl, rfl, _, _, rfl, rfl, rfl⟩) (⟨_, _, rfl, rfl, _, _, rfl, rfl, _, _, rfl, rfl, _, _, rfl, rfl, rfl⟩) rfl ?_
 refine V.seq ?_
 refine V.seq ?_
 refine V.region ?_
 refine VO.cons rfl (V1.assign rfl rfl rfl lt0 ?_)
 refine VO.nil ?_
 replace hm0 := bindO hm0; rcases hm0 with ⟨e0, he1, hm0⟩
 refine V.cutT (D := (List Event × Cur) × (Nat)) (fun ⟨⟨r_Events, c_⟩, b5⟩ => ⟨64, [(0, .ref bp 3 0 0), (4, .ref b0 4 0 0), (5, .ref b4 4 0 0)], [(b5, ⟨2, List.map encEvent r_Events⟩), (bp, ⟨3, [encCur ρ0 c_]⟩), (b4, ⟨4, [.agg [.int .i64 id_, .int .i64 y0.1, .int .i64 y1.1, .sref b5 2 0 (List.length r_Events)]]⟩), (b0, ⟨4, [.agg [.int .i64 (0 : Int), .int .i64 (0 : Int), .int .i64 (0 : Int), .nils]]⟩)]⟩) (fun ⟨⟨r_Events, c_⟩, b5⟩ => ((r_Events, c_) = e0)) ?_ ?_
 ·
  refine V.block ?_
  refine V.keep 64 [6, 0, 4, 5] [1, 2, 0, 3] (E0 := [(6, .int .i64 (1 : Int)), (0, .ref bp 3 0 0), (4, .ref b0 4 0 0), (5, .ref b4 4 0 0)]) (H0 := [(b3, ⟨2, List.map encEvent ([] : List Event)⟩), (bp, ⟨3, [encCur ρ0 y1.2]⟩), (b4, ⟨4, [.agg [.int .i64 id_, .int .i64 y0.1, .int .i64 y1.1, .sref b3 2 0 (List.length ([] : List Event))]]⟩), (b0, ⟨4, [.agg [.int .i64 (0 : Int), .int .i64 (0 : Int), .int .i64 (0 : Int), .nils]]⟩)]) rfl (⟨_, _, rfl, rfl, _, _, rfl, rfl, _, _, rfl, rfl, _, _, rfl, rfl, rfl⟩) (⟨_, _, rfl, rfl, _, _, rfl, rfl, _, _, rfl, rfl, _, _, rfl, rfl, rfl⟩) rfl ?_
  refine V.loopE (D := Nat × (Int × List Event × Cur) × (Nat)) (fun ⟨n0, ⟨k, r_Events0, c_0⟩, b6⟩ => [(6, .int .i64 k)]) (fun ⟨n0, ⟨k, r_Events0, c_0⟩, b6⟩ => [(b6, ⟨2, List.map encEvent r_Events0⟩), (bp, ⟨3, [encCur ρ0 c_0]⟩), (b4, ⟨4, [.agg [.int .i64 id_, .int .i64 y0.1, .int .i64 y1.1, .sref b6 2 0 (List.length r_Events0)]]⟩)]) (fun ⟨n0, ⟨k, r_Events0, c_0⟩, b6⟩ => loopO (M.spec_l1Cur_record_l0 y1) n0 (k, r_Events0, c_0) = some e0) (fun ⟨n0, _, _⟩ => n0) (rounds, ((1 : Int), ([] : List Event), y1.2), b3) rfl he1 ?_
  rintro ⟨n0, ⟨k, r_Events0, c_0⟩, b6⟩ hP0
  obtain ⟨m0, y2, rfl, hm1, hl1, hr1⟩ := loop_head hP0
  unfold M.spec_l1Cur_record_l0 at hm1; dsimp only at hm1
  show V _ _ _ ⟨64, [(6, .int .i64 k), (0, .ref bp 3 0 0), (4, .ref b0 4 0 0), (5, .ref b4 4 0 0)], [(b6, ⟨2, List.map encEvent r_Events0⟩), (bp, ⟨3, [encCur ρ0 c_0]⟩), (b4, ⟨4, [.agg [.int .i64 id_, .int .i64 y0.1, .int .i64 y1.1, .sref b6 2 0 (List.length r_Events0)]]⟩), (b0, ⟨4, [.agg [.int .i64 (0 : Int), .int .i64 (0 : Int), .int .i64 (0 : Int), .nils]]⟩)]⟩
  refine V.seq ?_
  refine V.seq ?_
  refine V.region ?_
  refine VO.cons rfl (V1.move rfl rfl rfl lt0 ?_)
  refine VO.cons rfl (V1.int rfl rfl rfl rfl rfl lt0 ?_)
  refine VO.nil ?_
  refine V.cond rfl (fun hc0 => ?_) (fun hc0 => ?_)
  ·
   replace hm1 := cond_t hc0 hm1
   refine V.skip ?_
   refine V.seq ?_
   replace hm1 := bindO hm1; rcases hm1 with ⟨j0, hm2, hm1⟩
   refine V.cutT (D := (List Event × Cur) × (Nat)) (fun ⟨⟨r_Events1, c_1⟩, b7⟩ => ⟨64, [(0, .ref bp 3 0 0), (4, .ref b0 4 0 0), (5, .ref b4 4 0 0), (6, .int .i64 k)], [(b7, ⟨2, List.map encEvent r_Events1⟩), (bp, ⟨3, [encCur ρ0 c_1]⟩), (b4, ⟨4, [.agg [.int .i64 id_, .int .i64 y0.1, .int .i64 y1.1, .sref b7 2 0 (List.length r_Events1)]]⟩), (b0, ⟨4, [.agg [.int .i64 (0 : Int), .int .i64 (0 : Int), .int .i64 (0 : Int), .nils]]⟩)]⟩) (fun ⟨⟨r_Events1, c_1⟩, b7⟩ => ((r_Events1, c_1) = j0)) ?_ ?_
   ·
    refine V.block ?_
    refine V.seq ?_
    replace hm2 := bindO hm2; rcases hm2 with ⟨y3, hh2, hm2⟩
    refine V.region ?_
    refine VO.cons rfl (V1.move rfl rfl rfl lt0 ?_)
    refine VO.cons rfl (V1.callM 1 (rn + ρ0 + 1) [] [.ref bp 3 0 0, .int .i64 (3 : Int)] (p := (bp, ⟨3, [encCur ρ0 c_0]⟩)) rfl rfl rfl cok_49 rfl rfl ⟨_, _, rfl, .same _, ⟨_, _, rfl, .same _, rfl⟩⟩ bwNil (ok_spec_l1Cur_one hh2) rfl (.inl rfl) lt0 ?_)
    rintro _ _ ⟨rfl, rfl⟩
    refine VO.nil ?_
    refine V.cond rfl (fun hc1 => ?_) (fun hc1 => ?_)
    ·
     replace hm2 := cond_t hc1 hm2
     replace hm2 := bindO hm2; rcases hm2 with ⟨y4, hh3, hm2⟩
     replace hm2 := asrt_some hm2; rcases hm2 with ⟨hh4, hm2⟩
     replace hm2 := bindO hm2; rcases hm2 with ⟨j1, hm3, hm2⟩
     refine V.cutT (D := (List Event × Cur) × (Nat)) (fun ⟨⟨r_Events2, c_2⟩, b11⟩ => ⟨64, [(0, .ref bp 3 0 0), (4, .ref b0 4 0 0), (5, .ref b4 4 0 0), (6, .int .i64 k)], [(b11, ⟨2, List.map encEvent r_Events2⟩), (bp, ⟨3, [encCur ρ0 c_2]⟩), (b4, ⟨4, [.agg [.int .i64 id_, .int .i64 y0.1, .int .i64 y1.1, .sref b11 2 0 (List.length r_Events2)]]⟩), (b0, ⟨4, [.agg [.int .i64 (0 : Int), .int .i64 (0 : Int), .int .i64 (0 : Int), .nils]]⟩)]⟩) (fun ⟨⟨r_Events2, c_2⟩, b11⟩ => ((r_Events2, c_2) = j1)) ?_ ?_
     ·
      refine V.regionS [] 64 11 [⟨[(5, none)], false⟩, ⟨[(22, some 0)], true⟩, ⟨[(6, none)], false⟩, ⟨[(5, none)], false⟩, ⟨[(25, some 3)], true⟩, ⟨[(0, none)], false⟩, ⟨[], true⟩, ⟨[(27, some 5), (28, some 6)], true⟩, ⟨[(26, some 4), (29, some 7)], false⟩, ⟨[(24, some 2), (30, some 8)], false⟩, ⟨[(31, some 9)], true⟩] [(0, none), (4, none), (5, none), (6, none), (23, some 1), (32, some 10)] 5 (⟨_, rfl, ⟨_, rfl, ⟨_, rfl, ⟨_, rfl, ⟨_, rfl, ⟨_, rfl, ⟨_, rfl, ⟨_, rfl, ⟨_, rfl, ⟨_, rfl, ⟨_, rfl, ⟨rfl, rfl⟩⟩⟩⟩⟩⟩⟩⟩⟩⟩⟩⟩) mixed_orders rfl (by decide +kernel) ?_
      refine WalkP.step (p := ?pv2322) 0 rfl rfl rfl rfl rfl (⟨_, _, rfl, rfl, rfl⟩) ?hv2322 ?rest2322
      case hv2322 =>
       intro E1 H1 hI1
       refine (V1.fieldRef rfl rfl fo_41_3 rfl lt0 ?_)
       exact rfl
      refine WalkP.step (p := ?pv2323) 2 rfl rfl rfl rfl rfl (⟨_, _, rfl, rfl, rfl⟩) ?hv2323 ?rest2323
      case hv2323 =>
       intro E1 H1 hI1
       refine (V1.move rfl rfl rfl lt0 ?_)
       exact rfl
      refine WalkP.step (p := ?pv2324) 3 rfl rfl rfl rfl rfl (⟨_, _, rfl, rfl, rfl⟩) ?hv2324 ?rest2324
      case hv2324 =>
       intro E1 H1 hI1
       refine (V1.fieldRef rfl rfl fo_41_2 rfl lt0 ?_)
       exact rfl
      refine WalkP.step (p := ?pv2325) 5 rfl rfl rfl rfl rfl (⟨_, _, rfl, rfl, rfl⟩) ?hv2325 ?rest2325
      case hv2325 =>
       intro E1 H1 hI1
       refine (V1.move rfl rfl rfl lt0 ?_)
       exact rfl
      refine WalkP.nil ?_
      refine NodeS.branch [1, 4, 6] inNil rfl rfl rfl ⟨?_, ?_, ?_, trivial⟩
      ·
       refine ⟨_, _, _, _, rfl, rfl, rfl, (⟨_, _, rfl, rfl, rfl⟩), fun E1 => ?_⟩
       refine (V1.loadRef (k := 2) rfl rfl tyk_39 rfl rfl rfl rfl rfl lt0 ?_)
       refine ⟨_, _, rfl, ?_⟩
       refine WalkP.nil ?_
       refine NodeS.branch [4, 6] inNil rfl rfl rfl ⟨?_, ?_, trivial⟩
       ·
        refine ⟨_, _, _, _, rfl, rfl, rfl, (⟨_, _, rfl, rfl, rfl⟩), fun E1 => ?_⟩
        refine (V1.loadRef (k := 2) rfl rfl tyk_3 rfl rfl rfl rfl rfl lt0 ?_)
        refine ⟨_, _, rfl, ?_⟩
        refine WalkP.nil ?_
        refine NodeS.branch [6] inNil rfl rfl rfl ⟨?_, trivial⟩
        ·
         refine ⟨_, _, _, _, rfl, rfl, rfl, (rfl), fun E1 => ?_⟩
         refine (V1.buildSliceT (f := encInt) ([(0 : Int), (1 : Int), (30 : Int), (365 : Int), (1000 : Int)] : List Int) rfl rfl esz_24 zk_3 rfl rfl rfl rfl rfl rfl rfl lt0 ?_)
         intro b12
         refine ⟨_, _, rfl, ?_⟩
         refine WalkP.nil ?_
         refine NodeS.branch [7] inNil rfl rfl rfl ⟨?_, trivial⟩
         ·
          refine ⟨_, _, _, _, rfl, rfl, rfl, (⟨_, _, rfl, rfl, _, _, rfl, rfl, rfl⟩), fun E1 => ?_⟩
          refine (V1.callM 1 (rn + ρ0 + 1) [b12] [.ref bp 3 0 0, .vl (rn + ρ0 + 1) 1 (List.map encInt ([(0 : Int), (1 : Int), (30 : Int), (365 : Int), (1000 : Int)] : List Int))] (p := (bp, ⟨3, [encCur ρ0 y3.2]⟩)) rfl rfl rfl cok_21 rfl rfl ⟨_, _, rfl, .same _, ⟨_, _, rfl, Lend.srMap 0 rfl (fun _ => rfl) (.head _), rfl⟩⟩ (bwCons (k := 0) rfl bwNil) (ok_spec_l1Cur_among hh3) rfl (.inr ⟨(by first | omega | (dsimp only; omega)), by rintro _ _ ⟨rfl, rfl⟩; exact ⟨by simp [PV.no, PV.noL, optS_no, noL_iff, nbeq] <;> omega, by intro b ob h; first | exact optH_no (noL_map (fun _ => by simp [PV.no, PV.noL, noL_iff, nbeq]) _) b ob h | (simp only [List.append_assoc, List.mem_append, List.mem_cons, List.mem_singleton, List.not_mem_nil, or_false, Prod.mk.injEq] at h; rcases h with ⟨rfl, rfl⟩ | ⟨rfl, rfl⟩ <;> first | exact noL_map (fun _ => by simp [PV.no, PV.noL, noL_iff, nbeq]) _ | (simp [PV.no, PV.noL, optS_no, noL_iff, nbeq] <;> omega)) | (simp at h; obtain ⟨rfl, rfl⟩ := h; exact noL_map (fun _ => by simp [PV.no, PV.noL, noL_iff, nbeq]) _) | (simp at h; obtain ⟨rfl, rfl⟩ := h; simp [PV.no, PV.noL, optS_no, noL_iff, nbeq] <;> omega)⟩⟩) lt0 ?_)
          rintro _ _ ⟨rfl, rfl⟩
          refine ⟨_, _, rfl, ?_⟩
          refine WalkP.step (p := ?pv2327) 8 rfl rfl rfl rfl rfl (⟨_, _, rfl, rfl, _, _, rfl, rfl, rfl⟩) ?hv2327 ?rest2327
          case hv2327 =>
           intro E1 H1 hI1
           refine (V1.int rfl rfl rfl rfl rfl lt0 ?_)
           exact rfl
          refine WalkP.step (p := ?pv2328) 9 rfl rfl rfl rfl rfl (⟨_, _, rfl, rfl, _, _, rfl, rfl, rfl⟩) ?hv2328 ?rest2328
          case hv2328 =>
           intro E1 H1 hI1
           refine (V1.build rfl rfl zk_75 pl_75 rfl rfl lt0 ?_)
           exact rfl
          refine WalkP.nil ?_
          refine NodeS.branch [10] inNil rfl rfl rfl ⟨?_, trivial⟩
          ·
           refine ⟨_, _, _, _, rfl, rfl, rfl, (⟨_, _, rfl, rfl, rfl⟩), fun E1 => ?_⟩
           refine (V1.buildSliceT (f := encEvent) ([(⟨k, (IntKind.i64.wrap (y1.1 + y4.1))⟩ : Event)] : List Event) rfl rfl esz_39 zk_75 rfl rfl rfl rfl rfl rfl rfl lt0 ?_)
           intro b13
           refine ⟨_, _, rfl, ?_⟩
           refine WalkP.nil ?_
           refine NodeS.fin inNil rfl rfl rfl (⟨_, _, rfl, rfl, _, _, rfl, rfl, _, _, rfl, rfl, _, _, rfl, rfl, _, _, rfl, rfl, _, _, rfl, rfl, rfl⟩) ?_
           refine VO.cons rfl (V1.appendMap (k := 3) (f := encEvent) (l := r_Events0) (m := ([(⟨k, (IntKind.i64.wrap (y1.1 + y4.1))⟩ : Event)] : List Event)) rfl rfl rfl rfl rfl esz_39 eby_39 zk_75 rfl rfl rfl (SrcOf.srMap (k := 0) rfl isl_39) hh4 lt0 ?_)
           intro b14
           refine VO.cons rfl (V1.fieldRef rfl rfl fo_41_3 rfl lt0 ?_)
           refine VO.cons rfl (V1.storeRef (k := 4) rfl rfl tyk_39 rfl rfl rfl rfl rfl rfl rfl rfl rfl ?_)
           refine VO.nil ?_
           exact ⟨(((r_Events0 ++ ([(⟨k, (IntKind.i64.wrap (y1.1 + y4.1))⟩ : Event)] : List Event)), y4.2), b14), Option.some.inj hm3, Keeps.mk (ks := [0, 2, 4, 5]) rfl ⟨rfl, rfl, rfl, rfl, trivial⟩ (⟨_, _, rfl, rfl, _, _, rfl, rfl, _, _, rfl, rfl, _, _, rfl, rfl, rfl⟩) rfl⟩
       ·
        refine ⟨_, _, _, _, rfl, rfl, rfl, (rfl), fun E1 => ?_⟩
        refine (V1.buildSliceT (f := encInt) ([(0 : Int), (1 : Int), (30 : Int), (365 : Int), (1000 : Int)] : List Int) rfl rfl esz_24 zk_3 rfl rfl rfl rfl rfl rfl rfl lt0 ?_)
        intro b15
        refine ⟨_, _, rfl, ?_⟩
        refine WalkP.nil ?_
        refine NodeS.branch [4, 7] inNil rfl rfl rfl ⟨?_, ?_, trivial⟩
        ·
         refine ⟨_, _, _, _, rfl, rfl, rfl, (⟨_, _, rfl, rfl, rfl⟩), fun E1 => ?_⟩
         refine (V1.loadRef (k := 3) rfl rfl tyk_3 rfl rfl rfl rfl rfl lt0 ?_)
         refine ⟨_, _, rfl, ?_⟩
         refine WalkP.nil ?_
         refine NodeS.branch [7] inNil rfl rfl rfl ⟨?_, trivial⟩
         ·
          refine ⟨_, _, _, _, rfl, rfl, rfl, (⟨_, _, rfl, rfl, _, _, rfl, rfl, rfl⟩), fun E1 => ?_⟩
          refine (V1.callM 1 (rn + ρ0 + 1) [b15] [.ref bp 3 0 0, .vl (rn + ρ0 + 1) 1 (List.map encInt ([(0 : Int), (1 : Int), (30 : Int), (365 : Int), (1000 : Int)] : List Int))] (p := (bp, ⟨3, [encCur ρ0 y3.2]⟩)) rfl rfl rfl cok_21 rfl rfl ⟨_, _, rfl, .same _, ⟨_, _, rfl, Lend.srMap 0 rfl (fun _ => rfl) (.head _), rfl⟩⟩ (bwCons (k := 0) rfl bwNil) (ok_spec_l1Cur_among hh3) rfl (.inr ⟨(by first | omega | (dsimp only; omega)), by rintro _ _ ⟨rfl, rfl⟩; exact ⟨by simp [PV.no, PV.noL, optS_no, noL_iff, nbeq] <;> omega, by intro b ob h; first | exact optH_no (noL_map (fun _ => by simp [PV.no, PV.noL, noL_iff, nbeq]) _) b ob h | (simp only [List.append_assoc, List.mem_append, List.mem_cons, List.mem_singleton, List.not_mem_nil, or_false, Prod.mk.injEq] at h; rcases h with ⟨rfl, rfl⟩ | ⟨rfl, rfl⟩ <;> first | exact noL_map (fun _ => by simp [PV.no, PV.noL, noL_iff, nbeq]) _ | (simp [PV.no, PV.noL, optS_no, noL_iff, nbeq] <;> omega)) | (simp at h; obtain ⟨rfl, rfl⟩ := h; exact noL_map (fun _ => by simp [PV.no, PV.noL, noL_iff, nbeq]) _) | (simp at h; obtain ⟨rfl, rfl⟩ := h; simp [PV.no, PV.noL, optS_no, noL_iff, nbeq] <;> omega)⟩⟩) lt0 ?_)
          rintro _ _ ⟨rfl, rfl⟩
          refine ⟨_, _, rfl, ?_⟩
          refine WalkP.step (p := ?pv2330) 8 rfl rfl rfl rfl rfl (⟨_, _, rfl, rfl, _, _, rfl, rfl, rfl⟩) ?hv2330 ?rest2330
          case hv2330 =>
           intro E1 H1 hI1
           refine (V1.int rfl rfl rfl rfl rfl lt0 ?_)
           exact rfl
          refine WalkP.step (p := ?pv2331) 9 rfl rfl rfl rfl rfl (⟨_, _, rfl, rfl, _, _, rfl, rfl, rfl⟩) ?hv2331 ?rest2331
          case hv2331 =>
           intro E1 H1 hI1
           refine (V1.build rfl rfl zk_75 pl_75 rfl rfl lt0 ?_)
           exact rfl
          refine WalkP.nil ?_
          refine NodeS.branch [10] inNil rfl rfl rfl ⟨?_, trivial⟩
          ·
           refine ⟨_, _, _, _, rfl, rfl, rfl, (⟨_, _, rfl, rfl, rfl⟩), fun E1 => ?_⟩
           refine (V1.buildSliceT (f := encEvent) ([(⟨k, (IntKind.i64.wrap (y1.1 + y4.1))⟩ : Event)] : List Event) rfl rfl esz_39 zk_75 rfl rfl rfl rfl rfl rfl rfl lt0 ?_)
           intro b16
           refine ⟨_, _, rfl, ?_⟩
           refine WalkP.nil ?_
           refine NodeS.fin inNil rfl rfl rfl (⟨_, _, rfl, rfl, _, _, rfl, rfl, _, _, rfl, rfl, _, _, rfl, rfl, _, _, rfl, rfl, _, _, rfl, rfl, rfl⟩) ?_
           refine VO.cons rfl (V1.appendMap (k := 3) (f := encEvent) (l := r_Events0) (m := ([(⟨k, (IntKind.i64.wrap (y1.1 + y4.1))⟩ : Event)] : List Event)) rfl rfl rfl rfl rfl esz_39 eby_39 zk_75 rfl rfl rfl (SrcOf.srMap (k := 0) rfl isl_39) hh4 lt0 ?_)
           intro b17
           refine VO.cons rfl (V1.fieldRef rfl rfl fo_41_3 rfl lt0 ?_)
           refine VO.cons rfl (V1.storeRef (k := 4) rfl rfl tyk_39 rfl rfl rfl rfl rfl rfl rfl rfl rfl ?_)
           refine VO.nil ?_
           exact ⟨(((r_Events0 ++ ([(⟨k, (IntKind.i64.wrap (y1.1 + y4.1))⟩ : Event)] : List Event)), y4.2), b17), Option.some.inj hm3, Keeps.mk (ks := [0, 2, 4, 5]) rfl ⟨rfl, rfl, rfl, rfl, trivial⟩ (⟨_, _, rfl, rfl, _, _, rfl, rfl, _, _, rfl, rfl, _, _, rfl, rfl, rfl⟩) rfl⟩
        ·
         refine ⟨_, _, _, _, rfl, rfl, rfl, (⟨_, _, rfl, rfl, _, _, rfl, rfl, rfl⟩), fun E1 => ?_⟩
         refine (V1.callM 1 (rn + ρ0 + 1) [b15] [.ref bp 3 0 0, .vl (rn + ρ0 + 1) 1 (List.map encInt ([(0 : Int), (1 : Int), (30 : Int), (365 : Int), (1000 : Int)] : List Int))] (p := (bp, ⟨3, [encCur ρ0 y3.2]⟩)) rfl rfl rfl cok_21 rfl rfl ⟨_, _, rfl, .same _, ⟨_, _, rfl, Lend.srMap 0 rfl (fun _ => rfl) (.head _), rfl⟩⟩ (bwCons (k := 0) rfl bwNil) (ok_spec_l1Cur_among hh3) rfl (.inr ⟨(by first | omega | (dsimp only; omega)), by rintro _ _ ⟨rfl, rfl⟩; exact ⟨by simp [PV.no, PV.noL, optS_no, noL_iff, nbeq] <;> omega, by intro b ob h; first | exact optH_no (noL_map (fun _ => by simp [PV.no, PV.noL, noL_iff, nbeq]) _) b ob h | (simp only [List.append_assoc, List.mem_append, List.mem_cons, List.mem_singleton, List.not_mem_nil, or_false, Prod.mk.injEq] at h; rcases h with ⟨rfl, rfl⟩ | ⟨rfl, rfl⟩ <;> first | exact noL_map (fun _ => by simp [PV.no, PV.noL, noL_iff, nbeq]) _ | (simp [PV.no, PV.noL, optS_no, noL_iff, nbeq] <;> omega)) | (simp at h; obtain ⟨rfl, rfl⟩ := h; exact noL_map (fun _ => by simp [PV.no, PV.noL, noL_iff, nbeq]) _) | (simp at h; obtain ⟨rfl, rfl⟩ := h; simp [PV.no, PV.noL, optS_no, noL_iff, nbeq] <;> omega)⟩⟩) lt0 ?_)
         rintro _ _ ⟨rfl, rfl⟩
         refine ⟨_, _, rfl, ?_⟩
         refine WalkP.nil ?_
         refine NodeS.branch [4] inNil rfl rfl rfl ⟨?_, trivial⟩
         ·
          refine ⟨_, _, _, _, rfl, rfl, rfl, (⟨_, _, rfl, rfl, rfl⟩), fun E1 => ?_⟩
          refine (V1.loadRef (k := 3) rfl rfl tyk_3 rfl rfl rfl rfl rfl lt0 ?_)
          refine ⟨_, _, rfl, ?_⟩
          refine WalkP.step (p := ?pv2333) 8 rfl rfl rfl rfl rfl (⟨_, _, rfl, rfl, _, _, rfl, rfl, rfl⟩) ?hv2333 ?rest2333
          case hv2333 =>
           intro E1 H1 hI1
           refine (V1.int rfl rfl rfl rfl rfl lt0 ?_)
           exact rfl
          refine WalkP.step (p := ?pv2334) 9 rfl rfl rfl rfl rfl (⟨_, _, rfl, rfl, _, _, rfl, rfl, rfl⟩) ?hv2334 ?rest2334
          case hv2334 =>
           intro E1 H1 hI1
           refine (V1.build rfl rfl zk_75 pl_75 rfl rfl lt0 ?_)
           exact rfl
          refine WalkP.nil ?_
          refine NodeS.branch [10] inNil rfl rfl rfl ⟨?_, trivial⟩
          ·
           refine ⟨_, _, _, _, rfl, rfl, rfl, (⟨_, _, rfl, rfl, rfl⟩), fun E1 => ?_⟩
           refine (V1.buildSliceT (f := encEvent) ([(⟨k, (IntKind.i64.wrap (y1.1 + y4.1))⟩ : Event)] : List Event) rfl rfl esz_39 zk_75 rfl rfl rfl rfl rfl rfl rfl lt0 ?_)
           intro b18
           refine ⟨_, _, rfl, ?_⟩
           refine WalkP.nil ?_
           refine NodeS.fin inNil rfl rfl rfl (⟨_, _, rfl, rfl, _, _, rfl, rfl, _, _, rfl, rfl, _, _, rfl, rfl, _, _, rfl, rfl, _, _, rfl, rfl, rfl⟩) ?_
           refine VO.cons rfl (V1.appendMap (k := 3) (f := encEvent) (l := r_Events0) (m := ([(⟨k, (IntKind.i64.wrap (y1.1 + y4.1))⟩ : Event)] : List Event)) rfl rfl rfl rfl rfl esz_39 eby_39 zk_75 rfl rfl rfl (SrcOf.srMap (k := 0) rfl isl_39) hh4 lt0 ?_)
           intro b19
           refine VO.cons rfl (V1.fieldRef rfl rfl fo_41_3 rfl lt0 ?_)
           refine VO.cons rfl (V1.storeRef (k := 4) rfl rfl tyk_39 rfl rfl rfl rfl rfl rfl rfl rfl rfl ?_)
           refine VO.nil ?_
           exact ⟨(((r_Events0 ++ ([(⟨k, (IntKind.i64.wrap (y1.1 + y4.1))⟩ : Event)] : List Event)), y4.2), b19), Option.some.inj hm3, Keeps.mk (ks := [0, 2, 4, 5]) rfl ⟨rfl, rfl, rfl, rfl, trivial⟩ (⟨_, _, rfl, rfl, _, _, rfl, rfl, _, _, rfl, rfl, _, _, rfl, rfl, rfl⟩) rfl⟩
      ·
       refine ⟨_, _, _, _, rfl, rfl, rfl, (⟨_, _, rfl, rfl, rfl⟩), fun E1 => ?_⟩
       refine (V1.loadRef (k := 2) rfl rfl tyk_3 rfl rfl rfl rfl rfl lt0 ?_)
       refine ⟨_, _, rfl, ?_⟩
       refine WalkP.nil ?_
       refine NodeS.branch [1, 6] inNil rfl rfl rfl ⟨?_, ?_, trivial⟩
       ·
        refine ⟨_, _, _, _, rfl, rfl, rfl, (⟨_, _, rfl, rfl, rfl⟩), fun E1 => ?_⟩
        refine (V1.loadRef (k := 2) rfl rfl tyk_39 rfl rfl rfl rfl rfl lt0 ?_)
        refine ⟨_, _, rfl, ?_⟩
        refine WalkP.nil ?_
        refine NodeS.branch [6] inNil rfl rfl rfl ⟨?_, trivial⟩
        ·
         refine ⟨_, _, _, _, rfl, rfl, rfl, (rfl), fun E1 => ?_⟩
         refine (V1.buildSliceT (f := encInt) ([(0 : Int), (1 : Int), (30 : Int), (365 : Int), (1000 : Int)] : List Int) rfl rfl esz_24 zk_3 rfl rfl rfl rfl rfl rfl rfl lt0 ?_)
         intro b20
         refine ⟨_, _, rfl, ?_⟩
         refine WalkP.nil ?_
         refine NodeS.branch [7] inNil rfl rfl rfl ⟨?_, trivial⟩
         ·
          refine ⟨_, _, _, _, rfl, rfl, rfl, (⟨_, _, rfl, rfl, _, _, rfl, rfl, rfl⟩), fun E1 => ?_⟩
          refine (V1.callM 1 (rn + ρ0 + 1) [b20] [.ref bp 3 0 0, .vl (rn + ρ0 + 1) 1 (List.map encInt ([(0 : Int), (1 : Int), (30 : Int), (365 : Int), (1000 : Int)] : List Int))] (p := (bp, ⟨3, [encCur ρ0 y3.2]⟩)) rfl rfl rfl cok_21 rfl rfl ⟨_, _, rfl, .same _, ⟨_, _, rfl, Lend.srMap 0 rfl (fun _ => rfl) (.head _), rfl⟩⟩ (bwCons (k := 0) rfl bwNil) (ok_spec_l1Cur_among hh3) rfl (.inr ⟨(by first | omega | (dsimp only; omega)), by rintro _ _ ⟨rfl, rfl⟩; exact ⟨by simp [PV.no, PV.noL, optS_no, noL_iff, nbeq] <;> omega, by intro b ob h; first | exact optH_no (noL_map (fun _ => by simp [PV.no, PV.noL, noL_iff, nbeq]) _) b ob h | (simp only [List.append_assoc, List.mem_append, List.mem_cons, List.mem_singleton, List.not_mem_nil, or_false, Prod.mk.injEq] at h; rcases h with ⟨rfl, rfl⟩ | ⟨rfl, rfl⟩ <;> first | exact noL_map (fun _ => by simp [PV.no, PV.noL, noL_iff, nbeq]) _ | (simp [PV.no, PV.noL, optS_no, noL_iff, nbeq] <;> omega)) | (simp at h; obtain ⟨rfl, rfl⟩ := h; exact noL_map (fun _ => by simp [PV.no, PV.noL, noL_iff, nbeq]) _) | (simp at h; obtain ⟨rfl, rfl⟩ := h; simp [PV.no, PV.noL, optS_no, noL_iff, nbeq] <;> omega)⟩⟩) lt0 ?_)
          rintro _ _ ⟨rfl, rfl⟩
          refine ⟨_, _, rfl, ?_⟩
          refine WalkP.step (p := ?pv2336) 8 rfl rfl rfl rfl rfl (⟨_, _, rfl, rfl, _, _, rfl, rfl, rfl⟩) ?hv2336 ?rest2336
          case hv2336 =>
           intro E1 H1 hI1
           refine (V1.int rfl rfl rfl rfl rfl lt0 ?_)
           exact rfl
          refine WalkP.step (p := ?pv2337) 9 rfl rfl rfl rfl rfl (⟨_, _, rfl, rfl, _, _, rfl, rfl, rfl⟩) ?hv2337 ?rest2337
          case hv2337 =>
           intro E1 H1 hI1
           refine (V1.build rfl rfl zk_75 pl_75 rfl rfl lt0 ?_)
           exact rfl
          refine WalkP.nil ?_
          refine NodeS.branch [10] inNil rfl rfl rfl ⟨?_, trivial⟩
          ·
           refine ⟨_, _, _, _, rfl, rfl, rfl, (⟨_, _, rfl, rfl, rfl⟩), fun E1 => ?_⟩
           refine (V1.buildSliceT (f := encEvent) ([(⟨k, (IntKind.i64.wrap (y1.1 + y4.1))⟩ : Event)] : List Event) rfl rfl esz_39 zk_75 rfl rfl rfl rfl rfl rfl rfl lt0 ?_)
           intro b21
           refine ⟨_, _, rfl, ?_⟩
           refine WalkP.nil ?_
           refine NodeS.fin inNil rfl rfl rfl (⟨_, _, rfl, rfl, _, _, rfl, rfl, _, _, rfl, rfl, _, _, rfl, rfl, _, _, rfl, rfl, _, _, rfl, rfl, rfl⟩) ?_
           refine VO.cons rfl (V1.appendMap (k := 3) (f := encEvent) (l := r_Events0) (m := ([(⟨k, (IntKind.i64.wrap (y1.1 + y4.1))⟩ : Event)] : List Event)) rfl rfl rfl rfl rfl esz_39 eby_39 zk_75 rfl rfl rfl (SrcOf.srMap (k := 0) rfl isl_39) hh4 lt0 ?_)
           intro b22
           refine VO.cons rfl (V1.fieldRef rfl rfl fo_41_3 rfl lt0 ?_)
           refine VO.cons rfl (V1.storeRef (k := 4) rfl rfl tyk_39 rfl rfl rfl rfl rfl rfl rfl rfl rfl ?_)
           refine VO.nil ?_
           exact ⟨(((r_Events0 ++ ([(⟨k, (IntKind.i64.wrap (y1.1 + y4.1))⟩ : Event)] : List Event)), y4.2), b22), Option.some.inj hm3, Keeps.mk (ks := [0, 2, 4, 5]) rfl ⟨rfl, rfl, rfl, rfl, trivial⟩ (⟨_, _, rfl, rfl, _, _, rfl, rfl, _, _, rfl, rfl, _, _, rfl, rfl, rfl⟩) rfl⟩
       ·
        refine ⟨_, _, _, _, rfl, rfl, rfl, (rfl), fun E1 => ?_⟩
        refine (V1.buildSliceT (f := encInt) ([(0 : Int), (1 : Int), (30 : Int), (365 : Int), (1000 : Int)] : List Int) rfl rfl esz_24 zk_3 rfl rfl rfl rfl rfl rfl rfl lt0 ?_)
        intro b23
        refine ⟨_, _, rfl, ?_⟩
        refine WalkP.nil ?_
        refine NodeS.branch [1, 7] inNil rfl rfl rfl ⟨?_, ?_, trivial⟩
        ·
         refine ⟨_, _, _, _, rfl, rfl, rfl, (⟨_, _, rfl, rfl, rfl⟩), fun E1 => ?_⟩
         refine (V1.loadRef (k := 3) rfl rfl tyk_39 rfl rfl rfl rfl rfl lt0 ?_)
         refine ⟨_, _, rfl, ?_⟩
         refine WalkP.nil ?_
         refine NodeS.branch [7] inNil rfl rfl rfl ⟨?_, trivial⟩
         ·
          refine ⟨_, _, _, _, rfl, rfl, rfl, (⟨_, _, rfl, rfl, _, _, rfl, rfl, rfl⟩), fun E1 => ?_⟩
          refine (V1.callM 1 (rn + ρ0 + 1) [b23] [.ref bp 3 0 0, .vl (rn + ρ0 + 1) 1 (List.map encInt ([(0 : Int), (1 : Int), (30 : Int), (365 : Int), (1000 : Int)] : List Int))] (p := (bp, ⟨3, [encCur ρ0 y3.2]⟩)) rfl rfl rfl cok_21 rfl rfl ⟨_, _, rfl, .same _, ⟨_, _, rfl, Lend.srMap 0 rfl (fun _ => rfl) (.head _), rfl⟩⟩ (bwCons (k := 0) rfl bwNil) (ok_spec_l1Cur_among hh3) rfl (.inr ⟨(by first | omega | (dsimp only; omega)), by rintro _ _ ⟨rfl, rfl⟩; exact ⟨by simp [PV.no, PV.noL, optS_no, noL_iff, nbeq] <;> omega, by intro b ob h; first | exact optH_no (noL_map (fun _ => by simp [PV.no, PV.noL, noL_iff, nbeq]) _) b ob h | (simp only [List.append_assoc, List.mem_append, List.mem_cons, List.mem_singleton, List.not_mem_nil, or_false, Prod.mk.injEq] at h; rcases h with ⟨rfl, rfl⟩ | ⟨rfl, rfl⟩ <;> first | exact noL_map (fun _ => by simp [PV.no, PV.noL, noL_iff, nbeq]) _ | (simp [PV.no, PV.noL, optS_no, noL_iff, nbeq] <;> omega)) | (simp at h; obtain ⟨rfl, rfl⟩ := h; exact noL_map (fun _ => by simp [PV.no, PV.noL, noL_iff, nbeq]) _) | (simp at h; obtain ⟨rfl, rfl⟩ := h; simp [PV.no, PV.noL, optS_no, noL_iff, nbeq] <;> omega)⟩⟩) lt0 ?_)
          rintro _ _ ⟨rfl, rfl⟩
          refine ⟨_, _, rfl, ?_⟩
          refine WalkP.step (p := ?pv2339) 8 rfl rfl rfl rfl rfl (⟨_, _, rfl, rfl, _, _, rfl, rfl, rfl⟩) ?hv2339 ?rest2339
          case hv2339 =>
           intro E1 H1 hI1
           refine (V1.int rfl rfl rfl rfl rfl lt0 ?_)
           exact rfl
          refine WalkP.step (p := ?pv2340) 9 rfl rfl rfl rfl rfl (⟨_, _, rfl, rfl, _, _, rfl, rfl, rfl⟩) ?hv2340 ?rest2340
          case hv2340 =>
           intro E1 H1 hI1
           refine (V1.build rfl rfl zk_75 pl_75 rfl rfl lt0 ?_)
           exact rfl
          refine WalkP.nil ?_
          refine NodeS.branch [10] inNil rfl rfl rfl ⟨?_, trivial⟩
          ·
           refine ⟨_, _, _, _, rfl, rfl, rfl, (⟨_, _, rfl, rfl, rfl⟩), fun E1 => ?_⟩
           refine (V1.buildSliceT (f := encEvent) ([(⟨k, (IntKind.i64.wrap (y1.1 + y4.1))⟩ : Event)] : List Event) rfl rfl esz_39 zk_75 rfl rfl rfl rfl rfl rfl rfl lt0 ?_)
           intro b24
           refine ⟨_, _, rfl, ?_⟩
           refine WalkP.nil ?_
           refine NodeS.fin inNil rfl rfl rfl (⟨_, _, rfl, rfl, _, _, rfl, rfl, _, _, rfl, rfl, _, _, rfl, rfl, _, _, rfl, rfl, _, _, rfl, rfl, rfl⟩) ?_
           refine VO.cons rfl (V1.appendMap (k := 3) (f := encEvent) (l := r_Events0) (m := ([(⟨k, (IntKind.i64.wrap (y1.1 + y4.1))⟩ : Event)] : List Event)) rfl rfl rfl rfl rfl esz_39 eby_39 zk_75 rfl rfl rfl (SrcOf.srMap (k := 0) rfl isl_39) hh4 lt0 ?_)
           intro b25
           refine VO.cons rfl (V1.fieldRef rfl rfl fo_41_3 rfl lt0 ?_)
           refine VO.cons rfl (V1.storeRef (k := 4) rfl rfl tyk_39 rfl rfl rfl rfl rfl rfl rfl rfl rfl ?_)
           refine VO.nil ?_
           exact ⟨(((r_Events0 ++ ([(⟨k, (IntKind.i64.wrap (y1.1 + y4.1))⟩ : Event)] : List Event)), y4.2), b25), Option.some.inj hm3, Keeps.mk (ks := [0, 2, 4, 5]) rfl ⟨rfl, rfl, rfl, rfl, trivial⟩ (⟨_, _, rfl, rfl, _, _, rfl, rfl, _, _, rfl, rfl, _, _, rfl, rfl, rfl⟩) rfl⟩
        ·
         refine ⟨_, _, _, _, rfl, rfl, rfl, (⟨_, _, rfl, rfl, _, _, rfl, rfl, rfl⟩), fun E1 => ?_⟩
         refine (V1.callM 1 (rn + ρ0 + 1) [b23] [.ref bp 3 0 0, .vl (rn + ρ0 + 1) 1 (List.map encInt ([(0 : Int), (1 : Int), (30 : Int), (365 : Int), (1000 : Int)] : List Int))] (p := (bp, ⟨3, [encCur ρ0 y3.2]⟩)) rfl rfl rfl cok_21 rfl rfl ⟨_, _, rfl, .same _, ⟨_, _, rfl, Lend.srMap 0 rfl (fun _ => rfl) (.head _), rfl⟩⟩ (bwCons (k := 0) rfl bwNil) (ok_spec_l1Cur_among hh3) rfl (.inr ⟨(by first | omega | (dsimp only; omega)), by rintro _ _ ⟨rfl, rfl⟩; exact ⟨by simp [PV.no, PV.noL, optS_no, noL_iff, nbeq] <;> omega, by intro b ob h; first | exact optH_no (noL_map (fun _ => by simp [PV.no, PV.noL, noL_iff, nbeq]) _) b ob h | (simp only [List.append_assoc, List.mem_append, List.mem_cons, List.mem_singleton, List.not_mem_nil, or_false, Prod.mk.injEq] at h; rcases h with ⟨rfl, rfl⟩ | ⟨rfl, rfl⟩ <;> first | exact noL_map (fun _ => by simp [PV.no, PV.noL, noL_iff, nbeq]) _ | (simp [PV.no, PV.noL, optS_no, noL_iff, nbeq] <;> omega)) | (simp at h; obtain ⟨rfl, rfl⟩ := h; exact noL_map (fun _ => by simp [PV.no, PV.noL, noL_iff, nbeq]) _) | (simp at h; obtain ⟨rfl, rfl⟩ := h; simp [PV.no, PV.noL, optS_no, noL_iff, nbeq] <;> omega)⟩⟩) lt0 ?_)
         rintro _ _ ⟨rfl, rfl⟩
         refine ⟨_, _, rfl, ?_⟩
         refine WalkP.step (p := ?pv2342) 8 rfl rfl rfl rfl rfl (⟨_, _, rfl, rfl, _, _, rfl, rfl, rfl⟩) ?hv2342 ?rest2342
         case hv2342 =>
          intro E1 H1 hI1
          refine (V1.int rfl rfl rfl rfl rfl lt0 ?_)
          exact rfl
         refine WalkP.step (p := ?pv2343) 9 rfl rfl rfl rfl rfl (⟨_, _, rfl, rfl, _, _, rfl, rfl, rfl⟩) ?hv2343 ?rest2343
         case hv2343 =>
          intro E1 H1 hI1
          refine (V1.build rfl rfl zk_75 pl_75 rfl rfl lt0 ?_)
          exact rfl
         refine WalkP.nil ?_
         refine NodeS.branch [1, 10] inNil rfl rfl rfl ⟨?_, ?_, trivial⟩
         ·
          refine ⟨_, _, _, _, rfl, rfl, rfl, (⟨_, _, rfl, rfl, rfl⟩), fun E1 => ?_⟩
          refine (V1.loadRef (k := 3) rfl rfl tyk_39 rfl rfl rfl rfl rfl lt0 ?_)
          refine ⟨_, _, rfl, ?_⟩
          refine WalkP.nil ?_
          refine NodeS.branch [10] inNil rfl rfl rfl ⟨?_, trivial⟩
          ·
           refine ⟨_, _, _, _, rfl, rfl, rfl, (⟨_, _, rfl, rfl, rfl⟩), fun E1 => ?_⟩
           refine (V1.buildSliceT (f := encEvent) ([(⟨k, (IntKind.i64.wrap (y1.1 + y4.1))⟩ : Event)] : List Event) rfl rfl esz_39 zk_75 rfl rfl rfl rfl rfl rfl rfl lt0 ?_)
           intro b26
           refine ⟨_, _, rfl, ?_⟩
           refine WalkP.nil ?_
           refine NodeS.fin inNil rfl rfl rfl (⟨_, _, rfl, rfl, _, _, rfl, rfl, _, _, rfl, rfl, _, _, rfl, rfl, _, _, rfl, rfl, _, _, rfl, rfl, rfl⟩) ?_
           refine VO.cons rfl (V1.appendMap (k := 3) (f := encEvent) (l := r_Events0) (m := ([(⟨k, (IntKind.i64.wrap (y1.1 + y4.1))⟩ : Event)] : List Event)) rfl rfl rfl rfl rfl esz_39 eby_39 zk_75 rfl rfl rfl (SrcOf.srMap (k := 0) rfl isl_39) hh4 lt0 ?_)
           intro b27
           refine VO.cons rfl (V1.fieldRef rfl rfl fo_41_3 rfl lt0 ?_)
           refine VO.cons rfl (V1.storeRef (k := 4) rfl rfl tyk_39 rfl rfl rfl rfl rfl rfl rfl rfl rfl ?_)
           refine VO.nil ?_
           exact ⟨(((r_Events0 ++ ([(⟨k, (IntKind.i64.wrap (y1.1 + y4.1))⟩ : Event)] : List Event)), y4.2), b27), Option.some.inj hm3, Keeps.mk (ks := [0, 2, 4, 5]) rfl ⟨rfl, rfl, rfl, rfl, trivial⟩ (⟨_, _, rfl, rfl, _, _, rfl, rfl, _, _, rfl, rfl, _, _, rfl, rfl, rfl⟩) rfl⟩
         ·
          refine ⟨_, _, _, _, rfl, rfl, rfl, (⟨_, _, rfl, rfl, rfl⟩), fun E1 => ?_⟩
          refine (V1.buildSliceT (f := encEvent) ([(⟨k, (IntKind.i64.wrap (y1.1 + y4.1))⟩ : Event)] : List Event) rfl rfl esz_39 zk_75 rfl rfl rfl rfl rfl rfl rfl lt0 ?_)
          intro b28
          refine ⟨_, _, rfl, ?_⟩
          refine WalkP.nil ?_
          refine NodeS.branch [1] inNil rfl rfl rfl ⟨?_, trivial⟩
          ·
           refine ⟨_, _, _, _, rfl, rfl, rfl, (⟨_, _, rfl, rfl, rfl⟩), fun E1 => ?_⟩
           refine (V1.loadRef (k := 4) rfl rfl tyk_39 rfl rfl rfl rfl rfl lt0 ?_)
           refine ⟨_, _, rfl, ?_⟩
           refine WalkP.nil ?_
           refine NodeS.fin inNil rfl rfl rfl (⟨_, _, rfl, rfl, _, _, rfl, rfl, _, _, rfl, rfl, _, _, rfl, rfl, _, _, rfl, rfl, _, _, rfl, rfl, rfl⟩) ?_
           refine VO.cons rfl (V1.appendMap (k := 3) (f := encEvent) (l := r_Events0) (m := ([(⟨k, (IntKind.i64.wrap (y1.1 + y4.1))⟩ : Event)] : List Event)) rfl rfl rfl rfl rfl esz_39 eby_39 zk_75 rfl rfl rfl (SrcOf.srMap (k := 0) rfl isl_39) hh4 lt0 ?_)
           intro b29
           refine VO.cons rfl (V1.fieldRef rfl rfl fo_41_3 rfl lt0 ?_)
           refine VO.cons rfl (V1.storeRef (k := 4) rfl rfl tyk_39 rfl rfl rfl rfl rfl rfl rfl rfl rfl ?_)
           refine VO.nil ?_
           exact ⟨(((r_Events0 ++ ([(⟨k, (IntKind.i64.wrap (y1.1 + y4.1))⟩ : Event)] : List Event)), y4.2), b29), Option.some.inj hm3, Keeps.mk (ks := [0, 2, 4, 5]) rfl ⟨rfl, rfl, rfl, rfl, trivial⟩ (⟨_, _, rfl, rfl, _, _, rfl, rfl, _, _, rfl, rfl, _, _, rfl, rfl, rfl⟩) rfl⟩
      ·
       refine ⟨_, _, _, _, rfl, rfl, rfl, (rfl), fun E1 => ?_⟩
       refine (V1.buildSliceT (f := encInt) ([(0 : Int), (1 : Int), (30 : Int), (365 : Int), (1000 : Int)] : List Int) rfl rfl esz_24 zk_3 rfl rfl rfl rfl rfl rfl rfl lt0 ?_)
       intro b30
       refine ⟨_, _, rfl, ?_⟩
       refine WalkP.nil ?_
       refine NodeS.branch [1, 4, 7] inNil rfl rfl rfl ⟨?_, ?_, ?_, trivial⟩
       ·
        refine ⟨_, _, _, _, rfl, rfl, rfl, (⟨_, _, rfl, rfl, rfl⟩), fun E1 => ?_⟩
        refine (V1.loadRef (k := 3) rfl rfl tyk_39 rfl rfl rfl rfl rfl lt0 ?_)
        refine ⟨_, _, rfl, ?_⟩
        refine WalkP.nil ?_
        refine NodeS.branch [4, 7] inNil rfl rfl rfl ⟨?_, ?_, trivial⟩
        ·
         refine ⟨_, _, _, _, rfl, rfl, rfl, (⟨_, _, rfl, rfl, rfl⟩), fun E1 => ?_⟩
         refine (V1.loadRef (k := 3) rfl rfl tyk_3 rfl rfl rfl rfl rfl lt0 ?_)
         refine ⟨_, _, rfl, ?_⟩
         refine WalkP.nil ?_
         refine NodeS.branch [7] inNil rfl rfl rfl ⟨?_, trivial⟩
         ·
          refine ⟨_, _, _, _, rfl, rfl, rfl, (⟨_, _, rfl, rfl, _, _, rfl, rfl, rfl⟩), fun E1 => ?_⟩
          refine (V1.callM 1 (rn + ρ0 + 1) [b30] [.ref bp 3 0 0, .vl (rn + ρ0 + 1) 1 (List.map encInt ([(0 : Int), (1 : Int), (30 : Int), (365 : Int), (1000 : Int)] : List Int))] (p := (bp, ⟨3, [encCur ρ0 y3.2]⟩)) rfl rfl rfl cok_21 rfl rfl ⟨_, _, rfl, .same _, ⟨_, _, rfl, Lend.srMap 0 rfl (fun _ => rfl) (.head _), rfl⟩⟩ (bwCons (k := 0) rfl bwNil) (ok_spec_l1Cur_among hh3) rfl (.inr ⟨(by first | omega | (dsimp only; omega)), by rintro _ _ ⟨rfl, rfl⟩; exact ⟨by simp [PV.no, PV.noL, optS_no, noL_iff, nbeq] <;> omega, by intro b ob h; first | exact optH_no (noL_map (fun _ => by simp [PV.no, PV.noL, noL_iff, nbeq]) _) b ob h | (simp only [List.append_assoc, List.mem_append, List.mem_cons, List.mem_singleton, List.not_mem_nil, or_false, Prod.mk.injEq] at h; rcases h with ⟨rfl, rfl⟩ | ⟨rfl, rfl⟩ <;> first | exact noL_map (fun _ => by simp [PV.no, PV.noL, noL_iff, nbeq]) _ | (simp [PV.no, PV.noL, optS_no, noL_iff, nbeq] <;> omega)) | (simp at h; obtain ⟨rfl, rfl⟩ := h; exact noL_map (fun _ => by simp [PV.no, PV.noL, noL_iff, nbeq]) _) | (simp at h; obtain ⟨rfl, rfl⟩ := h; simp [PV.no, PV.noL, optS_no, noL_iff, nbeq] <;> omega)⟩⟩) lt0 ?_)
          rintro _ _ ⟨rfl, rfl⟩
          refine ⟨_, _, rfl, ?_⟩
          refine WalkP.step (p := ?pv2345) 8 rfl rfl rfl rfl rfl (⟨_, _, rfl, rfl, _, _, rfl, rfl, rfl⟩) ?hv2345 ?rest2345
          case hv2345 =>
           intro E1 H1 hI1
           refine (V1.int rfl rfl rfl rfl rfl lt0 ?_)
           exact rfl
          refine WalkP.step (p := ?pv2346) 9 rfl rfl rfl rfl rfl (⟨_, _, rfl, rfl, _, _, rfl, rfl, rfl⟩) ?hv2346 ?rest2346
          case hv2346 =>
           intro E1 H1 hI1
           refine (V1.build rfl rfl zk_75 pl_75 rfl rfl lt0 ?_)
           exact rfl
          refine WalkP.nil ?_
          refine NodeS.branch [10] inNil rfl rfl rfl ⟨?_, trivial⟩
          ·
           refine ⟨_, _, _, _, rfl, rfl, rfl, (⟨_, _, rfl, rfl, rfl⟩), fun E1 => ?_⟩
           refine (V1.buildSliceT (f := encEvent) ([(⟨k, (IntKind.i64.wrap (y1.1 + y4.1))⟩ : Event)] : List Event) rfl rfl esz_39 zk_75 rfl rfl rfl rfl rfl rfl rfl lt0 ?_)
           intro b31
           refine ⟨_, _, rfl, ?_⟩
           refine WalkP.nil ?_
           refine NodeS.fin inNil rfl rfl rfl (⟨_, _, rfl, rfl, _, _, rfl, rfl, _, _, rfl, rfl, _, _, rfl, rfl, _, _, rfl, rfl, _, _, rfl, rfl, rfl⟩) ?_
           refine VO.cons rfl (V1.appendMap (k := 3) (f := encEvent) (l := r_Events0) (m := ([(⟨k, (IntKind.i64.wrap (y1.1 + y4.1))⟩ : Event)] : List Event)) rfl rfl rfl rfl rfl esz_39 eby_39 zk_75 rfl rfl rfl (SrcOf.srMap (k := 0) rfl isl_39) hh4 lt0 ?_)
           intro b32
           refine VO.cons rfl (V1.fieldRef rfl rfl fo_41_3 rfl lt0 ?_)
           refine VO.cons rfl (V1.storeRef (k := 4) rfl rfl tyk_39 rfl rfl rfl rfl rfl rfl rfl rfl rfl ?_)
           refine VO.nil ?_
           exact ⟨(((r_Events0 ++ ([(⟨k, (IntKind.i64.wrap (y1.1 + y4.1))⟩ : Event)] : List Event)), y4.2), b32), Option.some.inj hm3, Keeps.mk (ks := [0, 2, 4, 5]) rfl ⟨rfl, rfl, rfl, rfl, trivial⟩ (⟨_, _, rfl, rfl, _, _, rfl, rfl, _, _, rfl, rfl, _, _, rfl, rfl, rfl⟩) rfl⟩
        ·
         refine ⟨_, _, _, _, rfl, rfl, rfl, (⟨_, _, rfl, rfl, _, _, rfl, rfl, rfl⟩), fun E1 => ?_⟩
         refine (V1.callM 1 (rn + ρ0 + 1) [b30] [.ref bp 3 0 0, .vl (rn + ρ0 + 1) 1 (List.map encInt ([(0 : Int), (1 : Int), (30 : Int), (365 : Int), (1000 : Int)] : List Int))] (p := (bp, ⟨3, [encCur ρ0 y3.2]⟩)) rfl rfl rfl cok_21 rfl rfl ⟨_, _, rfl, .same _, ⟨_, _, rfl, Lend.srMap 0 rfl (fun _ => rfl) (.head _), rfl⟩⟩ (bwCons (k := 0) rfl bwNil) (ok_spec_l1Cur_among hh3) rfl (.inr ⟨(by first | omega | (dsimp only; omega)), by rintro _ _ ⟨rfl, rfl⟩; exact ⟨by simp [PV.no, PV.noL, optS_no, noL_iff, nbeq] <;> omega, by intro b ob h; first | exact optH_no (noL_map (fun _ => by simp [PV.no, PV.noL, noL_iff, nbeq]) _) b ob h | (simp only [List.append_assoc, List.mem_append, List.mem_cons, List.mem_singleton, List.not_mem_nil, or_false, Prod.mk.injEq] at h; rcases h with ⟨rfl, rfl⟩ | ⟨rfl, rfl⟩ <;> first | exact noL_map (fun _ => by simp [PV.no, PV.noL, noL_iff, nbeq]) _ | (simp [PV.no, PV.noL, optS_no, noL_iff, nbeq] <;> omega)) | (simp at h; obtain ⟨rfl, rfl⟩ := h; exact noL_map (fun _ => by simp [PV.no, PV.noL, noL_iff, nbeq]) _) | (simp at h; obtain ⟨rfl, rfl⟩ := h; simp [PV.no, PV.noL, optS_no, noL_iff, nbeq] <;> omega)⟩⟩) lt0 ?_)
         rintro _ _ ⟨rfl, rfl⟩
         refine ⟨_, _, rfl, ?_⟩
         refine WalkP.nil ?_
         refine NodeS.branch [4] inNil rfl rfl rfl ⟨?_, trivial⟩
         ·
          refine ⟨_, _, _, _, rfl, rfl, rfl, (⟨_, _, rfl, rfl, rfl⟩), fun E1 => ?_⟩
          refine (V1.loadRef (k := 3) rfl rfl tyk_3 rfl rfl rfl rfl rfl lt0 ?_)
          refine ⟨_, _, rfl, ?_⟩
          refine WalkP.step (p := ?pv2348) 8 rfl rfl rfl rfl rfl (⟨_, _, rfl, rfl, _, _, rfl, rfl, rfl⟩) ?hv2348 ?rest2348
          case hv2348 =>
           intro E1 H1 hI1
           refine (V1.int rfl rfl rfl rfl rfl lt0 ?_)
           exact rfl
          refine WalkP.step (p := ?pv2349) 9 rfl rfl rfl rfl rfl (⟨_, _, rfl, rfl, _, _, rfl, rfl, rfl⟩) ?hv2349 ?rest2349
          case hv2349 =>
           intro E1 H1 hI1
           refine (V1.build rfl rfl zk_75 pl_75 rfl rfl lt0 ?_)
           exact rfl
          refine WalkP.nil ?_
          refine NodeS.branch [10] inNil rfl rfl rfl ⟨?_, trivial⟩
          ·
           refine ⟨_, _, _, _, rfl, rfl, rfl, (⟨_, _, rfl, rfl, rfl⟩), fun E1 => ?_⟩
           refine (V1.buildSliceT (f := encEvent) ([(⟨k, (IntKind.i64.wrap (y1.1 + y4.1))⟩ : Event)] : List Event) rfl rfl esz_39 zk_75 rfl rfl rfl rfl rfl rfl rfl lt0 ?_)
           intro b33
           refine ⟨_, _, rfl, ?_⟩
           refine WalkP.nil ?_
           refine NodeS.fin inNil rfl rfl rfl (⟨_, _, rfl, rfl, _, _, rfl, rfl, _, _, rfl, rfl, _, _, rfl, rfl, _, _, rfl, rfl, _, _, rfl, rfl, rfl⟩) ?_
           refine VO.cons rfl (V1.appendMap (k := 3) (f := encEvent) (l := r_Events0) (m := ([(⟨k, (IntKind.i64.wrap (y1.1 + y4.1))⟩ : Event)] : List Event)) rfl rfl rfl rfl rfl esz_39 eby_39 zk_75 rfl rfl rfl (SrcOf.srMap (k := 0) rfl isl_39) hh4 lt0 ?_)
           intro b34
           refine VO.cons rfl (V1.fieldRef rfl rfl fo_41_3 rfl lt0 ?_)
           refine VO.cons rfl (V1.storeRef (k := 4) rfl rfl tyk_39 rfl rfl rfl rfl rfl rfl rfl rfl rfl ?_)
           refine VO.nil ?_
           exact ⟨(((r_Events0 ++ ([(⟨k, (IntKind.i64.wrap (y1.1 + y4.1))⟩ : Event)] : List Event)), y4.2), b34), Option.some.inj hm3, Keeps.mk (ks := [0, 2, 4, 5]) rfl ⟨rfl, rfl, rfl, rfl, trivial⟩ (⟨_, _, rfl, rfl, _, _, rfl, rfl, _, _, rfl, rfl, _, _, rfl, rfl, rfl⟩) rfl⟩
       ·
        refine ⟨_, _, _, _, rfl, rfl, rfl, (⟨_, _, rfl, rfl, rfl⟩), fun E1 => ?_⟩
        refine (V1.loadRef (k := 3) rfl rfl tyk_3 rfl rfl rfl rfl rfl lt0 ?_)
        refine ⟨_, _, rfl, ?_⟩
        refine WalkP.nil ?_
        refine NodeS.branch [1, 7] inNil rfl rfl rfl ⟨?_, ?_, trivial⟩
        ·
         refine ⟨_, _, _, _, rfl, rfl, rfl, (⟨_, _, rfl, rfl, rfl⟩), fun E1 => ?_⟩
         refine (V1.loadRef (k := 3) rfl rfl tyk_39 rfl rfl rfl rfl rfl lt0 ?_)
         refine ⟨_, _, rfl, ?_⟩
         refine WalkP.nil ?_
         refine NodeS.branch [7] inNil rfl rfl rfl ⟨?_, trivial⟩
         ·
          refine ⟨_, _, _, _, rfl, rfl, rfl, (⟨_, _, rfl, rfl, _, _, rfl, rfl, rfl⟩), fun E1 => ?_⟩
          refine (V1.callM 1 (rn + ρ0 + 1) [b30] [.ref bp 3 0 0, .vl (rn + ρ0 + 1) 1 (List.map encInt ([(0 : Int), (1 : Int), (30 : Int), (365 : Int), (1000 : Int)] : List Int))] (p := (bp, ⟨3, [encCur ρ0 y3.2]⟩)) rfl rfl rfl cok_21 rfl rfl ⟨_, _, rfl, .same _, ⟨_, _, rfl, Lend.srMap 0 rfl (fun _ => rfl) (.head _), rfl⟩⟩ (bwCons (k := 0) rfl bwNil) (ok_spec_l1Cur_among hh3) rfl (.inr ⟨(by first | omega | (dsimp only; omega)), by rintro _ _ ⟨rfl, rfl⟩; exact ⟨by simp [PV.no, PV.noL, optS_no, noL_iff, nbeq] <;> omega, by intro b ob h; first | exact optH_no (noL_map (fun _ => by simp [PV.no, PV.noL, noL_iff, nbeq]) _) b ob h | (simp only [List.append_assoc, List.mem_append, List.mem_cons, List.mem_singleton, List.not_mem_nil, or_false, Prod.mk.injEq] at h; rcases h with ⟨rfl, rfl⟩ | ⟨rfl, rfl⟩ <;> first | exact noL_map (fun _ => by simp [PV.no, PV.noL, noL_iff, nbeq]) _ | (simp [PV.no, PV.noL, optS_no, noL_iff, nbeq] <;> omega)) | (simp at h; obtain ⟨rfl, rfl⟩ := h; exact noL_map (fun _ => by simp [PV.no, PV.noL, noL_iff, nbeq]) _) | (simp at h; obtain ⟨rfl, rfl⟩ := h; simp [PV.no, PV.noL, optS_no, noL_iff, nbeq] <;> omega)⟩⟩) lt0 ?_)
          rintro _ _ ⟨rfl, rfl⟩
          refine ⟨_, _, rfl, ?_⟩
          refine WalkP.step (p := ?pv2351) 8 rfl rfl rfl rfl rfl (⟨_, _, rfl, rfl, _, _, rfl, rfl, rfl⟩) ?hv2351 ?rest2351
          case hv2351 =>
           intro E1 H1 hI1
           refine (V1.int rfl rfl rfl rfl rfl lt0 ?_)
           exact rfl
          refine WalkP.step (p := ?pv2352) 9 rfl rfl rfl rfl rfl (⟨_, _, rfl, rfl, _, _, rfl, rfl, rfl⟩) ?hv2352 ?rest2352
          case hv2352 =>
           intro E1 H1 hI1
           refine (V1.build rfl rfl zk_75 pl_75 rfl rfl lt0 ?_)
           exact rfl
          refine WalkP.nil ?_
          refine NodeS.branch [10] inNil rfl rfl rfl ⟨?_, trivial⟩
          ·
           refine ⟨_, _, _, _, rfl, rfl, rfl, (⟨_, _, rfl, rfl, rfl⟩), fun E1 => ?_⟩
           refine (V1.buildSliceT (f := encEvent) ([(⟨k, (IntKind.i64.wrap (y1.1 + y4.1))⟩ : Event)] : List Event) rfl rfl esz_39 zk_75 rfl rfl rfl rfl rfl rfl rfl lt0 ?_)
           intro b35
           refine ⟨_, _, rfl, ?_⟩
           refine WalkP.nil ?_
           refine NodeS.fin inNil rfl rfl rfl (⟨_, _, rfl, rfl, _, _, rfl, rfl, _, _, rfl, rfl, _, _, rfl, rfl, _, _, rfl, rfl, _, _, rfl, rfl, rfl⟩) ?_
           refine VO.cons rfl (V1.appendMap (k := 3) (f := encEvent) (l := r_Events0) (m := ([(⟨k, (IntKind.i64.wrap (y1.1 + y4.1))⟩ : Event)] : List Event)) rfl rfl rfl rfl rfl esz_39 eby_39 zk_75 rfl rfl rfl (SrcOf.srMap (k := 0) rfl isl_39) hh4 lt0 ?_)
           intro b36
           refine VO.cons rfl (V1.fieldRef rfl rfl fo_41_3 rfl lt0 ?_)
           refine VO.cons rfl (V1.storeRef (k := 4) rfl rfl tyk_39 rfl rfl rfl rfl rfl rfl rfl rfl rfl ?_)
           refine VO.nil ?_
           exact ⟨(((r_Events0 ++ ([(⟨k, (IntKind.i64.wrap (y1.1 + y4.1))⟩ : Event)] : List Event)), y4.2), b36), Option.some.inj hm3, Keeps.mk (ks := [0, 2, 4, 5]) rfl ⟨rfl, rfl, rfl, rfl, trivial⟩ (⟨_, _, rfl, rfl, _, _, rfl, rfl, _, _, rfl, rfl, _, _, rfl, rfl, rfl⟩) rfl⟩
        ·
         refine ⟨_, _, _, _, rfl, rfl, rfl, (⟨_, _, rfl, rfl, _, _, rfl, rfl, rfl⟩), fun E1 => ?_⟩
         refine (V1.callM 1 (rn + ρ0 + 1) [b30] [.ref bp 3 0 0, .vl (rn + ρ0 + 1) 1 (List.map encInt ([(0 : Int), (1 : Int), (30 : Int), (365 : Int), (1000 : Int)] : List Int))] (p := (bp, ⟨3, [encCur ρ0 y3.2]⟩)) rfl rfl rfl cok_21 rfl rfl ⟨_, _, rfl, .same _, ⟨_, _, rfl, Lend.srMap 0 rfl (fun _ => rfl) (.head _), rfl⟩⟩ (bwCons (k := 0) rfl bwNil) (ok_spec_l1Cur_among hh3) rfl (.inr ⟨(by first | omega | (dsimp only; omega)), by rintro _ _ ⟨rfl, rfl⟩; exact ⟨by simp [PV.no, PV.noL, optS_no, noL_iff, nbeq] <;> omega, by intro b ob h; first | exact optH_no (noL_map (fun _ => by simp [PV.no, PV.noL, noL_iff, nbeq]) _) b ob h | (simp only [List.append_assoc, List.mem_append, List.mem_cons, List.mem_singleton, List.not_mem_nil, or_false, Prod.mk.injEq] at h; rcases h with ⟨rfl, rfl⟩ | ⟨rfl, rfl⟩ <;> first | exact noL_map (fun _ => by simp [PV.no, PV.noL, noL_iff, nbeq]) _ | (simp [PV.no, PV.noL, optS_no, noL_iff, nbeq] <;> omega)) | (simp at h; obtain ⟨rfl, rfl⟩ := h; exact noL_map (fun _ => by simp [PV.no, PV.noL, noL_iff, nbeq]) _) | (simp at h; obtain ⟨rfl, rfl⟩ := h; simp [PV.no, PV.noL, optS_no, noL_iff, nbeq] <;> omega)⟩⟩) lt0 ?_)
         rintro _ _ ⟨rfl, rfl⟩
         refine ⟨_, _, rfl, ?_⟩
         refine WalkP.step (p := ?pv2354) 8 rfl rfl rfl rfl rfl (⟨_, _, rfl, rfl, _, _, rfl, rfl, rfl⟩) ?hv2354 ?rest2354
         case hv2354 =>
          intro E1 H1 hI1
          refine (V1.int rfl rfl rfl rfl rfl lt0 ?_)
          exact rfl
         refine WalkP.step (p := ?pv2355) 9 rfl rfl rfl rfl rfl (⟨_, _, rfl, rfl, _, _, rfl, rfl, rfl⟩) ?hv2355 ?rest2355
         case hv2355 =>
          intro E1 H1 hI1
          refine (V1.build rfl rfl zk_75 pl_75 rfl rfl lt0 ?_)
          exact rfl
         refine WalkP.nil ?_
         refine NodeS.branch [1, 10] inNil rfl rfl rfl ⟨?_, ?_, trivial⟩
         ·
          refine ⟨_, _, _, _, rfl, rfl, rfl, (⟨_, _, rfl, rfl, rfl⟩), fun E1 => ?_⟩
          refine (V1.loadRef (k := 3) rfl rfl tyk_39 rfl rfl rfl rfl rfl lt0 ?_)
          refine ⟨_, _, rfl, ?_⟩
          refine WalkP.nil ?_
          refine NodeS.branch [10] inNil rfl rfl rfl ⟨?_, trivial⟩
          ·
           refine ⟨_, _, _, _, rfl, rfl, rfl, (⟨_, _, rfl, rfl, rfl⟩), fun E1 => ?_⟩
           refine (V1.buildSliceT (f := encEvent) ([(⟨k, (IntKind.i64.wrap (y1.1 + y4.1))⟩ : Event)] : List Event) rfl rfl esz_39 zk_75 rfl rfl rfl rfl rfl rfl rfl lt0 ?_)
           intro b37
           refine ⟨_, _, rfl, ?_⟩
           refine WalkP.nil ?_
           refine NodeS.fin inNil rfl rfl rfl (⟨_, _, rfl, rfl, _, _, rfl, rfl, _, _, rfl, rfl, _, _, rfl, rfl, _, _, rfl, rfl, _, _, rfl, rfl, rfl⟩) ?_
           refine VO.cons rfl (V1.appendMap (k := 3) (f := encEvent) (l := r_Events0) (m := ([(⟨k, (IntKind.i64.wrap (y1.1 + y4.1))⟩ : Event)] : List Event)) rfl rfl rfl rfl rfl esz_39 eby_39 zk_75 rfl rfl rfl (SrcOf.srMap (k := 0) rfl isl_39) hh4 lt0 ?_)
           intro b38
           refine VO.cons rfl (V1.fieldRef rfl rfl fo_41_3 rfl lt0 ?_)
           refine VO.cons rfl (V1.storeRef (k := 4) rfl rfl tyk_39 rfl rfl rfl rfl rfl rfl rfl rfl rfl ?_)
           refine VO.nil ?_
           exact ⟨(((r_Events0 ++ ([(⟨k, (IntKind.i64.wrap (y1.1 + y4.1))⟩ : Event)] : List Event)), y4.2), b38), Option.some.inj hm3, Keeps.mk (ks := [0, 2, 4, 5]) rfl ⟨rfl, rfl, rfl, rfl, trivial⟩ (⟨_, _, rfl, rfl, _, _, rfl, rfl, _, _, rfl, rfl, _, _, rfl, rfl, rfl⟩) rfl⟩
         ·
          refine ⟨_, _, _, _, rfl, rfl, rfl, (⟨_, _, rfl, rfl, rfl⟩), fun E1 => ?_⟩
          refine (V1.buildSliceT (f := encEvent) ([(⟨k, (IntKind.i64.wrap (y1.1 + y4.1))⟩ : Event)] : List Event) rfl rfl esz_39 zk_75 rfl rfl rfl rfl rfl rfl rfl lt0 ?_)
          intro b39
          refine ⟨_, _, rfl, ?_⟩
          refine WalkP.nil ?_
          refine NodeS.branch [1] inNil rfl rfl rfl ⟨?_, trivial⟩
          ·
           refine ⟨_, _, _, _, rfl, rfl, rfl, (⟨_, _, rfl, rfl, rfl⟩), fun E1 => ?_⟩
           refine (V1.loadRef (k := 4) rfl rfl tyk_39 rfl rfl rfl rfl rfl lt0 ?_)
           refine ⟨_, _, rfl, ?_⟩
           refine WalkP.nil ?_
           refine NodeS.fin inNil rfl rfl rfl (⟨_, _, rfl, rfl, _, _, rfl, rfl, _, _, rfl, rfl, _, _, rfl, rfl, _, _, rfl, rfl, _, _, rfl, rfl, rfl⟩) ?_
           refine VO.cons rfl (V1.appendMap (k := 3) (f := encEvent) (l := r_Events0) (m := ([(⟨k, (IntKind.i64.wrap (y1.1 + y4.1))⟩ : Event)] : List Event)) rfl rfl rfl rfl rfl esz_39 eby_39 zk_75 rfl rfl rfl (SrcOf.srMap (k := 0) rfl isl_39) hh4 lt0 ?_)
           intro b40
           refine VO.cons rfl (V1.fieldRef rfl rfl fo_41_3 rfl lt0 ?_)
           refine VO.cons rfl (V1.storeRef (k := 4) rfl rfl tyk_39 rfl rfl rfl rfl rfl rfl rfl rfl rfl ?_)
           refine VO.nil ?_
           exact ⟨(((r_Events0 ++ ([(⟨k, (IntKind.i64.wrap (y1.1 + y4.1))⟩ : Event)] : List Event)), y4.2), b40), Option.some.inj hm3, Keeps.mk (ks := [0, 2, 4, 5]) rfl ⟨rfl, rfl, rfl, rfl, trivial⟩ (⟨_, _, rfl, rfl, _, _, rfl, rfl, _, _, rfl, rfl, _, _, rfl, rfl, rfl⟩) rfl⟩
       ·
        refine ⟨_, _, _, _, rfl, rfl, rfl, (⟨_, _, rfl, rfl, _, _, rfl, rfl, rfl⟩), fun E1 => ?_⟩
        refine (V1.callM 1 (rn + ρ0 + 1) [b30] [.ref bp 3 0 0, .vl (rn + ρ0 + 1) 1 (List.map encInt ([(0 : Int), (1 : Int), (30 : Int), (365 : Int), (1000 : Int)] : List Int))] (p := (bp, ⟨3, [encCur ρ0 y3.2]⟩)) rfl rfl rfl cok_21 rfl rfl ⟨_, _, rfl, .same _, ⟨_, _, rfl, Lend.srMap 0 rfl (fun _ => rfl) (.head _), rfl⟩⟩ (bwCons (k := 0) rfl bwNil) (ok_spec_l1Cur_among hh3) rfl (.inr ⟨(by first | omega | (dsimp only; omega)), by rintro _ _ ⟨rfl, rfl⟩; exact ⟨by simp [PV.no, PV.noL, optS_no, noL_iff, nbeq] <;> omega, by intro b ob h; first | exact optH_no (noL_map (fun _ => by simp [PV.no, PV.noL, noL_iff, nbeq]) _) b ob h | (simp only [List.append_assoc, List.mem_append, List.mem_cons, List.mem_singleton, List.not_mem_nil, or_false, Prod.mk.injEq] at h; rcases h with ⟨rfl, rfl⟩ | ⟨rfl, rfl⟩ <;> first | exact noL_map (fun _ => by simp [PV.no, PV.noL, noL_iff, nbeq]) _ | (simp [PV.no, PV.noL, optS_no, noL_iff, nbeq] <;> omega)) | (simp at h; obtain ⟨rfl, rfl⟩ := h; exact noL_map (fun _ => by simp [PV.no, PV.noL, noL_iff, nbeq]) _) | (simp at h; obtain ⟨rfl, rfl⟩ := h; simp [PV.no, PV.noL, optS_no, noL_iff, nbeq] <;> omega)⟩⟩) lt0 ?_)
        rintro _ _ ⟨rfl, rfl⟩
        refine ⟨_, _, rfl, ?_⟩
        refine WalkP.nil ?_
        refine NodeS.branch [1, 4] inNil rfl rfl rfl ⟨?_, ?_, trivial⟩
        ·
         refine ⟨_, _, _, _, rfl, rfl, rfl, (⟨_, _, rfl, rfl, rfl⟩), fun E1 => ?_⟩
         refine (V1.loadRef (k := 3) rfl rfl tyk_39 rfl rfl rfl rfl rfl lt0 ?_)
         refine ⟨_, _, rfl, ?_⟩
         refine WalkP.nil ?_
         refine NodeS.branch [4] inNil rfl rfl rfl ⟨?_, trivial⟩
         ·
          refine ⟨_, _, _, _, rfl, rfl, rfl, (⟨_, _, rfl, rfl, rfl⟩), fun E1 => ?_⟩
          refine (V1.loadRef (k := 3) rfl rfl tyk_3 rfl rfl rfl rfl rfl lt0 ?_)
          refine ⟨_, _, rfl, ?_⟩
          refine WalkP.step (p := ?pv2357) 8 rfl rfl rfl rfl rfl (⟨_, _, rfl, rfl, _, _, rfl, rfl, rfl⟩) ?hv2357 ?rest2357
          case hv2357 =>
           intro E1 H1 hI1
           refine (V1.int rfl rfl rfl rfl rfl lt0 ?_)
           exact rfl
          refine WalkP.step (p := ?pv2358) 9 rfl rfl rfl rfl rfl (⟨_, _, rfl, rfl, _, _, rfl, rfl, rfl⟩) ?hv2358 ?rest2358
          case hv2358 =>
           intro E1 H1 hI1
           refine (V1.build rfl rfl zk_75 pl_75 rfl rfl lt0 ?_)
           exact rfl
          refine WalkP.nil ?_
          refine NodeS.branch [10] inNil rfl rfl rfl ⟨?_, trivial⟩
          ·
           refine ⟨_, _, _, _, rfl, rfl, rfl, (⟨_, _, rfl, rfl, rfl⟩), fun E1 => ?_⟩
           refine (V1.buildSliceT (f := encEvent) ([(⟨k, (IntKind.i64.wrap (y1.1 + y4.1))⟩ : Event)] : List Event) rfl rfl esz_39 zk_75 rfl rfl rfl rfl rfl rfl rfl lt0 ?_)
           intro b41
           refine ⟨_, _, rfl, ?_⟩
           refine WalkP.nil ?_
           refine NodeS.fin inNil rfl rfl rfl (⟨_, _, rfl, rfl, _, _, rfl, rfl, _, _, rfl, rfl, _, _, rfl, rfl, _, _, rfl, rfl, _, _, rfl, rfl, rfl⟩) ?_
           refine VO.cons rfl (V1.appendMap (k := 3) (f := encEvent) (l := r_Events0) (m := ([(⟨k, (IntKind.i64.wrap (y1.1 + y4.1))⟩ : Event)] : List Event)) rfl rfl rfl rfl rfl esz_39 eby_39 zk_75 rfl rfl rfl (SrcOf.srMap (k := 0) rfl isl_39) hh4 lt0 ?_)
           intro b42
           refine VO.cons rfl (V1.fieldRef rfl rfl fo_41_3 rfl lt0 ?_)
           refine VO.cons rfl (V1.storeRef (k := 4) rfl rfl tyk_39 rfl rfl rfl rfl rfl rfl rfl rfl rfl ?_)
           refine VO.nil ?_
           exact ⟨(((r_Events0 ++ ([(⟨k, (IntKind.i64.wrap (y1.1 + y4.1))⟩ : Event)] : List Event)), y4.2), b42), Option.some.inj hm3, Keeps.mk (ks := [0, 2, 4, 5]) rfl ⟨rfl, rfl, rfl, rfl, trivial⟩ (⟨_, _, rfl, rfl, _, _, rfl, rfl, _, _, rfl, rfl, _, _, rfl, rfl, rfl⟩) rfl⟩
        ·
         refine ⟨_, _, _, _, rfl, rfl, rfl, (⟨_, _, rfl, rfl, rfl⟩), fun E1 => ?_⟩
         refine (V1.loadRef (k := 3) rfl rfl tyk_3 rfl rfl rfl rfl rfl lt0 ?_)
         refine ⟨_, _, rfl, ?_⟩
         refine WalkP.step (p := ?pv2359) 8 rfl rfl rfl rfl rfl (⟨_, _, rfl, rfl, _, _, rfl, rfl, rfl⟩) ?hv2359 ?rest2359
         case hv2359 =>
          intro E1 H1 hI1
          refine (V1.int rfl rfl rfl rfl rfl lt0 ?_)
          exact rfl
         refine WalkP.step (p := ?pv2360) 9 rfl rfl rfl rfl rfl (⟨_, _, rfl, rfl, _, _, rfl, rfl, rfl⟩) ?hv2360 ?rest2360
         case hv2360 =>
          intro E1 H1 hI1
          refine (V1.build rfl rfl zk_75 pl_75 rfl rfl lt0 ?_)
          exact rfl
         refine WalkP.nil ?_
         refine NodeS.branch [1, 10] inNil rfl rfl rfl ⟨?_, ?_, trivial⟩
         ·
          refine ⟨_, _, _, _, rfl, rfl, rfl, (⟨_, _, rfl, rfl, rfl⟩), fun E1 => ?_⟩
          refine (V1.loadRef (k := 3) rfl rfl tyk_39 rfl rfl rfl rfl rfl lt0 ?_)
          refine ⟨_, _, rfl, ?_⟩
          refine WalkP.nil ?_
          refine NodeS.branch [10] inNil rfl rfl rfl ⟨?_, trivial⟩
          ·
           refine ⟨_, _, _, _, rfl, rfl, rfl, (⟨_, _, rfl, rfl, rfl⟩), fun E1 => ?_⟩
           refine (V1.buildSliceT (f := encEvent) ([(⟨k, (IntKind.i64.wrap (y1.1 + y4.1))⟩ : Event)] : List Event) rfl rfl esz_39 zk_75 rfl rfl rfl rfl rfl rfl rfl lt0 ?_)
           intro b43
           refine ⟨_, _, rfl, ?_⟩
           refine WalkP.nil ?_
           refine NodeS.fin inNil rfl rfl rfl (⟨_, _, rfl, rfl, _, _, rfl, rfl, _, _, rfl, rfl, _, _, rfl, rfl, _, _, rfl, rfl, _, _, rfl, rfl, rfl⟩) ?_
           refine VO.cons rfl (V1.appendMap (k := 3) (f := encEvent) (l := r_Events0) (m := ([(⟨k, (IntKind.i64.wrap (y1.1 + y4.1))⟩ : Event)] : List Event)) rfl rfl rfl rfl rfl esz_39 eby_39 zk_75 rfl rfl rfl (SrcOf.srMap (k := 0) rfl isl_39) hh4 lt0 ?_)
           intro b44
           refine VO.cons rfl (V1.fieldRef rfl rfl fo_41_3 rfl lt0 ?_)
           refine VO.cons rfl (V1.storeRef (k := 4) rfl rfl tyk_39 rfl rfl rfl rfl rfl rfl rfl rfl rfl ?_)
           refine VO.nil ?_
           exact ⟨(((r_Events0 ++ ([(⟨k, (IntKind.i64.wrap (y1.1 + y4.1))⟩ : Event)] : List Event)), y4.2), b44), Option.some.inj hm3, Keeps.mk (ks := [0, 2, 4, 5]) rfl ⟨rfl, rfl, rfl, rfl, trivial⟩ (⟨_, _, rfl, rfl, _, _, rfl, rfl, _, _, rfl, rfl, _, _, rfl, rfl, rfl⟩) rfl⟩
         ·
          refine ⟨_, _, _, _, rfl, rfl, rfl, (⟨_, _, rfl, rfl, rfl⟩), fun E1 => ?_⟩
          refine (V1.buildSliceT (f := encEvent) ([(⟨k, (IntKind.i64.wrap (y1.1 + y4.1))⟩ : Event)] : List Event) rfl rfl esz_39 zk_75 rfl rfl rfl rfl rfl rfl rfl lt0 ?_)
          intro b45
          refine ⟨_, _, rfl, ?_⟩
          refine WalkP.nil ?_
          refine NodeS.branch [1] inNil rfl rfl rfl ⟨?_, trivial⟩
          ·
           refine ⟨_, _, _, _, rfl, rfl, rfl, (⟨_, _, rfl, rfl, rfl⟩), fun E1 => ?_⟩
           refine (V1.loadRef (k := 4) rfl rfl tyk_39 rfl rfl rfl rfl rfl lt0 ?_)
           refine ⟨_, _, rfl, ?_⟩
           refine WalkP.nil ?_
           refine NodeS.fin inNil rfl rfl rfl (⟨_, _, rfl, rfl, _, _, rfl, rfl, _, _, rfl, rfl, _, _, rfl, rfl, _, _, rfl, rfl, _, _, rfl, rfl, rfl⟩) ?_
           refine VO.cons rfl (V1.appendMap (k := 3) (f := encEvent) (l := r_Events0) (m := ([(⟨k, (IntKind.i64.wrap (y1.1 + y4.1))⟩ : Event)] : List Event)) rfl rfl rfl rfl rfl esz_39 eby_39 zk_75 rfl rfl rfl (SrcOf.srMap (k := 0) rfl isl_39) hh4 lt0 ?_)
           intro b46
           refine VO.cons rfl (V1.fieldRef rfl rfl fo_41_3 rfl lt0 ?_)
           refine VO.cons rfl (V1.storeRef (k := 4) rfl rfl tyk_39 rfl rfl rfl rfl rfl rfl rfl rfl rfl ?_)
           refine VO.nil ?_
           exact ⟨(((r_Events0 ++ ([(⟨k, (IntKind.i64.wrap (y1.1 + y4.1))⟩ : Event)] : List Event)), y4.2), b46), Option.some.inj hm3, Keeps.mk (ks := [0, 2, 4, 5]) rfl ⟨rfl, rfl, rfl, rfl, trivial⟩ (⟨_, _, rfl, rfl, _, _, rfl, rfl, _, _, rfl, rfl, _, _, rfl, rfl, rfl⟩) rfl⟩
     ·
      rintro ⟨⟨r_Events2, c_2⟩, b11⟩ rfl
      try dsimp only at hm2
      exact ⟨((r_Events2, c_2), b11), Option.some.inj hm2, Keeps.mk (ks := [0, 1, 2, 3]) rfl ⟨rfl, rfl, rfl, rfl, trivial⟩ (⟨_, _, rfl, rfl, _, _, rfl, rfl, _, _, rfl, rfl, _, _, rfl, rfl, rfl⟩) rfl⟩
    ·
     replace hm2 := cond_f hc1 hm2
     refine V.skip ?_
     exact ⟨((r_Events0, y3.2), b6), Option.some.inj hm2, Keeps.mk (ks := [1, 0, 2, 3]) rfl ⟨rfl, rfl, rfl, rfl, trivial⟩ (⟨_, _, rfl, rfl, _, _, rfl, rfl, _, _, rfl, rfl, _, _, rfl, rfl, rfl⟩) rfl⟩
   ·
    rintro ⟨⟨r_Events1, c_1⟩, b7⟩ rfl
    try dsimp only at hm1
    refine V.region ?_
    refine VO.cons rfl (V1.move rfl rfl rfl lt0 ?_)
    refine VO.cons rfl (V1.int rfl rfl rfl rfl rfl lt0 ?_)
    refine VO.cons rfl (V1.assign rfl rfl rfl lt0 ?_)
    refine VO.nil ?_
    exact ⟨(m0, ((IntKind.i64.wrap (k + (1 : Int))), r_Events1, c_1), b7), hl1 _ (Option.some.inj hm1).symm, Nat.lt_succ_self _, Keeps.mk (ks := [0, 1, 2, 3]) rfl ⟨rfl, rfl, rfl, rfl, trivial⟩ (⟨_, _, rfl, rfl, _, _, rfl, rfl, _, _, rfl, rfl, _, _, rfl, rfl, rfl⟩) rfl⟩
  ·
   replace hm1 := cond_f hc0 hm1
   refine V.exit ?_
   obtain rfl := hr1 _ (Option.some.inj hm1).symm
   exact ⟨((r_Events0, c_0), b6), rfl, Keeps.mk (ks := [0, 1, 2, 3]) rfl ⟨rfl, rfl, rfl, trivial⟩ (⟨_, _, rfl, rfl, _, _, rfl, rfl, _, _, rfl, rfl, _, _, rfl, rfl, rfl⟩) rfl⟩
 ·
  rintro ⟨⟨r_Events, c_⟩, b5⟩ rfl
  try dsimp only at hm0
  refine V.seq ?_
  refine V.seq ?_
  replace hm0 := bindO hm0; rcases hm0 with ⟨y5, hh5, hm0⟩
  refine V.region ?_
  refine VO.cons rfl (V1.move rfl rfl rfl lt0 ?_)
  refine VO.cons rfl (V1.callM 1 (rn + ρ0 + 1) [] [.ref bp 3 0 0, .int .i64 (48 : Int)] (p := (bp, ⟨3, [encCur ρ0 c_]⟩)) rfl rfl rfl cok_23 rfl rfl ⟨_, _, rfl, .same _, ⟨_, _, rfl, .same _, rfl⟩⟩ bwNil (ok_spec_l1Cur_pick hh5) rfl (.inl rfl) lt0 ?_)
  rintro _ _ ⟨rfl, rfl⟩
  refine VO.nil ?_
  replace hm0 := bindO hm0; rcases hm0 with ⟨j2, hm1, hm0⟩
  refine V.cutT (D := (Int × Int × List Event × Cur) × (Nat)) (fun ⟨⟨r_Series, r_Made, r_Events3, c_3⟩, b47⟩ => ⟨64, [(4, .ref b0 4 0 0), (5, .ref b4 4 0 0)], [(b47, ⟨2, List.map encEvent r_Events3⟩), (bp, ⟨3, [encCur ρ0 c_3]⟩), (b4, ⟨4, [.agg [.int .i64 id_, .int .i64 r_Series, .int .i64 r_Made, .sref b47 2 0 (List.length r_Events3)]]⟩), (b0, ⟨4, [.agg [.int .i64 (0 : Int), .int .i64 (0 : Int), .int .i64 (0 : Int), .nils]]⟩)]⟩) (fun ⟨⟨r_Series, r_Made, r_Events3, c_3⟩, b47⟩ => ((r_Series, r_Made, r_Events3, c_3) = j2)) ?_ ?_
  ·
   refine V.block ?_
   refine V.seq ?_
   refine V.region ?_
   refine VO.cons rfl (V1.int rfl rfl rfl rfl rfl lt0 ?_)
   refine VO.cons rfl (V1.assign rfl rfl rfl lt0 ?_)
   refine VO.nil ?_
   refine V.cond rfl (fun hc2 => ?_) (fun hc2 => ?_)
   ·
    replace hm1 := cond_t hc2 hm1
    replace hm1 := bindO hm1; rcases hm1 with ⟨y6, hh6, hm1⟩
    refine V.region ?_
    refine VO.cons rfl (V1.move rfl rfl rfl lt0 ?_)
    refine VO.cons rfl (V1.buildSliceT (f := encInt) ([(0 : Int), (100 : Int)] : List Int) rfl rfl esz_24 zk_3 rfl rfl rfl rfl rfl rfl rfl lt0 ?_)
    intro b48
    refine VO.cons rfl (V1.callM 1 (rn + ρ0 + 1) [b48] [.ref bp 3 0 0, .vl (rn + ρ0 + 1) 1 (List.map encInt ([(0 : Int), (100 : Int)] : List Int))] (p := (bp, ⟨3, [encCur ρ0 y5.2]⟩)) rfl rfl rfl cok_21 rfl rfl ⟨_, _, rfl, .same _, ⟨_, _, rfl, Lend.srMap 0 rfl (fun _ => rfl) (.head _), rfl⟩⟩ (bwCons (k := 0) rfl bwNil) (ok_spec_l1Cur_among hh6) rfl (.inr ⟨(by first | omega | (dsimp only; omega)), by rintro _ _ ⟨rfl, rfl⟩; exact ⟨by simp [PV.no, PV.noL, optS_no, noL_iff, nbeq] <;> omega, by intro b ob h; first | exact optH_no (noL_map (fun _ => by simp [PV.no, PV.noL, noL_iff, nbeq]) _) b ob h | (simp only [List.append_assoc, List.mem_append, List.mem_cons, List.mem_singleton, List.not_mem_nil, or_false, Prod.mk.injEq] at h; rcases h with ⟨rfl, rfl⟩ | ⟨rfl, rfl⟩ <;> first | exact noL_map (fun _ => by simp [PV.no, PV.noL, noL_iff, nbeq]) _ | (simp [PV.no, PV.noL, optS_no, noL_iff, nbeq] <;> omega)) | (simp at h; obtain ⟨rfl, rfl⟩ := h; exact noL_map (fun _ => by simp [PV.no, PV.noL, noL_iff, nbeq]) _) | (simp at h; obtain ⟨rfl, rfl⟩ := h; simp [PV.no, PV.noL, optS_no, noL_iff, nbeq] <;> omega)⟩⟩) lt0 ?_)
    rintro _ _ ⟨rfl, rfl⟩
    refine VO.cons rfl (V1.fieldRef rfl rfl fo_41_1 rfl lt0 ?_)
    refine VO.cons rfl (V1.storeRef (k := 3) rfl rfl tyk_3 rfl rfl rfl rfl rfl rfl rfl rfl rfl ?_)
    refine VO.nil ?_
    exact ⟨((y6.1, y1.1, r_Events, y6.2), b5), Option.some.inj hm1, Keeps.mk (ks := [2, 0, 3, 4]) rfl ⟨rfl, rfl, trivial⟩ (⟨_, _, rfl, rfl, _, _, rfl, rfl, _, _, rfl, rfl, _, _, rfl, rfl, rfl⟩) rfl⟩
   ·
    replace hm1 := cond_f hc2 hm1
    refine V.seq ?_
    refine V.region ?_
    refine VO.cons rfl (V1.int rfl rfl rfl rfl rfl lt0 ?_)
    refine VO.cons rfl (V1.assign rfl rfl rfl lt0 ?_)
    refine VO.nil ?_
    refine V.keep 64 [0, 4, 5, 36, 43] [0, 1, 2, 3] (E0 := [(0, .ref bp 3 0 0), (4, .ref b0 4 0 0), (5, .ref b4 4 0 0), (36, .int .i64 y5.1), (43, .bool (y5.1 == (1 : Int)))]) (H0 := [(bp, ⟨3, [encCur ρ0 y5.2]⟩), (b5, ⟨2, List.map encEvent r_Events⟩), (b4, ⟨4, [.agg [.int .i64 id_, .int .i64 y0.1, .int .i64 y1.1, .sref b5 2 0 (List.length r_Events)]]⟩), (b0, ⟨4, [.agg [.int .i64 (0 : Int), .int .i64 (0 : Int), .int .i64 (0 : Int), .nils]]⟩)]) rfl (⟨_, _, rfl, rfl, _, _, rfl, rfl, _, _, rfl, rfl, _, _, rfl, rfl, _, _, rfl, rfl, rfl⟩) (⟨_, _, rfl, rfl, _, _, rfl, rfl, _, _, rfl, rfl, _, _, rfl, rfl, rfl⟩) rfl ?_
    refine V.cond rfl (fun hc3 => ?_) (fun hc3 => ?_)
    ·
     replace hm1 := cond_t hc3 hm1
     replace hm1 := bindO hm1; rcases hm1 with ⟨y7, hh7, hm1⟩
     refine V.region ?_
     refine VO.cons rfl (V1.move rfl rfl rfl lt0 ?_)
     refine VO.cons rfl (V1.buildSliceT (f := encInt) ([(-1 : Int), (20001 : Int), (19999 : Int)] : List Int) rfl rfl esz_24 zk_3 rfl rfl rfl rfl rfl rfl rfl lt0 ?_)
     intro b49
     refine VO.cons rfl (V1.callM 1 (rn + ρ0 + 1) [b49] [.ref bp 3 0 0, .vl (rn + ρ0 + 1) 1 (List.map encInt ([(-1 : Int), (20001 : Int), (19999 : Int)] : List Int))] (p := (bp, ⟨3, [encCur ρ0 y5.2]⟩)) rfl rfl rfl cok_21 rfl rfl ⟨_, _, rfl, .same _, ⟨_, _, rfl, Lend.srMap 0 rfl (fun _ => rfl) (.head _), rfl⟩⟩ (bwCons (k := 0) rfl bwNil) (ok_spec_l1Cur_among hh7) rfl (.inr ⟨(by first | omega | (dsimp only; omega)), by rintro _ _ ⟨rfl, rfl⟩; exact ⟨by simp [PV.no, PV.noL, optS_no, noL_iff, nbeq] <;> omega, by intro b ob h; first | exact optH_no (noL_map (fun _ => by simp [PV.no, PV.noL, noL_iff, nbeq]) _) b ob h | (simp only [List.append_assoc, List.mem_append, List.mem_cons, List.mem_singleton, List.not_mem_nil, or_false, Prod.mk.injEq] at h; rcases h with ⟨rfl, rfl⟩ | ⟨rfl, rfl⟩ <;> first | exact noL_map (fun _ => by simp [PV.no, PV.noL, noL_iff, nbeq]) _ | (simp [PV.no, PV.noL, optS_no, noL_iff, nbeq] <;> omega)) | (simp at h; obtain ⟨rfl, rfl⟩ := h; exact noL_map (fun _ => by simp [PV.no, PV.noL, noL_iff, nbeq]) _) | (simp at h; obtain ⟨rfl, rfl⟩ := h; simp [PV.no, PV.noL, optS_no, noL_iff, nbeq] <;> omega)⟩⟩) lt0 ?_)
     rintro _ _ ⟨rfl, rfl⟩
     refine VO.cons rfl (V1.fieldRef rfl rfl fo_41_2 rfl lt0 ?_)
     refine VO.cons rfl (V1.storeRef (k := 3) rfl rfl tyk_3 rfl rfl rfl rfl rfl rfl rfl rfl rfl ?_)
     refine VO.nil ?_
     exact ⟨((y0.1, y7.1, r_Events, y7.2), b5), Option.some.inj hm1, Keeps.mk (ks := [2, 0, 3, 4]) rfl ⟨rfl, rfl, trivial⟩ (⟨_, _, rfl, rfl, _, _, rfl, rfl, _, _, rfl, rfl, _, _, rfl, rfl, rfl⟩) rfl⟩
    ·
     replace hm1 := cond_f hc3 hm1
     refine V.seq ?_
     refine V.region ?_
     refine VO.cons rfl (V1.int rfl rfl rfl rfl rfl lt0 ?_)
     refine VO.cons rfl (V1.assign rfl rfl rfl lt0 ?_)
     refine VO.nil ?_
     refine V.cond rfl (fun hc4 => ?_) (fun hc4 => ?_)
     ·
      replace hm1 := cond_t hc4 hm1
      replace hm1 := bindO hm1; rcases hm1 with ⟨y8, hh8, hm1⟩
      replace hm1 := bindO hm1; rcases hm1 with ⟨y9, hh9, hm1⟩
      replace hm1 := asrt_some hm1; rcases hm1 with ⟨hh10, hm1⟩
      replace hm1 := bindO hm1; rcases hm1 with ⟨j3, hm2, hm1⟩
      refine V.cutT (D := (List Event × Cur) × (Nat)) (fun ⟨⟨r_Events4, o⟩, b54⟩ => ⟨64, [(4, .ref b0 4 0 0), (5, .ref b4 4 0 0)], [(b54, ⟨2, List.map encEvent r_Events4⟩), (bp, ⟨3, [encCur ρ0 o]⟩), (b4, ⟨4, [.agg [.int .i64 id_, .int .i64 y0.1, .int .i64 y1.1, .sref b54 2 0 (List.length r_Events4)]]⟩), (b0, ⟨4, [.agg [.int .i64 (0 : Int), .int .i64 (0 : Int), .int .i64 (0 : Int), .nils]]⟩)]⟩) (fun ⟨⟨r_Events4, o⟩, b54⟩ => ((r_Events4, o) = j3)) ?_ ?_
      ·
       refine V.regionS [] 64 10 [⟨[(5, none)], false⟩, ⟨[(51, some 0)], true⟩, ⟨[(0, none)], false⟩, ⟨[], true⟩, ⟨[(53, some 2), (54, some 3)], true⟩, ⟨[(0, none)], false⟩, ⟨[], true⟩, ⟨[(56, some 5), (57, some 6)], true⟩, ⟨[(55, some 4), (58, some 7)], false⟩, ⟨[(59, some 8)], true⟩] [(4, none), (5, none), (52, some 1), (60, some 9)] 6 (⟨_, rfl, ⟨_, rfl, ⟨_, rfl, ⟨_, rfl, ⟨_, rfl, ⟨_, rfl, ⟨_, rfl, ⟨_, rfl, ⟨_, rfl, ⟨_, rfl, ⟨rfl, rfl⟩⟩⟩⟩⟩⟩⟩⟩⟩⟩⟩) mixed_orders rfl (by decide +kernel) ?_
       refine WalkP.step (p := ?pv2510) 0 rfl rfl rfl rfl rfl (⟨_, _, rfl, rfl, rfl⟩) ?hv2510 ?rest2510
       case hv2510 =>
        intro E1 H1 hI1
        refine (V1.fieldRef rfl rfl fo_41_3 rfl lt0 ?_)
        exact rfl
       refine WalkP.step (p := ?pv2511) 2 rfl rfl rfl rfl rfl (⟨_, _, rfl, rfl, rfl⟩) ?hv2511 ?rest2511
       case hv2511 =>
        intro E1 H1 hI1
        refine (V1.move rfl rfl rfl lt0 ?_)
        exact rfl
       refine WalkP.step (p := ?pv2512) 5 rfl rfl rfl rfl rfl (⟨_, _, rfl, rfl, rfl⟩) ?hv2512 ?rest2512
       case hv2512 =>
        intro E1 H1 hI1
        refine (V1.move rfl rfl rfl lt0 ?_)
        exact rfl
       refine WalkP.nil ?_
       refine NodeS.branch [1, 3, 6] inNil rfl rfl rfl ⟨?_, ?_, ?_, trivial⟩
       ·
        refine ⟨_, _, _, _, rfl, rfl, rfl, (⟨_, _, rfl, rfl, rfl⟩), fun E1 => ?_⟩
        refine (V1.loadRef (k := 2) rfl rfl tyk_39 rfl rfl rfl rfl rfl lt0 ?_)
        refine ⟨_, _, rfl, ?_⟩
        refine WalkP.nil ?_
        refine NodeS.branch [3, 6] inNil rfl rfl rfl ⟨?_, ?_, trivial⟩
        ·
         refine ⟨_, _, _, _, rfl, rfl, rfl, (rfl), fun E1 => ?_⟩
         refine (V1.buildSliceT (f := encInt) ([(1 : Int), (9 : Int), (10 : Int)] : List Int) rfl rfl esz_24 zk_3 rfl rfl rfl rfl rfl rfl rfl lt0 ?_)
         intro b55
         refine ⟨_, _, rfl, ?_⟩
         refine WalkP.nil ?_
         refine NodeS.branch [4, 6] inNil rfl rfl rfl ⟨?_, ?_, trivial⟩
         ·
          refine ⟨_, _, _, _, rfl, rfl, rfl, (⟨_, _, rfl, rfl, _, _, rfl, rfl, rfl⟩), fun E1 => ?_⟩
          refine (V1.callM 1 (rn + ρ0 + 1) [b55] [.ref bp 3 0 0, .vl (rn + ρ0 + 1) 1 (List.map encInt ([(1 : Int), (9 : Int), (10 : Int)] : List Int))] (p := (bp, ⟨3, [encCur ρ0 y5.2]⟩)) rfl rfl rfl cok_21 rfl rfl ⟨_, _, rfl, .same _, ⟨_, _, rfl, Lend.srMap 0 rfl (fun _ => rfl) (.head _), rfl⟩⟩ (bwCons (k := 0) rfl bwNil) (ok_spec_l1Cur_among hh8) rfl (.inr ⟨(by first | omega | (dsimp only; omega)), by rintro _ _ ⟨rfl, rfl⟩; exact ⟨by simp [PV.no, PV.noL, optS_no, noL_iff, nbeq] <;> omega, by intro b ob h; first | exact optH_no (noL_map (fun _ => by simp [PV.no, PV.noL, noL_iff, nbeq]) _) b ob h | (simp only [List.append_assoc, List.mem_append, List.mem_cons, List.mem_singleton, List.not_mem_nil, or_false, Prod.mk.injEq] at h; rcases h with ⟨rfl, rfl⟩ | ⟨rfl, rfl⟩ <;> first | exact noL_map (fun _ => by simp [PV.no, PV.noL, noL_iff, nbeq]) _ | (simp [PV.no, PV.noL, optS_no, noL_iff, nbeq] <;> omega)) | (simp at h; obtain ⟨rfl, rfl⟩ := h; exact noL_map (fun _ => by simp [PV.no, PV.noL, noL_iff, nbeq]) _) | (simp at h; obtain ⟨rfl, rfl⟩ := h; simp [PV.no, PV.noL, optS_no, noL_iff, nbeq] <;> omega)⟩⟩) lt0 ?_)
          rintro _ _ ⟨rfl, rfl⟩
          refine ⟨_, _, rfl, ?_⟩
          refine WalkP.nil ?_
          refine NodeS.branch [6] inNil rfl rfl rfl ⟨?_, trivial⟩
          ·
           refine ⟨_, _, _, _, rfl, rfl, rfl, (rfl), fun E1 => ?_⟩
           refine (V1.buildSliceT (f := encInt) ([(0 : Int), (20000 : Int)] : List Int) rfl rfl esz_24 zk_3 rfl rfl rfl rfl rfl rfl rfl lt0 ?_)
           intro b56
           refine ⟨_, _, rfl, ?_⟩
           refine WalkP.nil ?_
           refine NodeS.branch [7] inNil rfl rfl rfl ⟨?_, trivial⟩
           ·
            refine ⟨_, _, _, _, rfl, rfl, rfl, (⟨_, _, rfl, rfl, _, _, rfl, rfl, rfl⟩), fun E1 => ?_⟩
            refine (V1.callM 1 (rn + ρ0 + 1) [b56] [.ref bp 3 0 0, .vl (rn + ρ0 + 1) 1 (List.map encInt ([(0 : Int), (20000 : Int)] : List Int))] (p := (bp, ⟨3, [encCur ρ0 y8.2]⟩)) rfl rfl rfl cok_21 rfl rfl ⟨_, _, rfl, .same _, ⟨_, _, rfl, Lend.srMap 0 rfl (fun _ => rfl) (.head _), rfl⟩⟩ (bwCons (k := 0) rfl bwNil) (ok_spec_l1Cur_among hh9) rfl (.inr ⟨(by first | omega | (dsimp only; omega)), by rintro _ _ ⟨rfl, rfl⟩; exact ⟨by simp [PV.no, PV.noL, optS_no, noL_iff, nbeq] <;> omega, by intro b ob h; first | exact optH_no (noL_map (fun _ => by simp [PV.no, PV.noL, noL_iff, nbeq]) _) b ob h | (simp only [List.append_assoc, List.mem_append, List.mem_cons, List.mem_singleton, List.not_mem_nil, or_false, Prod.mk.injEq] at h; rcases h with ⟨rfl, rfl⟩ | ⟨rfl, rfl⟩ <;> first | exact noL_map (fun _ => by simp [PV.no, PV.noL, noL_iff, nbeq]) _ | (simp [PV.no, PV.noL, optS_no, noL_iff, nbeq] <;> omega)) | (simp at h; obtain ⟨rfl, rfl⟩ := h; exact noL_map (fun _ => by simp [PV.no, PV.noL, noL_iff, nbeq]) _) | (simp at h; obtain ⟨rfl, rfl⟩ := h; simp [PV.no, PV.noL, optS_no, noL_iff, nbeq] <;> omega)⟩⟩) lt0 ?_)
            rintro _ _ ⟨rfl, rfl⟩
            refine ⟨_, _, rfl, ?_⟩
            refine WalkP.step (p := ?pv2515) 8 rfl rfl rfl rfl rfl (⟨_, _, rfl, rfl, _, _, rfl, rfl, rfl⟩) ?hv2515 ?rest2515
            case hv2515 =>
             intro E1 H1 hI1
             refine (V1.build rfl rfl zk_75 pl_75 rfl rfl lt0 ?_)
             exact rfl
            refine WalkP.nil ?_
            refine NodeS.branch [9] inNil rfl rfl rfl ⟨?_, trivial⟩
            ·
             refine ⟨_, _, _, _, rfl, rfl, rfl, (⟨_, _, rfl, rfl, rfl⟩), fun E1 => ?_⟩
             refine (V1.buildSliceT (f := encEvent) ([(⟨y8.1, y9.1⟩ : Event)] : List Event) rfl rfl esz_39 zk_75 rfl rfl rfl rfl rfl rfl rfl lt0 ?_)
             intro b57
             refine ⟨_, _, rfl, ?_⟩
             refine WalkP.nil ?_
             refine NodeS.fin inNil rfl rfl rfl (⟨_, _, rfl, rfl, _, _, rfl, rfl, _, _, rfl, rfl, _, _, rfl, rfl, rfl⟩) ?_
             refine VO.cons rfl (V1.appendMap (k := 4) (f := encEvent) (l := r_Events) (m := ([(⟨y8.1, y9.1⟩ : Event)] : List Event)) rfl rfl rfl rfl rfl esz_39 eby_39 zk_75 rfl rfl rfl (SrcOf.srMap (k := 0) rfl isl_39) hh10 lt0 ?_)
             intro b58
             refine VO.cons rfl (V1.fieldRef rfl rfl fo_41_3 rfl lt0 ?_)
             refine VO.cons rfl (V1.storeRef (k := 5) rfl rfl tyk_39 rfl rfl rfl rfl rfl rfl rfl rfl rfl ?_)
             refine VO.nil ?_
             exact ⟨(((r_Events ++ ([(⟨y8.1, y9.1⟩ : Event)] : List Event)), y9.2), b58), Option.some.inj hm2, Keeps.mk (ks := [0, 2, 5, 6]) rfl ⟨rfl, rfl, trivial⟩ (⟨_, _, rfl, rfl, _, _, rfl, rfl, _, _, rfl, rfl, _, _, rfl, rfl, rfl⟩) rfl⟩
         ·
          refine ⟨_, _, _, _, rfl, rfl, rfl, (rfl), fun E1 => ?_⟩
          refine (V1.buildSliceT (f := encInt) ([(0 : Int), (20000 : Int)] : List Int) rfl rfl esz_24 zk_3 rfl rfl rfl rfl rfl rfl rfl lt0 ?_)
          intro b59
          refine ⟨_, _, rfl, ?_⟩
          refine WalkP.nil ?_
          refine NodeS.branch [4] inNil rfl rfl rfl ⟨?_, trivial⟩
          ·
           refine ⟨_, _, _, _, rfl, rfl, rfl, (⟨_, _, rfl, rfl, _, _, rfl, rfl, rfl⟩), fun E1 => ?_⟩
           refine (V1.callM 2 (rn + ρ0 + 1) [b55] [.ref bp 3 0 0, .vl (rn + ρ0 + 1) 1 (List.map encInt ([(1 : Int), (9 : Int), (10 : Int)] : List Int))] (p := (bp, ⟨3, [encCur ρ0 y5.2]⟩)) rfl rfl rfl cok_21 rfl rfl ⟨_, _, rfl, .same _, ⟨_, _, rfl, Lend.srMap 1 rfl (fun _ => rfl) (.head _), rfl⟩⟩ (bwCons (k := 1) rfl bwNil) (ok_spec_l1Cur_among hh8) rfl (.inr ⟨(by first | omega | (dsimp only; omega)), by rintro _ _ ⟨rfl, rfl⟩; exact ⟨by simp [PV.no, PV.noL, optS_no, noL_iff, nbeq] <;> omega, by intro b ob h; first | exact optH_no (noL_map (fun _ => by simp [PV.no, PV.noL, noL_iff, nbeq]) _) b ob h | (simp only [List.append_assoc, List.mem_append, List.mem_cons, List.mem_singleton, List.not_mem_nil, or_false, Prod.mk.injEq] at h; rcases h with ⟨rfl, rfl⟩ | ⟨rfl, rfl⟩ <;> first | exact noL_map (fun _ => by simp [PV.no, PV.noL, noL_iff, nbeq]) _ | (simp [PV.no, PV.noL, optS_no, noL_iff, nbeq] <;> omega)) | (simp at h; obtain ⟨rfl, rfl⟩ := h; exact noL_map (fun _ => by simp [PV.no, PV.noL, noL_iff, nbeq]) _) | (simp at h; obtain ⟨rfl, rfl⟩ := h; simp [PV.no, PV.noL, optS_no, noL_iff, nbeq] <;> omega)⟩⟩) lt0 ?_)
           rintro _ _ ⟨rfl, rfl⟩
           refine ⟨_, _, rfl, ?_⟩
           refine WalkP.nil ?_
           refine NodeS.branch [7] inNil rfl rfl rfl ⟨?_, trivial⟩
           ·
            refine ⟨_, _, _, _, rfl, rfl, rfl, (⟨_, _, rfl, rfl, _, _, rfl, rfl, rfl⟩), fun E1 => ?_⟩
            refine (V1.callM 0 (rn + ρ0 + 1) [b59] [.ref bp 3 0 0, .vl (rn + ρ0 + 1) 1 (List.map encInt ([(0 : Int), (20000 : Int)] : List Int))] (p := (bp, ⟨3, [encCur ρ0 y8.2]⟩)) rfl rfl rfl cok_21 rfl rfl ⟨_, _, rfl, .same _, ⟨_, _, rfl, Lend.srMap 1 rfl (fun _ => rfl) (.head _), rfl⟩⟩ (bwCons (k := 0) rfl bwNil) (ok_spec_l1Cur_among hh9) rfl (.inr ⟨(by first | omega | (dsimp only; omega)), by rintro _ _ ⟨rfl, rfl⟩; exact ⟨by simp [PV.no, PV.noL, optS_no, noL_iff, nbeq] <;> omega, by intro b ob h; first | exact optH_no (noL_map (fun _ => by simp [PV.no, PV.noL, noL_iff, nbeq]) _) b ob h | (simp only [List.append_assoc, List.mem_append, List.mem_cons, List.mem_singleton, List.not_mem_nil, or_false, Prod.mk.injEq] at h; rcases h with ⟨rfl, rfl⟩ | ⟨rfl, rfl⟩ <;> first | exact noL_map (fun _ => by simp [PV.no, PV.noL, noL_iff, nbeq]) _ | (simp [PV.no, PV.noL, optS_no, noL_iff, nbeq] <;> omega)) | (simp at h; obtain ⟨rfl, rfl⟩ := h; exact noL_map (fun _ => by simp [PV.no, PV.noL, noL_iff, nbeq]) _) | (simp at h; obtain ⟨rfl, rfl⟩ := h; simp [PV.no, PV.noL, optS_no, noL_iff, nbeq] <;> omega)⟩⟩) lt0 ?_)
            rintro _ _ ⟨rfl, rfl⟩
            refine ⟨_, _, rfl, ?_⟩
            refine WalkP.step (p := ?pv2518) 8 rfl rfl rfl rfl rfl (⟨_, _, rfl, rfl, _, _, rfl, rfl, rfl⟩) ?hv2518 ?rest2518
            case hv2518 =>
             intro E1 H1 hI1
             refine (V1.build rfl rfl zk_75 pl_75 rfl rfl lt0 ?_)
             exact rfl
            refine WalkP.nil ?_
            refine NodeS.branch [9] inNil rfl rfl rfl ⟨?_, trivial⟩
            ·
             refine ⟨_, _, _, _, rfl, rfl, rfl, (⟨_, _, rfl, rfl, rfl⟩), fun E1 => ?_⟩
             refine (V1.buildSliceT (f := encEvent) ([(⟨y8.1, y9.1⟩ : Event)] : List Event) rfl rfl esz_39 zk_75 rfl rfl rfl rfl rfl rfl rfl lt0 ?_)
             intro b60
             refine ⟨_, _, rfl, ?_⟩
             refine WalkP.nil ?_
             refine NodeS.fin inNil rfl rfl rfl (⟨_, _, rfl, rfl, _, _, rfl, rfl, _, _, rfl, rfl, _, _, rfl, rfl, rfl⟩) ?_
             refine VO.cons rfl (V1.appendMap (k := 4) (f := encEvent) (l := r_Events) (m := ([(⟨y8.1, y9.1⟩ : Event)] : List Event)) rfl rfl rfl rfl rfl esz_39 eby_39 zk_75 rfl rfl rfl (SrcOf.srMap (k := 0) rfl isl_39) hh10 lt0 ?_)
             intro b61
             refine VO.cons rfl (V1.fieldRef rfl rfl fo_41_3 rfl lt0 ?_)
             refine VO.cons rfl (V1.storeRef (k := 5) rfl rfl tyk_39 rfl rfl rfl rfl rfl rfl rfl rfl rfl ?_)
             refine VO.nil ?_
             exact ⟨(((r_Events ++ ([(⟨y8.1, y9.1⟩ : Event)] : List Event)), y9.2), b61), Option.some.inj hm2, Keeps.mk (ks := [0, 2, 5, 6]) rfl ⟨rfl, rfl, trivial⟩ (⟨_, _, rfl, rfl, _, _, rfl, rfl, _, _, rfl, rfl, _, _, rfl, rfl, rfl⟩) rfl⟩
        ·
         refine ⟨_, _, _, _, rfl, rfl, rfl, (rfl), fun E1 => ?_⟩
         refine (V1.buildSliceT (f := encInt) ([(0 : Int), (20000 : Int)] : List Int) rfl rfl esz_24 zk_3 rfl rfl rfl rfl rfl rfl rfl lt0 ?_)
         intro b62
         refine ⟨_, _, rfl, ?_⟩
         refine WalkP.nil ?_
         refine NodeS.branch [3] inNil rfl rfl rfl ⟨?_, trivial⟩
         ·
          refine ⟨_, _, _, _, rfl, rfl, rfl, (rfl), fun E1 => ?_⟩
          refine (V1.buildSliceT (f := encInt) ([(1 : Int), (9 : Int), (10 : Int)] : List Int) rfl rfl esz_24 zk_3 rfl rfl rfl rfl rfl rfl rfl lt0 ?_)
          intro b63
          refine ⟨_, _, rfl, ?_⟩
          refine WalkP.nil ?_
          refine NodeS.branch [4] inNil rfl rfl rfl ⟨?_, trivial⟩
          ·
           refine ⟨_, _, _, _, rfl, rfl, rfl, (⟨_, _, rfl, rfl, _, _, rfl, rfl, rfl⟩), fun E1 => ?_⟩
           refine (V1.callM 2 (rn + ρ0 + 1) [b63] [.ref bp 3 0 0, .vl (rn + ρ0 + 1) 1 (List.map encInt ([(1 : Int), (9 : Int), (10 : Int)] : List Int))] (p := (bp, ⟨3, [encCur ρ0 y5.2]⟩)) rfl rfl rfl cok_21 rfl rfl ⟨_, _, rfl, .same _, ⟨_, _, rfl, Lend.srMap 0 rfl (fun _ => rfl) (.head _), rfl⟩⟩ (bwCons (k := 0) rfl bwNil) (ok_spec_l1Cur_among hh8) rfl (.inr ⟨(by first | omega | (dsimp only; omega)), by rintro _ _ ⟨rfl, rfl⟩; exact ⟨by simp [PV.no, PV.noL, optS_no, noL_iff, nbeq] <;> omega, by intro b ob h; first | exact optH_no (noL_map (fun _ => by simp [PV.no, PV.noL, noL_iff, nbeq]) _) b ob h | (simp only [List.append_assoc, List.mem_append, List.mem_cons, List.mem_singleton, List.not_mem_nil, or_false, Prod.mk.injEq] at h; rcases h with ⟨rfl, rfl⟩ | ⟨rfl, rfl⟩ <;> first | exact noL_map (fun _ => by simp [PV.no, PV.noL, noL_iff, nbeq]) _ | (simp [PV.no, PV.noL, optS_no, noL_iff, nbeq] <;> omega)) | (simp at h; obtain ⟨rfl, rfl⟩ := h; exact noL_map (fun _ => by simp [PV.no, PV.noL, noL_iff, nbeq]) _) | (simp at h; obtain ⟨rfl, rfl⟩ := h; simp [PV.no, PV.noL, optS_no, noL_iff, nbeq] <;> omega)⟩⟩) lt0 ?_)
           rintro _ _ ⟨rfl, rfl⟩
           refine ⟨_, _, rfl, ?_⟩
           refine WalkP.nil ?_
           refine NodeS.branch [7] inNil rfl rfl rfl ⟨?_, trivial⟩
           ·
            refine ⟨_, _, _, _, rfl, rfl, rfl, (⟨_, _, rfl, rfl, _, _, rfl, rfl, rfl⟩), fun E1 => ?_⟩
            refine (V1.callM 0 (rn + ρ0 + 1) [b62] [.ref bp 3 0 0, .vl (rn + ρ0 + 1) 1 (List.map encInt ([(0 : Int), (20000 : Int)] : List Int))] (p := (bp, ⟨3, [encCur ρ0 y8.2]⟩)) rfl rfl rfl cok_21 rfl rfl ⟨_, _, rfl, .same _, ⟨_, _, rfl, Lend.srMap 2 rfl (fun _ => rfl) (.head _), rfl⟩⟩ (bwCons (k := 1) rfl bwNil) (ok_spec_l1Cur_among hh9) rfl (.inr ⟨(by first | omega | (dsimp only; omega)), by rintro _ _ ⟨rfl, rfl⟩; exact ⟨by simp [PV.no, PV.noL, optS_no, noL_iff, nbeq] <;> omega, by intro b ob h; first | exact optH_no (noL_map (fun _ => by simp [PV.no, PV.noL, noL_iff, nbeq]) _) b ob h | (simp only [List.append_assoc, List.mem_append, List.mem_cons, List.mem_singleton, List.not_mem_nil, or_false, Prod.mk.injEq] at h; rcases h with ⟨rfl, rfl⟩ | ⟨rfl, rfl⟩ <;> first | exact noL_map (fun _ => by simp [PV.no, PV.noL, noL_iff, nbeq]) _ | (simp [PV.no, PV.noL, optS_no, noL_iff, nbeq] <;> omega)) | (simp at h; obtain ⟨rfl, rfl⟩ := h; exact noL_map (fun _ => by simp [PV.no, PV.noL, noL_iff, nbeq]) _) | (simp at h; obtain ⟨rfl, rfl⟩ := h; simp [PV.no, PV.noL, optS_no, noL_iff, nbeq] <;> omega)⟩⟩) lt0 ?_)
            rintro _ _ ⟨rfl, rfl⟩
            refine ⟨_, _, rfl, ?_⟩
            refine WalkP.step (p := ?pv2521) 8 rfl rfl rfl rfl rfl (⟨_, _, rfl, rfl, _, _, rfl, rfl, rfl⟩) ?hv2521 ?rest2521
            case hv2521 =>
             intro E1 H1 hI1
             refine (V1.build rfl rfl zk_75 pl_75 rfl rfl lt0 ?_)
             exact rfl
            refine WalkP.nil ?_
            refine NodeS.branch [9] inNil rfl rfl rfl ⟨?_, trivial⟩
            ·
             refine ⟨_, _, _, _, rfl, rfl, rfl, (⟨_, _, rfl, rfl, rfl⟩), fun E1 => ?_⟩
             refine (V1.buildSliceT (f := encEvent) ([(⟨y8.1, y9.1⟩ : Event)] : List Event) rfl rfl esz_39 zk_75 rfl rfl rfl rfl rfl rfl rfl lt0 ?_)
             intro b64
             refine ⟨_, _, rfl, ?_⟩
             refine WalkP.nil ?_
             refine NodeS.fin inNil rfl rfl rfl (⟨_, _, rfl, rfl, _, _, rfl, rfl, _, _, rfl, rfl, _, _, rfl, rfl, rfl⟩) ?_
             refine VO.cons rfl (V1.appendMap (k := 4) (f := encEvent) (l := r_Events) (m := ([(⟨y8.1, y9.1⟩ : Event)] : List Event)) rfl rfl rfl rfl rfl esz_39 eby_39 zk_75 rfl rfl rfl (SrcOf.srMap (k := 0) rfl isl_39) hh10 lt0 ?_)
             intro b65
             refine VO.cons rfl (V1.fieldRef rfl rfl fo_41_3 rfl lt0 ?_)
             refine VO.cons rfl (V1.storeRef (k := 5) rfl rfl tyk_39 rfl rfl rfl rfl rfl rfl rfl rfl rfl ?_)
             refine VO.nil ?_
             exact ⟨(((r_Events ++ ([(⟨y8.1, y9.1⟩ : Event)] : List Event)), y9.2), b65), Option.some.inj hm2, Keeps.mk (ks := [0, 2, 5, 6]) rfl ⟨rfl, rfl, trivial⟩ (⟨_, _, rfl, rfl, _, _, rfl, rfl, _, _, rfl, rfl, _, _, rfl, rfl, rfl⟩) rfl⟩
       ·
        refine ⟨_, _, _, _, rfl, rfl, rfl, (rfl), fun E1 => ?_⟩
        refine (V1.buildSliceT (f := encInt) ([(1 : Int), (9 : Int), (10 : Int)] : List Int) rfl rfl esz_24 zk_3 rfl rfl rfl rfl rfl rfl rfl lt0 ?_)
        intro b66
        refine ⟨_, _, rfl, ?_⟩
        refine WalkP.nil ?_
        refine NodeS.branch [1, 4, 6] inNil rfl rfl rfl ⟨?_, ?_, ?_, trivial⟩
        ·
         refine ⟨_, _, _, _, rfl, rfl, rfl, (⟨_, _, rfl, rfl, rfl⟩), fun E1 => ?_⟩
         refine (V1.loadRef (k := 3) rfl rfl tyk_39 rfl rfl rfl rfl rfl lt0 ?_)
         refine ⟨_, _, rfl, ?_⟩
         refine WalkP.nil ?_
         refine NodeS.branch [4, 6] inNil rfl rfl rfl ⟨?_, ?_, trivial⟩
         ·
          refine ⟨_, _, _, _, rfl, rfl, rfl, (⟨_, _, rfl, rfl, _, _, rfl, rfl, rfl⟩), fun E1 => ?_⟩
          refine (V1.callM 1 (rn + ρ0 + 1) [b66] [.ref bp 3 0 0, .vl (rn + ρ0 + 1) 1 (List.map encInt ([(1 : Int), (9 : Int), (10 : Int)] : List Int))] (p := (bp, ⟨3, [encCur ρ0 y5.2]⟩)) rfl rfl rfl cok_21 rfl rfl ⟨_, _, rfl, .same _, ⟨_, _, rfl, Lend.srMap 0 rfl (fun _ => rfl) (.head _), rfl⟩⟩ (bwCons (k := 0) rfl bwNil) (ok_spec_l1Cur_among hh8) rfl (.inr ⟨(by first | omega | (dsimp only; omega)), by rintro _ _ ⟨rfl, rfl⟩; exact ⟨by simp [PV.no, PV.noL, optS_no, noL_iff, nbeq] <;> omega, by intro b ob h; first | exact optH_no (noL_map (fun _ => by simp [PV.no, PV.noL, noL_iff, nbeq]) _) b ob h | (simp only [List.append_assoc, List.mem_append, List.mem_cons, List.mem_singleton, List.not_mem_nil, or_false, Prod.mk.injEq] at h; rcases h with ⟨rfl, rfl⟩ | ⟨rfl, rfl⟩ <;> first | exact noL_map (fun _ => by simp [PV.no, PV.noL, noL_iff, nbeq]) _ | (simp [PV.no, PV.noL, optS_no, noL_iff, nbeq] <;> omega)) | (simp at h; obtain ⟨rfl, rfl⟩ := h; exact noL_map (fun _ => by simp [PV.no, PV.noL, noL_iff, nbeq]) _) | (simp at h; obtain ⟨rfl, rfl⟩ := h; simp [PV.no, PV.noL, optS_no, noL_iff, nbeq] <;> omega)⟩⟩) lt0 ?_)
          rintro _ _ ⟨rfl, rfl⟩
          refine ⟨_, _, rfl, ?_⟩
          refine WalkP.nil ?_
          refine NodeS.branch [6] inNil rfl rfl rfl ⟨?_, trivial⟩
          ·
           refine ⟨_, _, _, _, rfl, rfl, rfl, (rfl), fun E1 => ?_⟩
           refine (V1.buildSliceT (f := encInt) ([(0 : Int), (20000 : Int)] : List Int) rfl rfl esz_24 zk_3 rfl rfl rfl rfl rfl rfl rfl lt0 ?_)
           intro b67
           refine ⟨_, _, rfl, ?_⟩
           refine WalkP.nil ?_
           refine NodeS.branch [7] inNil rfl rfl rfl ⟨?_, trivial⟩
           ·
            refine ⟨_, _, _, _, rfl, rfl, rfl, (⟨_, _, rfl, rfl, _, _, rfl, rfl, rfl⟩), fun E1 => ?_⟩
            refine (V1.callM 1 (rn + ρ0 + 1) [b67] [.ref bp 3 0 0, .vl (rn + ρ0 + 1) 1 (List.map encInt ([(0 : Int), (20000 : Int)] : List Int))] (p := (bp, ⟨3, [encCur ρ0 y8.2]⟩)) rfl rfl rfl cok_21 rfl rfl ⟨_, _, rfl, .same _, ⟨_, _, rfl, Lend.srMap 0 rfl (fun _ => rfl) (.head _), rfl⟩⟩ (bwCons (k := 0) rfl bwNil) (ok_spec_l1Cur_among hh9) rfl (.inr ⟨(by first | omega | (dsimp only; omega)), by rintro _ _ ⟨rfl, rfl⟩; exact ⟨by simp [PV.no, PV.noL, optS_no, noL_iff, nbeq] <;> omega, by intro b ob h; first | exact optH_no (noL_map (fun _ => by simp [PV.no, PV.noL, noL_iff, nbeq]) _) b ob h | (simp only [List.append_assoc, List.mem_append, List.mem_cons, List.mem_singleton, List.not_mem_nil, or_false, Prod.mk.injEq] at h; rcases h with ⟨rfl, rfl⟩ | ⟨rfl, rfl⟩ <;> first | exact noL_map (fun _ => by simp [PV.no, PV.noL, noL_iff, nbeq]) _ | (simp [PV.no, PV.noL, optS_no, noL_iff, nbeq] <;> omega)) | (simp at h; obtain ⟨rfl, rfl⟩ := h; exact noL_map (fun _ => by simp [PV.no, PV.noL, noL_iff, nbeq]) _) | (simp at h; obtain ⟨rfl, rfl⟩ := h; simp [PV.no, PV.noL, optS_no, noL_iff, nbeq] <;> omega)⟩⟩) lt0 ?_)
            rintro _ _ ⟨rfl, rfl⟩
            refine ⟨_, _, rfl, ?_⟩
            refine WalkP.step (p := ?pv2524) 8 rfl rfl rfl rfl rfl (⟨_, _, rfl, rfl, _, _, rfl, rfl, rfl⟩) ?hv2524 ?rest2524
            case hv2524 =>
             intro E1 H1 hI1
             refine (V1.build rfl rfl zk_75 pl_75 rfl rfl lt0 ?_)
             exact rfl
            refine WalkP.nil ?_
            refine NodeS.branch [9] inNil rfl rfl rfl ⟨?_, trivial⟩
            ·
             refine ⟨_, _, _, _, rfl, rfl, rfl, (⟨_, _, rfl, rfl, rfl⟩), fun E1 => ?_⟩
             refine (V1.buildSliceT (f := encEvent) ([(⟨y8.1, y9.1⟩ : Event)] : List Event) rfl rfl esz_39 zk_75 rfl rfl rfl rfl rfl rfl rfl lt0 ?_)
             intro b68
             refine ⟨_, _, rfl, ?_⟩
             refine WalkP.nil ?_
             refine NodeS.fin inNil rfl rfl rfl (⟨_, _, rfl, rfl, _, _, rfl, rfl, _, _, rfl, rfl, _, _, rfl, rfl, rfl⟩) ?_
             refine VO.cons rfl (V1.appendMap (k := 4) (f := encEvent) (l := r_Events) (m := ([(⟨y8.1, y9.1⟩ : Event)] : List Event)) rfl rfl rfl rfl rfl esz_39 eby_39 zk_75 rfl rfl rfl (SrcOf.srMap (k := 0) rfl isl_39) hh10 lt0 ?_)
             intro b69
             refine VO.cons rfl (V1.fieldRef rfl rfl fo_41_3 rfl lt0 ?_)
             refine VO.cons rfl (V1.storeRef (k := 5) rfl rfl tyk_39 rfl rfl rfl rfl rfl rfl rfl rfl rfl ?_)
             refine VO.nil ?_
             exact ⟨(((r_Events ++ ([(⟨y8.1, y9.1⟩ : Event)] : List Event)), y9.2), b69), Option.some.inj hm2, Keeps.mk (ks := [0, 2, 5, 6]) rfl ⟨rfl, rfl, trivial⟩ (⟨_, _, rfl, rfl, _, _, rfl, rfl, _, _, rfl, rfl, _, _, rfl, rfl, rfl⟩) rfl⟩
         ·
          refine ⟨_, _, _, _, rfl, rfl, rfl, (rfl), fun E1 => ?_⟩
          refine (V1.buildSliceT (f := encInt) ([(0 : Int), (20000 : Int)] : List Int) rfl rfl esz_24 zk_3 rfl rfl rfl rfl rfl rfl rfl lt0 ?_)
          intro b70
          refine ⟨_, _, rfl, ?_⟩
          refine WalkP.nil ?_
          refine NodeS.branch [4] inNil rfl rfl rfl ⟨?_, trivial⟩
          ·
           refine ⟨_, _, _, _, rfl, rfl, rfl, (⟨_, _, rfl, rfl, _, _, rfl, rfl, rfl⟩), fun E1 => ?_⟩
           refine (V1.callM 2 (rn + ρ0 + 1) [b66] [.ref bp 3 0 0, .vl (rn + ρ0 + 1) 1 (List.map encInt ([(1 : Int), (9 : Int), (10 : Int)] : List Int))] (p := (bp, ⟨3, [encCur ρ0 y5.2]⟩)) rfl rfl rfl cok_21 rfl rfl ⟨_, _, rfl, .same _, ⟨_, _, rfl, Lend.srMap 1 rfl (fun _ => rfl) (.head _), rfl⟩⟩ (bwCons (k := 1) rfl bwNil) (ok_spec_l1Cur_among hh8) rfl (.inr ⟨(by first | omega | (dsimp only; omega)), by rintro _ _ ⟨rfl, rfl⟩; exact ⟨by simp [PV.no, PV.noL, optS_no, noL_iff, nbeq] <;> omega, by intro b ob h; first | exact optH_no (noL_map (fun _ => by simp [PV.no, PV.noL, noL_iff, nbeq]) _) b ob h | (simp only [List.append_assoc, List.mem_append, List.mem_cons, List.mem_singleton, List.not_mem_nil, or_false, Prod.mk.injEq] at h; rcases h with ⟨rfl, rfl⟩ | ⟨rfl, rfl⟩ <;> first | exact noL_map (fun _ => by simp [PV.no, PV.noL, noL_iff, nbeq]) _ | (simp [PV.no, PV.noL, optS_no, noL_iff, nbeq] <;> omega)) | (simp at h; obtain ⟨rfl, rfl⟩ := h; exact noL_map (fun _ => by simp [PV.no, PV.noL, noL_iff, nbeq]) _) | (simp at h; obtain ⟨rfl, rfl⟩ := h; simp [PV.no, PV.noL, optS_no, noL_iff, nbeq] <;> omega)⟩⟩) lt0 ?_)
           rintro _ _ ⟨rfl, rfl⟩
           refine ⟨_, _, rfl, ?_⟩
           refine WalkP.nil ?_
           refine NodeS.branch [7] inNil rfl rfl rfl ⟨?_, trivial⟩
           ·
            refine ⟨_, _, _, _, rfl, rfl, rfl, (⟨_, _, rfl, rfl, _, _, rfl, rfl, rfl⟩), fun E1 => ?_⟩
            refine (V1.callM 0 (rn + ρ0 + 1) [b70] [.ref bp 3 0 0, .vl (rn + ρ0 + 1) 1 (List.map encInt ([(0 : Int), (20000 : Int)] : List Int))] (p := (bp, ⟨3, [encCur ρ0 y8.2]⟩)) rfl rfl rfl cok_21 rfl rfl ⟨_, _, rfl, .same _, ⟨_, _, rfl, Lend.srMap 1 rfl (fun _ => rfl) (.head _), rfl⟩⟩ (bwCons (k := 0) rfl bwNil) (ok_spec_l1Cur_among hh9) rfl (.inr ⟨(by first | omega | (dsimp only; omega)), by rintro _ _ ⟨rfl, rfl⟩; exact ⟨by simp [PV.no, PV.noL, optS_no, noL_iff, nbeq] <;> omega, by intro b ob h; first | exact optH_no (noL_map (fun _ => by simp [PV.no, PV.noL, noL_iff, nbeq]) _) b ob h | (simp only [List.append_assoc, List.mem_append, List.mem_cons, List.mem_singleton, List.not_mem_nil, or_false, Prod.mk.injEq] at h; rcases h with ⟨rfl, rfl⟩ | ⟨rfl, rfl⟩ <;> first | exact noL_map (fun _ => by simp [PV.no, PV.noL, noL_iff, nbeq]) _ | (simp [PV.no, PV.noL, optS_no, noL_iff, nbeq] <;> omega)) | (simp at h; obtain ⟨rfl, rfl⟩ := h; exact noL_map (fun _ => by simp [PV.no, PV.noL, noL_iff, nbeq]) _) | (simp at h; obtain ⟨rfl, rfl⟩ := h; simp [PV.no, PV.noL, optS_no, noL_iff, nbeq] <;> omega)⟩⟩) lt0 ?_)
            rintro _ _ ⟨rfl, rfl⟩
            refine ⟨_, _, rfl, ?_⟩
            refine WalkP.step (p := ?pv2527) 8 rfl rfl rfl rfl rfl (⟨_, _, rfl, rfl, _, _, rfl, rfl, rfl⟩) ?hv2527 ?rest2527
            case hv2527 =>
             intro E1 H1 hI1
             refine (V1.build rfl rfl zk_75 pl_75 rfl rfl lt0 ?_)
             exact rfl
            refine WalkP.nil ?_
            refine NodeS.branch [9] inNil rfl rfl rfl ⟨?_, trivial⟩
            ·
             refine ⟨_, _, _, _, rfl, rfl, rfl, (⟨_, _, rfl, rfl, rfl⟩), fun E1 => ?_⟩
             refine (V1.buildSliceT (f := encEvent) ([(⟨y8.1, y9.1⟩ : Event)] : List Event) rfl rfl esz_39 zk_75 rfl rfl rfl rfl rfl rfl rfl lt0 ?_)
             intro b71
             refine ⟨_, _, rfl, ?_⟩
             refine WalkP.nil ?_
             refine NodeS.fin inNil rfl rfl rfl (⟨_, _, rfl, rfl, _, _, rfl, rfl, _, _, rfl, rfl, _, _, rfl, rfl, rfl⟩) ?_
             refine VO.cons rfl (V1.appendMap (k := 4) (f := encEvent) (l := r_Events) (m := ([(⟨y8.1, y9.1⟩ : Event)] : List Event)) rfl rfl rfl rfl rfl esz_39 eby_39 zk_75 rfl rfl rfl (SrcOf.srMap (k := 0) rfl isl_39) hh10 lt0 ?_)
             intro b72
             refine VO.cons rfl (V1.fieldRef rfl rfl fo_41_3 rfl lt0 ?_)
             refine VO.cons rfl (V1.storeRef (k := 5) rfl rfl tyk_39 rfl rfl rfl rfl rfl rfl rfl rfl rfl ?_)
             refine VO.nil ?_
             exact ⟨(((r_Events ++ ([(⟨y8.1, y9.1⟩ : Event)] : List Event)), y9.2), b72), Option.some.inj hm2, Keeps.mk (ks := [0, 2, 5, 6]) rfl ⟨rfl, rfl, trivial⟩ (⟨_, _, rfl, rfl, _, _, rfl, rfl, _, _, rfl, rfl, _, _, rfl, rfl, rfl⟩) rfl⟩
        ·
         refine ⟨_, _, _, _, rfl, rfl, rfl, (⟨_, _, rfl, rfl, _, _, rfl, rfl, rfl⟩), fun E1 => ?_⟩
         refine (V1.callM 1 (rn + ρ0 + 1) [b66] [.ref bp 3 0 0, .vl (rn + ρ0 + 1) 1 (List.map encInt ([(1 : Int), (9 : Int), (10 : Int)] : List Int))] (p := (bp, ⟨3, [encCur ρ0 y5.2]⟩)) rfl rfl rfl cok_21 rfl rfl ⟨_, _, rfl, .same _, ⟨_, _, rfl, Lend.srMap 0 rfl (fun _ => rfl) (.head _), rfl⟩⟩ (bwCons (k := 0) rfl bwNil) (ok_spec_l1Cur_among hh8) rfl (.inr ⟨(by first | omega | (dsimp only; omega)), by rintro _ _ ⟨rfl, rfl⟩; exact ⟨by simp [PV.no, PV.noL, optS_no, noL_iff, nbeq] <;> omega, by intro b ob h; first | exact optH_no (noL_map (fun _ => by simp [PV.no, PV.noL, noL_iff, nbeq]) _) b ob h | (simp only [List.append_assoc, List.mem_append, List.mem_cons, List.mem_singleton, List.not_mem_nil, or_false, Prod.mk.injEq] at h; rcases h with ⟨rfl, rfl⟩ | ⟨rfl, rfl⟩ <;> first | exact noL_map (fun _ => by simp [PV.no, PV.noL, noL_iff, nbeq]) _ | (simp [PV.no, PV.noL, optS_no, noL_iff, nbeq] <;> omega)) | (simp at h; obtain ⟨rfl, rfl⟩ := h; exact noL_map (fun _ => by simp [PV.no, PV.noL, noL_iff, nbeq]) _) | (simp at h; obtain ⟨rfl, rfl⟩ := h; simp [PV.no, PV.noL, optS_no, noL_iff, nbeq] <;> omega)⟩⟩) lt0 ?_)
         rintro _ _ ⟨rfl, rfl⟩
         refine ⟨_, _, rfl, ?_⟩
         refine WalkP.nil ?_
         refine NodeS.branch [1, 6] inNil rfl rfl rfl ⟨?_, ?_, trivial⟩
         ·
          refine ⟨_, _, _, _, rfl, rfl, rfl, (⟨_, _, rfl, rfl, rfl⟩), fun E1 => ?_⟩
          refine (V1.loadRef (k := 3) rfl rfl tyk_39 rfl rfl rfl rfl rfl lt0 ?_)
          refine ⟨_, _, rfl, ?_⟩
          refine WalkP.nil ?_
          refine NodeS.branch [6] inNil rfl rfl rfl ⟨?_, trivial⟩
          ·
           refine ⟨_, _, _, _, rfl, rfl, rfl, (rfl), fun E1 => ?_⟩
           refine (V1.buildSliceT (f := encInt) ([(0 : Int), (20000 : Int)] : List Int) rfl rfl esz_24 zk_3 rfl rfl rfl rfl rfl rfl rfl lt0 ?_)
           intro b73
           refine ⟨_, _, rfl, ?_⟩
           refine WalkP.nil ?_
           refine NodeS.branch [7] inNil rfl rfl rfl ⟨?_, trivial⟩
           ·
            refine ⟨_, _, _, _, rfl, rfl, rfl, (⟨_, _, rfl, rfl, _, _, rfl, rfl, rfl⟩), fun E1 => ?_⟩
            refine (V1.callM 1 (rn + ρ0 + 1) [b73] [.ref bp 3 0 0, .vl (rn + ρ0 + 1) 1 (List.map encInt ([(0 : Int), (20000 : Int)] : List Int))] (p := (bp, ⟨3, [encCur ρ0 y8.2]⟩)) rfl rfl rfl cok_21 rfl rfl ⟨_, _, rfl, .same _, ⟨_, _, rfl, Lend.srMap 0 rfl (fun _ => rfl) (.head _), rfl⟩⟩ (bwCons (k := 0) rfl bwNil) (ok_spec_l1Cur_among hh9) rfl (.inr ⟨(by first | omega | (dsimp only; omega)), by rintro _ _ ⟨rfl, rfl⟩; exact ⟨by simp [PV.no, PV.noL, optS_no, noL_iff, nbeq] <;> omega, by intro b ob h; first | exact optH_no (noL_map (fun _ => by simp [PV.no, PV.noL, noL_iff, nbeq]) _) b ob h | (simp only [List.append_assoc, List.mem_append, List.mem_cons, List.mem_singleton, List.not_mem_nil, or_false, Prod.mk.injEq] at h; rcases h with ⟨rfl, rfl⟩ | ⟨rfl, rfl⟩ <;> first | exact noL_map (fun _ => by simp [PV.no, PV.noL, noL_iff, nbeq]) _ | (simp [PV.no, PV.noL, optS_no, noL_iff, nbeq] <;> omega)) | (simp at h; obtain ⟨rfl, rfl⟩ := h; exact noL_map (fun _ => by simp [PV.no, PV.noL, noL_iff, nbeq]) _) | (simp at h; obtain ⟨rfl, rfl⟩ := h; simp [PV.no, PV.noL, optS_no, noL_iff, nbeq] <;> omega)⟩⟩) lt0 ?_)
            rintro _ _ ⟨rfl, rfl⟩
            refine ⟨_, _, rfl, ?_⟩
            refine WalkP.step (p := ?pv2530) 8 rfl rfl rfl rfl rfl (⟨_, _, rfl, rfl, _, _, rfl, rfl, rfl⟩) ?hv2530 ?rest2530
            case hv2530 =>
             intro E1 H1 hI1
             refine (V1.build rfl rfl zk_75 pl_75 rfl rfl lt0 ?_)
             exact rfl
            refine WalkP.nil ?_
            refine NodeS.branch [9] inNil rfl rfl rfl ⟨?_, trivial⟩
            ·
             refine ⟨_, _, _, _, rfl, rfl, rfl, (⟨_, _, rfl, rfl, rfl⟩), fun E1 => ?_⟩
             refine (V1.buildSliceT (f := encEvent) ([(⟨y8.1, y9.1⟩ : Event)] : List Event) rfl rfl esz_39 zk_75 rfl rfl rfl rfl rfl rfl rfl lt0 ?_)
             intro b74
             refine ⟨_, _, rfl, ?_⟩
             refine WalkP.nil ?_
             refine NodeS.fin inNil rfl rfl rfl (⟨_, _, rfl, rfl, _, _, rfl, rfl, _, _, rfl, rfl, _, _, rfl, rfl, rfl⟩) ?_
             refine VO.cons rfl (V1.appendMap (k := 4) (f := encEvent) (l := r_Events) (m := ([(⟨y8.1, y9.1⟩ : Event)] : List Event)) rfl rfl rfl rfl rfl esz_39 eby_39 zk_75 rfl rfl rfl (SrcOf.srMap (k := 0) rfl isl_39) hh10 lt0 ?_)
             intro b75
             refine VO.cons rfl (V1.fieldRef rfl rfl fo_41_3 rfl lt0 ?_)
             refine VO.cons rfl (V1.storeRef (k := 5) rfl rfl tyk_39 rfl rfl rfl rfl rfl rfl rfl rfl rfl ?_)
             refine VO.nil ?_
             exact ⟨(((r_Events ++ ([(⟨y8.1, y9.1⟩ : Event)] : List Event)), y9.2), b75), Option.some.inj hm2, Keeps.mk (ks := [0, 2, 5, 6]) rfl ⟨rfl, rfl, trivial⟩ (⟨_, _, rfl, rfl, _, _, rfl, rfl, _, _, rfl, rfl, _, _, rfl, rfl, rfl⟩) rfl⟩
         ·
          refine ⟨_, _, _, _, rfl, rfl, rfl, (rfl), fun E1 => ?_⟩
          refine (V1.buildSliceT (f := encInt) ([(0 : Int), (20000 : Int)] : List Int) rfl rfl esz_24 zk_3 rfl rfl rfl rfl rfl rfl rfl lt0 ?_)
          intro b76
          refine ⟨_, _, rfl, ?_⟩
          refine WalkP.nil ?_
          refine NodeS.branch [1, 7] inNil rfl rfl rfl ⟨?_, ?_, trivial⟩
          ·
           refine ⟨_, _, _, _, rfl, rfl, rfl, (⟨_, _, rfl, rfl, rfl⟩), fun E1 => ?_⟩
           refine (V1.loadRef (k := 4) rfl rfl tyk_39 rfl rfl rfl rfl rfl lt0 ?_)
           refine ⟨_, _, rfl, ?_⟩
           refine WalkP.nil ?_
           refine NodeS.branch [7] inNil rfl rfl rfl ⟨?_, trivial⟩
           ·
            refine ⟨_, _, _, _, rfl, rfl, rfl, (⟨_, _, rfl, rfl, _, _, rfl, rfl, rfl⟩), fun E1 => ?_⟩
            refine (V1.callM 1 (rn + ρ0 + 1) [b76] [.ref bp 3 0 0, .vl (rn + ρ0 + 1) 1 (List.map encInt ([(0 : Int), (20000 : Int)] : List Int))] (p := (bp, ⟨3, [encCur ρ0 y8.2]⟩)) rfl rfl rfl cok_21 rfl rfl ⟨_, _, rfl, .same _, ⟨_, _, rfl, Lend.srMap 0 rfl (fun _ => rfl) (.head _), rfl⟩⟩ (bwCons (k := 0) rfl bwNil) (ok_spec_l1Cur_among hh9) rfl (.inr ⟨(by first | omega | (dsimp only; omega)), by rintro _ _ ⟨rfl, rfl⟩; exact ⟨by simp [PV.no, PV.noL, optS_no, noL_iff, nbeq] <;> omega, by intro b ob h; first | exact optH_no (noL_map (fun _ => by simp [PV.no, PV.noL, noL_iff, nbeq]) _) b ob h | (simp only [List.append_assoc, List.mem_append, List.mem_cons, List.mem_singleton, List.not_mem_nil, or_false, Prod.mk.injEq] at h; rcases h with ⟨rfl, rfl⟩ | ⟨rfl, rfl⟩ <;> first | exact noL_map (fun _ => by simp [PV.no, PV.noL, noL_iff, nbeq]) _ | (simp [PV.no, PV.noL, optS_no, noL_iff, nbeq] <;> omega)) | (simp at h; obtain ⟨rfl, rfl⟩ := h; exact noL_map (fun _ => by simp [PV.no, PV.noL, noL_iff, nbeq]) _) | (simp at h; obtain ⟨rfl, rfl⟩ := h; simp [PV.no, PV.noL, optS_no, noL_iff, nbeq] <;> omega)⟩⟩) lt0 ?_)
            rintro _ _ ⟨rfl, rfl⟩
            refine ⟨_, _, rfl, ?_⟩
            refine WalkP.step (p := ?pv2532) 8 rfl rfl rfl rfl rfl (⟨_, _, rfl, rfl, _, _, rfl, rfl, rfl⟩) ?hv2532 ?rest2532
            case hv2532 =>
             intro E1 H1 hI1
             refine (V1.build rfl rfl zk_75 pl_75 rfl rfl lt0 ?_)
             exact rfl
            refine WalkP.nil ?_
            refine NodeS.branch [9] inNil rfl rfl rfl ⟨?_, trivial⟩
            ·
             refine ⟨_, _, _, _, rfl, rfl, rfl, (⟨_, _, rfl, rfl, rfl⟩), fun E1 => ?_⟩
             refine (V1.buildSliceT (f := encEvent) ([(⟨y8.1, y9.1⟩ : Event)] : List Event) rfl rfl esz_39 zk_75 rfl rfl rfl rfl rfl rfl rfl lt0 ?_)
             intro b77
             refine ⟨_, _, rfl, ?_⟩
             refine WalkP.nil ?_
             refine NodeS.fin inNil rfl rfl rfl (⟨_, _, rfl, rfl, _, _, rfl, rfl, _, _, rfl, rfl, _, _, rfl, rfl, rfl⟩) ?_
             refine VO.cons rfl (V1.appendMap (k := 4) (f := encEvent) (l := r_Events) (m := ([(⟨y8.1, y9.1⟩ : Event)] : List Event)) rfl rfl rfl rfl rfl esz_39 eby_39 zk_75 rfl rfl rfl (SrcOf.srMap (k := 0) rfl isl_39) hh10 lt0 ?_)
             intro b78
             refine VO.cons rfl (V1.fieldRef rfl rfl fo_41_3 rfl lt0 ?_)
             refine VO.cons rfl (V1.storeRef (k := 5) rfl rfl tyk_39 rfl rfl rfl rfl rfl rfl rfl rfl rfl ?_)
             refine VO.nil ?_
             exact ⟨(((r_Events ++ ([(⟨y8.1, y9.1⟩ : Event)] : List Event)), y9.2), b78), Option.some.inj hm2, Keeps.mk (ks := [0, 2, 5, 6]) rfl ⟨rfl, rfl, trivial⟩ (⟨_, _, rfl, rfl, _, _, rfl, rfl, _, _, rfl, rfl, _, _, rfl, rfl, rfl⟩) rfl⟩
          ·
           refine ⟨_, _, _, _, rfl, rfl, rfl, (⟨_, _, rfl, rfl, _, _, rfl, rfl, rfl⟩), fun E1 => ?_⟩
           refine (V1.callM 1 (rn + ρ0 + 1) [b76] [.ref bp 3 0 0, .vl (rn + ρ0 + 1) 1 (List.map encInt ([(0 : Int), (20000 : Int)] : List Int))] (p := (bp, ⟨3, [encCur ρ0 y8.2]⟩)) rfl rfl rfl cok_21 rfl rfl ⟨_, _, rfl, .same _, ⟨_, _, rfl, Lend.srMap 0 rfl (fun _ => rfl) (.head _), rfl⟩⟩ (bwCons (k := 0) rfl bwNil) (ok_spec_l1Cur_among hh9) rfl (.inr ⟨(by first | omega | (dsimp only; omega)), by rintro _ _ ⟨rfl, rfl⟩; exact ⟨by simp [PV.no, PV.noL, optS_no, noL_iff, nbeq] <;> omega, by intro b ob h; first | exact optH_no (noL_map (fun _ => by simp [PV.no, PV.noL, noL_iff, nbeq]) _) b ob h | (simp only [List.append_assoc, List.mem_append, List.mem_cons, List.mem_singleton, List.not_mem_nil, or_false, Prod.mk.injEq] at h; rcases h with ⟨rfl, rfl⟩ | ⟨rfl, rfl⟩ <;> first | exact noL_map (fun _ => by simp [PV.no, PV.noL, noL_iff, nbeq]) _ | (simp [PV.no, PV.noL, optS_no, noL_iff, nbeq] <;> omega)) | (simp at h; obtain ⟨rfl, rfl⟩ := h; exact noL_map (fun _ => by simp [PV.no, PV.noL, noL_iff, nbeq]) _) | (simp at h; obtain ⟨rfl, rfl⟩ := h; simp [PV.no, PV.noL, optS_no, noL_iff, nbeq] <;> omega)⟩⟩) lt0 ?_)
           rintro _ _ ⟨rfl, rfl⟩
           refine ⟨_, _, rfl, ?_⟩
           refine WalkP.step (p := ?pv2534) 8 rfl rfl rfl rfl rfl (⟨_, _, rfl, rfl, _, _, rfl, rfl, rfl⟩) ?hv2534 ?rest2534
           case hv2534 =>
            intro E1 H1 hI1
            refine (V1.build rfl rfl zk_75 pl_75 rfl rfl lt0 ?_)
            exact rfl
           refine WalkP.nil ?_
           refine NodeS.branch [1, 9] inNil rfl rfl rfl ⟨?_, ?_, trivial⟩
           ·
            refine ⟨_, _, _, _, rfl, rfl, rfl, (⟨_, _, rfl, rfl, rfl⟩), fun E1 => ?_⟩
            refine (V1.loadRef (k := 4) rfl rfl tyk_39 rfl rfl rfl rfl rfl lt0 ?_)
            refine ⟨_, _, rfl, ?_⟩
            refine WalkP.nil ?_
            refine NodeS.branch [9] inNil rfl rfl rfl ⟨?_, trivial⟩
            ·
             refine ⟨_, _, _, _, rfl, rfl, rfl, (⟨_, _, rfl, rfl, rfl⟩), fun E1 => ?_⟩
             refine (V1.buildSliceT (f := encEvent) ([(⟨y8.1, y9.1⟩ : Event)] : List Event) rfl rfl esz_39 zk_75 rfl rfl rfl rfl rfl rfl rfl lt0 ?_)
             intro b79
             refine ⟨_, _, rfl, ?_⟩
             refine WalkP.nil ?_
             refine NodeS.fin inNil rfl rfl rfl (⟨_, _, rfl, rfl, _, _, rfl, rfl, _, _, rfl, rfl, _, _, rfl, rfl, rfl⟩) ?_
             refine VO.cons rfl (V1.appendMap (k := 4) (f := encEvent) (l := r_Events) (m := ([(⟨y8.1, y9.1⟩ : Event)] : List Event)) rfl rfl rfl rfl rfl esz_39 eby_39 zk_75 rfl rfl rfl (SrcOf.srMap (k := 0) rfl isl_39) hh10 lt0 ?_)
             intro b80
             refine VO.cons rfl (V1.fieldRef rfl rfl fo_41_3 rfl lt0 ?_)
             refine VO.cons rfl (V1.storeRef (k := 5) rfl rfl tyk_39 rfl rfl rfl rfl rfl rfl rfl rfl rfl ?_)
             refine VO.nil ?_
             exact ⟨(((r_Events ++ ([(⟨y8.1, y9.1⟩ : Event)] : List Event)), y9.2), b80), Option.some.inj hm2, Keeps.mk (ks := [0, 2, 5, 6]) rfl ⟨rfl, rfl, trivial⟩ (⟨_, _, rfl, rfl, _, _, rfl, rfl, _, _, rfl, rfl, _, _, rfl, rfl, rfl⟩) rfl⟩
           ·
            refine ⟨_, _, _, _, rfl, rfl, rfl, (⟨_, _, rfl, rfl, rfl⟩), fun E1 => ?_⟩
            refine (V1.buildSliceT (f := encEvent) ([(⟨y8.1, y9.1⟩ : Event)] : List Event) rfl rfl esz_39 zk_75 rfl rfl rfl rfl rfl rfl rfl lt0 ?_)
            intro b81
            refine ⟨_, _, rfl, ?_⟩
            refine WalkP.nil ?_
            refine NodeS.branch [1] inNil rfl rfl rfl ⟨?_, trivial⟩
            ·
             refine ⟨_, _, _, _, rfl, rfl, rfl, (⟨_, _, rfl, rfl, rfl⟩), fun E1 => ?_⟩
             refine (V1.loadRef (k := 5) rfl rfl tyk_39 rfl rfl rfl rfl rfl lt0 ?_)
             refine ⟨_, _, rfl, ?_⟩
             refine WalkP.nil ?_
             refine NodeS.fin inNil rfl rfl rfl (⟨_, _, rfl, rfl, _, _, rfl, rfl, _, _, rfl, rfl, _, _, rfl, rfl, rfl⟩) ?_
             refine VO.cons rfl (V1.appendMap (k := 4) (f := encEvent) (l := r_Events) (m := ([(⟨y8.1, y9.1⟩ : Event)] : List Event)) rfl rfl rfl rfl rfl esz_39 eby_39 zk_75 rfl rfl rfl (SrcOf.srMap (k := 0) rfl isl_39) hh10 lt0 ?_)
             intro b82
             refine VO.cons rfl (V1.fieldRef rfl rfl fo_41_3 rfl lt0 ?_)
             refine VO.cons rfl (V1.storeRef (k := 5) rfl rfl tyk_39 rfl rfl rfl rfl rfl rfl rfl rfl rfl ?_)
             refine VO.nil ?_
             exact ⟨(((r_Events ++ ([(⟨y8.1, y9.1⟩ : Event)] : List Event)), y9.2), b82), Option.some.inj hm2, Keeps.mk (ks := [0, 2, 5, 6]) rfl ⟨rfl, rfl, trivial⟩ (⟨_, _, rfl, rfl, _, _, rfl, rfl, _, _, rfl, rfl, _, _, rfl, rfl, rfl⟩) rfl⟩
        ·
         refine ⟨_, _, _, _, rfl, rfl, rfl, (rfl), fun E1 => ?_⟩
         refine (V1.buildSliceT (f := encInt) ([(0 : Int), (20000 : Int)] : List Int) rfl rfl esz_24 zk_3 rfl rfl rfl rfl rfl rfl rfl lt0 ?_)
         intro b83
         refine ⟨_, _, rfl, ?_⟩
         refine WalkP.nil ?_
         refine NodeS.branch [1, 4] inNil rfl rfl rfl ⟨?_, ?_, trivial⟩
         ·
          refine ⟨_, _, _, _, rfl, rfl, rfl, (⟨_, _, rfl, rfl, rfl⟩), fun E1 => ?_⟩
          refine (V1.loadRef (k := 4) rfl rfl tyk_39 rfl rfl rfl rfl rfl lt0 ?_)
          refine ⟨_, _, rfl, ?_⟩
          refine WalkP.nil ?_
          refine NodeS.branch [4] inNil rfl rfl rfl ⟨?_, trivial⟩
          ·
           refine ⟨_, _, _, _, rfl, rfl, rfl, (⟨_, _, rfl, rfl, _, _, rfl, rfl, rfl⟩), fun E1 => ?_⟩
           refine (V1.callM 2 (rn + ρ0 + 1) [b66] [.ref bp 3 0 0, .vl (rn + ρ0 + 1) 1 (List.map encInt ([(1 : Int), (9 : Int), (10 : Int)] : List Int))] (p := (bp, ⟨3, [encCur ρ0 y5.2]⟩)) rfl rfl rfl cok_21 rfl rfl ⟨_, _, rfl, .same _, ⟨_, _, rfl, Lend.srMap 1 rfl (fun _ => rfl) (.head _), rfl⟩⟩ (bwCons (k := 1) rfl bwNil) (ok_spec_l1Cur_among hh8) rfl (.inr ⟨(by first | omega | (dsimp only; omega)), by rintro _ _ ⟨rfl, rfl⟩; exact ⟨by simp [PV.no, PV.noL, optS_no, noL_iff, nbeq] <;> omega, by intro b ob h; first | exact optH_no (noL_map (fun _ => by simp [PV.no, PV.noL, noL_iff, nbeq]) _) b ob h | (simp only [List.append_assoc, List.mem_append, List.mem_cons, List.mem_singleton, List.not_mem_nil, or_false, Prod.mk.injEq] at h; rcases h with ⟨rfl, rfl⟩ | ⟨rfl, rfl⟩ <;> first | exact noL_map (fun _ => by simp [PV.no, PV.noL, noL_iff, nbeq]) _ | (simp [PV.no, PV.noL, optS_no, noL_iff, nbeq] <;> omega)) | (simp at h; obtain ⟨rfl, rfl⟩ := h; exact noL_map (fun _ => by simp [PV.no, PV.noL, noL_iff, nbeq]) _) | (simp at h; obtain ⟨rfl, rfl⟩ := h; simp [PV.no, PV.noL, optS_no, noL_iff, nbeq] <;> omega)⟩⟩) lt0 ?_)
           rintro _ _ ⟨rfl, rfl⟩
           refine ⟨_, _, rfl, ?_⟩
           refine WalkP.nil ?_
           refine NodeS.branch [7] inNil rfl rfl rfl ⟨?_, trivial⟩
           ·
            refine ⟨_, _, _, _, rfl, rfl, rfl, (⟨_, _, rfl, rfl, _, _, rfl, rfl, rfl⟩), fun E1 => ?_⟩
            refine (V1.callM 0 (rn + ρ0 + 1) [b83] [.ref bp 3 0 0, .vl (rn + ρ0 + 1) 1 (List.map encInt ([(0 : Int), (20000 : Int)] : List Int))] (p := (bp, ⟨3, [encCur ρ0 y8.2]⟩)) rfl rfl rfl cok_21 rfl rfl ⟨_, _, rfl, .same _, ⟨_, _, rfl, Lend.srMap 1 rfl (fun _ => rfl) (.head _), rfl⟩⟩ (bwCons (k := 0) rfl bwNil) (ok_spec_l1Cur_among hh9) rfl (.inr ⟨(by first | omega | (dsimp only; omega)), by rintro _ _ ⟨rfl, rfl⟩; exact ⟨by simp [PV.no, PV.noL, optS_no, noL_iff, nbeq] <;> omega, by intro b ob h; first | exact optH_no (noL_map (fun _ => by simp [PV.no, PV.noL, noL_iff, nbeq]) _) b ob h | (simp only [List.append_assoc, List.mem_append, List.mem_cons, List.mem_singleton, List.not_mem_nil, or_false, Prod.mk.injEq] at h; rcases h with ⟨rfl, rfl⟩ | ⟨rfl, rfl⟩ <;> first | exact noL_map (fun _ => by simp [PV.no, PV.noL, noL_iff, nbeq]) _ | (simp [PV.no, PV.noL, optS_no, noL_iff, nbeq] <;> omega)) | (simp at h; obtain ⟨rfl, rfl⟩ := h; exact noL_map (fun _ => by simp [PV.no, PV.noL, noL_iff, nbeq]) _) | (simp at h; obtain ⟨rfl, rfl⟩ := h; simp [PV.no, PV.noL, optS_no, noL_iff, nbeq] <;> omega)⟩⟩) lt0 ?_)
            rintro _ _ ⟨rfl, rfl⟩
            refine ⟨_, _, rfl, ?_⟩
            refine WalkP.step (p := ?pv2537) 8 rfl rfl rfl rfl rfl (⟨_, _, rfl, rfl, _, _, rfl, rfl, rfl⟩) ?hv2537 ?rest2537
            case hv2537 =>
             intro E1 H1 hI1
             refine (V1.build rfl rfl zk_75 pl_75 rfl rfl lt0 ?_)
             exact rfl
            refine WalkP.nil ?_
            refine NodeS.branch [9] inNil rfl rfl rfl ⟨?_, trivial⟩
            ·
             refine ⟨_, _, _, _, rfl, rfl, rfl, (⟨_, _, rfl, rfl, rfl⟩), fun E1 => ?_⟩
             refine (V1.buildSliceT (f := encEvent) ([(⟨y8.1, y9.1⟩ : Event)] : List Event) rfl rfl esz_39 zk_75 rfl rfl rfl rfl rfl rfl rfl lt0 ?_)
             intro b84
             refine ⟨_, _, rfl, ?_⟩
             refine WalkP.nil ?_
             refine NodeS.fin inNil rfl rfl rfl (⟨_, _, rfl, rfl, _, _, rfl, rfl, _, _, rfl, rfl, _, _, rfl, rfl, rfl⟩) ?_
             refine VO.cons rfl (V1.appendMap (k := 4) (f := encEvent) (l := r_Events) (m := ([(⟨y8.1, y9.1⟩ : Event)] : List Event)) rfl rfl rfl rfl rfl esz_39 eby_39 zk_75 rfl rfl rfl (SrcOf.srMap (k := 0) rfl isl_39) hh10 lt0 ?_)
             intro b85
             refine VO.cons rfl (V1.fieldRef rfl rfl fo_41_3 rfl lt0 ?_)
             refine VO.cons rfl (V1.storeRef (k := 5) rfl rfl tyk_39 rfl rfl rfl rfl rfl rfl rfl rfl rfl ?_)
             refine VO.nil ?_
             exact ⟨(((r_Events ++ ([(⟨y8.1, y9.1⟩ : Event)] : List Event)), y9.2), b85), Option.some.inj hm2, Keeps.mk (ks := [0, 2, 5, 6]) rfl ⟨rfl, rfl, trivial⟩ (⟨_, _, rfl, rfl, _, _, rfl, rfl, _, _, rfl, rfl, _, _, rfl, rfl, rfl⟩) rfl⟩
         ·
          refine ⟨_, _, _, _, rfl, rfl, rfl, (⟨_, _, rfl, rfl, _, _, rfl, rfl, rfl⟩), fun E1 => ?_⟩
          refine (V1.callM 2 (rn + ρ0 + 1) [b66] [.ref bp 3 0 0, .vl (rn + ρ0 + 1) 1 (List.map encInt ([(1 : Int), (9 : Int), (10 : Int)] : List Int))] (p := (bp, ⟨3, [encCur ρ0 y5.2]⟩)) rfl rfl rfl cok_21 rfl rfl ⟨_, _, rfl, .same _, ⟨_, _, rfl, Lend.srMap 1 rfl (fun _ => rfl) (.head _), rfl⟩⟩ (bwCons (k := 1) rfl bwNil) (ok_spec_l1Cur_among hh8) rfl (.inr ⟨(by first | omega | (dsimp only; omega)), by rintro _ _ ⟨rfl, rfl⟩; exact ⟨by simp [PV.no, PV.noL, optS_no, noL_iff, nbeq] <;> omega, by intro b ob h; first | exact optH_no (noL_map (fun _ => by simp [PV.no, PV.noL, noL_iff, nbeq]) _) b ob h | (simp only [List.append_assoc, List.mem_append, List.mem_cons, List.mem_singleton, List.not_mem_nil, or_false, Prod.mk.injEq] at h; rcases h with ⟨rfl, rfl⟩ | ⟨rfl, rfl⟩ <;> first | exact noL_map (fun _ => by simp [PV.no, PV.noL, noL_iff, nbeq]) _ | (simp [PV.no, PV.noL, optS_no, noL_iff, nbeq] <;> omega)) | (simp at h; obtain ⟨rfl, rfl⟩ := h; exact noL_map (fun _ => by simp [PV.no, PV.noL, noL_iff, nbeq]) _) | (simp at h; obtain ⟨rfl, rfl⟩ := h; simp [PV.no, PV.noL, optS_no, noL_iff, nbeq] <;> omega)⟩⟩) lt0 ?_)
          rintro _ _ ⟨rfl, rfl⟩
          refine ⟨_, _, rfl, ?_⟩
          refine WalkP.nil ?_
          refine NodeS.branch [1, 7] inNil rfl rfl rfl ⟨?_, ?_, trivial⟩
          ·
           refine ⟨_, _, _, _, rfl, rfl, rfl, (⟨_, _, rfl, rfl, rfl⟩), fun E1 => ?_⟩
           refine (V1.loadRef (k := 4) rfl rfl tyk_39 rfl rfl rfl rfl rfl lt0 ?_)
           refine ⟨_, _, rfl, ?_⟩
           refine WalkP.nil ?_
           refine NodeS.branch [7] inNil rfl rfl rfl ⟨?_, trivial⟩
           ·
            refine ⟨_, _, _, _, rfl, rfl, rfl, (⟨_, _, rfl, rfl, _, _, rfl, rfl, rfl⟩), fun E1 => ?_⟩
            refine (V1.callM 0 (rn + ρ0 + 1) [b83] [.ref bp 3 0 0, .vl (rn + ρ0 + 1) 1 (List.map encInt ([(0 : Int), (20000 : Int)] : List Int))] (p := (bp, ⟨3, [encCur ρ0 y8.2]⟩)) rfl rfl rfl cok_21 rfl rfl ⟨_, _, rfl, .same _, ⟨_, _, rfl, Lend.srMap 1 rfl (fun _ => rfl) (.head _), rfl⟩⟩ (bwCons (k := 0) rfl bwNil) (ok_spec_l1Cur_among hh9) rfl (.inr ⟨(by first | omega | (dsimp only; omega)), by rintro _ _ ⟨rfl, rfl⟩; exact ⟨by simp [PV.no, PV.noL, optS_no, noL_iff, nbeq] <;> omega, by intro b ob h; first | exact optH_no (noL_map (fun _ => by simp [PV.no, PV.noL, noL_iff, nbeq]) _) b ob h | (simp only [List.append_assoc, List.mem_append, List.mem_cons, List.mem_singleton, List.not_mem_nil, or_false, Prod.mk.injEq] at h; rcases h with ⟨rfl, rfl⟩ | ⟨rfl, rfl⟩ <;> first | exact noL_map (fun _ => by simp [PV.no, PV.noL, noL_iff, nbeq]) _ | (simp [PV.no, PV.noL, optS_no, noL_iff, nbeq] <;> omega)) | (simp at h; obtain ⟨rfl, rfl⟩ := h; exact noL_map (fun _ => by simp [PV.no, PV.noL, noL_iff, nbeq]) _) | (simp at h; obtain ⟨rfl, rfl⟩ := h; simp [PV.no, PV.noL, optS_no, noL_iff, nbeq] <;> omega)⟩⟩) lt0 ?_)
            rintro _ _ ⟨rfl, rfl⟩
            refine ⟨_, _, rfl, ?_⟩
            refine WalkP.step (p := ?pv2540) 8 rfl rfl rfl rfl rfl (⟨_, _, rfl, rfl, _, _, rfl, rfl, rfl⟩) ?hv2540 ?rest2540
            case hv2540 =>
             intro E1 H1 hI1
             refine (V1.build rfl rfl zk_75 pl_75 rfl rfl lt0 ?_)
             exact rfl
            refine WalkP.nil ?_
            refine NodeS.branch [9] inNil rfl rfl rfl ⟨?_, trivial⟩
            ·
             refine ⟨_, _, _, _, rfl, rfl, rfl, (⟨_, _, rfl, rfl, rfl⟩), fun E1 => ?_⟩
             refine (V1.buildSliceT (f := encEvent) ([(⟨y8.1, y9.1⟩ : Event)] : List Event) rfl rfl esz_39 zk_75 rfl rfl rfl rfl rfl rfl rfl lt0 ?_)
             intro b86
             refine ⟨_, _, rfl, ?_⟩
             refine WalkP.nil ?_
             refine NodeS.fin inNil rfl rfl rfl (⟨_, _, rfl, rfl, _, _, rfl, rfl, _, _, rfl, rfl, _, _, rfl, rfl, rfl⟩) ?_
             refine VO.cons rfl (V1.appendMap (k := 4) (f := encEvent) (l := r_Events) (m := ([(⟨y8.1, y9.1⟩ : Event)] : List Event)) rfl rfl rfl rfl rfl esz_39 eby_39 zk_75 rfl rfl rfl (SrcOf.srMap (k := 0) rfl isl_39) hh10 lt0 ?_)
             intro b87
             refine VO.cons rfl (V1.fieldRef rfl rfl fo_41_3 rfl lt0 ?_)
             refine VO.cons rfl (V1.storeRef (k := 5) rfl rfl tyk_39 rfl rfl rfl rfl rfl rfl rfl rfl rfl ?_)
             refine VO.nil ?_
             exact ⟨(((r_Events ++ ([(⟨y8.1, y9.1⟩ : Event)] : List Event)), y9.2), b87), Option.some.inj hm2, Keeps.mk (ks := [0, 2, 5, 6]) rfl ⟨rfl, rfl, trivial⟩ (⟨_, _, rfl, rfl, _, _, rfl, rfl, _, _, rfl, rfl, _, _, rfl, rfl, rfl⟩) rfl⟩
          ·
           refine ⟨_, _, _, _, rfl, rfl, rfl, (⟨_, _, rfl, rfl, _, _, rfl, rfl, rfl⟩), fun E1 => ?_⟩
           refine (V1.callM 0 (rn + ρ0 + 1) [b83] [.ref bp 3 0 0, .vl (rn + ρ0 + 1) 1 (List.map encInt ([(0 : Int), (20000 : Int)] : List Int))] (p := (bp, ⟨3, [encCur ρ0 y8.2]⟩)) rfl rfl rfl cok_21 rfl rfl ⟨_, _, rfl, .same _, ⟨_, _, rfl, Lend.srMap 1 rfl (fun _ => rfl) (.head _), rfl⟩⟩ (bwCons (k := 0) rfl bwNil) (ok_spec_l1Cur_among hh9) rfl (.inr ⟨(by first | omega | (dsimp only; omega)), by rintro _ _ ⟨rfl, rfl⟩; exact ⟨by simp [PV.no, PV.noL, optS_no, noL_iff, nbeq] <;> omega, by intro b ob h; first | exact optH_no (noL_map (fun _ => by simp [PV.no, PV.noL, noL_iff, nbeq]) _) b ob h | (simp only [List.append_assoc, List.mem_append, List.mem_cons, List.mem_singleton, List.not_mem_nil, or_false, Prod.mk.injEq] at h; rcases h with ⟨rfl, rfl⟩ | ⟨rfl, rfl⟩ <;> first | exact noL_map (fun _ => by simp [PV.no, PV.noL, noL_iff, nbeq]) _ | (simp [PV.no, PV.noL, optS_no, noL_iff, nbeq] <;> omega)) | (simp at h; obtain ⟨rfl, rfl⟩ := h; exact noL_map (fun _ => by simp [PV.no, PV.noL, noL_iff, nbeq]) _) | (simp at h; obtain ⟨rfl, rfl⟩ := h; simp [PV.no, PV.noL, optS_no, noL_iff, nbeq] <;> omega)⟩⟩) lt0 ?_)
           rintro _ _ ⟨rfl, rfl⟩
           refine ⟨_, _, rfl, ?_⟩
           refine WalkP.step (p := ?pv2542) 8 rfl rfl rfl rfl rfl (⟨_, _, rfl, rfl, _, _, rfl, rfl, rfl⟩) ?hv2542 ?rest2542
           case hv2542 =>
            intro E1 H1 hI1
            refine (V1.build rfl rfl zk_75 pl_75 rfl rfl lt0 ?_)
            exact rfl
           refine WalkP.nil ?_
           refine NodeS.branch [1, 9] inNil rfl rfl rfl ⟨?_, ?_, trivial⟩
           ·
            refine ⟨_, _, _, _, rfl, rfl, rfl, (⟨_, _, rfl, rfl, rfl⟩), fun E1 => ?_⟩
            refine (V1.loadRef (k := 4) rfl rfl tyk_39 rfl rfl rfl rfl rfl lt0 ?_)
            refine ⟨_, _, rfl, ?_⟩
            refine WalkP.nil ?_
            refine NodeS.branch [9] inNil rfl rfl rfl ⟨?_, trivial⟩
            ·
             refine ⟨_, _, _, _, rfl, rfl, rfl, (⟨_, _, rfl, rfl, rfl⟩), fun E1 => ?_⟩
             refine (V1.buildSliceT (f := encEvent) ([(⟨y8.1, y9.1⟩ : Event)] : List Event) rfl rfl esz_39 zk_75 rfl rfl rfl rfl rfl rfl rfl lt0 ?_)
             intro b88
             refine ⟨_, _, rfl, ?_⟩
             refine WalkP.nil ?_
             refine NodeS.fin inNil rfl rfl rfl (⟨_, _, rfl, rfl, _, _, rfl, rfl, _, _, rfl, rfl, _, _, rfl, rfl, rfl⟩) ?_
             refine VO.cons rfl (V1.appendMap (k := 4) (f := encEvent) (l := r_Events) (m := ([(⟨y8.1, y9.1⟩ : Event)] : List Event)) rfl rfl rfl rfl rfl esz_39 eby_39 zk_75 rfl rfl rfl (SrcOf.srMap (k := 0) rfl isl_39) hh10 lt0 ?_)
             intro b89
             refine VO.cons rfl (V1.fieldRef rfl rfl fo_41_3 rfl lt0 ?_)
             refine VO.cons rfl (V1.storeRef (k := 5) rfl rfl tyk_39 rfl rfl rfl rfl rfl rfl rfl rfl rfl ?_)
             refine VO.nil ?_
             exact ⟨(((r_Events ++ ([(⟨y8.1, y9.1⟩ : Event)] : List Event)), y9.2), b89), Option.some.inj hm2, Keeps.mk (ks := [0, 2, 5, 6]) rfl ⟨rfl, rfl, trivial⟩ (⟨_, _, rfl, rfl, _, _, rfl, rfl, _, _, rfl, rfl, _, _, rfl, rfl, rfl⟩) rfl⟩
           ·
            refine ⟨_, _, _, _, rfl, rfl, rfl, (⟨_, _, rfl, rfl, rfl⟩), fun E1 => ?_⟩
            refine (V1.buildSliceT (f := encEvent) ([(⟨y8.1, y9.1⟩ : Event)] : List Event) rfl rfl esz_39 zk_75 rfl rfl rfl rfl rfl rfl rfl lt0 ?_)
            intro b90
            refine ⟨_, _, rfl, ?_⟩
            refine WalkP.nil ?_
            refine NodeS.branch [1] inNil rfl rfl rfl ⟨?_, trivial⟩
            ·
             refine ⟨_, _, _, _, rfl, rfl, rfl, (⟨_, _, rfl, rfl, rfl⟩), fun E1 => ?_⟩
             refine (V1.loadRef (k := 5) rfl rfl tyk_39 rfl rfl rfl rfl rfl lt0 ?_)
             refine ⟨_, _, rfl, ?_⟩
             refine WalkP.nil ?_
             refine NodeS.fin inNil rfl rfl rfl (⟨_, _, rfl, rfl, _, _, rfl, rfl, _, _, rfl, rfl, _, _, rfl, rfl, rfl⟩) ?_
             refine VO.cons rfl (V1.appendMap (k := 4) (f := encEvent) (l := r_Events) (m := ([(⟨y8.1, y9.1⟩ : Event)] : List Event)) rfl rfl rfl rfl rfl esz_39 eby_39 zk_75 rfl rfl rfl (SrcOf.srMap (k := 0) rfl isl_39) hh10 lt0 ?_)
             intro b91
             refine VO.cons rfl (V1.fieldRef rfl rfl fo_41_3 rfl lt0 ?_)
             refine VO.cons rfl (V1.storeRef (k := 5) rfl rfl tyk_39 rfl rfl rfl rfl rfl rfl rfl rfl rfl ?_)
             refine VO.nil ?_
             exact ⟨(((r_Events ++ ([(⟨y8.1, y9.1⟩ : Event)] : List Event)), y9.2), b91), Option.some.inj hm2, Keeps.mk (ks := [0, 2, 5, 6]) rfl ⟨rfl, rfl, trivial⟩ (⟨_, _, rfl, rfl, _, _, rfl, rfl, _, _, rfl, rfl, _, _, rfl, rfl, rfl⟩) rfl⟩
       ·
        refine ⟨_, _, _, _, rfl, rfl, rfl, (rfl), fun E1 => ?_⟩
        refine (V1.buildSliceT (f := encInt) ([(0 : Int), (20000 : Int)] : List Int) rfl rfl esz_24 zk_3 rfl rfl rfl rfl rfl rfl rfl lt0 ?_)
        intro b92
        refine ⟨_, _, rfl, ?_⟩
        refine WalkP.nil ?_
        refine NodeS.branch [1, 3] inNil rfl rfl rfl ⟨?_, ?_, trivial⟩
        ·
         refine ⟨_, _, _, _, rfl, rfl, rfl, (⟨_, _, rfl, rfl, rfl⟩), fun E1 => ?_⟩
         refine (V1.loadRef (k := 3) rfl rfl tyk_39 rfl rfl rfl rfl rfl lt0 ?_)
         refine ⟨_, _, rfl, ?_⟩
         refine WalkP.nil ?_
         refine NodeS.branch [3] inNil rfl rfl rfl ⟨?_, trivial⟩
         ·
          refine ⟨_, _, _, _, rfl, rfl, rfl, (rfl), fun E1 => ?_⟩
          refine (V1.buildSliceT (f := encInt) ([(1 : Int), (9 : Int), (10 : Int)] : List Int) rfl rfl esz_24 zk_3 rfl rfl rfl rfl rfl rfl rfl lt0 ?_)
          intro b93
          refine ⟨_, _, rfl, ?_⟩
          refine WalkP.nil ?_
          refine NodeS.branch [4] inNil rfl rfl rfl ⟨?_, trivial⟩
          ·
           refine ⟨_, _, _, _, rfl, rfl, rfl, (⟨_, _, rfl, rfl, _, _, rfl, rfl, rfl⟩), fun E1 => ?_⟩
           refine (V1.callM 2 (rn + ρ0 + 1) [b93] [.ref bp 3 0 0, .vl (rn + ρ0 + 1) 1 (List.map encInt ([(1 : Int), (9 : Int), (10 : Int)] : List Int))] (p := (bp, ⟨3, [encCur ρ0 y5.2]⟩)) rfl rfl rfl cok_21 rfl rfl ⟨_, _, rfl, .same _, ⟨_, _, rfl, Lend.srMap 0 rfl (fun _ => rfl) (.head _), rfl⟩⟩ (bwCons (k := 0) rfl bwNil) (ok_spec_l1Cur_among hh8) rfl (.inr ⟨(by first | omega | (dsimp only; omega)), by rintro _ _ ⟨rfl, rfl⟩; exact ⟨by simp [PV.no, PV.noL, optS_no, noL_iff, nbeq] <;> omega, by intro b ob h; first | exact optH_no (noL_map (fun _ => by simp [PV.no, PV.noL, noL_iff, nbeq]) _) b ob h | (simp only [List.append_assoc, List.mem_append, List.mem_cons, List.mem_singleton, List.not_mem_nil, or_false, Prod.mk.injEq] at h; rcases h with ⟨rfl, rfl⟩ | ⟨rfl, rfl⟩ <;> first | exact noL_map (fun _ => by simp [PV.no, PV.noL, noL_iff, nbeq]) _ | (simp [PV.no, PV.noL, optS_no, noL_iff, nbeq] <;> omega)) | (simp at h; obtain ⟨rfl, rfl⟩ := h; exact noL_map (fun _ => by simp [PV.no, PV.noL, noL_iff, nbeq]) _) | (simp at h; obtain ⟨rfl, rfl⟩ := h; simp [PV.no, PV.noL, optS_no, noL_iff, nbeq] <;> omega)⟩⟩) lt0 ?_)
           rintro _ _ ⟨rfl, rfl⟩
           refine ⟨_, _, rfl, ?_⟩
           refine WalkP.nil ?_
           refine NodeS.branch [7] inNil rfl rfl rfl ⟨?_, trivial⟩
           ·
            refine ⟨_, _, _, _, rfl, rfl, rfl, (⟨_, _, rfl, rfl, _, _, rfl, rfl, rfl⟩), fun E1 => ?_⟩
            refine (V1.callM 0 (rn + ρ0 + 1) [b92] [.ref bp 3 0 0, .vl (rn + ρ0 + 1) 1 (List.map encInt ([(0 : Int), (20000 : Int)] : List Int))] (p := (bp, ⟨3, [encCur ρ0 y8.2]⟩)) rfl rfl rfl cok_21 rfl rfl ⟨_, _, rfl, .same _, ⟨_, _, rfl, Lend.srMap 2 rfl (fun _ => rfl) (.head _), rfl⟩⟩ (bwCons (k := 1) rfl bwNil) (ok_spec_l1Cur_among hh9) rfl (.inr ⟨(by first | omega | (dsimp only; omega)), by rintro _ _ ⟨rfl, rfl⟩; exact ⟨by simp [PV.no, PV.noL, optS_no, noL_iff, nbeq] <;> omega, by intro b ob h; first | exact optH_no (noL_map (fun _ => by simp [PV.no, PV.noL, noL_iff, nbeq]) _) b ob h | (simp only [List.append_assoc, List.mem_append, List.mem_cons, List.mem_singleton, List.not_mem_nil, or_false, Prod.mk.injEq] at h; rcases h with ⟨rfl, rfl⟩ | ⟨rfl, rfl⟩ <;> first | exact noL_map (fun _ => by simp [PV.no, PV.noL, noL_iff, nbeq]) _ | (simp [PV.no, PV.noL, optS_no, noL_iff, nbeq] <;> omega)) | (simp at h; obtain ⟨rfl, rfl⟩ := h; exact noL_map (fun _ => by simp [PV.no, PV.noL, noL_iff, nbeq]) _) | (simp at h; obtain ⟨rfl, rfl⟩ := h; simp [PV.no, PV.noL, optS_no, noL_iff, nbeq] <;> omega)⟩⟩) lt0 ?_)
            rintro _ _ ⟨rfl, rfl⟩
            refine ⟨_, _, rfl, ?_⟩
            refine WalkP.step (p := ?pv2545) 8 rfl rfl rfl rfl rfl (⟨_, _, rfl, rfl, _, _, rfl, rfl, rfl⟩) ?hv2545 ?rest2545
            case hv2545 =>
             intro E1 H1 hI1
             refine (V1.build rfl rfl zk_75 pl_75 rfl rfl lt0 ?_)
             exact rfl
            refine WalkP.nil ?_
            refine NodeS.branch [9] inNil rfl rfl rfl ⟨?_, trivial⟩
            ·
             refine ⟨_, _, _, _, rfl, rfl, rfl, (⟨_, _, rfl, rfl, rfl⟩), fun E1 => ?_⟩
             refine (V1.buildSliceT (f := encEvent) ([(⟨y8.1, y9.1⟩ : Event)] : List Event) rfl rfl esz_39 zk_75 rfl rfl rfl rfl rfl rfl rfl lt0 ?_)
             intro b94
             refine ⟨_, _, rfl, ?_⟩
             refine WalkP.nil ?_
             refine NodeS.fin inNil rfl rfl rfl (⟨_, _, rfl, rfl, _, _, rfl, rfl, _, _, rfl, rfl, _, _, rfl, rfl, rfl⟩) ?_
             refine VO.cons rfl (V1.appendMap (k := 4) (f := encEvent) (l := r_Events) (m := ([(⟨y8.1, y9.1⟩ : Event)] : List Event)) rfl rfl rfl rfl rfl esz_39 eby_39 zk_75 rfl rfl rfl (SrcOf.srMap (k := 0) rfl isl_39) hh10 lt0 ?_)
             intro b95
             refine VO.cons rfl (V1.fieldRef rfl rfl fo_41_3 rfl lt0 ?_)
             refine VO.cons rfl (V1.storeRef (k := 5) rfl rfl tyk_39 rfl rfl rfl rfl rfl rfl rfl rfl rfl ?_)
             refine VO.nil ?_
             exact ⟨(((r_Events ++ ([(⟨y8.1, y9.1⟩ : Event)] : List Event)), y9.2), b95), Option.some.inj hm2, Keeps.mk (ks := [0, 2, 5, 6]) rfl ⟨rfl, rfl, trivial⟩ (⟨_, _, rfl, rfl, _, _, rfl, rfl, _, _, rfl, rfl, _, _, rfl, rfl, rfl⟩) rfl⟩
        ·
         refine ⟨_, _, _, _, rfl, rfl, rfl, (rfl), fun E1 => ?_⟩
         refine (V1.buildSliceT (f := encInt) ([(1 : Int), (9 : Int), (10 : Int)] : List Int) rfl rfl esz_24 zk_3 rfl rfl rfl rfl rfl rfl rfl lt0 ?_)
         intro b96
         refine ⟨_, _, rfl, ?_⟩
         refine WalkP.nil ?_
         refine NodeS.branch [1, 4] inNil rfl rfl rfl ⟨?_, ?_, trivial⟩
         ·
          refine ⟨_, _, _, _, rfl, rfl, rfl, (⟨_, _, rfl, rfl, rfl⟩), fun E1 => ?_⟩
          refine (V1.loadRef (k := 4) rfl rfl tyk_39 rfl rfl rfl rfl rfl lt0 ?_)
          refine ⟨_, _, rfl, ?_⟩
          refine WalkP.nil ?_
          refine NodeS.branch [4] inNil rfl rfl rfl ⟨?_, trivial⟩
          ·
           refine ⟨_, _, _, _, rfl, rfl, rfl, (⟨_, _, rfl, rfl, _, _, rfl, rfl, rfl⟩), fun E1 => ?_⟩
           refine (V1.callM 2 (rn + ρ0 + 1) [b96] [.ref bp 3 0 0, .vl (rn + ρ0 + 1) 1 (List.map encInt ([(1 : Int), (9 : Int), (10 : Int)] : List Int))] (p := (bp, ⟨3, [encCur ρ0 y5.2]⟩)) rfl rfl rfl cok_21 rfl rfl ⟨_, _, rfl, .same _, ⟨_, _, rfl, Lend.srMap 0 rfl (fun _ => rfl) (.head _), rfl⟩⟩ (bwCons (k := 0) rfl bwNil) (ok_spec_l1Cur_among hh8) rfl (.inr ⟨(by first | omega | (dsimp only; omega)), by rintro _ _ ⟨rfl, rfl⟩; exact ⟨by simp [PV.no, PV.noL, optS_no, noL_iff, nbeq] <;> omega, by intro b ob h; first | exact optH_no (noL_map (fun _ => by simp [PV.no, PV.noL, noL_iff, nbeq]) _) b ob h | (simp only [List.append_assoc, List.mem_append, List.mem_cons, List.mem_singleton, List.not_mem_nil, or_false, Prod.mk.injEq] at h; rcases h with ⟨rfl, rfl⟩ | ⟨rfl, rfl⟩ <;> first | exact noL_map (fun _ => by simp [PV.no, PV.noL, noL_iff, nbeq]) _ | (simp [PV.no, PV.noL, optS_no, noL_iff, nbeq] <;> omega)) | (simp at h; obtain ⟨rfl, rfl⟩ := h; exact noL_map (fun _ => by simp [PV.no, PV.noL, noL_iff, nbeq]) _) | (simp at h; obtain ⟨rfl, rfl⟩ := h; simp [PV.no, PV.noL, optS_no, noL_iff, nbeq] <;> omega)⟩⟩) lt0 ?_)
           rintro _ _ ⟨rfl, rfl⟩
           refine ⟨_, _, rfl, ?_⟩
           refine WalkP.nil ?_
           refine NodeS.branch [7] inNil rfl rfl rfl ⟨?_, trivial⟩
           ·
            refine ⟨_, _, _, _, rfl, rfl, rfl, (⟨_, _, rfl, rfl, _, _, rfl, rfl, rfl⟩), fun E1 => ?_⟩
            refine (V1.callM 0 (rn + ρ0 + 1) [b92] [.ref bp 3 0 0, .vl (rn + ρ0 + 1) 1 (List.map encInt ([(0 : Int), (20000 : Int)] : List Int))] (p := (bp, ⟨3, [encCur ρ0 y8.2]⟩)) rfl rfl rfl cok_21 rfl rfl ⟨_, _, rfl, .same _, ⟨_, _, rfl, Lend.srMap 2 rfl (fun _ => rfl) (.head _), rfl⟩⟩ (bwCons (k := 1) rfl bwNil) (ok_spec_l1Cur_among hh9) rfl (.inr ⟨(by first | omega | (dsimp only; omega)), by rintro _ _ ⟨rfl, rfl⟩; exact ⟨by simp [PV.no, PV.noL, optS_no, noL_iff, nbeq] <;> omega, by intro b ob h; first | exact optH_no (noL_map (fun _ => by simp [PV.no, PV.noL, noL_iff, nbeq]) _) b ob h | (simp only [List.append_assoc, List.mem_append, List.mem_cons, List.mem_singleton, List.not_mem_nil, or_false, Prod.mk.injEq] at h; rcases h with ⟨rfl, rfl⟩ | ⟨rfl, rfl⟩ <;> first | exact noL_map (fun _ => by simp [PV.no, PV.noL, noL_iff, nbeq]) _ | (simp [PV.no, PV.noL, optS_no, noL_iff, nbeq] <;> omega)) | (simp at h; obtain ⟨rfl, rfl⟩ := h; exact noL_map (fun _ => by simp [PV.no, PV.noL, noL_iff, nbeq]) _) | (simp at h; obtain ⟨rfl, rfl⟩ := h; simp [PV.no, PV.noL, optS_no, noL_iff, nbeq] <;> omega)⟩⟩) lt0 ?_)
            rintro _ _ ⟨rfl, rfl⟩
            refine ⟨_, _, rfl, ?_⟩
            refine WalkP.step (p := ?pv2548) 8 rfl rfl rfl rfl rfl (⟨_, _, rfl, rfl, _, _, rfl, rfl, rfl⟩) ?hv2548 ?rest2548
            case hv2548 =>
             intro E1 H1 hI1
             refine (V1.build rfl rfl zk_75 pl_75 rfl rfl lt0 ?_)
             exact rfl
            refine WalkP.nil ?_
            refine NodeS.branch [9] inNil rfl rfl rfl ⟨?_, trivial⟩
            ·
             refine ⟨_, _, _, _, rfl, rfl, rfl, (⟨_, _, rfl, rfl, rfl⟩), fun E1 => ?_⟩
             refine (V1.buildSliceT (f := encEvent) ([(⟨y8.1, y9.1⟩ : Event)] : List Event) rfl rfl esz_39 zk_75 rfl rfl rfl rfl rfl rfl rfl lt0 ?_)
             intro b97
             refine ⟨_, _, rfl, ?_⟩
             refine WalkP.nil ?_
             refine NodeS.fin inNil rfl rfl rfl (⟨_, _, rfl, rfl, _, _, rfl, rfl, _, _, rfl, rfl, _, _, rfl, rfl, rfl⟩) ?_
             refine VO.cons rfl (V1.appendMap (k := 4) (f := encEvent) (l := r_Events) (m := ([(⟨y8.1, y9.1⟩ : Event)] : List Event)) rfl rfl rfl rfl rfl esz_39 eby_39 zk_75 rfl rfl rfl (SrcOf.srMap (k := 0) rfl isl_39) hh10 lt0 ?_)
             intro b98
             refine VO.cons rfl (V1.fieldRef rfl rfl fo_41_3 rfl lt0 ?_)
             refine VO.cons rfl (V1.storeRef (k := 5) rfl rfl tyk_39 rfl rfl rfl rfl rfl rfl rfl rfl rfl ?_)
             refine VO.nil ?_
             exact ⟨(((r_Events ++ ([(⟨y8.1, y9.1⟩ : Event)] : List Event)), y9.2), b98), Option.some.inj hm2, Keeps.mk (ks := [0, 2, 5, 6]) rfl ⟨rfl, rfl, trivial⟩ (⟨_, _, rfl, rfl, _, _, rfl, rfl, _, _, rfl, rfl, _, _, rfl, rfl, rfl⟩) rfl⟩
         ·
          refine ⟨_, _, _, _, rfl, rfl, rfl, (⟨_, _, rfl, rfl, _, _, rfl, rfl, rfl⟩), fun E1 => ?_⟩
          refine (V1.callM 2 (rn + ρ0 + 1) [b96] [.ref bp 3 0 0, .vl (rn + ρ0 + 1) 1 (List.map encInt ([(1 : Int), (9 : Int), (10 : Int)] : List Int))] (p := (bp, ⟨3, [encCur ρ0 y5.2]⟩)) rfl rfl rfl cok_21 rfl rfl ⟨_, _, rfl, .same _, ⟨_, _, rfl, Lend.srMap 0 rfl (fun _ => rfl) (.head _), rfl⟩⟩ (bwCons (k := 0) rfl bwNil) (ok_spec_l1Cur_among hh8) rfl (.inr ⟨(by first | omega | (dsimp only; omega)), by rintro _ _ ⟨rfl, rfl⟩; exact ⟨by simp [PV.no, PV.noL, optS_no, noL_iff, nbeq] <;> omega, by intro b ob h; first | exact optH_no (noL_map (fun _ => by simp [PV.no, PV.noL, noL_iff, nbeq]) _) b ob h | (simp only [List.append_assoc, List.mem_append, List.mem_cons, List.mem_singleton, List.not_mem_nil, or_false, Prod.mk.injEq] at h; rcases h with ⟨rfl, rfl⟩ | ⟨rfl, rfl⟩ <;> first | exact noL_map (fun _ => by simp [PV.no, PV.noL, noL_iff, nbeq]) _ | (simp [PV.no, PV.noL, optS_no, noL_iff, nbeq] <;> omega)) | (simp at h; obtain ⟨rfl, rfl⟩ := h; exact noL_map (fun _ => by simp [PV.no, PV.noL, noL_iff, nbeq]) _) | (simp at h; obtain ⟨rfl, rfl⟩ := h; simp [PV.no, PV.noL, optS_no, noL_iff, nbeq] <;> omega)⟩⟩) lt0 ?_)
          rintro _ _ ⟨rfl, rfl⟩
          refine ⟨_, _, rfl, ?_⟩
          refine WalkP.nil ?_
          refine NodeS.branch [1, 7] inNil rfl rfl rfl ⟨?_, ?_, trivial⟩
          ·
           refine ⟨_, _, _, _, rfl, rfl, rfl, (⟨_, _, rfl, rfl, rfl⟩), fun E1 => ?_⟩
           refine (V1.loadRef (k := 4) rfl rfl tyk_39 rfl rfl rfl rfl rfl lt0 ?_)
           refine ⟨_, _, rfl, ?_⟩
           refine WalkP.nil ?_
           refine NodeS.branch [7] inNil rfl rfl rfl ⟨?_, trivial⟩
           ·
            refine ⟨_, _, _, _, rfl, rfl, rfl, (⟨_, _, rfl, rfl, _, _, rfl, rfl, rfl⟩), fun E1 => ?_⟩
            refine (V1.callM 0 (rn + ρ0 + 1) [b92] [.ref bp 3 0 0, .vl (rn + ρ0 + 1) 1 (List.map encInt ([(0 : Int), (20000 : Int)] : List Int))] (p := (bp, ⟨3, [encCur ρ0 y8.2]⟩)) rfl rfl rfl cok_21 rfl rfl ⟨_, _, rfl, .same _, ⟨_, _, rfl, Lend.srMap 2 rfl (fun _ => rfl) (.head _), rfl⟩⟩ (bwCons (k := 1) rfl bwNil) (ok_spec_l1Cur_among hh9) rfl (.inr ⟨(by first | omega | (dsimp only; omega)), by rintro _ _ ⟨rfl, rfl⟩; exact ⟨by simp [PV.no, PV.noL, optS_no, noL_iff, nbeq] <;> omega, by intro b ob h; first | exact optH_no (noL_map (fun _ => by simp [PV.no, PV.noL, noL_iff, nbeq]) _) b ob h | (simp only [List.append_assoc, List.mem_append, List.mem_cons, List.mem_singleton, List.not_mem_nil, or_false, Prod.mk.injEq] at h; rcases h with ⟨rfl, rfl⟩ | ⟨rfl, rfl⟩ <;> first | exact noL_map (fun _ => by simp [PV.no, PV.noL, noL_iff, nbeq]) _ | (simp [PV.no, PV.noL, optS_no, noL_iff, nbeq] <;> omega)) | (simp at h; obtain ⟨rfl, rfl⟩ := h; exact noL_map (fun _ => by simp [PV.no, PV.noL, noL_iff, nbeq]) _) | (simp at h; obtain ⟨rfl, rfl⟩ := h; simp [PV.no, PV.noL, optS_no, noL_iff, nbeq] <;> omega)⟩⟩) lt0 ?_)
            rintro _ _ ⟨rfl, rfl⟩
            refine ⟨_, _, rfl, ?_⟩
            refine WalkP.step (p := ?pv2551) 8 rfl rfl rfl rfl rfl (⟨_, _, rfl, rfl, _, _, rfl, rfl, rfl⟩) ?hv2551 ?rest2551
            case hv2551 =>
             intro E1 H1 hI1
             refine (V1.build rfl rfl zk_75 pl_75 rfl rfl lt0 ?_)
             exact rfl
            refine WalkP.nil ?_
            refine NodeS.branch [9] inNil rfl rfl rfl ⟨?_, trivial⟩
            ·
             refine ⟨_, _, _, _, rfl, rfl, rfl, (⟨_, _, rfl, rfl, rfl⟩), fun E1 => ?_⟩
             refine (V1.buildSliceT (f := encEvent) ([(⟨y8.1, y9.1⟩ : Event)] : List Event) rfl rfl esz_39 zk_75 rfl rfl rfl rfl rfl rfl rfl lt0 ?_)
             intro b99
             refine ⟨_, _, rfl, ?_⟩
             refine WalkP.nil ?_
             refine NodeS.fin inNil rfl rfl rfl (⟨_, _, rfl, rfl, _, _, rfl, rfl, _, _, rfl, rfl, _, _, rfl, rfl, rfl⟩) ?_
             refine VO.cons rfl (V1.appendMap (k := 4) (f := encEvent) (l := r_Events) (m := ([(⟨y8.1, y9.1⟩ : Event)] : List Event)) rfl rfl rfl rfl rfl esz_39 eby_39 zk_75 rfl rfl rfl (SrcOf.srMap (k := 0) rfl isl_39) hh10 lt0 ?_)
             intro b100
             refine VO.cons rfl (V1.fieldRef rfl rfl fo_41_3 rfl lt0 ?_)
             refine VO.cons rfl (V1.storeRef (k := 5) rfl rfl tyk_39 rfl rfl rfl rfl rfl rfl rfl rfl rfl ?_)
             refine VO.nil ?_
             exact ⟨(((r_Events ++ ([(⟨y8.1, y9.1⟩ : Event)] : List Event)), y9.2), b100), Option.some.inj hm2, Keeps.mk (ks := [0, 2, 5, 6]) rfl ⟨rfl, rfl, trivial⟩ (⟨_, _, rfl, rfl, _, _, rfl, rfl, _, _, rfl, rfl, _, _, rfl, rfl, rfl⟩) rfl⟩
          ·
           refine ⟨_, _, _, _, rfl, rfl, rfl, (⟨_, _, rfl, rfl, _, _, rfl, rfl, rfl⟩), fun E1 => ?_⟩
           refine (V1.callM 0 (rn + ρ0 + 1) [b92] [.ref bp 3 0 0, .vl (rn + ρ0 + 1) 1 (List.map encInt ([(0 : Int), (20000 : Int)] : List Int))] (p := (bp, ⟨3, [encCur ρ0 y8.2]⟩)) rfl rfl rfl cok_21 rfl rfl ⟨_, _, rfl, .same _, ⟨_, _, rfl, Lend.srMap 2 rfl (fun _ => rfl) (.head _), rfl⟩⟩ (bwCons (k := 1) rfl bwNil) (ok_spec_l1Cur_among hh9) rfl (.inr ⟨(by first | omega | (dsimp only; omega)), by rintro _ _ ⟨rfl, rfl⟩; exact ⟨by simp [PV.no, PV.noL, optS_no, noL_iff, nbeq] <;> omega, by intro b ob h; first | exact optH_no (noL_map (fun _ => by simp [PV.no, PV.noL, noL_iff, nbeq]) _) b ob h | (simp only [List.append_assoc, List.mem_append, List.mem_cons, List.mem_singleton, List.not_mem_nil, or_false, Prod.mk.injEq] at h; rcases h with ⟨rfl, rfl⟩ | ⟨rfl, rfl⟩ <;> first | exact noL_map (fun _ => by simp [PV.no, PV.noL, noL_iff, nbeq]) _ | (simp [PV.no, PV.noL, optS_no, noL_iff, nbeq] <;> omega)) | (simp at h; obtain ⟨rfl, rfl⟩ := h; exact noL_map (fun _ => by simp [PV.no, PV.noL, noL_iff, nbeq]) _) | (simp at h; obtain ⟨rfl, rfl⟩ := h; simp [PV.no, PV.noL, optS_no, noL_iff, nbeq] <;> omega)⟩⟩) lt0 ?_)
           rintro _ _ ⟨rfl, rfl⟩
           refine ⟨_, _, rfl, ?_⟩
           refine WalkP.step (p := ?pv2553) 8 rfl rfl rfl rfl rfl (⟨_, _, rfl, rfl, _, _, rfl, rfl, rfl⟩) ?hv2553 ?rest2553
           case hv2553 =>
            intro E1 H1 hI1
            refine (V1.build rfl rfl zk_75 pl_75 rfl rfl lt0 ?_)
            exact rfl
           refine WalkP.nil ?_
           refine NodeS.branch [1, 9] inNil rfl rfl rfl ⟨?_, ?_, trivial⟩
           ·
            refine ⟨_, _, _, _, rfl, rfl, rfl, (⟨_, _, rfl, rfl, rfl⟩), fun E1 => ?_⟩
            refine (V1.loadRef (k := 4) rfl rfl tyk_39 rfl rfl rfl rfl rfl lt0 ?_)
            refine ⟨_, _, rfl, ?_⟩
            refine WalkP.nil ?_
            refine NodeS.branch [9] inNil rfl rfl rfl ⟨?_, trivial⟩
            ·
             refine ⟨_, _, _, _, rfl, rfl, rfl, (⟨_, _, rfl, rfl, rfl⟩), fun E1 => ?_⟩
             refine (V1.buildSliceT (f := encEvent) ([(⟨y8.1, y9.1⟩ : Event)] : List Event) rfl rfl esz_39 zk_75 rfl rfl rfl rfl rfl rfl rfl lt0 ?_)
             intro b101
             refine ⟨_, _, rfl, ?_⟩
             refine WalkP.nil ?_
             refine NodeS.fin inNil rfl rfl rfl (⟨_, _, rfl, rfl, _, _, rfl, rfl, _, _, rfl, rfl, _, _, rfl, rfl, rfl⟩) ?_
             refine VO.cons rfl (V1.appendMap (k := 4) (f := encEvent) (l := r_Events) (m := ([(⟨y8.1, y9.1⟩ : Event)] : List Event)) rfl rfl rfl rfl rfl esz_39 eby_39 zk_75 rfl rfl rfl (SrcOf.srMap (k := 0) rfl isl_39) hh10 lt0 ?_)
             intro b102
             refine VO.cons rfl (V1.fieldRef rfl rfl fo_41_3 rfl lt0 ?_)
             refine VO.cons rfl (V1.storeRef (k := 5) rfl rfl tyk_39 rfl rfl rfl rfl rfl rfl rfl rfl rfl ?_)
             refine VO.nil ?_
             exact ⟨(((r_Events ++ ([(⟨y8.1, y9.1⟩ : Event)] : List Event)), y9.2), b102), Option.some.inj hm2, Keeps.mk (ks := [0, 2, 5, 6]) rfl ⟨rfl, rfl, trivial⟩ (⟨_, _, rfl, rfl, _, _, rfl, rfl, _, _, rfl, rfl, _, _, rfl, rfl, rfl⟩) rfl⟩
           ·
            refine ⟨_, _, _, _, rfl, rfl, rfl, (⟨_, _, rfl, rfl, rfl⟩), fun E1 => ?_⟩
            refine (V1.buildSliceT (f := encEvent) ([(⟨y8.1, y9.1⟩ : Event)] : List Event) rfl rfl esz_39 zk_75 rfl rfl rfl rfl rfl rfl rfl lt0 ?_)
            intro b103
            refine ⟨_, _, rfl, ?_⟩
            refine WalkP.nil ?_
            refine NodeS.branch [1] inNil rfl rfl rfl ⟨?_, trivial⟩
            ·
             refine ⟨_, _, _, _, rfl, rfl, rfl, (⟨_, _, rfl, rfl, rfl⟩), fun E1 => ?_⟩
             refine (V1.loadRef (k := 5) rfl rfl tyk_39 rfl rfl rfl rfl rfl lt0 ?_)
             refine ⟨_, _, rfl, ?_⟩
             refine WalkP.nil ?_
             refine NodeS.fin inNil rfl rfl rfl (⟨_, _, rfl, rfl, _, _, rfl, rfl, _, _, rfl, rfl, _, _, rfl, rfl, rfl⟩) ?_
             refine VO.cons rfl (V1.appendMap (k := 4) (f := encEvent) (l := r_Events) (m := ([(⟨y8.1, y9.1⟩ : Event)] : List Event)) rfl rfl rfl rfl rfl esz_39 eby_39 zk_75 rfl rfl rfl (SrcOf.srMap (k := 0) rfl isl_39) hh10 lt0 ?_)
             intro b104
             refine VO.cons rfl (V1.fieldRef rfl rfl fo_41_3 rfl lt0 ?_)
             refine VO.cons rfl (V1.storeRef (k := 5) rfl rfl tyk_39 rfl rfl rfl rfl rfl rfl rfl rfl rfl ?_)
             refine VO.nil ?_
             exact ⟨(((r_Events ++ ([(⟨y8.1, y9.1⟩ : Event)] : List Event)), y9.2), b104), Option.some.inj hm2, Keeps.mk (ks := [0, 2, 5, 6]) rfl ⟨rfl, rfl, trivial⟩ (⟨_, _, rfl, rfl, _, _, rfl, rfl, _, _, rfl, rfl, _, _, rfl, rfl, rfl⟩) rfl⟩
      ·
       rintro ⟨⟨r_Events4, o⟩, b54⟩ rfl
       try dsimp only at hm1
       exact ⟨((y0.1, y1.1, r_Events4, o), b54), Option.some.inj hm1, Keeps.mk (ks := [0, 1, 2, 3]) rfl ⟨rfl, rfl, trivial⟩ (⟨_, _, rfl, rfl, _, _, rfl, rfl, _, _, rfl, rfl, _, _, rfl, rfl, rfl⟩) rfl⟩
     ·
      replace hm1 := cond_f hc4 hm1
      refine V.skip ?_
      exact ⟨((y0.1, y1.1, r_Events, y5.2), b5), Option.some.inj hm1, Keeps.mk (ks := [1, 0, 2, 3]) rfl ⟨rfl, rfl, trivial⟩ (⟨_, _, rfl, rfl, _, _, rfl, rfl, _, _, rfl, rfl, _, _, rfl, rfl, rfl⟩) rfl⟩
  ·
   rintro ⟨⟨r_Series, r_Made, r_Events3, c_3⟩, b47⟩ rfl
   try dsimp only at hm0
   refine V.seq ?_
   refine V.region ?_
   refine VO.cons rfl (V1.loadRefAll (k := 2) rfl rfl tyk_41 rfl rfl rfl rfl rfl lt0 ?_)
   refine VO.cons rfl (V1.storeRefAll (k := 3) rfl rfl tyk_41 rfl rfl rfl rfl rfl rfl ?_)
   refine VO.nil ?_
   refine V.weakenK (Keeps.freezeG 0 rn [(63, .agg [.int .i64 id_, .int .i64 r_Series, .int .i64 r_Made, .vl rn 2 (List.map encEvent r_Events3)])] ([(bp, ⟨3, [encCur ρ0 c_3]⟩), (b4, ⟨4, [.agg [.int .i64 id_, .int .i64 r_Series, .int .i64 r_Made, .vl rn 2 (List.map encEvent r_Events3)]]⟩), (b0, ⟨4, [.agg [.int .i64 id_, .int .i64 r_Series, .int .i64 r_Made, .vl rn 2 (List.map encEvent r_Events3)]]⟩)]) (f := encEvent) (l := r_Events3) rfl (fun _ => rfl) ⟨⟨_, rfl, (.agg (.cons .same (.cons .same (.cons .same (.cons .here .nil)))))⟩, trivial⟩ ⟨_, _, rfl, rfl, .inl rfl, ⟨_, _, rfl, rfl, .inr (.cons (.agg (.cons .same (.cons .same (.cons .same (.cons .here .nil))))) .nil), ⟨_, _, rfl, rfl, .inr (.cons (.agg (.cons .same (.cons .same (.cons .same (.cons .here .nil))))) .nil), rfl⟩⟩⟩ rfl (iOne (b := bp) 0 rfl)) ?_
   refine V.ret ?_
   obtain rfl := Option.some.inj hm0
   exact ⟨_, _, ⟨_, _, rfl, ⟨_, _, 2, _, rfl, rfl, rfl, rfl, tyk_41, rfl⟩, rfl⟩, (sub1 (k := 0) rfl), rfl, rfl⟩

theorem ok_spec_l1Cur_held {ρ0 rn bp : Nat} {c : Cur} {r : List Record × Cur} (h : M.spec_l1Cur_held c = some r) : Does Try.prog 31 [.ref bp 3 0 0] [(bp, ⟨3, [encCur ρ0 c]⟩)] rn (fun x H => ∃ (ob0_ : Nat), x = PV.sref ob0_ 4 0 (List.length r.1) ∧ H = [(ob0_, ⟨4, List.map (encRecord rn) r.1⟩)] ++ [(bp, ⟨3, [encCur ρ0 r.2]⟩)]) := by
 have hm0 := h; clear h; unfold M.spec_l1Cur_held at hm0
 try dsimp only at hm0
 refine Does.intro (N := 48) Try.func31 rfl rfl rfl rfl ?_
 intro w0 S0 L0
 refine V.seq ?_
 refine V.region ?_
 refine VO.cons rfl (V1.assign rfl rfl rfl lt0 ?_)
 refine VO.nil ?_
 refine V.seq ?_
 refine V.region ?_
 refine VO.cons rfl (V1.buildSliceT (f := (encRecord rn)) ([] : List Record) rfl rfl esz_34 zk_41 rfl rfl rfl rfl rfl rfl rfl lt0 ?_)
 intro b0
 refine VO.cons rfl (V1.assign rfl rfl rfl lt0 ?_)
 refine VO.nil ?_
 refine V.seq ?_
 refine V.seq ?_
 refine V.region ?_
 refine VO.cons rfl (V1.assign rfl rfl rfl lt0 ?_)
 refine VO.nil ?_
 replace hm0 := bindO hm0; rcases hm0 with ⟨e0, he1, hm0⟩
 refine V.cutT (D := (List Record × Cur) × (Nat)) (fun ⟨⟨list, c_⟩, b1⟩ => ⟨48, [(3, .sref b1 4 0 (List.length list)), (0, .ref bp 3 0 0)], [(b1, ⟨4, List.map (encRecord rn) list⟩), (bp, ⟨3, [encCur ρ0 c_]⟩)]⟩) (fun ⟨⟨list, c_⟩, b1⟩ => ((list, c_) = e0)) ?_ ?_
 ·
  refine V.block ?_
  refine V.keep 48 [3, 4, 0] [0, 1] (E0 := [(3, .sref b0 4 0 (List.length ([] : List Record))), (4, .int .i64 (1 : Int)), (0, .ref bp 3 0 0)]) (H0 := [(b0, ⟨4, List.map (encRecord rn) ([] : List Record)⟩), (bp, ⟨3, [encCur ρ0 c]⟩)]) rfl (⟨_, _, rfl, rfl, _, _, rfl, rfl, _, _, rfl, rfl, rfl⟩) (⟨_, _, rfl, rfl, _, _, rfl, rfl, rfl⟩) rfl ?_
  refine V.loopE (D := Nat × (List Record × Int × Cur) × (Nat)) (fun ⟨n0, ⟨list0, n_, c_0⟩, b2⟩ => [(3, .sref b2 4 0 (List.length list0)), (4, .int .i64 n_)]) (fun ⟨n0, ⟨list0, n_, c_0⟩, b2⟩ => [(b2, ⟨4, List.map (encRecord rn) list0⟩), (bp, ⟨3, [encCur ρ0 c_0]⟩)]) (fun ⟨n0, ⟨list0, n_, c_0⟩, b2⟩ => loopO (M.spec_l1Cur_held_l0) n0 (list0, n_, c_0) = some e0) (fun ⟨n0, _, _⟩ => n0) (rounds, (([] : List Record), (1 : Int), c), b0) rfl he1 ?_
  rintro ⟨n0, ⟨list0, n_, c_0⟩, b2⟩ hP0
  obtain ⟨m0, y0, rfl, hm1, hl1, hr1⟩ := loop_head hP0
  unfold M.spec_l1Cur_held_l0 at hm1; dsimp only at hm1
  show V _ _ _ ⟨48, [(3, .sref b2 4 0 (List.length list0)), (4, .int .i64 n_), (0, .ref bp 3 0 0)], [(b2, ⟨4, List.map (encRecord rn) list0⟩), (bp, ⟨3, [encCur ρ0 c_0]⟩)]⟩
  refine V.seq ?_
  refine V.seq ?_
  refine V.region ?_
  refine VO.cons rfl (V1.move rfl rfl rfl lt0 ?_)
  refine VO.cons rfl (V1.int rfl rfl rfl rfl rfl lt0 ?_)
  refine VO.nil ?_
  refine V.cond rfl (fun hc0 => ?_) (fun hc0 => ?_)
  ·
   replace hm1 := cond_t hc0 hm1
   refine V.skip ?_
   refine V.seq ?_
   replace hm1 := bindO hm1; rcases hm1 with ⟨j0, hm2, hm1⟩
   refine V.cutT (D := (List Record × Cur) × (Nat)) (fun ⟨⟨list1, c_1⟩, b3⟩ => ⟨48, [(3, .sref b3 4 0 (List.length list1)), (0, .ref bp 3 0 0), (4, .int .i64 n_)], [(b3, ⟨4, List.map (encRecord rn) list1⟩), (bp, ⟨3, [encCur ρ0 c_1]⟩)]⟩) (fun ⟨⟨list1, c_1⟩, b3⟩ => ((list1, c_1) = j0)) ?_ ?_
   ·
    refine V.block ?_
    refine V.seq ?_
    replace hm2 := bindO hm2; rcases hm2 with ⟨y1, hh0, hm2⟩
    refine V.region ?_
    refine VO.cons rfl (V1.move rfl rfl rfl lt0 ?_)
    refine VO.cons rfl (V1.callM 1 (rn + ρ0 + 1) [] [.ref bp 3 0 0, .int .i64 (2 : Int)] (p := (bp, ⟨3, [encCur ρ0 c_0]⟩)) rfl rfl rfl cok_49 rfl rfl ⟨_, _, rfl, .same _, ⟨_, _, rfl, .same _, rfl⟩⟩ bwNil (ok_spec_l1Cur_one hh0) rfl (.inl rfl) lt0 ?_)
    rintro _ _ ⟨rfl, rfl⟩
    refine VO.nil ?_
    refine V.cond rfl (fun hc1 => ?_) (fun hc1 => ?_)
    ·
     replace hm2 := cond_t hc1 hm2
     replace hm2 := bindO hm2; rcases hm2 with ⟨y2, hh1, hm2⟩
     replace hm2 := asrt_some hm2; rcases hm2 with ⟨hh2, hm2⟩
     refine V.region ?_
     refine VO.cons rfl (V1.move rfl rfl rfl lt0 ?_)
     refine VO.cons rfl (V1.move rfl rfl rfl lt0 ?_)
     refine VO.cons rfl (V1.move rfl rfl rfl lt0 ?_)
     refine VO.cons rfl (V1.int rfl rfl rfl rfl rfl lt0 ?_)
     refine VO.cons rfl (V1.callM 0 (rn + ρ0 + 1) [] [.ref bp 3 0 0, .int .i64 (IntKind.i64.wrap ((11 : Int) * n_))] (p := (bp, ⟨3, [encCur ρ0 y1.2]⟩)) rfl rfl rfl cok_50 rfl rfl ⟨_, _, rfl, .same _, ⟨_, _, rfl, .same _, rfl⟩⟩ bwNil (ok_spec_l1Cur_record hh1) rfl (.inl rfl) lt0 ?_)
     rintro _ _ ⟨rfl, rfl⟩
     refine VO.cons rfl (V1.buildSliceT (f := (encRecord rn)) ([y2.1] : List Record) rfl rfl esz_34 zk_41 rfl rfl rfl rfl rfl rfl rfl lt0 ?_)
     intro b4
     refine VO.cons rfl (V1.appendMap (k := 2) (f := (encRecord rn)) (l := list0) (m := ([y2.1] : List Record)) rfl rfl rfl rfl rfl esz_34 eby_34 zk_41 rfl rfl rfl (SrcOf.srMap (k := 0) rfl isl_34) hh2 lt0 ?_)
     intro b5
     refine VO.cons rfl (V1.assign rfl rfl rfl lt0 ?_)
     refine VO.nil ?_
     exact ⟨(((list0 ++ ([y2.1] : List Record)), y2.2), b5), Option.some.inj hm2, Keeps.mk (ks := [0, 2]) rfl ⟨rfl, rfl, rfl, trivial⟩ (⟨_, _, rfl, rfl, _, _, rfl, rfl, rfl⟩) rfl⟩
    ·
     replace hm2 := cond_f hc1 hm2
     refine V.skip ?_
     exact ⟨((list0, y1.2), b2), Option.some.inj hm2, Keeps.mk (ks := [1, 0]) rfl ⟨rfl, rfl, rfl, trivial⟩ (⟨_, _, rfl, rfl, _, _, rfl, rfl, rfl⟩) rfl⟩
   ·
    rintro ⟨⟨list1, c_1⟩, b3⟩ rfl
    try dsimp only at hm1
    refine V.region ?_
    refine VO.cons rfl (V1.move rfl rfl rfl lt0 ?_)
    refine VO.cons rfl (V1.int rfl rfl rfl rfl rfl lt0 ?_)
    refine VO.cons rfl (V1.assign rfl rfl rfl lt0 ?_)
    refine VO.nil ?_
    exact ⟨(m0, (list1, (IntKind.i64.wrap (n_ + (1 : Int))), c_1), b3), hl1 _ (Option.some.inj hm1).symm, Nat.lt_succ_self _, Keeps.mk (ks := [0, 1]) rfl ⟨rfl, rfl, rfl, trivial⟩ (⟨_, _, rfl, rfl, _, _, rfl, rfl, rfl⟩) rfl⟩
  ·
   replace hm1 := cond_f hc0 hm1
   refine V.exit ?_
   obtain rfl := hr1 _ (Option.some.inj hm1).symm
   exact ⟨((list0, c_0), b2), rfl, Keeps.mk (ks := [0, 1]) rfl ⟨rfl, rfl, trivial⟩ (⟨_, _, rfl, rfl, _, _, rfl, rfl, rfl⟩) rfl⟩
 ·
  rintro ⟨⟨list, c_⟩, b1⟩ rfl
  try dsimp only at hm0
  refine V.seq ?_
  refine V.seq ?_
  replace hm0 := bindO hm0; rcases hm0 with ⟨y3, hh3, hm0⟩
  refine V.region ?_
  refine VO.cons rfl (V1.move rfl rfl rfl lt0 ?_)
  refine VO.cons rfl (V1.callM 1 (rn + ρ0 + 1) [] [.ref bp 3 0 0, .int .i64 (32 : Int)] (p := (bp, ⟨3, [encCur ρ0 c_]⟩)) rfl rfl rfl cok_23 rfl rfl ⟨_, _, rfl, .same _, ⟨_, _, rfl, .same _, rfl⟩⟩ bwNil (ok_spec_l1Cur_pick hh3) rfl (.inl rfl) lt0 ?_)
  rintro _ _ ⟨rfl, rfl⟩
  refine VO.nil ?_
  replace hm0 := bindO hm0; rcases hm0 with ⟨j1, hm1, hm0⟩
  refine V.cutT (D := (List Record × Cur) × (Nat)) (fun ⟨⟨list2, c_2⟩, b6⟩ => ⟨48, [(3, .sref b6 4 0 (List.length list2))], [(b6, ⟨4, List.map (encRecord rn) list2⟩), (bp, ⟨3, [encCur ρ0 c_2]⟩)]⟩) (fun ⟨⟨list2, c_2⟩, b6⟩ => ((list2, c_2) = j1)) ?_ ?_
  ·
   refine V.block ?_
   refine V.seq ?_
   refine V.region ?_
   refine VO.cons rfl (V1.int rfl rfl rfl rfl rfl lt0 ?_)
   refine VO.cons rfl (V1.assign rfl rfl rfl lt0 ?_)
   refine VO.nil ?_
   refine V.cond rfl (fun hc2 => ?_) (fun hc2 => ?_)
   ·
    replace hm1 := cond_t hc2 hm1
    replace hm1 := bindO hm1; rcases hm1 with ⟨y4, hh4, hm1⟩
    replace hm1 := bindO hm1; rcases hm1 with ⟨y5, hh5, hm1⟩
    replace hm1 := asrt_some hm1; rcases hm1 with ⟨hh6, hm1⟩
    refine V.region ?_
    refine VO.cons rfl (V1.move rfl rfl rfl lt0 ?_)
    refine VO.cons rfl (V1.move rfl rfl rfl lt0 ?_)
    refine VO.cons rfl (V1.move rfl rfl rfl lt0 ?_)
    refine VO.cons rfl (V1.buildSliceT (f := encInt) ([(0 : Int), (11 : Int), (999 : Int), (1000 : Int)] : List Int) rfl rfl esz_24 zk_3 rfl rfl rfl rfl rfl rfl rfl lt0 ?_)
    intro b7
    refine VO.cons rfl (V1.callM 1 (rn + ρ0 + 1) [b7] [.ref bp 3 0 0, .vl (rn + ρ0 + 1) 1 (List.map encInt ([(0 : Int), (11 : Int), (999 : Int), (1000 : Int)] : List Int))] (p := (bp, ⟨3, [encCur ρ0 y3.2]⟩)) rfl rfl rfl cok_21 rfl rfl ⟨_, _, rfl, .same _, ⟨_, _, rfl, Lend.srMap 0 rfl (fun _ => rfl) (.head _), rfl⟩⟩ (bwCons (k := 0) rfl bwNil) (ok_spec_l1Cur_among hh4) rfl (.inr ⟨(by first | omega | (dsimp only; omega)), by rintro _ _ ⟨rfl, rfl⟩; exact ⟨by simp [PV.no, PV.noL, optS_no, noL_iff, nbeq] <;> omega, by intro b ob h; first | exact optH_no (noL_map (fun _ => by simp [PV.no, PV.noL, noL_iff, nbeq]) _) b ob h | (simp only [List.append_assoc, List.mem_append, List.mem_cons, List.mem_singleton, List.not_mem_nil, or_false, Prod.mk.injEq] at h; rcases h with ⟨rfl, rfl⟩ | ⟨rfl, rfl⟩ <;> first | exact noL_map (fun _ => by simp [PV.no, PV.noL, noL_iff, nbeq]) _ | (simp [PV.no, PV.noL, optS_no, noL_iff, nbeq] <;> omega)) | (simp at h; obtain ⟨rfl, rfl⟩ := h; exact noL_map (fun _ => by simp [PV.no, PV.noL, noL_iff, nbeq]) _) | (simp at h; obtain ⟨rfl, rfl⟩ := h; simp [PV.no, PV.noL, optS_no, noL_iff, nbeq] <;> omega)⟩⟩) lt0 ?_)
    rintro _ _ ⟨rfl, rfl⟩
    refine VO.cons rfl (V1.callM 0 (rn + ρ0 + 1) [] [.ref bp 3 0 0, .int .i64 y4.1] (p := (bp, ⟨3, [encCur ρ0 y4.2]⟩)) rfl rfl rfl cok_50 rfl rfl ⟨_, _, rfl, .same _, ⟨_, _, rfl, .same _, rfl⟩⟩ bwNil (ok_spec_l1Cur_record hh5) rfl (.inl rfl) lt0 ?_)
    rintro _ _ ⟨rfl, rfl⟩
    refine VO.cons rfl (V1.buildSliceT (f := (encRecord rn)) ([y5.1] : List Record) rfl rfl esz_34 zk_41 rfl rfl rfl rfl rfl rfl rfl lt0 ?_)
    intro b8
    refine VO.cons rfl (V1.appendMap (k := 3) (f := (encRecord rn)) (l := list) (m := ([y5.1] : List Record)) rfl rfl rfl rfl rfl esz_34 eby_34 zk_41 rfl rfl rfl (SrcOf.srMap (k := 0) rfl isl_34) hh6 lt0 ?_)
    intro b9
    refine VO.cons rfl (V1.assign rfl rfl rfl lt0 ?_)
    refine VO.nil ?_
    exact ⟨(((list ++ ([y5.1] : List Record)), y5.2), b9), Option.some.inj hm1, Keeps.mk (ks := [0, 2]) rfl ⟨rfl, trivial⟩ (⟨_, _, rfl, rfl, _, _, rfl, rfl, rfl⟩) rfl⟩
   ·
    replace hm1 := cond_f hc2 hm1
    refine V.seq ?_
    refine V.region ?_
    refine VO.cons rfl (V1.int rfl rfl rfl rfl rfl lt0 ?_)
    refine VO.cons rfl (V1.assign rfl rfl rfl lt0 ?_)
    refine VO.nil ?_
    refine V.keep 48 [0, 3, 31] [0, 1] (E0 := [(0, .ref bp 3 0 0), (3, .sref b1 4 0 (List.length list)), (31, .bool (y3.1 == (1 : Int)))]) (H0 := [(bp, ⟨3, [encCur ρ0 y3.2]⟩), (b1, ⟨4, List.map (encRecord rn) list⟩)]) rfl (⟨_, _, rfl, rfl, _, _, rfl, rfl, _, _, rfl, rfl, rfl⟩) (⟨_, _, rfl, rfl, _, _, rfl, rfl, rfl⟩) rfl ?_
    refine V.cond rfl (fun hc3 => ?_) (fun hc3 => ?_)
    ·
     replace hm1 := cond_t hc3 hm1
     replace hm1 := bindO hm1; rcases hm1 with ⟨e1, he2, hm1⟩
     refine V.cutT (D := (List Record × Cur) × (Nat)) (fun ⟨⟨list3, c_3⟩, b10⟩ => ⟨48, [(3, .sref b10 4 0 (List.length list3))], [(b10, ⟨4, List.map (encRecord rn) list3⟩), (bp, ⟨3, [encCur ρ0 c_3]⟩)]⟩) (fun ⟨⟨list3, c_3⟩, b10⟩ => ((list3, c_3) = e1)) ?_ ?_
     ·
      refine V.block ?_
      refine V.keep 48 [3, 0] [1, 0] (E0 := [(3, .sref b1 4 0 (List.length list)), (0, .ref bp 3 0 0)]) (H0 := [(b1, ⟨4, List.map (encRecord rn) list⟩), (bp, ⟨3, [encCur ρ0 y3.2]⟩)]) rfl (⟨_, _, rfl, rfl, _, _, rfl, rfl, rfl⟩) (⟨_, _, rfl, rfl, _, _, rfl, rfl, rfl⟩) rfl ?_
      refine V.loopE (D := Nat × (List Record × Cur) × (Nat)) (fun ⟨n1, ⟨list4, c_4⟩, b11⟩ => [(3, .sref b11 4 0 (List.length list4))]) (fun ⟨n1, ⟨list4, c_4⟩, b11⟩ => [(b11, ⟨4, List.map (encRecord rn) list4⟩), (bp, ⟨3, [encCur ρ0 c_4]⟩)]) (fun ⟨n1, ⟨list4, c_4⟩, b11⟩ => loopO (M.spec_l1Cur_held_l1) n1 (list4, c_4) = some e1) (fun ⟨n1, _, _⟩ => n1) (rounds, (list, y3.2), b1) rfl he2 ?_
      rintro ⟨n1, ⟨list4, c_4⟩, b11⟩ hP1
      obtain ⟨m1, y6, rfl, hm2, hl2, hr2⟩ := loop_head hP1
      unfold M.spec_l1Cur_held_l1 at hm2; dsimp only at hm2
      show V _ _ _ ⟨48, [(3, .sref b11 4 0 (List.length list4)), (0, .ref bp 3 0 0)], [(b11, ⟨4, List.map (encRecord rn) list4⟩), (bp, ⟨3, [encCur ρ0 c_4]⟩)]⟩
      refine V.seq ?_
      refine V.seq ?_
      replace hm2 := bindO hm2; rcases hm2 with ⟨y7, hh7, hm2⟩
      refine V.region ?_
      refine VO.cons rfl (V1.move rfl rfl rfl lt0 ?_)
      refine VO.cons rfl (V1.lenSref rfl rfl rfl rfl rfl rfl isl_34 lt0 ?_)
      refine VO.cons rfl (V1.move rfl rfl rfl lt0 ?_)
      refine VO.cons rfl (V1.callM 1 (rn + ρ0 + 1) [] [.ref bp 3 0 0, .int .i64 (2 : Int)] (p := (bp, ⟨3, [encCur ρ0 c_4]⟩)) rfl rfl rfl cok_23 rfl rfl ⟨_, _, rfl, .same _, ⟨_, _, rfl, .same _, rfl⟩⟩ bwNil (ok_spec_l1Cur_pick hh7) rfl (.inl rfl) lt0 ?_)
      rintro _ _ ⟨rfl, rfl⟩
      refine VO.cons rfl (V1.int rfl rfl rfl rfl rfl lt0 ?_)
      refine VO.cons rfl (V1.int rfl rfl rfl rfl rfl lt0 ?_)
      refine VO.nil ?_
      refine V.keep 48 [0, 3, 38] [0, 1] (E0 := [(0, .ref bp 3 0 0), (3, .sref b11 4 0 (List.length list4)), (38, .bool (decide ((list4.length : Int) < (IntKind.i64.wrap ((10 : Int) + y7.1)))))]) (H0 := [(bp, ⟨3, [encCur ρ0 y7.2]⟩), (b11, ⟨4, List.map (encRecord rn) list4⟩)]) rfl (⟨_, _, rfl, rfl, _, _, rfl, rfl, _, _, rfl, rfl, rfl⟩) (⟨_, _, rfl, rfl, _, _, rfl, rfl, rfl⟩) rfl ?_
      refine V.cond rfl (fun hc4 => ?_) (fun hc4 => ?_)
      ·
       replace hm2 := cond_t hc4 hm2
       refine V.skip ?_
       refine V.block ?_
       replace hm2 := asrt_some hm2; rcases hm2 with ⟨hh8, hm2⟩
       refine V.region ?_
       refine VO.cons rfl (V1.move rfl rfl rfl lt0 ?_)
       refine VO.cons rfl (V1.move rfl rfl rfl lt0 ?_)
       refine VO.cons rfl (V1.lenSref rfl rfl rfl rfl rfl rfl isl_34 lt0 ?_)
       refine VO.cons rfl (V1.int rfl rfl rfl rfl rfl lt0 ?_)
       refine VO.cons rfl (V1.buildSliceT (f := encEvent) ([] : List Event) rfl rfl esz_39 zk_75 rfl rfl rfl rfl rfl rfl rfl lt0 ?_)
       intro b12
       refine VO.cons rfl (V1.build rfl rfl zk_41 pl_41 rfl rfl lt0 ?_)
       refine VO.weakenK (Keeps.freezeG 0 rn [(43, .vl rn 2 (List.map encEvent ([] : List Event))), (44, .agg [.int .i64 (IntKind.i64.wrap ((200 : Int) + (list4.length : Int))), .int .i64 (1 : Int), .int .i64 (0 : Int), .vl rn 2 (List.map encEvent ([] : List Event))])] ([(bp, ⟨3, [encCur ρ0 y7.2]⟩), (b11, ⟨4, List.map (encRecord rn) list4⟩)]) (f := encEvent) (l := ([] : List Event)) rfl (fun _ => rfl) ⟨⟨_, rfl, .here⟩, ⟨_, rfl, (.agg (.cons .same (.cons .same (.cons .same (.cons .here .nil)))))⟩, trivial⟩ ⟨_, _, rfl, rfl, .inl rfl, ⟨_, _, rfl, rfl, .inl rfl, rfl⟩⟩ rfl (iOne (b := bp) 0 rfl)) ?_
       refine VO.cons rfl (V1.buildSliceT (f := (encRecord rn)) ([(⟨(IntKind.i64.wrap ((200 : Int) + (list4.length : Int))), (1 : Int), (0 : Int), ([] : List Event)⟩ : Record)] : List Record) rfl rfl esz_34 zk_41 rfl rfl rfl rfl rfl rfl rfl lt0 ?_)
       intro b13
       refine VO.cons rfl (V1.appendMap (k := 2) (f := (encRecord rn)) (l := list4) (m := ([(⟨(IntKind.i64.wrap ((200 : Int) + (list4.length : Int))), (1 : Int), (0 : Int), ([] : List Event)⟩ : Record)] : List Record)) rfl rfl rfl rfl rfl esz_34 eby_34 zk_41 rfl rfl rfl (SrcOf.srMap (k := 0) rfl isl_34) hh8 lt0 ?_)
       intro b14
       refine VO.cons rfl (V1.assign rfl rfl rfl lt0 ?_)
       refine VO.nil ?_
       exact ⟨(m1, ((list4 ++ ([(⟨(IntKind.i64.wrap ((200 : Int) + (list4.length : Int))), (1 : Int), (0 : Int), ([] : List Event)⟩ : Record)] : List Record)), y7.2), b14), hl2 _ (Option.some.inj hm2).symm, Nat.lt_succ_self _, Keeps.mk (ks := [0, 2]) rfl ⟨rfl, rfl, trivial⟩ (⟨_, _, rfl, rfl, _, _, rfl, rfl, rfl⟩) rfl⟩
      ·
       replace hm2 := cond_f hc4 hm2
       refine V.exit ?_
       obtain rfl := hr2 _ (Option.some.inj hm2).symm
       exact ⟨((list4, y7.2), b11), rfl, Keeps.mk (ks := [1, 0]) rfl ⟨rfl, trivial⟩ (⟨_, _, rfl, rfl, _, _, rfl, rfl, rfl⟩) rfl⟩
     ·
      rintro ⟨⟨list3, c_3⟩, b10⟩ rfl
      try dsimp only at hm1
      exact ⟨((list3, c_3), b10), Option.some.inj hm1, Keeps.mk (ks := [0, 1]) rfl ⟨rfl, trivial⟩ (⟨_, _, rfl, rfl, _, _, rfl, rfl, rfl⟩) rfl⟩
    ·
     replace hm1 := cond_f hc3 hm1
     refine V.skip ?_
     exact ⟨((list, y3.2), b1), Option.some.inj hm1, Keeps.mk (ks := [1, 0]) rfl ⟨rfl, trivial⟩ (⟨_, _, rfl, rfl, _, _, rfl, rfl, rfl⟩) rfl⟩
  ·
   rintro ⟨⟨list2, c_2⟩, b6⟩ rfl
   try dsimp only at hm0
   refine V.seq ?_
   refine V.region ?_
   refine VO.cons rfl (V1.move rfl rfl rfl lt0 ?_)
   refine VO.cons rfl (V1.assign rfl rfl rfl lt0 ?_)
   refine VO.nil ?_
   refine V.keep 48 [2] [0, 1] (E0 := [(2, .sref b6 4 0 (List.length list2))]) (H0 := [(b6, ⟨4, List.map (encRecord rn) list2⟩), (bp, ⟨3, [encCur ρ0 c_2]⟩)]) rfl (⟨_, _, rfl, rfl, rfl⟩) (⟨_, _, rfl, rfl, _, _, rfl, rfl, rfl⟩) rfl ?_
   refine V.ret ?_
   obtain rfl := Option.some.inj hm0
   exact ⟨_, _, ⟨_, _, rfl, rfl, rfl⟩, List.Sublist.refl _, b6, rfl, rfl⟩

theorem ok_spec_l1Cur_anySeed {ρ0 rn bp : Nat} {c : Cur} {r : Int × Cur} (h : M.spec_l1Cur_anySeed c = some r) : Does Try.prog 32 [.ref bp 3 0 0] [(bp, ⟨3, [encCur ρ0 c]⟩)] rn (fun x H => x = .int .i64 r.1 ∧ H = [(bp, ⟨3, [encCur ρ0 r.2]⟩)]) := by
 have hm0 := h; clear h; unfold M.spec_l1Cur_anySeed at hm0
 try dsimp only at hm0
 refine Does.intro (N := 6) Try.func32 rfl rfl rfl rfl ?_
 intro w0 S0 L0
 refine V.seq ?_
 refine V.region ?_
 refine VO.cons rfl (V1.assign rfl rfl rfl lt0 ?_)
 refine VO.nil ?_
 refine V.seq ?_
 replace hm0 := bindO hm0; rcases hm0 with ⟨y0, hh0, hm0⟩
 refine V.region ?_
 refine VO.cons rfl (V1.move rfl rfl rfl lt0 ?_)
 refine VO.cons rfl (V1.buildSliceT (f := encInt) ([(0 : Int), (1 : Int), (7 : Int), (42 : Int), (999 : Int), (12345 : Int), (99999 : Int), (20000 : Int), (100000 : Int), (-1 : Int)] : List Int) rfl rfl esz_24 zk_3 rfl rfl rfl rfl rfl rfl rfl lt0 ?_)
 intro b0
 refine VO.cons rfl (V1.callM 1 (rn + ρ0 + 1) [b0] [.ref bp 3 0 0, .vl (rn + ρ0 + 1) 1 (List.map encInt ([(0 : Int), (1 : Int), (7 : Int), (42 : Int), (999 : Int), (12345 : Int), (99999 : Int), (20000 : Int), (100000 : Int), (-1 : Int)] : List Int))] (p := (bp, ⟨3, [encCur ρ0 c]⟩)) rfl rfl rfl cok_21 rfl rfl ⟨_, _, rfl, .same _, ⟨_, _, rfl, Lend.srMap 0 rfl (fun _ => rfl) (.head _), rfl⟩⟩ (bwCons (k := 0) rfl bwNil) (ok_spec_l1Cur_among hh0) rfl (.inr ⟨(by first | omega | (dsimp only; omega)), by rintro _ _ ⟨rfl, rfl⟩; exact ⟨by simp [PV.no, PV.noL, optS_no, noL_iff, nbeq] <;> omega, by intro b ob h; first | exact optH_no (noL_map (fun _ => by simp [PV.no, PV.noL, noL_iff, nbeq]) _) b ob h | (simp only [List.append_assoc, List.mem_append, List.mem_cons, List.mem_singleton, List.not_mem_nil, or_false, Prod.mk.injEq] at h; rcases h with ⟨rfl, rfl⟩ | ⟨rfl, rfl⟩ <;> first | exact noL_map (fun _ => by simp [PV.no, PV.noL, noL_iff, nbeq]) _ | (simp [PV.no, PV.noL, optS_no, noL_iff, nbeq] <;> omega)) | (simp at h; obtain ⟨rfl, rfl⟩ := h; exact noL_map (fun _ => by simp [PV.no, PV.noL, noL_iff, nbeq]) _) | (simp at h; obtain ⟨rfl, rfl⟩ := h; simp [PV.no, PV.noL, optS_no, noL_iff, nbeq] <;> omega)⟩⟩) lt0 ?_)
 rintro _ _ ⟨rfl, rfl⟩
 refine VO.cons rfl (V1.assign rfl rfl rfl lt0 ?_)
 refine VO.nil ?_
 refine V.ret ?_
 obtain rfl := Option.some.inj hm0
 exact ⟨_, _, ⟨_, _, rfl, rfl, rfl⟩, (sub1 (k := 0) rfl), rfl, rfl⟩

theorem ok_spec_DrawSampleBySeries {ρ0 rn : Nat} {code : List Int} {r : List Record × Int × Int} (h : M.spec_DrawSampleBySeries code = some r) : Does Try.prog 13 [.vl ρ0 1 (List.map encU8 code)] [] rn (fun x H => ∃ (ob0_ : Nat), x = .tup [PV.sref ob0_ 4 0 (List.length r.1), .int .i64 r.2.1, .int .i64 r.2.2] ∧ H = [(ob0_, ⟨4, List.map (encRecord rn) r.1⟩)]) := by
 have hm0 := h; clear h; unfold M.spec_DrawSampleBySeries at hm0
 try dsimp only at hm0
 refine Does.intro (N := 16) Try.func13 rfl rfl rfl rfl ?_
 intro w0 S0 L0
 refine V.seq ?_
 refine V.region ?_
 refine VO.cons rfl (V1.assign rfl rfl rfl lt0 ?_)
 refine VO.cons rfl (V1.assign rfl rfl rfl lt0 ?_)
 refine VO.cons rfl (V1.assign rfl rfl rfl lt0 ?_)
 refine VO.nil ?_
 refine V.seq ?_
 refine V.region ?_
 refine VO.cons rfl (V1.move rfl rfl rfl lt0 ?_)
 refine VO.cons rfl (V1.build rfl rfl zk_49 pl_49 rfl rfl lt0 ?_)
 refine VO.cons rfl (V1.boxN (n := 3) rfl rfl rfl rfl rfl lt0 ?_)
 intro b0
 refine VO.cons rfl (V1.assign rfl rfl rfl lt0 ?_)
 refine VO.nil ?_
 refine V.keep 16 [5] [0] (E0 := [(5, .ref b0 3 0 0)]) (H0 := [(b0, ⟨3, [.agg [.vl ρ0 1 (List.map encU8 code), .int .i64 (0 : Int), .int .u64 (0 : Int)]]⟩)]) rfl (⟨_, _, rfl, rfl, rfl⟩) (⟨_, _, rfl, rfl, rfl⟩) rfl ?_
 refine V.seq ?_
 replace hm0 := bindO hm0; rcases hm0 with ⟨y0, hh0, hm0⟩
 replace hm0 := bindO hm0; rcases hm0 with ⟨y1, hh1, hm0⟩
 replace hm0 := bindO hm0; rcases hm0 with ⟨y2, hh2, hm0⟩
 refine V.region ?_
 refine VO.cons rfl (V1.move rfl rfl rfl lt0 ?_)
 refine VO.cons rfl (V1.callM 0 (rn + ρ0 + 1) [] [.ref b0 3 0 0] (p := (b0, ⟨3, [.agg [.vl ρ0 1 (List.map encU8 code), .int .i64 (0 : Int), .int .u64 (0 : Int)]]⟩)) rfl rfl rfl cok_31 rfl rfl ⟨_, _, rfl, .same _, rfl⟩ bwNil (ok_spec_l1Cur_held hh0) rfl (.inl rfl) lt0 ?_)
 rintro _ _ ⟨b1, rfl, rfl⟩
 refine VO.cons rfl (V1.move rfl rfl rfl lt0 ?_)
 refine VO.cons rfl (V1.buildSliceT (f := encInt) ([(0 : Int), (10 : Int), (50 : Int), (60 : Int), (100 : Int), (101 : Int)] : List Int) rfl rfl esz_24 zk_3 rfl rfl rfl rfl rfl rfl rfl lt0 ?_)
 intro b2
 refine VO.cons rfl (V1.callM 2 (rn + ρ0 + 1) [b2] [.ref b0 3 0 0, .vl (rn + ρ0 + 1) 1 (List.map encInt ([(0 : Int), (10 : Int), (50 : Int), (60 : Int), (100 : Int), (101 : Int)] : List Int))] (p := (b0, ⟨3, [encCur ρ0 y0.2]⟩)) rfl rfl rfl cok_21 rfl rfl ⟨_, _, rfl, .same _, ⟨_, _, rfl, Lend.srMap 0 rfl (fun _ => rfl) (.head _), rfl⟩⟩ (bwCons (k := 0) rfl bwNil) (ok_spec_l1Cur_among hh1) rfl (.inr ⟨(by first | omega | (dsimp only; omega)), by rintro _ _ ⟨rfl, rfl⟩; exact ⟨by simp [PV.no, PV.noL, optS_no, noL_iff, nbeq] <;> omega, by intro b ob h; first | exact optH_no (noL_map (fun _ => by simp [PV.no, PV.noL, noL_iff, nbeq]) _) b ob h | (simp only [List.append_assoc, List.mem_append, List.mem_cons, List.mem_singleton, List.not_mem_nil, or_false, Prod.mk.injEq] at h; rcases h with ⟨rfl, rfl⟩ | ⟨rfl, rfl⟩ <;> first | exact noL_map (fun _ => by simp [PV.no, PV.noL, noL_iff, nbeq]) _ | (simp [PV.no, PV.noL, optS_no, noL_iff, nbeq] <;> omega)) | (simp at h; obtain ⟨rfl, rfl⟩ := h; exact noL_map (fun _ => by simp [PV.no, PV.noL, noL_iff, nbeq]) _) | (simp at h; obtain ⟨rfl, rfl⟩ := h; simp [PV.no, PV.noL, optS_no, noL_iff, nbeq] <;> omega)⟩⟩) lt0 ?_)
 rintro _ _ ⟨rfl, rfl⟩
 refine VO.cons rfl (V1.move rfl rfl rfl lt0 ?_)
 refine VO.cons rfl (V1.callM 0 (rn + ρ0 + 1) [] [.ref b0 3 0 0] (p := (b0, ⟨3, [encCur ρ0 y1.2]⟩)) rfl rfl rfl cok_32 rfl rfl ⟨_, _, rfl, .same _, rfl⟩ bwNil (ok_spec_l1Cur_anySeed hh2) rfl (.inl rfl) lt0 ?_)
 rintro _ _ ⟨rfl, rfl⟩
 refine VO.cons rfl (V1.assign rfl rfl rfl lt0 ?_)
 refine VO.cons rfl (V1.assign rfl rfl rfl lt0 ?_)
 refine VO.cons rfl (V1.assign rfl rfl rfl lt0 ?_)
 refine VO.nil ?_
 refine V.keep 16 [2, 3, 4] [2] (E0 := [(2, .sref b1 4 0 (List.length y0.1)), (3, .int .i64 y1.1), (4, .int .i64 y2.1)]) (H0 := [(b1, ⟨4, List.map (encRecord rn) y0.1⟩)]) rfl (⟨_, _, rfl, rfl, _, _, rfl, rfl, _, _, rfl, rfl, rfl⟩) (⟨_, _, rfl, rfl, rfl⟩) rfl ?_
 refine V.ret ?_
 obtain rfl := Option.some.inj hm0
 exact ⟨_, _, ⟨_, _, rfl, rfl, _, _, rfl, rfl, _, _, rfl, rfl, rfl⟩, List.Sublist.refl _, b1, rfl, rfl⟩

theorem ok_impl_isId {rn : Nat} {id_ : Int} {r : Bool} (h : M.impl_isId id_ = some r) : Does Try.prog 42 [.int .i64 id_] [] rn (fun x H => x = .bool r ∧ H = []) := by
 have hm0 := h; clear h; unfold M.impl_isId at hm0
 try dsimp only at hm0
 refine Does.intro (N := 5) Try.func42 rfl rfl rfl rfl ?_
 intro w0 S0 L0
 refine V.seq ?_
 refine V.region ?_
 refine VO.cons rfl (V1.assign rfl rfl rfl lt0 ?_)
 refine VO.nil ?_
 refine V.seq ?_
 replace hm0 := bindO hm0; rcases hm0 with ⟨y0, hh0, hm0⟩
 refine V.region ?_
 refine VO.cons rfl (V1.move rfl rfl rfl lt0 ?_)
 refine VO.cons rfl (V1.call rfl rfl rfl cok_26 rfl (ok_impl_within hh0) rfl lt0 ?_)
 rintro _ _ ⟨rfl, rfl⟩
 refine VO.cons rfl (V1.assign rfl rfl rfl lt0 ?_)
 refine VO.nil ?_
 refine V.ret ?_
 obtain rfl := Option.some.inj hm0
 exact ⟨_, [], ⟨_, _, rfl, rfl, rfl⟩, List.nil_sublist _, rfl, rfl⟩

theorem ok_impl_isDay {rn : Nat} {day : Int} {r : Bool} (h : M.impl_isDay day = some r) : Does Try.prog 59 [.int .i64 day] [] rn (fun x H => x = .bool r ∧ H = []) := by
 have hm0 := h; clear h; unfold M.impl_isDay at hm0
 try dsimp only at hm0
 refine Does.intro (N := 5) Try.func59 rfl rfl rfl rfl ?_
 intro w0 S0 L0
 refine V.seq ?_
 refine V.region ?_
 refine VO.cons rfl (V1.assign rfl rfl rfl lt0 ?_)
 refine VO.nil ?_
 refine V.seq ?_
 replace hm0 := bindO hm0; rcases hm0 with ⟨y0, hh0, hm0⟩
 refine V.region ?_
 refine VO.cons rfl (V1.move rfl rfl rfl lt0 ?_)
 refine VO.cons rfl (V1.call rfl rfl rfl cok_26 rfl (ok_impl_within hh0) rfl lt0 ?_)
 rintro _ _ ⟨rfl, rfl⟩
 refine VO.cons rfl (V1.assign rfl rfl rfl lt0 ?_)
 refine VO.nil ?_
 refine V.ret ?_
 obtain rfl := Option.some.inj hm0
 exact ⟨_, [], ⟨_, _, rfl, rfl, rfl⟩, List.nil_sublist _, rfl, rfl⟩

theorem ok_impl_IsEvent {rn : Nat} {e_ : Event} {r : Bool} (h : M.impl_IsEvent e_ = some r) : Does Try.prog 60 [encEvent e_] [] rn (fun x H => x = .bool r ∧ H = []) := by
 have hm0 := h; clear h; unfold M.impl_IsEvent at hm0
 try dsimp only at hm0
 refine Does.intro (N := 11) Try.func60 rfl rfl rfl rfl ?_
 intro w0 S0 L0
 refine V.seq ?_
 refine V.region ?_
 refine VO.cons rfl (V1.boxN (n := 2) rfl rfl rfl rfl rfl lt0 ?_)
 intro b0
 refine VO.cons rfl (V1.assign rfl rfl rfl lt0 ?_)
 refine VO.nil ?_
 refine V.seq ?_
 replace hm0 := bindO hm0; rcases hm0 with ⟨y0, hh0, hm0⟩
 replace hm0 := bindO hm0; rcases hm0 with ⟨y1, hh1, hm0⟩
 refine V.region ?_
 refine VO.cons rfl (V1.fieldRef rfl rfl fo_75_0 rfl lt0 ?_)
 refine VO.cons rfl (V1.loadRef (k := 0) rfl rfl tyk_3 rfl rfl rfl rfl rfl lt0 ?_)
 refine VO.cons rfl (V1.call rfl rfl rfl cok_26 rfl (ok_impl_within hh0) rfl lt0 ?_)
 rintro _ _ ⟨rfl, rfl⟩
 refine VO.cons rfl (V1.move rfl rfl rfl lt0 ?_)
 apply VO.and (n := 3) rfl rfl rfl rfl rfl rfl lt0 (.none rfl)
 ·
  intro hg0
  refine VO.step (.some rfl rfl rfl) (V1.fieldRef rfl rfl fo_75_1 rfl lt0 ?_)
  refine VO.step (.some rfl rfl rfl) (V1.loadRef (k := 0) rfl rfl tyk_3 rfl rfl rfl rfl rfl lt0 ?_)
  refine VO.step (.some rfl rfl rfl) (V1.call rfl rfl rfl cok_59 rfl (ok_impl_isDay (cond_t hg0 hh1)) rfl lt0 ?_)
  rintro _ _ ⟨rfl, rfl⟩
  exact VO.nil ⟨rfl, rfl, rfl, rfl, .inr ⟨rfl, .inr ⟨rfl, .inr ⟨rfl, .inr ⟨rfl, .inl rfl⟩⟩⟩⟩⟩
 refine VO.cons rfl (V1.assign rfl rfl rfl lt0 ?_)
 refine VO.nil ?_
 refine V.ret ?_
 obtain rfl := Option.some.inj hm0
 exact ⟨_, [], ⟨_, _, rfl, rfl, rfl⟩, List.nil_sublist _, rfl, rfl⟩

theorem ok_impl_IsRecord {ρ0 rn : Nat} {r_ : Record} {r : Bool} (h : M.impl_IsRecord r_ = some r) : Does Try.prog 51 [encRecord ρ0 r_] [] rn (fun x H => x = .bool r ∧ H = []) := by
 have hm0 := h; clear h; unfold M.impl_IsRecord at hm0
 try dsimp only at hm0
 refine Does.intro (N := 62) Try.func51 rfl rfl rfl rfl ?_
 intro w0 S0 L0
 refine V.seq ?_
 refine V.region ?_
 refine VO.cons rfl (V1.boxN (n := 4) rfl rfl rfl rfl rfl lt0 ?_)
 intro b0
 refine VO.cons rfl (V1.assign rfl rfl rfl lt0 ?_)
 refine VO.nil ?_
 refine V.seq ?_
 refine V.seq ?_
 replace hm0 := bindO hm0; rcases hm0 with ⟨y0, hh0, hm0⟩
 replace hm0 := bindO hm0; rcases hm0 with ⟨y1, hh1, hm0⟩
 replace hm0 := bindO hm0; rcases hm0 with ⟨y2, hh2, hm0⟩
 refine V.region ?_
 refine VO.cons rfl (V1.fieldRef rfl rfl fo_41_0 rfl lt0 ?_)
 refine VO.cons rfl (V1.loadRef (k := 0) rfl rfl tyk_3 rfl rfl rfl rfl rfl lt0 ?_)
 refine VO.cons rfl (V1.call rfl rfl rfl cok_26 rfl (ok_impl_within hh0) rfl lt0 ?_)
 rintro _ _ ⟨rfl, rfl⟩
 refine VO.cons rfl (V1.not rfl rfl rfl lt0 ?_)
 refine VO.cons rfl (V1.move rfl rfl rfl lt0 ?_)
 apply VO.or (n := 4) rfl rfl rfl rfl rfl rfl lt0 (.none rfl)
 ·
  intro hg0
  refine VO.step (.some rfl rfl rfl) (V1.fieldRef rfl rfl fo_41_1 rfl lt0 ?_)
  refine VO.step (.some rfl rfl rfl) (V1.loadRef (k := 0) rfl rfl tyk_3 rfl rfl rfl rfl rfl lt0 ?_)
  refine VO.step (.some rfl rfl rfl) (V1.call rfl rfl rfl cok_42 rfl (ok_impl_isId (cond_f hg0 hh1)) rfl lt0 ?_)
  rintro _ _ ⟨rfl, rfl⟩
  refine VO.step (.some rfl rfl rfl) (V1.not rfl rfl rfl lt0 ?_)
  exact VO.nil ⟨rfl, rfl, rfl, rfl, .inr ⟨rfl, .inr ⟨rfl, .inr ⟨rfl, .inr ⟨rfl, .inr ⟨rfl, .inl rfl⟩⟩⟩⟩⟩⟩
 refine VO.cons rfl (V1.move rfl rfl rfl lt0 ?_)
 apply VO.or (n := 4) rfl rfl rfl rfl rfl rfl lt0 (.none rfl)
 ·
  intro hg1
  refine VO.step (.some rfl rfl rfl) (V1.fieldRef rfl rfl fo_41_2 rfl lt0 ?_)
  refine VO.step (.some rfl rfl rfl) (V1.loadRef (k := 0) rfl rfl tyk_3 rfl rfl rfl rfl rfl lt0 ?_)
  refine VO.step (.some rfl rfl rfl) (V1.call rfl rfl rfl cok_59 rfl (ok_impl_isDay (cond_f hg1 hh2)) rfl lt0 ?_)
  rintro _ _ ⟨rfl, rfl⟩
  refine VO.step (.some rfl rfl rfl) (V1.not rfl rfl rfl lt0 ?_)
  exact VO.nil ⟨rfl, rfl, rfl, rfl, .inr ⟨rfl, .inr ⟨rfl, .inr ⟨rfl, .inr ⟨rfl, .inr ⟨rfl, .inl rfl⟩⟩⟩⟩⟩⟩
 refine VO.cons rfl (V1.move rfl rfl rfl lt0 ?_)
 apply VO.or (n := 4) rfl rfl rfl rfl rfl rfl lt0 (.none rfl)
 ·
  intro hg2
  refine VO.step (.some rfl rfl rfl) (V1.fieldRef rfl rfl fo_41_3 rfl lt0 ?_)
  refine VO.step (.some rfl rfl rfl) (V1.loadRef (k := 0) rfl rfl tyk_39 rfl rfl rfl rfl rfl lt0 ?_)
  refine VO.step (.some rfl rfl rfl) (V1.lenMap rfl rfl rfl rfl rfl rfl isl_39 lt0 ?_)
  refine VO.step (.some rfl rfl rfl) (V1.int rfl rfl rfl rfl rfl lt0 ?_)
  exact VO.nil ⟨rfl, rfl, rfl, rfl, .inr ⟨rfl, .inr ⟨rfl, .inr ⟨rfl, .inr ⟨rfl, .inr ⟨rfl, .inl rfl⟩⟩⟩⟩⟩⟩
 refine VO.nil ?_
 refine V.keep 62 [1, 26] [0] (E0 := [(1, .ref b0 4 0 0), (26, .bool ((((!y0) || (!y1)) || (!y2)) || (decide ((r_.Events.length : Int) > (6 : Int)))))]) (H0 := [(b0, ⟨4, [encRecord ρ0 r_]⟩)]) rfl (⟨_, _, rfl, rfl, _, _, rfl, rfl, rfl⟩) (⟨_, _, rfl, rfl, rfl⟩) rfl ?_
 refine V.cond rfl (fun hc0 => ?_) (fun hc0 => ?_)
 ·
  replace hm0 := cond_t hc0 hm0
  refine V.seq ?_
  refine V.region ?_
  refine VO.cons rfl (V1.assign rfl rfl rfl lt0 ?_)
  refine VO.nil ?_
  refine V.ret ?_
  obtain rfl := Option.some.inj hm0
  exact ⟨_, [], ⟨_, _, rfl, rfl, rfl⟩, List.nil_sublist _, rfl, rfl⟩
 ·
  replace hm0 := cond_f hc0 hm0
  refine V.skip ?_
  refine V.seq ?_
  refine V.seq ?_
  refine V.region ?_
  refine VO.cons rfl (V1.fieldRef rfl rfl fo_41_3 rfl lt0 ?_)
  refine VO.cons rfl (V1.loadRef (k := 0) rfl rfl tyk_39 rfl rfl rfl rfl rfl lt0 ?_)
  refine VO.cons rfl (V1.lenMap rfl rfl rfl rfl rfl rfl isl_39 lt0 ?_)
  refine VO.cons rfl (V1.move rfl rfl rfl lt0 ?_)
  refine VO.nil ?_
  replace hm0 := bindO hm0; rcases hm0 with ⟨e0, he1, hm0⟩
  refine V.cutT (D := (Unit) × (Unit)) (fun ⟨_, _⟩ => ⟨62, [], []⟩) (fun ⟨_, _⟩ => (.inl () = e0)) ?_ ?_
  ·
   refine V.block ?_
   refine V.keep 62 [30, 1, 28, 29] [0] (E0 := [(30, .int .i64 (0 : Int)), (1, .ref b0 4 0 0), (28, .vl ρ0 2 (List.map encEvent r_.Events)), (29, .int .i64 (r_.Events.length : Int))]) (H0 := [(b0, ⟨4, [encRecord ρ0 r_]⟩)]) rfl (⟨_, _, rfl, rfl, _, _, rfl, rfl, _, _, rfl, rfl, _, _, rfl, rfl, rfl⟩) (⟨_, _, rfl, rfl, rfl⟩) rfl ?_
   refine V.loopE (D := Nat × (Int) × (Unit)) (fun ⟨n0, v, _⟩ => [(30, .int .i64 v)]) (fun ⟨n0, v, _⟩ => []) (fun ⟨n0, v, _⟩ => loopO (M.impl_IsRecord_l0 r_) n0 v = some e0) (fun ⟨n0, _, _⟩ => n0) (rounds, (0 : Int), ()) rfl he1 ?_
   rintro ⟨n0, v, _⟩ hP0
   obtain ⟨m0, y3, rfl, hm1, hl1, hr1⟩ := loop_head hP0
   unfold M.impl_IsRecord_l0 at hm1; dsimp only at hm1
   show V _ _ _ ⟨62, [(30, .int .i64 v), (1, .ref b0 4 0 0), (28, .vl ρ0 2 (List.map encEvent r_.Events)), (29, .int .i64 (r_.Events.length : Int))], [(b0, ⟨4, [encRecord ρ0 r_]⟩)]⟩
   refine V.seq ?_
   refine V.region ?_
   refine VO.cons rfl (V1.int rfl rfl rfl rfl rfl lt0 ?_)
   refine VO.nil ?_
   refine V.seq ?_
   refine V.cond rfl (fun hc1 => ?_) (fun hc1 => ?_)
   ·
    replace hm1 := cond_t hc1 hm1
    refine V.skip ?_
    refine V.seq ?_
    refine V.block ?_
    refine V.seq ?_
    replace hm1 := asrt_some hm1; rcases hm1 with ⟨hh3, hm1⟩
    refine V.region ?_
    refine VO.cons rfl (V1.move rfl rfl rfl lt0 ?_)
    refine VO.cons rfl (V1.indexI rfl rfl esz_39 rfl rfl hh3 lt0 ?_)
    refine VO.cons rfl (V1.loadPinAll rfl rfl tyk_75 rfl rfl lt0 ?_)
    refine VO.cons rfl (V1.alloc rfl rfl zk_75 lt0 ?_)
    intro b1
    refine VO.cons rfl (V1.assign rfl rfl rfl lt0 ?_)
    refine VO.cons rfl (V1.storeRefAll (k := 0) rfl rfl tyk_75 rfl rfl rfl rfl rfl rfl ?_)
    refine VO.nil ?_
    refine V.keep 62 [1, 3, 4, 28, 29, 30] [0, 1] (E0 := [(1, .ref b0 4 0 0), (3, .int .i64 v), (4, .ref b1 2 0 0), (28, .vl ρ0 2 (List.map encEvent r_.Events)), (29, .int .i64 (r_.Events.length : Int)), (30, .int .i64 v)]) (H0 := [(b1, ⟨2, [encEvent (r_.Events.getD (Int.toNat v) default)]⟩), (b0, ⟨4, [encRecord ρ0 r_]⟩)]) rfl (⟨_, _, rfl, rfl, _, _, rfl, rfl, _, _, rfl, rfl, _, _, rfl, rfl, _, _, rfl, rfl, _, _, rfl, rfl, rfl⟩) (⟨_, _, rfl, rfl, _, _, rfl, rfl, rfl⟩) rfl ?_
    refine V.seq ?_
    replace hm1 := bindO hm1; rcases hm1 with ⟨y4, hh4, hm1⟩
    replace hm1 := asrt_some hm1; rcases hm1 with ⟨hh5, hm1⟩
    refine V.regionM 62 26 [⟨[(4, none)], [], none⟩, ⟨[(35, some 0)], [], none⟩, ⟨[(36, some 0)], [], none⟩, ⟨[(37, some 0)], [], none⟩, ⟨[(4, none)], [(0, false)], none⟩, ⟨[(39, some 0)], [(1, false)], none⟩, ⟨[(1, none)], [(2, false)], none⟩, ⟨[(41, some 0)], [(3, false)], none⟩, ⟨[(40, some 2), (42, some 0)], [(4, false)], none⟩, ⟨[], [], some (false, 38, 43, 5, 0)⟩, ⟨[(44, some 0)], [], none⟩, ⟨[(3, none)], [(0, false)], none⟩, ⟨[(46, some 0)], [(1, false)], none⟩, ⟨[(47, some 0)], [(2, false)], none⟩, ⟨[(1, none)], [(0, true), (3, false)], none⟩, ⟨[(49, some 0)], [(1, true), (4, false)], none⟩, ⟨[(3, none)], [(2, true), (5, false)], none⟩, ⟨[(51, some 0)], [(3, true), (6, false)], none⟩, ⟨[(50, some 2), (52, some 0)], [(4, true), (7, false)], none⟩, ⟨[(53, some 0)], [(5, true), (8, false)], none⟩, ⟨[(54, some 0)], [(6, true), (9, false)], none⟩, ⟨[(4, none)], [(7, true), (10, false)], none⟩, ⟨[(56, some 0)], [(8, true), (11, false)], none⟩, ⟨[(55, some 2), (57, some 0)], [(9, true), (12, false)], none⟩, ⟨[], [(13, false)], some (true, 48, 58, 10, 0)⟩, ⟨[], [], some (false, 45, 59, 14, 0)⟩] [(1, none), (28, none), (29, none), (30, none), (60, some 0)] (⟨_, rfl, ⟨_, rfl, ⟨_, rfl, ⟨_, rfl, ⟨_, rfl, ⟨_, rfl, ⟨_, rfl, ⟨_, rfl, ⟨_, rfl, ⟨_, rfl, ⟨_, rfl, ⟨_, rfl, ⟨_, rfl, ⟨_, rfl, ⟨_, rfl, ⟨_, rfl, ⟨_, rfl, ⟨_, rfl, ⟨_, rfl, ⟨_, rfl, ⟨_, rfl, ⟨_, rfl, ⟨_, rfl, ⟨_, rfl, ⟨_, rfl, ⟨_, rfl, ⟨rfl, rfl⟩⟩⟩⟩⟩⟩⟩⟩⟩⟩⟩⟩⟩⟩⟩⟩⟩⟩⟩⟩⟩⟩⟩⟩⟩⟩⟩) mixed_orders rfl (by decide +kernel) (fun hck6 => ?_)
    refine VP.step (p := ?pv211) rfl rfl rfl (⟨_, _, rfl, rfl, rfl⟩) ?hv211 ?rest211 hck6
    case hv211 =>
     intro E1
     refine (V1.loadRefAll (k := 0) rfl rfl tyk_75 rfl rfl rfl rfl rfl lt0 ?_)
     exact rfl
    refine VP.step (p := ?pv212) rfl rfl rfl (⟨_, _, rfl, rfl, rfl⟩) ?hv212 ?rest212 hck6
    case hv212 =>
     intro E1
     refine (V1.call rfl rfl rfl cok_60 rfl (ok_impl_IsEvent hh4) rfl lt0 ?_)
     rintro _ _ ⟨rfl, rfl⟩
     exact rfl
    refine VP.step (p := ?pv214) rfl rfl rfl (⟨_, _, rfl, rfl, rfl⟩) ?hv214 ?rest214 hck6
    case hv214 =>
     intro E1
     refine (V1.not rfl rfl rfl lt0 ?_)
     exact rfl
    refine VP.step (p := ?pv215) rfl rfl rfl (⟨_, _, rfl, rfl, rfl⟩) ?hv215 ?rest215 hck6
    case hv215 =>
     intro E1
     refine (V1.move rfl rfl rfl lt0 ?_)
     exact rfl
    refine VP.step (p := ?pv216) rfl rfl rfl (⟨_, _, rfl, rfl, rfl⟩) ?hv216 ?rest216 hck6
    case hv216 =>
     refine ⟨_, rfl, fun hg3 => ?_⟩
     intro E1
     refine (V1.fieldRef rfl rfl fo_75_1 rfl lt0 ?_)
     exact rfl
    refine VP.step (p := ?pv217) rfl rfl rfl (⟨_, _, rfl, rfl, rfl⟩) ?hv217 ?rest217 hck6
    case hv217 =>
     refine ⟨_, rfl, fun hg3 => ?_⟩
     intro E1
     refine (V1.loadRef (k := 0) rfl rfl tyk_3 rfl rfl rfl rfl rfl lt0 ?_)
     exact rfl
    refine VP.step (p := ?pv218) rfl rfl rfl (⟨_, _, rfl, rfl, rfl⟩) ?hv218 ?rest218 hck6
    case hv218 =>
     refine ⟨_, rfl, fun hg3 => ?_⟩
     intro E1
     refine (V1.fieldRef rfl rfl fo_41_2 rfl lt0 ?_)
     exact rfl
    refine VP.step (p := ?pv219) rfl rfl rfl (⟨_, _, rfl, rfl, rfl⟩) ?hv219 ?rest219 hck6
    case hv219 =>
     refine ⟨_, rfl, fun hg3 => ?_⟩
     intro E1
     refine (V1.loadRef (k := 1) rfl rfl tyk_3 rfl rfl rfl rfl rfl lt0 ?_)
     exact rfl
    refine VP.step (p := ?pv220) rfl rfl rfl (⟨_, _, rfl, rfl, _, _, rfl, rfl, rfl⟩) ?hv220 ?rest220 hck6
    case hv220 =>
     refine ⟨_, rfl, fun hg3 => ?_⟩
     intro E1
     refine (V1.int rfl rfl rfl rfl rfl lt0 ?_)
     exact rfl
    refine VP.pickOr rfl rfl rfl rfl rfl rfl (trivial) ?_ hck6
    refine VP.step (p := ?pv221) rfl rfl rfl (⟨_, _, rfl, rfl, rfl⟩) ?hv221 ?rest221 hck6
    case hv221 =>
     intro E1
     refine (V1.move rfl rfl rfl lt0 ?_)
     exact rfl
    refine VP.step (p := ?pv222) rfl rfl rfl (⟨_, _, rfl, rfl, rfl⟩) ?hv222 ?rest222 hck6
    case hv222 =>
     refine ⟨_, rfl, fun hg4 => ?_⟩
     intro E1
     refine (V1.move rfl rfl rfl lt0 ?_)
     exact rfl
    refine VP.step (p := ?pv223) rfl rfl rfl (⟨_, _, rfl, rfl, rfl⟩) ?hv223 ?rest223 hck6
    case hv223 =>
     refine ⟨_, rfl, fun hg4 => ?_⟩
     intro E1
     refine (V1.int rfl rfl rfl rfl rfl lt0 ?_)
     exact rfl
    refine VP.step (p := ?pv224) rfl rfl rfl (⟨_, _, rfl, rfl, rfl⟩) ?hv224 ?rest224 hck6
    case hv224 =>
     refine ⟨_, rfl, fun hg4 => ?_⟩
     intro E1
     refine (V1.move rfl rfl rfl lt0 ?_)
     exact rfl
    refine VP.step (p := ?pv225) rfl rfl rfl (⟨_, _, rfl, rfl, rfl⟩) ?hv225 ?rest225 hck6
    case hv225 =>
     refine ⟨_, rfl, fun hg5 => ?_⟩
     refine ⟨_, rfl, fun hg4 => ?_⟩
     intro E1
     refine (V1.fieldRef rfl rfl fo_41_3 rfl lt0 ?_)
     exact rfl
    refine VP.step (p := ?pv226) rfl rfl rfl (⟨_, _, rfl, rfl, rfl⟩) ?hv226 ?rest226 hck6
    case hv226 =>
     refine ⟨_, rfl, fun hg5 => ?_⟩
     refine ⟨_, rfl, fun hg4 => ?_⟩
     intro E1
     refine (V1.loadRef (k := 1) rfl rfl tyk_39 rfl rfl rfl rfl rfl lt0 ?_)
     exact rfl
    refine VP.step (p := ?pv227) rfl rfl rfl (⟨_, _, rfl, rfl, rfl⟩) ?hv227 ?rest227 hck6
    case hv227 =>
     refine ⟨_, rfl, fun hg5 => ?_⟩
     refine ⟨_, rfl, fun hg4 => ?_⟩
     intro E1
     refine (V1.move rfl rfl rfl lt0 ?_)
     exact rfl
    refine VP.step (p := ?pv228) rfl rfl rfl (⟨_, _, rfl, rfl, rfl⟩) ?hv228 ?rest228 hck6
    case hv228 =>
     refine ⟨_, rfl, fun hg5 => ?_⟩
     refine ⟨_, rfl, fun hg4 => ?_⟩
     intro E1
     refine (V1.int rfl rfl rfl rfl rfl lt0 ?_)
     exact rfl
    refine VP.step (p := ?pv229) rfl rfl rfl (⟨_, _, rfl, rfl, _, _, rfl, rfl, rfl⟩) ?hv229 ?rest229 hck6
    case hv229 =>
     refine ⟨_, rfl, fun hg5 => ?_⟩
     refine ⟨_, rfl, fun hg4 => ?_⟩
     intro E1
     refine (V1.indexI rfl rfl esz_39 rfl rfl (hh5 hg4 hg5) lt0 ?_)
     exact rfl
    refine VP.step (p := ?pv230) rfl rfl rfl (⟨_, _, rfl, rfl, rfl⟩) ?hv230 ?rest230 hck6
    case hv230 =>
     refine ⟨_, rfl, fun hg5 => ?_⟩
     refine ⟨_, rfl, fun hg4 => ?_⟩
     intro E1
     refine (V1.fieldPin rfl rfl fo_75_0 rfl lt0 ?_)
     exact rfl
    refine VP.step (p := ?pv231) rfl rfl rfl (⟨_, _, rfl, rfl, rfl⟩) ?hv231 ?rest231 hck6
    case hv231 =>
     refine ⟨_, rfl, fun hg5 => ?_⟩
     refine ⟨_, rfl, fun hg4 => ?_⟩
     intro E1
     refine (V1.loadPin rfl rfl tyk_3 rfl rfl lt0 ?_)
     exact rfl
    refine VP.step (p := ?pv232) rfl rfl rfl (⟨_, _, rfl, rfl, rfl⟩) ?hv232 ?rest232 hck6
    case hv232 =>
     refine ⟨_, rfl, fun hg5 => ?_⟩
     refine ⟨_, rfl, fun hg4 => ?_⟩
     intro E1
     refine (V1.fieldRef rfl rfl fo_75_0 rfl lt0 ?_)
     exact rfl
    refine VP.step (p := ?pv233) rfl rfl rfl (⟨_, _, rfl, rfl, rfl⟩) ?hv233 ?rest233 hck6
    case hv233 =>
     refine ⟨_, rfl, fun hg5 => ?_⟩
     refine ⟨_, rfl, fun hg4 => ?_⟩
     intro E1
     refine (V1.loadRef (k := 0) rfl rfl tyk_3 rfl rfl rfl rfl rfl lt0 ?_)
     exact rfl
    refine VP.step (p := ?pv234) rfl rfl rfl (⟨_, _, rfl, rfl, _, _, rfl, rfl, rfl⟩) ?hv234 ?rest234 hck6
    case hv234 =>
     refine ⟨_, rfl, fun hg5 => ?_⟩
     refine ⟨_, rfl, fun hg4 => ?_⟩
     intro E1
     refine (V1.int rfl rfl rfl rfl rfl lt0 ?_)
     exact rfl
    refine VP.pickAnd rfl rfl rfl rfl rfl rfl (⟨_, rfl, fun _ => trivial⟩) ?_ hck6
    refine VP.pickOr rfl rfl rfl rfl rfl rfl (trivial) ?_ hck6
    refine VP.fin rfl (⟨_, _, rfl, rfl, _, _, rfl, rfl, _, _, rfl, rfl, _, _, rfl, rfl, _, _, rfl, rfl, rfl⟩) ?_
    refine VO.nil ?_
    refine V.cond rfl (fun hc2 => ?_) (fun hc2 => ?_)
    ·
     replace hm1 := cond_t hc2 hm1
     refine V.seq ?_
     refine V.region ?_
     refine VO.cons rfl (V1.assign rfl rfl rfl lt0 ?_)
     refine VO.nil ?_
     refine V.ret ?_
     obtain rfl := hr1 _ (Option.some.inj hm1).symm
     change some _ = some _ at hm0
     obtain rfl := Option.some.inj hm0
     exact ⟨_, [], ⟨_, _, rfl, rfl, rfl⟩, List.nil_sublist _, rfl, rfl⟩
    ·
     replace hm1 := cond_f hc2 hm1
     refine V.skip ?_
     refine V.region ?_
     refine VO.cons rfl (V1.int rfl rfl rfl rfl rfl lt0 ?_)
     refine VO.cons rfl (V1.move rfl rfl rfl lt0 ?_)
     refine VO.nil ?_
     exact ⟨(m0, (IntKind.i64.wrap (v + (1 : Int))), ()), hl1 _ (Option.some.inj hm1).symm, Nat.lt_succ_self _, Keeps.mk (ks := [1]) rfl ⟨rfl, rfl, rfl, rfl, trivial⟩ (⟨_, _, rfl, rfl, rfl⟩) rfl⟩
   ·
    replace hm1 := cond_f hc1 hm1
    refine V.exit ?_
    obtain rfl := hr1 _ (Option.some.inj hm1).symm
    exact ⟨((), ()), rfl, Keeps.mk (ks := []) rfl trivial (rfl) rfl⟩
  ·
   rintro ⟨_, _⟩ rfl
   try dsimp only at hm0
   refine V.seq ?_
   refine V.region ?_
   refine VO.cons rfl (V1.assign rfl rfl rfl lt0 ?_)
   refine VO.nil ?_
   refine V.ret ?_
   obtain rfl := Option.some.inj hm0
   exact ⟨_, [], ⟨_, _, rfl, rfl, rfl⟩, List.nil_sublist _, rfl, rfl⟩

theorem ok_impl_AreRecords {ρ0 σ0 rn : Nat} {list : List Record} {r : Bool} (h : M.impl_AreRecords list = some r) : Does Try.prog 33 [.vl ρ0 4 (List.map (encRecord σ0) list)] [] rn (fun x H => x = .bool r ∧ H = []) := by
 have hm0 := h; clear h; unfold M.impl_AreRecords at hm0
 try dsimp only at hm0
 refine Does.intro (N := 34) Try.func33 rfl rfl rfl rfl ?_
 intro w0 S0 L0
 refine V.seq ?_
 refine V.region ?_
 refine VO.cons rfl (V1.assign rfl rfl rfl lt0 ?_)
 refine VO.nil ?_
 refine V.seq ?_
 refine V.seq ?_
 refine V.region ?_
 refine VO.cons rfl (V1.move rfl rfl rfl lt0 ?_)
 refine VO.cons rfl (V1.lenMap rfl rfl rfl rfl rfl rfl isl_34 lt0 ?_)
 refine VO.cons rfl (V1.move rfl rfl rfl lt0 ?_)
 refine VO.nil ?_
 replace hm0 := bindO hm0; rcases hm0 with ⟨e0, he1, hm0⟩
 refine V.cutT (D := (Unit) × (Unit)) (fun ⟨_, _⟩ => ⟨34, [(0, .vl ρ0 4 (List.map (encRecord σ0) list))], []⟩) (fun ⟨_, _⟩ => (.inl () = e0)) ?_ ?_
 ·
  refine V.block ?_
  refine V.keep 34 [7, 0, 5, 6] [] (E0 := [(7, .int .i64 (0 : Int)), (0, .vl ρ0 4 (List.map (encRecord σ0) list)), (5, .vl ρ0 4 (List.map (encRecord σ0) list)), (6, .int .i64 (list.length : Int))]) (H0 := []) rfl (⟨_, _, rfl, rfl, _, _, rfl, rfl, _, _, rfl, rfl, _, _, rfl, rfl, rfl⟩) (rfl) rfl ?_
  refine V.loopE (D := Nat × (Int) × (Unit)) (fun ⟨n0, v, _⟩ => [(7, .int .i64 v)]) (fun ⟨n0, v, _⟩ => []) (fun ⟨n0, v, _⟩ => loopO (M.impl_AreRecords_l0 list) n0 v = some e0) (fun ⟨n0, _, _⟩ => n0) (rounds, (0 : Int), ()) rfl he1 ?_
  rintro ⟨n0, v, _⟩ hP0
  obtain ⟨m0, y0, rfl, hm1, hl1, hr1⟩ := loop_head hP0
  unfold M.impl_AreRecords_l0 at hm1; dsimp only at hm1
  show V _ _ _ ⟨34, [(7, .int .i64 v), (0, .vl ρ0 4 (List.map (encRecord σ0) list)), (5, .vl ρ0 4 (List.map (encRecord σ0) list)), (6, .int .i64 (list.length : Int))], []⟩
  refine V.seq ?_
  refine V.region ?_
  refine VO.cons rfl (V1.int rfl rfl rfl rfl rfl lt0 ?_)
  refine VO.nil ?_
  refine V.seq ?_
  refine V.cond rfl (fun hc0 => ?_) (fun hc0 => ?_)
  ·
   replace hm1 := cond_t hc0 hm1
   refine V.skip ?_
   refine V.seq ?_
   refine V.block ?_
   refine V.seq ?_
   replace hm1 := asrt_some hm1; rcases hm1 with ⟨hh0, hm1⟩
   refine V.region ?_
   refine VO.cons rfl (V1.move rfl rfl rfl lt0 ?_)
   refine VO.cons rfl (V1.indexI rfl rfl esz_34 rfl rfl hh0 lt0 ?_)
   refine VO.cons rfl (V1.loadPinAll rfl rfl tyk_41 rfl rfl lt0 ?_)
   refine VO.cons rfl (V1.alloc rfl rfl zk_41 lt0 ?_)
   intro b0
   refine VO.cons rfl (V1.assign rfl rfl rfl lt0 ?_)
   refine VO.cons rfl (V1.storeRefAll (k := 0) rfl rfl tyk_41 rfl rfl rfl rfl rfl rfl ?_)
   refine VO.nil ?_
   refine V.keep 34 [0, 3, 4, 5, 6, 7] [0] (E0 := [(0, .vl ρ0 4 (List.map (encRecord σ0) list)), (3, .int .i64 v), (4, .ref b0 4 0 0), (5, .vl ρ0 4 (List.map (encRecord σ0) list)), (6, .int .i64 (list.length : Int)), (7, .int .i64 v)]) (H0 := [(b0, ⟨4, [encRecord σ0 (list.getD (Int.toNat v) default)]⟩)]) rfl (⟨_, _, rfl, rfl, _, _, rfl, rfl, _, _, rfl, rfl, _, _, rfl, rfl, _, _, rfl, rfl, _, _, rfl, rfl, rfl⟩) (⟨_, _, rfl, rfl, rfl⟩) rfl ?_
   refine V.seq ?_
   replace hm1 := bindO hm1; rcases hm1 with ⟨y1, hh1, hm1⟩
   replace hm1 := asrt_some hm1; rcases hm1 with ⟨hh2, hm1⟩
   refine V.regionM 34 18 [⟨[(4, none)], [], none⟩, ⟨[(12, some 0)], [], none⟩, ⟨[(13, some 0)], [], none⟩, ⟨[(14, some 0)], [], none⟩, ⟨[(3, none)], [(0, false)], none⟩, ⟨[(16, some 0)], [(1, false)], none⟩, ⟨[(17, some 0)], [(2, false)], none⟩, ⟨[(0, none)], [(0, true), (3, false)], none⟩, ⟨[(3, none)], [(1, true), (4, false)], none⟩, ⟨[(20, some 0)], [(2, true), (5, false)], none⟩, ⟨[(19, some 2), (21, some 0)], [(3, true), (6, false)], none⟩, ⟨[(22, some 0)], [(4, true), (7, false)], none⟩, ⟨[(23, some 0)], [(5, true), (8, false)], none⟩, ⟨[(4, none)], [(6, true), (9, false)], none⟩, ⟨[(25, some 0)], [(7, true), (10, false)], none⟩, ⟨[(24, some 2), (26, some 0)], [(8, true), (11, false)], none⟩, ⟨[], [(12, false)], some (true, 18, 27, 9, 0)⟩, ⟨[], [], some (false, 15, 28, 13, 0)⟩] [(0, none), (5, none), (6, none), (7, none), (29, some 0)] (⟨_, rfl, ⟨_, rfl, ⟨_, rfl, ⟨_, rfl, ⟨_, rfl, ⟨_, rfl, ⟨_, rfl, ⟨_, rfl, ⟨_, rfl, ⟨_, rfl, ⟨_, rfl, ⟨_, rfl, ⟨_, rfl, ⟨_, rfl, ⟨_, rfl, ⟨_, rfl, ⟨_, rfl, ⟨_, rfl, ⟨rfl, rfl⟩⟩⟩⟩⟩⟩⟩⟩⟩⟩⟩⟩⟩⟩⟩⟩⟩⟩⟩) mixed_orders rfl (by decide +kernel) (fun hck4 => ?_)
   refine VP.step (p := ?pv146) rfl rfl rfl (⟨_, _, rfl, rfl, rfl⟩) ?hv146 ?rest146 hck4
   case hv146 =>
    intro E1
    refine (V1.loadRefAll (k := 0) rfl rfl tyk_41 rfl rfl rfl rfl rfl lt0 ?_)
    exact rfl
   refine VP.step (p := ?pv147) rfl rfl rfl (⟨_, _, rfl, rfl, rfl⟩) ?hv147 ?rest147 hck4
   case hv147 =>
    intro E1
    refine (V1.call rfl rfl rfl cok_51 rfl (ok_impl_IsRecord hh1) rfl lt0 ?_)
    rintro _ _ ⟨rfl, rfl⟩
    exact rfl
   refine VP.step (p := ?pv149) rfl rfl rfl (⟨_, _, rfl, rfl, rfl⟩) ?hv149 ?rest149 hck4
   case hv149 =>
    intro E1
    refine (V1.not rfl rfl rfl lt0 ?_)
    exact rfl
   refine VP.step (p := ?pv150) rfl rfl rfl (⟨_, _, rfl, rfl, rfl⟩) ?hv150 ?rest150 hck4
   case hv150 =>
    intro E1
    refine (V1.move rfl rfl rfl lt0 ?_)
    exact rfl
   refine VP.step (p := ?pv151) rfl rfl rfl (⟨_, _, rfl, rfl, rfl⟩) ?hv151 ?rest151 hck4
   case hv151 =>
    refine ⟨_, rfl, fun hg0 => ?_⟩
    intro E1
    refine (V1.move rfl rfl rfl lt0 ?_)
    exact rfl
   refine VP.step (p := ?pv152) rfl rfl rfl (⟨_, _, rfl, rfl, rfl⟩) ?hv152 ?rest152 hck4
   case hv152 =>
    refine ⟨_, rfl, fun hg0 => ?_⟩
    intro E1
    refine (V1.int rfl rfl rfl rfl rfl lt0 ?_)
    exact rfl
   refine VP.step (p := ?pv153) rfl rfl rfl (⟨_, _, rfl, rfl, rfl⟩) ?hv153 ?rest153 hck4
   case hv153 =>
    refine ⟨_, rfl, fun hg0 => ?_⟩
    intro E1
    refine (V1.move rfl rfl rfl lt0 ?_)
    exact rfl
   refine VP.step (p := ?pv154) rfl rfl rfl (⟨_, _, rfl, rfl, rfl⟩) ?hv154 ?rest154 hck4
   case hv154 =>
    refine ⟨_, rfl, fun hg1 => ?_⟩
    refine ⟨_, rfl, fun hg0 => ?_⟩
    intro E1
    refine (V1.move rfl rfl rfl lt0 ?_)
    exact rfl
   refine VP.step (p := ?pv155) rfl rfl rfl (⟨_, _, rfl, rfl, rfl⟩) ?hv155 ?rest155 hck4
   case hv155 =>
    refine ⟨_, rfl, fun hg1 => ?_⟩
    refine ⟨_, rfl, fun hg0 => ?_⟩
    intro E1
    refine (V1.move rfl rfl rfl lt0 ?_)
    exact rfl
   refine VP.step (p := ?pv156) rfl rfl rfl (⟨_, _, rfl, rfl, rfl⟩) ?hv156 ?rest156 hck4
   case hv156 =>
    refine ⟨_, rfl, fun hg1 => ?_⟩
    refine ⟨_, rfl, fun hg0 => ?_⟩
    intro E1
    refine (V1.int rfl rfl rfl rfl rfl lt0 ?_)
    exact rfl
   refine VP.step (p := ?pv157) rfl rfl rfl (⟨_, _, rfl, rfl, _, _, rfl, rfl, rfl⟩) ?hv157 ?rest157 hck4
   case hv157 =>
    refine ⟨_, rfl, fun hg1 => ?_⟩
    refine ⟨_, rfl, fun hg0 => ?_⟩
    intro E1
    refine (V1.indexI rfl rfl esz_34 rfl rfl (hh2 hg0 hg1) lt0 ?_)
    exact rfl
   refine VP.step (p := ?pv158) rfl rfl rfl (⟨_, _, rfl, rfl, rfl⟩) ?hv158 ?rest158 hck4
   case hv158 =>
    refine ⟨_, rfl, fun hg1 => ?_⟩
    refine ⟨_, rfl, fun hg0 => ?_⟩
    intro E1
    refine (V1.fieldPin rfl rfl fo_41_0 rfl lt0 ?_)
    exact rfl
   refine VP.step (p := ?pv159) rfl rfl rfl (⟨_, _, rfl, rfl, rfl⟩) ?hv159 ?rest159 hck4
   case hv159 =>
    refine ⟨_, rfl, fun hg1 => ?_⟩
    refine ⟨_, rfl, fun hg0 => ?_⟩
    intro E1
    refine (V1.loadPin rfl rfl tyk_3 rfl rfl lt0 ?_)
    exact rfl
   refine VP.step (p := ?pv160) rfl rfl rfl (⟨_, _, rfl, rfl, rfl⟩) ?hv160 ?rest160 hck4
   case hv160 =>
    refine ⟨_, rfl, fun hg1 => ?_⟩
    refine ⟨_, rfl, fun hg0 => ?_⟩
    intro E1
    refine (V1.fieldRef rfl rfl fo_41_0 rfl lt0 ?_)
    exact rfl
   refine VP.step (p := ?pv161) rfl rfl rfl (⟨_, _, rfl, rfl, rfl⟩) ?hv161 ?rest161 hck4
   case hv161 =>
    refine ⟨_, rfl, fun hg1 => ?_⟩
    refine ⟨_, rfl, fun hg0 => ?_⟩
    intro E1
    refine (V1.loadRef (k := 0) rfl rfl tyk_3 rfl rfl rfl rfl rfl lt0 ?_)
    exact rfl
   refine VP.step (p := ?pv162) rfl rfl rfl (⟨_, _, rfl, rfl, _, _, rfl, rfl, rfl⟩) ?hv162 ?rest162 hck4
   case hv162 =>
    refine ⟨_, rfl, fun hg1 => ?_⟩
    refine ⟨_, rfl, fun hg0 => ?_⟩
    intro E1
    refine (V1.int rfl rfl rfl rfl rfl lt0 ?_)
    exact rfl
   refine VP.pickAnd rfl rfl rfl rfl rfl rfl (⟨_, rfl, fun _ => trivial⟩) ?_ hck4
   refine VP.pickOr rfl rfl rfl rfl rfl rfl (trivial) ?_ hck4
   refine VP.fin rfl (⟨_, _, rfl, rfl, _, _, rfl, rfl, _, _, rfl, rfl, _, _, rfl, rfl, _, _, rfl, rfl, rfl⟩) ?_
   refine VO.nil ?_
   refine V.cond rfl (fun hc1 => ?_) (fun hc1 => ?_)
   ·
    replace hm1 := cond_t hc1 hm1
    refine V.seq ?_
    refine V.region ?_
    refine VO.cons rfl (V1.assign rfl rfl rfl lt0 ?_)
    refine VO.nil ?_
    refine V.ret ?_
    obtain rfl := hr1 _ (Option.some.inj hm1).symm
    change some _ = some _ at hm0
    obtain rfl := Option.some.inj hm0
    exact ⟨_, [], ⟨_, _, rfl, rfl, rfl⟩, List.nil_sublist _, rfl, rfl⟩
   ·
    replace hm1 := cond_f hc1 hm1
    refine V.skip ?_
    refine V.region ?_
    refine VO.cons rfl (V1.int rfl rfl rfl rfl rfl lt0 ?_)
    refine VO.cons rfl (V1.move rfl rfl rfl lt0 ?_)
    refine VO.nil ?_
    exact ⟨(m0, (IntKind.i64.wrap (v + (1 : Int))), ()), hl1 _ (Option.some.inj hm1).symm, Nat.lt_succ_self _, Keeps.mk (ks := []) rfl ⟨rfl, rfl, rfl, rfl, trivial⟩ (rfl) rfl⟩
  ·
   replace hm1 := cond_f hc0 hm1
   refine V.exit ?_
   obtain rfl := hr1 _ (Option.some.inj hm1).symm
   exact ⟨((), ()), rfl, Keeps.mk (ks := []) rfl ⟨rfl, trivial⟩ (rfl) rfl⟩
 ·
  rintro ⟨_, _⟩ rfl
  try dsimp only at hm0
  refine V.seq ?_
  refine V.region ?_
  refine VO.cons rfl (V1.move rfl rfl rfl lt0 ?_)
  refine VO.cons rfl (V1.lenMap rfl rfl rfl rfl rfl rfl isl_34 lt0 ?_)
  refine VO.cons rfl (V1.int rfl rfl rfl rfl rfl lt0 ?_)
  refine VO.cons rfl (V1.assign rfl rfl rfl lt0 ?_)
  refine VO.nil ?_
  refine V.ret ?_
  obtain rfl := Option.some.inj hm0
  exact ⟨_, [], ⟨_, _, rfl, rfl, rfl⟩, List.nil_sublist _, rfl, rfl⟩

theorem ok_impl_isSeed {rn : Nat} {seed : Int} {r : Bool} (h : M.impl_isSeed seed = some r) : Does Try.prog 34 [.int .i64 seed] [] rn (fun x H => x = .bool r ∧ H = []) := by
 have hm0 := h; clear h; unfold M.impl_isSeed at hm0
 try dsimp only at hm0
 refine Does.intro (N := 5) Try.func34 rfl rfl rfl rfl ?_
 intro w0 S0 L0
 refine V.seq ?_
 refine V.region ?_
 refine VO.cons rfl (V1.assign rfl rfl rfl lt0 ?_)
 refine VO.nil ?_
 refine V.seq ?_
 replace hm0 := bindO hm0; rcases hm0 with ⟨y0, hh0, hm0⟩
 refine V.region ?_
 refine VO.cons rfl (V1.move rfl rfl rfl lt0 ?_)
 refine VO.cons rfl (V1.call rfl rfl rfl cok_26 rfl (ok_impl_within hh0) rfl lt0 ?_)
 rintro _ _ ⟨rfl, rfl⟩
 refine VO.cons rfl (V1.assign rfl rfl rfl lt0 ?_)
 refine VO.nil ?_
 refine V.ret ?_
 obtain rfl := Option.some.inj hm0
 exact ⟨_, [], ⟨_, _, rfl, rfl, rfl⟩, List.nil_sublist _, rfl, rfl⟩

theorem ok_slices_Clone_int_int {ρ0 rn : Nat} {s : List Int} {r : List Int} (h : M.slices_Clone_int_int s = some r) : Does Try.prog 52 [.vl ρ0 1 (List.map encInt s)] [] rn (fun x H => ∃ ob0_ : Option Nat, (ob0_ = none → r = []) ∧ x = optS 1 ob0_ (List.length r) ∧ H = optH 1 ob0_ (List.map encInt r)) := by
 have hm0 := h; clear h; unfold M.slices_Clone_int_int at hm0
 replace hm0 := asrt_some hm0; rcases hm0 with ⟨hh0, hm0⟩
 obtain rfl := Option.some.inj hm0
 refine Does.intro (N := 8) Try.func52 rfl rfl rfl rfl ?_
 intro w0 S0 L0
 refine V.seq ?_
 refine V.region ?_
 refine VO.cons rfl (V1.assign rfl rfl rfl lt0 ?_)
 refine VO.nil ?_
 refine V.seq ?_
 first | refine V.region ?_ | (refine V.seq ?_; refine V.region ?_)
 refine VO.cons rfl (V1.move rfl rfl rfl lt0 ?_)
 refine VO.cons rfl (V1.eqNil rfl rfl usl_24 rfl rfl lt0 ?_)
 intro c hc
 refine VO.nil ?_
 first | refine V.cond rfl (fun hc0 => ?_) (fun hc0 => ?_) | (refine V.seq ?_; refine V.cond rfl (fun hc0 => ?_) (fun hc0 => ?_))
 ·
  have hs : s = [] := List.map_eq_nil_iff.1 (hc hc0)
  refine V.seq ?_
  refine V.region ?_
  refine VO.cons rfl (V1.assign rfl rfl rfl lt0 ?_)
  refine VO.nil ?_
  refine V.ret ?_
  exact ⟨_, [], ⟨_, _, rfl, rfl, rfl⟩, List.nil_sublist _, none, fun _ => hs, rfl, rfl⟩
 ·
  refine V.skip ?_
  refine V.seq ?_
  refine V.region ?_
  refine VO.cons rfl (V1.buildSliceT (f := encInt) ([] : List Int) rfl rfl esz_24 zk_3 rfl rfl rfl rfl rfl rfl rfl lt0 ?_)
  intro b0
  refine VO.cons rfl (V1.move rfl rfl rfl lt0 ?_)
  refine VO.cons rfl (V1.appendMap (k := 0) (f := encInt) (l := []) (m := s) rfl rfl rfl rfl rfl esz_24 eby_24 zk_3 rfl rfl rfl (.vl isl_24) (by simpa using hh0) lt0 ?_)
  intro b1
  refine VO.cons rfl (V1.assign rfl rfl rfl lt0 ?_)
  refine VO.nil ?_
  refine V.keep 8 [2] [0] (E0 := [(2, .sref b1 1 0 (List.length s))]) (H0 := [(b1, ⟨1, List.map encInt s⟩)]) rfl (⟨_, _, rfl, rfl, rfl⟩) (⟨_, _, rfl, rfl, rfl⟩) rfl ?_
  refine V.ret ?_
  exact ⟨_, _, ⟨_, _, rfl, rfl, rfl⟩, List.Sublist.refl _, some b1, (fun e => by cases e), rfl, rfl⟩

theorem ok_slices_Delete_int_int {rn : Nat} {oq : Option Nat} {s : List Int} {i : Int} {j_ : Int} {r : List Int} (h : M.slices_Delete_int_int s i j_ = some r) (hoq : oq = none → s = []) : Does Try.prog 53 [optS 1 oq (List.length s), .int .i64 i, .int .i64 j_] (optH 1 oq (List.map encInt s)) rn (fun x H => ∃ (ob0_ : Option Nat), (ob0_ = none → r = []) ∧ x = optS 1 ob0_ (List.length r) ∧ H = optH 1 ob0_ (List.map encInt r)) := by
 have hm0 := h; clear h; unfold M.slices_Delete_int_int at hm0
 try dsimp only at hm0
 refine Does.intro (N := 33) Try.func53 rfl rfl rfl rfl ?_
 intro w0 S0 L0
 rcases oq with _ | oq
 ·
  refine V.seq ?_
  refine V.region ?_
  refine VO.cons rfl (V1.assign rfl rfl rfl lt0 ?_)
  refine VO.nil ?_
  refine V.seq ?_
  replace hm0 := asrt_some hm0; rcases hm0 with ⟨hh0, hm0⟩
  refine V.region ?_
  refine VO.cons rfl (V1.move rfl rfl rfl lt0 ?_)
  refine VO.cons rfl (V1.move rfl rfl rfl lt0 ?_)
  refine VO.cons rfl (V1.move rfl rfl rfl lt0 ?_)
  refine VO.cons rfl (V1.move rfl rfl rfl lt0 ?_)
  refine VO.cons rfl (V1.lenNilsE (l := s) (hoq rfl) rfl rfl rfl rfl rfl rfl isl_24 lt0 ?_)
  refine VO.cons rfl (V1.slice3N (l := s) (hoq rfl) rfl rfl esz_24 rfl rfl rfl rfl hh0 lt0 ?_)
  refine VO.nil ?_
  refine V.keep 33 [0, 1, 2] [] (E0 := [(0, .nils), (1, .int .i64 i), (2, .int .i64 j_)]) (H0 := []) rfl (⟨_, _, rfl, rfl, _, _, rfl, rfl, _, _, rfl, rfl, rfl⟩) (rfl) rfl ?_
  refine V.seq ?_
  refine V.seq ?_
  refine V.region ?_
  refine VO.cons rfl (V1.move rfl rfl rfl lt0 ?_)
  refine VO.cons rfl (V1.move rfl rfl rfl lt0 ?_)
  refine VO.cons rfl (V1.int rfl rfl rfl rfl rfl lt0 ?_)
  refine VO.nil ?_
  refine V.cond rfl (fun hc0 => ?_) (fun hc0 => ?_)
  ·
   replace hm0 := cond_t hc0 hm0
   refine V.seq ?_
   refine V.region ?_
   refine VO.cons rfl (V1.move rfl rfl rfl lt0 ?_)
   refine VO.cons rfl (V1.assign rfl rfl rfl lt0 ?_)
   refine VO.nil ?_
   refine V.keep 33 [6] [] (E0 := [(6, .nils)]) (H0 := []) rfl (⟨_, _, rfl, rfl, rfl⟩) (rfl) rfl ?_
   refine V.ret ?_
   obtain rfl := Option.some.inj hm0
   exact ⟨_, _, ⟨_, _, rfl, rfl, rfl⟩, List.Sublist.refl _, none, (fun _ => (hoq rfl)), rfl, rfl⟩
  ·
   replace hm0 := cond_f hc0 hm0
   exfalso
   obtain rfl := hoq rfl; simp only [beq_eq_false_iff_ne, ne_eq, List.length_nil] at *; omega
 ·
  refine V.seq ?_
  refine V.region ?_
  refine VO.cons rfl (V1.assign rfl rfl rfl lt0 ?_)
  refine VO.nil ?_
  refine V.seq ?_
  replace hm0 := asrt_some hm0; rcases hm0 with ⟨hh0, hm0⟩
  refine V.region ?_
  refine VO.cons rfl (V1.move rfl rfl rfl lt0 ?_)
  refine VO.cons rfl (V1.move rfl rfl rfl lt0 ?_)
  refine VO.cons rfl (V1.move rfl rfl rfl lt0 ?_)
  refine VO.cons rfl (V1.move rfl rfl rfl lt0 ?_)
  refine VO.cons rfl (V1.lenSref rfl rfl rfl rfl rfl rfl isl_24 lt0 ?_)
  refine VO.cons rfl (V1.slice3 rfl rfl esz_24 rfl rfl rfl rfl hh0 lt0 ?_)
  refine VO.nil ?_
  refine V.keep 33 [0, 1, 2] [0] (E0 := [(0, .sref oq 1 0 (List.length s)), (1, .int .i64 i), (2, .int .i64 j_)]) (H0 := [(oq, ⟨1, List.map encInt s⟩)]) rfl (⟨_, _, rfl, rfl, _, _, rfl, rfl, _, _, rfl, rfl, rfl⟩) (⟨_, _, rfl, rfl, rfl⟩) rfl ?_
  refine V.seq ?_
  refine V.seq ?_
  refine V.region ?_
  refine VO.cons rfl (V1.move rfl rfl rfl lt0 ?_)
  refine VO.cons rfl (V1.move rfl rfl rfl lt0 ?_)
  refine VO.cons rfl (V1.int rfl rfl rfl rfl rfl lt0 ?_)
  refine VO.nil ?_
  refine V.cond rfl (fun hc0 => ?_) (fun hc0 => ?_)
  ·
   replace hm0 := cond_t hc0 hm0
   refine V.seq ?_
   refine V.region ?_
   refine VO.cons rfl (V1.move rfl rfl rfl lt0 ?_)
   refine VO.cons rfl (V1.assign rfl rfl rfl lt0 ?_)
   refine VO.nil ?_
   refine V.keep 33 [6] [0] (E0 := [(6, .sref oq 1 0 (List.length s))]) (H0 := [(oq, ⟨1, List.map encInt s⟩)]) rfl (⟨_, _, rfl, rfl, rfl⟩) (⟨_, _, rfl, rfl, rfl⟩) rfl ?_
   refine V.ret ?_
   obtain rfl := Option.some.inj hm0
   exact ⟨_, _, ⟨_, _, rfl, rfl, rfl⟩, List.Sublist.refl _, some oq, (fun e => by cases e), rfl, rfl⟩
  ·
   replace hm0 := cond_f hc0 hm0
   refine V.skip ?_
   refine V.seq ?_
   refine V.region ?_
   refine VO.cons rfl (V1.move rfl rfl rfl lt0 ?_)
   refine VO.cons rfl (V1.lenSref rfl rfl rfl rfl rfl rfl isl_24 lt0 ?_)
   refine VO.cons rfl (V1.assign rfl rfl rfl lt0 ?_)
   refine VO.nil ?_
   refine V.keep 33 [0, 1, 2, 7] [0] (E0 := [(0, .sref oq 1 0 (List.length s)), (1, .int .i64 i), (2, .int .i64 j_), (7, .int .i64 (s.length : Int))]) (H0 := [(oq, ⟨1, List.map encInt s⟩)]) rfl (⟨_, _, rfl, rfl, _, _, rfl, rfl, _, _, rfl, rfl, _, _, rfl, rfl, rfl⟩) (⟨_, _, rfl, rfl, rfl⟩) rfl ?_
   refine V.seq ?_
   replace hm0 := asrt_some hm0; rcases hm0 with ⟨hh1, hm0⟩
   replace hm0 := asrt_some hm0; rcases hm0 with ⟨hh2, hm0⟩
   replace hm0 := asrt_some hm0; rcases hm0 with ⟨hh3, hm0⟩
   replace hm0 := asrt_some hm0; rcases hm0 with ⟨hh4, hm0⟩
   refine V.regionS [] 33 6 [⟨[(0, none)], false⟩, ⟨[(1, none)], false⟩, ⟨[(20, some 0), (21, some 1)], false⟩, ⟨[(0, none)], false⟩, ⟨[(2, none)], false⟩, ⟨[(23, some 3), (24, some 4)], false⟩] [(7, none), (22, some 2), (25, some 5)] 0 (⟨_, rfl, ⟨_, rfl, ⟨_, rfl, ⟨_, rfl, ⟨_, rfl, ⟨_, rfl, ⟨rfl, rfl⟩⟩⟩⟩⟩⟩⟩) mixed_orders rfl (by decide +kernel) ?_
   refine WalkP.step (p := ?pv13) 0 rfl rfl rfl rfl rfl (⟨_, _, rfl, rfl, rfl⟩) ?hv13 ?rest13
   case hv13 =>
    intro E1 H1 hI1
    refine (V1.move rfl rfl rfl lt0 ?_)
    exact rfl
   refine WalkP.step (p := ?pv14) 1 rfl rfl rfl rfl rfl (⟨_, _, rfl, rfl, rfl⟩) ?hv14 ?rest14
   case hv14 =>
    intro E1 H1 hI1
    refine (V1.move rfl rfl rfl lt0 ?_)
    exact rfl
   refine WalkP.step (p := ?pv15) 2 rfl rfl rfl rfl rfl (⟨_, _, rfl, rfl, _, _, rfl, rfl, rfl⟩) ?hv15 ?rest15
   case hv15 =>
    intro E1 H1 hI1
    refine (V1.sliceSw (a := (0 : Int)) (c := i) rfl rfl esz_24 rfl (Bnd.none _ _) (Bnd.some rfl (Int.le_trans hh1.1 hh1.2.1) _) hh1 lt0 ?_)
    exact rfl
   refine WalkP.step (p := ?pv16) 3 rfl rfl rfl rfl rfl (⟨_, _, rfl, rfl, rfl⟩) ?hv16 ?rest16
   case hv16 =>
    intro E1 H1 hI1
    refine (V1.move rfl rfl rfl lt0 ?_)
    exact rfl
   refine WalkP.step (p := ?pv17) 4 rfl rfl rfl rfl rfl (⟨_, _, rfl, rfl, rfl⟩) ?hv17 ?rest17
   case hv17 =>
    intro E1 H1 hI1
    refine (V1.move rfl rfl rfl lt0 ?_)
    exact rfl
   refine WalkP.step (p := ?pv18) 5 rfl rfl rfl rfl rfl (⟨_, _, rfl, rfl, _, _, rfl, rfl, rfl⟩) ?hv18 ?rest18
   case hv18 =>
    intro E1 H1 hI1
    refine (V1.sliceSw (a := j_) (c := (((List.length s) : Nat) : Int)) rfl rfl esz_24 rfl (Bnd.some rfl hh2.1 _) (Bnd.none _ _) hh2 lt0 ?_)
    exact rfl
   refine WalkP.nil ?_
   refine NodeS.fin inNil rfl rfl rfl (⟨_, _, rfl, rfl, _, _, rfl, rfl, _, _, rfl, rfl, rfl⟩) ?_
   refine VO.cons rfl (V1.appendIn (k := 0) (f := encInt) (l := s) (m := (List.take (Int.toNat (((List.length s) : Nat) : Int) - Int.toNat j_) (List.drop (0 + Int.toNat j_) s))) (i := (Int.toNat i - Int.toNat (0 : Int))) rfl rfl rfl rfl rfl esz_24 rfl rfl rfl (SrcOf.swMap (k := 0) (l := s) rfl hh3 isl_24) hh4 lt0 ?_)
   refine VO.cons rfl (V1.assign rfl rfl rfl lt0 ?_)
   refine VO.nil ?_
   refine V.seq ?_
   replace hm0 := asrt_some hm0; rcases hm0 with ⟨hh5, hm0⟩
   replace hm0 := asrt_some hm0; rcases hm0 with ⟨hh6, hm0⟩
   refine V.region ?_
   refine VO.cons rfl (V1.move rfl rfl rfl lt0 ?_)
   refine VO.cons rfl (V1.move rfl rfl rfl lt0 ?_)
   refine VO.cons rfl (V1.lenSref rfl rfl rfl rfl rfl rfl isl_24 lt0 ?_)
   refine VO.cons rfl (V1.move rfl rfl rfl lt0 ?_)
   refine VO.cons rfl (V1.sliceSwX (k := 0) (f := encInt) (l := (List.take (Int.toNat i - Int.toNat (0 : Int)) s ++ (List.take (Int.toNat (((List.length s) : Nat) : Int) - Int.toNat j_) (List.drop (0 + Int.toNat j_) s)) ++ List.drop ((Int.toNat i - Int.toNat (0 : Int)) + List.length (List.take (Int.toNat (((List.length s) : Nat) : Int) - Int.toNat j_) (List.drop (0 + Int.toNat j_) s))) s)) (a := ((((Int.toNat i - Int.toNat (0 : Int)) + List.length (List.take (Int.toNat (((List.length s) : Nat) : Int) - Int.toNat j_) (List.drop (0 + Int.toNat j_) s))) : Nat) : Int)) (c := (s.length : Int)) rfl rfl esz_24 rfl rfl (Bnd.some rfl hh5.1 _) rfl hh5 lt0 ?_)
   refine VO.cons rfl (V1.clearSw (k := 0) (f := encInt) (l := (List.take (Int.toNat i - Int.toNat (0 : Int)) s ++ (List.take (Int.toNat (((List.length s) : Nat) : Int) - Int.toNat j_) (List.drop (0 + Int.toNat j_) s)) ++ List.drop ((Int.toNat i - Int.toNat (0 : Int)) + List.length (List.take (Int.toNat (((List.length s) : Nat) : Int) - Int.toNat j_) (List.drop (0 + Int.toNat j_) s))) s)) (z := (0 : Int)) rfl rfl rfl rfl rfl esz_24 zk_3 .same rfl rfl hh6 ?_)
   refine VO.nil ?_
   refine V.keep 33 [0] [0] (E0 := [(0, .sref oq 1 0 ((Int.toNat i - Int.toNat (0 : Int)) + List.length (List.take (Int.toNat (((List.length s) : Nat) : Int) - Int.toNat j_) (List.drop (0 + Int.toNat j_) s))))]) (H0 := [(oq, ⟨1, List.map encInt (List.take (0 + Int.toNat ((((Int.toNat i - Int.toNat (0 : Int)) + List.length (List.take (Int.toNat (((List.length s) : Nat) : Int) - Int.toNat j_) (List.drop (0 + Int.toNat j_) s))) : Nat) : Int)) (List.take (Int.toNat i - Int.toNat (0 : Int)) s ++ (List.take (Int.toNat (((List.length s) : Nat) : Int) - Int.toNat j_) (List.drop (0 + Int.toNat j_) s)) ++ List.drop ((Int.toNat i - Int.toNat (0 : Int)) + List.length (List.take (Int.toNat (((List.length s) : Nat) : Int) - Int.toNat j_) (List.drop (0 + Int.toNat j_) s))) s) ++ List.replicate (Int.toNat (s.length : Int) - Int.toNat ((((Int.toNat i - Int.toNat (0 : Int)) + List.length (List.take (Int.toNat (((List.length s) : Nat) : Int) - Int.toNat j_) (List.drop (0 + Int.toNat j_) s))) : Nat) : Int)) (0 : Int) ++ List.drop ((0 + Int.toNat ((((Int.toNat i - Int.toNat (0 : Int)) + List.length (List.take (Int.toNat (((List.length s) : Nat) : Int) - Int.toNat j_) (List.drop (0 + Int.toNat j_) s))) : Nat) : Int)) + (Int.toNat (s.length : Int) - Int.toNat ((((Int.toNat i - Int.toNat (0 : Int)) + List.length (List.take (Int.toNat (((List.length s) : Nat) : Int) - Int.toNat j_) (List.drop (0 + Int.toNat j_) s))) : Nat) : Int))) (List.take (Int.toNat i - Int.toNat (0 : Int)) s ++ (List.take (Int.toNat (((List.length s) : Nat) : Int) - Int.toNat j_) (List.drop (0 + Int.toNat j_) s)) ++ List.drop ((Int.toNat i - Int.toNat (0 : Int)) + List.length (List.take (Int.toNat (((List.length s) : Nat) : Int) - Int.toNat j_) (List.drop (0 + Int.toNat j_) s))) s))⟩)]) rfl (⟨_, _, rfl, rfl, rfl⟩) (⟨_, _, rfl, rfl, rfl⟩) rfl ?_
   refine V.seq ?_
   refine V.region ?_
   refine VO.cons rfl (V1.move rfl rfl rfl lt0 ?_)
   refine VO.cons rfl (V1.assign rfl rfl rfl lt0 ?_)
   refine VO.nil ?_
   replace hm0 := asrt_some hm0; rcases hm0 with ⟨hh7, hm0⟩
   refine V.weakenK (Keeps.cut 6 0 ((Int.toNat i - Int.toNat (0 : Int)) + List.length (List.take (Int.toNat (((List.length s) : Nat) : Int) - Int.toNat j_) (List.drop (0 + Int.toNat j_) s))) (f := encInt) (l := (List.take (0 + Int.toNat ((((Int.toNat i - Int.toNat (0 : Int)) + List.length (List.take (Int.toNat (((List.length s) : Nat) : Int) - Int.toNat j_) (List.drop (0 + Int.toNat j_) s))) : Nat) : Int)) (List.take (Int.toNat i - Int.toNat (0 : Int)) s ++ (List.take (Int.toNat (((List.length s) : Nat) : Int) - Int.toNat j_) (List.drop (0 + Int.toNat j_) s)) ++ List.drop ((Int.toNat i - Int.toNat (0 : Int)) + List.length (List.take (Int.toNat (((List.length s) : Nat) : Int) - Int.toNat j_) (List.drop (0 + Int.toNat j_) s))) s) ++ List.replicate (Int.toNat (s.length : Int) - Int.toNat ((((Int.toNat i - Int.toNat (0 : Int)) + List.length (List.take (Int.toNat (((List.length s) : Nat) : Int) - Int.toNat j_) (List.drop (0 + Int.toNat j_) s))) : Nat) : Int)) (0 : Int) ++ List.drop ((0 + Int.toNat ((((Int.toNat i - Int.toNat (0 : Int)) + List.length (List.take (Int.toNat (((List.length s) : Nat) : Int) - Int.toNat j_) (List.drop (0 + Int.toNat j_) s))) : Nat) : Int)) + (Int.toNat (s.length : Int) - Int.toNat ((((Int.toNat i - Int.toNat (0 : Int)) + List.length (List.take (Int.toNat (((List.length s) : Nat) : Int) - Int.toNat j_) (List.drop (0 + Int.toNat j_) s))) : Nat) : Int))) (List.take (Int.toNat i - Int.toNat (0 : Int)) s ++ (List.take (Int.toNat (((List.length s) : Nat) : Int) - Int.toNat j_) (List.drop (0 + Int.toNat j_) s)) ++ List.drop ((Int.toNat i - Int.toNat (0 : Int)) + List.length (List.take (Int.toNat (((List.length s) : Nat) : Int) - Int.toNat j_) (List.drop (0 + Int.toNat j_) s))) s))) rfl rfl hh7) ?_
   refine V.keep 33 [6] [0] (E0 := [(6, .sref oq 1 0 (List.length (List.take ((Int.toNat i - Int.toNat (0 : Int)) + List.length (List.take (Int.toNat (((List.length s) : Nat) : Int) - Int.toNat j_) (List.drop (0 + Int.toNat j_) s))) (List.take (0 + Int.toNat ((((Int.toNat i - Int.toNat (0 : Int)) + List.length (List.take (Int.toNat (((List.length s) : Nat) : Int) - Int.toNat j_) (List.drop (0 + Int.toNat j_) s))) : Nat) : Int)) (List.take (Int.toNat i - Int.toNat (0 : Int)) s ++ (List.take (Int.toNat (((List.length s) : Nat) : Int) - Int.toNat j_) (List.drop (0 + Int.toNat j_) s)) ++ List.drop ((Int.toNat i - Int.toNat (0 : Int)) + List.length (List.take (Int.toNat (((List.length s) : Nat) : Int) - Int.toNat j_) (List.drop (0 + Int.toNat j_) s))) s) ++ List.replicate (Int.toNat (s.length : Int) - Int.toNat ((((Int.toNat i - Int.toNat (0 : Int)) + List.length (List.take (Int.toNat (((List.length s) : Nat) : Int) - Int.toNat j_) (List.drop (0 + Int.toNat j_) s))) : Nat) : Int)) (0 : Int) ++ List.drop ((0 + Int.toNat ((((Int.toNat i - Int.toNat (0 : Int)) + List.length (List.take (Int.toNat (((List.length s) : Nat) : Int) - Int.toNat j_) (List.drop (0 + Int.toNat j_) s))) : Nat) : Int)) + (Int.toNat (s.length : Int) - Int.toNat ((((Int.toNat i - Int.toNat (0 : Int)) + List.length (List.take (Int.toNat (((List.length s) : Nat) : Int) - Int.toNat j_) (List.drop (0 + Int.toNat j_) s))) : Nat) : Int))) (List.take (Int.toNat i - Int.toNat (0 : Int)) s ++ (List.take (Int.toNat (((List.length s) : Nat) : Int) - Int.toNat j_) (List.drop (0 + Int.toNat j_) s)) ++ List.drop ((Int.toNat i - Int.toNat (0 : Int)) + List.length (List.take (Int.toNat (((List.length s) : Nat) : Int) - Int.toNat j_) (List.drop (0 + Int.toNat j_) s))) s)))))]) (H0 := [(oq, ⟨1, List.map encInt (List.take ((Int.toNat i - Int.toNat (0 : Int)) + List.length (List.take (Int.toNat (((List.length s) : Nat) : Int) - Int.toNat j_) (List.drop (0 + Int.toNat j_) s))) (List.take (0 + Int.toNat ((((Int.toNat i - Int.toNat (0 : Int)) + List.length (List.take (Int.toNat (((List.length s) : Nat) : Int) - Int.toNat j_) (List.drop (0 + Int.toNat j_) s))) : Nat) : Int)) (List.take (Int.toNat i - Int.toNat (0 : Int)) s ++ (List.take (Int.toNat (((List.length s) : Nat) : Int) - Int.toNat j_) (List.drop (0 + Int.toNat j_) s)) ++ List.drop ((Int.toNat i - Int.toNat (0 : Int)) + List.length (List.take (Int.toNat (((List.length s) : Nat) : Int) - Int.toNat j_) (List.drop (0 + Int.toNat j_) s))) s) ++ List.replicate (Int.toNat (s.length : Int) - Int.toNat ((((Int.toNat i - Int.toNat (0 : Int)) + List.length (List.take (Int.toNat (((List.length s) : Nat) : Int) - Int.toNat j_) (List.drop (0 + Int.toNat j_) s))) : Nat) : Int)) (0 : Int) ++ List.drop ((0 + Int.toNat ((((Int.toNat i - Int.toNat (0 : Int)) + List.length (List.take (Int.toNat (((List.length s) : Nat) : Int) - Int.toNat j_) (List.drop (0 + Int.toNat j_) s))) : Nat) : Int)) + (Int.toNat (s.length : Int) - Int.toNat ((((Int.toNat i - Int.toNat (0 : Int)) + List.length (List.take (Int.toNat (((List.length s) : Nat) : Int) - Int.toNat j_) (List.drop (0 + Int.toNat j_) s))) : Nat) : Int))) (List.take (Int.toNat i - Int.toNat (0 : Int)) s ++ (List.take (Int.toNat (((List.length s) : Nat) : Int) - Int.toNat j_) (List.drop (0 + Int.toNat j_) s)) ++ List.drop ((Int.toNat i - Int.toNat (0 : Int)) + List.length (List.take (Int.toNat (((List.length s) : Nat) : Int) - Int.toNat j_) (List.drop (0 + Int.toNat j_) s))) s)))⟩)]) rfl (⟨_, _, rfl, rfl, rfl⟩) (⟨_, _, rfl, rfl, rfl⟩) rfl ?_
   refine V.ret ?_
   obtain rfl := Option.some.inj hm0
   exact ⟨_, _, ⟨_, _, rfl, rfl, rfl⟩, List.Sublist.refl _, some oq, (fun e => by cases e), rfl, rfl⟩

theorem ok_impl_nextSeed {rn : Nat} {seed : Int} {r : Int} (h : M.impl_nextSeed seed = some r) : Does Try.prog 43 [.int .i64 seed] [] rn (fun x H => x = .int .i64 r ∧ H = []) := by
 have hm0 := h; clear h; unfold M.impl_nextSeed at hm0
 try dsimp only at hm0
 refine Does.intro (N := 7) Try.func43 rfl rfl rfl rfl ?_
 intro w0 S0 L0
 refine V.seq ?_
 refine V.region ?_
 refine VO.cons rfl (V1.assign rfl rfl rfl lt0 ?_)
 refine VO.nil ?_
 refine V.seq ?_
 refine V.region ?_
 refine VO.cons rfl (V1.move rfl rfl rfl lt0 ?_)
 refine VO.cons rfl (V1.int rfl rfl rfl rfl rfl lt0 ?_)
 refine VO.cons rfl (V1.int rfl rfl rfl rfl rfl lt0 ?_)
 refine VO.cons rfl (V1.rem rfl rfl rfl rfl (by decide) lt0 ?_)
 refine VO.cons rfl (V1.assign rfl rfl rfl lt0 ?_)
 refine VO.nil ?_
 refine V.ret ?_
 obtain rfl := Option.some.inj hm0
 exact ⟨_, [], ⟨_, _, rfl, rfl, rfl⟩, List.nil_sublist _, rfl, rfl⟩
end Go.Proofs.Yteocnbeefedbkaa
