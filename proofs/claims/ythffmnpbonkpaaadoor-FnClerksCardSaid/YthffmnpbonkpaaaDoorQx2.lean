/- the functions do what their models say -/
import Derived.Test.YthffmnpbonkpaaaDoorQx1
set_option linter.unusedSimpArgs false
set_option linter.unusedVariables false
set_option maxRecDepth 100000
set_option maxHeartbeats 4000000
namespace Go.Proofs.YthffmnpbonkpaaaDoor
open Go.VS

theorem ok_spec_PairFor {ρ0 rn : Nat} {list : List Clerk} {day : Int} {r : Int × Int × Bool} (h : M.spec_PairFor list day = some r) : Does Tryd.prog 15 [.vl ρ0 6 (List.map encClerk list), .int .i64 day] [] rn (fun x H => x = .tup [.int .i64 r.1, .int .i64 r.2.1, .bool r.2.2] ∧ H = []) := by
 have hm0 := h; clear h; unfold M.spec_PairFor at hm0
 try dsimp only at hm0
 refine Does.intro (N := 37) Tryd.func15 rfl rfl rfl rfl ?_
 intro w0 S0
 refine V.seq ?_
 refine V.region ?_
 refine VO.cons rfl (V1.assign rfl rfl rfl (ltb rfl) ?_)
 refine VO.cons rfl (V1.assign rfl rfl rfl (ltb rfl) ?_)
 refine VO.cons rfl (V1.assign rfl rfl rfl (ltb rfl) ?_)
 refine VO.nil ?_
 refine V.seq ?_
 refine V.seq ?_
 replace hm0 := bindO hm0; rcases hm0 with ⟨y0, hh0, hm0⟩
 replace hm0 := bindO hm0; rcases hm0 with ⟨y1, hh1, hm0⟩
 refine V.region ?_
 refine VO.cons rfl (V1.move rfl rfl rfl (ltb rfl) ?_)
 refine VO.cons rfl (V1.call rfl rfl rfl cok_43 rfl (ok_spec_l11Good hh0) rfl (ltb rfl) ?_)
 rintro _ _ ⟨rfl, rfl⟩
 refine VO.cons rfl (V1.not rfl rfl rfl (ltb rfl) ?_)
 refine VO.cons rfl (V1.move rfl rfl rfl (ltb rfl) ?_)
 apply VO.or (n := 3) rfl rfl rfl rfl rfl rfl (ltb rfl) (.none rfl)
 ·
  intro hg0
  refine VO.step (.some rfl rfl rfl) (V1.move rfl rfl rfl (ltb rfl) ?_)
  refine VO.step (.some rfl rfl rfl) (V1.call rfl rfl rfl cok_45 rfl (ok_spec_l2Day (cond_f hg0 hh1)) rfl (ltb rfl) ?_)
  rintro _ _ ⟨rfl, rfl⟩
  refine VO.step (.some rfl rfl rfl) (V1.not rfl rfl rfl (ltb rfl) ?_)
  exact VO.nil ⟨rfl, rfl, rfl, rfl, .inr ⟨rfl, .inr ⟨rfl, .inr ⟨rfl, .inr ⟨rfl, .inl rfl⟩⟩⟩⟩⟩
 refine VO.nil ?_
 refine V.keep 37 [0, 1, 16] [] (E0 := [(0, .vl ρ0 6 (List.map encClerk list)), (1, .int .i64 day), (16, .bool ((!y0) || (!y1)))]) (H0 := []) rfl (⟨_, _, rfl, rfl, ⟨_, _, rfl, rfl, ⟨_, _, rfl, rfl, rfl⟩⟩⟩) (rfl) rfl ?_
 refine V.cond rfl (fun hc0 => ?_) (fun hc0 => ?_)
 ·
  replace hm0 := cond_t hc0 hm0
  refine V.seq ?_
  refine V.region ?_
  refine VO.cons rfl (V1.assign rfl rfl rfl (ltb rfl) ?_)
  refine VO.cons rfl (V1.assign rfl rfl rfl (ltb rfl) ?_)
  refine VO.cons rfl (V1.assign rfl rfl rfl (ltb rfl) ?_)
  refine VO.nil ?_
  refine V.ret ?_
  obtain rfl := Option.some.inj hm0
  exact ⟨_, [], ⟨_, _, rfl, rfl, ⟨_, _, rfl, rfl, ⟨_, _, rfl, rfl, rfl⟩⟩⟩, List.nil_sublist _, rfl, rfl⟩
 ·
  replace hm0 := cond_f hc0 hm0
  refine V.skip ?_
  refine V.seq ?_
  replace hm0 := bindO hm0; rcases hm0 with ⟨y2, hh2, hm0⟩
  replace hm0 := bindO hm0; rcases hm0 with ⟨y3, hh3, hm0⟩
  refine V.region ?_
  refine VO.cons rfl (V1.move rfl rfl rfl (ltb rfl) ?_)
  refine VO.cons rfl (V1.move rfl rfl rfl (ltb rfl) ?_)
  refine VO.cons rfl (V1.call rfl rfl rfl cok_46 rfl (ok_spec_l11Who hh2) rfl (ltb rfl) ?_)
  rintro _ _ ⟨b0, rfl, rfl⟩
  refine VO.weakenK (Keeps.freezeG 0 rn [(19, .vl rn 1 (List.map encInt y2))] [] (f := encInt) (l := y2) rfl (fun _ => rfl) ⟨⟨_, rfl, .here⟩, trivial⟩ rfl rfl iNil) ?_
  refine VO.cons rfl (V1.move rfl rfl rfl (ltb rfl) ?_)
  refine VO.cons rfl (V1.move rfl rfl rfl (ltb rfl) ?_)
  refine VO.cons rfl (V1.call rfl rfl rfl cok_46 rfl (ok_spec_l11Who hh3) rfl (ltb rfl) ?_)
  rintro _ _ ⟨b1, rfl, rfl⟩
  refine VO.weakenK (Keeps.freezeG 0 rn [(22, .vl rn 1 (List.map encInt y3))] [] (f := encInt) (l := y3) rfl (fun _ => rfl) ⟨⟨_, rfl, .here⟩, trivial⟩ rfl rfl iNil) ?_
  refine VO.cons rfl (V1.assign rfl rfl rfl (ltb rfl) ?_)
  refine VO.cons rfl (V1.assign rfl rfl rfl (ltb rfl) ?_)
  refine VO.nil ?_
  refine V.keep 37 [7, 8] [] (E0 := [(7, .vl rn 1 (List.map encInt y2)), (8, .vl rn 1 (List.map encInt y3))]) (H0 := []) rfl (⟨_, _, rfl, rfl, ⟨_, _, rfl, rfl, rfl⟩⟩) (rfl) rfl ?_
  refine V.seq ?_
  refine V.seq ?_
  refine V.region ?_
  refine VO.cons rfl (V1.move rfl rfl rfl (ltb rfl) ?_)
  refine VO.cons rfl (V1.lenMap rfl rfl rfl rfl rfl rfl isl_27 (ltb rfl) ?_)
  refine VO.cons rfl (V1.int rfl rfl rfl rfl rfl (ltb rfl) ?_)
  refine VO.cons rfl (V1.move rfl rfl rfl (ltb rfl) ?_)
  apply VO.or (n := 3) rfl rfl rfl rfl rfl rfl (ltb rfl) (.none rfl)
  ·
   intro hg1
   refine VO.step (.some rfl rfl rfl) (V1.move rfl rfl rfl (ltb rfl) ?_)
   refine VO.step (.some rfl rfl rfl) (V1.lenMap rfl rfl rfl rfl rfl rfl isl_27 (ltb rfl) ?_)
   refine VO.step (.some rfl rfl rfl) (V1.int rfl rfl rfl rfl rfl (ltb rfl) ?_)
   exact VO.nil ⟨rfl, rfl, rfl, rfl, .inr ⟨rfl, .inr ⟨rfl, .inr ⟨rfl, .inr ⟨rfl, .inl rfl⟩⟩⟩⟩⟩
  refine VO.nil ?_
  refine V.keep 37 [7, 8, 30] [] (E0 := [(7, .vl rn 1 (List.map encInt y2)), (8, .vl rn 1 (List.map encInt y3)), (30, .bool (((y2.length : Int) == (0 : Int)) || ((y3.length : Int) == (0 : Int))))]) (H0 := []) rfl (⟨_, _, rfl, rfl, ⟨_, _, rfl, rfl, ⟨_, _, rfl, rfl, rfl⟩⟩⟩) (rfl) rfl ?_
  refine V.cond rfl (fun hc1 => ?_) (fun hc1 => ?_)
  ·
   replace hm0 := cond_t hc1 hm0
   refine V.seq ?_
   refine V.region ?_
   refine VO.cons rfl (V1.assign rfl rfl rfl (ltb rfl) ?_)
   refine VO.cons rfl (V1.assign rfl rfl rfl (ltb rfl) ?_)
   refine VO.cons rfl (V1.assign rfl rfl rfl (ltb rfl) ?_)
   refine VO.nil ?_
   refine V.ret ?_
   obtain rfl := Option.some.inj hm0
   exact ⟨_, [], ⟨_, _, rfl, rfl, ⟨_, _, rfl, rfl, ⟨_, _, rfl, rfl, rfl⟩⟩⟩, List.nil_sublist _, rfl, rfl⟩
  ·
   replace hm0 := cond_f hc1 hm0
   refine V.skip ?_
   refine V.seq ?_
   replace hm0 := asrt_some hm0; rcases hm0 with ⟨hh4, hm0⟩
   replace hm0 := asrt_some hm0; rcases hm0 with ⟨hh5, hm0⟩
   refine V.regionM 37 7 [⟨[(7, none)], [], none⟩, ⟨[(31, some 0)], [], none⟩, ⟨[(32, some 0)], [], none⟩, ⟨[(8, none)], [], none⟩, ⟨[(34, some 0)], [], none⟩, ⟨[(35, some 0)], [], none⟩, ⟨[(33, some 3)], [], none⟩] [(4, some 0), (36, some 1)] (⟨_, rfl, ⟨_, rfl, ⟨_, rfl, ⟨_, rfl, ⟨_, rfl, ⟨_, rfl, ⟨_, rfl, ⟨rfl, rfl⟩⟩⟩⟩⟩⟩⟩⟩) mixed_orders rfl (by decide +kernel) (fun hck6 => ?_)
   refine VP.step (p := ?pv15) rfl rfl rfl (⟨_, _, rfl, rfl, rfl⟩) ?hv15 ?rest15 hck6
   case hv15 =>
    intro E1
    refine (V1.move rfl rfl rfl (ltb rfl) ?_)
    exact rfl
   refine VP.step (p := ?pv16) rfl rfl rfl (⟨_, _, rfl, rfl, rfl⟩) ?hv16 ?rest16 hck6
   case hv16 =>
    intro E1
    refine (V1.indexI rfl rfl esz_27 rfl rfl hh4 (ltb rfl) ?_)
    exact rfl
   refine VP.step (p := ?pv17) rfl rfl rfl (⟨_, _, rfl, rfl, rfl⟩) ?hv17 ?rest17 hck6
   case hv17 =>
    intro E1
    refine (V1.loadPin rfl rfl tyk_3 rfl rfl (ltb rfl) ?_)
    exact rfl
   refine VP.step (p := ?pv18) rfl rfl rfl (⟨_, _, rfl, rfl, rfl⟩) ?hv18 ?rest18 hck6
   case hv18 =>
    intro E1
    refine (V1.move rfl rfl rfl (ltb rfl) ?_)
    exact rfl
   refine VP.step (p := ?pv19) rfl rfl rfl (⟨_, _, rfl, rfl, rfl⟩) ?hv19 ?rest19 hck6
   case hv19 =>
    intro E1
    refine (V1.indexI rfl rfl esz_27 rfl rfl hh5 (ltb rfl) ?_)
    exact rfl
   refine VP.step (p := ?pv20) rfl rfl rfl (⟨_, _, rfl, rfl, rfl⟩) ?hv20 ?rest20 hck6
   case hv20 =>
    intro E1
    refine (V1.loadPin rfl rfl tyk_3 rfl rfl (ltb rfl) ?_)
    exact rfl
   refine VP.step (p := ?pv21) rfl rfl rfl (⟨_, _, rfl, rfl, rfl⟩) ?hv21 ?rest21 hck6
   case hv21 =>
    intro E1
    refine (V1.assign rfl rfl rfl (ltb rfl) ?_)
    exact rfl
   refine VP.fin rfl (⟨_, _, rfl, rfl, ⟨_, _, rfl, rfl, rfl⟩⟩) ?_
   refine VO.cons rfl (V1.assign rfl rfl rfl (ltb rfl) ?_)
   refine VO.cons rfl (V1.assign rfl rfl rfl (ltb rfl) ?_)
   refine VO.nil ?_
   refine V.ret ?_
   obtain rfl := Option.some.inj hm0
   exact ⟨_, [], ⟨_, _, rfl, rfl, ⟨_, _, rfl, rfl, ⟨_, _, rfl, rfl, rfl⟩⟩⟩, List.nil_sublist _, rfl, rfl⟩

theorem ok_spec_l1Cur_clerkId {ρ0 ρ1 rn bp : Nat} {c : Cur} {list : List Clerk} {r : Int × Cur} (h : M.spec_l1Cur_clerkId c list = some r) : Does Tryd.prog 49 [.ref bp 3 0 0, .vl ρ1 6 (List.map encClerk list)] [(bp, ⟨3, [encCur ρ0 c]⟩)] rn (fun x H => x = .int .i64 r.1 ∧ H = [(bp, ⟨3, [encCur ρ0 r.2]⟩)]) := by
 have hm0 := h; clear h; unfold M.spec_l1Cur_clerkId at hm0
 try dsimp only at hm0
 refine Does.intro (N := 23) Tryd.func49 rfl rfl rfl rfl ?_
 intro w0 S0
 refine V.seq ?_
 refine V.region ?_
 refine VO.cons rfl (V1.assign rfl rfl rfl (ltb rfl) ?_)
 refine VO.nil ?_
 refine V.seq ?_
 refine V.seq ?_
 replace hm0 := bindO hm0; rcases hm0 with ⟨y0, hh0, hm0⟩
 refine V.region ?_
 refine VO.cons rfl (V1.move rfl rfl rfl (ltb rfl) ?_)
 refine VO.cons rfl (V1.lenMap rfl rfl rfl rfl rfl rfl isl_24 (ltb rfl) ?_)
 refine VO.cons rfl (V1.int rfl rfl rfl rfl rfl (ltb rfl) ?_)
 refine VO.cons rfl (V1.move rfl rfl rfl (ltb rfl) ?_)
 apply VO.orH (n := 2) [(bp, ⟨3, [encCur ρ0 (bif ((list.length : Int) == (0 : Int)) then c else y0.2)]⟩)] rfl rfl rfl rfl rfl rfl (ltb rfl) (.none rfl) (fun h => by rw [h]; rfl)
 ·
  intro hg0
  refine VO.step (.some rfl rfl rfl) (V1.move rfl rfl rfl (ltb rfl) ?_)
  refine VO.step (.some rfl rfl rfl) (V1.callM 0 (rn + ρ0 + 1) [] [.ref bp 3 0 0, .int .i64 (10 : Int)] (p := (bp, ⟨3, [encCur ρ0 c]⟩)) rfl rfl rfl cok_63 rfl rfl ⟨_, _, rfl, .same _, ⟨_, _, rfl, .same _, rfl⟩⟩ bwNil (ok_spec_l1Cur_one (cond_f hg0 hh0)) rfl (.inl rfl) (ltb rfl) ?_)
  rintro _ _ ⟨rfl, rfl⟩
  exact VO.nil ⟨rfl, rfl, rfl, (by rw [hg0]; rfl), .inr ⟨rfl, .inr ⟨rfl, .inr ⟨rfl, .inl rfl⟩⟩⟩⟩
 refine VO.nil ?_
 refine V.keep 23 [0, 1, 11] [0] (E0 := [(0, .ref bp 3 0 0), (1, .vl ρ1 6 (List.map encClerk list)), (11, .bool (((list.length : Int) == (0 : Int)) || y0.1))]) (H0 := [(bp, ⟨3, [encCur ρ0 (bif ((list.length : Int) == (0 : Int)) then c else y0.2)]⟩)]) rfl (⟨_, _, rfl, rfl, ⟨_, _, rfl, rfl, ⟨_, _, rfl, rfl, rfl⟩⟩⟩) (⟨_, _, rfl, rfl, rfl⟩) rfl ?_
 refine V.cond rfl (fun hc0 => ?_) (fun hc0 => ?_)
 ·
  replace hm0 := cond_t hc0 hm0
  refine V.seq ?_
  replace hm0 := bindO hm0; rcases hm0 with ⟨y1, hh1, hm0⟩
  refine V.region ?_
  refine VO.cons rfl (V1.move rfl rfl rfl (ltb rfl) ?_)
  refine VO.cons rfl (V1.buildSliceT (f := encInt) ([(0 : Int), (1 : Int), (50 : Int)] : List Int) rfl rfl esz_27 zk_3 rfl rfl rfl rfl rfl rfl rfl (ltb rfl) ?_)
  intro b0
  refine VO.cons rfl (V1.callM 1 (rn + ρ0 + 1) [b0] [.ref bp 3 0 0, .vl (rn + ρ0 + 1) 1 (List.map encInt ([(0 : Int), (1 : Int), (50 : Int)] : List Int))] (p := (bp, ⟨3, [encCur ρ0 (bif ((list.length : Int) == (0 : Int)) then c else y0.2)]⟩)) rfl rfl rfl cok_59 rfl rfl ⟨_, _, rfl, .same _, ⟨_, _, rfl, Lend.srMap 0 rfl (fun _ => rfl) (.head _), rfl⟩⟩ (bwCons (k := 0) rfl bwNil) (ok_spec_l1Cur_among hh1) rfl (.inr ⟨(by first | omega | (dsimp only; omega)), by rintro _ _ ⟨rfl, rfl⟩; exact ⟨by simp [PV.no, PV.noL, optS_no, noL_iff, nbeq] <;> omega, by intro b ob h; first | exact optH_no (noL_map (fun _ => by simp [PV.no, PV.noL, noL_iff, nbeq]) _) b ob h | (simp at h; obtain ⟨rfl, rfl⟩ := h; exact noL_map (fun _ => by simp [PV.no, PV.noL, noL_iff, nbeq]) _) | (simp at h; obtain ⟨rfl, rfl⟩ := h; simp [PV.no, PV.noL, optS_no, noL_iff, nbeq] <;> omega)⟩⟩) (ltb rfl) ?_)
  rintro _ _ ⟨rfl, rfl⟩
  refine VO.cons rfl (V1.assign rfl rfl rfl (ltb rfl) ?_)
  refine VO.nil ?_
  refine V.ret ?_
  obtain rfl := Option.some.inj hm0
  exact ⟨_, _, ⟨_, _, rfl, rfl, rfl⟩, (sub1 (k := 0) rfl), rfl, rfl⟩
 ·
  replace hm0 := cond_f hc0 hm0
  refine V.skip ?_
  refine V.seq ?_
  replace hm0 := bindO hm0; rcases hm0 with ⟨y2, hh2, hm0⟩
  replace hm0 := asrt_some hm0; rcases hm0 with ⟨hh3, hm0⟩
  refine V.region ?_
  refine VO.cons rfl (V1.move rfl rfl rfl (ltb rfl) ?_)
  refine VO.cons rfl (V1.move rfl rfl rfl (ltb rfl) ?_)
  refine VO.cons rfl (V1.move rfl rfl rfl (ltb rfl) ?_)
  refine VO.cons rfl (V1.lenMap rfl rfl rfl rfl rfl rfl isl_24 (ltb rfl) ?_)
  refine VO.cons rfl (V1.callM 0 (rn + ρ0 + 1) [] [.ref bp 3 0 0, .int .i64 (list.length : Int)] (p := (bp, ⟨3, [encCur ρ0 (bif ((list.length : Int) == (0 : Int)) then c else y0.2)]⟩)) rfl rfl rfl cok_60 rfl rfl ⟨_, _, rfl, .same _, ⟨_, _, rfl, .same _, rfl⟩⟩ bwNil (ok_spec_l1Cur_pick hh2) rfl (.inl rfl) (ltb rfl) ?_)
  rintro _ _ ⟨rfl, rfl⟩
  refine VO.cons rfl (V1.indexI rfl rfl esz_24 rfl rfl hh3 (ltb rfl) ?_)
  refine VO.cons rfl (V1.fieldPin rfl rfl fo_34_0 rfl (ltb rfl) ?_)
  refine VO.cons rfl (V1.loadPin rfl rfl tyk_3 rfl rfl (ltb rfl) ?_)
  refine VO.cons rfl (V1.assign rfl rfl rfl (ltb rfl) ?_)
  refine VO.nil ?_
  refine V.ret ?_
  obtain rfl := Option.some.inj hm0
  exact ⟨_, _, ⟨_, _, rfl, rfl, rfl⟩, (sub1 (k := 0) rfl), rfl, rfl⟩

theorem ok_spec_DrawMayDo {ρ0 rn : Nat} {code : List Int} {r : List Clerk × Int × Int × Int} (h : M.spec_DrawMayDo code = some r) : Does Tryd.prog 16 [.vl ρ0 1 (List.map encU8 code)] [] rn (fun x H => ∃ (ob0_ : Nat), x = .tup [PV.sref ob0_ 6 0 (List.length r.1), .int .i64 r.2.1, .int .i64 r.2.2.1, .int .i64 r.2.2.2] ∧ H = [(ob0_, ⟨6, List.map encClerk r.1⟩)]) := by
 have hm0 := h; clear h; unfold M.spec_DrawMayDo at hm0
 try dsimp only at hm0
 refine Does.intro (N := 21) Tryd.func16 rfl rfl rfl rfl ?_
 intro w0 S0
 refine V.seq ?_
 refine V.region ?_
 refine VO.cons rfl (V1.assign rfl rfl rfl (ltb rfl) ?_)
 refine VO.cons rfl (V1.assign rfl rfl rfl (ltb rfl) ?_)
 refine VO.cons rfl (V1.assign rfl rfl rfl (ltb rfl) ?_)
 refine VO.cons rfl (V1.assign rfl rfl rfl (ltb rfl) ?_)
 refine VO.nil ?_
 refine V.keep 21 [0] [] (E0 := [(0, .vl ρ0 1 (List.map encU8 code))]) (H0 := []) rfl (⟨_, _, rfl, rfl, rfl⟩) (rfl) rfl ?_
 refine V.seq ?_
 refine V.region ?_
 refine VO.cons rfl (V1.move rfl rfl rfl (ltb rfl) ?_)
 refine VO.cons rfl (V1.build rfl rfl zk_54 pl_54 rfl rfl (ltb rfl) ?_)
 refine VO.cons rfl (V1.boxN (n := 3) rfl rfl rfl rfl rfl (ltb rfl) ?_)
 intro b0
 refine VO.cons rfl (V1.assign rfl rfl rfl (ltb rfl) ?_)
 refine VO.nil ?_
 refine V.keep 21 [6] [0] (E0 := [(6, .ref b0 3 0 0)]) (H0 := [(b0, ⟨3, [.agg [.vl ρ0 1 (List.map encU8 code), .int .i64 (0 : Int), .int .u64 (0 : Int)]]⟩)]) rfl (⟨_, _, rfl, rfl, rfl⟩) (⟨_, _, rfl, rfl, rfl⟩) rfl ?_
 refine V.seq ?_
 replace hm0 := bindO hm0; rcases hm0 with ⟨y0, hh0, hm0⟩
 refine V.region ?_
 refine VO.cons rfl (V1.move rfl rfl rfl (ltb rfl) ?_)
 refine VO.cons rfl (V1.callM 0 (rn + ρ0 + 1) [] [.ref b0 3 0 0] (p := (b0, ⟨3, [.agg [.vl ρ0 1 (List.map encU8 code), .int .i64 (0 : Int), .int .u64 (0 : Int)]]⟩)) rfl rfl rfl cok_37 rfl rfl ⟨_, _, rfl, .same _, rfl⟩ bwNil (ok_spec_l1Cur_clerks hh0) rfl (.inl rfl) (ltb rfl) ?_)
 rintro _ _ ⟨b1, rfl, rfl⟩
 refine VO.cons rfl (V1.assign rfl rfl rfl (ltb rfl) ?_)
 refine VO.nil ?_
 refine V.seq ?_
 replace hm0 := bindO hm0; rcases hm0 with ⟨y1, hh1, hm0⟩
 replace hm0 := bindO hm0; rcases hm0 with ⟨y2, hh2, hm0⟩
 replace hm0 := bindO hm0; rcases hm0 with ⟨y3, hh3, hm0⟩
 refine V.region ?_
 refine VO.cons rfl (V1.move rfl rfl rfl (ltb rfl) ?_)
 refine VO.cons rfl (V1.move rfl rfl rfl (ltb rfl) ?_)
 refine VO.cons rfl (V1.move rfl rfl rfl (ltb rfl) ?_)
 refine VO.cons rfl (V1.callM 1 (rn + ρ0 + 1) [b1] [.ref b0 3 0 0, .vl (rn + ρ0 + 1) 6 (List.map encClerk y0.1)] (p := (b0, ⟨3, [encCur ρ0 y0.2]⟩)) rfl rfl rfl cok_49 rfl rfl ⟨_, _, rfl, .same _, ⟨_, _, rfl, Lend.srMap 0 rfl (fun _ => rfl) (.head _), rfl⟩⟩ (bwCons (k := 0) rfl bwNil) (ok_spec_l1Cur_clerkId hh1) rfl (.inr ⟨(by first | omega | (dsimp only; omega)), by rintro _ _ ⟨rfl, rfl⟩; exact ⟨by simp [PV.no, PV.noL, optS_no, noL_iff, nbeq] <;> omega, by intro b ob h; first | exact optH_no (noL_map (fun _ => by simp [PV.no, PV.noL, noL_iff, nbeq]) _) b ob h | (simp at h; obtain ⟨rfl, rfl⟩ := h; exact noL_map (fun _ => by simp [PV.no, PV.noL, noL_iff, nbeq]) _) | (simp at h; obtain ⟨rfl, rfl⟩ := h; simp [PV.no, PV.noL, optS_no, noL_iff, nbeq] <;> omega)⟩⟩) (ltb rfl) ?_)
 rintro _ _ ⟨rfl, rfl⟩
 refine VO.cons rfl (V1.move rfl rfl rfl (ltb rfl) ?_)
 refine VO.cons rfl (V1.callM 0 (rn + ρ0 + 1) [] [.ref b0 3 0 0] (p := (b0, ⟨3, [encCur ρ0 y1.2]⟩)) rfl rfl rfl cok_38 rfl rfl ⟨_, _, rfl, .same _, rfl⟩ bwNil (ok_spec_l1Cur_rights11 hh2) rfl (.inl rfl) (ltb rfl) ?_)
 rintro _ _ ⟨rfl, rfl⟩
 refine VO.cons rfl (V1.move rfl rfl rfl (ltb rfl) ?_)
 refine VO.cons rfl (V1.callM 0 (rn + ρ0 + 1) [] [.ref b0 3 0 0] (p := (b0, ⟨3, [encCur ρ0 y2.2]⟩)) rfl rfl rfl cok_39 rfl rfl ⟨_, _, rfl, .same _, rfl⟩ bwNil (ok_spec_l1Cur_day11 hh3) rfl (.inl rfl) (ltb rfl) ?_)
 rintro _ _ ⟨rfl, rfl⟩
 refine VO.cons rfl (V1.assign rfl rfl rfl (ltb rfl) ?_)
 refine VO.cons rfl (V1.assign rfl rfl rfl (ltb rfl) ?_)
 refine VO.cons rfl (V1.assign rfl rfl rfl (ltb rfl) ?_)
 refine VO.cons rfl (V1.assign rfl rfl rfl (ltb rfl) ?_)
 refine VO.nil ?_
 refine V.keep 21 [2, 3, 4, 5] [1] (E0 := [(2, .sref b1 6 0 (List.length y0.1)), (3, .int .i64 y1.1), (4, .int .i64 y2.1), (5, .int .i64 y3.1)]) (H0 := [(b1, ⟨6, List.map encClerk y0.1⟩)]) rfl (⟨_, _, rfl, rfl, ⟨_, _, rfl, rfl, ⟨_, _, rfl, rfl, ⟨_, _, rfl, rfl, rfl⟩⟩⟩⟩) (⟨_, _, rfl, rfl, rfl⟩) rfl ?_
 refine V.ret ?_
 obtain rfl := Option.some.inj hm0
 exact ⟨_, _, ⟨_, _, rfl, rfl, ⟨_, _, rfl, rfl, ⟨_, _, rfl, rfl, ⟨_, _, rfl, rfl, rfl⟩⟩⟩⟩, List.Sublist.refl _, b1, rfl, rfl⟩

theorem ok_spec_RightsOn {ρ0 rn : Nat} {list : List Clerk} {id_ : Int} {day : Int} {r : Int × Bool} (h : M.spec_RightsOn list id_ day = some r) : Does Tryd.prog 19 [.vl ρ0 6 (List.map encClerk list), .int .i64 id_, .int .i64 day] [] rn (fun x H => x = .tup [.int .i64 r.1, .bool r.2] ∧ H = []) := by
 have hm0 := h; clear h; unfold M.spec_RightsOn at hm0
 try dsimp only at hm0
 refine Does.intro (N := 28) Tryd.func19 rfl rfl rfl rfl ?_
 intro w0 S0
 refine V.seq ?_
 refine V.region ?_
 refine VO.cons rfl (V1.assign rfl rfl rfl (ltb rfl) ?_)
 refine VO.cons rfl (V1.assign rfl rfl rfl (ltb rfl) ?_)
 refine VO.nil ?_
 refine V.seq ?_
 replace hm0 := bindO hm0; rcases hm0 with ⟨y0, hh0, hm0⟩
 refine V.region ?_
 refine VO.cons rfl (V1.move rfl rfl rfl (ltb rfl) ?_)
 refine VO.cons rfl (V1.move rfl rfl rfl (ltb rfl) ?_)
 refine VO.cons rfl (V1.call rfl rfl rfl cok_50 rfl (ok_spec_l11Find hh0) rfl (ltb rfl) ?_)
 rintro _ _ ⟨rfl, rfl⟩
 refine VO.cons rfl (V1.assign rfl rfl rfl (ltb rfl) ?_)
 refine VO.nil ?_
 refine V.keep 28 [0, 2, 8] [] (E0 := [(0, .vl ρ0 6 (List.map encClerk list)), (2, .int .i64 day), (8, .int .i64 y0)]) (H0 := []) rfl (⟨_, _, rfl, rfl, ⟨_, _, rfl, rfl, ⟨_, _, rfl, rfl, rfl⟩⟩⟩) (rfl) rfl ?_
 refine V.seq ?_
 refine V.seq ?_
 replace hm0 := bindO hm0; rcases hm0 with ⟨y1, hh1, hm0⟩
 replace hm0 := bindO hm0; rcases hm0 with ⟨y2, hh2, hm0⟩
 refine V.region ?_
 refine VO.cons rfl (V1.move rfl rfl rfl (ltb rfl) ?_)
 refine VO.cons rfl (V1.call rfl rfl rfl cok_43 rfl (ok_spec_l11Good hh1) rfl (ltb rfl) ?_)
 rintro _ _ ⟨rfl, rfl⟩
 refine VO.cons rfl (V1.not rfl rfl rfl (ltb rfl) ?_)
 refine VO.cons rfl (V1.move rfl rfl rfl (ltb rfl) ?_)
 apply VO.or (n := 2) rfl rfl rfl rfl rfl rfl (ltb rfl) (.none rfl)
 ·
  intro hg0
  refine VO.step (.some rfl rfl rfl) (V1.move rfl rfl rfl (ltb rfl) ?_)
  refine VO.step (.some rfl rfl rfl) (V1.int rfl rfl rfl rfl rfl (ltb rfl) ?_)
  exact VO.nil ⟨rfl, rfl, rfl, rfl, .inr ⟨rfl, .inr ⟨rfl, .inr ⟨rfl, .inl rfl⟩⟩⟩⟩
 refine VO.cons rfl (V1.move rfl rfl rfl (ltb rfl) ?_)
 apply VO.or (n := 3) rfl rfl rfl rfl rfl rfl (ltb rfl) (.none rfl)
 ·
  intro hg1
  refine VO.step (.some rfl rfl rfl) (V1.move rfl rfl rfl (ltb rfl) ?_)
  refine VO.step (.some rfl rfl rfl) (V1.call rfl rfl rfl cok_45 rfl (ok_spec_l2Day (cond_f hg1 hh2)) rfl (ltb rfl) ?_)
  rintro _ _ ⟨rfl, rfl⟩
  refine VO.step (.some rfl rfl rfl) (V1.not rfl rfl rfl (ltb rfl) ?_)
  exact VO.nil ⟨rfl, rfl, rfl, rfl, .inr ⟨rfl, .inr ⟨rfl, .inr ⟨rfl, .inr ⟨rfl, .inl rfl⟩⟩⟩⟩⟩
 refine VO.nil ?_
 refine V.keep 28 [0, 2, 8, 23] [] (E0 := [(0, .vl ρ0 6 (List.map encClerk list)), (2, .int .i64 day), (8, .int .i64 y0), (23, .bool (((!y1) || (decide (y0 < (0 : Int)))) || (!y2)))]) (H0 := []) rfl (⟨_, _, rfl, rfl, ⟨_, _, rfl, rfl, ⟨_, _, rfl, rfl, ⟨_, _, rfl, rfl, rfl⟩⟩⟩⟩) (rfl) rfl ?_
 refine V.cond rfl (fun hc0 => ?_) (fun hc0 => ?_)
 ·
  replace hm0 := cond_t hc0 hm0
  refine V.seq ?_
  refine V.region ?_
  refine VO.cons rfl (V1.assign rfl rfl rfl (ltb rfl) ?_)
  refine VO.cons rfl (V1.assign rfl rfl rfl (ltb rfl) ?_)
  refine VO.nil ?_
  refine V.ret ?_
  obtain rfl := Option.some.inj hm0
  exact ⟨_, [], ⟨_, _, rfl, rfl, ⟨_, _, rfl, rfl, rfl⟩⟩, List.nil_sublist _, rfl, rfl⟩
 ·
  replace hm0 := cond_f hc0 hm0
  refine V.skip ?_
  refine V.seq ?_
  replace hm0 := bindO hm0; rcases hm0 with ⟨y3, hh3, hm0⟩
  refine V.region ?_
  refine VO.cons rfl (V1.move rfl rfl rfl (ltb rfl) ?_)
  refine VO.cons rfl (V1.move rfl rfl rfl (ltb rfl) ?_)
  refine VO.cons rfl (V1.move rfl rfl rfl (ltb rfl) ?_)
  refine VO.cons rfl (V1.call rfl rfl rfl cok_51 rfl (ok_spec_l11Rights hh3) rfl (ltb rfl) ?_)
  rintro _ _ ⟨rfl, rfl⟩
  refine VO.cons rfl (V1.assign rfl rfl rfl (ltb rfl) ?_)
  refine VO.cons rfl (V1.assign rfl rfl rfl (ltb rfl) ?_)
  refine VO.nil ?_
  refine V.ret ?_
  obtain rfl := Option.some.inj hm0
  exact ⟨_, [], ⟨_, _, rfl, rfl, ⟨_, _, rfl, rfl, rfl⟩⟩, List.nil_sublist _, rfl, rfl⟩

theorem ok_spec_MayDo {ρ0 rn : Nat} {list : List Clerk} {id_ : Int} {rights : Int} {day : Int} {r : Bool × Bool} (h : M.spec_MayDo list id_ rights day = some r) : Does Tryd.prog 17 [.vl ρ0 6 (List.map encClerk list), .int .i64 id_, .int .i64 rights, .int .i64 day] [] rn (fun x H => x = .tup [.bool r.1, .bool r.2] ∧ H = []) := by
 have hm0 := h; clear h; unfold M.spec_MayDo at hm0
 try dsimp only at hm0
 refine Does.intro (N := 31) Tryd.func17 rfl rfl rfl rfl ?_
 intro w0 S0
 refine V.seq ?_
 refine V.region ?_
 refine VO.cons rfl (V1.assign rfl rfl rfl (ltb rfl) ?_)
 refine VO.cons rfl (V1.assign rfl rfl rfl (ltb rfl) ?_)
 refine VO.nil ?_
 refine V.seq ?_
 replace hm0 := bindO hm0; rcases hm0 with ⟨y0, hh0, hm0⟩
 refine V.region ?_
 refine VO.cons rfl (V1.move rfl rfl rfl (ltb rfl) ?_)
 refine VO.cons rfl (V1.move rfl rfl rfl (ltb rfl) ?_)
 refine VO.cons rfl (V1.move rfl rfl rfl (ltb rfl) ?_)
 refine VO.cons rfl (V1.call rfl rfl rfl cok_19 rfl (ok_spec_RightsOn hh0) rfl (ltb rfl) ?_)
 rintro _ _ ⟨rfl, rfl⟩
 refine VO.cons rfl (V1.move rfl rfl rfl (ltb rfl) ?_)
 refine VO.cons rfl (V1.extract rfl rfl rfl rfl (ltb rfl) ?_)
 refine VO.cons rfl (V1.extract rfl rfl rfl rfl (ltb rfl) ?_)
 refine VO.cons rfl (V1.assign rfl rfl rfl (ltb rfl) ?_)
 refine VO.cons rfl (V1.assign rfl rfl rfl (ltb rfl) ?_)
 refine VO.nil ?_
 refine V.keep 31 [2, 10, 11] [] (E0 := [(2, .int .i64 rights), (10, .int .i64 y0.1), (11, .bool y0.2)]) (H0 := []) rfl (⟨_, _, rfl, rfl, ⟨_, _, rfl, rfl, ⟨_, _, rfl, rfl, rfl⟩⟩⟩) (rfl) rfl ?_
 refine V.seq ?_
 refine V.seq ?_
 replace hm0 := bindO hm0; rcases hm0 with ⟨y1, hh1, hm0⟩
 refine V.region ?_
 refine VO.cons rfl (V1.move rfl rfl rfl (ltb rfl) ?_)
 refine VO.cons rfl (V1.not rfl rfl rfl (ltb rfl) ?_)
 refine VO.cons rfl (V1.move rfl rfl rfl (ltb rfl) ?_)
 apply VO.or (n := 3) rfl rfl rfl rfl rfl rfl (ltb rfl) (.none rfl)
 ·
  intro hg0
  refine VO.step (.some rfl rfl rfl) (V1.move rfl rfl rfl (ltb rfl) ?_)
  refine VO.step (.some rfl rfl rfl) (V1.call rfl rfl rfl cok_44 rfl (ok_spec_l11Sum (cond_f hg0 hh1)) rfl (ltb rfl) ?_)
  rintro _ _ ⟨rfl, rfl⟩
  refine VO.step (.some rfl rfl rfl) (V1.not rfl rfl rfl (ltb rfl) ?_)
  exact VO.nil ⟨rfl, rfl, rfl, rfl, .inr ⟨rfl, .inr ⟨rfl, .inr ⟨rfl, .inr ⟨rfl, .inl rfl⟩⟩⟩⟩⟩
 refine VO.nil ?_
 refine V.keep 31 [2, 10, 25] [] (E0 := [(2, .int .i64 rights), (10, .int .i64 y0.1), (25, .bool ((!y0.2) || (!y1)))]) (H0 := []) rfl (⟨_, _, rfl, rfl, ⟨_, _, rfl, rfl, ⟨_, _, rfl, rfl, rfl⟩⟩⟩) (rfl) rfl ?_
 refine V.cond rfl (fun hc0 => ?_) (fun hc0 => ?_)
 ·
  replace hm0 := cond_t hc0 hm0
  refine V.seq ?_
  refine V.region ?_
  refine VO.cons rfl (V1.assign rfl rfl rfl (ltb rfl) ?_)
  refine VO.cons rfl (V1.assign rfl rfl rfl (ltb rfl) ?_)
  refine VO.nil ?_
  refine V.ret ?_
  obtain rfl := Option.some.inj hm0
  exact ⟨_, [], ⟨_, _, rfl, rfl, ⟨_, _, rfl, rfl, rfl⟩⟩, List.nil_sublist _, rfl, rfl⟩
 ·
  replace hm0 := cond_f hc0 hm0
  refine V.skip ?_
  refine V.seq ?_
  refine V.region ?_
  refine VO.cons rfl (V1.move rfl rfl rfl (ltb rfl) ?_)
  refine VO.cons rfl (V1.move rfl rfl rfl (ltb rfl) ?_)
  refine VO.cons rfl (V1.int rfl rfl rfl rfl rfl (ltb rfl) ?_)
  refine VO.cons rfl (V1.move rfl rfl rfl (ltb rfl) ?_)
  refine VO.cons rfl (V1.int rfl rfl rfl rfl rfl (ltb rfl) ?_)
  refine VO.cons rfl (V1.assign rfl rfl rfl (ltb rfl) ?_)
  refine VO.cons rfl (V1.assign rfl rfl rfl (ltb rfl) ?_)
  refine VO.nil ?_
  refine V.ret ?_
  obtain rfl := Option.some.inj hm0
  exact ⟨_, [], ⟨_, _, rfl, rfl, ⟨_, _, rfl, rfl, rfl⟩⟩, List.nil_sublist _, rfl, rfl⟩

theorem ok_spec_DrawRightsOn {ρ0 rn : Nat} {code : List Int} {r : List Clerk × Int × Int} (h : M.spec_DrawRightsOn code = some r) : Does Tryd.prog 18 [.vl ρ0 1 (List.map encU8 code)] [] rn (fun x H => ∃ (ob0_ : Nat), x = .tup [PV.sref ob0_ 6 0 (List.length r.1), .int .i64 r.2.1, .int .i64 r.2.2] ∧ H = [(ob0_, ⟨6, List.map encClerk r.1⟩)]) := by
 have hm0 := h; clear h; unfold M.spec_DrawRightsOn at hm0
 try dsimp only at hm0
 refine Does.intro (N := 18) Tryd.func18 rfl rfl rfl rfl ?_
 intro w0 S0
 refine V.seq ?_
 refine V.region ?_
 refine VO.cons rfl (V1.assign rfl rfl rfl (ltb rfl) ?_)
 refine VO.cons rfl (V1.assign rfl rfl rfl (ltb rfl) ?_)
 refine VO.cons rfl (V1.assign rfl rfl rfl (ltb rfl) ?_)
 refine VO.nil ?_
 refine V.seq ?_
 refine V.region ?_
 refine VO.cons rfl (V1.move rfl rfl rfl (ltb rfl) ?_)
 refine VO.cons rfl (V1.build rfl rfl zk_54 pl_54 rfl rfl (ltb rfl) ?_)
 refine VO.cons rfl (V1.boxN (n := 3) rfl rfl rfl rfl rfl (ltb rfl) ?_)
 intro b0
 refine VO.cons rfl (V1.assign rfl rfl rfl (ltb rfl) ?_)
 refine VO.nil ?_
 refine V.keep 18 [5] [0] (E0 := [(5, .ref b0 3 0 0)]) (H0 := [(b0, ⟨3, [.agg [.vl ρ0 1 (List.map encU8 code), .int .i64 (0 : Int), .int .u64 (0 : Int)]]⟩)]) rfl (⟨_, _, rfl, rfl, rfl⟩) (⟨_, _, rfl, rfl, rfl⟩) rfl ?_
 refine V.seq ?_
 replace hm0 := bindO hm0; rcases hm0 with ⟨y0, hh0, hm0⟩
 refine V.region ?_
 refine VO.cons rfl (V1.move rfl rfl rfl (ltb rfl) ?_)
 refine VO.cons rfl (V1.callM 0 (rn + ρ0 + 1) [] [.ref b0 3 0 0] (p := (b0, ⟨3, [.agg [.vl ρ0 1 (List.map encU8 code), .int .i64 (0 : Int), .int .u64 (0 : Int)]]⟩)) rfl rfl rfl cok_37 rfl rfl ⟨_, _, rfl, .same _, rfl⟩ bwNil (ok_spec_l1Cur_clerks hh0) rfl (.inl rfl) (ltb rfl) ?_)
 rintro _ _ ⟨b1, rfl, rfl⟩
 refine VO.cons rfl (V1.assign rfl rfl rfl (ltb rfl) ?_)
 refine VO.nil ?_
 refine V.seq ?_
 replace hm0 := bindO hm0; rcases hm0 with ⟨y1, hh1, hm0⟩
 replace hm0 := bindO hm0; rcases hm0 with ⟨y2, hh2, hm0⟩
 refine V.region ?_
 refine VO.cons rfl (V1.move rfl rfl rfl (ltb rfl) ?_)
 refine VO.cons rfl (V1.move rfl rfl rfl (ltb rfl) ?_)
 refine VO.cons rfl (V1.move rfl rfl rfl (ltb rfl) ?_)
 refine VO.cons rfl (V1.callM 1 (rn + ρ0 + 1) [b1] [.ref b0 3 0 0, .vl (rn + ρ0 + 1) 6 (List.map encClerk y0.1)] (p := (b0, ⟨3, [encCur ρ0 y0.2]⟩)) rfl rfl rfl cok_49 rfl rfl ⟨_, _, rfl, .same _, ⟨_, _, rfl, Lend.srMap 0 rfl (fun _ => rfl) (.head _), rfl⟩⟩ (bwCons (k := 0) rfl bwNil) (ok_spec_l1Cur_clerkId hh1) rfl (.inr ⟨(by first | omega | (dsimp only; omega)), by rintro _ _ ⟨rfl, rfl⟩; exact ⟨by simp [PV.no, PV.noL, optS_no, noL_iff, nbeq] <;> omega, by intro b ob h; first | exact optH_no (noL_map (fun _ => by simp [PV.no, PV.noL, noL_iff, nbeq]) _) b ob h | (simp at h; obtain ⟨rfl, rfl⟩ := h; exact noL_map (fun _ => by simp [PV.no, PV.noL, noL_iff, nbeq]) _) | (simp at h; obtain ⟨rfl, rfl⟩ := h; simp [PV.no, PV.noL, optS_no, noL_iff, nbeq] <;> omega)⟩⟩) (ltb rfl) ?_)
 rintro _ _ ⟨rfl, rfl⟩
 refine VO.cons rfl (V1.move rfl rfl rfl (ltb rfl) ?_)
 refine VO.cons rfl (V1.callM 0 (rn + ρ0 + 1) [] [.ref b0 3 0 0] (p := (b0, ⟨3, [encCur ρ0 y1.2]⟩)) rfl rfl rfl cok_39 rfl rfl ⟨_, _, rfl, .same _, rfl⟩ bwNil (ok_spec_l1Cur_day11 hh2) rfl (.inl rfl) (ltb rfl) ?_)
 rintro _ _ ⟨rfl, rfl⟩
 refine VO.cons rfl (V1.assign rfl rfl rfl (ltb rfl) ?_)
 refine VO.cons rfl (V1.assign rfl rfl rfl (ltb rfl) ?_)
 refine VO.cons rfl (V1.assign rfl rfl rfl (ltb rfl) ?_)
 refine VO.nil ?_
 refine V.keep 18 [2, 3, 4] [1] (E0 := [(2, .sref b1 6 0 (List.length y0.1)), (3, .int .i64 y1.1), (4, .int .i64 y2.1)]) (H0 := [(b1, ⟨6, List.map encClerk y0.1⟩)]) rfl (⟨_, _, rfl, rfl, ⟨_, _, rfl, rfl, ⟨_, _, rfl, rfl, rfl⟩⟩⟩) (⟨_, _, rfl, rfl, rfl⟩) rfl ?_
 refine V.ret ?_
 obtain rfl := Option.some.inj hm0
 exact ⟨_, _, ⟨_, _, rfl, rfl, ⟨_, _, rfl, rfl, ⟨_, _, rfl, rfl, rfl⟩⟩⟩, List.Sublist.refl _, b1, rfl, rfl⟩

theorem ok_spec_AreClerks {ρ0 rn : Nat} {list : List Clerk} {r : Bool} (h : M.spec_AreClerks list = some r) : Does Tryd.prog 21 [.vl ρ0 6 (List.map encClerk list)] [] rn (fun x H => x = .bool r ∧ H = []) := by
 have hm0 := h; clear h; unfold M.spec_AreClerks at hm0
 try dsimp only at hm0
 refine Does.intro (N := 5) Tryd.func21 rfl rfl rfl rfl ?_
 intro w0 S0
 refine V.seq ?_
 refine V.region ?_
 refine VO.cons rfl (V1.assign rfl rfl rfl (ltb rfl) ?_)
 refine VO.nil ?_
 refine V.seq ?_
 replace hm0 := bindO hm0; rcases hm0 with ⟨y0, hh0, hm0⟩
 refine V.region ?_
 refine VO.cons rfl (V1.move rfl rfl rfl (ltb rfl) ?_)
 refine VO.cons rfl (V1.call rfl rfl rfl cok_43 rfl (ok_spec_l11Good hh0) rfl (ltb rfl) ?_)
 rintro _ _ ⟨rfl, rfl⟩
 refine VO.cons rfl (V1.assign rfl rfl rfl (ltb rfl) ?_)
 refine VO.nil ?_
 refine V.ret ?_
 obtain rfl := Option.some.inj hm0
 exact ⟨_, [], ⟨_, _, rfl, rfl, rfl⟩, List.nil_sublist _, rfl, rfl⟩

theorem ok_laws_FnClerks {ρ0 rn : Nat} {code : List Int} {r : Bool} (h : M.laws_FnClerks code = some r) : Does Tryd.prog 3 [.vl ρ0 1 (List.map encU8 code)] [] rn (fun x H => x = .bool r ∧ H = []) := by
 have hm0 := h; clear h; unfold M.laws_FnClerks at hm0
 try dsimp only at hm0
 refine Does.intro (N := 238) Tryd.func3 rfl rfl rfl rfl ?_
 intro w0 S0
 refine V.seq ?_
 refine V.region ?_
 refine VO.cons rfl (V1.assign rfl rfl rfl (ltb rfl) ?_)
 refine VO.nil ?_
 refine V.seq ?_
 refine V.seq ?_
 replace hm0 := bindO hm0; rcases hm0 with ⟨y0, hh0, hm0⟩
 refine V.region ?_
 refine VO.cons rfl (V1.move rfl rfl rfl (ltb rfl) ?_)
 refine VO.cons rfl (V1.call rfl rfl rfl cok_5 rfl (ok_laws_rBig hh0) rfl (ltb rfl) ?_)
 rintro _ _ ⟨rfl, rfl⟩
 refine VO.nil ?_
 refine V.cond rfl (fun hc0 => ?_) (fun hc0 => ?_)
 ·
  replace hm0 := cond_t hc0 hm0
  refine V.seq ?_
  refine V.region ?_
  refine VO.cons rfl (V1.assign rfl rfl rfl (ltb rfl) ?_)
  refine VO.nil ?_
  refine V.ret ?_
  obtain rfl := Option.some.inj hm0
  exact ⟨_, [], ⟨_, _, rfl, rfl, rfl⟩, List.nil_sublist _, rfl, rfl⟩
 ·
  replace hm0 := cond_f hc0 hm0
  refine V.skip ?_
  refine V.seq ?_
  replace hm0 := bindO hm0; rcases hm0 with ⟨y1, hh1, hm0⟩
  refine V.region ?_
  refine VO.cons rfl (V1.move rfl rfl rfl (ltb rfl) ?_)
  refine VO.cons rfl (V1.call rfl rfl rfl cok_6 rfl (ok_spec_DrawWhoMay hh1) rfl (ltb rfl) ?_)
  rintro _ _ ⟨b0, rfl, rfl⟩
  refine VO.cons rfl (V1.move rfl rfl rfl (ltb rfl) ?_)
  refine VO.cons rfl (V1.extract rfl rfl rfl rfl (ltb rfl) ?_)
  refine VO.weakenK (Keeps.freezeG 0 rn [(43, .vl rn 6 (List.map encClerk y1.1))] [] (f := encClerk) (l := y1.1) rfl (fun _ => rfl) ⟨⟨_, rfl, .here⟩, trivial⟩ rfl rfl iNil) ?_
  refine VO.cons rfl (V1.extract rfl rfl rfl rfl (ltb rfl) ?_)
  refine VO.cons rfl (V1.extract rfl rfl rfl rfl (ltb rfl) ?_)
  refine VO.cons rfl (V1.assign rfl rfl rfl (ltb rfl) ?_)
  refine VO.cons rfl (V1.assign rfl rfl rfl (ltb rfl) ?_)
  refine VO.cons rfl (V1.assign rfl rfl rfl (ltb rfl) ?_)
  refine VO.nil ?_
  refine V.keep 238 [0, 3, 4, 5] [] (E0 := [(0, .vl ρ0 1 (List.map encU8 code)), (3, .vl rn 6 (List.map encClerk y1.1)), (4, .int .i64 y1.2.1), (5, .int .i64 y1.2.2)]) (H0 := []) rfl (⟨_, _, rfl, rfl, ⟨_, _, rfl, rfl, ⟨_, _, rfl, rfl, ⟨_, _, rfl, rfl, rfl⟩⟩⟩⟩) (rfl) rfl ?_
  refine V.seq ?_
  replace hm0 := bindO hm0; rcases hm0 with ⟨y2, hh2, hm0⟩
  refine V.region ?_
  refine VO.cons rfl (V1.move rfl rfl rfl (ltb rfl) ?_)
  refine VO.cons rfl (V1.move rfl rfl rfl (ltb rfl) ?_)
  refine VO.cons rfl (V1.move rfl rfl rfl (ltb rfl) ?_)
  refine VO.cons rfl (V1.permK (V1.call rfl rfl rfl cok_7 rfl (ok_impl_WhoMay hh2) rfl (ltb rfl) ?_))
  rintro _ _ ⟨ob0, hob0, rfl, rfl⟩
  refine ⟨_, ?_, Keeps.optBack (n := 1) (ob := ob0) (xs := List.map encInt y2.1) (H1 := []) (H2 := []) rfl⟩
  refine VO.cons rfl (V1.move rfl rfl rfl (ltb rfl) ?_)
  refine VO.cons rfl (V1.extract rfl rfl rfl rfl (ltb rfl) ?_)
  refine VO.weakenK (Keeps.optFront (n := 1) (ob := ob0) (xs := List.map encInt y2.1) (H1 := []) rfl) ?_
  refine VO.weakenK (Keeps.optVl 51 [] rn (f := encInt) (l := y2.1) (ob := ob0) (H1 := []) hob0 rfl rfl ⟨rfl, trivial⟩ (fun _ => rfl) rfl iNil) ?_
  refine VO.cons rfl (V1.extract rfl rfl rfl rfl (ltb rfl) ?_)
  refine VO.cons rfl (V1.assign rfl rfl rfl (ltb rfl) ?_)
  refine VO.cons rfl (V1.assign rfl rfl rfl (ltb rfl) ?_)
  refine VO.nil ?_
  refine V.keep 238 [0, 3, 4, 5, 6, 7] [] (E0 := [(0, .vl ρ0 1 (List.map encU8 code)), (3, .vl rn 6 (List.map encClerk y1.1)), (4, .int .i64 y1.2.1), (5, .int .i64 y1.2.2), (6, .vl rn 1 (List.map encInt y2.1)), (7, .bool y2.2)]) (H0 := []) rfl (⟨_, _, rfl, rfl, ⟨_, _, rfl, rfl, ⟨_, _, rfl, rfl, ⟨_, _, rfl, rfl, ⟨_, _, rfl, rfl, ⟨_, _, rfl, rfl, rfl⟩⟩⟩⟩⟩⟩) (rfl) rfl ?_
  refine V.seq ?_
  refine V.seq ?_
  replace hm0 := bindO hm0; rcases hm0 with ⟨y3, hh3, hm0⟩
  refine V.region ?_
  refine VO.cons rfl (V1.move rfl rfl rfl (ltb rfl) ?_)
  refine VO.cons rfl (V1.move rfl rfl rfl (ltb rfl) ?_)
  refine VO.cons rfl (V1.move rfl rfl rfl (ltb rfl) ?_)
  refine VO.cons rfl (V1.call rfl rfl rfl cok_8 rfl (ok_spec_WhoMay hh3) rfl (ltb rfl) ?_)
  rintro _ _ ⟨b1, rfl, rfl⟩
  refine VO.cons rfl (V1.move rfl rfl rfl (ltb rfl) ?_)
  refine VO.cons rfl (V1.extract rfl rfl rfl rfl (ltb rfl) ?_)
  refine VO.weakenK (Keeps.freezeG 0 rn [(58, .vl rn 1 (List.map encInt y3.1))] [] (f := encInt) (l := y3.1) rfl (fun _ => rfl) ⟨⟨_, rfl, .here⟩, trivial⟩ rfl rfl iNil) ?_
  refine VO.cons rfl (V1.extract rfl rfl rfl rfl (ltb rfl) ?_)
  refine VO.cons rfl (V1.assign rfl rfl rfl (ltb rfl) ?_)
  refine VO.cons rfl (V1.assign rfl rfl rfl (ltb rfl) ?_)
  refine VO.nil ?_
  refine V.keep 238 [0, 3, 4, 5, 6, 7, 8, 9] [] (E0 := [(0, .vl ρ0 1 (List.map encU8 code)), (3, .vl rn 6 (List.map encClerk y1.1)), (4, .int .i64 y1.2.1), (5, .int .i64 y1.2.2), (6, .vl rn 1 (List.map encInt y2.1)), (7, .bool y2.2), (8, .vl rn 1 (List.map encInt y3.1)), (9, .bool y3.2)]) (H0 := []) rfl (⟨_, _, rfl, rfl, ⟨_, _, rfl, rfl, ⟨_, _, rfl, rfl, ⟨_, _, rfl, rfl, ⟨_, _, rfl, rfl, ⟨_, _, rfl, rfl, ⟨_, _, rfl, rfl, ⟨_, _, rfl, rfl, rfl⟩⟩⟩⟩⟩⟩⟩⟩) (rfl) rfl ?_
  refine V.seq ?_
  replace hm0 := bindO hm0; rcases hm0 with ⟨y4, hh4, hm0⟩
  refine V.region ?_
  refine VO.cons rfl (V1.move rfl rfl rfl (ltb rfl) ?_)
  refine VO.cons rfl (V1.move rfl rfl rfl (ltb rfl) ?_)
  refine VO.cons rfl (V1.boolNeq rfl rfl und_4 rfl rfl (ltb rfl) ?_)
  refine VO.cons rfl (V1.move rfl rfl rfl (ltb rfl) ?_)
  apply VO.or (n := 4) rfl rfl rfl rfl rfl rfl (ltb rfl) (.none rfl)
  ·
   intro hg0
   refine VO.step (.some rfl rfl rfl) (V1.move rfl rfl rfl (ltb rfl) ?_)
   refine VO.step (.some rfl rfl rfl) (V1.move rfl rfl rfl (ltb rfl) ?_)
   refine VO.step (.some rfl rfl rfl) (V1.call rfl rfl rfl cok_9 rfl (ok_laws_rInts (cond_f hg0 hh4)) rfl (ltb rfl) ?_)
   rintro _ _ ⟨rfl, rfl⟩
   refine VO.step (.some rfl rfl rfl) (V1.not rfl rfl rfl (ltb rfl) ?_)
   exact VO.nil ⟨rfl, rfl, rfl, rfl, .inr ⟨rfl, .inr ⟨rfl, .inr ⟨rfl, .inr ⟨rfl, .inr ⟨rfl, .inl rfl⟩⟩⟩⟩⟩⟩
  refine VO.nil ?_
  refine V.keep 238 [0, 3, 4, 5, 6, 7, 68] [] (E0 := [(0, .vl ρ0 1 (List.map encU8 code)), (3, .vl rn 6 (List.map encClerk y1.1)), (4, .int .i64 y1.2.1), (5, .int .i64 y1.2.2), (6, .vl rn 1 (List.map encInt y2.1)), (7, .bool y2.2), (68, .bool ((!(y2.2 == y3.2)) || (!y4)))]) (H0 := []) rfl (⟨_, _, rfl, rfl, ⟨_, _, rfl, rfl, ⟨_, _, rfl, rfl, ⟨_, _, rfl, rfl, ⟨_, _, rfl, rfl, ⟨_, _, rfl, rfl, ⟨_, _, rfl, rfl, rfl⟩⟩⟩⟩⟩⟩⟩) (rfl) rfl ?_
  refine V.cond rfl (fun hc1 => ?_) (fun hc1 => ?_)
  ·
   replace hm0 := cond_t hc1 hm0
   refine V.seq ?_
   refine V.region ?_
   refine VO.cons rfl (V1.assign rfl rfl rfl (ltb rfl) ?_)
   refine VO.nil ?_
   refine V.ret ?_
   obtain rfl := Option.some.inj hm0
   exact ⟨_, [], ⟨_, _, rfl, rfl, rfl⟩, List.nil_sublist _, rfl, rfl⟩
  ·
   replace hm0 := cond_f hc1 hm0
   refine V.skip ?_
   refine V.seq ?_
   refine V.seq ?_
   refine V.region ?_
   refine VO.cons rfl (V1.assign rfl rfl rfl (ltb rfl) ?_)
   refine VO.nil ?_
   replace hm0 := bindO hm0; rcases hm0 with ⟨e0, he1, hm0⟩
   refine V.cutT (D := (Unit) × (Unit)) (fun ⟨_, _⟩ => ⟨238, [(0, .vl ρ0 1 (List.map encU8 code))], []⟩) (fun ⟨_, _⟩ => (.inl () = e0)) ?_ ?_
   ·
    refine V.block ?_
    refine V.keep 238 [10, 0, 3, 4, 5, 6, 7] [] (E0 := [(10, .int .i64 (0 : Int)), (0, .vl ρ0 1 (List.map encU8 code)), (3, .vl rn 6 (List.map encClerk y1.1)), (4, .int .i64 y1.2.1), (5, .int .i64 y1.2.2), (6, .vl rn 1 (List.map encInt y2.1)), (7, .bool y2.2)]) (H0 := []) rfl (⟨_, _, rfl, rfl, ⟨_, _, rfl, rfl, ⟨_, _, rfl, rfl, ⟨_, _, rfl, rfl, ⟨_, _, rfl, rfl, ⟨_, _, rfl, rfl, ⟨_, _, rfl, rfl, rfl⟩⟩⟩⟩⟩⟩⟩) (rfl) rfl ?_
    refine V.loopE (D := Nat × (Int) × (Unit)) (fun ⟨n0, i, _⟩ => [(10, .int .i64 i)]) (fun ⟨n0, i, _⟩ => []) (fun ⟨n0, i, _⟩ => loopO (M.laws_FnClerks_l0 y1 y2) n0 i = some e0) (fun ⟨n0, _, _⟩ => n0) (rounds, (0 : Int), ()) rfl he1 ?_
    rintro ⟨n0, i, _⟩ hP0
    obtain ⟨m0, y5, rfl, hm1, hl1, hr1⟩ := loop_head hP0
    unfold M.laws_FnClerks_l0 at hm1; dsimp only at hm1
    show V _ _ _ ⟨238, [(10, .int .i64 i), (0, .vl ρ0 1 (List.map encU8 code)), (3, .vl rn 6 (List.map encClerk y1.1)), (4, .int .i64 y1.2.1), (5, .int .i64 y1.2.2), (6, .vl rn 1 (List.map encInt y2.1)), (7, .bool y2.2)], []⟩
    refine V.seq ?_
    refine V.seq ?_
    refine V.region ?_
    refine VO.cons rfl (V1.move rfl rfl rfl (ltb rfl) ?_)
    refine VO.cons rfl (V1.move rfl rfl rfl (ltb rfl) ?_)
    refine VO.cons rfl (V1.lenMap rfl rfl rfl rfl rfl rfl isl_24 (ltb rfl) ?_)
    refine VO.cons rfl (V1.int rfl rfl rfl rfl rfl (ltb rfl) ?_)
    refine VO.cons rfl (V1.move rfl rfl rfl (ltb rfl) ?_)
    apply VO.and (n := 1) rfl rfl rfl rfl rfl rfl (ltb rfl) (.none rfl)
    ·
     intro hg1
     refine VO.step (.some rfl rfl rfl) (V1.move rfl rfl rfl (ltb rfl) ?_)
     exact VO.nil ⟨rfl, rfl, rfl, rfl, .inr ⟨rfl, .inr ⟨rfl, .inl rfl⟩⟩⟩
    refine VO.nil ?_
    refine V.keep 238 [0, 3, 4, 5, 6, 7, 10, 75] [] (E0 := [(0, .vl ρ0 1 (List.map encU8 code)), (3, .vl rn 6 (List.map encClerk y1.1)), (4, .int .i64 y1.2.1), (5, .int .i64 y1.2.2), (6, .vl rn 1 (List.map encInt y2.1)), (7, .bool y2.2), (10, .int .i64 i), (75, .bool ((decide (i < (y1.1.length : Int))) && y2.2))]) (H0 := []) rfl (⟨_, _, rfl, rfl, ⟨_, _, rfl, rfl, ⟨_, _, rfl, rfl, ⟨_, _, rfl, rfl, ⟨_, _, rfl, rfl, ⟨_, _, rfl, rfl, ⟨_, _, rfl, rfl, ⟨_, _, rfl, rfl, rfl⟩⟩⟩⟩⟩⟩⟩⟩) (rfl) rfl ?_
    refine V.cond rfl (fun hc2 => ?_) (fun hc2 => ?_)
    ·
     replace hm1 := cond_t hc2 hm1
     refine V.skip ?_
     refine V.seq ?_
     refine V.block ?_
     refine V.seq ?_
     replace hm1 := asrt_some hm1; rcases hm1 with ⟨hh5, hm1⟩
     replace hm1 := bindO hm1; rcases hm1 with ⟨y6, hh6, hm1⟩
     refine V.region ?_
     refine VO.cons rfl (V1.move rfl rfl rfl (ltb rfl) ?_)
     refine VO.cons rfl (V1.move rfl rfl rfl (ltb rfl) ?_)
     refine VO.cons rfl (V1.move rfl rfl rfl (ltb rfl) ?_)
     refine VO.cons rfl (V1.indexI rfl rfl esz_24 rfl rfl hh5 (ltb rfl) ?_)
     refine VO.cons rfl (V1.fieldPin rfl rfl fo_34_0 rfl (ltb rfl) ?_)
     refine VO.cons rfl (V1.loadPin rfl rfl tyk_3 rfl rfl (ltb rfl) ?_)
     refine VO.cons rfl (V1.move rfl rfl rfl (ltb rfl) ?_)
     refine VO.cons rfl (V1.call rfl rfl rfl cok_10 rfl (ok_impl_RightsOn hh6) rfl (ltb rfl) ?_)
     rintro _ _ ⟨rfl, rfl⟩
     refine VO.cons rfl (V1.move rfl rfl rfl (ltb rfl) ?_)
     refine VO.cons rfl (V1.extract rfl rfl rfl rfl (ltb rfl) ?_)
     refine VO.cons rfl (V1.extract rfl rfl rfl rfl (ltb rfl) ?_)
     refine VO.cons rfl (V1.assign rfl rfl rfl (ltb rfl) ?_)
     refine VO.cons rfl (V1.assign rfl rfl rfl (ltb rfl) ?_)
     refine VO.nil ?_
     refine V.keep 238 [0, 3, 4, 5, 6, 7, 10, 11, 12] [] (E0 := [(0, .vl ρ0 1 (List.map encU8 code)), (3, .vl rn 6 (List.map encClerk y1.1)), (4, .int .i64 y1.2.1), (5, .int .i64 y1.2.2), (6, .vl rn 1 (List.map encInt y2.1)), (7, .bool y2.2), (10, .int .i64 i), (11, .int .i64 y6.1), (12, .bool y6.2)]) (H0 := []) rfl (⟨_, _, rfl, rfl, ⟨_, _, rfl, rfl, ⟨_, _, rfl, rfl, ⟨_, _, rfl, rfl, ⟨_, _, rfl, rfl, ⟨_, _, rfl, rfl, ⟨_, _, rfl, rfl, ⟨_, _, rfl, rfl, ⟨_, _, rfl, rfl, rfl⟩⟩⟩⟩⟩⟩⟩⟩⟩) (rfl) rfl ?_
     refine V.seq ?_
     replace hm1 := asrt_some hm1; rcases hm1 with ⟨hh7, hm1⟩
     replace hm1 := bindO hm1; rcases hm1 with ⟨y7, hh8, hm1⟩
     refine V.region ?_
     refine VO.cons rfl (V1.move rfl rfl rfl (ltb rfl) ?_)
     refine VO.cons rfl (V1.move rfl rfl rfl (ltb rfl) ?_)
     refine VO.cons rfl (V1.move rfl rfl rfl (ltb rfl) ?_)
     refine VO.cons rfl (V1.indexI rfl rfl esz_24 rfl rfl hh7 (ltb rfl) ?_)
     refine VO.cons rfl (V1.fieldPin rfl rfl fo_34_0 rfl (ltb rfl) ?_)
     refine VO.cons rfl (V1.loadPin rfl rfl tyk_3 rfl rfl (ltb rfl) ?_)
     refine VO.cons rfl (V1.move rfl rfl rfl (ltb rfl) ?_)
     refine VO.cons rfl (V1.move rfl rfl rfl (ltb rfl) ?_)
     refine VO.cons rfl (V1.call rfl rfl rfl cok_11 rfl (ok_impl_MayDo hh8) rfl (ltb rfl) ?_)
     rintro _ _ ⟨rfl, rfl⟩
     refine VO.cons rfl (V1.move rfl rfl rfl (ltb rfl) ?_)
     refine VO.cons rfl (V1.extract rfl rfl rfl rfl (ltb rfl) ?_)
     refine VO.cons rfl (V1.extract rfl rfl rfl rfl (ltb rfl) ?_)
     refine VO.cons rfl (V1.assign rfl rfl rfl (ltb rfl) ?_)
     refine VO.cons rfl (V1.assign rfl rfl rfl (ltb rfl) ?_)
     refine VO.nil ?_
     refine V.keep 238 [0, 3, 4, 5, 6, 7, 10, 11, 12, 13, 14] [] (E0 := [(0, .vl ρ0 1 (List.map encU8 code)), (3, .vl rn 6 (List.map encClerk y1.1)), (4, .int .i64 y1.2.1), (5, .int .i64 y1.2.2), (6, .vl rn 1 (List.map encInt y2.1)), (7, .bool y2.2), (10, .int .i64 i), (11, .int .i64 y6.1), (12, .bool y6.2), (13, .bool y7.1), (14, .bool y7.2)]) (H0 := []) rfl (⟨_, _, rfl, rfl, ⟨_, _, rfl, rfl, ⟨_, _, rfl, rfl, ⟨_, _, rfl, rfl, ⟨_, _, rfl, rfl, ⟨_, _, rfl, rfl, ⟨_, _, rfl, rfl, ⟨_, _, rfl, rfl, ⟨_, _, rfl, rfl, ⟨_, _, rfl, rfl, ⟨_, _, rfl, rfl, rfl⟩⟩⟩⟩⟩⟩⟩⟩⟩⟩⟩) (rfl) rfl ?_
     refine V.seq ?_
     replace hm1 := asrt_some hm1; rcases hm1 with ⟨hh9, hm1⟩
     replace hm1 := bindO hm1; rcases hm1 with ⟨y8, hh10, hm1⟩
     refine V.region ?_
     refine VO.cons rfl (V1.move rfl rfl rfl (ltb rfl) ?_)
     refine VO.cons rfl (V1.not rfl rfl rfl (ltb rfl) ?_)
     refine VO.cons rfl (V1.move rfl rfl rfl (ltb rfl) ?_)
     apply VO.or (n := 2) rfl rfl rfl rfl rfl rfl (ltb rfl) (.none rfl)
     ·
      intro hg2
      refine VO.step (.some rfl rfl rfl) (V1.move rfl rfl rfl (ltb rfl) ?_)
      refine VO.step (.some rfl rfl rfl) (V1.not rfl rfl rfl (ltb rfl) ?_)
      exact VO.nil ⟨rfl, rfl, rfl, rfl, .inr ⟨rfl, .inr ⟨rfl, .inr ⟨rfl, .inl rfl⟩⟩⟩⟩
     refine VO.cons rfl (V1.move rfl rfl rfl (ltb rfl) ?_)
     apply VO.or (n := 9) rfl rfl rfl rfl rfl rfl (ltb rfl) (.none rfl)
     ·
      intro hg3
      refine VO.step (.some rfl rfl rfl) (V1.move rfl rfl rfl (ltb rfl) ?_)
      refine VO.step (.some rfl rfl rfl) (V1.move rfl rfl rfl (ltb rfl) ?_)
      refine VO.step (.some rfl rfl rfl) (V1.move rfl rfl rfl (ltb rfl) ?_)
      refine VO.step (.some rfl rfl rfl) (V1.move rfl rfl rfl (ltb rfl) ?_)
      refine VO.step (.some rfl rfl rfl) (V1.indexI rfl rfl esz_24 rfl rfl (hh9 hg3) (ltb rfl) ?_)
      refine VO.step (.some rfl rfl rfl) (V1.fieldPin rfl rfl fo_34_0 rfl (ltb rfl) ?_)
      refine VO.step (.some rfl rfl rfl) (V1.loadPin rfl rfl tyk_3 rfl rfl (ltb rfl) ?_)
      refine VO.step (.some rfl rfl rfl) (V1.call rfl rfl rfl cok_12 rfl (ok_laws_rHas (cond_f hg3 hh10)) rfl (ltb rfl) ?_)
      rintro _ _ ⟨rfl, rfl⟩
      refine VO.step (.some rfl rfl rfl) (V1.boolNeq rfl rfl und_4 rfl rfl (ltb rfl) ?_)
      exact VO.nil ⟨rfl, rfl, rfl, rfl, .inr ⟨rfl, .inr ⟨rfl, .inr ⟨rfl, .inr ⟨rfl, .inr ⟨rfl, .inr ⟨rfl, .inr ⟨rfl, .inr ⟨rfl, .inr ⟨rfl, .inr ⟨rfl, .inl rfl⟩⟩⟩⟩⟩⟩⟩⟩⟩⟩⟩
     refine VO.cons rfl (V1.move rfl rfl rfl (ltb rfl) ?_)
     apply VO.or (n := 7) rfl rfl rfl rfl rfl rfl (ltb rfl) (.none rfl)
     ·
      intro hg4
      refine VO.step (.some rfl rfl rfl) (V1.move rfl rfl rfl (ltb rfl) ?_)
      refine VO.step (.some rfl rfl rfl) (V1.move rfl rfl rfl (ltb rfl) ?_)
      refine VO.step (.some rfl rfl rfl) (V1.move rfl rfl rfl (ltb rfl) ?_)
      refine VO.step (.some rfl rfl rfl) (V1.int rfl rfl rfl rfl rfl (ltb rfl) ?_)
      refine VO.step (.some rfl rfl rfl) (V1.move rfl rfl rfl (ltb rfl) ?_)
      refine VO.step (.some rfl rfl rfl) (V1.int rfl rfl rfl rfl rfl (ltb rfl) ?_)
      refine VO.step (.some rfl rfl rfl) (V1.boolNeq rfl rfl und_4 rfl rfl (ltb rfl) ?_)
      exact VO.nil ⟨rfl, rfl, rfl, rfl, .inr ⟨rfl, .inr ⟨rfl, .inr ⟨rfl, .inr ⟨rfl, .inr ⟨rfl, .inr ⟨rfl, .inr ⟨rfl, .inr ⟨rfl, .inl rfl⟩⟩⟩⟩⟩⟩⟩⟩⟩
     refine VO.cons rfl (V1.move rfl rfl rfl (ltb rfl) ?_)
     apply VO.or (n := 3) rfl rfl rfl rfl rfl rfl (ltb rfl) (.none rfl)
     ·
      intro hg5
      refine VO.step (.some rfl rfl rfl) (V1.move rfl rfl rfl (ltb rfl) ?_)
      refine VO.step (.some rfl rfl rfl) (V1.int rfl rfl rfl rfl rfl (ltb rfl) ?_)
      refine VO.step (.some rfl rfl rfl) (V1.int rfl rfl rfl rfl rfl (ltb rfl) ?_)
      exact VO.nil ⟨rfl, rfl, rfl, rfl, .inr ⟨rfl, .inr ⟨rfl, .inr ⟨rfl, .inr ⟨rfl, .inl rfl⟩⟩⟩⟩⟩
     refine VO.nil ?_
     refine V.keep 238 [0, 3, 4, 5, 6, 7, 10, 131] [] (E0 := [(0, .vl ρ0 1 (List.map encU8 code)), (3, .vl rn 6 (List.map encClerk y1.1)), (4, .int .i64 y1.2.1), (5, .int .i64 y1.2.2), (6, .vl rn 1 (List.map encInt y2.1)), (7, .bool y2.2), (10, .int .i64 i), (131, .bool (((((!y6.2) || (!y7.2)) || (!(y7.1 == y8))) || (!(y7.1 == ((IntKind.i64.wrap (BitVec.ofInt IntKind.i64.bits y6.1 &&& BitVec.ofInt IntKind.i64.bits y1.2.1).toNat) == y1.2.1)))) || ((IntKind.i64.wrap (BitVec.ofInt IntKind.i64.bits y6.1 &&& BitVec.ofInt IntKind.i64.bits (10 : Int)).toNat) == (10 : Int))))]) (H0 := []) rfl (⟨_, _, rfl, rfl, ⟨_, _, rfl, rfl, ⟨_, _, rfl, rfl, ⟨_, _, rfl, rfl, ⟨_, _, rfl, rfl, ⟨_, _, rfl, rfl, ⟨_, _, rfl, rfl, ⟨_, _, rfl, rfl, rfl⟩⟩⟩⟩⟩⟩⟩⟩) (rfl) rfl ?_
     refine V.cond rfl (fun hc3 => ?_) (fun hc3 => ?_)
     ·
      replace hm1 := cond_t hc3 hm1
      refine V.seq ?_
      refine V.region ?_
      refine VO.cons rfl (V1.assign rfl rfl rfl (ltb rfl) ?_)
      refine VO.nil ?_
      refine V.ret ?_
      obtain rfl := hr1 _ (Option.some.inj hm1).symm
      change some _ = some _ at hm0
      obtain rfl := Option.some.inj hm0
      exact ⟨_, [], ⟨_, _, rfl, rfl, rfl⟩, List.nil_sublist _, rfl, rfl⟩
     ·
      replace hm1 := cond_f hc3 hm1
      refine V.skip ?_
      refine V.region ?_
      refine VO.cons rfl (V1.move rfl rfl rfl (ltb rfl) ?_)
      refine VO.cons rfl (V1.int rfl rfl rfl rfl rfl (ltb rfl) ?_)
      refine VO.cons rfl (V1.assign rfl rfl rfl (ltb rfl) ?_)
      refine VO.nil ?_
      exact ⟨(m0, (IntKind.i64.wrap (i + (1 : Int))), ()), hl1 _ (Option.some.inj hm1).symm, Nat.lt_succ_self _, Keeps.mk (ks := []) rfl ⟨rfl, rfl, rfl, rfl, rfl, rfl, rfl, trivial⟩ (rfl) rfl⟩
    ·
     replace hm1 := cond_f hc2 hm1
     refine V.exit ?_
     obtain rfl := hr1 _ (Option.some.inj hm1).symm
     exact ⟨((), ()), rfl, Keeps.mk (ks := []) rfl ⟨rfl, trivial⟩ (rfl) rfl⟩
   ·
    rintro ⟨_, _⟩ rfl
    try dsimp only at hm0
    refine V.seq ?_
    replace hm0 := bindO hm0; rcases hm0 with ⟨y9, hh11, hm0⟩
    refine V.region ?_
    refine VO.cons rfl (V1.move rfl rfl rfl (ltb rfl) ?_)
    refine VO.cons rfl (V1.call rfl rfl rfl cok_13 rfl (ok_spec_DrawPairFor hh11) rfl (ltb rfl) ?_)
    rintro _ _ ⟨b2, rfl, rfl⟩
    refine VO.cons rfl (V1.move rfl rfl rfl (ltb rfl) ?_)
    refine VO.cons rfl (V1.extract rfl rfl rfl rfl (ltb rfl) ?_)
    refine VO.weakenK (Keeps.freezeG 0 rn [(135, .vl rn 6 (List.map encClerk y9.1))] [] (f := encClerk) (l := y9.1) rfl (fun _ => rfl) ⟨⟨_, rfl, .here⟩, trivial⟩ rfl rfl iNil) ?_
    refine VO.cons rfl (V1.extract rfl rfl rfl rfl (ltb rfl) ?_)
    refine VO.cons rfl (V1.assign rfl rfl rfl (ltb rfl) ?_)
    refine VO.cons rfl (V1.assign rfl rfl rfl (ltb rfl) ?_)
    refine VO.nil ?_
    refine V.keep 238 [0, 15, 16] [] (E0 := [(0, .vl ρ0 1 (List.map encU8 code)), (15, .vl rn 6 (List.map encClerk y9.1)), (16, .int .i64 y9.2)]) (H0 := []) rfl (⟨_, _, rfl, rfl, ⟨_, _, rfl, rfl, ⟨_, _, rfl, rfl, rfl⟩⟩⟩) (rfl) rfl ?_
    refine V.seq ?_
    replace hm0 := bindO hm0; rcases hm0 with ⟨y10, hh12, hm0⟩
    refine V.region ?_
    refine VO.cons rfl (V1.move rfl rfl rfl (ltb rfl) ?_)
    refine VO.cons rfl (V1.move rfl rfl rfl (ltb rfl) ?_)
    refine VO.cons rfl (V1.call rfl rfl rfl cok_14 rfl (ok_impl_PairFor hh12) rfl (ltb rfl) ?_)
    rintro _ _ ⟨rfl, rfl⟩
    refine VO.cons rfl (V1.move rfl rfl rfl (ltb rfl) ?_)
    refine VO.cons rfl (V1.extract rfl rfl rfl rfl (ltb rfl) ?_)
    refine VO.cons rfl (V1.extract rfl rfl rfl rfl (ltb rfl) ?_)
    refine VO.cons rfl (V1.extract rfl rfl rfl rfl (ltb rfl) ?_)
    refine VO.cons rfl (V1.assign rfl rfl rfl (ltb rfl) ?_)
    refine VO.cons rfl (V1.assign rfl rfl rfl (ltb rfl) ?_)
    refine VO.cons rfl (V1.assign rfl rfl rfl (ltb rfl) ?_)
    refine VO.nil ?_
    refine V.keep 238 [0, 15, 16, 17, 18, 19] [] (E0 := [(0, .vl ρ0 1 (List.map encU8 code)), (15, .vl rn 6 (List.map encClerk y9.1)), (16, .int .i64 y9.2), (17, .int .i64 y10.1), (18, .int .i64 y10.2.1), (19, .bool y10.2.2)]) (H0 := []) rfl (⟨_, _, rfl, rfl, ⟨_, _, rfl, rfl, ⟨_, _, rfl, rfl, ⟨_, _, rfl, rfl, ⟨_, _, rfl, rfl, ⟨_, _, rfl, rfl, rfl⟩⟩⟩⟩⟩⟩) (rfl) rfl ?_
    refine V.seq ?_
    refine V.seq ?_
    replace hm0 := bindO hm0; rcases hm0 with ⟨y11, hh13, hm0⟩
    refine V.region ?_
    refine VO.cons rfl (V1.move rfl rfl rfl (ltb rfl) ?_)
    refine VO.cons rfl (V1.move rfl rfl rfl (ltb rfl) ?_)
    refine VO.cons rfl (V1.call rfl rfl rfl cok_15 rfl (ok_spec_PairFor hh13) rfl (ltb rfl) ?_)
    rintro _ _ ⟨rfl, rfl⟩
    refine VO.cons rfl (V1.move rfl rfl rfl (ltb rfl) ?_)
    refine VO.cons rfl (V1.extract rfl rfl rfl rfl (ltb rfl) ?_)
    refine VO.cons rfl (V1.extract rfl rfl rfl rfl (ltb rfl) ?_)
    refine VO.cons rfl (V1.extract rfl rfl rfl rfl (ltb rfl) ?_)
    refine VO.cons rfl (V1.assign rfl rfl rfl (ltb rfl) ?_)
    refine VO.cons rfl (V1.assign rfl rfl rfl (ltb rfl) ?_)
    refine VO.cons rfl (V1.assign rfl rfl rfl (ltb rfl) ?_)
    refine VO.nil ?_
    refine V.keep 238 [0, 17, 18, 19, 20, 21, 22] [] (E0 := [(0, .vl ρ0 1 (List.map encU8 code)), (17, .int .i64 y10.1), (18, .int .i64 y10.2.1), (19, .bool y10.2.2), (20, .int .i64 y11.1), (21, .int .i64 y11.2.1), (22, .bool y11.2.2)]) (H0 := []) rfl (⟨_, _, rfl, rfl, ⟨_, _, rfl, rfl, ⟨_, _, rfl, rfl, ⟨_, _, rfl, rfl, ⟨_, _, rfl, rfl, ⟨_, _, rfl, rfl, ⟨_, _, rfl, rfl, rfl⟩⟩⟩⟩⟩⟩⟩) (rfl) rfl ?_
    refine V.seq ?_
    refine V.region ?_
    refine VO.cons rfl (V1.move rfl rfl rfl (ltb rfl) ?_)
    refine VO.cons rfl (V1.move rfl rfl rfl (ltb rfl) ?_)
    refine VO.cons rfl (V1.int rfl rfl rfl rfl rfl (ltb rfl) ?_)
    refine VO.cons rfl (V1.move rfl rfl rfl (ltb rfl) ?_)
    apply VO.or (n := 3) rfl rfl rfl rfl rfl rfl (ltb rfl) (.none rfl)
    ·
     intro hg6
     refine VO.step (.some rfl rfl rfl) (V1.move rfl rfl rfl (ltb rfl) ?_)
     refine VO.step (.some rfl rfl rfl) (V1.move rfl rfl rfl (ltb rfl) ?_)
     refine VO.step (.some rfl rfl rfl) (V1.int rfl rfl rfl rfl rfl (ltb rfl) ?_)
     exact VO.nil ⟨rfl, rfl, rfl, rfl, .inr ⟨rfl, .inr ⟨rfl, .inr ⟨rfl, .inr ⟨rfl, .inl rfl⟩⟩⟩⟩⟩
    refine VO.cons rfl (V1.move rfl rfl rfl (ltb rfl) ?_)
    apply VO.or (n := 3) rfl rfl rfl rfl rfl rfl (ltb rfl) (.none rfl)
    ·
     intro hg7
     refine VO.step (.some rfl rfl rfl) (V1.move rfl rfl rfl (ltb rfl) ?_)
     refine VO.step (.some rfl rfl rfl) (V1.move rfl rfl rfl (ltb rfl) ?_)
     refine VO.step (.some rfl rfl rfl) (V1.boolNeq rfl rfl und_4 rfl rfl (ltb rfl) ?_)
     exact VO.nil ⟨rfl, rfl, rfl, rfl, .inr ⟨rfl, .inr ⟨rfl, .inr ⟨rfl, .inr ⟨rfl, .inl rfl⟩⟩⟩⟩⟩
    refine VO.cons rfl (V1.move rfl rfl rfl (ltb rfl) ?_)
    apply VO.or (n := 6) rfl rfl rfl rfl rfl rfl (ltb rfl) (.none rfl)
    ·
     intro hg8
     refine VO.step (.some rfl rfl rfl) (V1.move rfl rfl rfl (ltb rfl) ?_)
     refine VO.step (.some rfl rfl rfl) (V1.move rfl rfl rfl (ltb rfl) ?_)
     apply VO.and (n := 3) rfl rfl rfl rfl rfl rfl (ltb rfl) (.some rfl rfl rfl)
     ·
      intro hg9
      refine VO.step (.some rfl rfl rfl) (V1.move rfl rfl rfl (ltb rfl) ?_)
      refine VO.step (.some rfl rfl rfl) (V1.move rfl rfl rfl (ltb rfl) ?_)
      refine VO.step (.some rfl rfl rfl) (V1.int rfl rfl rfl rfl rfl (ltb rfl) ?_)
      exact VO.nil ⟨rfl, rfl, rfl, rfl, .inr ⟨rfl, .inr ⟨rfl, .inr ⟨rfl, .inr ⟨rfl, .inl rfl⟩⟩⟩⟩⟩
     exact VO.nil ⟨rfl, rfl, rfl, rfl, .inr ⟨rfl, .inr ⟨rfl, .inr ⟨rfl, .inr ⟨rfl, .inl rfl⟩⟩⟩⟩⟩
    refine VO.nil ?_
    refine V.keep 238 [0, 171] [] (E0 := [(0, .vl ρ0 1 (List.map encU8 code)), (171, .bool ((((y10.1 != y11.1) || (y10.2.1 != y11.2.1)) || (!(y10.2.2 == y11.2.2))) || (y10.2.2 && (y10.1 == y10.2.1))))]) (H0 := []) rfl (⟨_, _, rfl, rfl, ⟨_, _, rfl, rfl, rfl⟩⟩) (rfl) rfl ?_
    refine V.cond rfl (fun hc4 => ?_) (fun hc4 => ?_)
    ·
     replace hm0 := cond_t hc4 hm0
     refine V.seq ?_
     refine V.region ?_
     refine VO.cons rfl (V1.assign rfl rfl rfl (ltb rfl) ?_)
     refine VO.nil ?_
     refine V.ret ?_
     obtain rfl := Option.some.inj hm0
     exact ⟨_, [], ⟨_, _, rfl, rfl, rfl⟩, List.nil_sublist _, rfl, rfl⟩
    ·
     replace hm0 := cond_f hc4 hm0
     refine V.skip ?_
     refine V.seq ?_
     replace hm0 := bindO hm0; rcases hm0 with ⟨y12, hh14, hm0⟩
     refine V.region ?_
     refine VO.cons rfl (V1.move rfl rfl rfl (ltb rfl) ?_)
     refine VO.cons rfl (V1.call rfl rfl rfl cok_16 rfl (ok_spec_DrawMayDo hh14) rfl (ltb rfl) ?_)
     rintro _ _ ⟨b3, rfl, rfl⟩
     refine VO.cons rfl (V1.move rfl rfl rfl (ltb rfl) ?_)
     refine VO.cons rfl (V1.extract rfl rfl rfl rfl (ltb rfl) ?_)
     refine VO.weakenK (Keeps.freezeG 0 rn [(175, .vl rn 6 (List.map encClerk y12.1))] [] (f := encClerk) (l := y12.1) rfl (fun _ => rfl) ⟨⟨_, rfl, .here⟩, trivial⟩ rfl rfl iNil) ?_
     refine VO.cons rfl (V1.extract rfl rfl rfl rfl (ltb rfl) ?_)
     refine VO.cons rfl (V1.extract rfl rfl rfl rfl (ltb rfl) ?_)
     refine VO.cons rfl (V1.extract rfl rfl rfl rfl (ltb rfl) ?_)
     refine VO.cons rfl (V1.assign rfl rfl rfl (ltb rfl) ?_)
     refine VO.cons rfl (V1.assign rfl rfl rfl (ltb rfl) ?_)
     refine VO.cons rfl (V1.assign rfl rfl rfl (ltb rfl) ?_)
     refine VO.cons rfl (V1.assign rfl rfl rfl (ltb rfl) ?_)
     refine VO.nil ?_
     refine V.keep 238 [0, 23, 24, 25, 26] [] (E0 := [(0, .vl ρ0 1 (List.map encU8 code)), (23, .vl rn 6 (List.map encClerk y12.1)), (24, .int .i64 y12.2.1), (25, .int .i64 y12.2.2.1), (26, .int .i64 y12.2.2.2)]) (H0 := []) rfl (⟨_, _, rfl, rfl, ⟨_, _, rfl, rfl, ⟨_, _, rfl, rfl, ⟨_, _, rfl, rfl, ⟨_, _, rfl, rfl, rfl⟩⟩⟩⟩⟩) (rfl) rfl ?_
     refine V.seq ?_
     replace hm0 := bindO hm0; rcases hm0 with ⟨y13, hh15, hm0⟩
     refine V.region ?_
     refine VO.cons rfl (V1.move rfl rfl rfl (ltb rfl) ?_)
     refine VO.cons rfl (V1.move rfl rfl rfl (ltb rfl) ?_)
     refine VO.cons rfl (V1.move rfl rfl rfl (ltb rfl) ?_)
     refine VO.cons rfl (V1.move rfl rfl rfl (ltb rfl) ?_)
     refine VO.cons rfl (V1.call rfl rfl rfl cok_11 rfl (ok_impl_MayDo hh15) rfl (ltb rfl) ?_)
     rintro _ _ ⟨rfl, rfl⟩
     refine VO.cons rfl (V1.move rfl rfl rfl (ltb rfl) ?_)
     refine VO.cons rfl (V1.extract rfl rfl rfl rfl (ltb rfl) ?_)
     refine VO.cons rfl (V1.extract rfl rfl rfl rfl (ltb rfl) ?_)
     refine VO.cons rfl (V1.assign rfl rfl rfl (ltb rfl) ?_)
     refine VO.cons rfl (V1.assign rfl rfl rfl (ltb rfl) ?_)
     refine VO.nil ?_
     refine V.keep 238 [0, 23, 24, 25, 26, 27, 28] [] (E0 := [(0, .vl ρ0 1 (List.map encU8 code)), (23, .vl rn 6 (List.map encClerk y12.1)), (24, .int .i64 y12.2.1), (25, .int .i64 y12.2.2.1), (26, .int .i64 y12.2.2.2), (27, .bool y13.1), (28, .bool y13.2)]) (H0 := []) rfl (⟨_, _, rfl, rfl, ⟨_, _, rfl, rfl, ⟨_, _, rfl, rfl, ⟨_, _, rfl, rfl, ⟨_, _, rfl, rfl, ⟨_, _, rfl, rfl, ⟨_, _, rfl, rfl, rfl⟩⟩⟩⟩⟩⟩⟩) (rfl) rfl ?_
     refine V.seq ?_
     refine V.seq ?_
     replace hm0 := bindO hm0; rcases hm0 with ⟨y14, hh16, hm0⟩
     refine V.region ?_
     refine VO.cons rfl (V1.move rfl rfl rfl (ltb rfl) ?_)
     refine VO.cons rfl (V1.move rfl rfl rfl (ltb rfl) ?_)
     refine VO.cons rfl (V1.move rfl rfl rfl (ltb rfl) ?_)
     refine VO.cons rfl (V1.move rfl rfl rfl (ltb rfl) ?_)
     refine VO.cons rfl (V1.call rfl rfl rfl cok_17 rfl (ok_spec_MayDo hh16) rfl (ltb rfl) ?_)
     rintro _ _ ⟨rfl, rfl⟩
     refine VO.cons rfl (V1.move rfl rfl rfl (ltb rfl) ?_)
     refine VO.cons rfl (V1.extract rfl rfl rfl rfl (ltb rfl) ?_)
     refine VO.cons rfl (V1.extract rfl rfl rfl rfl (ltb rfl) ?_)
     refine VO.cons rfl (V1.assign rfl rfl rfl (ltb rfl) ?_)
     refine VO.cons rfl (V1.assign rfl rfl rfl (ltb rfl) ?_)
     refine VO.nil ?_
     refine V.keep 238 [0, 27, 28, 29, 30] [] (E0 := [(0, .vl ρ0 1 (List.map encU8 code)), (27, .bool y13.1), (28, .bool y13.2), (29, .bool y14.1), (30, .bool y14.2)]) (H0 := []) rfl (⟨_, _, rfl, rfl, ⟨_, _, rfl, rfl, ⟨_, _, rfl, rfl, ⟨_, _, rfl, rfl, ⟨_, _, rfl, rfl, rfl⟩⟩⟩⟩⟩) (rfl) rfl ?_
     refine V.seq ?_
     refine V.region ?_
     refine VO.cons rfl (V1.move rfl rfl rfl (ltb rfl) ?_)
     refine VO.cons rfl (V1.move rfl rfl rfl (ltb rfl) ?_)
     refine VO.cons rfl (V1.boolNeq rfl rfl und_4 rfl rfl (ltb rfl) ?_)
     refine VO.cons rfl (V1.move rfl rfl rfl (ltb rfl) ?_)
     apply VO.or (n := 3) rfl rfl rfl rfl rfl rfl (ltb rfl) (.none rfl)
     ·
      intro hg10
      refine VO.step (.some rfl rfl rfl) (V1.move rfl rfl rfl (ltb rfl) ?_)
      refine VO.step (.some rfl rfl rfl) (V1.move rfl rfl rfl (ltb rfl) ?_)
      refine VO.step (.some rfl rfl rfl) (V1.boolNeq rfl rfl und_4 rfl rfl (ltb rfl) ?_)
      exact VO.nil ⟨rfl, rfl, rfl, rfl, .inr ⟨rfl, .inr ⟨rfl, .inr ⟨rfl, .inr ⟨rfl, .inl rfl⟩⟩⟩⟩⟩
     refine VO.nil ?_
     refine V.keep 238 [0, 202] [] (E0 := [(0, .vl ρ0 1 (List.map encU8 code)), (202, .bool ((!(y13.1 == y14.1)) || (!(y13.2 == y14.2))))]) (H0 := []) rfl (⟨_, _, rfl, rfl, ⟨_, _, rfl, rfl, rfl⟩⟩) (rfl) rfl ?_
     refine V.cond rfl (fun hc5 => ?_) (fun hc5 => ?_)
     ·
      replace hm0 := cond_t hc5 hm0
      refine V.seq ?_
      refine V.region ?_
      refine VO.cons rfl (V1.assign rfl rfl rfl (ltb rfl) ?_)
      refine VO.nil ?_
      refine V.ret ?_
      obtain rfl := Option.some.inj hm0
      exact ⟨_, [], ⟨_, _, rfl, rfl, rfl⟩, List.nil_sublist _, rfl, rfl⟩
     ·
      replace hm0 := cond_f hc5 hm0
      refine V.skip ?_
      refine V.seq ?_
      replace hm0 := bindO hm0; rcases hm0 with ⟨y15, hh17, hm0⟩
      refine V.region ?_
      refine VO.cons rfl (V1.move rfl rfl rfl (ltb rfl) ?_)
      refine VO.cons rfl (V1.call rfl rfl rfl cok_18 rfl (ok_spec_DrawRightsOn hh17) rfl (ltb rfl) ?_)
      rintro _ _ ⟨b4, rfl, rfl⟩
      refine VO.cons rfl (V1.move rfl rfl rfl (ltb rfl) ?_)
      refine VO.cons rfl (V1.extract rfl rfl rfl rfl (ltb rfl) ?_)
      refine VO.weakenK (Keeps.freezeG 0 rn [(206, .vl rn 6 (List.map encClerk y15.1))] [] (f := encClerk) (l := y15.1) rfl (fun _ => rfl) ⟨⟨_, rfl, .here⟩, trivial⟩ rfl rfl iNil) ?_
      refine VO.cons rfl (V1.extract rfl rfl rfl rfl (ltb rfl) ?_)
      refine VO.cons rfl (V1.extract rfl rfl rfl rfl (ltb rfl) ?_)
      refine VO.cons rfl (V1.assign rfl rfl rfl (ltb rfl) ?_)
      refine VO.cons rfl (V1.assign rfl rfl rfl (ltb rfl) ?_)
      refine VO.cons rfl (V1.assign rfl rfl rfl (ltb rfl) ?_)
      refine VO.nil ?_
      refine V.keep 238 [31, 32, 33] [] (E0 := [(31, .vl rn 6 (List.map encClerk y15.1)), (32, .int .i64 y15.2.1), (33, .int .i64 y15.2.2)]) (H0 := []) rfl (⟨_, _, rfl, rfl, ⟨_, _, rfl, rfl, ⟨_, _, rfl, rfl, rfl⟩⟩⟩) (rfl) rfl ?_
      refine V.seq ?_
      replace hm0 := bindO hm0; rcases hm0 with ⟨y16, hh18, hm0⟩
      refine V.region ?_
      refine VO.cons rfl (V1.move rfl rfl rfl (ltb rfl) ?_)
      refine VO.cons rfl (V1.move rfl rfl rfl (ltb rfl) ?_)
      refine VO.cons rfl (V1.move rfl rfl rfl (ltb rfl) ?_)
      refine VO.cons rfl (V1.call rfl rfl rfl cok_10 rfl (ok_impl_RightsOn hh18) rfl (ltb rfl) ?_)
      rintro _ _ ⟨rfl, rfl⟩
      refine VO.cons rfl (V1.move rfl rfl rfl (ltb rfl) ?_)
      refine VO.cons rfl (V1.extract rfl rfl rfl rfl (ltb rfl) ?_)
      refine VO.cons rfl (V1.extract rfl rfl rfl rfl (ltb rfl) ?_)
      refine VO.cons rfl (V1.assign rfl rfl rfl (ltb rfl) ?_)
      refine VO.cons rfl (V1.assign rfl rfl rfl (ltb rfl) ?_)
      refine VO.nil ?_
      refine V.keep 238 [31, 32, 33, 34, 35] [] (E0 := [(31, .vl rn 6 (List.map encClerk y15.1)), (32, .int .i64 y15.2.1), (33, .int .i64 y15.2.2), (34, .int .i64 y16.1), (35, .bool y16.2)]) (H0 := []) rfl (⟨_, _, rfl, rfl, ⟨_, _, rfl, rfl, ⟨_, _, rfl, rfl, ⟨_, _, rfl, rfl, ⟨_, _, rfl, rfl, rfl⟩⟩⟩⟩⟩) (rfl) rfl ?_
      refine V.seq ?_
      replace hm0 := bindO hm0; rcases hm0 with ⟨y17, hh19, hm0⟩
      refine V.region ?_
      refine VO.cons rfl (V1.move rfl rfl rfl (ltb rfl) ?_)
      refine VO.cons rfl (V1.move rfl rfl rfl (ltb rfl) ?_)
      refine VO.cons rfl (V1.move rfl rfl rfl (ltb rfl) ?_)
      refine VO.cons rfl (V1.call rfl rfl rfl cok_19 rfl (ok_spec_RightsOn hh19) rfl (ltb rfl) ?_)
      rintro _ _ ⟨rfl, rfl⟩
      refine VO.cons rfl (V1.move rfl rfl rfl (ltb rfl) ?_)
      refine VO.cons rfl (V1.extract rfl rfl rfl rfl (ltb rfl) ?_)
      refine VO.cons rfl (V1.extract rfl rfl rfl rfl (ltb rfl) ?_)
      refine VO.cons rfl (V1.assign rfl rfl rfl (ltb rfl) ?_)
      refine VO.cons rfl (V1.assign rfl rfl rfl (ltb rfl) ?_)
      refine VO.nil ?_
      refine V.keep 238 [31, 34, 35, 36, 37] [] (E0 := [(31, .vl rn 6 (List.map encClerk y15.1)), (34, .int .i64 y16.1), (35, .bool y16.2), (36, .int .i64 y17.1), (37, .bool y17.2)]) (H0 := []) rfl (⟨_, _, rfl, rfl, ⟨_, _, rfl, rfl, ⟨_, _, rfl, rfl, ⟨_, _, rfl, rfl, ⟨_, _, rfl, rfl, rfl⟩⟩⟩⟩⟩) (rfl) rfl ?_
      refine V.seq ?_
      replace hm0 := bindO hm0; rcases hm0 with ⟨y18, hh20, hm0⟩
      replace hm0 := bindO hm0; rcases hm0 with ⟨y19, hh21, hm0⟩
      refine V.region ?_
      refine VO.cons rfl (V1.move rfl rfl rfl (ltb rfl) ?_)
      refine VO.cons rfl (V1.move rfl rfl rfl (ltb rfl) ?_)
      refine VO.cons rfl (V1.int rfl rfl rfl rfl rfl (ltb rfl) ?_)
      refine VO.cons rfl (V1.move rfl rfl rfl (ltb rfl) ?_)
      apply VO.and (n := 3) rfl rfl rfl rfl rfl rfl (ltb rfl) (.none rfl)
      ·
       intro hg11
       refine VO.step (.some rfl rfl rfl) (V1.move rfl rfl rfl (ltb rfl) ?_)
       refine VO.step (.some rfl rfl rfl) (V1.move rfl rfl rfl (ltb rfl) ?_)
       refine VO.step (.some rfl rfl rfl) (V1.boolEql rfl rfl und_4 rfl rfl (ltb rfl) ?_)
       exact VO.nil ⟨rfl, rfl, rfl, rfl, .inr ⟨rfl, .inr ⟨rfl, .inr ⟨rfl, .inr ⟨rfl, .inl rfl⟩⟩⟩⟩⟩
      refine VO.cons rfl (V1.move rfl rfl rfl (ltb rfl) ?_)
      apply VO.and (n := 5) rfl rfl rfl rfl rfl rfl (ltb rfl) (.none rfl)
      ·
       intro hg12
       refine VO.step (.some rfl rfl rfl) (V1.move rfl rfl rfl (ltb rfl) ?_)
       refine VO.step (.some rfl rfl rfl) (V1.call rfl rfl rfl cok_20 rfl (ok_impl_AreClerks (cond_t hg12 hh20)) rfl (ltb rfl) ?_)
       rintro _ _ ⟨rfl, rfl⟩
       refine VO.step (.some rfl rfl rfl) (V1.move rfl rfl rfl (ltb rfl) ?_)
       refine VO.step (.some rfl rfl rfl) (V1.call rfl rfl rfl cok_21 rfl (ok_spec_AreClerks (cond_t hg12 hh21)) rfl (ltb rfl) ?_)
       rintro _ _ ⟨rfl, rfl⟩
       refine VO.step (.some rfl rfl rfl) (V1.boolEql rfl rfl und_4 rfl rfl (ltb rfl) ?_)
       exact VO.nil ⟨rfl, rfl, rfl, rfl, .inr ⟨rfl, .inr ⟨rfl, .inr ⟨rfl, .inr ⟨rfl, .inr ⟨rfl, .inr ⟨rfl, .inl rfl⟩⟩⟩⟩⟩⟩⟩
      refine VO.cons rfl (V1.assign rfl rfl rfl (ltb rfl) ?_)
      refine VO.nil ?_
      refine V.ret ?_
      obtain rfl := Option.some.inj hm0
      exact ⟨_, [], ⟨_, _, rfl, rfl, rfl⟩, List.nil_sublist _, rfl, rfl⟩
end Go.Proofs.YthffmnpbonkpaaaDoor
