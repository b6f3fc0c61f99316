/- the functions do what their models say -/
import Derived.Test.YtjfpdbhjoofllaaQd1
set_option linter.unusedSimpArgs false
set_option linter.unusedVariables false
set_option maxRecDepth 100000
set_option maxHeartbeats 4000000
namespace Go.Proofs.Ytjfpdbhjoofllaa
open Go.VS

theorem ok_spec_ExtendRequest {ρ0 rn : Nat} {r_ : Request} {n : Int} {r : Request × Bool} (h : M.spec_ExtendRequest r_ n = some r) : Does Try.prog 16 [encRequest ρ0 r_, .int .i64 n] [] rn (fun x H => x = .tup [encRequest rn r.1, .bool r.2] ∧ H = []) := by
 have hm0 := h; clear h; unfold M.spec_ExtendRequest at hm0
 try dsimp only at hm0
 refine Does.intro (N := 28) Try.func16 rfl rfl rfl rfl ?_
 intro w0 S0
 refine V.seq ?_
 refine V.region ?_
 refine VO.cons rfl (V1.boxN (n := 5) rfl rfl rfl rfl rfl (ltb rfl) ?_)
 intro b0
 refine VO.cons rfl (V1.alloc rfl rfl zk_26 (ltb rfl) ?_)
 intro b1
 refine VO.cons rfl (V1.assign rfl rfl rfl (ltb rfl) ?_)
 refine VO.nil ?_
 refine V.seq ?_
 replace hm0 := bindO hm0; rcases hm0 with ⟨y0, hh0, hm0⟩
 refine V.region ?_
 refine VO.cons rfl (V1.loadRefAll (k := 1) rfl rfl tyk_26 rfl rfl rfl rfl rfl (ltb rfl) ?_)
 refine VO.cons rfl (V1.call rfl rfl rfl cok_52 rfl (ok_spec_l13Own hh0) rfl (ltb rfl) ?_)
 rintro _ _ ⟨rfl, rfl⟩
 refine VO.cons rfl (V1.alloc rfl rfl zk_26 (ltb rfl) ?_)
 intro b2
 refine VO.cons rfl (V1.storeRefAll (k := 0) rfl rfl tyk_26 rfl rfl rfl rfl rfl rfl ?_)
 refine VO.nil ?_
 refine V.keep 28 [1, 2, 4, 6] [0, 1, 2] (E0 := [(1, .int .i64 n), (2, .ref b0 5 0 0), (4, .ref b1 5 0 0), (6, .ref b2 5 0 0)]) (H0 := [(b2, ⟨5, [encRequest rn y0]⟩), (b1, ⟨5, [.agg [.int .i64 (0 : Int), .int .i64 (0 : Int), .int .i64 (0 : Int), .int .i64 (0 : Int), .nils]]⟩), (b0, ⟨5, [encRequest ρ0 r_]⟩)]) rfl (⟨_, _, rfl, rfl, ⟨_, _, rfl, rfl, ⟨_, _, rfl, rfl, ⟨_, _, rfl, rfl, rfl⟩⟩⟩⟩) (⟨_, _, rfl, rfl, ⟨_, _, rfl, rfl, ⟨_, _, rfl, rfl, rfl⟩⟩⟩) rfl ?_
 refine V.seq ?_
 refine V.seq ?_
 replace hm0 := bindO hm0; rcases hm0 with ⟨y1, hh1, hm0⟩
 replace hm0 := bindO hm0; rcases hm0 with ⟨y2, hh2, hm0⟩
 refine V.region ?_
 refine VO.cons rfl (V1.loadRefAll (k := 2) rfl rfl tyk_26 rfl rfl rfl rfl rfl (ltb rfl) ?_)
 refine VO.cons rfl (V1.call rfl rfl rfl cok_53 rfl (ok_spec_l13Good hh1) rfl (ltb rfl) ?_)
 rintro _ _ ⟨rfl, rfl⟩
 refine VO.cons rfl (V1.not rfl rfl rfl (ltb rfl) ?_)
 refine VO.cons rfl (V1.move rfl rfl rfl (ltb rfl) ?_)
 apply VO.or (n := 3) rfl rfl rfl rfl rfl rfl (ltb rfl) (.none rfl)
 ·
  intro hg0
  refine VO.step (.some rfl rfl rfl) (V1.move rfl rfl rfl (ltb rfl) ?_)
  refine VO.step (.some rfl rfl rfl) (V1.call rfl rfl rfl cok_60 rfl (ok_spec_l1In (cond_f hg0 hh2)) rfl (ltb rfl) ?_)
  rintro _ _ ⟨rfl, rfl⟩
  refine VO.step (.some rfl rfl rfl) (V1.not rfl rfl rfl (ltb rfl) ?_)
  exact VO.nil ⟨rfl, rfl, rfl, rfl, .inr ⟨rfl, .inr ⟨rfl, .inr ⟨rfl, .inr ⟨rfl, .inl rfl⟩⟩⟩⟩⟩
 refine VO.nil ?_
 refine V.keep 28 [1, 2, 4, 6, 16] [0, 1, 2] (E0 := [(1, .int .i64 n), (2, .ref b0 5 0 0), (4, .ref b1 5 0 0), (6, .ref b2 5 0 0), (16, .bool ((!y1) || (!y2)))]) (H0 := [(b2, ⟨5, [encRequest rn y0]⟩), (b1, ⟨5, [.agg [.int .i64 (0 : Int), .int .i64 (0 : Int), .int .i64 (0 : Int), .int .i64 (0 : Int), .nils]]⟩), (b0, ⟨5, [encRequest ρ0 r_]⟩)]) rfl (⟨_, _, rfl, rfl, ⟨_, _, rfl, rfl, ⟨_, _, rfl, rfl, ⟨_, _, rfl, rfl, ⟨_, _, rfl, rfl, rfl⟩⟩⟩⟩⟩) (⟨_, _, rfl, rfl, ⟨_, _, rfl, rfl, ⟨_, _, rfl, rfl, rfl⟩⟩⟩) rfl ?_
 refine V.cond rfl (fun hc0 => ?_) (fun hc0 => ?_)
 ·
  replace hm0 := cond_t hc0 hm0
  refine V.seq ?_
  refine V.region ?_
  refine VO.cons rfl (V1.build rfl rfl zk_26 pl_26 rfl rfl (ltb rfl) ?_)
  refine VO.cons rfl (V1.storeRefAll (k := 1) rfl rfl tyk_26 rfl rfl rfl rfl rfl rfl ?_)
  refine VO.cons rfl (V1.assign rfl rfl rfl (ltb rfl) ?_)
  refine VO.nil ?_
  refine V.weakenK (Keeps.leObj 1 [.agg [.int .i64 (0 : Int), .int .i64 (0 : Int), .int .i64 (0 : Int), .int .i64 (0 : Int), .vl rn 2 (List.map encPair ([] : List (Int × Int)))]] rfl (.cons (.agg (.cons .same (.cons .same (.cons .same (.cons .same (.cons (.nils (l := ([] : List (Int × Int))) (f := encPair) rn 2 rfl rfl) .nil)))))) .nil)) ?_
  refine V.ret ?_
  obtain rfl := Option.some.inj hm0
  exact ⟨_, [], ⟨_, _, rfl, ⟨_, _, 1, _, rfl, rfl, rfl, rfl, tyk_26, rfl⟩, ⟨_, _, rfl, rfl, rfl⟩⟩, List.nil_sublist _, rfl, rfl⟩
 ·
  replace hm0 := cond_f hc0 hm0
  refine V.skip ?_
  refine V.seq ?_
  refine V.region ?_
  refine VO.cons rfl (V1.fieldRef rfl rfl fo_26_3 rfl (ltb rfl) ?_)
  refine VO.cons rfl (V1.loadRef (k := 2) rfl rfl tyk_3 rfl rfl rfl rfl rfl (ltb rfl) ?_)
  refine VO.cons rfl (V1.move rfl rfl rfl (ltb rfl) ?_)
  refine VO.cons rfl (V1.int rfl rfl rfl rfl rfl (ltb rfl) ?_)
  refine VO.cons rfl (V1.fieldRef rfl rfl fo_26_3 rfl (ltb rfl) ?_)
  refine VO.cons rfl (V1.storeRef (k := 0) rfl rfl tyk_3 rfl rfl rfl rfl rfl rfl rfl rfl rfl ?_)
  refine VO.nil ?_
  refine V.keep 28 [4, 6] [0, 1] (E0 := [(4, .ref b1 5 0 0), (6, .ref b2 5 0 0)]) (H0 := [(b2, ⟨5, [.agg [.int .i64 y0.Id, .int .i64 y0.Came, .int .i64 y0.Working, .int .i64 (IntKind.i64.wrap (r_.Extended + n)), .vl rn 2 (List.map encPair y0.Stops)]]⟩), (b1, ⟨5, [.agg [.int .i64 (0 : Int), .int .i64 (0 : Int), .int .i64 (0 : Int), .int .i64 (0 : Int), .nils]]⟩)]) rfl (⟨_, _, rfl, rfl, ⟨_, _, rfl, rfl, rfl⟩⟩) (⟨_, _, rfl, rfl, ⟨_, _, rfl, rfl, rfl⟩⟩) rfl ?_
  refine V.seq ?_
  refine V.seq ?_
  replace hm0 := bindO hm0; rcases hm0 with ⟨y3, hh3, hm0⟩
  refine V.region ?_
  refine VO.cons rfl (V1.loadRefAll (k := 0) rfl rfl tyk_26 rfl rfl rfl rfl rfl (ltb rfl) ?_)
  refine VO.cons rfl (V1.call rfl rfl rfl cok_53 rfl (ok_spec_l13Good hh3) rfl (ltb rfl) ?_)
  rintro _ _ ⟨rfl, rfl⟩
  refine VO.cons rfl (V1.not rfl rfl rfl (ltb rfl) ?_)
  refine VO.nil ?_
  refine V.cond rfl (fun hc1 => ?_) (fun hc1 => ?_)
  ·
   replace hm0 := cond_t hc1 hm0
   refine V.seq ?_
   refine V.region ?_
   refine VO.cons rfl (V1.build rfl rfl zk_26 pl_26 rfl rfl (ltb rfl) ?_)
   refine VO.cons rfl (V1.storeRefAll (k := 1) rfl rfl tyk_26 rfl rfl rfl rfl rfl rfl ?_)
   refine VO.cons rfl (V1.assign rfl rfl rfl (ltb rfl) ?_)
   refine VO.nil ?_
   refine V.weakenK (Keeps.leObj 1 [.agg [.int .i64 (0 : Int), .int .i64 (0 : Int), .int .i64 (0 : Int), .int .i64 (0 : Int), .vl rn 2 (List.map encPair ([] : List (Int × Int)))]] rfl (.cons (.agg (.cons .same (.cons .same (.cons .same (.cons .same (.cons (.nils (l := ([] : List (Int × Int))) (f := encPair) rn 2 rfl rfl) .nil)))))) .nil)) ?_
   refine V.ret ?_
   obtain rfl := Option.some.inj hm0
   exact ⟨_, [], ⟨_, _, rfl, ⟨_, _, 1, _, rfl, rfl, rfl, rfl, tyk_26, rfl⟩, ⟨_, _, rfl, rfl, rfl⟩⟩, List.nil_sublist _, rfl, rfl⟩
  ·
   replace hm0 := cond_f hc1 hm0
   refine V.skip ?_
   refine V.seq ?_
   refine V.region ?_
   refine VO.cons rfl (V1.loadRefAll (k := 0) rfl rfl tyk_26 rfl rfl rfl rfl rfl (ltb rfl) ?_)
   refine VO.cons rfl (V1.storeRefAll (k := 1) rfl rfl tyk_26 rfl rfl rfl rfl rfl rfl ?_)
   refine VO.cons rfl (V1.assign rfl rfl rfl (ltb rfl) ?_)
   refine VO.nil ?_
   refine V.ret ?_
   obtain rfl := Option.some.inj hm0
   exact ⟨_, [], ⟨_, _, rfl, ⟨_, _, 1, _, rfl, rfl, rfl, rfl, tyk_26, rfl⟩, ⟨_, _, rfl, rfl, rfl⟩⟩, List.nil_sublist _, rfl, rfl⟩

theorem ok_spec_DrawDaysLeftFor {ρ0 rn : Nat} {code : List Int} {r : Request × Int} (h : M.spec_DrawDaysLeftFor code = some r) : Does Try.prog 17 [.vl ρ0 1 (List.map encU8 code)] [] rn (fun x H => x = .tup [encRequest rn r.1, .int .i64 r.2] ∧ H = []) := by
 have hm0 := h; clear h; unfold M.spec_DrawDaysLeftFor at hm0
 try dsimp only at hm0
 refine Does.intro (N := 18) Try.func17 rfl rfl rfl rfl ?_
 intro w0 S0
 refine V.seq ?_
 refine V.region ?_
 refine VO.cons rfl (V1.alloc rfl rfl zk_26 (ltb rfl) ?_)
 intro b0
 refine VO.cons rfl (V1.assign rfl rfl rfl (ltb rfl) ?_)
 refine VO.nil ?_
 refine V.seq ?_
 refine V.region ?_
 refine VO.cons rfl (V1.move rfl rfl rfl (ltb rfl) ?_)
 refine VO.cons rfl (V1.build rfl rfl zk_80 pl_80 rfl rfl (ltb rfl) ?_)
 refine VO.cons rfl (V1.boxN (n := 3) rfl rfl rfl rfl rfl (ltb rfl) ?_)
 intro b1
 refine VO.cons rfl (V1.assign rfl rfl rfl (ltb rfl) ?_)
 refine VO.nil ?_
 refine V.keep 18 [2, 4] [0, 1] (E0 := [(2, .ref b0 5 0 0), (4, .ref b1 3 0 0)]) (H0 := [(b1, ⟨3, [.agg [.vl ρ0 1 (List.map encU8 code), .int .i64 (0 : Int), .int .u64 (0 : Int)]]⟩), (b0, ⟨5, [.agg [.int .i64 (0 : Int), .int .i64 (0 : Int), .int .i64 (0 : Int), .int .i64 (0 : Int), .nils]]⟩)]) rfl (⟨_, _, rfl, rfl, ⟨_, _, rfl, rfl, rfl⟩⟩) (⟨_, _, rfl, rfl, ⟨_, _, rfl, rfl, rfl⟩⟩) rfl ?_
 refine V.seq ?_
 replace hm0 := bindO hm0; rcases hm0 with ⟨y0, hh0, hm0⟩
 refine V.region ?_
 refine VO.cons rfl (V1.move rfl rfl rfl (ltb rfl) ?_)
 refine VO.cons rfl (V1.callM 0 (rn + ρ0 + 1) [] [.ref b1 3 0 0, .int .i64 (9 : Int)] (p := (b1, ⟨3, [.agg [.vl ρ0 1 (List.map encU8 code), .int .i64 (0 : Int), .int .u64 (0 : Int)]]⟩)) rfl rfl rfl cok_49 rfl rfl ⟨_, _, rfl, .same _, ⟨_, _, rfl, .same _, rfl⟩⟩ bwNil (ok_spec_l1Cur_request hh0) rfl (.inl rfl) (ltb rfl) ?_)
 rintro _ _ ⟨rfl, rfl⟩
 refine VO.cons rfl (V1.alloc rfl rfl zk_26 (ltb rfl) ?_)
 intro b2
 refine VO.cons rfl (V1.storeRefAll (k := 0) rfl rfl tyk_26 rfl rfl rfl rfl rfl rfl ?_)
 refine VO.nil ?_
 refine V.seq ?_
 replace hm0 := bindO hm0; rcases hm0 with ⟨y1, hh1, hm0⟩
 refine V.regionS [(b2, ⟨5, [encRequest rn y0.1]⟩)] 18 8 [⟨[(5, none)], false⟩, ⟨[(5, none)], false⟩, ⟨[(12, some 1)], false⟩, ⟨[(4, none)], false⟩, ⟨[], true⟩, ⟨[(14, some 3), (15, some 4)], true⟩, ⟨[(13, some 2), (16, some 5)], false⟩, ⟨[(2, none), (11, some 0)], true⟩] [(2, none), (17, some 6)] 3 (⟨_, rfl, ⟨_, rfl, ⟨_, rfl, ⟨_, rfl, ⟨_, rfl, ⟨_, rfl, ⟨_, rfl, ⟨_, rfl, ⟨rfl, rfl⟩⟩⟩⟩⟩⟩⟩⟩⟩) mixed_orders rfl (by decide +kernel) ?_
 refine WalkP.step (p := ?pv15) 0 rfl rfl rfl rfl rfl (⟨_, _, rfl, rfl, rfl⟩) ?hv15 ?rest15
 case hv15 =>
  intro E1 H1 hI1
  obtain ⟨k16_, hk16_⟩ := inGet 0 rfl hI1
  refine (V1.loadRefAll (k := k16_) rfl rfl tyk_26 rfl hk16_ rfl rfl rfl (ltb rfl) ?_)
  exact rfl
 refine WalkP.step (p := ?pv17) 1 rfl rfl rfl rfl rfl (⟨_, _, rfl, rfl, rfl⟩) ?hv17 ?rest17
 case hv17 =>
  intro E1 H1 hI1
  refine (V1.fieldRef rfl rfl fo_26_1 rfl (ltb rfl) ?_)
  exact rfl
 refine WalkP.step (p := ?pv18) 2 rfl rfl rfl rfl rfl (⟨_, _, rfl, rfl, rfl⟩) ?hv18 ?rest18
 case hv18 =>
  intro E1 H1 hI1
  obtain ⟨k19_, hk19_⟩ := inGet 0 rfl hI1
  refine (V1.loadRef (k := k19_) rfl rfl tyk_3 rfl hk19_ rfl rfl rfl (ltb rfl) ?_)
  exact rfl
 refine WalkP.step (p := ?pv20) 3 rfl rfl rfl rfl rfl (⟨_, _, rfl, rfl, rfl⟩) ?hv20 ?rest20
 case hv20 =>
  intro E1 H1 hI1
  refine (V1.move rfl rfl rfl (ltb rfl) ?_)
  exact rfl
 refine WalkP.nil ?_
 refine NodeS.branch [4] (inCons 0 rfl inNil) rfl rfl rfl ⟨?_, trivial⟩
 ·
  refine ⟨_, _, _, _, rfl, rfl, rfl, (rfl), fun E1 => ?_⟩
  refine (V1.buildSliceT (f := encInt) ([(0 : Int), (1 : Int), (3 : Int), (10 : Int), (30 : Int), (100 : Int), (-1 : Int)] : List Int) rfl rfl esz_69 zk_3 rfl rfl rfl rfl rfl rfl rfl (ltb rfl) ?_)
  intro b4
  refine ⟨_, _, rfl, ?_⟩
  refine WalkP.nil ?_
  refine NodeS.branch [5] (inCons 1 rfl inNil) rfl rfl rfl ⟨?_, trivial⟩
  ·
   refine ⟨_, _, _, _, rfl, rfl, rfl, (⟨_, _, rfl, rfl, ⟨_, _, rfl, rfl, rfl⟩⟩), fun E1 => ?_⟩
   refine (V1.callM 2 (rn + ρ0 + 1) [b4] [.ref b1 3 0 0, .vl (rn + ρ0 + 1) 1 (List.map encInt ([(0 : Int), (1 : Int), (3 : Int), (10 : Int), (30 : Int), (100 : Int), (-1 : Int)] : List Int))] (p := (b1, ⟨3, [encCur ρ0 y0.2]⟩)) rfl rfl rfl cok_50 rfl rfl ⟨_, _, rfl, .same _, ⟨_, _, rfl, Lend.srMap 0 rfl (fun _ => rfl) (.head _), rfl⟩⟩ (bwCons (k := 0) rfl bwNil) (ok_spec_l1Cur_among hh1) rfl (.inr ⟨(by first | omega | (dsimp only; omega)), by rintro _ _ ⟨rfl, rfl⟩; exact ⟨by simp [PV.no, PV.noL, optS_no, noL_iff, nbeq] <;> omega, by intro b ob h; first | exact optH_no (noL_map (fun _ => by simp [PV.no, PV.noL, noL_iff, nbeq]) _) b ob h | (simp at h; obtain ⟨rfl, rfl⟩ := h; exact noL_map (fun _ => by simp [PV.no, PV.noL, noL_iff, nbeq]) _) | (simp at h; obtain ⟨rfl, rfl⟩ := h; simp [PV.no, PV.noL, optS_no, noL_iff, nbeq] <;> omega)⟩⟩) (ltb rfl) ?_)
   rintro _ _ ⟨rfl, rfl⟩
   refine ⟨_, _, rfl, ?_⟩
   refine WalkP.step (p := ?pv21) 6 rfl rfl rfl rfl rfl (⟨_, _, rfl, rfl, ⟨_, _, rfl, rfl, rfl⟩⟩) ?hv21 ?rest21
   case hv21 =>
    intro E1 H1 hI1
    refine (V1.int rfl rfl rfl rfl rfl (ltb rfl) ?_)
    exact rfl
   refine WalkP.nil ?_
   refine NodeS.branch [7] (inCons 2 rfl inNil) rfl rfl rfl ⟨?_, trivial⟩
   ·
    refine ⟨_, _, _, _, rfl, rfl, rfl, (⟨_, _, rfl, rfl, ⟨_, _, rfl, rfl, rfl⟩⟩), fun E1 => ?_⟩
    refine (V1.storeRefAll (k := 3) rfl rfl tyk_26 rfl rfl rfl rfl rfl rfl ?_)
    refine ⟨.undef, _, rfl, ?_⟩
    refine WalkP.nil ?_
    refine NodeS.fin (inCons 2 rfl inNil) rfl rfl rfl (⟨_, _, rfl, rfl, ⟨_, _, rfl, rfl, rfl⟩⟩) ?_
    refine VO.cons rfl (V1.assign rfl rfl rfl (ltb rfl) ?_)
    refine VO.nil ?_
    refine V.ret ?_
    obtain rfl := Option.some.inj hm0
    exact ⟨_, [], ⟨_, _, rfl, ⟨_, _, 3, _, rfl, rfl, rfl, rfl, tyk_26, rfl⟩, ⟨_, _, rfl, rfl, rfl⟩⟩, List.nil_sublist _, rfl, rfl⟩

theorem ok_impl_DaysLeftFor {ρ0 rn : Nat} {r_ : Request} {day : Int} {r : Int × Bool} (h : M.impl_DaysLeftFor r_ day = some r) : Does Try.prog 18 [encRequest ρ0 r_, .int .i64 day] [] rn (fun x H => x = .tup [.int .i64 r.1, .bool r.2] ∧ H = []) := by
 have hm0 := h; clear h; unfold M.impl_DaysLeftFor at hm0
 try dsimp only at hm0
 refine Does.intro (N := 37) Try.func18 rfl rfl rfl rfl ?_
 intro w0 S0
 refine V.seq ?_
 refine V.region ?_
 refine VO.cons rfl (V1.boxN (n := 5) rfl rfl rfl rfl rfl (ltb rfl) ?_)
 intro b0
 refine VO.cons rfl (V1.assign rfl rfl rfl (ltb rfl) ?_)
 refine VO.cons rfl (V1.assign rfl rfl rfl (ltb rfl) ?_)
 refine VO.nil ?_
 refine V.seq ?_
 replace hm0 := bindO hm0; rcases hm0 with ⟨y0, hh0, hm0⟩
 refine V.region ?_
 refine VO.cons rfl (V1.loadRefAll (k := 0) rfl rfl tyk_26 rfl rfl rfl rfl rfl (ltb rfl) ?_)
 refine VO.cons rfl (V1.call rfl rfl rfl cok_13 rfl (ok_impl_RequestDue hh0) rfl (ltb rfl) ?_)
 rintro _ _ ⟨rfl, rfl⟩
 refine VO.cons rfl (V1.move rfl rfl rfl (ltb rfl) ?_)
 refine VO.cons rfl (V1.extract rfl rfl rfl rfl (ltb rfl) ?_)
 refine VO.cons rfl (V1.extract rfl rfl rfl rfl (ltb rfl) ?_)
 refine VO.cons rfl (V1.assign rfl rfl rfl (ltb rfl) ?_)
 refine VO.cons rfl (V1.assign rfl rfl rfl (ltb rfl) ?_)
 refine VO.nil ?_
 refine V.keep 37 [1, 2, 6, 7] [0] (E0 := [(1, .int .i64 day), (2, .ref b0 5 0 0), (6, .int .i64 y0.1), (7, .bool y0.2)]) (H0 := [(b0, ⟨5, [encRequest ρ0 r_]⟩)]) rfl (⟨_, _, rfl, rfl, ⟨_, _, rfl, rfl, ⟨_, _, rfl, rfl, ⟨_, _, rfl, rfl, rfl⟩⟩⟩⟩) (⟨_, _, rfl, rfl, rfl⟩) rfl ?_
 refine V.seq ?_
 refine V.seq ?_
 replace hm0 := bindO hm0; rcases hm0 with ⟨y1, hh1, hm0⟩
 refine V.region ?_
 refine VO.cons rfl (V1.move rfl rfl rfl (ltb rfl) ?_)
 refine VO.cons rfl (V1.not rfl rfl rfl (ltb rfl) ?_)
 refine VO.cons rfl (V1.move rfl rfl rfl (ltb rfl) ?_)
 apply VO.or (n := 5) rfl rfl rfl rfl rfl rfl (ltb rfl) (.none rfl)
 ·
  intro hg0
  refine VO.step (.some rfl rfl rfl) (V1.fieldRef rfl rfl fo_26_1 rfl (ltb rfl) ?_)
  refine VO.step (.some rfl rfl rfl) (V1.loadRef (k := 0) rfl rfl tyk_3 rfl rfl rfl rfl rfl (ltb rfl) ?_)
  refine VO.step (.some rfl rfl rfl) (V1.move rfl rfl rfl (ltb rfl) ?_)
  refine VO.step (.some rfl rfl rfl) (V1.call rfl rfl rfl cok_58 rfl (ok_impl_areDays (cond_f hg0 hh1)) rfl (ltb rfl) ?_)
  rintro _ _ ⟨rfl, rfl⟩
  refine VO.step (.some rfl rfl rfl) (V1.not rfl rfl rfl (ltb rfl) ?_)
  exact VO.nil ⟨rfl, rfl, rfl, rfl, .inr ⟨rfl, .inr ⟨rfl, .inr ⟨rfl, .inr ⟨rfl, .inr ⟨rfl, .inr ⟨rfl, .inl rfl⟩⟩⟩⟩⟩⟩⟩
 refine VO.nil ?_
 refine V.keep 37 [1, 2, 6, 23] [0] (E0 := [(1, .int .i64 day), (2, .ref b0 5 0 0), (6, .int .i64 y0.1), (23, .bool ((!y0.2) || (!y1)))]) (H0 := [(b0, ⟨5, [encRequest ρ0 r_]⟩)]) rfl (⟨_, _, rfl, rfl, ⟨_, _, rfl, rfl, ⟨_, _, rfl, rfl, ⟨_, _, rfl, rfl, rfl⟩⟩⟩⟩) (⟨_, _, rfl, rfl, rfl⟩) rfl ?_
 refine V.cond rfl (fun hc0 => ?_) (fun hc0 => ?_)
 ·
  replace hm0 := cond_t hc0 hm0
  refine V.seq ?_
  refine V.region ?_
  refine VO.cons rfl (V1.assign rfl rfl rfl (ltb rfl) ?_)
  refine VO.cons rfl (V1.assign rfl rfl rfl (ltb rfl) ?_)
  refine VO.nil ?_
  refine V.ret ?_
  obtain rfl := Option.some.inj hm0
  exact ⟨_, [], ⟨_, _, rfl, rfl, ⟨_, _, rfl, rfl, rfl⟩⟩, List.nil_sublist _, rfl, rfl⟩
 ·
  replace hm0 := cond_f hc0 hm0
  refine V.skip ?_
  refine V.seq ?_
  refine V.region ?_
  refine VO.cons rfl (V1.assign rfl rfl rfl (ltb rfl) ?_)
  refine VO.nil ?_
  refine V.seq ?_
  refine V.seq ?_
  refine V.region ?_
  refine VO.cons rfl (V1.move rfl rfl rfl (ltb rfl) ?_)
  refine VO.cons rfl (V1.int rfl rfl rfl rfl rfl (ltb rfl) ?_)
  refine VO.cons rfl (V1.assign rfl rfl rfl (ltb rfl) ?_)
  refine VO.nil ?_
  refine V.keep 37 [2, 6, 8, 9] [0] (E0 := [(2, .ref b0 5 0 0), (6, .int .i64 y0.1), (8, .int .i64 (0 : Int)), (9, .int .i64 (IntKind.i64.wrap (day + (1 : Int))))]) (H0 := [(b0, ⟨5, [encRequest ρ0 r_]⟩)]) rfl (⟨_, _, rfl, rfl, ⟨_, _, rfl, rfl, ⟨_, _, rfl, rfl, ⟨_, _, rfl, rfl, rfl⟩⟩⟩⟩) (⟨_, _, rfl, rfl, rfl⟩) rfl ?_
  replace hm0 := bindO hm0; rcases hm0 with ⟨e0, he1, hm0⟩
  refine V.cutT (D := (Int) × (Unit)) (fun ⟨count, _⟩ => ⟨37, [(8, .int .i64 count)], []⟩) (fun ⟨count, _⟩ => (count = e0)) ?_ ?_
  ·
   refine V.block ?_
   refine V.keep 37 [8, 9, 2, 6] [0] (E0 := [(8, .int .i64 (0 : Int)), (9, .int .i64 (IntKind.i64.wrap (day + (1 : Int)))), (2, .ref b0 5 0 0), (6, .int .i64 y0.1)]) (H0 := [(b0, ⟨5, [encRequest ρ0 r_]⟩)]) rfl (⟨_, _, rfl, rfl, ⟨_, _, rfl, rfl, ⟨_, _, rfl, rfl, ⟨_, _, rfl, rfl, rfl⟩⟩⟩⟩) (⟨_, _, rfl, rfl, rfl⟩) rfl ?_
   refine V.loopE (D := Nat × (Int × Int) × (Unit)) (fun ⟨n0, ⟨count0, d⟩, _⟩ => [(8, .int .i64 count0), (9, .int .i64 d)]) (fun ⟨n0, ⟨count0, d⟩, _⟩ => []) (fun ⟨n0, ⟨count0, d⟩, _⟩ => loopO (M.impl_DaysLeftFor_l0 r_ y0) n0 (count0, d) = some e0) (fun ⟨n0, _, _⟩ => n0) (rounds, ((0 : Int), (IntKind.i64.wrap (day + (1 : Int)))), ()) rfl he1 ?_
   rintro ⟨n0, ⟨count0, d⟩, _⟩ hP0
   obtain ⟨m0, y2, rfl, hm1, hl1, hr1⟩ := loop_head hP0
   unfold M.impl_DaysLeftFor_l0 at hm1; dsimp only at hm1
   show V _ _ _ ⟨37, [(8, .int .i64 count0), (9, .int .i64 d), (2, .ref b0 5 0 0), (6, .int .i64 y0.1)], [(b0, ⟨5, [encRequest ρ0 r_]⟩)]⟩
   refine V.seq ?_
   refine V.seq ?_
   refine V.region ?_
   refine VO.cons rfl (V1.move rfl rfl rfl (ltb rfl) ?_)
   refine VO.cons rfl (V1.move rfl rfl rfl (ltb rfl) ?_)
   refine VO.cons rfl (V1.int rfl rfl rfl rfl rfl (ltb rfl) ?_)
   refine VO.nil ?_
   refine V.cond rfl (fun hc1 => ?_) (fun hc1 => ?_)
   ·
    replace hm1 := cond_t hc1 hm1
    refine V.skip ?_
    refine V.seq ?_
    replace hm1 := bindO hm1; rcases hm1 with ⟨j0, hm2, hm1⟩
    refine V.cutT (D := (Int) × (Unit)) (fun ⟨count1, _⟩ => ⟨37, [(8, .int .i64 count1), (2, .ref b0 5 0 0), (6, .int .i64 y0.1), (9, .int .i64 d)], [(b0, ⟨5, [encRequest ρ0 r_]⟩)]⟩) (fun ⟨count1, _⟩ => (count1 = j0)) ?_ ?_
    ·
     refine V.block ?_
     refine V.seq ?_
     replace hm2 := bindO hm2; rcases hm2 with ⟨y3, hh2, hm2⟩
     refine V.region ?_
     refine VO.cons rfl (V1.loadRefAll (k := 0) rfl rfl tyk_26 rfl rfl rfl rfl rfl (ltb rfl) ?_)
     refine VO.cons rfl (V1.move rfl rfl rfl (ltb rfl) ?_)
     refine VO.cons rfl (V1.call rfl rfl rfl cok_61 rfl (ok_impl_Request_counts hh2) rfl (ltb rfl) ?_)
     rintro _ _ ⟨rfl, rfl⟩
     refine VO.nil ?_
     refine V.keep 37 [2, 6, 8, 9, 33] [0] (E0 := [(2, .ref b0 5 0 0), (6, .int .i64 y0.1), (8, .int .i64 count0), (9, .int .i64 d), (33, .bool y3)]) (H0 := [(b0, ⟨5, [encRequest ρ0 r_]⟩)]) rfl (⟨_, _, rfl, rfl, ⟨_, _, rfl, rfl, ⟨_, _, rfl, rfl, ⟨_, _, rfl, rfl, ⟨_, _, rfl, rfl, rfl⟩⟩⟩⟩⟩) (⟨_, _, rfl, rfl, rfl⟩) rfl ?_
     refine V.cond rfl (fun hc2 => ?_) (fun hc2 => ?_)
     ·
      replace hm2 := cond_t hc2 hm2
      refine V.region ?_
      refine VO.cons rfl (V1.move rfl rfl rfl (ltb rfl) ?_)
      refine VO.cons rfl (V1.int rfl rfl rfl rfl rfl (ltb rfl) ?_)
      refine VO.cons rfl (V1.assign rfl rfl rfl (ltb rfl) ?_)
      refine VO.nil ?_
      exact ⟨((IntKind.i64.wrap (count0 + (1 : Int))), ()), Option.some.inj hm2, Keeps.mk (ks := [0]) rfl ⟨rfl, rfl, rfl, rfl, trivial⟩ (⟨_, _, rfl, rfl, rfl⟩) rfl⟩
     ·
      replace hm2 := cond_f hc2 hm2
      refine V.skip ?_
      exact ⟨(count0, ()), Option.some.inj hm2, Keeps.mk (ks := [0]) rfl ⟨rfl, rfl, rfl, rfl, trivial⟩ (⟨_, _, rfl, rfl, rfl⟩) rfl⟩
    ·
     rintro ⟨count1, _⟩ rfl
     try dsimp only at hm1
     refine V.region ?_
     refine VO.cons rfl (V1.move rfl rfl rfl (ltb rfl) ?_)
     refine VO.cons rfl (V1.int rfl rfl rfl rfl rfl (ltb rfl) ?_)
     refine VO.cons rfl (V1.assign rfl rfl rfl (ltb rfl) ?_)
     refine VO.nil ?_
     exact ⟨(m0, (count1, (IntKind.i64.wrap (d + (1 : Int)))), ()), hl1 _ (Option.some.inj hm1).symm, Nat.lt_succ_self _, Keeps.mk (ks := [0]) rfl ⟨rfl, rfl, rfl, rfl, trivial⟩ (⟨_, _, rfl, rfl, rfl⟩) rfl⟩
   ·
    replace hm1 := cond_f hc1 hm1
    refine V.exit ?_
    obtain rfl := hr1 _ (Option.some.inj hm1).symm
    exact ⟨(count0, ()), rfl, Keeps.mk (ks := []) rfl ⟨rfl, trivial⟩ (rfl) rfl⟩
  ·
   rintro ⟨count, _⟩ rfl
   try dsimp only at hm0
   refine V.seq ?_
   refine V.region ?_
   refine VO.cons rfl (V1.move rfl rfl rfl (ltb rfl) ?_)
   refine VO.cons rfl (V1.assign rfl rfl rfl (ltb rfl) ?_)
   refine VO.cons rfl (V1.assign rfl rfl rfl (ltb rfl) ?_)
   refine VO.nil ?_
   refine V.ret ?_
   obtain rfl := Option.some.inj hm0
   exact ⟨_, [], ⟨_, _, rfl, rfl, ⟨_, _, rfl, rfl, rfl⟩⟩, List.nil_sublist _, rfl, rfl⟩

theorem ok_spec_l13Works {rn : Nat} {day : Int} {r : Bool} (h : M.spec_l13Works day = some r) : Does Try.prog 108 [.int .i64 day] [] rn (fun x H => x = .bool r ∧ H = []) := by
 have hm0 := h; clear h; unfold M.spec_l13Works at hm0
 try dsimp only at hm0
 refine Does.intro (N := 6) Try.func108 rfl rfl rfl rfl ?_
 intro w0 S0
 refine V.seq ?_
 refine V.region ?_
 refine VO.cons rfl (V1.assign rfl rfl rfl (ltb rfl) ?_)
 refine VO.nil ?_
 refine V.seq ?_
 refine V.region ?_
 refine VO.cons rfl (V1.move rfl rfl rfl (ltb rfl) ?_)
 refine VO.cons rfl (V1.rem rfl rfl rfl rfl (by decide) (ltb rfl) ?_)
 refine VO.cons rfl (V1.int rfl rfl rfl rfl rfl (ltb rfl) ?_)
 refine VO.cons rfl (V1.assign rfl rfl rfl (ltb rfl) ?_)
 refine VO.nil ?_
 refine V.ret ?_
 obtain rfl := Option.some.inj hm0
 exact ⟨_, [], ⟨_, _, rfl, rfl, rfl⟩, List.nil_sublist _, rfl, rfl⟩

theorem ok_spec_l13Counts {ρ0 rn : Nat} {r_ : Request} {day : Int} {r : Bool} (h : M.spec_l13Counts r_ day = some r) : Does Try.prog 64 [encRequest ρ0 r_, .int .i64 day] [] rn (fun x H => x = .bool r ∧ H = []) := by
 have hm0 := h; clear h; unfold M.spec_l13Counts at hm0
 try dsimp only at hm0
 refine Does.intro (N := 29) Try.func64 rfl rfl rfl rfl ?_
 intro w0 S0
 refine V.seq ?_
 refine V.region ?_
 refine VO.cons rfl (V1.boxN (n := 5) rfl rfl rfl rfl rfl (ltb rfl) ?_)
 intro b0
 refine VO.cons rfl (V1.assign rfl rfl rfl (ltb rfl) ?_)
 refine VO.nil ?_
 refine V.seq ?_
 refine V.seq ?_
 refine V.region ?_
 refine VO.cons rfl (V1.assign rfl rfl rfl (ltb rfl) ?_)
 refine VO.nil ?_
 replace hm0 := bindO hm0; rcases hm0 with ⟨e0, he1, hm0⟩
 refine V.cutT (D := (Unit) × (Unit)) (fun ⟨_, _⟩ => ⟨29, [(1, .int .i64 day)], []⟩) (fun ⟨_, _⟩ => (.inl () = e0)) ?_ ?_
 ·
  refine V.block ?_
  refine V.keep 29 [5, 1, 2] [0] (E0 := [(5, .int .i64 (0 : Int)), (1, .int .i64 day), (2, .ref b0 5 0 0)]) (H0 := [(b0, ⟨5, [encRequest ρ0 r_]⟩)]) rfl (⟨_, _, rfl, rfl, ⟨_, _, rfl, rfl, ⟨_, _, rfl, rfl, rfl⟩⟩⟩) (⟨_, _, rfl, rfl, rfl⟩) rfl ?_
  refine V.loopE (D := Nat × (Int) × (Unit)) (fun ⟨n0, i, _⟩ => [(5, .int .i64 i)]) (fun ⟨n0, i, _⟩ => []) (fun ⟨n0, i, _⟩ => loopO (M.spec_l13Counts_l0 r_ day) n0 i = some e0) (fun ⟨n0, _, _⟩ => n0) (rounds, (0 : Int), ()) rfl he1 ?_
  rintro ⟨n0, i, _⟩ hP0
  obtain ⟨m0, y0, rfl, hm1, hl1, hr1⟩ := loop_head hP0
  unfold M.spec_l13Counts_l0 at hm1; dsimp only at hm1
  show V _ _ _ ⟨29, [(5, .int .i64 i), (1, .int .i64 day), (2, .ref b0 5 0 0)], [(b0, ⟨5, [encRequest ρ0 r_]⟩)]⟩
  refine V.seq ?_
  refine V.seq ?_
  refine V.region ?_
  refine VO.cons rfl (V1.move rfl rfl rfl (ltb rfl) ?_)
  refine VO.cons rfl (V1.fieldRef rfl rfl fo_26_4 rfl (ltb rfl) ?_)
  refine VO.cons rfl (V1.loadRef (k := 0) rfl rfl tyk_24 rfl rfl rfl rfl rfl (ltb rfl) ?_)
  refine VO.cons rfl (V1.lenMap rfl rfl rfl rfl rfl rfl isl_24 (ltb rfl) ?_)
  refine VO.cons rfl (V1.int rfl rfl rfl rfl rfl (ltb rfl) ?_)
  refine VO.nil ?_
  refine V.keep 29 [1, 2, 5, 10] [0] (E0 := [(1, .int .i64 day), (2, .ref b0 5 0 0), (5, .int .i64 i), (10, .bool (decide (i < (r_.Stops.length : Int))))]) (H0 := [(b0, ⟨5, [encRequest ρ0 r_]⟩)]) rfl (⟨_, _, rfl, rfl, ⟨_, _, rfl, rfl, ⟨_, _, rfl, rfl, ⟨_, _, rfl, rfl, rfl⟩⟩⟩⟩) (⟨_, _, rfl, rfl, rfl⟩) rfl ?_
  refine V.cond rfl (fun hc0 => ?_) (fun hc0 => ?_)
  ·
   replace hm1 := cond_t hc0 hm1
   refine V.skip ?_
   refine V.seq ?_
   refine V.block ?_
   refine V.seq ?_
   replace hm1 := asrt_some hm1; rcases hm1 with ⟨hh0, hm1⟩
   replace hm1 := asrt_some hm1; rcases hm1 with ⟨hh1, hm1⟩
   replace hm1 := bindO hm1; rcases hm1 with ⟨y1, hh2, hm1⟩
   refine V.regionM 29 13 [⟨[(1, none)], [], none⟩, ⟨[(2, none)], [], none⟩, ⟨[(14, some 0)], [], none⟩, ⟨[(5, none)], [], none⟩, ⟨[(15, some 1), (16, some 0)], [], none⟩, ⟨[(17, some 0)], [], none⟩, ⟨[(18, some 0)], [], none⟩, ⟨[(2, none)], [], none⟩, ⟨[(20, some 0)], [], none⟩, ⟨[(5, none)], [], none⟩, ⟨[(21, some 1), (22, some 0)], [], none⟩, ⟨[(23, some 0)], [], none⟩, ⟨[(24, some 0)], [], none⟩] [(1, none), (2, none), (5, none), (13, some 12), (19, some 6), (25, some 0)] (⟨_, rfl, ⟨_, rfl, ⟨_, rfl, ⟨_, rfl, ⟨_, rfl, ⟨_, rfl, ⟨_, rfl, ⟨_, rfl, ⟨_, rfl, ⟨_, rfl, ⟨_, rfl, ⟨_, rfl, ⟨_, rfl, ⟨rfl, rfl⟩⟩⟩⟩⟩⟩⟩⟩⟩⟩⟩⟩⟩⟩) mixed_orders rfl (by decide +kernel) (fun hck4 => ?_)
   refine VP.step (p := ?pv105) rfl rfl rfl (⟨_, _, rfl, rfl, rfl⟩) ?hv105 ?rest105 hck4
   case hv105 =>
    intro E1
    refine (V1.move rfl rfl rfl (ltb rfl) ?_)
    exact rfl
   refine VP.step (p := ?pv106) rfl rfl rfl (⟨_, _, rfl, rfl, rfl⟩) ?hv106 ?rest106 hck4
   case hv106 =>
    intro E1
    refine (V1.fieldRef rfl rfl fo_26_4 rfl (ltb rfl) ?_)
    exact rfl
   refine VP.step (p := ?pv107) rfl rfl rfl (⟨_, _, rfl, rfl, rfl⟩) ?hv107 ?rest107 hck4
   case hv107 =>
    intro E1
    refine (V1.loadRef (k := 0) rfl rfl tyk_24 rfl rfl rfl rfl rfl (ltb rfl) ?_)
    exact rfl
   refine VP.step (p := ?pv108) rfl rfl rfl (⟨_, _, rfl, rfl, rfl⟩) ?hv108 ?rest108 hck4
   case hv108 =>
    intro E1
    refine (V1.move rfl rfl rfl (ltb rfl) ?_)
    exact rfl
   refine VP.step (p := ?pv109) rfl rfl rfl (⟨_, _, rfl, rfl, ⟨_, _, rfl, rfl, rfl⟩⟩) ?hv109 ?rest109 hck4
   case hv109 =>
    intro E1
    refine (V1.indexI rfl rfl esz_24 rfl rfl hh0 (ltb rfl) ?_)
    exact rfl
   refine VP.step (p := ?pv110) rfl rfl rfl (⟨_, _, rfl, rfl, rfl⟩) ?hv110 ?rest110 hck4
   case hv110 =>
    intro E1
    refine (V1.idxPin rfl rfl und_84 tyk_3 rfl rfl (by decide) (ltb rfl) ?_)
    exact rfl
   refine VP.step (p := ?pv111) rfl rfl rfl (⟨_, _, rfl, rfl, rfl⟩) ?hv111 ?rest111 hck4
   case hv111 =>
    intro E1
    refine (V1.loadPin rfl rfl tyk_3 rfl rfl (ltb rfl) ?_)
    exact rfl
   refine VP.step (p := ?pv112) rfl rfl rfl (⟨_, _, rfl, rfl, rfl⟩) ?hv112 ?rest112 hck4
   case hv112 =>
    intro E1
    refine (V1.fieldRef rfl rfl fo_26_4 rfl (ltb rfl) ?_)
    exact rfl
   refine VP.step (p := ?pv113) rfl rfl rfl (⟨_, _, rfl, rfl, rfl⟩) ?hv113 ?rest113 hck4
   case hv113 =>
    intro E1
    refine (V1.loadRef (k := 0) rfl rfl tyk_24 rfl rfl rfl rfl rfl (ltb rfl) ?_)
    exact rfl
   refine VP.step (p := ?pv114) rfl rfl rfl (⟨_, _, rfl, rfl, rfl⟩) ?hv114 ?rest114 hck4
   case hv114 =>
    intro E1
    refine (V1.move rfl rfl rfl (ltb rfl) ?_)
    exact rfl
   refine VP.step (p := ?pv115) rfl rfl rfl (⟨_, _, rfl, rfl, ⟨_, _, rfl, rfl, rfl⟩⟩) ?hv115 ?rest115 hck4
   case hv115 =>
    intro E1
    refine (V1.indexI rfl rfl esz_24 rfl rfl hh1 (ltb rfl) ?_)
    exact rfl
   refine VP.step (p := ?pv116) rfl rfl rfl (⟨_, _, rfl, rfl, rfl⟩) ?hv116 ?rest116 hck4
   case hv116 =>
    intro E1
    refine (V1.idxPin rfl rfl und_84 tyk_3 rfl rfl (by decide) (ltb rfl) ?_)
    exact rfl
   refine VP.step (p := ?pv117) rfl rfl rfl (⟨_, _, rfl, rfl, rfl⟩) ?hv117 ?rest117 hck4
   case hv117 =>
    intro E1
    refine (V1.loadPin rfl rfl tyk_3 rfl rfl (ltb rfl) ?_)
    exact rfl
   refine VP.fin rfl (⟨_, _, rfl, rfl, ⟨_, _, rfl, rfl, ⟨_, _, rfl, rfl, ⟨_, _, rfl, rfl, ⟨_, _, rfl, rfl, ⟨_, _, rfl, rfl, rfl⟩⟩⟩⟩⟩⟩) ?_
   refine VO.cons rfl (V1.call rfl rfl rfl cok_60 rfl (ok_spec_l1In hh2) rfl (ltb rfl) ?_)
   rintro _ _ ⟨rfl, rfl⟩
   refine VO.nil ?_
   refine V.cond rfl (fun hc1 => ?_) (fun hc1 => ?_)
   ·
    replace hm1 := cond_t hc1 hm1
    refine V.seq ?_
    refine V.region ?_
    refine VO.cons rfl (V1.assign rfl rfl rfl (ltb rfl) ?_)
    refine VO.nil ?_
    refine V.ret ?_
    obtain rfl := hr1 _ (Option.some.inj hm1).symm
    change some _ = some _ at hm0
    obtain rfl := Option.some.inj hm0
    exact ⟨_, [], ⟨_, _, rfl, rfl, rfl⟩, List.nil_sublist _, rfl, rfl⟩
   ·
    replace hm1 := cond_f hc1 hm1
    refine V.skip ?_
    refine V.keep 29 [1, 2, 5] [0] (E0 := [(1, .int .i64 day), (2, .ref b0 5 0 0), (5, .int .i64 i)]) (H0 := [(b0, ⟨5, [encRequest ρ0 r_]⟩)]) rfl (⟨_, _, rfl, rfl, ⟨_, _, rfl, rfl, ⟨_, _, rfl, rfl, rfl⟩⟩⟩) (⟨_, _, rfl, rfl, rfl⟩) rfl ?_
    refine V.region ?_
    refine VO.cons rfl (V1.move rfl rfl rfl (ltb rfl) ?_)
    refine VO.cons rfl (V1.int rfl rfl rfl rfl rfl (ltb rfl) ?_)
    refine VO.cons rfl (V1.assign rfl rfl rfl (ltb rfl) ?_)
    refine VO.nil ?_
    exact ⟨(m0, (IntKind.i64.wrap (i + (1 : Int))), ()), hl1 _ (Option.some.inj hm1).symm, Nat.lt_succ_self _, Keeps.mk (ks := [0]) rfl ⟨rfl, rfl, rfl, trivial⟩ (⟨_, _, rfl, rfl, rfl⟩) rfl⟩
  ·
   replace hm1 := cond_f hc0 hm1
   refine V.exit ?_
   obtain rfl := hr1 _ (Option.some.inj hm1).symm
   exact ⟨((), ()), rfl, Keeps.mk (ks := []) rfl ⟨rfl, trivial⟩ (rfl) rfl⟩
 ·
  rintro ⟨_, _⟩ rfl
  try dsimp only at hm0
  refine V.seq ?_
  replace hm0 := bindO hm0; rcases hm0 with ⟨y2, hh3, hm0⟩
  refine V.region ?_
  refine VO.cons rfl (V1.move rfl rfl rfl (ltb rfl) ?_)
  refine VO.cons rfl (V1.call rfl rfl rfl cok_108 rfl (ok_spec_l13Works hh3) rfl (ltb rfl) ?_)
  rintro _ _ ⟨rfl, rfl⟩
  refine VO.cons rfl (V1.assign rfl rfl rfl (ltb rfl) ?_)
  refine VO.nil ?_
  refine V.ret ?_
  obtain rfl := Option.some.inj hm0
  exact ⟨_, [], ⟨_, _, rfl, rfl, rfl⟩, List.nil_sublist _, rfl, rfl⟩

theorem ok_spec_l13Due {ρ0 rn : Nat} {r_ : Request} {r : Int} (h : M.spec_l13Due r_ = some r) : Does Try.prog 63 [encRequest ρ0 r_] [] rn (fun x H => x = .int .i64 r ∧ H = []) := by
 have hm0 := h; clear h; unfold M.spec_l13Due at hm0
 try dsimp only at hm0
 refine Does.intro (N := 22) Try.func63 rfl rfl rfl rfl ?_
 intro w0 S0
 refine V.seq ?_
 refine V.region ?_
 refine VO.cons rfl (V1.boxN (n := 5) rfl rfl rfl rfl rfl (ltb rfl) ?_)
 intro b0
 refine VO.cons rfl (V1.assign rfl rfl rfl (ltb rfl) ?_)
 refine VO.nil ?_
 refine V.seq ?_
 refine V.region ?_
 refine VO.cons rfl (V1.fieldRef rfl rfl fo_26_1 rfl (ltb rfl) ?_)
 refine VO.cons rfl (V1.loadRef (k := 0) rfl rfl tyk_3 rfl rfl rfl rfl rfl (ltb rfl) ?_)
 refine VO.cons rfl (V1.assign rfl rfl rfl (ltb rfl) ?_)
 refine VO.nil ?_
 refine V.keep 22 [1, 3] [0] (E0 := [(1, .ref b0 5 0 0), (3, .int .i64 r_.Came)]) (H0 := [(b0, ⟨5, [encRequest ρ0 r_]⟩)]) rfl (⟨_, _, rfl, rfl, ⟨_, _, rfl, rfl, rfl⟩⟩) (⟨_, _, rfl, rfl, rfl⟩) rfl ?_
 refine V.seq ?_
 refine V.seq ?_
 refine V.region ?_
 refine VO.cons rfl (V1.fieldRef rfl rfl fo_26_2 rfl (ltb rfl) ?_)
 refine VO.cons rfl (V1.loadRef (k := 0) rfl rfl tyk_3 rfl rfl rfl rfl rfl (ltb rfl) ?_)
 refine VO.cons rfl (V1.fieldRef rfl rfl fo_26_3 rfl (ltb rfl) ?_)
 refine VO.cons rfl (V1.loadRef (k := 0) rfl rfl tyk_3 rfl rfl rfl rfl rfl (ltb rfl) ?_)
 refine VO.cons rfl (V1.int rfl rfl rfl rfl rfl (ltb rfl) ?_)
 refine VO.cons rfl (V1.assign rfl rfl rfl (ltb rfl) ?_)
 refine VO.nil ?_
 refine V.keep 22 [1, 3, 4] [0] (E0 := [(1, .ref b0 5 0 0), (3, .int .i64 r_.Came), (4, .int .i64 (IntKind.i64.wrap (r_.Working + r_.Extended)))]) (H0 := [(b0, ⟨5, [encRequest ρ0 r_]⟩)]) rfl (⟨_, _, rfl, rfl, ⟨_, _, rfl, rfl, ⟨_, _, rfl, rfl, rfl⟩⟩⟩) (⟨_, _, rfl, rfl, rfl⟩) rfl ?_
 replace hm0 := bindO hm0; rcases hm0 with ⟨e0, he1, hm0⟩
 refine V.cutT (D := (Int) × (Unit)) (fun ⟨day, _⟩ => ⟨22, [(3, .int .i64 day)], []⟩) (fun ⟨day, _⟩ => (day = e0)) ?_ ?_
 ·
  refine V.block ?_
  refine V.keep 22 [3, 4, 1] [0] (E0 := [(3, .int .i64 r_.Came), (4, .int .i64 (IntKind.i64.wrap (r_.Working + r_.Extended))), (1, .ref b0 5 0 0)]) (H0 := [(b0, ⟨5, [encRequest ρ0 r_]⟩)]) rfl (⟨_, _, rfl, rfl, ⟨_, _, rfl, rfl, ⟨_, _, rfl, rfl, rfl⟩⟩⟩) (⟨_, _, rfl, rfl, rfl⟩) rfl ?_
  refine V.loopE (D := Nat × (Int × Int) × (Unit)) (fun ⟨n0, ⟨day0, n_⟩, _⟩ => [(3, .int .i64 day0), (4, .int .i64 n_)]) (fun ⟨n0, ⟨day0, n_⟩, _⟩ => []) (fun ⟨n0, ⟨day0, n_⟩, _⟩ => loopO (M.spec_l13Due_l0 r_) n0 (day0, n_) = some e0) (fun ⟨n0, _, _⟩ => n0) (rounds, (r_.Came, (IntKind.i64.wrap (r_.Working + r_.Extended))), ()) rfl he1 ?_
  rintro ⟨n0, ⟨day0, n_⟩, _⟩ hP0
  obtain ⟨m0, y0, rfl, hm1, hl1, hr1⟩ := loop_head hP0
  unfold M.spec_l13Due_l0 at hm1; dsimp only at hm1
  show V _ _ _ ⟨22, [(3, .int .i64 day0), (4, .int .i64 n_), (1, .ref b0 5 0 0)], [(b0, ⟨5, [encRequest ρ0 r_]⟩)]⟩
  refine V.seq ?_
  refine V.seq ?_
  refine V.region ?_
  refine VO.cons rfl (V1.move rfl rfl rfl (ltb rfl) ?_)
  refine VO.cons rfl (V1.int rfl rfl rfl rfl rfl (ltb rfl) ?_)
  refine VO.nil ?_
  refine V.cond rfl (fun hc0 => ?_) (fun hc0 => ?_)
  ·
   replace hm1 := cond_t hc0 hm1
   refine V.skip ?_
   replace hm1 := bindO hm1; rcases hm1 with ⟨j0, hm2, hm1⟩
   refine V.cutT (D := (Int × Int) × (Unit)) (fun ⟨⟨day1, n_0⟩, _⟩ => ⟨22, [(3, .int .i64 day1), (4, .int .i64 n_0), (1, .ref b0 5 0 0)], [(b0, ⟨5, [encRequest ρ0 r_]⟩)]⟩) (fun ⟨⟨day1, n_0⟩, _⟩ => ((day1, n_0) = j0)) ?_ ?_
   ·
    refine V.block ?_
    refine V.seq ?_
    refine V.region ?_
    refine VO.cons rfl (V1.move rfl rfl rfl (ltb rfl) ?_)
    refine VO.cons rfl (V1.int rfl rfl rfl rfl rfl (ltb rfl) ?_)
    refine VO.cons rfl (V1.assign rfl rfl rfl (ltb rfl) ?_)
    refine VO.nil ?_
    refine V.keep 22 [1, 3, 4] [0] (E0 := [(1, .ref b0 5 0 0), (3, .int .i64 (IntKind.i64.wrap (day0 + (1 : Int)))), (4, .int .i64 n_)]) (H0 := [(b0, ⟨5, [encRequest ρ0 r_]⟩)]) rfl (⟨_, _, rfl, rfl, ⟨_, _, rfl, rfl, ⟨_, _, rfl, rfl, rfl⟩⟩⟩) (⟨_, _, rfl, rfl, rfl⟩) rfl ?_
    refine V.seq ?_
    replace hm2 := bindO hm2; rcases hm2 with ⟨y1, hh0, hm2⟩
    refine V.region ?_
    refine VO.cons rfl (V1.loadRefAll (k := 0) rfl rfl tyk_26 rfl rfl rfl rfl rfl (ltb rfl) ?_)
    refine VO.cons rfl (V1.move rfl rfl rfl (ltb rfl) ?_)
    refine VO.cons rfl (V1.call rfl rfl rfl cok_64 rfl (ok_spec_l13Counts hh0) rfl (ltb rfl) ?_)
    rintro _ _ ⟨rfl, rfl⟩
    refine VO.nil ?_
    refine V.cond rfl (fun hc1 => ?_) (fun hc1 => ?_)
    ·
     replace hm2 := cond_t hc1 hm2
     refine V.region ?_
     refine VO.cons rfl (V1.move rfl rfl rfl (ltb rfl) ?_)
     refine VO.cons rfl (V1.int rfl rfl rfl rfl rfl (ltb rfl) ?_)
     refine VO.cons rfl (V1.assign rfl rfl rfl (ltb rfl) ?_)
     refine VO.nil ?_
     exact ⟨(((IntKind.i64.wrap (day0 + (1 : Int))), (IntKind.i64.wrap (n_ - (1 : Int)))), ()), Option.some.inj hm2, Keeps.mk (ks := [0]) rfl ⟨rfl, rfl, rfl, trivial⟩ (⟨_, _, rfl, rfl, rfl⟩) rfl⟩
    ·
     replace hm2 := cond_f hc1 hm2
     refine V.skip ?_
     exact ⟨(((IntKind.i64.wrap (day0 + (1 : Int))), n_), ()), Option.some.inj hm2, Keeps.mk (ks := [0]) rfl ⟨rfl, rfl, rfl, trivial⟩ (⟨_, _, rfl, rfl, rfl⟩) rfl⟩
   ·
    rintro ⟨⟨day1, n_0⟩, _⟩ rfl
    try dsimp only at hm1
    exact ⟨(m0, (day1, n_0), ()), hl1 _ (Option.some.inj hm1).symm, Nat.lt_succ_self _, Keeps.mk (ks := [0]) rfl ⟨rfl, rfl, rfl, trivial⟩ (⟨_, _, rfl, rfl, rfl⟩) rfl⟩
  ·
   replace hm1 := cond_f hc0 hm1
   refine V.exit ?_
   obtain rfl := hr1 _ (Option.some.inj hm1).symm
   exact ⟨(day0, ()), rfl, Keeps.mk (ks := []) rfl ⟨rfl, trivial⟩ (rfl) rfl⟩
 ·
  rintro ⟨day, _⟩ rfl
  try dsimp only at hm0
  refine V.seq ?_
  refine V.region ?_
  refine VO.cons rfl (V1.move rfl rfl rfl (ltb rfl) ?_)
  refine VO.cons rfl (V1.assign rfl rfl rfl (ltb rfl) ?_)
  refine VO.nil ?_
  refine V.ret ?_
  obtain rfl := Option.some.inj hm0
  exact ⟨_, [], ⟨_, _, rfl, rfl, rfl⟩, List.nil_sublist _, rfl, rfl⟩

theorem ok_spec_DaysLeftFor {ρ0 rn : Nat} {r_ : Request} {day : Int} {r : Int × Bool} (h : M.spec_DaysLeftFor r_ day = some r) : Does Try.prog 19 [encRequest ρ0 r_, .int .i64 day] [] rn (fun x H => x = .tup [.int .i64 r.1, .bool r.2] ∧ H = []) := by
 have hm0 := h; clear h; unfold M.spec_DaysLeftFor at hm0
 try dsimp only at hm0
 refine Does.intro (N := 41) Try.func19 rfl rfl rfl rfl ?_
 intro w0 S0
 refine V.seq ?_
 refine V.region ?_
 refine VO.cons rfl (V1.boxN (n := 5) rfl rfl rfl rfl rfl (ltb rfl) ?_)
 intro b0
 refine VO.cons rfl (V1.assign rfl rfl rfl (ltb rfl) ?_)
 refine VO.cons rfl (V1.assign rfl rfl rfl (ltb rfl) ?_)
 refine VO.nil ?_
 refine V.seq ?_
 refine V.seq ?_
 replace hm0 := bindO hm0; rcases hm0 with ⟨y0, hh0, hm0⟩
 replace hm0 := bindO hm0; rcases hm0 with ⟨y1, hh1, hm0⟩
 replace hm0 := bindO hm0; rcases hm0 with ⟨y2, hh2, hm0⟩
 refine V.region ?_
 refine VO.cons rfl (V1.loadRefAll (k := 0) rfl rfl tyk_26 rfl rfl rfl rfl rfl (ltb rfl) ?_)
 refine VO.cons rfl (V1.call rfl rfl rfl cok_53 rfl (ok_spec_l13Good hh0) rfl (ltb rfl) ?_)
 rintro _ _ ⟨rfl, rfl⟩
 refine VO.cons rfl (V1.not rfl rfl rfl (ltb rfl) ?_)
 refine VO.cons rfl (V1.move rfl rfl rfl (ltb rfl) ?_)
 apply VO.or (n := 3) rfl rfl rfl rfl rfl rfl (ltb rfl) (.none rfl)
 ·
  intro hg0
  refine VO.step (.some rfl rfl rfl) (V1.move rfl rfl rfl (ltb rfl) ?_)
  refine VO.step (.some rfl rfl rfl) (V1.call rfl rfl rfl cok_62 rfl (ok_spec_l2Day (cond_f hg0 hh1)) rfl (ltb rfl) ?_)
  rintro _ _ ⟨rfl, rfl⟩
  refine VO.step (.some rfl rfl rfl) (V1.not rfl rfl rfl (ltb rfl) ?_)
  exact VO.nil ⟨rfl, rfl, rfl, rfl, .inr ⟨rfl, .inr ⟨rfl, .inr ⟨rfl, .inr ⟨rfl, .inl rfl⟩⟩⟩⟩⟩
 refine VO.cons rfl (V1.move rfl rfl rfl (ltb rfl) ?_)
 apply VO.or (n := 4) rfl rfl rfl rfl rfl rfl (ltb rfl) (.none rfl)
 ·
  intro hg1
  refine VO.step (.some rfl rfl rfl) (V1.move rfl rfl rfl (ltb rfl) ?_)
  refine VO.step (.some rfl rfl rfl) (V1.fieldRef rfl rfl fo_26_1 rfl (ltb rfl) ?_)
  refine VO.step (.some rfl rfl rfl) (V1.loadRef (k := 0) rfl rfl tyk_3 rfl rfl rfl rfl rfl (ltb rfl) ?_)
  refine VO.step (.some rfl rfl rfl) (V1.int rfl rfl rfl rfl rfl (ltb rfl) ?_)
  exact VO.nil ⟨rfl, rfl, rfl, rfl, .inr ⟨rfl, .inr ⟨rfl, .inr ⟨rfl, .inr ⟨rfl, .inr ⟨rfl, .inl rfl⟩⟩⟩⟩⟩⟩
 refine VO.cons rfl (V1.move rfl rfl rfl (ltb rfl) ?_)
 apply VO.or (n := 3) rfl rfl rfl rfl rfl rfl (ltb rfl) (.none rfl)
 ·
  intro hg2
  refine VO.step (.some rfl rfl rfl) (V1.loadRefAll (k := 0) rfl rfl tyk_26 rfl rfl rfl rfl rfl (ltb rfl) ?_)
  refine VO.step (.some rfl rfl rfl) (V1.call rfl rfl rfl cok_63 rfl (ok_spec_l13Due (cond_f hg2 hh2)) rfl (ltb rfl) ?_)
  rintro _ _ ⟨rfl, rfl⟩
  refine VO.step (.some rfl rfl rfl) (V1.int rfl rfl rfl rfl rfl (ltb rfl) ?_)
  exact VO.nil ⟨rfl, rfl, rfl, rfl, .inr ⟨rfl, .inr ⟨rfl, .inr ⟨rfl, .inr ⟨rfl, .inl rfl⟩⟩⟩⟩⟩
 refine VO.nil ?_
 refine V.keep 41 [1, 2, 26] [0] (E0 := [(1, .int .i64 day), (2, .ref b0 5 0 0), (26, .bool ((((!y0) || (!y1)) || (decide (day < r_.Came))) || (decide (y2 > (20000 : Int)))))]) (H0 := [(b0, ⟨5, [encRequest ρ0 r_]⟩)]) rfl (⟨_, _, rfl, rfl, ⟨_, _, rfl, rfl, ⟨_, _, rfl, rfl, rfl⟩⟩⟩) (⟨_, _, rfl, rfl, rfl⟩) rfl ?_
 refine V.cond rfl (fun hc0 => ?_) (fun hc0 => ?_)
 ·
  replace hm0 := cond_t hc0 hm0
  refine V.seq ?_
  refine V.region ?_
  refine VO.cons rfl (V1.assign rfl rfl rfl (ltb rfl) ?_)
  refine VO.cons rfl (V1.assign rfl rfl rfl (ltb rfl) ?_)
  refine VO.nil ?_
  refine V.ret ?_
  obtain rfl := Option.some.inj hm0
  exact ⟨_, [], ⟨_, _, rfl, rfl, ⟨_, _, rfl, rfl, rfl⟩⟩, List.nil_sublist _, rfl, rfl⟩
 ·
  replace hm0 := cond_f hc0 hm0
  refine V.skip ?_
  refine V.seq ?_
  refine V.region ?_
  refine VO.cons rfl (V1.assign rfl rfl rfl (ltb rfl) ?_)
  refine VO.nil ?_
  refine V.seq ?_
  refine V.seq ?_
  refine V.region ?_
  refine VO.cons rfl (V1.move rfl rfl rfl (ltb rfl) ?_)
  refine VO.cons rfl (V1.int rfl rfl rfl rfl rfl (ltb rfl) ?_)
  refine VO.cons rfl (V1.assign rfl rfl rfl (ltb rfl) ?_)
  refine VO.nil ?_
  refine V.keep 41 [2, 6, 7] [0] (E0 := [(2, .ref b0 5 0 0), (6, .int .i64 (0 : Int)), (7, .int .i64 (IntKind.i64.wrap (day + (1 : Int))))]) (H0 := [(b0, ⟨5, [encRequest ρ0 r_]⟩)]) rfl (⟨_, _, rfl, rfl, ⟨_, _, rfl, rfl, ⟨_, _, rfl, rfl, rfl⟩⟩⟩) (⟨_, _, rfl, rfl, rfl⟩) rfl ?_
  replace hm0 := bindO hm0; rcases hm0 with ⟨e0, he1, hm0⟩
  refine V.cutT (D := (Int) × (Unit)) (fun ⟨n_, _⟩ => ⟨41, [(6, .int .i64 n_)], []⟩) (fun ⟨n_, _⟩ => (n_ = e0)) ?_ ?_
  ·
   refine V.block ?_
   refine V.keep 41 [6, 7, 2] [0] (E0 := [(6, .int .i64 (0 : Int)), (7, .int .i64 (IntKind.i64.wrap (day + (1 : Int)))), (2, .ref b0 5 0 0)]) (H0 := [(b0, ⟨5, [encRequest ρ0 r_]⟩)]) rfl (⟨_, _, rfl, rfl, ⟨_, _, rfl, rfl, ⟨_, _, rfl, rfl, rfl⟩⟩⟩) (⟨_, _, rfl, rfl, rfl⟩) rfl ?_
   refine V.loopE (D := Nat × (Int × Int) × (Unit)) (fun ⟨n0, ⟨n_0, k⟩, _⟩ => [(6, .int .i64 n_0), (7, .int .i64 k)]) (fun ⟨n0, ⟨n_0, k⟩, _⟩ => []) (fun ⟨n0, ⟨n_0, k⟩, _⟩ => loopO (M.spec_DaysLeftFor_l0 r_) n0 (n_0, k) = some e0) (fun ⟨n0, _, _⟩ => n0) (rounds, ((0 : Int), (IntKind.i64.wrap (day + (1 : Int)))), ()) rfl he1 ?_
   rintro ⟨n0, ⟨n_0, k⟩, _⟩ hP0
   obtain ⟨m0, y3, rfl, hm1, hl1, hr1⟩ := loop_head hP0
   unfold M.spec_DaysLeftFor_l0 at hm1; dsimp only at hm1
   show V _ _ _ ⟨41, [(6, .int .i64 n_0), (7, .int .i64 k), (2, .ref b0 5 0 0)], [(b0, ⟨5, [encRequest ρ0 r_]⟩)]⟩
   refine V.seq ?_
   refine V.seq ?_
   replace hm1 := bindO hm1; rcases hm1 with ⟨y4, hh3, hm1⟩
   refine V.region ?_
   refine VO.cons rfl (V1.move rfl rfl rfl (ltb rfl) ?_)
   refine VO.cons rfl (V1.loadRefAll (k := 0) rfl rfl tyk_26 rfl rfl rfl rfl rfl (ltb rfl) ?_)
   refine VO.cons rfl (V1.call rfl rfl rfl cok_63 rfl (ok_spec_l13Due hh3) rfl (ltb rfl) ?_)
   rintro _ _ ⟨rfl, rfl⟩
   refine VO.cons rfl (V1.int rfl rfl rfl rfl rfl (ltb rfl) ?_)
   refine VO.nil ?_
   refine V.cond rfl (fun hc1 => ?_) (fun hc1 => ?_)
   ·
    replace hm1 := cond_t hc1 hm1
    refine V.skip ?_
    refine V.keep 41 [2, 6, 7] [0] (E0 := [(2, .ref b0 5 0 0), (6, .int .i64 n_0), (7, .int .i64 k)]) (H0 := [(b0, ⟨5, [encRequest ρ0 r_]⟩)]) rfl (⟨_, _, rfl, rfl, ⟨_, _, rfl, rfl, ⟨_, _, rfl, rfl, rfl⟩⟩⟩) (⟨_, _, rfl, rfl, rfl⟩) rfl ?_
    refine V.seq ?_
    replace hm1 := bindO hm1; rcases hm1 with ⟨j0, hm2, hm1⟩
    refine V.cutT (D := (Int) × (Unit)) (fun ⟨n_1, _⟩ => ⟨41, [(6, .int .i64 n_1), (2, .ref b0 5 0 0), (7, .int .i64 k)], [(b0, ⟨5, [encRequest ρ0 r_]⟩)]⟩) (fun ⟨n_1, _⟩ => (n_1 = j0)) ?_ ?_
    ·
     refine V.block ?_
     refine V.seq ?_
     replace hm2 := bindO hm2; rcases hm2 with ⟨y5, hh4, hm2⟩
     refine V.region ?_
     refine VO.cons rfl (V1.loadRefAll (k := 0) rfl rfl tyk_26 rfl rfl rfl rfl rfl (ltb rfl) ?_)
     refine VO.cons rfl (V1.move rfl rfl rfl (ltb rfl) ?_)
     refine VO.cons rfl (V1.call rfl rfl rfl cok_64 rfl (ok_spec_l13Counts hh4) rfl (ltb rfl) ?_)
     rintro _ _ ⟨rfl, rfl⟩
     refine VO.nil ?_
     refine V.cond rfl (fun hc2 => ?_) (fun hc2 => ?_)
     ·
      replace hm2 := cond_t hc2 hm2
      refine V.region ?_
      refine VO.cons rfl (V1.move rfl rfl rfl (ltb rfl) ?_)
      refine VO.cons rfl (V1.int rfl rfl rfl rfl rfl (ltb rfl) ?_)
      refine VO.cons rfl (V1.assign rfl rfl rfl (ltb rfl) ?_)
      refine VO.nil ?_
      exact ⟨((IntKind.i64.wrap (n_0 + (1 : Int))), ()), Option.some.inj hm2, Keeps.mk (ks := [0]) rfl ⟨rfl, rfl, rfl, trivial⟩ (⟨_, _, rfl, rfl, rfl⟩) rfl⟩
     ·
      replace hm2 := cond_f hc2 hm2
      refine V.skip ?_
      exact ⟨(n_0, ()), Option.some.inj hm2, Keeps.mk (ks := [0]) rfl ⟨rfl, rfl, rfl, trivial⟩ (⟨_, _, rfl, rfl, rfl⟩) rfl⟩
    ·
     rintro ⟨n_1, _⟩ rfl
     try dsimp only at hm1
     refine V.region ?_
     refine VO.cons rfl (V1.move rfl rfl rfl (ltb rfl) ?_)
     refine VO.cons rfl (V1.int rfl rfl rfl rfl rfl (ltb rfl) ?_)
     refine VO.cons rfl (V1.assign rfl rfl rfl (ltb rfl) ?_)
     refine VO.nil ?_
     exact ⟨(m0, (n_1, (IntKind.i64.wrap (k + (1 : Int)))), ()), hl1 _ (Option.some.inj hm1).symm, Nat.lt_succ_self _, Keeps.mk (ks := [0]) rfl ⟨rfl, rfl, rfl, trivial⟩ (⟨_, _, rfl, rfl, rfl⟩) rfl⟩
   ·
    replace hm1 := cond_f hc1 hm1
    refine V.exit ?_
    obtain rfl := hr1 _ (Option.some.inj hm1).symm
    exact ⟨(n_0, ()), rfl, Keeps.mk (ks := []) rfl ⟨rfl, trivial⟩ (rfl) rfl⟩
  ·
   rintro ⟨n_, _⟩ rfl
   try dsimp only at hm0
   refine V.seq ?_
   refine V.region ?_
   refine VO.cons rfl (V1.move rfl rfl rfl (ltb rfl) ?_)
   refine VO.cons rfl (V1.assign rfl rfl rfl (ltb rfl) ?_)
   refine VO.cons rfl (V1.assign rfl rfl rfl (ltb rfl) ?_)
   refine VO.nil ?_
   refine V.ret ?_
   obtain rfl := Option.some.inj hm0
   exact ⟨_, [], ⟨_, _, rfl, rfl, ⟨_, _, rfl, rfl, rfl⟩⟩, List.nil_sublist _, rfl, rfl⟩

theorem ok_spec_DrawIsRequest {ρ0 rn : Nat} {code : List Int} {r : Request} (h : M.spec_DrawIsRequest code = some r) : Does Try.prog 65 [.vl ρ0 1 (List.map encU8 code)] [] rn (fun x H => x = encRequest rn r ∧ H = []) := by
 have hm0 := h; clear h; unfold M.spec_DrawIsRequest at hm0
 try dsimp only at hm0
 refine Does.intro (N := 12) Try.func65 rfl rfl rfl rfl ?_
 intro w0 S0
 refine V.seq ?_
 refine V.region ?_
 refine VO.cons rfl (V1.alloc rfl rfl zk_26 (ltb rfl) ?_)
 intro b0
 refine VO.nil ?_
 refine V.seq ?_
 refine V.region ?_
 refine VO.cons rfl (V1.move rfl rfl rfl (ltb rfl) ?_)
 refine VO.cons rfl (V1.build rfl rfl zk_80 pl_80 rfl rfl (ltb rfl) ?_)
 refine VO.cons rfl (V1.boxN (n := 3) rfl rfl rfl rfl rfl (ltb rfl) ?_)
 intro b1
 refine VO.cons rfl (V1.assign rfl rfl rfl (ltb rfl) ?_)
 refine VO.nil ?_
 refine V.keep 12 [2, 3] [0, 1] (E0 := [(2, .ref b0 5 0 0), (3, .ref b1 3 0 0)]) (H0 := [(b1, ⟨3, [.agg [.vl ρ0 1 (List.map encU8 code), .int .i64 (0 : Int), .int .u64 (0 : Int)]]⟩), (b0, ⟨5, [.agg [.int .i64 (0 : Int), .int .i64 (0 : Int), .int .i64 (0 : Int), .int .i64 (0 : Int), .nils]]⟩)]) rfl (⟨_, _, rfl, rfl, ⟨_, _, rfl, rfl, rfl⟩⟩) (⟨_, _, rfl, rfl, ⟨_, _, rfl, rfl, rfl⟩⟩) rfl ?_
 refine V.seq ?_
 replace hm0 := bindO hm0; rcases hm0 with ⟨y0, hh0, hm0⟩
 replace hm0 := bindO hm0; rcases hm0 with ⟨y1, hh1, hm0⟩
 refine V.region ?_
 refine VO.cons rfl (V1.move rfl rfl rfl (ltb rfl) ?_)
 refine VO.cons rfl (V1.move rfl rfl rfl (ltb rfl) ?_)
 refine VO.cons rfl (V1.buildSliceT (f := encInt) ([(1 : Int), (9 : Int), (99 : Int), (0 : Int), (100 : Int)] : List Int) rfl rfl esz_69 zk_3 rfl rfl rfl rfl rfl rfl rfl (ltb rfl) ?_)
 intro b2
 refine VO.cons rfl (V1.callM 1 (rn + ρ0 + 1) [b2] [.ref b1 3 0 0, .vl (rn + ρ0 + 1) 1 (List.map encInt ([(1 : Int), (9 : Int), (99 : Int), (0 : Int), (100 : Int)] : List Int))] (p := (b1, ⟨3, [.agg [.vl ρ0 1 (List.map encU8 code), .int .i64 (0 : Int), .int .u64 (0 : Int)]]⟩)) rfl rfl rfl cok_50 rfl rfl ⟨_, _, rfl, .same _, ⟨_, _, rfl, Lend.srMap 0 rfl (fun _ => rfl) (.head _), rfl⟩⟩ (bwCons (k := 0) rfl bwNil) (ok_spec_l1Cur_among hh0) rfl (.inr ⟨(by first | omega | (dsimp only; omega)), by rintro _ _ ⟨rfl, rfl⟩; exact ⟨by simp [PV.no, PV.noL, optS_no, noL_iff, nbeq] <;> omega, by intro b ob h; first | exact optH_no (noL_map (fun _ => by simp [PV.no, PV.noL, noL_iff, nbeq]) _) b ob h | (simp at h; obtain ⟨rfl, rfl⟩ := h; exact noL_map (fun _ => by simp [PV.no, PV.noL, noL_iff, nbeq]) _) | (simp at h; obtain ⟨rfl, rfl⟩ := h; simp [PV.no, PV.noL, optS_no, noL_iff, nbeq] <;> omega)⟩⟩) (ltb rfl) ?_)
 rintro _ _ ⟨rfl, rfl⟩
 refine VO.cons rfl (V1.callM 0 (rn + ρ0 + 1) [] [.ref b1 3 0 0, .int .i64 y0.1] (p := (b1, ⟨3, [encCur ρ0 y0.2]⟩)) rfl rfl rfl cok_49 rfl rfl ⟨_, _, rfl, .same _, ⟨_, _, rfl, .same _, rfl⟩⟩ bwNil (ok_spec_l1Cur_request hh1) rfl (.inl rfl) (ltb rfl) ?_)
 rintro _ _ ⟨rfl, rfl⟩
 refine VO.cons rfl (V1.storeRefAll (k := 2) rfl rfl tyk_26 rfl rfl rfl rfl rfl rfl ?_)
 refine VO.nil ?_
 refine V.ret ?_
 obtain rfl := Option.some.inj hm0
 exact ⟨_, [], ⟨_, _, rfl, ⟨_, _, 2, _, rfl, rfl, rfl, rfl, tyk_26, rfl⟩, rfl⟩, List.nil_sublist _, rfl, rfl⟩

theorem ok_spec_DrawRequestDue {ρ0 rn : Nat} {code : List Int} {r : Request} (h : M.spec_DrawRequestDue code = some r) : Does Try.prog 20 [.vl ρ0 1 (List.map encU8 code)] [] rn (fun x H => x = encRequest rn r ∧ H = []) := by
 have hm0 := h; clear h; unfold M.spec_DrawRequestDue at hm0
 try dsimp only at hm0
 refine Does.intro (N := 5) Try.func20 rfl rfl rfl rfl ?_
 intro w0 S0
 refine V.seq ?_
 refine V.region ?_
 refine VO.cons rfl (V1.alloc rfl rfl zk_26 (ltb rfl) ?_)
 intro b0
 refine VO.nil ?_
 refine V.seq ?_
 replace hm0 := bindO hm0; rcases hm0 with ⟨y0, hh0, hm0⟩
 refine V.region ?_
 refine VO.cons rfl (V1.move rfl rfl rfl (ltb rfl) ?_)
 refine VO.cons rfl (V1.call rfl rfl rfl cok_65 rfl (ok_spec_DrawIsRequest hh0) rfl (ltb rfl) ?_)
 rintro _ _ ⟨rfl, rfl⟩
 refine VO.cons rfl (V1.storeRefAll (k := 0) rfl rfl tyk_26 rfl rfl rfl rfl rfl rfl ?_)
 refine VO.nil ?_
 refine V.ret ?_
 obtain rfl := Option.some.inj hm0
 exact ⟨_, [], ⟨_, _, rfl, ⟨_, _, 0, _, rfl, rfl, rfl, rfl, tyk_26, rfl⟩, rfl⟩, List.nil_sublist _, rfl, rfl⟩

theorem ok_spec_RequestDue {ρ0 rn : Nat} {r_ : Request} {r : Int × Bool} (h : M.spec_RequestDue r_ = some r) : Does Try.prog 21 [encRequest ρ0 r_] [] rn (fun x H => x = .tup [.int .i64 r.1, .bool r.2] ∧ H = []) := by
 have hm0 := h; clear h; unfold M.spec_RequestDue at hm0
 try dsimp only at hm0
 refine Does.intro (N := 14) Try.func21 rfl rfl rfl rfl ?_
 intro w0 S0
 refine V.seq ?_
 refine V.region ?_
 refine VO.cons rfl (V1.boxN (n := 5) rfl rfl rfl rfl rfl (ltb rfl) ?_)
 intro b0
 refine VO.cons rfl (V1.assign rfl rfl rfl (ltb rfl) ?_)
 refine VO.cons rfl (V1.assign rfl rfl rfl (ltb rfl) ?_)
 refine VO.nil ?_
 refine V.seq ?_
 refine V.seq ?_
 replace hm0 := bindO hm0; rcases hm0 with ⟨y0, hh0, hm0⟩
 replace hm0 := bindO hm0; rcases hm0 with ⟨y1, hh1, hm0⟩
 refine V.region ?_
 refine VO.cons rfl (V1.loadRefAll (k := 0) rfl rfl tyk_26 rfl rfl rfl rfl rfl (ltb rfl) ?_)
 refine VO.cons rfl (V1.call rfl rfl rfl cok_53 rfl (ok_spec_l13Good hh0) rfl (ltb rfl) ?_)
 rintro _ _ ⟨rfl, rfl⟩
 refine VO.cons rfl (V1.not rfl rfl rfl (ltb rfl) ?_)
 refine VO.cons rfl (V1.move rfl rfl rfl (ltb rfl) ?_)
 apply VO.or (n := 3) rfl rfl rfl rfl rfl rfl (ltb rfl) (.none rfl)
 ·
  intro hg0
  refine VO.step (.some rfl rfl rfl) (V1.loadRefAll (k := 0) rfl rfl tyk_26 rfl rfl rfl rfl rfl (ltb rfl) ?_)
  refine VO.step (.some rfl rfl rfl) (V1.call rfl rfl rfl cok_63 rfl (ok_spec_l13Due (cond_f hg0 hh1)) rfl (ltb rfl) ?_)
  rintro _ _ ⟨rfl, rfl⟩
  refine VO.step (.some rfl rfl rfl) (V1.int rfl rfl rfl rfl rfl (ltb rfl) ?_)
  exact VO.nil ⟨rfl, rfl, rfl, rfl, .inr ⟨rfl, .inr ⟨rfl, .inr ⟨rfl, .inr ⟨rfl, .inl rfl⟩⟩⟩⟩⟩
 refine VO.nil ?_
 refine V.keep 14 [1, 11] [0] (E0 := [(1, .ref b0 5 0 0), (11, .bool ((!y0) || (decide (y1 > (20000 : Int)))))]) (H0 := [(b0, ⟨5, [encRequest ρ0 r_]⟩)]) rfl (⟨_, _, rfl, rfl, ⟨_, _, rfl, rfl, rfl⟩⟩) (⟨_, _, rfl, rfl, rfl⟩) rfl ?_
 refine V.cond rfl (fun hc0 => ?_) (fun hc0 => ?_)
 ·
  replace hm0 := cond_t hc0 hm0
  refine V.seq ?_
  refine V.region ?_
  refine VO.cons rfl (V1.assign rfl rfl rfl (ltb rfl) ?_)
  refine VO.cons rfl (V1.assign rfl rfl rfl (ltb rfl) ?_)
  refine VO.nil ?_
  refine V.ret ?_
  obtain rfl := Option.some.inj hm0
  exact ⟨_, [], ⟨_, _, rfl, rfl, ⟨_, _, rfl, rfl, rfl⟩⟩, List.nil_sublist _, rfl, rfl⟩
 ·
  replace hm0 := cond_f hc0 hm0
  refine V.skip ?_
  refine V.seq ?_
  replace hm0 := bindO hm0; rcases hm0 with ⟨y2, hh2, hm0⟩
  refine V.region ?_
  refine VO.cons rfl (V1.loadRefAll (k := 0) rfl rfl tyk_26 rfl rfl rfl rfl rfl (ltb rfl) ?_)
  refine VO.cons rfl (V1.call rfl rfl rfl cok_63 rfl (ok_spec_l13Due hh2) rfl (ltb rfl) ?_)
  rintro _ _ ⟨rfl, rfl⟩
  refine VO.cons rfl (V1.assign rfl rfl rfl (ltb rfl) ?_)
  refine VO.cons rfl (V1.assign rfl rfl rfl (ltb rfl) ?_)
  refine VO.nil ?_
  refine V.ret ?_
  obtain rfl := Option.some.inj hm0
  exact ⟨_, [], ⟨_, _, rfl, rfl, ⟨_, _, rfl, rfl, rfl⟩⟩, List.nil_sublist _, rfl, rfl⟩

theorem ok_impl_IsWorkingDay {rn : Nat} {day : Int} {r : Bool × Bool} (h : M.impl_IsWorkingDay day = some r) : Does Try.prog 22 [.int .i64 day] [] rn (fun x H => x = .tup [.bool r.1, .bool r.2] ∧ H = []) := by
 have hm0 := h; clear h; unfold M.impl_IsWorkingDay at hm0
 try dsimp only at hm0
 refine Does.intro (N := 9) Try.func22 rfl rfl rfl rfl ?_
 intro w0 S0
 refine V.seq ?_
 refine V.region ?_
 refine VO.cons rfl (V1.assign rfl rfl rfl (ltb rfl) ?_)
 refine VO.cons rfl (V1.assign rfl rfl rfl (ltb rfl) ?_)
 refine VO.nil ?_
 refine V.seq ?_
 refine V.seq ?_
 replace hm0 := bindO hm0; rcases hm0 with ⟨y0, hh0, hm0⟩
 refine V.region ?_
 refine VO.cons rfl (V1.move rfl rfl rfl (ltb rfl) ?_)
 refine VO.cons rfl (V1.call rfl rfl rfl cok_56 rfl (ok_impl_isDay hh0) rfl (ltb rfl) ?_)
 rintro _ _ ⟨rfl, rfl⟩
 refine VO.cons rfl (V1.not rfl rfl rfl (ltb rfl) ?_)
 refine VO.nil ?_
 refine V.keep 9 [0, 6] [] (E0 := [(0, .int .i64 day), (6, .bool (!y0))]) (H0 := []) rfl (⟨_, _, rfl, rfl, ⟨_, _, rfl, rfl, rfl⟩⟩) (rfl) rfl ?_
 refine V.cond rfl (fun hc0 => ?_) (fun hc0 => ?_)
 ·
  replace hm0 := cond_t hc0 hm0
  refine V.seq ?_
  refine V.region ?_
  refine VO.cons rfl (V1.assign rfl rfl rfl (ltb rfl) ?_)
  refine VO.cons rfl (V1.assign rfl rfl rfl (ltb rfl) ?_)
  refine VO.nil ?_
  refine V.ret ?_
  obtain rfl := Option.some.inj hm0
  exact ⟨_, [], ⟨_, _, rfl, rfl, ⟨_, _, rfl, rfl, rfl⟩⟩, List.nil_sublist _, rfl, rfl⟩
 ·
  replace hm0 := cond_f hc0 hm0
  refine V.skip ?_
  refine V.seq ?_
  replace hm0 := bindO hm0; rcases hm0 with ⟨y1, hh1, hm0⟩
  refine V.region ?_
  refine VO.cons rfl (V1.move rfl rfl rfl (ltb rfl) ?_)
  refine VO.cons rfl (V1.call rfl rfl rfl cok_66 rfl (ok_impl_isWorkingDay hh1) rfl (ltb rfl) ?_)
  rintro _ _ ⟨rfl, rfl⟩
  refine VO.cons rfl (V1.assign rfl rfl rfl (ltb rfl) ?_)
  refine VO.cons rfl (V1.assign rfl rfl rfl (ltb rfl) ?_)
  refine VO.nil ?_
  refine V.ret ?_
  obtain rfl := Option.some.inj hm0
  exact ⟨_, [], ⟨_, _, rfl, rfl, ⟨_, _, rfl, rfl, rfl⟩⟩, List.nil_sublist _, rfl, rfl⟩

theorem ok_laws_FnDeadlines {ρ0 rn : Nat} {code : List Int} {r : Bool} (h : M.laws_FnDeadlines code = some r) : Does Try.prog 3 [.vl ρ0 1 (List.map encU8 code)] [] rn (fun x H => x = .bool r ∧ H = []) := by
 have hm0 := h; clear h; unfold M.laws_FnDeadlines at hm0
 try dsimp only at hm0
 refine Does.intro (N := 251) Try.func3 rfl rfl rfl rfl ?_
 intro w0 S0
 refine V.seq ?_
 refine V.region ?_
 refine VO.cons rfl (V1.assign rfl rfl rfl (ltb rfl) ?_)
 refine VO.nil ?_
 refine V.seq ?_
 refine V.seq ?_
 replace hm0 := bindO hm0; rcases hm0 with ⟨y0, hh0, hm0⟩
 refine V.region ?_
 refine VO.cons rfl (V1.move rfl rfl rfl (ltb rfl) ?_)
 refine VO.cons rfl (V1.call rfl rfl rfl cok_6 rfl (ok_laws_vBig hh0) rfl (ltb rfl) ?_)
 rintro _ _ ⟨rfl, rfl⟩
 refine VO.nil ?_
 refine V.cond rfl (fun hc0 => ?_) (fun hc0 => ?_)
 ·
  replace hm0 := cond_t hc0 hm0
  refine V.seq ?_
  refine V.region ?_
  refine VO.cons rfl (V1.assign rfl rfl rfl (ltb rfl) ?_)
  refine VO.nil ?_
  refine V.ret ?_
  obtain rfl := Option.some.inj hm0
  exact ⟨_, [], ⟨_, _, rfl, rfl, rfl⟩, List.nil_sublist _, rfl, rfl⟩
 ·
  replace hm0 := cond_f hc0 hm0
  refine V.skip ?_
  refine V.seq ?_
  replace hm0 := bindO hm0; rcases hm0 with ⟨y1, hh1, hm0⟩
  refine V.region ?_
  refine VO.cons rfl (V1.move rfl rfl rfl (ltb rfl) ?_)
  refine VO.cons rfl (V1.call rfl rfl rfl cok_7 rfl (ok_spec_DrawStopClock hh1) rfl (ltb rfl) ?_)
  rintro _ _ ⟨rfl, rfl⟩
  refine VO.cons rfl (V1.move rfl rfl rfl (ltb rfl) ?_)
  refine VO.cons rfl (V1.extract rfl rfl rfl rfl (ltb rfl) ?_)
  refine VO.cons rfl (V1.extract rfl rfl rfl rfl (ltb rfl) ?_)
  refine VO.cons rfl (V1.extract rfl rfl rfl rfl (ltb rfl) ?_)
  refine VO.cons rfl (V1.alloc rfl rfl zk_26 (ltb rfl) ?_)
  intro b0
  refine VO.cons rfl (V1.storeRefAll (k := 0) rfl rfl tyk_26 rfl rfl rfl rfl rfl rfl ?_)
  refine VO.cons rfl (V1.assign rfl rfl rfl (ltb rfl) ?_)
  refine VO.cons rfl (V1.assign rfl rfl rfl (ltb rfl) ?_)
  refine VO.nil ?_
  refine V.keep 251 [0, 3, 4, 5] [0] (E0 := [(0, .vl ρ0 1 (List.map encU8 code)), (3, .ref b0 5 0 0), (4, .int .i64 y1.2.1), (5, .int .i64 y1.2.2)]) (H0 := [(b0, ⟨5, [encRequest rn y1.1]⟩)]) rfl (⟨_, _, rfl, rfl, ⟨_, _, rfl, rfl, ⟨_, _, rfl, rfl, ⟨_, _, rfl, rfl, rfl⟩⟩⟩⟩) (⟨_, _, rfl, rfl, rfl⟩) rfl ?_
  refine V.seq ?_
  replace hm0 := bindO hm0; rcases hm0 with ⟨y2, hh2, hm0⟩
  refine V.region ?_
  refine VO.cons rfl (V1.loadRefAll (k := 0) rfl rfl tyk_26 rfl rfl rfl rfl rfl (ltb rfl) ?_)
  refine VO.cons rfl (V1.move rfl rfl rfl (ltb rfl) ?_)
  refine VO.cons rfl (V1.move rfl rfl rfl (ltb rfl) ?_)
  refine VO.cons rfl (V1.call rfl rfl rfl cok_8 rfl (ok_impl_StopClock hh2) rfl (ltb rfl) ?_)
  rintro _ _ ⟨rfl, rfl⟩
  refine VO.cons rfl (V1.move rfl rfl rfl (ltb rfl) ?_)
  refine VO.cons rfl (V1.extract rfl rfl rfl rfl (ltb rfl) ?_)
  refine VO.cons rfl (V1.extract rfl rfl rfl rfl (ltb rfl) ?_)
  refine VO.cons rfl (V1.alloc rfl rfl zk_26 (ltb rfl) ?_)
  intro b1
  refine VO.cons rfl (V1.storeRefAll (k := 0) rfl rfl tyk_26 rfl rfl rfl rfl rfl rfl ?_)
  refine VO.cons rfl (V1.assign rfl rfl rfl (ltb rfl) ?_)
  refine VO.nil ?_
  refine V.keep 251 [0, 3, 4, 5, 6, 7] [0, 1] (E0 := [(0, .vl ρ0 1 (List.map encU8 code)), (3, .ref b0 5 0 0), (4, .int .i64 y1.2.1), (5, .int .i64 y1.2.2), (6, .ref b1 5 0 0), (7, .bool y2.2)]) (H0 := [(b1, ⟨5, [encRequest rn y2.1]⟩), (b0, ⟨5, [encRequest rn y1.1]⟩)]) rfl (⟨_, _, rfl, rfl, ⟨_, _, rfl, rfl, ⟨_, _, rfl, rfl, ⟨_, _, rfl, rfl, ⟨_, _, rfl, rfl, ⟨_, _, rfl, rfl, rfl⟩⟩⟩⟩⟩⟩) (⟨_, _, rfl, rfl, ⟨_, _, rfl, rfl, rfl⟩⟩) rfl ?_
  refine V.seq ?_
  refine V.seq ?_
  replace hm0 := bindO hm0; rcases hm0 with ⟨y3, hh3, hm0⟩
  refine V.region ?_
  refine VO.cons rfl (V1.loadRefAll (k := 1) rfl rfl tyk_26 rfl rfl rfl rfl rfl (ltb rfl) ?_)
  refine VO.cons rfl (V1.move rfl rfl rfl (ltb rfl) ?_)
  refine VO.cons rfl (V1.move rfl rfl rfl (ltb rfl) ?_)
  refine VO.cons rfl (V1.call rfl rfl rfl cok_9 rfl (ok_spec_StopClock hh3) rfl (ltb rfl) ?_)
  rintro _ _ ⟨rfl, rfl⟩
  refine VO.cons rfl (V1.move rfl rfl rfl (ltb rfl) ?_)
  refine VO.cons rfl (V1.extract rfl rfl rfl rfl (ltb rfl) ?_)
  refine VO.cons rfl (V1.extract rfl rfl rfl rfl (ltb rfl) ?_)
  refine VO.cons rfl (V1.alloc rfl rfl zk_26 (ltb rfl) ?_)
  intro b2
  refine VO.cons rfl (V1.storeRefAll (k := 0) rfl rfl tyk_26 rfl rfl rfl rfl rfl rfl ?_)
  refine VO.cons rfl (V1.assign rfl rfl rfl (ltb rfl) ?_)
  refine VO.nil ?_
  refine V.keep 251 [0, 3, 6, 7, 8, 9] [0, 1, 2] (E0 := [(0, .vl ρ0 1 (List.map encU8 code)), (3, .ref b0 5 0 0), (6, .ref b1 5 0 0), (7, .bool y2.2), (8, .ref b2 5 0 0), (9, .bool y3.2)]) (H0 := [(b2, ⟨5, [encRequest rn y3.1]⟩), (b1, ⟨5, [encRequest rn y2.1]⟩), (b0, ⟨5, [encRequest rn y1.1]⟩)]) rfl (⟨_, _, rfl, rfl, ⟨_, _, rfl, rfl, ⟨_, _, rfl, rfl, ⟨_, _, rfl, rfl, ⟨_, _, rfl, rfl, ⟨_, _, rfl, rfl, rfl⟩⟩⟩⟩⟩⟩) (⟨_, _, rfl, rfl, ⟨_, _, rfl, rfl, ⟨_, _, rfl, rfl, rfl⟩⟩⟩) rfl ?_
  refine V.seq ?_
  replace hm0 := bindO hm0; rcases hm0 with ⟨y4, hh4, hm0⟩
  replace hm0 := bindO hm0; rcases hm0 with ⟨y5, hh5, hm0⟩
  replace hm0 := bindO hm0; rcases hm0 with ⟨y6, hh6, hm0⟩
  refine V.regionM 251 16 [⟨[(7, none)], [], none⟩, ⟨[(9, none)], [], none⟩, ⟨[(63, some 1), (64, some 0)], [], none⟩, ⟨[(65, some 0)], [], none⟩, ⟨[(6, none)], [(0, false)], none⟩, ⟨[(8, none)], [(1, false)], none⟩, ⟨[(67, some 1), (68, some 0)], [(2, false)], none⟩, ⟨[(69, some 0)], [(3, false)], none⟩, ⟨[], [], some (false, 66, 70, 4, 0)⟩, ⟨[(71, some 0)], [], none⟩, ⟨[(3, none)], [(0, false)], none⟩, ⟨[(73, some 0)], [(1, false)], none⟩, ⟨[(3, none)], [(2, false)], none⟩, ⟨[(75, some 0)], [(3, false)], none⟩, ⟨[(74, some 2), (76, some 0)], [(4, false)], none⟩, ⟨[], [], some (false, 72, 77, 5, 0)⟩] [(0, none), (3, none), (6, none), (7, none), (78, some 0)] (⟨_, rfl, ⟨_, rfl, ⟨_, rfl, ⟨_, rfl, ⟨_, rfl, ⟨_, rfl, ⟨_, rfl, ⟨_, rfl, ⟨_, rfl, ⟨_, rfl, ⟨_, rfl, ⟨_, rfl, ⟨_, rfl, ⟨_, rfl, ⟨_, rfl, ⟨_, rfl, ⟨rfl, rfl⟩⟩⟩⟩⟩⟩⟩⟩⟩⟩⟩⟩⟩⟩⟩⟩⟩) mixed_orders rfl (by decide +kernel) (fun hck6 => ?_)
  refine VP.step (p := ?pv29) rfl rfl rfl (⟨_, _, rfl, rfl, rfl⟩) ?hv29 ?rest29 hck6
  case hv29 =>
   intro E1
   refine (V1.move rfl rfl rfl (ltb rfl) ?_)
   exact rfl
  refine VP.step (p := ?pv30) rfl rfl rfl (⟨_, _, rfl, rfl, rfl⟩) ?hv30 ?rest30 hck6
  case hv30 =>
   intro E1
   refine (V1.move rfl rfl rfl (ltb rfl) ?_)
   exact rfl
  refine VP.step (p := ?pv31) rfl rfl rfl (⟨_, _, rfl, rfl, ⟨_, _, rfl, rfl, rfl⟩⟩) ?hv31 ?rest31 hck6
  case hv31 =>
   intro E1
   refine (V1.boolNeq rfl rfl und_4 rfl rfl (ltb rfl) ?_)
   exact rfl
  refine VP.step (p := ?pv32) rfl rfl rfl (⟨_, _, rfl, rfl, rfl⟩) ?hv32 ?rest32 hck6
  case hv32 =>
   intro E1
   refine (V1.move rfl rfl rfl (ltb rfl) ?_)
   exact rfl
  refine VP.step (p := ?pv33) rfl rfl rfl (⟨_, _, rfl, rfl, rfl⟩) ?hv33 ?rest33 hck6
  case hv33 =>
   refine ⟨_, rfl, fun hg0 => ?_⟩
   intro E1
   refine (V1.loadRefAll (k := 1) rfl rfl tyk_26 rfl rfl rfl rfl rfl (ltb rfl) ?_)
   exact rfl
  refine VP.step (p := ?pv34) rfl rfl rfl (⟨_, _, rfl, rfl, rfl⟩) ?hv34 ?rest34 hck6
  case hv34 =>
   refine ⟨_, rfl, fun hg0 => ?_⟩
   intro E1
   refine (V1.loadRefAll (k := 0) rfl rfl tyk_26 rfl rfl rfl rfl rfl (ltb rfl) ?_)
   exact rfl
  refine VP.step (p := ?pv35) rfl rfl rfl (⟨_, _, rfl, rfl, ⟨_, _, rfl, rfl, rfl⟩⟩) ?hv35 ?rest35 hck6
  case hv35 =>
   refine ⟨_, rfl, fun hg0 => ?_⟩
   intro E1
   refine (V1.call rfl rfl rfl cok_10 rfl (ok_laws_vRequest (cond_f hg0 hh4)) rfl (ltb rfl) ?_)
   rintro _ _ ⟨rfl, rfl⟩
   exact rfl
  refine VP.step (p := ?pv36) rfl rfl rfl (⟨_, _, rfl, rfl, rfl⟩) ?hv36 ?rest36 hck6
  case hv36 =>
   refine ⟨_, rfl, fun hg0 => ?_⟩
   intro E1
   refine (V1.not rfl rfl rfl (ltb rfl) ?_)
   exact rfl
  refine VP.pickOr rfl rfl rfl rfl rfl rfl (trivial) ?_ hck6
  refine VP.step (p := ?pv37) rfl rfl rfl (⟨_, _, rfl, rfl, rfl⟩) ?hv37 ?rest37 hck6
  case hv37 =>
   intro E1
   refine (V1.move rfl rfl rfl (ltb rfl) ?_)
   exact rfl
  refine VP.step (p := ?pv38) rfl rfl rfl (⟨_, _, rfl, rfl, rfl⟩) ?hv38 ?rest38 hck6
  case hv38 =>
   refine ⟨_, rfl, fun hg1 => ?_⟩
   intro E1
   refine (V1.loadRefAll (k := 2) rfl rfl tyk_26 rfl rfl rfl rfl rfl (ltb rfl) ?_)
   exact rfl
  refine VP.step (p := ?pv39) rfl rfl rfl (⟨_, _, rfl, rfl, rfl⟩) ?hv39 ?rest39 hck6
  case hv39 =>
   refine ⟨_, rfl, fun hg1 => ?_⟩
   intro E1
   refine (V1.call rfl rfl rfl cok_11 rfl (ok_impl_IsRequest (cond_f hg1 hh5)) rfl (ltb rfl) ?_)
   rintro _ _ ⟨rfl, rfl⟩
   exact rfl
  refine VP.step (p := ?pv40) rfl rfl rfl (⟨_, _, rfl, rfl, rfl⟩) ?hv40 ?rest40 hck6
  case hv40 =>
   refine ⟨_, rfl, fun hg1 => ?_⟩
   intro E1
   refine (V1.loadRefAll (k := 2) rfl rfl tyk_26 rfl rfl rfl rfl rfl (ltb rfl) ?_)
   exact rfl
  refine VP.step (p := ?pv41) rfl rfl rfl (⟨_, _, rfl, rfl, rfl⟩) ?hv41 ?rest41 hck6
  case hv41 =>
   refine ⟨_, rfl, fun hg1 => ?_⟩
   intro E1
   refine (V1.call rfl rfl rfl cok_12 rfl (ok_spec_IsRequest (cond_f hg1 hh6)) rfl (ltb rfl) ?_)
   rintro _ _ ⟨rfl, rfl⟩
   exact rfl
  refine VP.step (p := ?pv42) rfl rfl rfl (⟨_, _, rfl, rfl, ⟨_, _, rfl, rfl, rfl⟩⟩) ?hv42 ?rest42 hck6
  case hv42 =>
   refine ⟨_, rfl, fun hg1 => ?_⟩
   intro E1
   refine (V1.boolNeq rfl rfl und_4 rfl rfl (ltb rfl) ?_)
   exact rfl
  refine VP.pickOr rfl rfl rfl rfl rfl rfl (trivial) ?_ hck6
  refine VP.fin rfl (⟨_, _, rfl, rfl, ⟨_, _, rfl, rfl, ⟨_, _, rfl, rfl, ⟨_, _, rfl, rfl, ⟨_, _, rfl, rfl, rfl⟩⟩⟩⟩⟩) ?_
  refine VO.nil ?_
  refine V.cond rfl (fun hc1 => ?_) (fun hc1 => ?_)
  ·
   replace hm0 := cond_t hc1 hm0
   refine V.seq ?_
   refine V.region ?_
   refine VO.cons rfl (V1.assign rfl rfl rfl (ltb rfl) ?_)
   refine VO.nil ?_
   refine V.ret ?_
   obtain rfl := Option.some.inj hm0
   exact ⟨_, [], ⟨_, _, rfl, rfl, rfl⟩, List.nil_sublist _, rfl, rfl⟩
  ·
   replace hm0 := cond_f hc1 hm0
   refine V.skip ?_
   refine V.seq ?_
   replace hm0 := bindO hm0; rcases hm0 with ⟨j0, hm1, hm0⟩
   refine V.cutT (D := (Unit) × (Unit)) (fun ⟨_, _⟩ => ⟨251, [(0, .vl ρ0 1 (List.map encU8 code))], []⟩) (fun ⟨_, _⟩ => (.inl () = j0)) ?_ ?_
   ·
    refine V.seq ?_
    refine V.region ?_
    refine VO.cons rfl (V1.move rfl rfl rfl (ltb rfl) ?_)
    refine VO.nil ?_
    refine V.cond rfl (fun hc2 => ?_) (fun hc2 => ?_)
    ·
     replace hm1 := cond_t hc2 hm1
     refine V.seq ?_
     replace hm1 := bindO hm1; rcases hm1 with ⟨y7, hh7, hm1⟩
     refine V.region ?_
     refine VO.cons rfl (V1.loadRefAll (k := 2) rfl rfl tyk_26 rfl rfl rfl rfl rfl (ltb rfl) ?_)
     refine VO.cons rfl (V1.call rfl rfl rfl cok_13 rfl (ok_impl_RequestDue hh7) rfl (ltb rfl) ?_)
     rintro _ _ ⟨rfl, rfl⟩
     refine VO.cons rfl (V1.move rfl rfl rfl (ltb rfl) ?_)
     refine VO.cons rfl (V1.extract rfl rfl rfl rfl (ltb rfl) ?_)
     refine VO.cons rfl (V1.extract rfl rfl rfl rfl (ltb rfl) ?_)
     refine VO.cons rfl (V1.assign rfl rfl rfl (ltb rfl) ?_)
     refine VO.cons rfl (V1.assign rfl rfl rfl (ltb rfl) ?_)
     refine VO.nil ?_
     refine V.keep 251 [0, 6, 10, 11] [1] (E0 := [(0, .vl ρ0 1 (List.map encU8 code)), (6, .ref b1 5 0 0), (10, .int .i64 y7.1), (11, .bool y7.2)]) (H0 := [(b1, ⟨5, [encRequest rn y2.1]⟩)]) rfl (⟨_, _, rfl, rfl, ⟨_, _, rfl, rfl, ⟨_, _, rfl, rfl, ⟨_, _, rfl, rfl, rfl⟩⟩⟩⟩) (⟨_, _, rfl, rfl, rfl⟩) rfl ?_
     refine V.seq ?_
     replace hm1 := bindO hm1; rcases hm1 with ⟨y8, hh8, hm1⟩
     refine V.region ?_
     refine VO.cons rfl (V1.loadRefAll (k := 0) rfl rfl tyk_26 rfl rfl rfl rfl rfl (ltb rfl) ?_)
     refine VO.cons rfl (V1.call rfl rfl rfl cok_13 rfl (ok_impl_RequestDue hh8) rfl (ltb rfl) ?_)
     rintro _ _ ⟨rfl, rfl⟩
     refine VO.cons rfl (V1.move rfl rfl rfl (ltb rfl) ?_)
     refine VO.cons rfl (V1.extract rfl rfl rfl rfl (ltb rfl) ?_)
     refine VO.cons rfl (V1.extract rfl rfl rfl rfl (ltb rfl) ?_)
     refine VO.cons rfl (V1.assign rfl rfl rfl (ltb rfl) ?_)
     refine VO.cons rfl (V1.assign rfl rfl rfl (ltb rfl) ?_)
     refine VO.nil ?_
     refine V.keep 251 [0, 10, 11, 12, 13] [] (E0 := [(0, .vl ρ0 1 (List.map encU8 code)), (10, .int .i64 y7.1), (11, .bool y7.2), (12, .int .i64 y8.1), (13, .bool y8.2)]) (H0 := []) rfl (⟨_, _, rfl, rfl, ⟨_, _, rfl, rfl, ⟨_, _, rfl, rfl, ⟨_, _, rfl, rfl, ⟨_, _, rfl, rfl, rfl⟩⟩⟩⟩⟩) (rfl) rfl ?_
     refine V.seq ?_
     refine V.region ?_
     refine VO.cons rfl (V1.move rfl rfl rfl (ltb rfl) ?_)
     refine VO.cons rfl (V1.move rfl rfl rfl (ltb rfl) ?_)
     apply VO.and (n := 7) rfl rfl rfl rfl rfl rfl (ltb rfl) (.none rfl)
     ·
      intro hg2
      refine VO.step (.some rfl rfl rfl) (V1.move rfl rfl rfl (ltb rfl) ?_)
      refine VO.step (.some rfl rfl rfl) (V1.not rfl rfl rfl (ltb rfl) ?_)
      refine VO.step (.some rfl rfl rfl) (V1.move rfl rfl rfl (ltb rfl) ?_)
      apply VO.or (n := 3) rfl rfl rfl rfl rfl rfl (ltb rfl) (.some rfl rfl rfl)
      ·
       intro hg3
       refine VO.step (.some rfl rfl rfl) (V1.move rfl rfl rfl (ltb rfl) ?_)
       refine VO.step (.some rfl rfl rfl) (V1.move rfl rfl rfl (ltb rfl) ?_)
       refine VO.step (.some rfl rfl rfl) (V1.int rfl rfl rfl rfl rfl (ltb rfl) ?_)
       exact VO.nil ⟨rfl, rfl, rfl, rfl, .inr ⟨rfl, .inr ⟨rfl, .inr ⟨rfl, .inr ⟨rfl, .inl rfl⟩⟩⟩⟩⟩
      exact VO.nil ⟨rfl, rfl, rfl, rfl, .inr ⟨rfl, .inr ⟨rfl, .inr ⟨rfl, .inr ⟨rfl, .inr ⟨rfl, .inl rfl⟩⟩⟩⟩⟩⟩
     refine VO.nil ?_
     refine V.keep 251 [0, 99] [] (E0 := [(0, .vl ρ0 1 (List.map encU8 code)), (99, .bool (y8.2 && ((!y7.2) || (decide (y8.1 < y7.1)))))]) (H0 := []) rfl (⟨_, _, rfl, rfl, ⟨_, _, rfl, rfl, rfl⟩⟩) (rfl) rfl ?_
     refine V.cond rfl (fun hc3 => ?_) (fun hc3 => ?_)
     ·
      replace hm1 := cond_t hc3 hm1
      refine V.seq ?_
      refine V.region ?_
      refine VO.cons rfl (V1.assign rfl rfl rfl (ltb rfl) ?_)
      refine VO.nil ?_
      refine V.ret ?_
      obtain rfl := Option.some.inj hm1
      change some _ = some _ at hm0
      obtain rfl := Option.some.inj hm0
      exact ⟨_, [], ⟨_, _, rfl, rfl, rfl⟩, List.nil_sublist _, rfl, rfl⟩
     ·
      replace hm1 := cond_f hc3 hm1
      refine V.skip ?_
      exact ⟨((), ()), Option.some.inj hm1, Keeps.mk (ks := []) rfl ⟨rfl, trivial⟩ (rfl) rfl⟩
    ·
     replace hm1 := cond_f hc2 hm1
     refine V.skip ?_
     exact ⟨((), ()), Option.some.inj hm1, Keeps.mk (ks := []) rfl ⟨rfl, trivial⟩ (rfl) rfl⟩
   ·
    rintro ⟨_, _⟩ rfl
    try dsimp only at hm0
    refine V.seq ?_
    replace hm0 := bindO hm0; rcases hm0 with ⟨y9, hh9, hm0⟩
    refine V.region ?_
    refine VO.cons rfl (V1.move rfl rfl rfl (ltb rfl) ?_)
    refine VO.cons rfl (V1.call rfl rfl rfl cok_14 rfl (ok_spec_DrawExtendRequest hh9) rfl (ltb rfl) ?_)
    rintro _ _ ⟨rfl, rfl⟩
    refine VO.cons rfl (V1.move rfl rfl rfl (ltb rfl) ?_)
    refine VO.cons rfl (V1.extract rfl rfl rfl rfl (ltb rfl) ?_)
    refine VO.cons rfl (V1.extract rfl rfl rfl rfl (ltb rfl) ?_)
    refine VO.cons rfl (V1.alloc rfl rfl zk_26 (ltb rfl) ?_)
    intro b3
    refine VO.cons rfl (V1.storeRefAll (k := 0) rfl rfl tyk_26 rfl rfl rfl rfl rfl rfl ?_)
    refine VO.cons rfl (V1.assign rfl rfl rfl (ltb rfl) ?_)
    refine VO.nil ?_
    refine V.keep 251 [0, 14, 15] [0] (E0 := [(0, .vl ρ0 1 (List.map encU8 code)), (14, .ref b3 5 0 0), (15, .int .i64 y9.2)]) (H0 := [(b3, ⟨5, [encRequest rn y9.1]⟩)]) rfl (⟨_, _, rfl, rfl, ⟨_, _, rfl, rfl, ⟨_, _, rfl, rfl, rfl⟩⟩⟩) (⟨_, _, rfl, rfl, rfl⟩) rfl ?_
    refine V.seq ?_
    replace hm0 := bindO hm0; rcases hm0 with ⟨y10, hh10, hm0⟩
    refine V.region ?_
    refine VO.cons rfl (V1.loadRefAll (k := 0) rfl rfl tyk_26 rfl rfl rfl rfl rfl (ltb rfl) ?_)
    refine VO.cons rfl (V1.move rfl rfl rfl (ltb rfl) ?_)
    refine VO.cons rfl (V1.call rfl rfl rfl cok_15 rfl (ok_impl_ExtendRequest hh10) rfl (ltb rfl) ?_)
    rintro _ _ ⟨rfl, rfl⟩
    refine VO.cons rfl (V1.move rfl rfl rfl (ltb rfl) ?_)
    refine VO.cons rfl (V1.extract rfl rfl rfl rfl (ltb rfl) ?_)
    refine VO.cons rfl (V1.extract rfl rfl rfl rfl (ltb rfl) ?_)
    refine VO.cons rfl (V1.alloc rfl rfl zk_26 (ltb rfl) ?_)
    intro b4
    refine VO.cons rfl (V1.storeRefAll (k := 0) rfl rfl tyk_26 rfl rfl rfl rfl rfl rfl ?_)
    refine VO.cons rfl (V1.assign rfl rfl rfl (ltb rfl) ?_)
    refine VO.nil ?_
    refine V.keep 251 [0, 14, 15, 16, 17] [0, 1] (E0 := [(0, .vl ρ0 1 (List.map encU8 code)), (14, .ref b3 5 0 0), (15, .int .i64 y9.2), (16, .ref b4 5 0 0), (17, .bool y10.2)]) (H0 := [(b4, ⟨5, [encRequest rn y10.1]⟩), (b3, ⟨5, [encRequest rn y9.1]⟩)]) rfl (⟨_, _, rfl, rfl, ⟨_, _, rfl, rfl, ⟨_, _, rfl, rfl, ⟨_, _, rfl, rfl, ⟨_, _, rfl, rfl, rfl⟩⟩⟩⟩⟩) (⟨_, _, rfl, rfl, ⟨_, _, rfl, rfl, rfl⟩⟩) rfl ?_
    refine V.seq ?_
    refine V.seq ?_
    replace hm0 := bindO hm0; rcases hm0 with ⟨y11, hh11, hm0⟩
    refine V.region ?_
    refine VO.cons rfl (V1.loadRefAll (k := 1) rfl rfl tyk_26 rfl rfl rfl rfl rfl (ltb rfl) ?_)
    refine VO.cons rfl (V1.move rfl rfl rfl (ltb rfl) ?_)
    refine VO.cons rfl (V1.call rfl rfl rfl cok_16 rfl (ok_spec_ExtendRequest hh11) rfl (ltb rfl) ?_)
    rintro _ _ ⟨rfl, rfl⟩
    refine VO.cons rfl (V1.move rfl rfl rfl (ltb rfl) ?_)
    refine VO.cons rfl (V1.extract rfl rfl rfl rfl (ltb rfl) ?_)
    refine VO.cons rfl (V1.extract rfl rfl rfl rfl (ltb rfl) ?_)
    refine VO.cons rfl (V1.alloc rfl rfl zk_26 (ltb rfl) ?_)
    intro b5
    refine VO.cons rfl (V1.storeRefAll (k := 0) rfl rfl tyk_26 rfl rfl rfl rfl rfl rfl ?_)
    refine VO.cons rfl (V1.assign rfl rfl rfl (ltb rfl) ?_)
    refine VO.nil ?_
    refine V.keep 251 [0, 14, 15, 16, 17, 18, 19] [0, 1, 2] (E0 := [(0, .vl ρ0 1 (List.map encU8 code)), (14, .ref b3 5 0 0), (15, .int .i64 y9.2), (16, .ref b4 5 0 0), (17, .bool y10.2), (18, .ref b5 5 0 0), (19, .bool y11.2)]) (H0 := [(b5, ⟨5, [encRequest rn y11.1]⟩), (b4, ⟨5, [encRequest rn y10.1]⟩), (b3, ⟨5, [encRequest rn y9.1]⟩)]) rfl (⟨_, _, rfl, rfl, ⟨_, _, rfl, rfl, ⟨_, _, rfl, rfl, ⟨_, _, rfl, rfl, ⟨_, _, rfl, rfl, ⟨_, _, rfl, rfl, ⟨_, _, rfl, rfl, rfl⟩⟩⟩⟩⟩⟩⟩) (⟨_, _, rfl, rfl, ⟨_, _, rfl, rfl, ⟨_, _, rfl, rfl, rfl⟩⟩⟩) rfl ?_
    refine V.seq ?_
    replace hm0 := bindO hm0; rcases hm0 with ⟨y12, hh12, hm0⟩
    refine V.region ?_
    refine VO.cons rfl (V1.move rfl rfl rfl (ltb rfl) ?_)
    refine VO.cons rfl (V1.move rfl rfl rfl (ltb rfl) ?_)
    refine VO.cons rfl (V1.boolNeq rfl rfl und_4 rfl rfl (ltb rfl) ?_)
    refine VO.cons rfl (V1.move rfl rfl rfl (ltb rfl) ?_)
    apply VO.or (n := 4) rfl rfl rfl rfl rfl rfl (ltb rfl) (.none rfl)
    ·
     intro hg4
     refine VO.step (.some rfl rfl rfl) (V1.loadRefAll (k := 1) rfl rfl tyk_26 rfl rfl rfl rfl rfl (ltb rfl) ?_)
     refine VO.step (.some rfl rfl rfl) (V1.loadRefAll (k := 0) rfl rfl tyk_26 rfl rfl rfl rfl rfl (ltb rfl) ?_)
     refine VO.step (.some rfl rfl rfl) (V1.call rfl rfl rfl cok_10 rfl (ok_laws_vRequest (cond_f hg4 hh12)) rfl (ltb rfl) ?_)
     rintro _ _ ⟨rfl, rfl⟩
     refine VO.step (.some rfl rfl rfl) (V1.not rfl rfl rfl (ltb rfl) ?_)
     exact VO.nil ⟨rfl, rfl, rfl, rfl, .inr ⟨rfl, .inr ⟨rfl, .inr ⟨rfl, .inr ⟨rfl, .inr ⟨rfl, .inl rfl⟩⟩⟩⟩⟩⟩
    refine VO.nil ?_
    refine V.keep 251 [0, 14, 15, 16, 17, 125] [1, 2] (E0 := [(0, .vl ρ0 1 (List.map encU8 code)), (14, .ref b3 5 0 0), (15, .int .i64 y9.2), (16, .ref b4 5 0 0), (17, .bool y10.2), (125, .bool ((!(y10.2 == y11.2)) || (!y12)))]) (H0 := [(b4, ⟨5, [encRequest rn y10.1]⟩), (b3, ⟨5, [encRequest rn y9.1]⟩)]) rfl (⟨_, _, rfl, rfl, ⟨_, _, rfl, rfl, ⟨_, _, rfl, rfl, ⟨_, _, rfl, rfl, ⟨_, _, rfl, rfl, ⟨_, _, rfl, rfl, rfl⟩⟩⟩⟩⟩⟩) (⟨_, _, rfl, rfl, ⟨_, _, rfl, rfl, rfl⟩⟩) rfl ?_
    refine V.cond rfl (fun hc4 => ?_) (fun hc4 => ?_)
    ·
     replace hm0 := cond_t hc4 hm0
     refine V.seq ?_
     refine V.region ?_
     refine VO.cons rfl (V1.assign rfl rfl rfl (ltb rfl) ?_)
     refine VO.nil ?_
     refine V.ret ?_
     obtain rfl := Option.some.inj hm0
     exact ⟨_, [], ⟨_, _, rfl, rfl, rfl⟩, List.nil_sublist _, rfl, rfl⟩
    ·
     replace hm0 := cond_f hc4 hm0
     refine V.skip ?_
     refine V.seq ?_
     replace hm0 := bindO hm0; rcases hm0 with ⟨j1, hm1, hm0⟩
     refine V.cutT (D := (Unit) × (Unit)) (fun ⟨_, _⟩ => ⟨251, [(0, .vl ρ0 1 (List.map encU8 code))], []⟩) (fun ⟨_, _⟩ => (.inl () = j1)) ?_ ?_
     ·
      refine V.seq ?_
      refine V.region ?_
      refine VO.cons rfl (V1.move rfl rfl rfl (ltb rfl) ?_)
      refine VO.nil ?_
      refine V.cond rfl (fun hc5 => ?_) (fun hc5 => ?_)
      ·
       replace hm1 := cond_t hc5 hm1
       refine V.seq ?_
       replace hm1 := bindO hm1; rcases hm1 with ⟨y13, hh13, hm1⟩
       refine V.region ?_
       refine VO.cons rfl (V1.loadRefAll (k := 1) rfl rfl tyk_26 rfl rfl rfl rfl rfl (ltb rfl) ?_)
       refine VO.cons rfl (V1.call rfl rfl rfl cok_13 rfl (ok_impl_RequestDue hh13) rfl (ltb rfl) ?_)
       rintro _ _ ⟨rfl, rfl⟩
       refine VO.cons rfl (V1.move rfl rfl rfl (ltb rfl) ?_)
       refine VO.cons rfl (V1.extract rfl rfl rfl rfl (ltb rfl) ?_)
       refine VO.cons rfl (V1.extract rfl rfl rfl rfl (ltb rfl) ?_)
       refine VO.cons rfl (V1.assign rfl rfl rfl (ltb rfl) ?_)
       refine VO.cons rfl (V1.assign rfl rfl rfl (ltb rfl) ?_)
       refine VO.nil ?_
       refine V.keep 251 [0, 15, 16, 20, 21] [0] (E0 := [(0, .vl ρ0 1 (List.map encU8 code)), (15, .int .i64 y9.2), (16, .ref b4 5 0 0), (20, .int .i64 y13.1), (21, .bool y13.2)]) (H0 := [(b4, ⟨5, [encRequest rn y10.1]⟩)]) rfl (⟨_, _, rfl, rfl, ⟨_, _, rfl, rfl, ⟨_, _, rfl, rfl, ⟨_, _, rfl, rfl, ⟨_, _, rfl, rfl, rfl⟩⟩⟩⟩⟩) (⟨_, _, rfl, rfl, rfl⟩) rfl ?_
       refine V.seq ?_
       replace hm1 := bindO hm1; rcases hm1 with ⟨y14, hh14, hm1⟩
       refine V.region ?_
       refine VO.cons rfl (V1.loadRefAll (k := 0) rfl rfl tyk_26 rfl rfl rfl rfl rfl (ltb rfl) ?_)
       refine VO.cons rfl (V1.call rfl rfl rfl cok_13 rfl (ok_impl_RequestDue hh14) rfl (ltb rfl) ?_)
       rintro _ _ ⟨rfl, rfl⟩
       refine VO.cons rfl (V1.move rfl rfl rfl (ltb rfl) ?_)
       refine VO.cons rfl (V1.extract rfl rfl rfl rfl (ltb rfl) ?_)
       refine VO.cons rfl (V1.extract rfl rfl rfl rfl (ltb rfl) ?_)
       refine VO.cons rfl (V1.assign rfl rfl rfl (ltb rfl) ?_)
       refine VO.cons rfl (V1.assign rfl rfl rfl (ltb rfl) ?_)
       refine VO.nil ?_
       refine V.keep 251 [0, 15, 20, 21, 22, 23] [] (E0 := [(0, .vl ρ0 1 (List.map encU8 code)), (15, .int .i64 y9.2), (20, .int .i64 y13.1), (21, .bool y13.2), (22, .int .i64 y14.1), (23, .bool y14.2)]) (H0 := []) rfl (⟨_, _, rfl, rfl, ⟨_, _, rfl, rfl, ⟨_, _, rfl, rfl, ⟨_, _, rfl, rfl, ⟨_, _, rfl, rfl, ⟨_, _, rfl, rfl, rfl⟩⟩⟩⟩⟩⟩) (rfl) rfl ?_
       refine V.seq ?_
       refine V.region ?_
       refine VO.cons rfl (V1.move rfl rfl rfl (ltb rfl) ?_)
       refine VO.cons rfl (V1.move rfl rfl rfl (ltb rfl) ?_)
       apply VO.and (n := 9) rfl rfl rfl rfl rfl rfl (ltb rfl) (.none rfl)
       ·
        intro hg5
        refine VO.step (.some rfl rfl rfl) (V1.move rfl rfl rfl (ltb rfl) ?_)
        refine VO.step (.some rfl rfl rfl) (V1.not rfl rfl rfl (ltb rfl) ?_)
        refine VO.step (.some rfl rfl rfl) (V1.move rfl rfl rfl (ltb rfl) ?_)
        apply VO.or (n := 5) rfl rfl rfl rfl rfl rfl (ltb rfl) (.some rfl rfl rfl)
        ·
         intro hg6
         refine VO.step (.some rfl rfl rfl) (V1.move rfl rfl rfl (ltb rfl) ?_)
         refine VO.step (.some rfl rfl rfl) (V1.move rfl rfl rfl (ltb rfl) ?_)
         refine VO.step (.some rfl rfl rfl) (V1.move rfl rfl rfl (ltb rfl) ?_)
         refine VO.step (.some rfl rfl rfl) (V1.int rfl rfl rfl rfl rfl (ltb rfl) ?_)
         refine VO.step (.some rfl rfl rfl) (V1.int rfl rfl rfl rfl rfl (ltb rfl) ?_)
         exact VO.nil ⟨rfl, rfl, rfl, rfl, .inr ⟨rfl, .inr ⟨rfl, .inr ⟨rfl, .inr ⟨rfl, .inr ⟨rfl, .inr ⟨rfl, .inl rfl⟩⟩⟩⟩⟩⟩⟩
        exact VO.nil ⟨rfl, rfl, rfl, rfl, .inr ⟨rfl, .inr ⟨rfl, .inr ⟨rfl, .inr ⟨rfl, .inr ⟨rfl, .inl rfl⟩⟩⟩⟩⟩⟩
       refine VO.nil ?_
       refine V.keep 251 [0, 148] [] (E0 := [(0, .vl ρ0 1 (List.map encU8 code)), (148, .bool (y14.2 && ((!y13.2) || (decide (y14.1 < (IntKind.i64.wrap (y13.1 + y9.2)))))))]) (H0 := []) rfl (⟨_, _, rfl, rfl, ⟨_, _, rfl, rfl, rfl⟩⟩) (rfl) rfl ?_
       refine V.cond rfl (fun hc6 => ?_) (fun hc6 => ?_)
       ·
        replace hm1 := cond_t hc6 hm1
        refine V.seq ?_
        refine V.region ?_
        refine VO.cons rfl (V1.assign rfl rfl rfl (ltb rfl) ?_)
        refine VO.nil ?_
        refine V.ret ?_
        obtain rfl := Option.some.inj hm1
        change some _ = some _ at hm0
        obtain rfl := Option.some.inj hm0
        exact ⟨_, [], ⟨_, _, rfl, rfl, rfl⟩, List.nil_sublist _, rfl, rfl⟩
       ·
        replace hm1 := cond_f hc6 hm1
        refine V.skip ?_
        exact ⟨((), ()), Option.some.inj hm1, Keeps.mk (ks := []) rfl ⟨rfl, trivial⟩ (rfl) rfl⟩
      ·
       replace hm1 := cond_f hc5 hm1
       refine V.skip ?_
       exact ⟨((), ()), Option.some.inj hm1, Keeps.mk (ks := []) rfl ⟨rfl, trivial⟩ (rfl) rfl⟩
     ·
      rintro ⟨_, _⟩ rfl
      try dsimp only at hm0
      refine V.seq ?_
      replace hm0 := bindO hm0; rcases hm0 with ⟨y15, hh15, hm0⟩
      refine V.region ?_
      refine VO.cons rfl (V1.move rfl rfl rfl (ltb rfl) ?_)
      refine VO.cons rfl (V1.call rfl rfl rfl cok_17 rfl (ok_spec_DrawDaysLeftFor hh15) rfl (ltb rfl) ?_)
      rintro _ _ ⟨rfl, rfl⟩
      refine VO.cons rfl (V1.move rfl rfl rfl (ltb rfl) ?_)
      refine VO.cons rfl (V1.extract rfl rfl rfl rfl (ltb rfl) ?_)
      refine VO.cons rfl (V1.extract rfl rfl rfl rfl (ltb rfl) ?_)
      refine VO.cons rfl (V1.alloc rfl rfl zk_26 (ltb rfl) ?_)
      intro b6
      refine VO.cons rfl (V1.storeRefAll (k := 0) rfl rfl tyk_26 rfl rfl rfl rfl rfl rfl ?_)
      refine VO.cons rfl (V1.assign rfl rfl rfl (ltb rfl) ?_)
      refine VO.nil ?_
      refine V.keep 251 [0, 24, 25] [0] (E0 := [(0, .vl ρ0 1 (List.map encU8 code)), (24, .ref b6 5 0 0), (25, .int .i64 y15.2)]) (H0 := [(b6, ⟨5, [encRequest rn y15.1]⟩)]) rfl (⟨_, _, rfl, rfl, ⟨_, _, rfl, rfl, ⟨_, _, rfl, rfl, rfl⟩⟩⟩) (⟨_, _, rfl, rfl, rfl⟩) rfl ?_
      refine V.seq ?_
      replace hm0 := bindO hm0; rcases hm0 with ⟨y16, hh16, hm0⟩
      refine V.region ?_
      refine VO.cons rfl (V1.loadRefAll (k := 0) rfl rfl tyk_26 rfl rfl rfl rfl rfl (ltb rfl) ?_)
      refine VO.cons rfl (V1.move rfl rfl rfl (ltb rfl) ?_)
      refine VO.cons rfl (V1.call rfl rfl rfl cok_18 rfl (ok_impl_DaysLeftFor hh16) rfl (ltb rfl) ?_)
      rintro _ _ ⟨rfl, rfl⟩
      refine VO.cons rfl (V1.move rfl rfl rfl (ltb rfl) ?_)
      refine VO.cons rfl (V1.extract rfl rfl rfl rfl (ltb rfl) ?_)
      refine VO.cons rfl (V1.extract rfl rfl rfl rfl (ltb rfl) ?_)
      refine VO.cons rfl (V1.assign rfl rfl rfl (ltb rfl) ?_)
      refine VO.cons rfl (V1.assign rfl rfl rfl (ltb rfl) ?_)
      refine VO.nil ?_
      refine V.keep 251 [0, 24, 25, 26, 27] [0] (E0 := [(0, .vl ρ0 1 (List.map encU8 code)), (24, .ref b6 5 0 0), (25, .int .i64 y15.2), (26, .int .i64 y16.1), (27, .bool y16.2)]) (H0 := [(b6, ⟨5, [encRequest rn y15.1]⟩)]) rfl (⟨_, _, rfl, rfl, ⟨_, _, rfl, rfl, ⟨_, _, rfl, rfl, ⟨_, _, rfl, rfl, ⟨_, _, rfl, rfl, rfl⟩⟩⟩⟩⟩) (⟨_, _, rfl, rfl, rfl⟩) rfl ?_
      refine V.seq ?_
      refine V.seq ?_
      replace hm0 := bindO hm0; rcases hm0 with ⟨y17, hh17, hm0⟩
      refine V.region ?_
      refine VO.cons rfl (V1.loadRefAll (k := 0) rfl rfl tyk_26 rfl rfl rfl rfl rfl (ltb rfl) ?_)
      refine VO.cons rfl (V1.move rfl rfl rfl (ltb rfl) ?_)
      refine VO.cons rfl (V1.call rfl rfl rfl cok_19 rfl (ok_spec_DaysLeftFor hh17) rfl (ltb rfl) ?_)
      rintro _ _ ⟨rfl, rfl⟩
      refine VO.cons rfl (V1.move rfl rfl rfl (ltb rfl) ?_)
      refine VO.cons rfl (V1.extract rfl rfl rfl rfl (ltb rfl) ?_)
      refine VO.cons rfl (V1.extract rfl rfl rfl rfl (ltb rfl) ?_)
      refine VO.cons rfl (V1.assign rfl rfl rfl (ltb rfl) ?_)
      refine VO.cons rfl (V1.assign rfl rfl rfl (ltb rfl) ?_)
      refine VO.nil ?_
      refine V.keep 251 [0, 24, 25, 26, 27, 28, 29] [0] (E0 := [(0, .vl ρ0 1 (List.map encU8 code)), (24, .ref b6 5 0 0), (25, .int .i64 y15.2), (26, .int .i64 y16.1), (27, .bool y16.2), (28, .int .i64 y17.1), (29, .bool y17.2)]) (H0 := [(b6, ⟨5, [encRequest rn y15.1]⟩)]) rfl (⟨_, _, rfl, rfl, ⟨_, _, rfl, rfl, ⟨_, _, rfl, rfl, ⟨_, _, rfl, rfl, ⟨_, _, rfl, rfl, ⟨_, _, rfl, rfl, ⟨_, _, rfl, rfl, rfl⟩⟩⟩⟩⟩⟩⟩) (⟨_, _, rfl, rfl, rfl⟩) rfl ?_
      refine V.seq ?_
      refine V.region ?_
      refine VO.cons rfl (V1.move rfl rfl rfl (ltb rfl) ?_)
      refine VO.cons rfl (V1.move rfl rfl rfl (ltb rfl) ?_)
      refine VO.cons rfl (V1.int rfl rfl rfl rfl rfl (ltb rfl) ?_)
      refine VO.cons rfl (V1.move rfl rfl rfl (ltb rfl) ?_)
      apply VO.or (n := 3) rfl rfl rfl rfl rfl rfl (ltb rfl) (.none rfl)
      ·
       intro hg7
       refine VO.step (.some rfl rfl rfl) (V1.move rfl rfl rfl (ltb rfl) ?_)
       refine VO.step (.some rfl rfl rfl) (V1.move rfl rfl rfl (ltb rfl) ?_)
       refine VO.step (.some rfl rfl rfl) (V1.boolNeq rfl rfl und_4 rfl rfl (ltb rfl) ?_)
       exact VO.nil ⟨rfl, rfl, rfl, rfl, .inr ⟨rfl, .inr ⟨rfl, .inr ⟨rfl, .inr ⟨rfl, .inl rfl⟩⟩⟩⟩⟩
      refine VO.nil ?_
      refine V.keep 251 [0, 24, 25, 26, 27, 173] [0] (E0 := [(0, .vl ρ0 1 (List.map encU8 code)), (24, .ref b6 5 0 0), (25, .int .i64 y15.2), (26, .int .i64 y16.1), (27, .bool y16.2), (173, .bool ((y16.1 != y17.1) || (!(y16.2 == y17.2))))]) (H0 := [(b6, ⟨5, [encRequest rn y15.1]⟩)]) rfl (⟨_, _, rfl, rfl, ⟨_, _, rfl, rfl, ⟨_, _, rfl, rfl, ⟨_, _, rfl, rfl, ⟨_, _, rfl, rfl, ⟨_, _, rfl, rfl, rfl⟩⟩⟩⟩⟩⟩) (⟨_, _, rfl, rfl, rfl⟩) rfl ?_
      refine V.cond rfl (fun hc7 => ?_) (fun hc7 => ?_)
      ·
       replace hm0 := cond_t hc7 hm0
       refine V.seq ?_
       refine V.region ?_
       refine VO.cons rfl (V1.assign rfl rfl rfl (ltb rfl) ?_)
       refine VO.nil ?_
       refine V.ret ?_
       obtain rfl := Option.some.inj hm0
       exact ⟨_, [], ⟨_, _, rfl, rfl, rfl⟩, List.nil_sublist _, rfl, rfl⟩
      ·
       replace hm0 := cond_f hc7 hm0
       refine V.skip ?_
       refine V.seq ?_
       replace hm0 := bindO hm0; rcases hm0 with ⟨j2, hm1, hm0⟩
       refine V.cutT (D := (Unit) × (Unit)) (fun ⟨_, _⟩ => ⟨251, [(0, .vl ρ0 1 (List.map encU8 code))], []⟩) (fun ⟨_, _⟩ => (.inl () = j2)) ?_ ?_
       ·
        refine V.seq ?_
        refine V.region ?_
        refine VO.cons rfl (V1.move rfl rfl rfl (ltb rfl) ?_)
        refine VO.nil ?_
        refine V.cond rfl (fun hc8 => ?_) (fun hc8 => ?_)
        ·
         replace hm1 := cond_t hc8 hm1
         refine V.seq ?_
         replace hm1 := bindO hm1; rcases hm1 with ⟨y18, hh18, hm1⟩
         refine V.region ?_
         refine VO.cons rfl (V1.loadRefAll (k := 0) rfl rfl tyk_26 rfl rfl rfl rfl rfl (ltb rfl) ?_)
         refine VO.cons rfl (V1.call rfl rfl rfl cok_13 rfl (ok_impl_RequestDue hh18) rfl (ltb rfl) ?_)
         rintro _ _ ⟨rfl, rfl⟩
         refine VO.cons rfl (V1.move rfl rfl rfl (ltb rfl) ?_)
         refine VO.cons rfl (V1.extract rfl rfl rfl rfl (ltb rfl) ?_)
         refine VO.cons rfl (V1.extract rfl rfl rfl rfl (ltb rfl) ?_)
         refine VO.cons rfl (V1.assign rfl rfl rfl (ltb rfl) ?_)
         refine VO.cons rfl (V1.assign rfl rfl rfl (ltb rfl) ?_)
         refine VO.nil ?_
         refine V.keep 251 [0, 24, 25, 26, 30, 31] [0] (E0 := [(0, .vl ρ0 1 (List.map encU8 code)), (24, .ref b6 5 0 0), (25, .int .i64 y15.2), (26, .int .i64 y16.1), (30, .int .i64 y18.1), (31, .bool y18.2)]) (H0 := [(b6, ⟨5, [encRequest rn y15.1]⟩)]) rfl (⟨_, _, rfl, rfl, ⟨_, _, rfl, rfl, ⟨_, _, rfl, rfl, ⟨_, _, rfl, rfl, ⟨_, _, rfl, rfl, ⟨_, _, rfl, rfl, rfl⟩⟩⟩⟩⟩⟩) (⟨_, _, rfl, rfl, rfl⟩) rfl ?_
         refine V.seq ?_
         replace hm1 := bindO hm1; rcases hm1 with ⟨y19, hh19, hm1⟩
         refine V.region ?_
         refine VO.cons rfl (V1.loadRefAll (k := 0) rfl rfl tyk_26 rfl rfl rfl rfl rfl (ltb rfl) ?_)
         refine VO.cons rfl (V1.fieldRef rfl rfl fo_26_1 rfl (ltb rfl) ?_)
         refine VO.cons rfl (V1.loadRef (k := 0) rfl rfl tyk_3 rfl rfl rfl rfl rfl (ltb rfl) ?_)
         refine VO.cons rfl (V1.call rfl rfl rfl cok_18 rfl (ok_impl_DaysLeftFor hh19) rfl (ltb rfl) ?_)
         rintro _ _ ⟨rfl, rfl⟩
         refine VO.cons rfl (V1.move rfl rfl rfl (ltb rfl) ?_)
         refine VO.cons rfl (V1.extract rfl rfl rfl rfl (ltb rfl) ?_)
         refine VO.cons rfl (V1.extract rfl rfl rfl rfl (ltb rfl) ?_)
         refine VO.cons rfl (V1.assign rfl rfl rfl (ltb rfl) ?_)
         refine VO.cons rfl (V1.assign rfl rfl rfl (ltb rfl) ?_)
         refine VO.nil ?_
         refine V.keep 251 [0, 24, 25, 26, 30, 31, 32, 33] [0] (E0 := [(0, .vl ρ0 1 (List.map encU8 code)), (24, .ref b6 5 0 0), (25, .int .i64 y15.2), (26, .int .i64 y16.1), (30, .int .i64 y18.1), (31, .bool y18.2), (32, .int .i64 y19.1), (33, .bool y19.2)]) (H0 := [(b6, ⟨5, [encRequest rn y15.1]⟩)]) rfl (⟨_, _, rfl, rfl, ⟨_, _, rfl, rfl, ⟨_, _, rfl, rfl, ⟨_, _, rfl, rfl, ⟨_, _, rfl, rfl, ⟨_, _, rfl, rfl, ⟨_, _, rfl, rfl, ⟨_, _, rfl, rfl, rfl⟩⟩⟩⟩⟩⟩⟩⟩) (⟨_, _, rfl, rfl, rfl⟩) rfl ?_
         refine V.seq ?_
         refine V.region ?_
         refine VO.cons rfl (V1.move rfl rfl rfl (ltb rfl) ?_)
         refine VO.cons rfl (V1.not rfl rfl rfl (ltb rfl) ?_)
         refine VO.cons rfl (V1.move rfl rfl rfl (ltb rfl) ?_)
         apply VO.or (n := 2) rfl rfl rfl rfl rfl rfl (ltb rfl) (.none rfl)
         ·
          intro hg8
          refine VO.step (.some rfl rfl rfl) (V1.move rfl rfl rfl (ltb rfl) ?_)
          refine VO.step (.some rfl rfl rfl) (V1.not rfl rfl rfl (ltb rfl) ?_)
          exact VO.nil ⟨rfl, rfl, rfl, rfl, .inr ⟨rfl, .inr ⟨rfl, .inr ⟨rfl, .inl rfl⟩⟩⟩⟩
         refine VO.cons rfl (V1.move rfl rfl rfl (ltb rfl) ?_)
         apply VO.or (n := 7) rfl rfl rfl rfl rfl rfl (ltb rfl) (.none rfl)
         ·
          intro hg9
          refine VO.step (.some rfl rfl rfl) (V1.move rfl rfl rfl (ltb rfl) ?_)
          refine VO.step (.some rfl rfl rfl) (V1.fieldRef rfl rfl fo_26_2 rfl (ltb rfl) ?_)
          refine VO.step (.some rfl rfl rfl) (V1.loadRef (k := 0) rfl rfl tyk_3 rfl rfl rfl rfl rfl (ltb rfl) ?_)
          refine VO.step (.some rfl rfl rfl) (V1.fieldRef rfl rfl fo_26_3 rfl (ltb rfl) ?_)
          refine VO.step (.some rfl rfl rfl) (V1.loadRef (k := 0) rfl rfl tyk_3 rfl rfl rfl rfl rfl (ltb rfl) ?_)
          refine VO.step (.some rfl rfl rfl) (V1.int rfl rfl rfl rfl rfl (ltb rfl) ?_)
          refine VO.step (.some rfl rfl rfl) (V1.int rfl rfl rfl rfl rfl (ltb rfl) ?_)
          exact VO.nil ⟨rfl, rfl, rfl, rfl, .inr ⟨rfl, .inr ⟨rfl, .inr ⟨rfl, .inr ⟨rfl, .inr ⟨rfl, .inr ⟨rfl, .inr ⟨rfl, .inr ⟨rfl, .inl rfl⟩⟩⟩⟩⟩⟩⟩⟩⟩
         refine VO.cons rfl (V1.move rfl rfl rfl (ltb rfl) ?_)
         apply VO.or (n := 3) rfl rfl rfl rfl rfl rfl (ltb rfl) (.none rfl)
         ·
          intro hg10
          refine VO.step (.some rfl rfl rfl) (V1.move rfl rfl rfl (ltb rfl) ?_)
          refine VO.step (.some rfl rfl rfl) (V1.move rfl rfl rfl (ltb rfl) ?_)
          refine VO.step (.some rfl rfl rfl) (V1.int rfl rfl rfl rfl rfl (ltb rfl) ?_)
          exact VO.nil ⟨rfl, rfl, rfl, rfl, .inr ⟨rfl, .inr ⟨rfl, .inr ⟨rfl, .inr ⟨rfl, .inl rfl⟩⟩⟩⟩⟩
         refine VO.cons rfl (V1.move rfl rfl rfl (ltb rfl) ?_)
         apply VO.or (n := 6) rfl rfl rfl rfl rfl rfl (ltb rfl) (.none rfl)
         ·
          intro hg11
          refine VO.step (.some rfl rfl rfl) (V1.move rfl rfl rfl (ltb rfl) ?_)
          refine VO.step (.some rfl rfl rfl) (V1.int rfl rfl rfl rfl rfl (ltb rfl) ?_)
          refine VO.step (.some rfl rfl rfl) (V1.move rfl rfl rfl (ltb rfl) ?_)
          refine VO.step (.some rfl rfl rfl) (V1.move rfl rfl rfl (ltb rfl) ?_)
          refine VO.step (.some rfl rfl rfl) (V1.int rfl rfl rfl rfl rfl (ltb rfl) ?_)
          refine VO.step (.some rfl rfl rfl) (V1.boolNeq rfl rfl und_4 rfl rfl (ltb rfl) ?_)
          exact VO.nil ⟨rfl, rfl, rfl, rfl, .inr ⟨rfl, .inr ⟨rfl, .inr ⟨rfl, .inr ⟨rfl, .inr ⟨rfl, .inr ⟨rfl, .inr ⟨rfl, .inl rfl⟩⟩⟩⟩⟩⟩⟩⟩
         refine VO.nil ?_
         refine V.keep 251 [0, 214] [] (E0 := [(0, .vl ρ0 1 (List.map encU8 code)), (214, .bool (((((!y18.2) || (!y19.2)) || (y19.1 != (IntKind.i64.wrap (y15.1.Working + y15.1.Extended)))) || (decide (y16.1 > y19.1))) || (!((y16.1 == (0 : Int)) == (decide (y15.2 ≥ y18.1))))))]) (H0 := []) rfl (⟨_, _, rfl, rfl, ⟨_, _, rfl, rfl, rfl⟩⟩) (rfl) rfl ?_
         refine V.cond rfl (fun hc9 => ?_) (fun hc9 => ?_)
         ·
          replace hm1 := cond_t hc9 hm1
          refine V.seq ?_
          refine V.region ?_
          refine VO.cons rfl (V1.assign rfl rfl rfl (ltb rfl) ?_)
          refine VO.nil ?_
          refine V.ret ?_
          obtain rfl := Option.some.inj hm1
          change some _ = some _ at hm0
          obtain rfl := Option.some.inj hm0
          exact ⟨_, [], ⟨_, _, rfl, rfl, rfl⟩, List.nil_sublist _, rfl, rfl⟩
         ·
          replace hm1 := cond_f hc9 hm1
          refine V.skip ?_
          exact ⟨((), ()), Option.some.inj hm1, Keeps.mk (ks := []) rfl ⟨rfl, trivial⟩ (rfl) rfl⟩
        ·
         replace hm1 := cond_f hc8 hm1
         refine V.skip ?_
         exact ⟨((), ()), Option.some.inj hm1, Keeps.mk (ks := []) rfl ⟨rfl, trivial⟩ (rfl) rfl⟩
       ·
        rintro ⟨_, _⟩ rfl
        try dsimp only at hm0
        refine V.seq ?_
        replace hm0 := bindO hm0; rcases hm0 with ⟨y20, hh20, hm0⟩
        refine V.region ?_
        refine VO.cons rfl (V1.move rfl rfl rfl (ltb rfl) ?_)
        refine VO.cons rfl (V1.call rfl rfl rfl cok_20 rfl (ok_spec_DrawRequestDue hh20) rfl (ltb rfl) ?_)
        rintro _ _ ⟨rfl, rfl⟩
        refine VO.cons rfl (V1.alloc rfl rfl zk_26 (ltb rfl) ?_)
        intro b7
        refine VO.cons rfl (V1.storeRefAll (k := 0) rfl rfl tyk_26 rfl rfl rfl rfl rfl rfl ?_)
        refine VO.nil ?_
        refine V.seq ?_
        replace hm0 := bindO hm0; rcases hm0 with ⟨y21, hh21, hm0⟩
        refine V.region ?_
        refine VO.cons rfl (V1.loadRefAll (k := 0) rfl rfl tyk_26 rfl rfl rfl rfl rfl (ltb rfl) ?_)
        refine VO.cons rfl (V1.call rfl rfl rfl cok_13 rfl (ok_impl_RequestDue hh21) rfl (ltb rfl) ?_)
        rintro _ _ ⟨rfl, rfl⟩
        refine VO.cons rfl (V1.move rfl rfl rfl (ltb rfl) ?_)
        refine VO.cons rfl (V1.extract rfl rfl rfl rfl (ltb rfl) ?_)
        refine VO.cons rfl (V1.extract rfl rfl rfl rfl (ltb rfl) ?_)
        refine VO.cons rfl (V1.assign rfl rfl rfl (ltb rfl) ?_)
        refine VO.cons rfl (V1.assign rfl rfl rfl (ltb rfl) ?_)
        refine VO.nil ?_
        refine V.keep 251 [34, 35, 36] [0] (E0 := [(34, .ref b7 5 0 0), (35, .int .i64 y21.1), (36, .bool y21.2)]) (H0 := [(b7, ⟨5, [encRequest rn y20]⟩)]) rfl (⟨_, _, rfl, rfl, ⟨_, _, rfl, rfl, ⟨_, _, rfl, rfl, rfl⟩⟩⟩) (⟨_, _, rfl, rfl, rfl⟩) rfl ?_
        refine V.seq ?_
        refine V.seq ?_
        replace hm0 := bindO hm0; rcases hm0 with ⟨y22, hh22, hm0⟩
        refine V.region ?_
        refine VO.cons rfl (V1.loadRefAll (k := 0) rfl rfl tyk_26 rfl rfl rfl rfl rfl (ltb rfl) ?_)
        refine VO.cons rfl (V1.call rfl rfl rfl cok_21 rfl (ok_spec_RequestDue hh22) rfl (ltb rfl) ?_)
        rintro _ _ ⟨rfl, rfl⟩
        refine VO.cons rfl (V1.move rfl rfl rfl (ltb rfl) ?_)
        refine VO.cons rfl (V1.extract rfl rfl rfl rfl (ltb rfl) ?_)
        refine VO.cons rfl (V1.extract rfl rfl rfl rfl (ltb rfl) ?_)
        refine VO.cons rfl (V1.assign rfl rfl rfl (ltb rfl) ?_)
        refine VO.cons rfl (V1.assign rfl rfl rfl (ltb rfl) ?_)
        refine VO.nil ?_
        refine V.keep 251 [34, 35, 36, 37, 38] [0] (E0 := [(34, .ref b7 5 0 0), (35, .int .i64 y21.1), (36, .bool y21.2), (37, .int .i64 y22.1), (38, .bool y22.2)]) (H0 := [(b7, ⟨5, [encRequest rn y20]⟩)]) rfl (⟨_, _, rfl, rfl, ⟨_, _, rfl, rfl, ⟨_, _, rfl, rfl, ⟨_, _, rfl, rfl, ⟨_, _, rfl, rfl, rfl⟩⟩⟩⟩⟩) (⟨_, _, rfl, rfl, rfl⟩) rfl ?_
        refine V.seq ?_
        refine V.region ?_
        refine VO.cons rfl (V1.move rfl rfl rfl (ltb rfl) ?_)
        refine VO.cons rfl (V1.move rfl rfl rfl (ltb rfl) ?_)
        refine VO.cons rfl (V1.int rfl rfl rfl rfl rfl (ltb rfl) ?_)
        refine VO.cons rfl (V1.move rfl rfl rfl (ltb rfl) ?_)
        apply VO.or (n := 3) rfl rfl rfl rfl rfl rfl (ltb rfl) (.none rfl)
        ·
         intro hg12
         refine VO.step (.some rfl rfl rfl) (V1.move rfl rfl rfl (ltb rfl) ?_)
         refine VO.step (.some rfl rfl rfl) (V1.move rfl rfl rfl (ltb rfl) ?_)
         refine VO.step (.some rfl rfl rfl) (V1.boolNeq rfl rfl und_4 rfl rfl (ltb rfl) ?_)
         exact VO.nil ⟨rfl, rfl, rfl, rfl, .inr ⟨rfl, .inr ⟨rfl, .inr ⟨rfl, .inr ⟨rfl, .inl rfl⟩⟩⟩⟩⟩
        refine VO.nil ?_
        refine V.keep 251 [34, 35, 36, 234] [0] (E0 := [(34, .ref b7 5 0 0), (35, .int .i64 y21.1), (36, .bool y21.2), (234, .bool ((y21.1 != y22.1) || (!(y21.2 == y22.2))))]) (H0 := [(b7, ⟨5, [encRequest rn y20]⟩)]) rfl (⟨_, _, rfl, rfl, ⟨_, _, rfl, rfl, ⟨_, _, rfl, rfl, ⟨_, _, rfl, rfl, rfl⟩⟩⟩⟩) (⟨_, _, rfl, rfl, rfl⟩) rfl ?_
        refine V.cond rfl (fun hc10 => ?_) (fun hc10 => ?_)
        ·
         replace hm0 := cond_t hc10 hm0
         refine V.seq ?_
         refine V.region ?_
         refine VO.cons rfl (V1.assign rfl rfl rfl (ltb rfl) ?_)
         refine VO.nil ?_
         refine V.ret ?_
         obtain rfl := Option.some.inj hm0
         exact ⟨_, [], ⟨_, _, rfl, rfl, rfl⟩, List.nil_sublist _, rfl, rfl⟩
        ·
         replace hm0 := cond_f hc10 hm0
         refine V.skip ?_
         refine V.seq ?_
         refine V.seq ?_
         refine V.region ?_
         refine VO.cons rfl (V1.move rfl rfl rfl (ltb rfl) ?_)
         refine VO.nil ?_
         refine V.cond rfl (fun hc11 => ?_) (fun hc11 => ?_)
         ·
          replace hm0 := cond_t hc11 hm0
          refine V.seq ?_
          replace hm0 := bindO hm0; rcases hm0 with ⟨y23, hh23, hm0⟩
          refine V.region ?_
          refine VO.cons rfl (V1.move rfl rfl rfl (ltb rfl) ?_)
          refine VO.cons rfl (V1.call rfl rfl rfl cok_22 rfl (ok_impl_IsWorkingDay hh23) rfl (ltb rfl) ?_)
          rintro _ _ ⟨rfl, rfl⟩
          refine VO.cons rfl (V1.move rfl rfl rfl (ltb rfl) ?_)
          refine VO.cons rfl (V1.extract rfl rfl rfl rfl (ltb rfl) ?_)
          refine VO.cons rfl (V1.extract rfl rfl rfl rfl (ltb rfl) ?_)
          refine VO.cons rfl (V1.assign rfl rfl rfl (ltb rfl) ?_)
          refine VO.cons rfl (V1.assign rfl rfl rfl (ltb rfl) ?_)
          refine VO.nil ?_
          refine V.keep 251 [34, 35, 39, 40] [0] (E0 := [(34, .ref b7 5 0 0), (35, .int .i64 y21.1), (39, .bool y23.1), (40, .bool y23.2)]) (H0 := [(b7, ⟨5, [encRequest rn y20]⟩)]) rfl (⟨_, _, rfl, rfl, ⟨_, _, rfl, rfl, ⟨_, _, rfl, rfl, ⟨_, _, rfl, rfl, rfl⟩⟩⟩⟩) (⟨_, _, rfl, rfl, rfl⟩) rfl ?_
          refine V.seq ?_
          refine V.region ?_
          refine VO.cons rfl (V1.move rfl rfl rfl (ltb rfl) ?_)
          refine VO.cons rfl (V1.move rfl rfl rfl (ltb rfl) ?_)
          apply VO.and (n := 1) rfl rfl rfl rfl rfl rfl (ltb rfl) (.none rfl)
          ·
           intro hg13
           refine VO.step (.some rfl rfl rfl) (V1.move rfl rfl rfl (ltb rfl) ?_)
           exact VO.nil ⟨rfl, rfl, rfl, rfl, .inr ⟨rfl, .inr ⟨rfl, .inl rfl⟩⟩⟩
          refine VO.cons rfl (V1.move rfl rfl rfl (ltb rfl) ?_)
          apply VO.and (n := 4) rfl rfl rfl rfl rfl rfl (ltb rfl) (.none rfl)
          ·
           intro hg14
           refine VO.step (.some rfl rfl rfl) (V1.move rfl rfl rfl (ltb rfl) ?_)
           refine VO.step (.some rfl rfl rfl) (V1.fieldRef rfl rfl fo_26_1 rfl (ltb rfl) ?_)
           refine VO.step (.some rfl rfl rfl) (V1.loadRef (k := 0) rfl rfl tyk_3 rfl rfl rfl rfl rfl (ltb rfl) ?_)
           refine VO.step (.some rfl rfl rfl) (V1.int rfl rfl rfl rfl rfl (ltb rfl) ?_)
           exact VO.nil ⟨rfl, rfl, rfl, rfl, .inr ⟨rfl, .inr ⟨rfl, .inr ⟨rfl, .inr ⟨rfl, .inr ⟨rfl, .inl rfl⟩⟩⟩⟩⟩⟩
          refine VO.cons rfl (V1.assign rfl rfl rfl (ltb rfl) ?_)
          refine VO.nil ?_
          refine V.ret ?_
          obtain rfl := Option.some.inj hm0
          exact ⟨_, [], ⟨_, _, rfl, rfl, rfl⟩, List.nil_sublist _, rfl, rfl⟩
         ·
          replace hm0 := cond_f hc11 hm0
          refine V.skip ?_
          refine V.keep 251 [] [] (E0 := []) (H0 := []) rfl (rfl) (rfl) rfl ?_
          refine V.seq ?_
          refine V.region ?_
          refine VO.cons rfl (V1.assign rfl rfl rfl (ltb rfl) ?_)
          refine VO.nil ?_
          refine V.ret ?_
          obtain rfl := Option.some.inj hm0
          exact ⟨_, [], ⟨_, _, rfl, rfl, rfl⟩, List.nil_sublist _, rfl, rfl⟩
end Go.Proofs.Ytjfpdbhjoofllaa
