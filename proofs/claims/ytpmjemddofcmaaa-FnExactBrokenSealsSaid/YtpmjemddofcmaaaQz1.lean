/- the functions do what their models say -/
import Derived.Test.YtpmjemddofcmaaaFacts
import Derived.Test.YtpmjemddofcmaaaMzM
set_option linter.unusedSimpArgs false
set_option linter.unusedVariables false
set_option maxRecDepth 100000
set_option maxHeartbeats 4000000
namespace Go.Proofs.Ytpmjemddofcmaaa
open Go.VS

theorem ok_laws_szHandS {ρ0 rn : Nat} {a : List Hand} {left : Int} {r : Int} (h : M.laws_szHandS a left = some r) : Does Try.prog 4 [.vl ρ0 6 (List.map encHand a), .int .i64 left] [] rn (fun x H => x = .int .i64 r ∧ H = []) := by
 have hm0 := h; clear h; unfold M.laws_szHandS at hm0
 try dsimp only at hm0
 refine Does.intro (N := 12) Try.func4 rfl rfl rfl rfl ?_
 intro w0 S0 L0
 refine V.seq ?_
 refine V.region ?_
 refine VO.cons rfl (V1.assign rfl rfl rfl lt0 ?_)
 refine VO.nil ?_
 refine V.seq ?_
 refine V.region ?_
 refine VO.cons rfl (V1.move rfl rfl rfl lt0 ?_)
 refine VO.cons rfl (V1.move rfl rfl rfl lt0 ?_)
 refine VO.cons rfl (V1.lenMap rfl rfl rfl rfl rfl rfl isl_22 lt0 ?_)
 refine VO.cons rfl (V1.int rfl rfl rfl rfl rfl lt0 ?_)
 refine VO.cons rfl (V1.assign rfl rfl rfl lt0 ?_)
 refine VO.nil ?_
 refine V.keep 12 [1] [] (E0 := [(1, .int .i64 (IntKind.i64.wrap (left - (a.length : Int))))]) (H0 := []) rfl (⟨_, _, rfl, rfl, rfl⟩) (rfl) rfl ?_
 refine V.seq ?_
 refine V.seq ?_
 refine V.region ?_
 refine VO.cons rfl (V1.move rfl rfl rfl lt0 ?_)
 refine VO.cons rfl (V1.int rfl rfl rfl rfl rfl lt0 ?_)
 refine VO.nil ?_
 refine V.cond rfl (fun hc0 => ?_) (fun hc0 => ?_)
 ·
  replace hm0 := cond_t hc0 hm0
  refine V.seq ?_
  refine V.region ?_
  refine VO.cons rfl (V1.assign rfl rfl rfl lt0 ?_)
  refine VO.nil ?_
  refine V.ret ?_
  obtain rfl := Option.some.inj hm0
  exact ⟨_, [], ⟨_, _, rfl, rfl, rfl⟩, List.nil_sublist _, rfl, rfl⟩
 ·
  replace hm0 := cond_f hc0 hm0
  refine V.skip ?_
  refine V.seq ?_
  refine V.region ?_
  refine VO.cons rfl (V1.move rfl rfl rfl lt0 ?_)
  refine VO.cons rfl (V1.assign rfl rfl rfl lt0 ?_)
  refine VO.nil ?_
  refine V.ret ?_
  obtain rfl := Option.some.inj hm0
  exact ⟨_, [], ⟨_, _, rfl, rfl, rfl⟩, List.nil_sublist _, rfl, rfl⟩

theorem ok_laws_toHand {rn : Nat} {a : Hand} {r : Hand} (h : M.laws_toHand a = some r) : Does Try.prog 15 [encHand a] [] rn (fun x H => x = encHand r ∧ H = []) := by
 have hm0 := h; clear h; unfold M.laws_toHand at hm0
 try dsimp only at hm0
 refine Does.intro (N := 23) Try.func15 rfl rfl rfl rfl ?_
 intro w0 S0 L0
 refine V.seq ?_
 refine V.region ?_
 refine VO.cons rfl (V1.boxN (n := 6) rfl rfl rfl rfl rfl lt0 ?_)
 intro b0
 refine VO.cons rfl (V1.alloc rfl rfl zk_37 lt0 ?_)
 intro b1
 refine VO.nil ?_
 refine V.seq ?_
 refine V.region ?_
 refine VO.cons rfl (V1.alloc rfl rfl zk_37 lt0 ?_)
 intro b2
 refine VO.nil ?_
 refine V.seq ?_
 refine V.region ?_
 refine VO.cons rfl (V1.fieldRef rfl rfl fo_40_0 rfl lt0 ?_)
 refine VO.cons rfl (V1.loadRef (k := 2) rfl rfl tyk_3 rfl rfl rfl rfl rfl lt0 ?_)
 refine VO.cons rfl (V1.fieldRef rfl rfl fo_37_0 rfl lt0 ?_)
 refine VO.cons rfl (V1.storeRef (k := 0) rfl rfl tyk_3 rfl rfl rfl rfl rfl rfl rfl rfl rfl ?_)
 refine VO.nil ?_
 refine V.keep 23 [1, 2, 3] [0, 1, 2] (E0 := [(1, .ref b0 6 0 0), (2, .ref b1 6 0 0), (3, .ref b2 6 0 0)]) (H0 := [(b2, ⟨6, [.agg [.int .i64 a.Record, .int .i64 (0 : Int), .int .i64 (0 : Int), .int .i64 (0 : Int), .int .i64 (0 : Int), .bool false]]⟩), (b1, ⟨6, [.agg [.int .i64 (0 : Int), .int .i64 (0 : Int), .int .i64 (0 : Int), .int .i64 (0 : Int), .int .i64 (0 : Int), .bool false]]⟩), (b0, ⟨6, [encHand a]⟩)]) rfl (⟨_, _, rfl, rfl, _, _, rfl, rfl, _, _, rfl, rfl, rfl⟩) (⟨_, _, rfl, rfl, _, _, rfl, rfl, _, _, rfl, rfl, rfl⟩) rfl ?_
 refine V.seq ?_
 refine V.region ?_
 refine VO.cons rfl (V1.fieldRef rfl rfl fo_40_1 rfl lt0 ?_)
 refine VO.cons rfl (V1.loadRef (k := 2) rfl rfl tyk_3 rfl rfl rfl rfl rfl lt0 ?_)
 refine VO.cons rfl (V1.fieldRef rfl rfl fo_37_1 rfl lt0 ?_)
 refine VO.cons rfl (V1.storeRef (k := 0) rfl rfl tyk_3 rfl rfl rfl rfl rfl rfl rfl rfl rfl ?_)
 refine VO.nil ?_
 refine V.seq ?_
 refine V.region ?_
 refine VO.cons rfl (V1.fieldRef rfl rfl fo_40_2 rfl lt0 ?_)
 refine VO.cons rfl (V1.loadRef (k := 2) rfl rfl tyk_3 rfl rfl rfl rfl rfl lt0 ?_)
 refine VO.cons rfl (V1.fieldRef rfl rfl fo_37_2 rfl lt0 ?_)
 refine VO.cons rfl (V1.storeRef (k := 0) rfl rfl tyk_3 rfl rfl rfl rfl rfl rfl rfl rfl rfl ?_)
 refine VO.nil ?_
 refine V.keep 23 [1, 2, 3] [0, 1, 2] (E0 := [(1, .ref b0 6 0 0), (2, .ref b1 6 0 0), (3, .ref b2 6 0 0)]) (H0 := [(b2, ⟨6, [.agg [.int .i64 a.Record, .int .i64 a.From, .int .i64 a.To, .int .i64 (0 : Int), .int .i64 (0 : Int), .bool false]]⟩), (b1, ⟨6, [.agg [.int .i64 (0 : Int), .int .i64 (0 : Int), .int .i64 (0 : Int), .int .i64 (0 : Int), .int .i64 (0 : Int), .bool false]]⟩), (b0, ⟨6, [encHand a]⟩)]) rfl (⟨_, _, rfl, rfl, _, _, rfl, rfl, _, _, rfl, rfl, rfl⟩) (⟨_, _, rfl, rfl, _, _, rfl, rfl, _, _, rfl, rfl, rfl⟩) rfl ?_
 refine V.seq ?_
 refine V.region ?_
 refine VO.cons rfl (V1.fieldRef rfl rfl fo_40_3 rfl lt0 ?_)
 refine VO.cons rfl (V1.loadRef (k := 2) rfl rfl tyk_3 rfl rfl rfl rfl rfl lt0 ?_)
 refine VO.cons rfl (V1.fieldRef rfl rfl fo_37_3 rfl lt0 ?_)
 refine VO.cons rfl (V1.storeRef (k := 0) rfl rfl tyk_3 rfl rfl rfl rfl rfl rfl rfl rfl rfl ?_)
 refine VO.nil ?_
 refine V.seq ?_
 refine V.region ?_
 refine VO.cons rfl (V1.fieldRef rfl rfl fo_40_4 rfl lt0 ?_)
 refine VO.cons rfl (V1.loadRef (k := 2) rfl rfl tyk_3 rfl rfl rfl rfl rfl lt0 ?_)
 refine VO.cons rfl (V1.fieldRef rfl rfl fo_37_4 rfl lt0 ?_)
 refine VO.cons rfl (V1.storeRef (k := 0) rfl rfl tyk_3 rfl rfl rfl rfl rfl rfl rfl rfl rfl ?_)
 refine VO.nil ?_
 refine V.keep 23 [1, 2, 3] [0, 1, 2] (E0 := [(1, .ref b0 6 0 0), (2, .ref b1 6 0 0), (3, .ref b2 6 0 0)]) (H0 := [(b2, ⟨6, [.agg [.int .i64 a.Record, .int .i64 a.From, .int .i64 a.To, .int .i64 a.Day, .int .i64 a.Sum, .bool false]]⟩), (b1, ⟨6, [.agg [.int .i64 (0 : Int), .int .i64 (0 : Int), .int .i64 (0 : Int), .int .i64 (0 : Int), .int .i64 (0 : Int), .bool false]]⟩), (b0, ⟨6, [encHand a]⟩)]) rfl (⟨_, _, rfl, rfl, _, _, rfl, rfl, _, _, rfl, rfl, rfl⟩) (⟨_, _, rfl, rfl, _, _, rfl, rfl, _, _, rfl, rfl, rfl⟩) rfl ?_
 refine V.seq ?_
 refine V.region ?_
 refine VO.cons rfl (V1.fieldRef rfl rfl fo_40_5 rfl lt0 ?_)
 refine VO.cons rfl (V1.loadRef (k := 2) rfl rfl tyk_4 rfl rfl rfl rfl rfl lt0 ?_)
 refine VO.cons rfl (V1.fieldRef rfl rfl fo_37_5 rfl lt0 ?_)
 refine VO.cons rfl (V1.storeRef (k := 0) rfl rfl tyk_4 rfl rfl rfl rfl rfl rfl rfl rfl rfl ?_)
 refine VO.nil ?_
 refine V.keep 23 [2, 3] [0, 1] (E0 := [(2, .ref b1 6 0 0), (3, .ref b2 6 0 0)]) (H0 := [(b2, ⟨6, [.agg [.int .i64 a.Record, .int .i64 a.From, .int .i64 a.To, .int .i64 a.Day, .int .i64 a.Sum, .bool a.Seal]]⟩), (b1, ⟨6, [.agg [.int .i64 (0 : Int), .int .i64 (0 : Int), .int .i64 (0 : Int), .int .i64 (0 : Int), .int .i64 (0 : Int), .bool false]]⟩)]) rfl (⟨_, _, rfl, rfl, _, _, rfl, rfl, rfl⟩) (⟨_, _, rfl, rfl, _, _, rfl, rfl, rfl⟩) rfl ?_
 refine V.seq ?_
 refine V.region ?_
 refine VO.cons rfl (V1.loadRefAll (k := 0) rfl rfl tyk_37 rfl rfl rfl rfl rfl lt0 ?_)
 refine VO.cons rfl (V1.storeRefAll (k := 1) rfl rfl tyk_37 rfl rfl rfl rfl rfl rfl ?_)
 refine VO.nil ?_
 refine V.ret ?_
 obtain rfl := Option.some.inj hm0
 exact ⟨_, [], ⟨_, _, rfl, ⟨_, _, 1, _, rfl, rfl, rfl, rfl, tyk_37, rfl⟩, rfl⟩, List.nil_sublist _, rfl, rfl⟩

theorem ok_laws_toHandS {ρ0 rn : Nat} {a : List Hand} {r : List Hand} (h : M.laws_toHandS a = some r) : Does Try.prog 6 [.vl ρ0 6 (List.map encHand a)] [] rn (fun x H => ∃ (ob0_ : Nat), x = PV.sref ob0_ 6 0 (List.length r) ∧ H = [(ob0_, ⟨6, List.map encHand r⟩)]) := by
 have hm0 := h; clear h; unfold M.laws_toHandS at hm0
 try dsimp only at hm0
 refine Does.intro (N := 23) Try.func6 rfl rfl rfl rfl ?_
 intro w0 S0 L0
 refine V.seq ?_
 refine V.region ?_
 refine VO.cons rfl (V1.assign rfl rfl rfl lt0 ?_)
 refine VO.nil ?_
 refine V.seq ?_
 replace hm0 := asrt_some hm0; rcases hm0 with ⟨hh0, hm0⟩
 refine V.region ?_
 refine VO.cons rfl (V1.move rfl rfl rfl lt0 ?_)
 refine VO.cons rfl (V1.lenMap rfl rfl rfl rfl rfl rfl isl_22 lt0 ?_)
 refine VO.cons rfl (V1.makeMap (f := encHand) (z := (⟨(0 : Int), (0 : Int), (0 : Int), (0 : Int), (0 : Int), false⟩ : Hand)) rfl rfl esz_27 eby_27 zk_37 rfl rfl hh0 rfl lt0 ?_)
 intro b0
 refine VO.cons rfl (V1.assign rfl rfl rfl lt0 ?_)
 refine VO.nil ?_
 refine V.keep 23 [0, 3] [0] (E0 := [(0, .vl ρ0 6 (List.map encHand a)), (3, .sref b0 6 0 (List.length (List.replicate (Int.toNat (a.length : Int)) (⟨(0 : Int), (0 : Int), (0 : Int), (0 : Int), (0 : Int), false⟩ : Hand))))]) (H0 := [(b0, ⟨6, List.map encHand (List.replicate (Int.toNat (a.length : Int)) (⟨(0 : Int), (0 : Int), (0 : Int), (0 : Int), (0 : Int), false⟩ : Hand))⟩)]) rfl (⟨_, _, rfl, rfl, _, _, rfl, rfl, rfl⟩) (⟨_, _, rfl, rfl, rfl⟩) rfl ?_
 refine V.seq ?_
 refine V.seq ?_
 refine V.region ?_
 refine VO.cons rfl (V1.assign rfl rfl rfl lt0 ?_)
 refine VO.nil ?_
 replace hm0 := bindO hm0; rcases hm0 with ⟨e0, he1, hm0⟩
 refine V.cutT (D := (List Hand) × (Unit)) (fun ⟨out_, _⟩ => ⟨23, [(3, .sref b0 6 0 (List.length out_))], [(b0, ⟨6, List.map encHand out_⟩)]⟩) (fun ⟨out_, _⟩ => (out_ = e0)) ?_ ?_
 ·
  refine V.block ?_
  refine V.keep 23 [3, 4, 0] [0] (E0 := [(3, .sref b0 6 0 (List.length (List.replicate (Int.toNat (a.length : Int)) (⟨(0 : Int), (0 : Int), (0 : Int), (0 : Int), (0 : Int), false⟩ : Hand)))), (4, .int .i64 (0 : Int)), (0, .vl ρ0 6 (List.map encHand a))]) (H0 := [(b0, ⟨6, List.map encHand (List.replicate (Int.toNat (a.length : Int)) (⟨(0 : Int), (0 : Int), (0 : Int), (0 : Int), (0 : Int), false⟩ : Hand))⟩)]) rfl (⟨_, _, rfl, rfl, _, _, rfl, rfl, _, _, rfl, rfl, rfl⟩) (⟨_, _, rfl, rfl, rfl⟩) rfl ?_
  refine V.loopE (D := Nat × (List Hand × Int) × (Unit)) (fun ⟨n0, ⟨out_0, i⟩, _⟩ => [(3, .sref b0 6 0 (List.length out_0)), (4, .int .i64 i)]) (fun ⟨n0, ⟨out_0, i⟩, _⟩ => [(b0, ⟨6, List.map encHand out_0⟩)]) (fun ⟨n0, ⟨out_0, i⟩, _⟩ => loopO (M.laws_toHandS_l0 a) n0 (out_0, i) = some e0) (fun ⟨n0, _, _⟩ => n0) (rounds, ((List.replicate (Int.toNat (a.length : Int)) (⟨(0 : Int), (0 : Int), (0 : Int), (0 : Int), (0 : Int), false⟩ : Hand)), (0 : Int)), ()) rfl he1 ?_
  rintro ⟨n0, ⟨out_0, i⟩, _⟩ hP0
  obtain ⟨m0, y0, rfl, hm1, hl1, hr1⟩ := loop_head hP0
  unfold M.laws_toHandS_l0 at hm1; dsimp only at hm1
  show V _ _ _ ⟨23, [(3, .sref b0 6 0 (List.length out_0)), (4, .int .i64 i), (0, .vl ρ0 6 (List.map encHand a))], [(b0, ⟨6, List.map encHand out_0⟩)]⟩
  refine V.seq ?_
  refine V.seq ?_
  refine V.region ?_
  refine VO.cons rfl (V1.move rfl rfl rfl lt0 ?_)
  refine VO.cons rfl (V1.move rfl rfl rfl lt0 ?_)
  refine VO.cons rfl (V1.lenMap rfl rfl rfl rfl rfl rfl isl_22 lt0 ?_)
  refine VO.cons rfl (V1.int rfl rfl rfl rfl rfl lt0 ?_)
  refine VO.nil ?_
  refine V.cond rfl (fun hc0 => ?_) (fun hc0 => ?_)
  ·
   replace hm1 := cond_t hc0 hm1
   refine V.skip ?_
   refine V.keep 23 [0, 3, 4] [0] (E0 := [(0, .vl ρ0 6 (List.map encHand a)), (3, .sref b0 6 0 (List.length out_0)), (4, .int .i64 i)]) (H0 := [(b0, ⟨6, List.map encHand out_0⟩)]) rfl (⟨_, _, rfl, rfl, _, _, rfl, rfl, _, _, rfl, rfl, rfl⟩) (⟨_, _, rfl, rfl, rfl⟩) rfl ?_
   refine V.seq ?_
   refine V.block ?_
   replace hm1 := asrt_some hm1; rcases hm1 with ⟨hh1, hm1⟩
   replace hm1 := bindO hm1; rcases hm1 with ⟨y1, hh2, hm1⟩
   replace hm1 := asrt_some hm1; rcases hm1 with ⟨hh3, hm1⟩
   refine V.region ?_
   refine VO.cons rfl (V1.move rfl rfl rfl lt0 ?_)
   refine VO.cons rfl (V1.move rfl rfl rfl lt0 ?_)
   refine VO.cons rfl (V1.move rfl rfl rfl lt0 ?_)
   refine VO.cons rfl (V1.move rfl rfl rfl lt0 ?_)
   refine VO.cons rfl (V1.indexI rfl rfl esz_22 rfl rfl hh1 lt0 ?_)
   refine VO.cons rfl (V1.loadPinAll rfl rfl tyk_40 rfl rfl lt0 ?_)
   refine VO.cons rfl (V1.call rfl rfl rfl cok_15 rfl (ok_laws_toHand hh2) rfl lt0 ?_)
   rintro _ _ ⟨rfl, rfl⟩
   refine VO.cons rfl (V1.indexSr rfl rfl esz_27 rfl rfl hh3 lt0 ?_)
   refine VO.cons rfl (V1.storeMap (k := 0) (f := encHand) (x := y1) rfl rfl tyk_37 rfl rfl (by simpa using natLt hh3.1 hh3.2) rfl rfl ?_)
   refine VO.weakenK (Keeps.say 3 (y := .sref b0 6 0 (List.length (out_0.set (Int.toNat i) y1))) rfl (by simp [optS])) ?_
   refine VO.nil ?_
   refine V.keep 23 [0, 3, 4] [0] (E0 := [(0, .vl ρ0 6 (List.map encHand a)), (3, .sref b0 6 0 (List.length (out_0.set (Int.toNat i) y1))), (4, .int .i64 i)]) (H0 := [(b0, ⟨6, List.map encHand (out_0.set (Int.toNat i) y1)⟩)]) rfl (⟨_, _, rfl, rfl, _, _, rfl, rfl, _, _, rfl, rfl, rfl⟩) (⟨_, _, rfl, rfl, rfl⟩) rfl ?_
   refine V.region ?_
   refine VO.cons rfl (V1.move rfl rfl rfl lt0 ?_)
   refine VO.cons rfl (V1.int rfl rfl rfl rfl rfl lt0 ?_)
   refine VO.cons rfl (V1.assign rfl rfl rfl lt0 ?_)
   refine VO.nil ?_
   exact ⟨(m0, ((out_0.set (Int.toNat i) y1), (IntKind.i64.wrap (i + (1 : Int)))), ()), hl1 _ (Option.some.inj hm1).symm, Nat.lt_succ_self _, Keeps.mk (ks := [0]) rfl ⟨(someSref (by simp)), rfl, rfl, trivial⟩ (⟨_, _, rfl, rfl, rfl⟩) rfl⟩
  ·
   replace hm1 := cond_f hc0 hm1
   refine V.exit ?_
   obtain rfl := hr1 _ (Option.some.inj hm1).symm
   exact ⟨(out_0, ()), rfl, Keeps.mk (ks := [0]) rfl ⟨(someSref (by simp)), trivial⟩ (⟨_, _, rfl, rfl, rfl⟩) rfl⟩
 ·
  rintro ⟨out_, _⟩ rfl
  try dsimp only at hm0
  refine V.seq ?_
  refine V.region ?_
  refine VO.cons rfl (V1.move rfl rfl rfl lt0 ?_)
  refine VO.cons rfl (V1.assign rfl rfl rfl lt0 ?_)
  refine VO.nil ?_
  refine V.keep 23 [2] [0] (E0 := [(2, .sref b0 6 0 (List.length out_))]) (H0 := [(b0, ⟨6, List.map encHand out_⟩)]) rfl (⟨_, _, rfl, rfl, rfl⟩) (⟨_, _, rfl, rfl, rfl⟩) rfl ?_
  refine V.ret ?_
  obtain rfl := Option.some.inj hm0
  exact ⟨_, _, ⟨_, _, rfl, rfl, rfl⟩, List.Sublist.refl _, b0, rfl, rfl⟩

theorem ok_spec_l1In {rn : Nat} {x : Int} {a : Int} {b_ : Int} {r : Bool} (h : M.spec_l1In x a b_ = some r) : Does Try.prog 32 [.int .i64 x, .int .i64 a, .int .i64 b_] [] rn (fun x H => x = .bool r ∧ H = []) := by
 have hm0 := h; clear h; unfold M.spec_l1In at hm0
 try dsimp only at hm0
 refine Does.intro (N := 15) Try.func32 rfl rfl rfl rfl ?_
 intro w0 S0 L0
 refine V.seq ?_
 refine V.region ?_
 refine VO.cons rfl (V1.assign rfl rfl rfl lt0 ?_)
 refine VO.nil ?_
 refine V.seq ?_
 refine V.region ?_
 refine VO.cons rfl (V1.move rfl rfl rfl lt0 ?_)
 refine VO.cons rfl (V1.move rfl rfl rfl lt0 ?_)
 refine VO.cons rfl (V1.int rfl rfl rfl rfl rfl lt0 ?_)
 refine VO.cons rfl (V1.move rfl rfl rfl lt0 ?_)
 apply VO.and (n := 3) rfl rfl rfl rfl rfl rfl lt0 (.none rfl)
 ·
  intro hg0
  refine VO.step (.some rfl rfl rfl) (V1.move rfl rfl rfl lt0 ?_)
  refine VO.step (.some rfl rfl rfl) (V1.move rfl rfl rfl lt0 ?_)
  refine VO.step (.some rfl rfl rfl) (V1.int rfl rfl rfl rfl rfl lt0 ?_)
  exact VO.nil ⟨rfl, rfl, rfl, rfl, .inr ⟨rfl, .inr ⟨rfl, .inr ⟨rfl, .inr ⟨rfl, .inl rfl⟩⟩⟩⟩⟩
 refine VO.cons rfl (V1.assign rfl rfl rfl lt0 ?_)
 refine VO.nil ?_
 refine V.ret ?_
 obtain rfl := Option.some.inj hm0
 exact ⟨_, [], ⟨_, _, rfl, rfl, rfl⟩, List.nil_sublist _, rfl, rfl⟩

theorem ok_spec_l17Record {rn : Nat} {record : Int} {r : Bool} (h : M.spec_l17Record record = some r) : Does Try.prog 29 [.int .i64 record] [] rn (fun x H => x = .bool r ∧ H = []) := by
 have hm0 := h; clear h; unfold M.spec_l17Record at hm0
 try dsimp only at hm0
 refine Does.intro (N := 5) Try.func29 rfl rfl rfl rfl ?_
 intro w0 S0 L0
 refine V.seq ?_
 refine V.region ?_
 refine VO.cons rfl (V1.assign rfl rfl rfl lt0 ?_)
 refine VO.nil ?_
 refine V.seq ?_
 replace hm0 := bindO hm0; rcases hm0 with ⟨y0, hh0, hm0⟩
 refine V.region ?_
 refine VO.cons rfl (V1.move rfl rfl rfl lt0 ?_)
 refine VO.cons rfl (V1.call rfl rfl rfl cok_32 rfl (ok_spec_l1In hh0) rfl lt0 ?_)
 rintro _ _ ⟨rfl, rfl⟩
 refine VO.cons rfl (V1.assign rfl rfl rfl lt0 ?_)
 refine VO.nil ?_
 refine V.ret ?_
 obtain rfl := Option.some.inj hm0
 exact ⟨_, [], ⟨_, _, rfl, rfl, rfl⟩, List.nil_sublist _, rfl, rfl⟩

theorem ok_spec_l17Who {rn : Nat} {who : Int} {r : Bool} (h : M.spec_l17Who who = some r) : Does Try.prog 30 [.int .i64 who] [] rn (fun x H => x = .bool r ∧ H = []) := by
 have hm0 := h; clear h; unfold M.spec_l17Who at hm0
 try dsimp only at hm0
 refine Does.intro (N := 5) Try.func30 rfl rfl rfl rfl ?_
 intro w0 S0 L0
 refine V.seq ?_
 refine V.region ?_
 refine VO.cons rfl (V1.assign rfl rfl rfl lt0 ?_)
 refine VO.nil ?_
 refine V.seq ?_
 replace hm0 := bindO hm0; rcases hm0 with ⟨y0, hh0, hm0⟩
 refine V.region ?_
 refine VO.cons rfl (V1.move rfl rfl rfl lt0 ?_)
 refine VO.cons rfl (V1.call rfl rfl rfl cok_32 rfl (ok_spec_l1In hh0) rfl lt0 ?_)
 rintro _ _ ⟨rfl, rfl⟩
 refine VO.cons rfl (V1.assign rfl rfl rfl lt0 ?_)
 refine VO.nil ?_
 refine V.ret ?_
 obtain rfl := Option.some.inj hm0
 exact ⟨_, [], ⟨_, _, rfl, rfl, rfl⟩, List.nil_sublist _, rfl, rfl⟩

theorem ok_spec_l2Day {rn : Nat} {d : Int} {r : Bool} (h : M.spec_l2Day d = some r) : Does Try.prog 31 [.int .i64 d] [] rn (fun x H => x = .bool r ∧ H = []) := by
 have hm0 := h; clear h; unfold M.spec_l2Day at hm0
 try dsimp only at hm0
 refine Does.intro (N := 5) Try.func31 rfl rfl rfl rfl ?_
 intro w0 S0 L0
 refine V.seq ?_
 refine V.region ?_
 refine VO.cons rfl (V1.assign rfl rfl rfl lt0 ?_)
 refine VO.nil ?_
 refine V.seq ?_
 replace hm0 := bindO hm0; rcases hm0 with ⟨y0, hh0, hm0⟩
 refine V.region ?_
 refine VO.cons rfl (V1.move rfl rfl rfl lt0 ?_)
 refine VO.cons rfl (V1.call rfl rfl rfl cok_32 rfl (ok_spec_l1In hh0) rfl lt0 ?_)
 rintro _ _ ⟨rfl, rfl⟩
 refine VO.cons rfl (V1.assign rfl rfl rfl lt0 ?_)
 refine VO.nil ?_
 refine V.ret ?_
 obtain rfl := Option.some.inj hm0
 exact ⟨_, [], ⟨_, _, rfl, rfl, rfl⟩, List.nil_sublist _, rfl, rfl⟩

theorem ok_spec_l17One {rn : Nat} {h_ : Hand} {r : Bool} (h : M.spec_l17One h_ = some r) : Does Try.prog 24 [encHand h_] [] rn (fun x H => x = .bool r ∧ H = []) := by
 have hm0 := h; clear h; unfold M.spec_l17One at hm0
 try dsimp only at hm0
 refine Does.intro (N := 33) Try.func24 rfl rfl rfl rfl ?_
 intro w0 S0 L0
 refine V.seq ?_
 refine V.region ?_
 refine VO.cons rfl (V1.boxN (n := 6) rfl rfl rfl rfl rfl lt0 ?_)
 intro b0
 refine VO.cons rfl (V1.assign rfl rfl rfl lt0 ?_)
 refine VO.nil ?_
 refine V.seq ?_
 replace hm0 := bindO hm0; rcases hm0 with ⟨y0, hh0, hm0⟩
 replace hm0 := bindO hm0; rcases hm0 with ⟨y1, hh1, hm0⟩
 replace hm0 := bindO hm0; rcases hm0 with ⟨y2, hh2, hm0⟩
 replace hm0 := bindO hm0; rcases hm0 with ⟨y3, hh3, hm0⟩
 replace hm0 := bindO hm0; rcases hm0 with ⟨y4, hh4, hm0⟩
 refine V.region ?_
 refine VO.cons rfl (V1.fieldRef rfl rfl fo_37_0 rfl lt0 ?_)
 refine VO.cons rfl (V1.loadRef (k := 0) rfl rfl tyk_3 rfl rfl rfl rfl rfl lt0 ?_)
 refine VO.cons rfl (V1.call rfl rfl rfl cok_29 rfl (ok_spec_l17Record hh0) rfl lt0 ?_)
 rintro _ _ ⟨rfl, rfl⟩
 refine VO.cons rfl (V1.move rfl rfl rfl lt0 ?_)
 apply VO.and (n := 3) rfl rfl rfl rfl rfl rfl lt0 (.none rfl)
 ·
  intro hg0
  refine VO.step (.some rfl rfl rfl) (V1.fieldRef rfl rfl fo_37_1 rfl lt0 ?_)
  refine VO.step (.some rfl rfl rfl) (V1.loadRef (k := 0) rfl rfl tyk_3 rfl rfl rfl rfl rfl lt0 ?_)
  refine VO.step (.some rfl rfl rfl) (V1.call rfl rfl rfl cok_30 rfl (ok_spec_l17Who (cond_t hg0 hh1)) rfl lt0 ?_)
  rintro _ _ ⟨rfl, rfl⟩
  exact VO.nil ⟨rfl, rfl, rfl, rfl, .inr ⟨rfl, .inr ⟨rfl, .inr ⟨rfl, .inr ⟨rfl, .inl rfl⟩⟩⟩⟩⟩
 refine VO.cons rfl (V1.move rfl rfl rfl lt0 ?_)
 apply VO.and (n := 3) rfl rfl rfl rfl rfl rfl lt0 (.none rfl)
 ·
  intro hg1
  refine VO.step (.some rfl rfl rfl) (V1.fieldRef rfl rfl fo_37_2 rfl lt0 ?_)
  refine VO.step (.some rfl rfl rfl) (V1.loadRef (k := 0) rfl rfl tyk_3 rfl rfl rfl rfl rfl lt0 ?_)
  refine VO.step (.some rfl rfl rfl) (V1.call rfl rfl rfl cok_30 rfl (ok_spec_l17Who (cond_t hg1 hh2)) rfl lt0 ?_)
  rintro _ _ ⟨rfl, rfl⟩
  exact VO.nil ⟨rfl, rfl, rfl, rfl, .inr ⟨rfl, .inr ⟨rfl, .inr ⟨rfl, .inr ⟨rfl, .inl rfl⟩⟩⟩⟩⟩
 refine VO.cons rfl (V1.move rfl rfl rfl lt0 ?_)
 apply VO.and (n := 5) rfl rfl rfl rfl rfl rfl lt0 (.none rfl)
 ·
  intro hg2
  refine VO.step (.some rfl rfl rfl) (V1.fieldRef rfl rfl fo_37_1 rfl lt0 ?_)
  refine VO.step (.some rfl rfl rfl) (V1.loadRef (k := 0) rfl rfl tyk_3 rfl rfl rfl rfl rfl lt0 ?_)
  refine VO.step (.some rfl rfl rfl) (V1.fieldRef rfl rfl fo_37_2 rfl lt0 ?_)
  refine VO.step (.some rfl rfl rfl) (V1.loadRef (k := 0) rfl rfl tyk_3 rfl rfl rfl rfl rfl lt0 ?_)
  refine VO.step (.some rfl rfl rfl) (V1.int rfl rfl rfl rfl rfl lt0 ?_)
  exact VO.nil ⟨rfl, rfl, rfl, rfl, .inr ⟨rfl, .inr ⟨rfl, .inr ⟨rfl, .inr ⟨rfl, .inr ⟨rfl, .inr ⟨rfl, .inl rfl⟩⟩⟩⟩⟩⟩⟩
 refine VO.cons rfl (V1.move rfl rfl rfl lt0 ?_)
 apply VO.and (n := 3) rfl rfl rfl rfl rfl rfl lt0 (.none rfl)
 ·
  intro hg3
  refine VO.step (.some rfl rfl rfl) (V1.fieldRef rfl rfl fo_37_3 rfl lt0 ?_)
  refine VO.step (.some rfl rfl rfl) (V1.loadRef (k := 0) rfl rfl tyk_3 rfl rfl rfl rfl rfl lt0 ?_)
  refine VO.step (.some rfl rfl rfl) (V1.call rfl rfl rfl cok_31 rfl (ok_spec_l2Day (cond_t hg3 hh3)) rfl lt0 ?_)
  rintro _ _ ⟨rfl, rfl⟩
  exact VO.nil ⟨rfl, rfl, rfl, rfl, .inr ⟨rfl, .inr ⟨rfl, .inr ⟨rfl, .inr ⟨rfl, .inl rfl⟩⟩⟩⟩⟩
 refine VO.cons rfl (V1.move rfl rfl rfl lt0 ?_)
 apply VO.and (n := 3) rfl rfl rfl rfl rfl rfl lt0 (.none rfl)
 ·
  intro hg4
  refine VO.step (.some rfl rfl rfl) (V1.fieldRef rfl rfl fo_37_4 rfl lt0 ?_)
  refine VO.step (.some rfl rfl rfl) (V1.loadRef (k := 0) rfl rfl tyk_3 rfl rfl rfl rfl rfl lt0 ?_)
  refine VO.step (.some rfl rfl rfl) (V1.call rfl rfl rfl cok_32 rfl (ok_spec_l1In (cond_t hg4 hh4)) rfl lt0 ?_)
  rintro _ _ ⟨rfl, rfl⟩
  exact VO.nil ⟨rfl, rfl, rfl, rfl, .inr ⟨rfl, .inr ⟨rfl, .inr ⟨rfl, .inr ⟨rfl, .inl rfl⟩⟩⟩⟩⟩
 refine VO.cons rfl (V1.assign rfl rfl rfl lt0 ?_)
 refine VO.nil ?_
 refine V.ret ?_
 obtain rfl := Option.some.inj hm0
 exact ⟨_, [], ⟨_, _, rfl, rfl, rfl⟩, List.nil_sublist _, rfl, rfl⟩

theorem ok_spec_l17Before {ρ0 rn : Nat} {list : List Hand} {record : Int} {i : Int} {r : Int} (h : M.spec_l17Before list record i = some r) : Does Try.prog 25 [.vl ρ0 6 (List.map encHand list), .int .i64 record, .int .i64 i] [] rn (fun x H => x = .int .i64 r ∧ H = []) := by
 have hm0 := h; clear h; unfold M.spec_l17Before at hm0
 try dsimp only at hm0
 refine Does.intro (N := 22) Try.func25 rfl rfl rfl rfl ?_
 intro w0 S0 L0
 refine V.seq ?_
 refine V.region ?_
 refine VO.cons rfl (V1.assign rfl rfl rfl lt0 ?_)
 refine VO.nil ?_
 refine V.seq ?_
 refine V.seq ?_
 refine V.region ?_
 refine VO.cons rfl (V1.move rfl rfl rfl lt0 ?_)
 refine VO.cons rfl (V1.int rfl rfl rfl rfl rfl lt0 ?_)
 refine VO.cons rfl (V1.assign rfl rfl rfl lt0 ?_)
 refine VO.nil ?_
 refine V.keep 22 [0, 1, 7] [] (E0 := [(0, .vl ρ0 6 (List.map encHand list)), (1, .int .i64 record), (7, .int .i64 (IntKind.i64.wrap (i - (1 : Int))))]) (H0 := []) rfl (⟨_, _, rfl, rfl, _, _, rfl, rfl, _, _, rfl, rfl, rfl⟩) (rfl) rfl ?_
 replace hm0 := bindO hm0; rcases hm0 with ⟨e0, he1, hm0⟩
 refine V.cutT (D := (Unit) × (Unit)) (fun ⟨_, _⟩ => ⟨22, [], []⟩) (fun ⟨_, _⟩ => (.inl () = e0)) ?_ ?_
 ·
  refine V.block ?_
  refine V.keep 22 [7, 0, 1] [] (E0 := [(7, .int .i64 (IntKind.i64.wrap (i - (1 : Int)))), (0, .vl ρ0 6 (List.map encHand list)), (1, .int .i64 record)]) (H0 := []) rfl (⟨_, _, rfl, rfl, _, _, rfl, rfl, _, _, rfl, rfl, rfl⟩) (rfl) rfl ?_
  refine V.loopE (D := Nat × (Int) × (Unit)) (fun ⟨n0, k, _⟩ => [(7, .int .i64 k)]) (fun ⟨n0, k, _⟩ => []) (fun ⟨n0, k, _⟩ => loopO (M.spec_l17Before_l0 list record) n0 k = some e0) (fun ⟨n0, _, _⟩ => n0) (rounds, (IntKind.i64.wrap (i - (1 : Int))), ()) rfl he1 ?_
  rintro ⟨n0, k, _⟩ hP0
  obtain ⟨m0, y0, rfl, hm1, hl1, hr1⟩ := loop_head hP0
  unfold M.spec_l17Before_l0 at hm1; dsimp only at hm1
  show V _ _ _ ⟨22, [(7, .int .i64 k), (0, .vl ρ0 6 (List.map encHand list)), (1, .int .i64 record)], []⟩
  refine V.seq ?_
  refine V.seq ?_
  refine V.region ?_
  refine VO.cons rfl (V1.move rfl rfl rfl lt0 ?_)
  refine VO.cons rfl (V1.int rfl rfl rfl rfl rfl lt0 ?_)
  refine VO.nil ?_
  refine V.cond rfl (fun hc0 => ?_) (fun hc0 => ?_)
  ·
   replace hm1 := cond_t hc0 hm1
   refine V.skip ?_
   refine V.seq ?_
   refine V.block ?_
   refine V.seq ?_
   replace hm1 := asrt_some hm1; rcases hm1 with ⟨hh0, hm1⟩
   refine V.region ?_
   refine VO.cons rfl (V1.move rfl rfl rfl lt0 ?_)
   refine VO.cons rfl (V1.move rfl rfl rfl lt0 ?_)
   refine VO.cons rfl (V1.indexI rfl rfl esz_27 rfl rfl hh0 lt0 ?_)
   refine VO.cons rfl (V1.fieldPin rfl rfl fo_37_0 rfl lt0 ?_)
   refine VO.cons rfl (V1.loadPin rfl rfl tyk_3 rfl rfl lt0 ?_)
   refine VO.cons rfl (V1.move rfl rfl rfl lt0 ?_)
   refine VO.cons rfl (V1.int rfl rfl rfl rfl rfl lt0 ?_)
   refine VO.nil ?_
   refine V.keep 22 [0, 1, 7, 20] [] (E0 := [(0, .vl ρ0 6 (List.map encHand list)), (1, .int .i64 record), (7, .int .i64 k), (20, .bool (((list.getD (Int.toNat k) default).Record) == record))]) (H0 := []) rfl (⟨_, _, rfl, rfl, _, _, rfl, rfl, _, _, rfl, rfl, _, _, rfl, rfl, rfl⟩) (rfl) rfl ?_
   refine V.cond rfl (fun hc1 => ?_) (fun hc1 => ?_)
   ·
    replace hm1 := cond_t hc1 hm1
    refine V.seq ?_
    refine V.region ?_
    refine VO.cons rfl (V1.move rfl rfl rfl lt0 ?_)
    refine VO.cons rfl (V1.assign rfl rfl rfl lt0 ?_)
    refine VO.nil ?_
    refine V.ret ?_
    obtain rfl := hr1 _ (Option.some.inj hm1).symm
    change some _ = some _ at hm0
    obtain rfl := Option.some.inj hm0
    exact ⟨_, [], ⟨_, _, rfl, rfl, rfl⟩, List.nil_sublist _, rfl, rfl⟩
   ·
    replace hm1 := cond_f hc1 hm1
    refine V.skip ?_
    refine V.region ?_
    refine VO.cons rfl (V1.move rfl rfl rfl lt0 ?_)
    refine VO.cons rfl (V1.int rfl rfl rfl rfl rfl lt0 ?_)
    refine VO.cons rfl (V1.assign rfl rfl rfl lt0 ?_)
    refine VO.nil ?_
    exact ⟨(m0, (IntKind.i64.wrap (k - (1 : Int))), ()), hl1 _ (Option.some.inj hm1).symm, Nat.lt_succ_self _, Keeps.mk (ks := []) rfl ⟨rfl, rfl, rfl, trivial⟩ (rfl) rfl⟩
  ·
   replace hm1 := cond_f hc0 hm1
   refine V.exit ?_
   obtain rfl := hr1 _ (Option.some.inj hm1).symm
   exact ⟨((), ()), rfl, Keeps.mk (ks := []) rfl trivial (rfl) rfl⟩
 ·
  rintro ⟨_, _⟩ rfl
  try dsimp only at hm0
  refine V.seq ?_
  refine V.region ?_
  refine VO.cons rfl (V1.assign rfl rfl rfl lt0 ?_)
  refine VO.nil ?_
  refine V.ret ?_
  obtain rfl := Option.some.inj hm0
  exact ⟨_, [], ⟨_, _, rfl, rfl, rfl⟩, List.nil_sublist _, rfl, rfl⟩

theorem ok_spec_l17Good {ρ0 rn : Nat} {list : List Hand} {r : Bool} (h : M.spec_l17Good list = some r) : Does Try.prog 13 [.vl ρ0 6 (List.map encHand list)] [] rn (fun x H => x = .bool r ∧ H = []) := by
 have hm0 := h; clear h; unfold M.spec_l17Good at hm0
 try dsimp only at hm0
 refine Does.intro (N := 54) Try.func13 rfl rfl rfl rfl ?_
 intro w0 S0 L0
 refine V.seq ?_
 refine V.region ?_
 refine VO.cons rfl (V1.assign rfl rfl rfl lt0 ?_)
 refine VO.nil ?_
 refine V.seq ?_
 refine V.seq ?_
 refine V.region ?_
 refine VO.cons rfl (V1.assign rfl rfl rfl lt0 ?_)
 refine VO.nil ?_
 replace hm0 := bindO hm0; rcases hm0 with ⟨e0, he1, hm0⟩
 refine V.cutT (D := (Unit) × (Unit)) (fun ⟨_, _⟩ => ⟨54, [(0, .vl ρ0 6 (List.map encHand list))], []⟩) (fun ⟨_, _⟩ => (.inl () = e0)) ?_ ?_
 ·
  refine V.block ?_
  refine V.keep 54 [3, 0] [] (E0 := [(3, .int .i64 (0 : Int)), (0, .vl ρ0 6 (List.map encHand list))]) (H0 := []) rfl (⟨_, _, rfl, rfl, _, _, rfl, rfl, rfl⟩) (rfl) rfl ?_
  refine V.loopE (D := Nat × (Int) × (Unit)) (fun ⟨n0, i, _⟩ => [(3, .int .i64 i)]) (fun ⟨n0, i, _⟩ => []) (fun ⟨n0, i, _⟩ => loopO (M.spec_l17Good_l0 list) n0 i = some e0) (fun ⟨n0, _, _⟩ => n0) (rounds, (0 : Int), ()) rfl he1 ?_
  rintro ⟨n0, i, _⟩ hP0
  obtain ⟨m0, y0, rfl, hm1, hl1, hr1⟩ := loop_head hP0
  unfold M.spec_l17Good_l0 at hm1; dsimp only at hm1
  show V _ _ _ ⟨54, [(3, .int .i64 i), (0, .vl ρ0 6 (List.map encHand list))], []⟩
  refine V.seq ?_
  refine V.seq ?_
  refine V.region ?_
  refine VO.cons rfl (V1.move rfl rfl rfl lt0 ?_)
  refine VO.cons rfl (V1.move rfl rfl rfl lt0 ?_)
  refine VO.cons rfl (V1.lenMap rfl rfl rfl rfl rfl rfl isl_27 lt0 ?_)
  refine VO.cons rfl (V1.int rfl rfl rfl rfl rfl lt0 ?_)
  refine VO.nil ?_
  refine V.cond rfl (fun hc0 => ?_) (fun hc0 => ?_)
  ·
   replace hm1 := cond_t hc0 hm1
   refine V.skip ?_
   refine V.keep 54 [0, 3] [] (E0 := [(0, .vl ρ0 6 (List.map encHand list)), (3, .int .i64 i)]) (H0 := []) rfl (⟨_, _, rfl, rfl, _, _, rfl, rfl, rfl⟩) (rfl) rfl ?_
   refine V.seq ?_
   refine V.block ?_
   refine V.seq ?_
   replace hm1 := asrt_some hm1; rcases hm1 with ⟨hh0, hm1⟩
   refine V.region ?_
   refine VO.cons rfl (V1.move rfl rfl rfl lt0 ?_)
   refine VO.cons rfl (V1.move rfl rfl rfl lt0 ?_)
   refine VO.cons rfl (V1.indexI rfl rfl esz_27 rfl rfl hh0 lt0 ?_)
   refine VO.cons rfl (V1.loadPinAll rfl rfl tyk_37 rfl rfl lt0 ?_)
   refine VO.cons rfl (V1.alloc rfl rfl zk_37 lt0 ?_)
   intro b0
   refine VO.cons rfl (V1.storeRefAll (k := 0) rfl rfl tyk_37 rfl rfl rfl rfl rfl rfl ?_)
   refine VO.nil ?_
   refine V.keep 54 [0, 3, 4] [0] (E0 := [(0, .vl ρ0 6 (List.map encHand list)), (3, .int .i64 i), (4, .ref b0 6 0 0)]) (H0 := [(b0, ⟨6, [encHand (list.getD (Int.toNat i) default)]⟩)]) rfl (⟨_, _, rfl, rfl, _, _, rfl, rfl, _, _, rfl, rfl, rfl⟩) (⟨_, _, rfl, rfl, rfl⟩) rfl ?_
   refine V.seq ?_
   refine V.seq ?_
   replace hm1 := bindO hm1; rcases hm1 with ⟨y1, hh1, hm1⟩
   replace hm1 := asrt_some hm1; rcases hm1 with ⟨hh2, hm1⟩
   refine V.regionM 54 18 [⟨[(4, none)], [], none⟩, ⟨[(16, some 0)], [], none⟩, ⟨[(17, some 0)], [], none⟩, ⟨[(18, some 0)], [], none⟩, ⟨[(3, none)], [(0, false)], none⟩, ⟨[(20, some 0)], [(1, false)], none⟩, ⟨[(21, some 0)], [(2, false)], none⟩, ⟨[(0, none)], [(0, true), (3, false)], none⟩, ⟨[(3, none)], [(1, true), (4, false)], none⟩, ⟨[(24, some 0)], [(2, true), (5, false)], none⟩, ⟨[(23, some 2), (25, some 0)], [(3, true), (6, false)], none⟩, ⟨[(26, some 0)], [(4, true), (7, false)], none⟩, ⟨[(27, some 0)], [(5, true), (8, false)], none⟩, ⟨[(4, none)], [(6, true), (9, false)], none⟩, ⟨[(29, some 0)], [(7, true), (10, false)], none⟩, ⟨[(28, some 2), (30, some 0)], [(8, true), (11, false)], none⟩, ⟨[], [(12, false)], some (true, 22, 31, 9, 0)⟩, ⟨[], [], some (false, 19, 32, 13, 0)⟩] [(0, none), (3, none), (4, none), (33, some 0)] (⟨_, rfl, ⟨_, rfl, ⟨_, rfl, ⟨_, rfl, ⟨_, rfl, ⟨_, rfl, ⟨_, rfl, ⟨_, rfl, ⟨_, rfl, ⟨_, rfl, ⟨_, rfl, ⟨_, rfl, ⟨_, rfl, ⟨_, rfl, ⟨_, rfl, ⟨_, rfl, ⟨_, rfl, ⟨_, rfl, ⟨rfl, rfl⟩⟩⟩⟩⟩⟩⟩⟩⟩⟩⟩⟩⟩⟩⟩⟩⟩⟩⟩) mixed_orders rfl (by decide +kernel) (fun hck5 => ?_)
   refine VP.step (p := ?pv242) rfl rfl rfl (⟨_, _, rfl, rfl, rfl⟩) ?hv242 ?rest242 hck5
   case hv242 =>
    intro E1
    refine (V1.loadRefAll (k := 0) rfl rfl tyk_37 rfl rfl rfl rfl rfl lt0 ?_)
    exact rfl
   refine VP.step (p := ?pv243) rfl rfl rfl (⟨_, _, rfl, rfl, rfl⟩) ?hv243 ?rest243 hck5
   case hv243 =>
    intro E1
    refine (V1.call rfl rfl rfl cok_24 rfl (ok_spec_l17One hh1) rfl lt0 ?_)
    rintro _ _ ⟨rfl, rfl⟩
    exact rfl
   refine VP.step (p := ?pv245) rfl rfl rfl (⟨_, _, rfl, rfl, rfl⟩) ?hv245 ?rest245 hck5
   case hv245 =>
    intro E1
    refine (V1.not rfl rfl rfl lt0 ?_)
    exact rfl
   refine VP.step (p := ?pv246) rfl rfl rfl (⟨_, _, rfl, rfl, rfl⟩) ?hv246 ?rest246 hck5
   case hv246 =>
    intro E1
    refine (V1.move rfl rfl rfl lt0 ?_)
    exact rfl
   refine VP.step (p := ?pv247) rfl rfl rfl (⟨_, _, rfl, rfl, rfl⟩) ?hv247 ?rest247 hck5
   case hv247 =>
    refine ⟨_, rfl, fun hg0 => ?_⟩
    intro E1
    refine (V1.move rfl rfl rfl lt0 ?_)
    exact rfl
   refine VP.step (p := ?pv248) rfl rfl rfl (⟨_, _, rfl, rfl, rfl⟩) ?hv248 ?rest248 hck5
   case hv248 =>
    refine ⟨_, rfl, fun hg0 => ?_⟩
    intro E1
    refine (V1.int rfl rfl rfl rfl rfl lt0 ?_)
    exact rfl
   refine VP.step (p := ?pv249) rfl rfl rfl (⟨_, _, rfl, rfl, rfl⟩) ?hv249 ?rest249 hck5
   case hv249 =>
    refine ⟨_, rfl, fun hg0 => ?_⟩
    intro E1
    refine (V1.move rfl rfl rfl lt0 ?_)
    exact rfl
   refine VP.step (p := ?pv250) rfl rfl rfl (⟨_, _, rfl, rfl, rfl⟩) ?hv250 ?rest250 hck5
   case hv250 =>
    refine ⟨_, rfl, fun hg1 => ?_⟩
    refine ⟨_, rfl, fun hg0 => ?_⟩
    intro E1
    refine (V1.move rfl rfl rfl lt0 ?_)
    exact rfl
   refine VP.step (p := ?pv251) rfl rfl rfl (⟨_, _, rfl, rfl, rfl⟩) ?hv251 ?rest251 hck5
   case hv251 =>
    refine ⟨_, rfl, fun hg1 => ?_⟩
    refine ⟨_, rfl, fun hg0 => ?_⟩
    intro E1
    refine (V1.move rfl rfl rfl lt0 ?_)
    exact rfl
   refine VP.step (p := ?pv252) rfl rfl rfl (⟨_, _, rfl, rfl, rfl⟩) ?hv252 ?rest252 hck5
   case hv252 =>
    refine ⟨_, rfl, fun hg1 => ?_⟩
    refine ⟨_, rfl, fun hg0 => ?_⟩
    intro E1
    refine (V1.int rfl rfl rfl rfl rfl lt0 ?_)
    exact rfl
   refine VP.step (p := ?pv253) rfl rfl rfl (⟨_, _, rfl, rfl, _, _, rfl, rfl, rfl⟩) ?hv253 ?rest253 hck5
   case hv253 =>
    refine ⟨_, rfl, fun hg1 => ?_⟩
    refine ⟨_, rfl, fun hg0 => ?_⟩
    intro E1
    refine (V1.indexI rfl rfl esz_27 rfl rfl (hh2 hg0 hg1) lt0 ?_)
    exact rfl
   refine VP.step (p := ?pv254) rfl rfl rfl (⟨_, _, rfl, rfl, rfl⟩) ?hv254 ?rest254 hck5
   case hv254 =>
    refine ⟨_, rfl, fun hg1 => ?_⟩
    refine ⟨_, rfl, fun hg0 => ?_⟩
    intro E1
    refine (V1.fieldPin rfl rfl fo_37_3 rfl lt0 ?_)
    exact rfl
   refine VP.step (p := ?pv255) rfl rfl rfl (⟨_, _, rfl, rfl, rfl⟩) ?hv255 ?rest255 hck5
   case hv255 =>
    refine ⟨_, rfl, fun hg1 => ?_⟩
    refine ⟨_, rfl, fun hg0 => ?_⟩
    intro E1
    refine (V1.loadPin rfl rfl tyk_3 rfl rfl lt0 ?_)
    exact rfl
   refine VP.step (p := ?pv256) rfl rfl rfl (⟨_, _, rfl, rfl, rfl⟩) ?hv256 ?rest256 hck5
   case hv256 =>
    refine ⟨_, rfl, fun hg1 => ?_⟩
    refine ⟨_, rfl, fun hg0 => ?_⟩
    intro E1
    refine (V1.fieldRef rfl rfl fo_37_3 rfl lt0 ?_)
    exact rfl
   refine VP.step (p := ?pv257) rfl rfl rfl (⟨_, _, rfl, rfl, rfl⟩) ?hv257 ?rest257 hck5
   case hv257 =>
    refine ⟨_, rfl, fun hg1 => ?_⟩
    refine ⟨_, rfl, fun hg0 => ?_⟩
    intro E1
    refine (V1.loadRef (k := 0) rfl rfl tyk_3 rfl rfl rfl rfl rfl lt0 ?_)
    exact rfl
   refine VP.step (p := ?pv258) rfl rfl rfl (⟨_, _, rfl, rfl, _, _, rfl, rfl, rfl⟩) ?hv258 ?rest258 hck5
   case hv258 =>
    refine ⟨_, rfl, fun hg1 => ?_⟩
    refine ⟨_, rfl, fun hg0 => ?_⟩
    intro E1
    refine (V1.int rfl rfl rfl rfl rfl lt0 ?_)
    exact rfl
   refine VP.pickAnd rfl rfl rfl rfl rfl rfl (⟨_, rfl, fun _ => trivial⟩) ?_ hck5
   refine VP.pickOr rfl rfl rfl rfl rfl rfl (trivial) ?_ hck5
   refine VP.fin rfl (⟨_, _, rfl, rfl, _, _, rfl, rfl, _, _, rfl, rfl, _, _, rfl, rfl, rfl⟩) ?_
   refine VO.nil ?_
   refine V.cond rfl (fun hc1 => ?_) (fun hc1 => ?_)
   ·
    replace hm1 := cond_t hc1 hm1
    refine V.seq ?_
    refine V.region ?_
    refine VO.cons rfl (V1.assign rfl rfl rfl lt0 ?_)
    refine VO.nil ?_
    refine V.ret ?_
    obtain rfl := hr1 _ (Option.some.inj hm1).symm
    change some _ = some _ at hm0
    obtain rfl := Option.some.inj hm0
    exact ⟨_, [], ⟨_, _, rfl, rfl, rfl⟩, List.nil_sublist _, rfl, rfl⟩
   ·
    replace hm1 := cond_f hc1 hm1
    refine V.skip ?_
    refine V.seq ?_
    replace hm1 := bindO hm1; rcases hm1 with ⟨y2, hh3, hm1⟩
    refine V.region ?_
    refine VO.cons rfl (V1.move rfl rfl rfl lt0 ?_)
    refine VO.cons rfl (V1.fieldRef rfl rfl fo_37_0 rfl lt0 ?_)
    refine VO.cons rfl (V1.loadRef (k := 0) rfl rfl tyk_3 rfl rfl rfl rfl rfl lt0 ?_)
    refine VO.cons rfl (V1.move rfl rfl rfl lt0 ?_)
    refine VO.cons rfl (V1.call rfl rfl rfl cok_25 rfl (ok_spec_l17Before hh3) rfl lt0 ?_)
    rintro _ _ ⟨rfl, rfl⟩
    refine VO.cons rfl (V1.assign rfl rfl rfl lt0 ?_)
    refine VO.nil ?_
    refine V.keep 54 [0, 3, 4, 5] [0] (E0 := [(0, .vl ρ0 6 (List.map encHand list)), (3, .int .i64 i), (4, .ref b0 6 0 0), (5, .int .i64 y2)]) (H0 := [(b0, ⟨6, [encHand (list.getD (Int.toNat i) default)]⟩)]) rfl (⟨_, _, rfl, rfl, _, _, rfl, rfl, _, _, rfl, rfl, _, _, rfl, rfl, rfl⟩) (⟨_, _, rfl, rfl, rfl⟩) rfl ?_
    refine V.seq ?_
    replace hm1 := asrt_some hm1; rcases hm1 with ⟨hh4, hm1⟩
    refine V.regionM 54 12 [⟨[(5, none)], [], none⟩, ⟨[(39, some 0)], [], none⟩, ⟨[(40, some 0)], [], none⟩, ⟨[(0, none)], [(0, true)], none⟩, ⟨[(5, none)], [(1, true)], none⟩, ⟨[(42, some 1), (43, some 0)], [(2, true)], none⟩, ⟨[(44, some 0)], [(3, true)], none⟩, ⟨[(45, some 0)], [(4, true)], none⟩, ⟨[(4, none)], [(5, true)], none⟩, ⟨[(47, some 0)], [(6, true)], none⟩, ⟨[(46, some 2), (48, some 0)], [(7, true)], none⟩, ⟨[], [], some (true, 41, 49, 8, 0)⟩] [(0, none), (3, none), (50, some 0)] (⟨_, rfl, ⟨_, rfl, ⟨_, rfl, ⟨_, rfl, ⟨_, rfl, ⟨_, rfl, ⟨_, rfl, ⟨_, rfl, ⟨_, rfl, ⟨_, rfl, ⟨_, rfl, ⟨_, rfl, ⟨rfl, rfl⟩⟩⟩⟩⟩⟩⟩⟩⟩⟩⟩⟩⟩) mixed_orders rfl (by decide +kernel) (fun hck8 => ?_)
    refine VP.step (p := ?pv260) rfl rfl rfl (⟨_, _, rfl, rfl, rfl⟩) ?hv260 ?rest260 hck8
    case hv260 =>
     intro E1
     refine (V1.move rfl rfl rfl lt0 ?_)
     exact rfl
    refine VP.step (p := ?pv261) rfl rfl rfl (⟨_, _, rfl, rfl, rfl⟩) ?hv261 ?rest261 hck8
    case hv261 =>
     intro E1
     refine (V1.int rfl rfl rfl rfl rfl lt0 ?_)
     exact rfl
    refine VP.step (p := ?pv262) rfl rfl rfl (⟨_, _, rfl, rfl, rfl⟩) ?hv262 ?rest262 hck8
    case hv262 =>
     intro E1
     refine (V1.move rfl rfl rfl lt0 ?_)
     exact rfl
    refine VP.step (p := ?pv263) rfl rfl rfl (⟨_, _, rfl, rfl, rfl⟩) ?hv263 ?rest263 hck8
    case hv263 =>
     refine ⟨_, rfl, fun hg2 => ?_⟩
     intro E1
     refine (V1.move rfl rfl rfl lt0 ?_)
     exact rfl
    refine VP.step (p := ?pv264) rfl rfl rfl (⟨_, _, rfl, rfl, rfl⟩) ?hv264 ?rest264 hck8
    case hv264 =>
     refine ⟨_, rfl, fun hg2 => ?_⟩
     intro E1
     refine (V1.move rfl rfl rfl lt0 ?_)
     exact rfl
    refine VP.step (p := ?pv265) rfl rfl rfl (⟨_, _, rfl, rfl, _, _, rfl, rfl, rfl⟩) ?hv265 ?rest265 hck8
    case hv265 =>
     refine ⟨_, rfl, fun hg2 => ?_⟩
     intro E1
     refine (V1.indexI rfl rfl esz_27 rfl rfl (hh4 hg2) lt0 ?_)
     exact rfl
    refine VP.step (p := ?pv266) rfl rfl rfl (⟨_, _, rfl, rfl, rfl⟩) ?hv266 ?rest266 hck8
    case hv266 =>
     refine ⟨_, rfl, fun hg2 => ?_⟩
     intro E1
     refine (V1.fieldPin rfl rfl fo_37_2 rfl lt0 ?_)
     exact rfl
    refine VP.step (p := ?pv267) rfl rfl rfl (⟨_, _, rfl, rfl, rfl⟩) ?hv267 ?rest267 hck8
    case hv267 =>
     refine ⟨_, rfl, fun hg2 => ?_⟩
     intro E1
     refine (V1.loadPin rfl rfl tyk_3 rfl rfl lt0 ?_)
     exact rfl
    refine VP.step (p := ?pv268) rfl rfl rfl (⟨_, _, rfl, rfl, rfl⟩) ?hv268 ?rest268 hck8
    case hv268 =>
     refine ⟨_, rfl, fun hg2 => ?_⟩
     intro E1
     refine (V1.fieldRef rfl rfl fo_37_1 rfl lt0 ?_)
     exact rfl
    refine VP.step (p := ?pv269) rfl rfl rfl (⟨_, _, rfl, rfl, rfl⟩) ?hv269 ?rest269 hck8
    case hv269 =>
     refine ⟨_, rfl, fun hg2 => ?_⟩
     intro E1
     refine (V1.loadRef (k := 0) rfl rfl tyk_3 rfl rfl rfl rfl rfl lt0 ?_)
     exact rfl
    refine VP.step (p := ?pv270) rfl rfl rfl (⟨_, _, rfl, rfl, _, _, rfl, rfl, rfl⟩) ?hv270 ?rest270 hck8
    case hv270 =>
     refine ⟨_, rfl, fun hg2 => ?_⟩
     intro E1
     refine (V1.int rfl rfl rfl rfl rfl lt0 ?_)
     exact rfl
    refine VP.pickAnd rfl rfl rfl rfl rfl rfl (trivial) ?_ hck8
    refine VP.fin rfl (⟨_, _, rfl, rfl, _, _, rfl, rfl, _, _, rfl, rfl, rfl⟩) ?_
    refine VO.nil ?_
    refine V.cond rfl (fun hc2 => ?_) (fun hc2 => ?_)
    ·
     replace hm1 := cond_t hc2 hm1
     refine V.seq ?_
     refine V.region ?_
     refine VO.cons rfl (V1.assign rfl rfl rfl lt0 ?_)
     refine VO.nil ?_
     refine V.ret ?_
     obtain rfl := hr1 _ (Option.some.inj hm1).symm
     change some _ = some _ at hm0
     obtain rfl := Option.some.inj hm0
     exact ⟨_, [], ⟨_, _, rfl, rfl, rfl⟩, List.nil_sublist _, rfl, rfl⟩
    ·
     replace hm1 := cond_f hc2 hm1
     refine V.skip ?_
     refine V.region ?_
     refine VO.cons rfl (V1.move rfl rfl rfl lt0 ?_)
     refine VO.cons rfl (V1.int rfl rfl rfl rfl rfl lt0 ?_)
     refine VO.cons rfl (V1.assign rfl rfl rfl lt0 ?_)
     refine VO.nil ?_
     exact ⟨(m0, (IntKind.i64.wrap (i + (1 : Int))), ()), hl1 _ (Option.some.inj hm1).symm, Nat.lt_succ_self _, Keeps.mk (ks := []) rfl ⟨rfl, rfl, trivial⟩ (rfl) rfl⟩
  ·
   replace hm1 := cond_f hc0 hm1
   refine V.exit ?_
   obtain rfl := hr1 _ (Option.some.inj hm1).symm
   exact ⟨((), ()), rfl, Keeps.mk (ks := []) rfl ⟨rfl, trivial⟩ (rfl) rfl⟩
 ·
  rintro ⟨_, _⟩ rfl
  try dsimp only at hm0
  refine V.seq ?_
  refine V.region ?_
  refine VO.cons rfl (V1.move rfl rfl rfl lt0 ?_)
  refine VO.cons rfl (V1.lenMap rfl rfl rfl rfl rfl rfl isl_27 lt0 ?_)
  refine VO.cons rfl (V1.int rfl rfl rfl rfl rfl lt0 ?_)
  refine VO.cons rfl (V1.assign rfl rfl rfl lt0 ?_)
  refine VO.nil ?_
  refine V.ret ?_
  obtain rfl := Option.some.inj hm0
  exact ⟨_, [], ⟨_, _, rfl, rfl, rfl⟩, List.nil_sublist _, rfl, rfl⟩

theorem ok_spec_l17Turns {ρ0 rn : Nat} {list : List Hand} {r : List (List Int)} (h : M.spec_l17Turns list = some r) : Does Try.prog 14 [.vl ρ0 6 (List.map encHand list)] [] rn (fun x H => ∃ (ob0_ : Nat), x = PV.sref ob0_ 1 0 (List.length r) ∧ H = [(ob0_, ⟨1, List.map (encL rn 1 encInt) r⟩)]) := by
 have hm0 := h; clear h; unfold M.spec_l17Turns at hm0
 try dsimp only at hm0
 refine Does.intro (N := 43) Try.func14 rfl rfl rfl rfl ?_
 intro w0 S0 L0
 refine V.seq ?_
 refine V.region ?_
 refine VO.cons rfl (V1.assign rfl rfl rfl lt0 ?_)
 refine VO.nil ?_
 refine V.seq ?_
 refine V.region ?_
 refine VO.cons rfl (V1.buildSliceT (f := (encL rn 1 encInt)) ([] : List (List Int)) rfl rfl esz_24 zk_38 rfl rfl rfl rfl rfl rfl rfl lt0 ?_)
 intro b0
 refine VO.cons rfl (V1.assign rfl rfl rfl lt0 ?_)
 refine VO.nil ?_
 refine V.seq ?_
 refine V.seq ?_
 refine V.region ?_
 refine VO.cons rfl (V1.assign rfl rfl rfl lt0 ?_)
 refine VO.nil ?_
 replace hm0 := bindO hm0; rcases hm0 with ⟨e0, he1, hm0⟩
 refine V.cutT (D := (List (List Int)) × (Nat)) (fun ⟨out_, b1⟩ => ⟨43, [(3, .sref b1 1 0 (List.length out_))], [(b1, ⟨1, List.map (encL rn 1 encInt) out_⟩)]⟩) (fun ⟨out_, b1⟩ => (out_ = e0)) ?_ ?_
 ·
  refine V.block ?_
  refine V.keep 43 [3, 4, 0] [0] (E0 := [(3, .sref b0 1 0 (List.length ([] : List (List Int)))), (4, .int .i64 (0 : Int)), (0, .vl ρ0 6 (List.map encHand list))]) (H0 := [(b0, ⟨1, List.map (encL rn 1 encInt) ([] : List (List Int))⟩)]) rfl (⟨_, _, rfl, rfl, _, _, rfl, rfl, _, _, rfl, rfl, rfl⟩) (⟨_, _, rfl, rfl, rfl⟩) rfl ?_
  refine V.loopE (D := Nat × (List (List Int) × Int) × (Nat)) (fun ⟨n0, ⟨out_0, i⟩, b2⟩ => [(3, .sref b2 1 0 (List.length out_0)), (4, .int .i64 i)]) (fun ⟨n0, ⟨out_0, i⟩, b2⟩ => [(b2, ⟨1, List.map (encL rn 1 encInt) out_0⟩)]) (fun ⟨n0, ⟨out_0, i⟩, b2⟩ => loopO (M.spec_l17Turns_l0 list) n0 (out_0, i) = some e0) (fun ⟨n0, _, _⟩ => n0) (rounds, (([] : List (List Int)), (0 : Int)), b0) rfl he1 ?_
  rintro ⟨n0, ⟨out_0, i⟩, b2⟩ hP0
  obtain ⟨m0, y0, rfl, hm1, hl1, hr1⟩ := loop_head hP0
  unfold M.spec_l17Turns_l0 at hm1; dsimp only at hm1
  show V _ _ _ ⟨43, [(3, .sref b2 1 0 (List.length out_0)), (4, .int .i64 i), (0, .vl ρ0 6 (List.map encHand list))], [(b2, ⟨1, List.map (encL rn 1 encInt) out_0⟩)]⟩
  refine V.seq ?_
  refine V.seq ?_
  refine V.region ?_
  refine VO.cons rfl (V1.move rfl rfl rfl lt0 ?_)
  refine VO.cons rfl (V1.move rfl rfl rfl lt0 ?_)
  refine VO.cons rfl (V1.lenMap rfl rfl rfl rfl rfl rfl isl_27 lt0 ?_)
  refine VO.cons rfl (V1.int rfl rfl rfl rfl rfl lt0 ?_)
  refine VO.nil ?_
  refine V.cond rfl (fun hc0 => ?_) (fun hc0 => ?_)
  ·
   replace hm1 := cond_t hc0 hm1
   refine V.skip ?_
   refine V.keep 43 [0, 3, 4] [0] (E0 := [(0, .vl ρ0 6 (List.map encHand list)), (3, .sref b2 1 0 (List.length out_0)), (4, .int .i64 i)]) (H0 := [(b2, ⟨1, List.map (encL rn 1 encInt) out_0⟩)]) rfl (⟨_, _, rfl, rfl, _, _, rfl, rfl, _, _, rfl, rfl, rfl⟩) (⟨_, _, rfl, rfl, rfl⟩) rfl ?_
   refine V.seq ?_
   replace hm1 := bindO hm1; rcases hm1 with ⟨j0, hm2, hm1⟩
   refine V.cutT (D := (List (List Int)) × (Nat)) (fun ⟨out_1, b3⟩ => ⟨43, [(3, .sref b3 1 0 (List.length out_1)), (0, .vl ρ0 6 (List.map encHand list)), (4, .int .i64 i)], [(b3, ⟨1, List.map (encL rn 1 encInt) out_1⟩)]⟩) (fun ⟨out_1, b3⟩ => (out_1 = j0)) ?_ ?_
   ·
    refine V.block ?_
    refine V.seq ?_
    replace hm2 := asrt_some hm2; rcases hm2 with ⟨hh0, hm2⟩
    replace hm2 := bindO hm2; rcases hm2 with ⟨y1, hh1, hm2⟩
    refine V.region ?_
    refine VO.cons rfl (V1.move rfl rfl rfl lt0 ?_)
    refine VO.cons rfl (V1.move rfl rfl rfl lt0 ?_)
    refine VO.cons rfl (V1.move rfl rfl rfl lt0 ?_)
    refine VO.cons rfl (V1.indexI rfl rfl esz_27 rfl rfl hh0 lt0 ?_)
    refine VO.cons rfl (V1.fieldPin rfl rfl fo_37_0 rfl lt0 ?_)
    refine VO.cons rfl (V1.loadPin rfl rfl tyk_3 rfl rfl lt0 ?_)
    refine VO.cons rfl (V1.move rfl rfl rfl lt0 ?_)
    refine VO.cons rfl (V1.call rfl rfl rfl cok_25 rfl (ok_spec_l17Before hh1) rfl lt0 ?_)
    rintro _ _ ⟨rfl, rfl⟩
    refine VO.cons rfl (V1.assign rfl rfl rfl lt0 ?_)
    refine VO.nil ?_
    refine V.keep 43 [0, 3, 4, 5] [0] (E0 := [(0, .vl ρ0 6 (List.map encHand list)), (3, .sref b2 1 0 (List.length out_0)), (4, .int .i64 i), (5, .int .i64 y1)]) (H0 := [(b2, ⟨1, List.map (encL rn 1 encInt) out_0⟩)]) rfl (⟨_, _, rfl, rfl, _, _, rfl, rfl, _, _, rfl, rfl, _, _, rfl, rfl, rfl⟩) (⟨_, _, rfl, rfl, rfl⟩) rfl ?_
    refine V.seq ?_
    replace hm2 := asrt_some hm2; rcases hm2 with ⟨hh2, hm2⟩
    replace hm2 := asrt_some hm2; rcases hm2 with ⟨hh3, hm2⟩
    refine V.regionM 43 15 [⟨[(5, none)], [], none⟩, ⟨[(21, some 0)], [], none⟩, ⟨[(22, some 0)], [], none⟩, ⟨[(0, none)], [(0, true)], none⟩, ⟨[(5, none)], [(1, true)], none⟩, ⟨[(24, some 1), (25, some 0)], [(2, true)], none⟩, ⟨[(26, some 0)], [(3, true)], none⟩, ⟨[(27, some 0)], [(4, true)], none⟩, ⟨[(0, none)], [(5, true)], none⟩, ⟨[(4, none)], [(6, true)], none⟩, ⟨[(29, some 1), (30, some 0)], [(7, true)], none⟩, ⟨[(31, some 0)], [(8, true)], none⟩, ⟨[(32, some 0)], [(9, true)], none⟩, ⟨[(28, some 5), (33, some 0)], [(10, true)], none⟩, ⟨[], [], some (true, 23, 34, 11, 0)⟩] [(0, none), (3, none), (4, none), (5, none), (35, some 0)] (⟨_, rfl, ⟨_, rfl, ⟨_, rfl, ⟨_, rfl, ⟨_, rfl, ⟨_, rfl, ⟨_, rfl, ⟨_, rfl, ⟨_, rfl, ⟨_, rfl, ⟨_, rfl, ⟨_, rfl, ⟨_, rfl, ⟨_, rfl, ⟨_, rfl, ⟨rfl, rfl⟩⟩⟩⟩⟩⟩⟩⟩⟩⟩⟩⟩⟩⟩⟩⟩) mixed_orders rfl (by decide +kernel) (fun hck6 => ?_)
    refine VP.step (p := ?pv257) rfl rfl rfl (⟨_, _, rfl, rfl, rfl⟩) ?hv257 ?rest257 hck6
    case hv257 =>
     intro E1
     refine (V1.move rfl rfl rfl lt0 ?_)
     exact rfl
    refine VP.step (p := ?pv258) rfl rfl rfl (⟨_, _, rfl, rfl, rfl⟩) ?hv258 ?rest258 hck6
    case hv258 =>
     intro E1
     refine (V1.int rfl rfl rfl rfl rfl lt0 ?_)
     exact rfl
    refine VP.step (p := ?pv259) rfl rfl rfl (⟨_, _, rfl, rfl, rfl⟩) ?hv259 ?rest259 hck6
    case hv259 =>
     intro E1
     refine (V1.move rfl rfl rfl lt0 ?_)
     exact rfl
    refine VP.step (p := ?pv260) rfl rfl rfl (⟨_, _, rfl, rfl, rfl⟩) ?hv260 ?rest260 hck6
    case hv260 =>
     refine ⟨_, rfl, fun hg0 => ?_⟩
     intro E1
     refine (V1.move rfl rfl rfl lt0 ?_)
     exact rfl
    refine VP.step (p := ?pv261) rfl rfl rfl (⟨_, _, rfl, rfl, rfl⟩) ?hv261 ?rest261 hck6
    case hv261 =>
     refine ⟨_, rfl, fun hg0 => ?_⟩
     intro E1
     refine (V1.move rfl rfl rfl lt0 ?_)
     exact rfl
    refine VP.step (p := ?pv262) rfl rfl rfl (⟨_, _, rfl, rfl, _, _, rfl, rfl, rfl⟩) ?hv262 ?rest262 hck6
    case hv262 =>
     refine ⟨_, rfl, fun hg0 => ?_⟩
     intro E1
     refine (V1.indexI rfl rfl esz_27 rfl rfl (hh2 hg0) lt0 ?_)
     exact rfl
    refine VP.step (p := ?pv263) rfl rfl rfl (⟨_, _, rfl, rfl, rfl⟩) ?hv263 ?rest263 hck6
    case hv263 =>
     refine ⟨_, rfl, fun hg0 => ?_⟩
     intro E1
     refine (V1.fieldPin rfl rfl fo_37_4 rfl lt0 ?_)
     exact rfl
    refine VP.step (p := ?pv264) rfl rfl rfl (⟨_, _, rfl, rfl, rfl⟩) ?hv264 ?rest264 hck6
    case hv264 =>
     refine ⟨_, rfl, fun hg0 => ?_⟩
     intro E1
     refine (V1.loadPin rfl rfl tyk_3 rfl rfl lt0 ?_)
     exact rfl
    refine VP.step (p := ?pv265) rfl rfl rfl (⟨_, _, rfl, rfl, rfl⟩) ?hv265 ?rest265 hck6
    case hv265 =>
     refine ⟨_, rfl, fun hg0 => ?_⟩
     intro E1
     refine (V1.move rfl rfl rfl lt0 ?_)
     exact rfl
    refine VP.step (p := ?pv266) rfl rfl rfl (⟨_, _, rfl, rfl, rfl⟩) ?hv266 ?rest266 hck6
    case hv266 =>
     refine ⟨_, rfl, fun hg0 => ?_⟩
     intro E1
     refine (V1.move rfl rfl rfl lt0 ?_)
     exact rfl
    refine VP.step (p := ?pv267) rfl rfl rfl (⟨_, _, rfl, rfl, _, _, rfl, rfl, rfl⟩) ?hv267 ?rest267 hck6
    case hv267 =>
     refine ⟨_, rfl, fun hg0 => ?_⟩
     intro E1
     refine (V1.indexI rfl rfl esz_27 rfl rfl (hh3 hg0) lt0 ?_)
     exact rfl
    refine VP.step (p := ?pv268) rfl rfl rfl (⟨_, _, rfl, rfl, rfl⟩) ?hv268 ?rest268 hck6
    case hv268 =>
     refine ⟨_, rfl, fun hg0 => ?_⟩
     intro E1
     refine (V1.fieldPin rfl rfl fo_37_4 rfl lt0 ?_)
     exact rfl
    refine VP.step (p := ?pv269) rfl rfl rfl (⟨_, _, rfl, rfl, rfl⟩) ?hv269 ?rest269 hck6
    case hv269 =>
     refine ⟨_, rfl, fun hg0 => ?_⟩
     intro E1
     refine (V1.loadPin rfl rfl tyk_3 rfl rfl lt0 ?_)
     exact rfl
    refine VP.step (p := ?pv270) rfl rfl rfl (⟨_, _, rfl, rfl, _, _, rfl, rfl, rfl⟩) ?hv270 ?rest270 hck6
    case hv270 =>
     refine ⟨_, rfl, fun hg0 => ?_⟩
     intro E1
     refine (V1.int rfl rfl rfl rfl rfl lt0 ?_)
     exact rfl
    refine VP.pickAnd rfl rfl rfl rfl rfl rfl (trivial) ?_ hck6
    refine VP.fin rfl (⟨_, _, rfl, rfl, _, _, rfl, rfl, _, _, rfl, rfl, _, _, rfl, rfl, _, _, rfl, rfl, rfl⟩) ?_
    refine VO.nil ?_
    refine V.cond rfl (fun hc1 => ?_) (fun hc1 => ?_)
    ·
     replace hm2 := cond_t hc1 hm2
     replace hm2 := asrt_some hm2; rcases hm2 with ⟨hh4, hm2⟩
     refine V.region ?_
     refine VO.cons rfl (V1.move rfl rfl rfl lt0 ?_)
     refine VO.cons rfl (V1.move rfl rfl rfl lt0 ?_)
     refine VO.cons rfl (V1.move rfl rfl rfl lt0 ?_)
     refine VO.cons rfl (V1.buildSliceT (f := encInt) ([y1, i] : List Int) rfl rfl esz_38 zk_3 rfl rfl rfl rfl rfl rfl rfl lt0 ?_)
     intro b4
     refine VO.weakenK (Keeps.freezeG 0 rn [(39, .vl rn 1 (List.map encInt ([y1, i] : List Int)))] ([(b2, ⟨1, List.map (encL rn 1 encInt) out_0⟩)]) (f := encInt) (l := ([y1, i] : List Int)) rfl (fun _ => rfl) ⟨⟨_, rfl, .here⟩, trivial⟩ ⟨_, _, rfl, rfl, .inl rfl, rfl⟩ rfl iNil) ?_
     refine VO.cons rfl (V1.buildSliceT (f := (encL rn 1 encInt)) ([([y1, i] : List Int)] : List (List Int)) rfl rfl esz_24 zk_38 rfl rfl rfl rfl rfl rfl rfl lt0 ?_)
     intro b5
     refine VO.cons rfl (V1.appendMap (k := 1) (f := (encL rn 1 encInt)) (l := out_0) (m := ([([y1, i] : List Int)] : List (List Int))) rfl rfl rfl rfl rfl esz_24 eby_24 zk_38 rfl rfl rfl (SrcOf.srMap (k := 0) rfl isl_24) hh4 lt0 ?_)
     intro b6
     refine VO.cons rfl (V1.assign rfl rfl rfl lt0 ?_)
     refine VO.nil ?_
     exact ⟨((out_0 ++ ([([y1, i] : List Int)] : List (List Int))), b6), Option.some.inj hm2, Keeps.mk (ks := [0]) rfl ⟨rfl, rfl, rfl, trivial⟩ (⟨_, _, rfl, rfl, rfl⟩) rfl⟩
    ·
     replace hm2 := cond_f hc1 hm2
     refine V.skip ?_
     exact ⟨(out_0, b2), Option.some.inj hm2, Keeps.mk (ks := [0]) rfl ⟨rfl, rfl, rfl, trivial⟩ (⟨_, _, rfl, rfl, rfl⟩) rfl⟩
   ·
    rintro ⟨out_1, b3⟩ rfl
    try dsimp only at hm1
    refine V.region ?_
    refine VO.cons rfl (V1.move rfl rfl rfl lt0 ?_)
    refine VO.cons rfl (V1.int rfl rfl rfl rfl rfl lt0 ?_)
    refine VO.cons rfl (V1.assign rfl rfl rfl lt0 ?_)
    refine VO.nil ?_
    exact ⟨(m0, (out_1, (IntKind.i64.wrap (i + (1 : Int)))), b3), hl1 _ (Option.some.inj hm1).symm, Nat.lt_succ_self _, Keeps.mk (ks := [0]) rfl ⟨rfl, rfl, rfl, trivial⟩ (⟨_, _, rfl, rfl, rfl⟩) rfl⟩
  ·
   replace hm1 := cond_f hc0 hm1
   refine V.exit ?_
   obtain rfl := hr1 _ (Option.some.inj hm1).symm
   exact ⟨(out_0, b2), rfl, Keeps.mk (ks := [0]) rfl ⟨rfl, trivial⟩ (⟨_, _, rfl, rfl, rfl⟩) rfl⟩
 ·
  rintro ⟨out_, b1⟩ rfl
  try dsimp only at hm0
  refine V.seq ?_
  refine V.region ?_
  refine VO.cons rfl (V1.move rfl rfl rfl lt0 ?_)
  refine VO.cons rfl (V1.assign rfl rfl rfl lt0 ?_)
  refine VO.nil ?_
  refine V.keep 43 [2] [0] (E0 := [(2, .sref b1 1 0 (List.length out_))]) (H0 := [(b1, ⟨1, List.map (encL rn 1 encInt) out_⟩)]) rfl (⟨_, _, rfl, rfl, rfl⟩) (⟨_, _, rfl, rfl, rfl⟩) rfl ?_
  refine V.ret ?_
  obtain rfl := Option.some.inj hm0
  exact ⟨_, _, ⟨_, _, rfl, rfl, rfl⟩, List.Sublist.refl _, b1, rfl, rfl⟩

theorem ok_spec_BrokenSeals {ρ0 rn : Nat} {list : List Hand} {r : List (List Int) × Bool} (h : M.spec_BrokenSeals list = some r) : Does Try.prog 5 [.vl ρ0 6 (List.map encHand list)] [] rn (fun x H => ∃ (ob0_ : Nat), x = .tup [PV.sref ob0_ 1 0 (List.length r.1), .bool r.2] ∧ H = [(ob0_, ⟨1, List.map (encL rn 1 encInt) r.1⟩)]) := by
 have hm0 := h; clear h; unfold M.spec_BrokenSeals at hm0
 try dsimp only at hm0
 refine Does.intro (N := 38) Try.func5 rfl rfl rfl rfl ?_
 intro w0 S0 L0
 refine V.seq ?_
 refine V.region ?_
 refine VO.cons rfl (V1.assign rfl rfl rfl lt0 ?_)
 refine VO.cons rfl (V1.assign rfl rfl rfl lt0 ?_)
 refine VO.nil ?_
 refine V.seq ?_
 refine V.region ?_
 refine VO.cons rfl (V1.buildSliceT (f := (encL rn 1 encInt)) ([] : List (List Int)) rfl rfl esz_24 zk_38 rfl rfl rfl rfl rfl rfl rfl lt0 ?_)
 intro b0
 refine VO.cons rfl (V1.assign rfl rfl rfl lt0 ?_)
 refine VO.nil ?_
 refine V.seq ?_
 refine V.seq ?_
 replace hm0 := bindO hm0; rcases hm0 with ⟨y0, hh0, hm0⟩
 refine V.region ?_
 refine VO.cons rfl (V1.move rfl rfl rfl lt0 ?_)
 refine VO.cons rfl (V1.call rfl rfl rfl cok_13 rfl (ok_spec_l17Good hh0) rfl lt0 ?_)
 rintro _ _ ⟨rfl, rfl⟩
 refine VO.cons rfl (V1.not rfl rfl rfl lt0 ?_)
 refine VO.nil ?_
 refine V.keep 38 [0, 4, 10] [0] (E0 := [(0, .vl ρ0 6 (List.map encHand list)), (4, .sref b0 1 0 (List.length ([] : List (List Int)))), (10, .bool (!y0))]) (H0 := [(b0, ⟨1, List.map (encL rn 1 encInt) ([] : List (List Int))⟩)]) rfl (⟨_, _, rfl, rfl, _, _, rfl, rfl, _, _, rfl, rfl, rfl⟩) (⟨_, _, rfl, rfl, rfl⟩) rfl ?_
 refine V.cond rfl (fun hc0 => ?_) (fun hc0 => ?_)
 ·
  replace hm0 := cond_t hc0 hm0
  refine V.seq ?_
  refine V.region ?_
  refine VO.cons rfl (V1.move rfl rfl rfl lt0 ?_)
  refine VO.cons rfl (V1.assign rfl rfl rfl lt0 ?_)
  refine VO.cons rfl (V1.assign rfl rfl rfl lt0 ?_)
  refine VO.nil ?_
  refine V.keep 38 [2, 3] [0] (E0 := [(2, .sref b0 1 0 (List.length ([] : List (List Int)))), (3, .bool false)]) (H0 := [(b0, ⟨1, List.map (encL rn 1 encInt) ([] : List (List Int))⟩)]) rfl (⟨_, _, rfl, rfl, _, _, rfl, rfl, rfl⟩) (⟨_, _, rfl, rfl, rfl⟩) rfl ?_
  refine V.ret ?_
  obtain rfl := Option.some.inj hm0
  exact ⟨_, _, ⟨_, _, rfl, rfl, _, _, rfl, rfl, rfl⟩, List.Sublist.refl _, b0, rfl, rfl⟩
 ·
  replace hm0 := cond_f hc0 hm0
  refine V.skip ?_
  refine V.seq ?_
  replace hm0 := bindO hm0; rcases hm0 with ⟨y1, hh1, hm0⟩
  refine V.region ?_
  refine VO.cons rfl (V1.move rfl rfl rfl lt0 ?_)
  refine VO.cons rfl (V1.call rfl rfl rfl cok_14 rfl (ok_spec_l17Turns hh1) rfl lt0 ?_)
  rintro _ _ ⟨b1, rfl, rfl⟩
  refine VO.weakenK (Keeps.freezeG 0 rn [(13, .vl rn 1 (List.map (encL rn 1 encInt) y1))] ([(b0, ⟨1, List.map (encL rn 1 encInt) ([] : List (List Int))⟩)]) (f := (encL rn 1 encInt)) (l := y1) rfl (fun _ => rfl) ⟨⟨_, rfl, .here⟩, trivial⟩ ⟨_, _, rfl, rfl, .inl rfl, rfl⟩ rfl iNil) ?_
  refine VO.cons rfl (V1.assign rfl rfl rfl lt0 ?_)
  refine VO.nil ?_
  refine V.seq ?_
  refine V.seq ?_
  refine V.region ?_
  refine VO.cons rfl (V1.assign rfl rfl rfl lt0 ?_)
  refine VO.nil ?_
  replace hm0 := bindO hm0; rcases hm0 with ⟨e0, he1, hm0⟩
  refine V.cutT (D := (List (List Int)) × (Nat)) (fun ⟨out_, b2⟩ => ⟨38, [(4, .sref b2 1 0 (List.length out_))], [(b2, ⟨1, List.map (encL rn 1 encInt) out_⟩)]⟩) (fun ⟨out_, b2⟩ => (out_ = e0)) ?_ ?_
  ·
   refine V.block ?_
   refine V.keep 38 [4, 6, 0, 5] [0] (E0 := [(4, .sref b0 1 0 (List.length ([] : List (List Int)))), (6, .int .i64 (0 : Int)), (0, .vl ρ0 6 (List.map encHand list)), (5, .vl rn 1 (List.map (encL rn 1 encInt) y1))]) (H0 := [(b0, ⟨1, List.map (encL rn 1 encInt) ([] : List (List Int))⟩)]) rfl (⟨_, _, rfl, rfl, _, _, rfl, rfl, _, _, rfl, rfl, _, _, rfl, rfl, rfl⟩) (⟨_, _, rfl, rfl, rfl⟩) rfl ?_
   refine V.loopE (D := Nat × (List (List Int) × Int) × (Nat)) (fun ⟨n0, ⟨out_0, i⟩, b3⟩ => [(4, .sref b3 1 0 (List.length out_0)), (6, .int .i64 i)]) (fun ⟨n0, ⟨out_0, i⟩, b3⟩ => [(b3, ⟨1, List.map (encL rn 1 encInt) out_0⟩)]) (fun ⟨n0, ⟨out_0, i⟩, b3⟩ => loopO (M.spec_BrokenSeals_l0 list y1) n0 (out_0, i) = some e0) (fun ⟨n0, _, _⟩ => n0) (rounds, (([] : List (List Int)), (0 : Int)), b0) rfl he1 ?_
   rintro ⟨n0, ⟨out_0, i⟩, b3⟩ hP0
   obtain ⟨m0, y2, rfl, hm1, hl1, hr1⟩ := loop_head hP0
   unfold M.spec_BrokenSeals_l0 at hm1; dsimp only at hm1
   show V _ _ _ ⟨38, [(4, .sref b3 1 0 (List.length out_0)), (6, .int .i64 i), (0, .vl ρ0 6 (List.map encHand list)), (5, .vl rn 1 (List.map (encL rn 1 encInt) y1))], [(b3, ⟨1, List.map (encL rn 1 encInt) out_0⟩)]⟩
   refine V.seq ?_
   refine V.seq ?_
   refine V.region ?_
   refine VO.cons rfl (V1.move rfl rfl rfl lt0 ?_)
   refine VO.cons rfl (V1.move rfl rfl rfl lt0 ?_)
   refine VO.cons rfl (V1.lenMap rfl rfl rfl rfl rfl rfl isl_24 lt0 ?_)
   refine VO.cons rfl (V1.int rfl rfl rfl rfl rfl lt0 ?_)
   refine VO.nil ?_
   refine V.cond rfl (fun hc1 => ?_) (fun hc1 => ?_)
   ·
    replace hm1 := cond_t hc1 hm1
    refine V.skip ?_
    refine V.keep 38 [0, 4, 5, 6] [0] (E0 := [(0, .vl ρ0 6 (List.map encHand list)), (4, .sref b3 1 0 (List.length out_0)), (5, .vl rn 1 (List.map (encL rn 1 encInt) y1)), (6, .int .i64 i)]) (H0 := [(b3, ⟨1, List.map (encL rn 1 encInt) out_0⟩)]) rfl (⟨_, _, rfl, rfl, _, _, rfl, rfl, _, _, rfl, rfl, _, _, rfl, rfl, rfl⟩) (⟨_, _, rfl, rfl, rfl⟩) rfl ?_
    refine V.seq ?_
    replace hm1 := bindO hm1; rcases hm1 with ⟨j0, hm2, hm1⟩
    refine V.cutT (D := (List (List Int)) × (Nat)) (fun ⟨out_1, b4⟩ => ⟨38, [(4, .sref b4 1 0 (List.length out_1)), (0, .vl ρ0 6 (List.map encHand list)), (5, .vl rn 1 (List.map (encL rn 1 encInt) y1)), (6, .int .i64 i)], [(b4, ⟨1, List.map (encL rn 1 encInt) out_1⟩)]⟩) (fun ⟨out_1, b4⟩ => (out_1 = j0)) ?_ ?_
    ·
     refine V.block ?_
     refine V.seq ?_
     replace hm2 := asrt_some hm2; rcases hm2 with ⟨hh2, hm2⟩
     replace hm2 := asrt_some hm2; rcases hm2 with ⟨hh3, hm2⟩
     replace hm2 := asrt_some hm2; rcases hm2 with ⟨hh4, hm2⟩
     refine V.region ?_
     refine VO.cons rfl (V1.move rfl rfl rfl lt0 ?_)
     refine VO.cons rfl (V1.move rfl rfl rfl lt0 ?_)
     refine VO.cons rfl (V1.move rfl rfl rfl lt0 ?_)
     refine VO.cons rfl (V1.indexI rfl rfl esz_24 rfl rfl hh2 lt0 ?_)
     refine VO.cons rfl (V1.loadPin rfl rfl tyk_38 rfl rfl lt0 ?_)
     refine VO.cons rfl (V1.indexI rfl rfl esz_38 rfl rfl hh3 lt0 ?_)
     refine VO.cons rfl (V1.loadPin rfl rfl tyk_3 rfl rfl lt0 ?_)
     refine VO.cons rfl (V1.indexI rfl rfl esz_27 rfl rfl hh4 lt0 ?_)
     refine VO.cons rfl (V1.fieldPin rfl rfl fo_37_5 rfl lt0 ?_)
     refine VO.cons rfl (V1.loadPin rfl rfl tyk_4 rfl rfl lt0 ?_)
     refine VO.nil ?_
     refine V.keep 38 [0, 4, 5, 6, 29] [0] (E0 := [(0, .vl ρ0 6 (List.map encHand list)), (4, .sref b3 1 0 (List.length out_0)), (5, .vl rn 1 (List.map (encL rn 1 encInt) y1)), (6, .int .i64 i), (29, .bool ((list.getD (Int.toNat ((y1.getD (Int.toNat i) default).getD (Int.toNat (0 : Int)) default)) default).Seal))]) (H0 := [(b3, ⟨1, List.map (encL rn 1 encInt) out_0⟩)]) rfl (⟨_, _, rfl, rfl, _, _, rfl, rfl, _, _, rfl, rfl, _, _, rfl, rfl, _, _, rfl, rfl, rfl⟩) (⟨_, _, rfl, rfl, rfl⟩) rfl ?_
     refine V.cond rfl (fun hc2 => ?_) (fun hc2 => ?_)
     ·
      replace hm2 := cond_t hc2 hm2
      replace hm2 := asrt_some hm2; rcases hm2 with ⟨hh5, hm2⟩
      replace hm2 := asrt_some hm2; rcases hm2 with ⟨hh6, hm2⟩
      refine V.region ?_
      refine VO.cons rfl (V1.move rfl rfl rfl lt0 ?_)
      refine VO.cons rfl (V1.move rfl rfl rfl lt0 ?_)
      refine VO.cons rfl (V1.move rfl rfl rfl lt0 ?_)
      refine VO.cons rfl (V1.indexI rfl rfl esz_24 rfl rfl hh5 lt0 ?_)
      refine VO.cons rfl (V1.loadPin rfl rfl tyk_38 rfl rfl lt0 ?_)
      refine VO.cons rfl (V1.buildSliceT (f := (encL rn 1 encInt)) ([(y1.getD (Int.toNat i) default)] : List (List Int)) rfl rfl esz_24 zk_38 rfl rfl rfl rfl rfl rfl rfl lt0 ?_)
      intro b5
      refine VO.cons rfl (V1.appendMap (k := 1) (f := (encL rn 1 encInt)) (l := out_0) (m := ([(y1.getD (Int.toNat i) default)] : List (List Int))) rfl rfl rfl rfl rfl esz_24 eby_24 zk_38 rfl rfl rfl (SrcOf.srMap (k := 0) rfl isl_24) hh6 lt0 ?_)
      intro b6
      refine VO.cons rfl (V1.assign rfl rfl rfl lt0 ?_)
      refine VO.nil ?_
      exact ⟨((out_0 ++ ([(y1.getD (Int.toNat i) default)] : List (List Int))), b6), Option.some.inj hm2, Keeps.mk (ks := [0]) rfl ⟨rfl, rfl, rfl, rfl, trivial⟩ (⟨_, _, rfl, rfl, rfl⟩) rfl⟩
     ·
      replace hm2 := cond_f hc2 hm2
      refine V.skip ?_
      exact ⟨(out_0, b3), Option.some.inj hm2, Keeps.mk (ks := [0]) rfl ⟨rfl, rfl, rfl, rfl, trivial⟩ (⟨_, _, rfl, rfl, rfl⟩) rfl⟩
    ·
     rintro ⟨out_1, b4⟩ rfl
     try dsimp only at hm1
     refine V.region ?_
     refine VO.cons rfl (V1.move rfl rfl rfl lt0 ?_)
     refine VO.cons rfl (V1.int rfl rfl rfl rfl rfl lt0 ?_)
     refine VO.cons rfl (V1.assign rfl rfl rfl lt0 ?_)
     refine VO.nil ?_
     exact ⟨(m0, (out_1, (IntKind.i64.wrap (i + (1 : Int)))), b4), hl1 _ (Option.some.inj hm1).symm, Nat.lt_succ_self _, Keeps.mk (ks := [0]) rfl ⟨rfl, rfl, rfl, rfl, trivial⟩ (⟨_, _, rfl, rfl, rfl⟩) rfl⟩
   ·
    replace hm1 := cond_f hc1 hm1
    refine V.exit ?_
    obtain rfl := hr1 _ (Option.some.inj hm1).symm
    exact ⟨(out_0, b3), rfl, Keeps.mk (ks := [0]) rfl ⟨rfl, trivial⟩ (⟨_, _, rfl, rfl, rfl⟩) rfl⟩
  ·
   rintro ⟨out_, b2⟩ rfl
   try dsimp only at hm0
   refine V.seq ?_
   refine V.region ?_
   refine VO.cons rfl (V1.move rfl rfl rfl lt0 ?_)
   refine VO.cons rfl (V1.assign rfl rfl rfl lt0 ?_)
   refine VO.cons rfl (V1.assign rfl rfl rfl lt0 ?_)
   refine VO.nil ?_
   refine V.keep 38 [2, 3] [0] (E0 := [(2, .sref b2 1 0 (List.length out_)), (3, .bool true)]) (H0 := [(b2, ⟨1, List.map (encL rn 1 encInt) out_⟩)]) rfl (⟨_, _, rfl, rfl, _, _, rfl, rfl, rfl⟩) (⟨_, _, rfl, rfl, rfl⟩) rfl ?_
   refine V.ret ?_
   obtain rfl := Option.some.inj hm0
   exact ⟨_, _, ⟨_, _, rfl, rfl, _, _, rfl, rfl, rfl⟩, List.Sublist.refl _, b2, rfl, rfl⟩

theorem ok_impl_within {rn : Nat} {n : Int} {low : Int} {high : Int} {r : Bool} (h : M.impl_within n low high = some r) : Does Try.prog 36 [.int .i64 n, .int .i64 low, .int .i64 high] [] rn (fun x H => x = .bool r ∧ H = []) := by
 have hm0 := h; clear h; unfold M.impl_within at hm0
 try dsimp only at hm0
 refine Does.intro (N := 15) Try.func36 rfl rfl rfl rfl ?_
 intro w0 S0 L0
 refine V.seq ?_
 refine V.region ?_
 refine VO.cons rfl (V1.assign rfl rfl rfl lt0 ?_)
 refine VO.nil ?_
 refine V.seq ?_
 refine V.region ?_
 refine VO.cons rfl (V1.move rfl rfl rfl lt0 ?_)
 refine VO.cons rfl (V1.move rfl rfl rfl lt0 ?_)
 refine VO.cons rfl (V1.int rfl rfl rfl rfl rfl lt0 ?_)
 refine VO.cons rfl (V1.move rfl rfl rfl lt0 ?_)
 apply VO.and (n := 3) rfl rfl rfl rfl rfl rfl lt0 (.none rfl)
 ·
  intro hg0
  refine VO.step (.some rfl rfl rfl) (V1.move rfl rfl rfl lt0 ?_)
  refine VO.step (.some rfl rfl rfl) (V1.move rfl rfl rfl lt0 ?_)
  refine VO.step (.some rfl rfl rfl) (V1.int rfl rfl rfl rfl rfl lt0 ?_)
  exact VO.nil ⟨rfl, rfl, rfl, rfl, .inr ⟨rfl, .inr ⟨rfl, .inr ⟨rfl, .inr ⟨rfl, .inl rfl⟩⟩⟩⟩⟩
 refine VO.cons rfl (V1.assign rfl rfl rfl lt0 ?_)
 refine VO.nil ?_
 refine V.ret ?_
 obtain rfl := Option.some.inj hm0
 exact ⟨_, [], ⟨_, _, rfl, rfl, rfl⟩, List.nil_sublist _, rfl, rfl⟩

theorem ok_impl_isRecordId {rn : Nat} {id_ : Int} {r : Bool} (h : M.impl_isRecordId id_ = some r) : Does Try.prog 33 [.int .i64 id_] [] rn (fun x H => x = .bool r ∧ H = []) := by
 have hm0 := h; clear h; unfold M.impl_isRecordId at hm0
 try dsimp only at hm0
 refine Does.intro (N := 5) Try.func33 rfl rfl rfl rfl ?_
 intro w0 S0 L0
 refine V.seq ?_
 refine V.region ?_
 refine VO.cons rfl (V1.assign rfl rfl rfl lt0 ?_)
 refine VO.nil ?_
 refine V.seq ?_
 replace hm0 := bindO hm0; rcases hm0 with ⟨y0, hh0, hm0⟩
 refine V.region ?_
 refine VO.cons rfl (V1.move rfl rfl rfl lt0 ?_)
 refine VO.cons rfl (V1.call rfl rfl rfl cok_36 rfl (ok_impl_within hh0) rfl lt0 ?_)
 rintro _ _ ⟨rfl, rfl⟩
 refine VO.cons rfl (V1.assign rfl rfl rfl lt0 ?_)
 refine VO.nil ?_
 refine V.ret ?_
 obtain rfl := Option.some.inj hm0
 exact ⟨_, [], ⟨_, _, rfl, rfl, rfl⟩, List.nil_sublist _, rfl, rfl⟩

theorem ok_impl_isPerson {rn : Nat} {who : Int} {r : Bool} (h : M.impl_isPerson who = some r) : Does Try.prog 34 [.int .i64 who] [] rn (fun x H => x = .bool r ∧ H = []) := by
 have hm0 := h; clear h; unfold M.impl_isPerson at hm0
 try dsimp only at hm0
 refine Does.intro (N := 5) Try.func34 rfl rfl rfl rfl ?_
 intro w0 S0 L0
 refine V.seq ?_
 refine V.region ?_
 refine VO.cons rfl (V1.assign rfl rfl rfl lt0 ?_)
 refine VO.nil ?_
 refine V.seq ?_
 replace hm0 := bindO hm0; rcases hm0 with ⟨y0, hh0, hm0⟩
 refine V.region ?_
 refine VO.cons rfl (V1.move rfl rfl rfl lt0 ?_)
 refine VO.cons rfl (V1.call rfl rfl rfl cok_36 rfl (ok_impl_within hh0) rfl lt0 ?_)
 rintro _ _ ⟨rfl, rfl⟩
 refine VO.cons rfl (V1.assign rfl rfl rfl lt0 ?_)
 refine VO.nil ?_
 refine V.ret ?_
 obtain rfl := Option.some.inj hm0
 exact ⟨_, [], ⟨_, _, rfl, rfl, rfl⟩, List.nil_sublist _, rfl, rfl⟩

theorem ok_impl_isDay {rn : Nat} {day : Int} {r : Bool} (h : M.impl_isDay day = some r) : Does Try.prog 35 [.int .i64 day] [] rn (fun x H => x = .bool r ∧ H = []) := by
 have hm0 := h; clear h; unfold M.impl_isDay at hm0
 try dsimp only at hm0
 refine Does.intro (N := 5) Try.func35 rfl rfl rfl rfl ?_
 intro w0 S0 L0
 refine V.seq ?_
 refine V.region ?_
 refine VO.cons rfl (V1.assign rfl rfl rfl lt0 ?_)
 refine VO.nil ?_
 refine V.seq ?_
 replace hm0 := bindO hm0; rcases hm0 with ⟨y0, hh0, hm0⟩
 refine V.region ?_
 refine VO.cons rfl (V1.move rfl rfl rfl lt0 ?_)
 refine VO.cons rfl (V1.call rfl rfl rfl cok_36 rfl (ok_impl_within hh0) rfl lt0 ?_)
 rintro _ _ ⟨rfl, rfl⟩
 refine VO.cons rfl (V1.assign rfl rfl rfl lt0 ?_)
 refine VO.nil ?_
 refine V.ret ?_
 obtain rfl := Option.some.inj hm0
 exact ⟨_, [], ⟨_, _, rfl, rfl, rfl⟩, List.nil_sublist _, rfl, rfl⟩

theorem ok_impl_IsHand {rn : Nat} {h_ : Hand} {r : Bool} (h : M.impl_IsHand h_ = some r) : Does Try.prog 26 [encHand h_] [] rn (fun x H => x = .bool r ∧ H = []) := by
 have hm0 := h; clear h; unfold M.impl_IsHand at hm0
 try dsimp only at hm0
 refine Does.intro (N := 33) Try.func26 rfl rfl rfl rfl ?_
 intro w0 S0 L0
 refine V.seq ?_
 refine V.region ?_
 refine VO.cons rfl (V1.boxN (n := 6) rfl rfl rfl rfl rfl lt0 ?_)
 intro b0
 refine VO.cons rfl (V1.assign rfl rfl rfl lt0 ?_)
 refine VO.nil ?_
 refine V.seq ?_
 replace hm0 := bindO hm0; rcases hm0 with ⟨y0, hh0, hm0⟩
 replace hm0 := bindO hm0; rcases hm0 with ⟨y1, hh1, hm0⟩
 replace hm0 := bindO hm0; rcases hm0 with ⟨y2, hh2, hm0⟩
 replace hm0 := bindO hm0; rcases hm0 with ⟨y3, hh3, hm0⟩
 replace hm0 := bindO hm0; rcases hm0 with ⟨y4, hh4, hm0⟩
 refine V.region ?_
 refine VO.cons rfl (V1.fieldRef rfl rfl fo_37_0 rfl lt0 ?_)
 refine VO.cons rfl (V1.loadRef (k := 0) rfl rfl tyk_3 rfl rfl rfl rfl rfl lt0 ?_)
 refine VO.cons rfl (V1.call rfl rfl rfl cok_33 rfl (ok_impl_isRecordId hh0) rfl lt0 ?_)
 rintro _ _ ⟨rfl, rfl⟩
 refine VO.cons rfl (V1.move rfl rfl rfl lt0 ?_)
 apply VO.and (n := 3) rfl rfl rfl rfl rfl rfl lt0 (.none rfl)
 ·
  intro hg0
  refine VO.step (.some rfl rfl rfl) (V1.fieldRef rfl rfl fo_37_1 rfl lt0 ?_)
  refine VO.step (.some rfl rfl rfl) (V1.loadRef (k := 0) rfl rfl tyk_3 rfl rfl rfl rfl rfl lt0 ?_)
  refine VO.step (.some rfl rfl rfl) (V1.call rfl rfl rfl cok_34 rfl (ok_impl_isPerson (cond_t hg0 hh1)) rfl lt0 ?_)
  rintro _ _ ⟨rfl, rfl⟩
  exact VO.nil ⟨rfl, rfl, rfl, rfl, .inr ⟨rfl, .inr ⟨rfl, .inr ⟨rfl, .inr ⟨rfl, .inl rfl⟩⟩⟩⟩⟩
 refine VO.cons rfl (V1.move rfl rfl rfl lt0 ?_)
 apply VO.and (n := 3) rfl rfl rfl rfl rfl rfl lt0 (.none rfl)
 ·
  intro hg1
  refine VO.step (.some rfl rfl rfl) (V1.fieldRef rfl rfl fo_37_2 rfl lt0 ?_)
  refine VO.step (.some rfl rfl rfl) (V1.loadRef (k := 0) rfl rfl tyk_3 rfl rfl rfl rfl rfl lt0 ?_)
  refine VO.step (.some rfl rfl rfl) (V1.call rfl rfl rfl cok_34 rfl (ok_impl_isPerson (cond_t hg1 hh2)) rfl lt0 ?_)
  rintro _ _ ⟨rfl, rfl⟩
  exact VO.nil ⟨rfl, rfl, rfl, rfl, .inr ⟨rfl, .inr ⟨rfl, .inr ⟨rfl, .inr ⟨rfl, .inl rfl⟩⟩⟩⟩⟩
 refine VO.cons rfl (V1.move rfl rfl rfl lt0 ?_)
 apply VO.and (n := 5) rfl rfl rfl rfl rfl rfl lt0 (.none rfl)
 ·
  intro hg2
  refine VO.step (.some rfl rfl rfl) (V1.fieldRef rfl rfl fo_37_1 rfl lt0 ?_)
  refine VO.step (.some rfl rfl rfl) (V1.loadRef (k := 0) rfl rfl tyk_3 rfl rfl rfl rfl rfl lt0 ?_)
  refine VO.step (.some rfl rfl rfl) (V1.fieldRef rfl rfl fo_37_2 rfl lt0 ?_)
  refine VO.step (.some rfl rfl rfl) (V1.loadRef (k := 0) rfl rfl tyk_3 rfl rfl rfl rfl rfl lt0 ?_)
  refine VO.step (.some rfl rfl rfl) (V1.int rfl rfl rfl rfl rfl lt0 ?_)
  exact VO.nil ⟨rfl, rfl, rfl, rfl, .inr ⟨rfl, .inr ⟨rfl, .inr ⟨rfl, .inr ⟨rfl, .inr ⟨rfl, .inr ⟨rfl, .inl rfl⟩⟩⟩⟩⟩⟩⟩
 refine VO.cons rfl (V1.move rfl rfl rfl lt0 ?_)
 apply VO.and (n := 3) rfl rfl rfl rfl rfl rfl lt0 (.none rfl)
 ·
  intro hg3
  refine VO.step (.some rfl rfl rfl) (V1.fieldRef rfl rfl fo_37_3 rfl lt0 ?_)
  refine VO.step (.some rfl rfl rfl) (V1.loadRef (k := 0) rfl rfl tyk_3 rfl rfl rfl rfl rfl lt0 ?_)
  refine VO.step (.some rfl rfl rfl) (V1.call rfl rfl rfl cok_35 rfl (ok_impl_isDay (cond_t hg3 hh3)) rfl lt0 ?_)
  rintro _ _ ⟨rfl, rfl⟩
  exact VO.nil ⟨rfl, rfl, rfl, rfl, .inr ⟨rfl, .inr ⟨rfl, .inr ⟨rfl, .inr ⟨rfl, .inl rfl⟩⟩⟩⟩⟩
 refine VO.cons rfl (V1.move rfl rfl rfl lt0 ?_)
 apply VO.and (n := 3) rfl rfl rfl rfl rfl rfl lt0 (.none rfl)
 ·
  intro hg4
  refine VO.step (.some rfl rfl rfl) (V1.fieldRef rfl rfl fo_37_4 rfl lt0 ?_)
  refine VO.step (.some rfl rfl rfl) (V1.loadRef (k := 0) rfl rfl tyk_3 rfl rfl rfl rfl rfl lt0 ?_)
  refine VO.step (.some rfl rfl rfl) (V1.call rfl rfl rfl cok_36 rfl (ok_impl_within (cond_t hg4 hh4)) rfl lt0 ?_)
  rintro _ _ ⟨rfl, rfl⟩
  exact VO.nil ⟨rfl, rfl, rfl, rfl, .inr ⟨rfl, .inr ⟨rfl, .inr ⟨rfl, .inr ⟨rfl, .inl rfl⟩⟩⟩⟩⟩
 refine VO.cons rfl (V1.assign rfl rfl rfl lt0 ?_)
 refine VO.nil ?_
 refine V.ret ?_
 obtain rfl := Option.some.inj hm0
 exact ⟨_, [], ⟨_, _, rfl, rfl, rfl⟩, List.nil_sublist _, rfl, rfl⟩

theorem ok_impl_next {ρ0 rn : Nat} {list : List Hand} {record : Int} {from_ : Int} {r : Int} (h : M.impl_next list record from_ = some r) : Does Try.prog 27 [.vl ρ0 6 (List.map encHand list), .int .i64 record, .int .i64 from_] [] rn (fun x H => x = .int .i64 r ∧ H = []) := by
 have hm0 := h; clear h; unfold M.impl_next at hm0
 try dsimp only at hm0
 refine Does.intro (N := 23) Try.func27 rfl rfl rfl rfl ?_
 intro w0 S0 L0
 refine V.seq ?_
 refine V.region ?_
 refine VO.cons rfl (V1.assign rfl rfl rfl lt0 ?_)
 refine VO.nil ?_
 refine V.seq ?_
 refine V.seq ?_
 refine V.region ?_
 refine VO.cons rfl (V1.move rfl rfl rfl lt0 ?_)
 refine VO.cons rfl (V1.assign rfl rfl rfl lt0 ?_)
 refine VO.nil ?_
 replace hm0 := bindO hm0; rcases hm0 with ⟨e0, he1, hm0⟩
 refine V.cutT (D := (Unit) × (Unit)) (fun ⟨_, _⟩ => ⟨23, [], []⟩) (fun ⟨_, _⟩ => (.inl () = e0)) ?_ ?_
 ·
  refine V.block ?_
  refine V.keep 23 [7, 0, 1] [] (E0 := [(7, .int .i64 from_), (0, .vl ρ0 6 (List.map encHand list)), (1, .int .i64 record)]) (H0 := []) rfl (⟨_, _, rfl, rfl, _, _, rfl, rfl, _, _, rfl, rfl, rfl⟩) (rfl) rfl ?_
  refine V.loopE (D := Nat × (Int) × (Unit)) (fun ⟨n0, i, _⟩ => [(7, .int .i64 i)]) (fun ⟨n0, i, _⟩ => []) (fun ⟨n0, i, _⟩ => loopO (M.impl_next_l0 list record) n0 i = some e0) (fun ⟨n0, _, _⟩ => n0) (rounds, from_, ()) rfl he1 ?_
  rintro ⟨n0, i, _⟩ hP0
  obtain ⟨m0, y0, rfl, hm1, hl1, hr1⟩ := loop_head hP0
  unfold M.impl_next_l0 at hm1; dsimp only at hm1
  show V _ _ _ ⟨23, [(7, .int .i64 i), (0, .vl ρ0 6 (List.map encHand list)), (1, .int .i64 record)], []⟩
  refine V.seq ?_
  refine V.seq ?_
  refine V.region ?_
  refine VO.cons rfl (V1.move rfl rfl rfl lt0 ?_)
  refine VO.cons rfl (V1.move rfl rfl rfl lt0 ?_)
  refine VO.cons rfl (V1.lenMap rfl rfl rfl rfl rfl rfl isl_27 lt0 ?_)
  refine VO.cons rfl (V1.int rfl rfl rfl rfl rfl lt0 ?_)
  refine VO.nil ?_
  refine V.cond rfl (fun hc0 => ?_) (fun hc0 => ?_)
  ·
   replace hm1 := cond_t hc0 hm1
   refine V.skip ?_
   refine V.keep 23 [0, 1, 7] [] (E0 := [(0, .vl ρ0 6 (List.map encHand list)), (1, .int .i64 record), (7, .int .i64 i)]) (H0 := []) rfl (⟨_, _, rfl, rfl, _, _, rfl, rfl, _, _, rfl, rfl, rfl⟩) (rfl) rfl ?_
   refine V.seq ?_
   refine V.block ?_
   refine V.seq ?_
   replace hm1 := asrt_some hm1; rcases hm1 with ⟨hh0, hm1⟩
   refine V.region ?_
   refine VO.cons rfl (V1.move rfl rfl rfl lt0 ?_)
   refine VO.cons rfl (V1.move rfl rfl rfl lt0 ?_)
   refine VO.cons rfl (V1.indexI rfl rfl esz_27 rfl rfl hh0 lt0 ?_)
   refine VO.cons rfl (V1.fieldPin rfl rfl fo_37_0 rfl lt0 ?_)
   refine VO.cons rfl (V1.loadPin rfl rfl tyk_3 rfl rfl lt0 ?_)
   refine VO.cons rfl (V1.move rfl rfl rfl lt0 ?_)
   refine VO.cons rfl (V1.int rfl rfl rfl rfl rfl lt0 ?_)
   refine VO.nil ?_
   refine V.keep 23 [0, 1, 7, 21] [] (E0 := [(0, .vl ρ0 6 (List.map encHand list)), (1, .int .i64 record), (7, .int .i64 i), (21, .bool (((list.getD (Int.toNat i) default).Record) == record))]) (H0 := []) rfl (⟨_, _, rfl, rfl, _, _, rfl, rfl, _, _, rfl, rfl, _, _, rfl, rfl, rfl⟩) (rfl) rfl ?_
   refine V.cond rfl (fun hc1 => ?_) (fun hc1 => ?_)
   ·
    replace hm1 := cond_t hc1 hm1
    refine V.seq ?_
    refine V.region ?_
    refine VO.cons rfl (V1.move rfl rfl rfl lt0 ?_)
    refine VO.cons rfl (V1.assign rfl rfl rfl lt0 ?_)
    refine VO.nil ?_
    refine V.ret ?_
    obtain rfl := hr1 _ (Option.some.inj hm1).symm
    change some _ = some _ at hm0
    obtain rfl := Option.some.inj hm0
    exact ⟨_, [], ⟨_, _, rfl, rfl, rfl⟩, List.nil_sublist _, rfl, rfl⟩
   ·
    replace hm1 := cond_f hc1 hm1
    refine V.skip ?_
    refine V.region ?_
    refine VO.cons rfl (V1.move rfl rfl rfl lt0 ?_)
    refine VO.cons rfl (V1.int rfl rfl rfl rfl rfl lt0 ?_)
    refine VO.cons rfl (V1.assign rfl rfl rfl lt0 ?_)
    refine VO.nil ?_
    exact ⟨(m0, (IntKind.i64.wrap (i + (1 : Int))), ()), hl1 _ (Option.some.inj hm1).symm, Nat.lt_succ_self _, Keeps.mk (ks := []) rfl ⟨rfl, rfl, rfl, trivial⟩ (rfl) rfl⟩
  ·
   replace hm1 := cond_f hc0 hm1
   refine V.exit ?_
   obtain rfl := hr1 _ (Option.some.inj hm1).symm
   exact ⟨((), ()), rfl, Keeps.mk (ks := []) rfl trivial (rfl) rfl⟩
 ·
  rintro ⟨_, _⟩ rfl
  try dsimp only at hm0
  refine V.seq ?_
  refine V.region ?_
  refine VO.cons rfl (V1.assign rfl rfl rfl lt0 ?_)
  refine VO.nil ?_
  refine V.ret ?_
  obtain rfl := Option.some.inj hm0
  exact ⟨_, [], ⟨_, _, rfl, rfl, rfl⟩, List.nil_sublist _, rfl, rfl⟩

theorem ok_impl_IsCustody {ρ0 rn : Nat} {list : List Hand} {r : Bool} (h : M.impl_IsCustody list = some r) : Does Try.prog 16 [.vl ρ0 6 (List.map encHand list)] [] rn (fun x H => x = .bool r ∧ H = []) := by
 have hm0 := h; clear h; unfold M.impl_IsCustody at hm0
 try dsimp only at hm0
 refine Does.intro (N := 53) Try.func16 rfl rfl rfl rfl ?_
 intro w0 S0 L0
 refine V.seq ?_
 refine V.region ?_
 refine VO.cons rfl (V1.assign rfl rfl rfl lt0 ?_)
 refine VO.nil ?_
 refine V.seq ?_
 refine V.seq ?_
 refine V.region ?_
 refine VO.cons rfl (V1.move rfl rfl rfl lt0 ?_)
 refine VO.cons rfl (V1.lenMap rfl rfl rfl rfl rfl rfl isl_27 lt0 ?_)
 refine VO.cons rfl (V1.move rfl rfl rfl lt0 ?_)
 refine VO.nil ?_
 replace hm0 := bindO hm0; rcases hm0 with ⟨e0, he1, hm0⟩
 refine V.cutT (D := (Unit) × (Unit)) (fun ⟨_, _⟩ => ⟨53, [(0, .vl ρ0 6 (List.map encHand list))], []⟩) (fun ⟨_, _⟩ => (.inl () = e0)) ?_ ?_
 ·
  refine V.block ?_
  refine V.keep 53 [8, 0, 6, 7] [] (E0 := [(8, .int .i64 (0 : Int)), (0, .vl ρ0 6 (List.map encHand list)), (6, .vl ρ0 6 (List.map encHand list)), (7, .int .i64 (list.length : Int))]) (H0 := []) rfl (⟨_, _, rfl, rfl, _, _, rfl, rfl, _, _, rfl, rfl, _, _, rfl, rfl, rfl⟩) (rfl) rfl ?_
  refine V.loopE (D := Nat × (Int) × (Unit)) (fun ⟨n0, v, _⟩ => [(8, .int .i64 v)]) (fun ⟨n0, v, _⟩ => []) (fun ⟨n0, v, _⟩ => loopO (M.impl_IsCustody_l0 list) n0 v = some e0) (fun ⟨n0, _, _⟩ => n0) (rounds, (0 : Int), ()) rfl he1 ?_
  rintro ⟨n0, v, _⟩ hP0
  obtain ⟨m0, y0, rfl, hm1, hl1, hr1⟩ := loop_head hP0
  unfold M.impl_IsCustody_l0 at hm1; dsimp only at hm1
  show V _ _ _ ⟨53, [(8, .int .i64 v), (0, .vl ρ0 6 (List.map encHand list)), (6, .vl ρ0 6 (List.map encHand list)), (7, .int .i64 (list.length : Int))], []⟩
  refine V.seq ?_
  refine V.region ?_
  refine VO.cons rfl (V1.int rfl rfl rfl rfl rfl lt0 ?_)
  refine VO.nil ?_
  refine V.seq ?_
  refine V.cond rfl (fun hc0 => ?_) (fun hc0 => ?_)
  ·
   replace hm1 := cond_t hc0 hm1
   refine V.skip ?_
   refine V.seq ?_
   refine V.block ?_
   refine V.seq ?_
   replace hm1 := asrt_some hm1; rcases hm1 with ⟨hh0, hm1⟩
   refine V.region ?_
   refine VO.cons rfl (V1.move rfl rfl rfl lt0 ?_)
   refine VO.cons rfl (V1.indexI rfl rfl esz_27 rfl rfl hh0 lt0 ?_)
   refine VO.cons rfl (V1.loadPinAll rfl rfl tyk_37 rfl rfl lt0 ?_)
   refine VO.cons rfl (V1.alloc rfl rfl zk_37 lt0 ?_)
   intro b0
   refine VO.cons rfl (V1.assign rfl rfl rfl lt0 ?_)
   refine VO.cons rfl (V1.storeRefAll (k := 0) rfl rfl tyk_37 rfl rfl rfl rfl rfl rfl ?_)
   refine VO.nil ?_
   refine V.keep 53 [0, 3, 4, 6, 7, 8] [0] (E0 := [(0, .vl ρ0 6 (List.map encHand list)), (3, .int .i64 v), (4, .ref b0 6 0 0), (6, .vl ρ0 6 (List.map encHand list)), (7, .int .i64 (list.length : Int)), (8, .int .i64 v)]) (H0 := [(b0, ⟨6, [encHand (list.getD (Int.toNat v) default)]⟩)]) rfl (⟨_, _, rfl, rfl, _, _, rfl, rfl, _, _, rfl, rfl, _, _, rfl, rfl, _, _, rfl, rfl, _, _, rfl, rfl, rfl⟩) (⟨_, _, rfl, rfl, rfl⟩) rfl ?_
   refine V.seq ?_
   refine V.seq ?_
   replace hm1 := bindO hm1; rcases hm1 with ⟨y1, hh1, hm1⟩
   replace hm1 := asrt_some hm1; rcases hm1 with ⟨hh2, hm1⟩
   refine V.regionM 53 18 [⟨[(4, none)], [], none⟩, ⟨[(13, some 0)], [], none⟩, ⟨[(14, some 0)], [], none⟩, ⟨[(15, some 0)], [], none⟩, ⟨[(3, none)], [(0, false)], none⟩, ⟨[(17, some 0)], [(1, false)], none⟩, ⟨[(18, some 0)], [(2, false)], none⟩, ⟨[(0, none)], [(0, true), (3, false)], none⟩, ⟨[(3, none)], [(1, true), (4, false)], none⟩, ⟨[(21, some 0)], [(2, true), (5, false)], none⟩, ⟨[(20, some 2), (22, some 0)], [(3, true), (6, false)], none⟩, ⟨[(23, some 0)], [(4, true), (7, false)], none⟩, ⟨[(24, some 0)], [(5, true), (8, false)], none⟩, ⟨[(4, none)], [(6, true), (9, false)], none⟩, ⟨[(26, some 0)], [(7, true), (10, false)], none⟩, ⟨[(25, some 2), (27, some 0)], [(8, true), (11, false)], none⟩, ⟨[], [(12, false)], some (true, 19, 28, 9, 0)⟩, ⟨[], [], some (false, 16, 29, 13, 0)⟩] [(0, none), (3, none), (4, none), (6, none), (7, none), (8, none), (30, some 0)] (⟨_, rfl, ⟨_, rfl, ⟨_, rfl, ⟨_, rfl, ⟨_, rfl, ⟨_, rfl, ⟨_, rfl, ⟨_, rfl, ⟨_, rfl, ⟨_, rfl, ⟨_, rfl, ⟨_, rfl, ⟨_, rfl, ⟨_, rfl, ⟨_, rfl, ⟨_, rfl, ⟨_, rfl, ⟨_, rfl, ⟨rfl, rfl⟩⟩⟩⟩⟩⟩⟩⟩⟩⟩⟩⟩⟩⟩⟩⟩⟩⟩⟩) mixed_orders rfl (by decide +kernel) (fun hck4 => ?_)
   refine VP.step (p := ?pv242) rfl rfl rfl (⟨_, _, rfl, rfl, rfl⟩) ?hv242 ?rest242 hck4
   case hv242 =>
    intro E1
    refine (V1.loadRefAll (k := 0) rfl rfl tyk_37 rfl rfl rfl rfl rfl lt0 ?_)
    exact rfl
   refine VP.step (p := ?pv243) rfl rfl rfl (⟨_, _, rfl, rfl, rfl⟩) ?hv243 ?rest243 hck4
   case hv243 =>
    intro E1
    refine (V1.call rfl rfl rfl cok_26 rfl (ok_impl_IsHand hh1) rfl lt0 ?_)
    rintro _ _ ⟨rfl, rfl⟩
    exact rfl
   refine VP.step (p := ?pv245) rfl rfl rfl (⟨_, _, rfl, rfl, rfl⟩) ?hv245 ?rest245 hck4
   case hv245 =>
    intro E1
    refine (V1.not rfl rfl rfl lt0 ?_)
    exact rfl
   refine VP.step (p := ?pv246) rfl rfl rfl (⟨_, _, rfl, rfl, rfl⟩) ?hv246 ?rest246 hck4
   case hv246 =>
    intro E1
    refine (V1.move rfl rfl rfl lt0 ?_)
    exact rfl
   refine VP.step (p := ?pv247) rfl rfl rfl (⟨_, _, rfl, rfl, rfl⟩) ?hv247 ?rest247 hck4
   case hv247 =>
    refine ⟨_, rfl, fun hg0 => ?_⟩
    intro E1
    refine (V1.move rfl rfl rfl lt0 ?_)
    exact rfl
   refine VP.step (p := ?pv248) rfl rfl rfl (⟨_, _, rfl, rfl, rfl⟩) ?hv248 ?rest248 hck4
   case hv248 =>
    refine ⟨_, rfl, fun hg0 => ?_⟩
    intro E1
    refine (V1.int rfl rfl rfl rfl rfl lt0 ?_)
    exact rfl
   refine VP.step (p := ?pv249) rfl rfl rfl (⟨_, _, rfl, rfl, rfl⟩) ?hv249 ?rest249 hck4
   case hv249 =>
    refine ⟨_, rfl, fun hg0 => ?_⟩
    intro E1
    refine (V1.move rfl rfl rfl lt0 ?_)
    exact rfl
   refine VP.step (p := ?pv250) rfl rfl rfl (⟨_, _, rfl, rfl, rfl⟩) ?hv250 ?rest250 hck4
   case hv250 =>
    refine ⟨_, rfl, fun hg1 => ?_⟩
    refine ⟨_, rfl, fun hg0 => ?_⟩
    intro E1
    refine (V1.move rfl rfl rfl lt0 ?_)
    exact rfl
   refine VP.step (p := ?pv251) rfl rfl rfl (⟨_, _, rfl, rfl, rfl⟩) ?hv251 ?rest251 hck4
   case hv251 =>
    refine ⟨_, rfl, fun hg1 => ?_⟩
    refine ⟨_, rfl, fun hg0 => ?_⟩
    intro E1
    refine (V1.move rfl rfl rfl lt0 ?_)
    exact rfl
   refine VP.step (p := ?pv252) rfl rfl rfl (⟨_, _, rfl, rfl, rfl⟩) ?hv252 ?rest252 hck4
   case hv252 =>
    refine ⟨_, rfl, fun hg1 => ?_⟩
    refine ⟨_, rfl, fun hg0 => ?_⟩
    intro E1
    refine (V1.int rfl rfl rfl rfl rfl lt0 ?_)
    exact rfl
   refine VP.step (p := ?pv253) rfl rfl rfl (⟨_, _, rfl, rfl, _, _, rfl, rfl, rfl⟩) ?hv253 ?rest253 hck4
   case hv253 =>
    refine ⟨_, rfl, fun hg1 => ?_⟩
    refine ⟨_, rfl, fun hg0 => ?_⟩
    intro E1
    refine (V1.indexI rfl rfl esz_27 rfl rfl (hh2 hg0 hg1) lt0 ?_)
    exact rfl
   refine VP.step (p := ?pv254) rfl rfl rfl (⟨_, _, rfl, rfl, rfl⟩) ?hv254 ?rest254 hck4
   case hv254 =>
    refine ⟨_, rfl, fun hg1 => ?_⟩
    refine ⟨_, rfl, fun hg0 => ?_⟩
    intro E1
    refine (V1.fieldPin rfl rfl fo_37_3 rfl lt0 ?_)
    exact rfl
   refine VP.step (p := ?pv255) rfl rfl rfl (⟨_, _, rfl, rfl, rfl⟩) ?hv255 ?rest255 hck4
   case hv255 =>
    refine ⟨_, rfl, fun hg1 => ?_⟩
    refine ⟨_, rfl, fun hg0 => ?_⟩
    intro E1
    refine (V1.loadPin rfl rfl tyk_3 rfl rfl lt0 ?_)
    exact rfl
   refine VP.step (p := ?pv256) rfl rfl rfl (⟨_, _, rfl, rfl, rfl⟩) ?hv256 ?rest256 hck4
   case hv256 =>
    refine ⟨_, rfl, fun hg1 => ?_⟩
    refine ⟨_, rfl, fun hg0 => ?_⟩
    intro E1
    refine (V1.fieldRef rfl rfl fo_37_3 rfl lt0 ?_)
    exact rfl
   refine VP.step (p := ?pv257) rfl rfl rfl (⟨_, _, rfl, rfl, rfl⟩) ?hv257 ?rest257 hck4
   case hv257 =>
    refine ⟨_, rfl, fun hg1 => ?_⟩
    refine ⟨_, rfl, fun hg0 => ?_⟩
    intro E1
    refine (V1.loadRef (k := 0) rfl rfl tyk_3 rfl rfl rfl rfl rfl lt0 ?_)
    exact rfl
   refine VP.step (p := ?pv258) rfl rfl rfl (⟨_, _, rfl, rfl, _, _, rfl, rfl, rfl⟩) ?hv258 ?rest258 hck4
   case hv258 =>
    refine ⟨_, rfl, fun hg1 => ?_⟩
    refine ⟨_, rfl, fun hg0 => ?_⟩
    intro E1
    refine (V1.int rfl rfl rfl rfl rfl lt0 ?_)
    exact rfl
   refine VP.pickAnd rfl rfl rfl rfl rfl rfl (⟨_, rfl, fun _ => trivial⟩) ?_ hck4
   refine VP.pickOr rfl rfl rfl rfl rfl rfl (trivial) ?_ hck4
   refine VP.fin rfl (⟨_, _, rfl, rfl, _, _, rfl, rfl, _, _, rfl, rfl, _, _, rfl, rfl, _, _, rfl, rfl, _, _, rfl, rfl, _, _, rfl, rfl, rfl⟩) ?_
   refine VO.nil ?_
   refine V.cond rfl (fun hc1 => ?_) (fun hc1 => ?_)
   ·
    replace hm1 := cond_t hc1 hm1
    refine V.seq ?_
    refine V.region ?_
    refine VO.cons rfl (V1.assign rfl rfl rfl lt0 ?_)
    refine VO.nil ?_
    refine V.ret ?_
    obtain rfl := hr1 _ (Option.some.inj hm1).symm
    change some _ = some _ at hm0
    obtain rfl := Option.some.inj hm0
    exact ⟨_, [], ⟨_, _, rfl, rfl, rfl⟩, List.nil_sublist _, rfl, rfl⟩
   ·
    replace hm1 := cond_f hc1 hm1
    refine V.skip ?_
    refine V.seq ?_
    replace hm1 := bindO hm1; rcases hm1 with ⟨y2, hh3, hm1⟩
    refine V.region ?_
    refine VO.cons rfl (V1.move rfl rfl rfl lt0 ?_)
    refine VO.cons rfl (V1.fieldRef rfl rfl fo_37_0 rfl lt0 ?_)
    refine VO.cons rfl (V1.loadRef (k := 0) rfl rfl tyk_3 rfl rfl rfl rfl rfl lt0 ?_)
    refine VO.cons rfl (V1.move rfl rfl rfl lt0 ?_)
    refine VO.cons rfl (V1.int rfl rfl rfl rfl rfl lt0 ?_)
    refine VO.cons rfl (V1.call rfl rfl rfl cok_27 rfl (ok_impl_next hh3) rfl lt0 ?_)
    rintro _ _ ⟨rfl, rfl⟩
    refine VO.cons rfl (V1.assign rfl rfl rfl lt0 ?_)
    refine VO.nil ?_
    refine V.keep 53 [0, 4, 5, 6, 7, 8] [0] (E0 := [(0, .vl ρ0 6 (List.map encHand list)), (4, .ref b0 6 0 0), (5, .int .i64 y2), (6, .vl ρ0 6 (List.map encHand list)), (7, .int .i64 (list.length : Int)), (8, .int .i64 v)]) (H0 := [(b0, ⟨6, [encHand (list.getD (Int.toNat v) default)]⟩)]) rfl (⟨_, _, rfl, rfl, _, _, rfl, rfl, _, _, rfl, rfl, _, _, rfl, rfl, _, _, rfl, rfl, _, _, rfl, rfl, rfl⟩) (⟨_, _, rfl, rfl, rfl⟩) rfl ?_
    refine V.seq ?_
    replace hm1 := asrt_some hm1; rcases hm1 with ⟨hh4, hm1⟩
    refine V.regionM 53 12 [⟨[(5, none)], [], none⟩, ⟨[(37, some 0)], [], none⟩, ⟨[(38, some 0)], [], none⟩, ⟨[(0, none)], [(0, true)], none⟩, ⟨[(5, none)], [(1, true)], none⟩, ⟨[(40, some 1), (41, some 0)], [(2, true)], none⟩, ⟨[(42, some 0)], [(3, true)], none⟩, ⟨[(43, some 0)], [(4, true)], none⟩, ⟨[(4, none)], [(5, true)], none⟩, ⟨[(45, some 0)], [(6, true)], none⟩, ⟨[(44, some 2), (46, some 0)], [(7, true)], none⟩, ⟨[], [], some (true, 39, 47, 8, 0)⟩] [(0, none), (6, none), (7, none), (8, none), (48, some 0)] (⟨_, rfl, ⟨_, rfl, ⟨_, rfl, ⟨_, rfl, ⟨_, rfl, ⟨_, rfl, ⟨_, rfl, ⟨_, rfl, ⟨_, rfl, ⟨_, rfl, ⟨_, rfl, ⟨_, rfl, ⟨rfl, rfl⟩⟩⟩⟩⟩⟩⟩⟩⟩⟩⟩⟩⟩) mixed_orders rfl (by decide +kernel) (fun hck7 => ?_)
    refine VP.step (p := ?pv260) rfl rfl rfl (⟨_, _, rfl, rfl, rfl⟩) ?hv260 ?rest260 hck7
    case hv260 =>
     intro E1
     refine (V1.move rfl rfl rfl lt0 ?_)
     exact rfl
    refine VP.step (p := ?pv261) rfl rfl rfl (⟨_, _, rfl, rfl, rfl⟩) ?hv261 ?rest261 hck7
    case hv261 =>
     intro E1
     refine (V1.int rfl rfl rfl rfl rfl lt0 ?_)
     exact rfl
    refine VP.step (p := ?pv262) rfl rfl rfl (⟨_, _, rfl, rfl, rfl⟩) ?hv262 ?rest262 hck7
    case hv262 =>
     intro E1
     refine (V1.move rfl rfl rfl lt0 ?_)
     exact rfl
    refine VP.step (p := ?pv263) rfl rfl rfl (⟨_, _, rfl, rfl, rfl⟩) ?hv263 ?rest263 hck7
    case hv263 =>
     refine ⟨_, rfl, fun hg2 => ?_⟩
     intro E1
     refine (V1.move rfl rfl rfl lt0 ?_)
     exact rfl
    refine VP.step (p := ?pv264) rfl rfl rfl (⟨_, _, rfl, rfl, rfl⟩) ?hv264 ?rest264 hck7
    case hv264 =>
     refine ⟨_, rfl, fun hg2 => ?_⟩
     intro E1
     refine (V1.move rfl rfl rfl lt0 ?_)
     exact rfl
    refine VP.step (p := ?pv265) rfl rfl rfl (⟨_, _, rfl, rfl, _, _, rfl, rfl, rfl⟩) ?hv265 ?rest265 hck7
    case hv265 =>
     refine ⟨_, rfl, fun hg2 => ?_⟩
     intro E1
     refine (V1.indexI rfl rfl esz_27 rfl rfl (hh4 hg2) lt0 ?_)
     exact rfl
    refine VP.step (p := ?pv266) rfl rfl rfl (⟨_, _, rfl, rfl, rfl⟩) ?hv266 ?rest266 hck7
    case hv266 =>
     refine ⟨_, rfl, fun hg2 => ?_⟩
     intro E1
     refine (V1.fieldPin rfl rfl fo_37_1 rfl lt0 ?_)
     exact rfl
    refine VP.step (p := ?pv267) rfl rfl rfl (⟨_, _, rfl, rfl, rfl⟩) ?hv267 ?rest267 hck7
    case hv267 =>
     refine ⟨_, rfl, fun hg2 => ?_⟩
     intro E1
     refine (V1.loadPin rfl rfl tyk_3 rfl rfl lt0 ?_)
     exact rfl
    refine VP.step (p := ?pv268) rfl rfl rfl (⟨_, _, rfl, rfl, rfl⟩) ?hv268 ?rest268 hck7
    case hv268 =>
     refine ⟨_, rfl, fun hg2 => ?_⟩
     intro E1
     refine (V1.fieldRef rfl rfl fo_37_2 rfl lt0 ?_)
     exact rfl
    refine VP.step (p := ?pv269) rfl rfl rfl (⟨_, _, rfl, rfl, rfl⟩) ?hv269 ?rest269 hck7
    case hv269 =>
     refine ⟨_, rfl, fun hg2 => ?_⟩
     intro E1
     refine (V1.loadRef (k := 0) rfl rfl tyk_3 rfl rfl rfl rfl rfl lt0 ?_)
     exact rfl
    refine VP.step (p := ?pv270) rfl rfl rfl (⟨_, _, rfl, rfl, _, _, rfl, rfl, rfl⟩) ?hv270 ?rest270 hck7
    case hv270 =>
     refine ⟨_, rfl, fun hg2 => ?_⟩
     intro E1
     refine (V1.int rfl rfl rfl rfl rfl lt0 ?_)
     exact rfl
    refine VP.pickAnd rfl rfl rfl rfl rfl rfl (trivial) ?_ hck7
    refine VP.fin rfl (⟨_, _, rfl, rfl, _, _, rfl, rfl, _, _, rfl, rfl, _, _, rfl, rfl, _, _, rfl, rfl, rfl⟩) ?_
    refine VO.nil ?_
    refine V.cond rfl (fun hc2 => ?_) (fun hc2 => ?_)
    ·
     replace hm1 := cond_t hc2 hm1
     refine V.seq ?_
     refine V.region ?_
     refine VO.cons rfl (V1.assign rfl rfl rfl lt0 ?_)
     refine VO.nil ?_
     refine V.ret ?_
     obtain rfl := hr1 _ (Option.some.inj hm1).symm
     change some _ = some _ at hm0
     obtain rfl := Option.some.inj hm0
     exact ⟨_, [], ⟨_, _, rfl, rfl, rfl⟩, List.nil_sublist _, rfl, rfl⟩
    ·
     replace hm1 := cond_f hc2 hm1
     refine V.skip ?_
     refine V.region ?_
     refine VO.cons rfl (V1.int rfl rfl rfl rfl rfl lt0 ?_)
     refine VO.cons rfl (V1.move rfl rfl rfl lt0 ?_)
     refine VO.nil ?_
     exact ⟨(m0, (IntKind.i64.wrap (v + (1 : Int))), ()), hl1 _ (Option.some.inj hm1).symm, Nat.lt_succ_self _, Keeps.mk (ks := []) rfl ⟨rfl, rfl, rfl, rfl, trivial⟩ (rfl) rfl⟩
  ·
   replace hm1 := cond_f hc0 hm1
   refine V.exit ?_
   obtain rfl := hr1 _ (Option.some.inj hm1).symm
   exact ⟨((), ()), rfl, Keeps.mk (ks := []) rfl ⟨rfl, trivial⟩ (rfl) rfl⟩
 ·
  rintro ⟨_, _⟩ rfl
  try dsimp only at hm0
  refine V.seq ?_
  refine V.region ?_
  refine VO.cons rfl (V1.move rfl rfl rfl lt0 ?_)
  refine VO.cons rfl (V1.lenMap rfl rfl rfl rfl rfl rfl isl_27 lt0 ?_)
  refine VO.cons rfl (V1.int rfl rfl rfl rfl rfl lt0 ?_)
  refine VO.cons rfl (V1.assign rfl rfl rfl lt0 ?_)
  refine VO.nil ?_
  refine V.ret ?_
  obtain rfl := Option.some.inj hm0
  exact ⟨_, [], ⟨_, _, rfl, rfl, rfl⟩, List.nil_sublist _, rfl, rfl⟩

theorem ok_impl_differences {ρ0 rn : Nat} {list : List Hand} {r : List (List Int)} (h : M.impl_differences list = some r) : Does Try.prog 18 [.vl ρ0 6 (List.map encHand list)] [] rn (fun x H => ∃ (ob0_ : Option Nat), (ob0_ = none → r = []) ∧ x = optS 1 ob0_ (List.length r) ∧ H = optH 1 ob0_ (List.map (encL rn 1 encInt) r)) := by
 have hm0 := h; clear h; unfold M.impl_differences at hm0
 try dsimp only at hm0
 refine Does.intro (N := 44) Try.func18 rfl rfl rfl rfl ?_
 intro w0 S0 L0
 refine V.seq ?_
 refine V.region ?_
 refine VO.cons rfl (V1.assign rfl rfl rfl lt0 ?_)
 refine VO.nil ?_
 refine V.seq ?_
 refine V.region ?_
 refine VO.cons rfl (V1.assign rfl rfl rfl lt0 ?_)
 refine VO.nil ?_
 refine V.seq ?_
 refine V.seq ?_
 refine V.region ?_
 refine VO.cons rfl (V1.move rfl rfl rfl lt0 ?_)
 refine VO.cons rfl (V1.lenMap rfl rfl rfl rfl rfl rfl isl_27 lt0 ?_)
 refine VO.cons rfl (V1.move rfl rfl rfl lt0 ?_)
 refine VO.nil ?_
 replace hm0 := bindO hm0; rcases hm0 with ⟨e0, he1, hm0⟩
 refine V.cutT (D := (List (List Int)) × (Option Nat)) (fun ⟨pairs, ob0⟩ => ⟨44, [(3, optS 1 ob0 (List.length pairs))], optH 1 ob0 (List.map (encL rn 1 encInt) pairs)⟩) (fun ⟨pairs, ob0⟩ => (pairs = e0) ∧ (ob0 = none → pairs = [])) ?_ ?_
 ·
  refine V.block ?_
  refine V.keep 44 [3, 9, 0, 7, 8] [] (E0 := [(3, .nils), (9, .int .i64 (0 : Int)), (0, .vl ρ0 6 (List.map encHand list)), (7, .vl ρ0 6 (List.map encHand list)), (8, .int .i64 (list.length : Int))]) (H0 := []) rfl (⟨_, _, rfl, rfl, _, _, rfl, rfl, _, _, rfl, rfl, _, _, rfl, rfl, _, _, rfl, rfl, rfl⟩) (rfl) rfl ?_
  refine V.loopE (D := Nat × (List (List Int) × Int) × (Option Nat)) (fun ⟨n0, ⟨pairs0, v⟩, ob1⟩ => [(3, optS 1 ob1 (List.length pairs0)), (9, .int .i64 v)]) (fun ⟨n0, ⟨pairs0, v⟩, ob1⟩ => optH 1 ob1 (List.map (encL rn 1 encInt) pairs0)) (fun ⟨n0, ⟨pairs0, v⟩, ob1⟩ => loopO (M.impl_differences_l0 list) n0 (pairs0, v) = some e0 ∧ (ob1 = none → pairs0 = [])) (fun ⟨n0, _, _⟩ => n0) (rounds, (([] : List (List Int)), (0 : Int)), none) rfl ⟨he1, (fun _ => rfl)⟩ ?_
  rintro ⟨n0, ⟨pairs0, v⟩, ob1⟩ ⟨hP0, hob1⟩
  obtain ⟨m0, y0, rfl, hm1, hl1, hr1⟩ := loop_head hP0
  unfold M.impl_differences_l0 at hm1; dsimp only at hm1
  rcases ob1 with _ | ob1
  ·
   replace hob1 := hob1 rfl
   show V _ _ _ ⟨44, [(3, .nils), (9, .int .i64 v), (0, .vl ρ0 6 (List.map encHand list)), (7, .vl ρ0 6 (List.map encHand list)), (8, .int .i64 (list.length : Int))], []⟩
   refine V.seq ?_
   refine V.region ?_
   refine VO.cons rfl (V1.int rfl rfl rfl rfl rfl lt0 ?_)
   refine VO.nil ?_
   refine V.seq ?_
   refine V.cond rfl (fun hc0 => ?_) (fun hc0 => ?_)
   ·
    replace hm1 := cond_t hc0 hm1
    refine V.skip ?_
    refine V.seq ?_
    replace hm1 := bindO hm1; rcases hm1 with ⟨j0, hm2, hm1⟩
    refine V.cutT (D := (List (List Int)) × (Option Nat)) (fun ⟨pairs1, ob2⟩ => ⟨44, [(3, optS 1 ob2 (List.length pairs1)), (0, .vl ρ0 6 (List.map encHand list)), (7, .vl ρ0 6 (List.map encHand list)), (8, .int .i64 (list.length : Int)), (9, .int .i64 v)], optH 1 ob2 (List.map (encL rn 1 encInt) pairs1)⟩) (fun ⟨pairs1, ob2⟩ => (pairs1 = j0) ∧ (ob2 = none → pairs1 = [])) ?_ ?_
    ·
     refine V.block ?_
     refine V.seq ?_
     replace hm2 := asrt_some hm2; rcases hm2 with ⟨hh0, hm2⟩
     refine V.region ?_
     refine VO.cons rfl (V1.move rfl rfl rfl lt0 ?_)
     refine VO.cons rfl (V1.indexI rfl rfl esz_27 rfl rfl hh0 lt0 ?_)
     refine VO.cons rfl (V1.loadPinAll rfl rfl tyk_37 rfl rfl lt0 ?_)
     refine VO.cons rfl (V1.alloc rfl rfl zk_37 lt0 ?_)
     intro b0
     refine VO.cons rfl (V1.assign rfl rfl rfl lt0 ?_)
     refine VO.cons rfl (V1.storeRefAll (k := 0) rfl rfl tyk_37 rfl rfl rfl rfl rfl rfl ?_)
     refine VO.nil ?_
     refine V.keep 44 [0, 3, 4, 5, 7, 8, 9] [0] (E0 := [(0, .vl ρ0 6 (List.map encHand list)), (3, .nils), (4, .int .i64 v), (5, .ref b0 6 0 0), (7, .vl ρ0 6 (List.map encHand list)), (8, .int .i64 (list.length : Int)), (9, .int .i64 v)]) (H0 := [(b0, ⟨6, [encHand (list.getD (Int.toNat v) default)]⟩)]) rfl (⟨_, _, rfl, rfl, _, _, rfl, rfl, _, _, rfl, rfl, _, _, rfl, rfl, _, _, rfl, rfl, _, _, rfl, rfl, _, _, rfl, rfl, rfl⟩) (⟨_, _, rfl, rfl, rfl⟩) rfl ?_
     refine V.seq ?_
     refine V.region ?_
     refine VO.cons rfl (V1.move rfl rfl rfl lt0 ?_)
     refine VO.cons rfl (V1.int rfl rfl rfl rfl rfl lt0 ?_)
     refine VO.cons rfl (V1.assign rfl rfl rfl lt0 ?_)
     refine VO.nil ?_
     replace hm2 := bindO hm2; rcases hm2 with ⟨e1, he3, hm2⟩
     refine V.cutT (D := (List (List Int)) × (Option Nat)) (fun ⟨pairs2, ob3⟩ => ⟨44, [(3, optS 1 ob3 (List.length pairs2)), (0, .vl ρ0 6 (List.map encHand list)), (7, .vl ρ0 6 (List.map encHand list)), (8, .int .i64 (list.length : Int)), (9, .int .i64 v)], optH 1 ob3 (List.map (encL rn 1 encInt) pairs2)⟩) (fun ⟨pairs2, ob3⟩ => (pairs2 = e1) ∧ (ob3 = none → pairs2 = [])) ?_ ?_
     ·
      refine V.block ?_
      refine V.keep 44 [6, 0, 3, 4, 5, 7, 8, 9] [0] (E0 := [(6, .int .i64 (IntKind.i64.wrap (v - (1 : Int)))), (0, .vl ρ0 6 (List.map encHand list)), (3, .nils), (4, .int .i64 v), (5, .ref b0 6 0 0), (7, .vl ρ0 6 (List.map encHand list)), (8, .int .i64 (list.length : Int)), (9, .int .i64 v)]) (H0 := [(b0, ⟨6, [encHand (list.getD (Int.toNat v) default)]⟩)]) rfl (⟨_, _, rfl, rfl, _, _, rfl, rfl, _, _, rfl, rfl, _, _, rfl, rfl, _, _, rfl, rfl, _, _, rfl, rfl, _, _, rfl, rfl, _, _, rfl, rfl, rfl⟩) (⟨_, _, rfl, rfl, rfl⟩) rfl ?_
      refine V.loopE (D := Nat × (Int) × (Unit)) (fun ⟨n1, i, _⟩ => [(6, .int .i64 i)]) (fun ⟨n1, i, _⟩ => []) (fun ⟨n1, i, _⟩ => loopO (M.impl_differences_l1 list pairs0 v) n1 i = some e1) (fun ⟨n1, _, _⟩ => n1) (rounds, (IntKind.i64.wrap (v - (1 : Int))), ()) rfl he3 ?_
      rintro ⟨n1, i, _⟩ hP1
      obtain ⟨m1, y1, rfl, hm3, hl3, hr3⟩ := loop_head hP1
      unfold M.impl_differences_l1 at hm3; dsimp only at hm3
      show V _ _ _ ⟨44, [(6, .int .i64 i), (0, .vl ρ0 6 (List.map encHand list)), (3, .nils), (4, .int .i64 v), (5, .ref b0 6 0 0), (7, .vl ρ0 6 (List.map encHand list)), (8, .int .i64 (list.length : Int)), (9, .int .i64 v)], [(b0, ⟨6, [encHand (list.getD (Int.toNat v) default)]⟩)]⟩
      refine V.seq ?_
      refine V.seq ?_
      refine V.region ?_
      refine VO.cons rfl (V1.move rfl rfl rfl lt0 ?_)
      refine VO.cons rfl (V1.int rfl rfl rfl rfl rfl lt0 ?_)
      refine VO.nil ?_
      refine V.cond rfl (fun hc1 => ?_) (fun hc1 => ?_)
      ·
       replace hm3 := cond_t hc1 hm3
       refine V.skip ?_
       refine V.seq ?_
       refine V.block ?_
       refine V.seq ?_
       replace hm3 := asrt_some hm3; rcases hm3 with ⟨hh1, hm3⟩
       refine V.regionM 44 7 [⟨[(0, none)], [], none⟩, ⟨[(6, none)], [], none⟩, ⟨[(20, some 1), (21, some 0)], [], none⟩, ⟨[(22, some 0)], [], none⟩, ⟨[(23, some 0)], [], none⟩, ⟨[(5, none)], [], none⟩, ⟨[(25, some 0)], [], none⟩] [(0, none), (3, none), (4, none), (5, none), (6, none), (7, none), (8, none), (9, none), (24, some 2), (26, some 0)] (⟨_, rfl, ⟨_, rfl, ⟨_, rfl, ⟨_, rfl, ⟨_, rfl, ⟨_, rfl, ⟨_, rfl, ⟨rfl, rfl⟩⟩⟩⟩⟩⟩⟩⟩) mixed_orders rfl (by decide +kernel) (fun hck8 => ?_)
       refine VP.step (p := ?pv1667) rfl rfl rfl (⟨_, _, rfl, rfl, rfl⟩) ?hv1667 ?rest1667 hck8
       case hv1667 =>
        intro E1
        refine (V1.move rfl rfl rfl lt0 ?_)
        exact rfl
       refine VP.step (p := ?pv1668) rfl rfl rfl (⟨_, _, rfl, rfl, rfl⟩) ?hv1668 ?rest1668 hck8
       case hv1668 =>
        intro E1
        refine (V1.move rfl rfl rfl lt0 ?_)
        exact rfl
       refine VP.step (p := ?pv1669) rfl rfl rfl (⟨_, _, rfl, rfl, _, _, rfl, rfl, rfl⟩) ?hv1669 ?rest1669 hck8
       case hv1669 =>
        intro E1
        refine (V1.indexI rfl rfl esz_27 rfl rfl hh1 lt0 ?_)
        exact rfl
       refine VP.step (p := ?pv1670) rfl rfl rfl (⟨_, _, rfl, rfl, rfl⟩) ?hv1670 ?rest1670 hck8
       case hv1670 =>
        intro E1
        refine (V1.fieldPin rfl rfl fo_37_0 rfl lt0 ?_)
        exact rfl
       refine VP.step (p := ?pv1671) rfl rfl rfl (⟨_, _, rfl, rfl, rfl⟩) ?hv1671 ?rest1671 hck8
       case hv1671 =>
        intro E1
        refine (V1.loadPin rfl rfl tyk_3 rfl rfl lt0 ?_)
        exact rfl
       refine VP.step (p := ?pv1672) rfl rfl rfl (⟨_, _, rfl, rfl, rfl⟩) ?hv1672 ?rest1672 hck8
       case hv1672 =>
        intro E1
        refine (V1.fieldRef rfl rfl fo_37_0 rfl lt0 ?_)
        exact rfl
       refine VP.step (p := ?pv1673) rfl rfl rfl (⟨_, _, rfl, rfl, rfl⟩) ?hv1673 ?rest1673 hck8
       case hv1673 =>
        intro E1
        refine (V1.loadRef (k := 0) rfl rfl tyk_3 rfl rfl rfl rfl rfl lt0 ?_)
        exact rfl
       refine VP.fin rfl (⟨_, _, rfl, rfl, _, _, rfl, rfl, _, _, rfl, rfl, _, _, rfl, rfl, _, _, rfl, rfl, _, _, rfl, rfl, _, _, rfl, rfl, _, _, rfl, rfl, _, _, rfl, rfl, _, _, rfl, rfl, rfl⟩) ?_
       refine VO.cons rfl (V1.int rfl rfl rfl rfl rfl lt0 ?_)
       refine VO.nil ?_
       refine V.cond rfl (fun hc2 => ?_) (fun hc2 => ?_)
       ·
        replace hm3 := cond_t hc2 hm3
        refine V.seq ?_
        refine V.seq ?_
        replace hm3 := asrt_some hm3; rcases hm3 with ⟨hh2, hm3⟩
        refine V.regionM 44 7 [⟨[(0, none)], [], none⟩, ⟨[(6, none)], [], none⟩, ⟨[(28, some 1), (29, some 0)], [], none⟩, ⟨[(30, some 0)], [], none⟩, ⟨[(31, some 0)], [], none⟩, ⟨[(5, none)], [], none⟩, ⟨[(33, some 0)], [], none⟩] [(0, none), (3, none), (4, none), (6, none), (7, none), (8, none), (9, none), (32, some 2), (34, some 0)] (⟨_, rfl, ⟨_, rfl, ⟨_, rfl, ⟨_, rfl, ⟨_, rfl, ⟨_, rfl, ⟨_, rfl, ⟨rfl, rfl⟩⟩⟩⟩⟩⟩⟩⟩) mixed_orders rfl (by decide +kernel) (fun hck9 => ?_)
        refine VP.step (p := ?pv1674) rfl rfl rfl (⟨_, _, rfl, rfl, rfl⟩) ?hv1674 ?rest1674 hck9
        case hv1674 =>
         intro E1
         refine (V1.move rfl rfl rfl lt0 ?_)
         exact rfl
        refine VP.step (p := ?pv1675) rfl rfl rfl (⟨_, _, rfl, rfl, rfl⟩) ?hv1675 ?rest1675 hck9
        case hv1675 =>
         intro E1
         refine (V1.move rfl rfl rfl lt0 ?_)
         exact rfl
        refine VP.step (p := ?pv1676) rfl rfl rfl (⟨_, _, rfl, rfl, _, _, rfl, rfl, rfl⟩) ?hv1676 ?rest1676 hck9
        case hv1676 =>
         intro E1
         refine (V1.indexI rfl rfl esz_27 rfl rfl hh2 lt0 ?_)
         exact rfl
        refine VP.step (p := ?pv1677) rfl rfl rfl (⟨_, _, rfl, rfl, rfl⟩) ?hv1677 ?rest1677 hck9
        case hv1677 =>
         intro E1
         refine (V1.fieldPin rfl rfl fo_37_4 rfl lt0 ?_)
         exact rfl
        refine VP.step (p := ?pv1678) rfl rfl rfl (⟨_, _, rfl, rfl, rfl⟩) ?hv1678 ?rest1678 hck9
        case hv1678 =>
         intro E1
         refine (V1.loadPin rfl rfl tyk_3 rfl rfl lt0 ?_)
         exact rfl
        refine VP.step (p := ?pv1679) rfl rfl rfl (⟨_, _, rfl, rfl, rfl⟩) ?hv1679 ?rest1679 hck9
        case hv1679 =>
         intro E1
         refine (V1.fieldRef rfl rfl fo_37_4 rfl lt0 ?_)
         exact rfl
        refine VP.step (p := ?pv1680) rfl rfl rfl (⟨_, _, rfl, rfl, rfl⟩) ?hv1680 ?rest1680 hck9
        case hv1680 =>
         intro E1
         refine (V1.loadRef (k := 0) rfl rfl tyk_3 rfl rfl rfl rfl rfl lt0 ?_)
         exact rfl
        refine VP.fin rfl (⟨_, _, rfl, rfl, _, _, rfl, rfl, _, _, rfl, rfl, _, _, rfl, rfl, _, _, rfl, rfl, _, _, rfl, rfl, _, _, rfl, rfl, _, _, rfl, rfl, _, _, rfl, rfl, rfl⟩) ?_
        refine VO.cons rfl (V1.int rfl rfl rfl rfl rfl lt0 ?_)
        refine VO.nil ?_
        refine V.cond rfl (fun hc3 => ?_) (fun hc3 => ?_)
        ·
         replace hm3 := cond_t hc3 hm3
         replace hm3 := asrt_some hm3; rcases hm3 with ⟨hh3, hm3⟩
         refine V.region ?_
         refine VO.cons rfl (V1.move rfl rfl rfl lt0 ?_)
         refine VO.cons rfl (V1.move rfl rfl rfl lt0 ?_)
         refine VO.cons rfl (V1.move rfl rfl rfl lt0 ?_)
         refine VO.cons rfl (V1.buildSliceT (f := encInt) ([i, v] : List Int) rfl rfl esz_38 zk_3 rfl rfl rfl rfl rfl rfl rfl lt0 ?_)
         intro b1
         refine VO.weakenK (Keeps.freezeG 0 rn [(39, .vl rn 1 (List.map encInt ([i, v] : List Int)))] ([(b0, ⟨6, [encHand (list.getD (Int.toNat v) default)]⟩)]) (f := encInt) (l := ([i, v] : List Int)) rfl (fun _ => rfl) ⟨⟨_, rfl, .here⟩, trivial⟩ ⟨_, _, rfl, rfl, .inl rfl, rfl⟩ rfl iNil) ?_
         refine VO.cons rfl (V1.buildSliceT (f := (encL rn 1 encInt)) ([([i, v] : List Int)] : List (List Int)) rfl rfl esz_24 zk_38 rfl rfl rfl rfl rfl rfl rfl lt0 ?_)
         intro b2
         refine VO.cons rfl (V1.appendNilE (f := (encL rn 1 encInt)) (l := pairs0) (m := ([([i, v] : List Int)] : List (List Int))) hob1 rfl rfl rfl rfl rfl esz_24 eby_24 zk_38 rfl rfl rfl (SrcOf.srMap (k := 0) rfl isl_24) rfl hh3 lt0 ?_)
         intro b3
         refine VO.cons rfl (V1.assign rfl rfl rfl lt0 ?_)
         refine VO.nil ?_
         refine V.keep 44 [0, 3, 7, 8, 9] [0] (E0 := [(0, .vl ρ0 6 (List.map encHand list)), (3, .sref b3 1 0 (List.length (pairs0 ++ ([([i, v] : List Int)] : List (List Int))))), (7, .vl ρ0 6 (List.map encHand list)), (8, .int .i64 (list.length : Int)), (9, .int .i64 v)]) (H0 := [(b3, ⟨1, List.map (encL rn 1 encInt) (pairs0 ++ ([([i, v] : List Int)] : List (List Int)))⟩)]) rfl (⟨_, _, rfl, rfl, _, _, rfl, rfl, _, _, rfl, rfl, _, _, rfl, rfl, _, _, rfl, rfl, rfl⟩) (⟨_, _, rfl, rfl, rfl⟩) rfl ?_
         refine V.exit ?_
         obtain rfl := hr3 _ (Option.some.inj hm3).symm
         exact ⟨((pairs0 ++ ([([i, v] : List Int)] : List (List Int))), (some b3)), ⟨rfl, (fun e => by cases e)⟩, Keeps.mk (ks := [0]) rfl ⟨rfl, rfl, rfl, rfl, rfl, trivial⟩ (⟨_, _, rfl, rfl, rfl⟩) rfl⟩
        ·
         replace hm3 := cond_f hc3 hm3
         refine V.skip ?_
         refine V.keep 44 [0, 3, 7, 8, 9] [] (E0 := [(0, .vl ρ0 6 (List.map encHand list)), (3, .nils), (7, .vl ρ0 6 (List.map encHand list)), (8, .int .i64 (list.length : Int)), (9, .int .i64 v)]) (H0 := []) rfl (⟨_, _, rfl, rfl, _, _, rfl, rfl, _, _, rfl, rfl, _, _, rfl, rfl, _, _, rfl, rfl, rfl⟩) (rfl) rfl ?_
         refine V.exit ?_
         obtain rfl := hr3 _ (Option.some.inj hm3).symm
         exact ⟨(pairs0, none), ⟨rfl, (fun _ => hob1)⟩, Keeps.mk (ks := []) rfl ⟨rfl, rfl, rfl, rfl, rfl, trivial⟩ (rfl) rfl⟩
       ·
        replace hm3 := cond_f hc2 hm3
        refine V.skip ?_
        refine V.region ?_
        refine VO.cons rfl (V1.move rfl rfl rfl lt0 ?_)
        refine VO.cons rfl (V1.int rfl rfl rfl rfl rfl lt0 ?_)
        refine VO.cons rfl (V1.assign rfl rfl rfl lt0 ?_)
        refine VO.nil ?_
        exact ⟨(m1, (IntKind.i64.wrap (i - (1 : Int))), ()), hl3 _ (Option.some.inj hm3).symm, Nat.lt_succ_self _, Keeps.mk (ks := [0]) rfl ⟨rfl, rfl, rfl, rfl, rfl, rfl, rfl, rfl, trivial⟩ (⟨_, _, rfl, rfl, rfl⟩) rfl⟩
      ·
       replace hm3 := cond_f hc1 hm3
       refine V.exit ?_
       obtain rfl := hr3 _ (Option.some.inj hm3).symm
       exact ⟨(pairs0, none), ⟨rfl, (fun _ => hob1)⟩, Keeps.mk (ks := []) rfl ⟨rfl, rfl, rfl, rfl, rfl, trivial⟩ (rfl) rfl⟩
     ·
      rintro ⟨pairs2, ob3⟩ ⟨rfl, hob3⟩
      try dsimp only at hm2
      rcases ob3 with _ | ob3
      ·
       replace hob3 := hob3 rfl
       exact ⟨(pairs2, none), ⟨Option.some.inj hm2, (fun _ => hob3)⟩, Keeps.mk (ks := []) rfl ⟨rfl, rfl, rfl, rfl, rfl, trivial⟩ (rfl) rfl⟩
      ·
       exact ⟨(pairs2, (some ob3)), ⟨Option.some.inj hm2, (fun e => by cases e)⟩, Keeps.mk (ks := [0]) rfl ⟨rfl, rfl, rfl, rfl, rfl, trivial⟩ (⟨_, _, rfl, rfl, rfl⟩) rfl⟩
    ·
     rintro ⟨pairs1, ob2⟩ ⟨rfl, hob2⟩
     try dsimp only at hm1
     rcases ob2 with _ | ob2
     ·
      replace hob2 := hob2 rfl
      refine V.region ?_
      refine VO.cons rfl (V1.int rfl rfl rfl rfl rfl lt0 ?_)
      refine VO.cons rfl (V1.move rfl rfl rfl lt0 ?_)
      refine VO.nil ?_
      exact ⟨(m0, (pairs1, (IntKind.i64.wrap (v + (1 : Int)))), none), ⟨hl1 _ (Option.some.inj hm1).symm, (fun _ => hob2)⟩, Nat.lt_succ_self _, Keeps.mk (ks := []) rfl ⟨rfl, rfl, rfl, rfl, rfl, trivial⟩ (rfl) rfl⟩
     ·
      refine V.region ?_
      refine VO.cons rfl (V1.int rfl rfl rfl rfl rfl lt0 ?_)
      refine VO.cons rfl (V1.move rfl rfl rfl lt0 ?_)
      refine VO.nil ?_
      exact ⟨(m0, (pairs1, (IntKind.i64.wrap (v + (1 : Int)))), (some ob2)), ⟨hl1 _ (Option.some.inj hm1).symm, (fun e => by cases e)⟩, Nat.lt_succ_self _, Keeps.mk (ks := [0]) rfl ⟨rfl, rfl, rfl, rfl, rfl, trivial⟩ (⟨_, _, rfl, rfl, rfl⟩) rfl⟩
   ·
    replace hm1 := cond_f hc0 hm1
    refine V.exit ?_
    obtain rfl := hr1 _ (Option.some.inj hm1).symm
    exact ⟨(pairs0, none), ⟨rfl, (fun _ => hob1)⟩, Keeps.mk (ks := []) rfl ⟨rfl, trivial⟩ (rfl) rfl⟩
  ·
   show V _ _ _ ⟨44, [(3, .sref ob1 1 0 (List.length pairs0)), (9, .int .i64 v), (0, .vl ρ0 6 (List.map encHand list)), (7, .vl ρ0 6 (List.map encHand list)), (8, .int .i64 (list.length : Int))], [(ob1, ⟨1, List.map (encL rn 1 encInt) pairs0⟩)]⟩
   refine V.seq ?_
   refine V.region ?_
   refine VO.cons rfl (V1.int rfl rfl rfl rfl rfl lt0 ?_)
   refine VO.nil ?_
   refine V.seq ?_
   refine V.cond rfl (fun hc0 => ?_) (fun hc0 => ?_)
   ·
    replace hm1 := cond_t hc0 hm1
    refine V.skip ?_
    refine V.seq ?_
    replace hm1 := bindO hm1; rcases hm1 with ⟨j0, hm2, hm1⟩
    refine V.cutT (D := (List (List Int)) × (Nat)) (fun ⟨pairs1, b0⟩ => ⟨44, [(3, .sref b0 1 0 (List.length pairs1)), (0, .vl ρ0 6 (List.map encHand list)), (7, .vl ρ0 6 (List.map encHand list)), (8, .int .i64 (list.length : Int)), (9, .int .i64 v)], [(b0, ⟨1, List.map (encL rn 1 encInt) pairs1⟩)]⟩) (fun ⟨pairs1, b0⟩ => (pairs1 = j0)) ?_ ?_
    ·
     refine V.block ?_
     refine V.seq ?_
     replace hm2 := asrt_some hm2; rcases hm2 with ⟨hh0, hm2⟩
     refine V.region ?_
     refine VO.cons rfl (V1.move rfl rfl rfl lt0 ?_)
     refine VO.cons rfl (V1.indexI rfl rfl esz_27 rfl rfl hh0 lt0 ?_)
     refine VO.cons rfl (V1.loadPinAll rfl rfl tyk_37 rfl rfl lt0 ?_)
     refine VO.cons rfl (V1.alloc rfl rfl zk_37 lt0 ?_)
     intro b1
     refine VO.cons rfl (V1.assign rfl rfl rfl lt0 ?_)
     refine VO.cons rfl (V1.storeRefAll (k := 0) rfl rfl tyk_37 rfl rfl rfl rfl rfl rfl ?_)
     refine VO.nil ?_
     refine V.keep 44 [0, 3, 4, 5, 7, 8, 9] [0, 1] (E0 := [(0, .vl ρ0 6 (List.map encHand list)), (3, .sref ob1 1 0 (List.length pairs0)), (4, .int .i64 v), (5, .ref b1 6 0 0), (7, .vl ρ0 6 (List.map encHand list)), (8, .int .i64 (list.length : Int)), (9, .int .i64 v)]) (H0 := [(b1, ⟨6, [encHand (list.getD (Int.toNat v) default)]⟩), (ob1, ⟨1, List.map (encL rn 1 encInt) pairs0⟩)]) rfl (⟨_, _, rfl, rfl, _, _, rfl, rfl, _, _, rfl, rfl, _, _, rfl, rfl, _, _, rfl, rfl, _, _, rfl, rfl, _, _, rfl, rfl, rfl⟩) (⟨_, _, rfl, rfl, _, _, rfl, rfl, rfl⟩) rfl ?_
     refine V.seq ?_
     refine V.region ?_
     refine VO.cons rfl (V1.move rfl rfl rfl lt0 ?_)
     refine VO.cons rfl (V1.int rfl rfl rfl rfl rfl lt0 ?_)
     refine VO.cons rfl (V1.assign rfl rfl rfl lt0 ?_)
     refine VO.nil ?_
     replace hm2 := bindO hm2; rcases hm2 with ⟨e1, he3, hm2⟩
     refine V.cutT (D := (List (List Int)) × (Nat)) (fun ⟨pairs2, b2⟩ => ⟨44, [(3, .sref b2 1 0 (List.length pairs2)), (0, .vl ρ0 6 (List.map encHand list)), (7, .vl ρ0 6 (List.map encHand list)), (8, .int .i64 (list.length : Int)), (9, .int .i64 v)], [(b2, ⟨1, List.map (encL rn 1 encInt) pairs2⟩)]⟩) (fun ⟨pairs2, b2⟩ => (pairs2 = e1)) ?_ ?_
     ·
      refine V.block ?_
      refine V.keep 44 [6, 0, 3, 4, 5, 7, 8, 9] [0, 1] (E0 := [(6, .int .i64 (IntKind.i64.wrap (v - (1 : Int)))), (0, .vl ρ0 6 (List.map encHand list)), (3, .sref ob1 1 0 (List.length pairs0)), (4, .int .i64 v), (5, .ref b1 6 0 0), (7, .vl ρ0 6 (List.map encHand list)), (8, .int .i64 (list.length : Int)), (9, .int .i64 v)]) (H0 := [(b1, ⟨6, [encHand (list.getD (Int.toNat v) default)]⟩), (ob1, ⟨1, List.map (encL rn 1 encInt) pairs0⟩)]) rfl (⟨_, _, rfl, rfl, _, _, rfl, rfl, _, _, rfl, rfl, _, _, rfl, rfl, _, _, rfl, rfl, _, _, rfl, rfl, _, _, rfl, rfl, _, _, rfl, rfl, rfl⟩) (⟨_, _, rfl, rfl, _, _, rfl, rfl, rfl⟩) rfl ?_
      refine V.loopE (D := Nat × (Int) × (Unit)) (fun ⟨n1, i, _⟩ => [(6, .int .i64 i)]) (fun ⟨n1, i, _⟩ => []) (fun ⟨n1, i, _⟩ => loopO (M.impl_differences_l1 list pairs0 v) n1 i = some e1) (fun ⟨n1, _, _⟩ => n1) (rounds, (IntKind.i64.wrap (v - (1 : Int))), ()) rfl he3 ?_
      rintro ⟨n1, i, _⟩ hP1
      obtain ⟨m1, y1, rfl, hm3, hl3, hr3⟩ := loop_head hP1
      unfold M.impl_differences_l1 at hm3; dsimp only at hm3
      show V _ _ _ ⟨44, [(6, .int .i64 i), (0, .vl ρ0 6 (List.map encHand list)), (3, .sref ob1 1 0 (List.length pairs0)), (4, .int .i64 v), (5, .ref b1 6 0 0), (7, .vl ρ0 6 (List.map encHand list)), (8, .int .i64 (list.length : Int)), (9, .int .i64 v)], [(b1, ⟨6, [encHand (list.getD (Int.toNat v) default)]⟩), (ob1, ⟨1, List.map (encL rn 1 encInt) pairs0⟩)]⟩
      refine V.seq ?_
      refine V.seq ?_
      refine V.region ?_
      refine VO.cons rfl (V1.move rfl rfl rfl lt0 ?_)
      refine VO.cons rfl (V1.int rfl rfl rfl rfl rfl lt0 ?_)
      refine VO.nil ?_
      refine V.cond rfl (fun hc1 => ?_) (fun hc1 => ?_)
      ·
       replace hm3 := cond_t hc1 hm3
       refine V.skip ?_
       refine V.seq ?_
       refine V.block ?_
       refine V.seq ?_
       replace hm3 := asrt_some hm3; rcases hm3 with ⟨hh1, hm3⟩
       refine V.regionM 44 7 [⟨[(0, none)], [], none⟩, ⟨[(6, none)], [], none⟩, ⟨[(20, some 1), (21, some 0)], [], none⟩, ⟨[(22, some 0)], [], none⟩, ⟨[(23, some 0)], [], none⟩, ⟨[(5, none)], [], none⟩, ⟨[(25, some 0)], [], none⟩] [(0, none), (3, none), (4, none), (5, none), (6, none), (7, none), (8, none), (9, none), (24, some 2), (26, some 0)] (⟨_, rfl, ⟨_, rfl, ⟨_, rfl, ⟨_, rfl, ⟨_, rfl, ⟨_, rfl, ⟨_, rfl, ⟨rfl, rfl⟩⟩⟩⟩⟩⟩⟩⟩) mixed_orders rfl (by decide +kernel) (fun hck8 => ?_)
       refine VP.step (p := ?pv1751) rfl rfl rfl (⟨_, _, rfl, rfl, rfl⟩) ?hv1751 ?rest1751 hck8
       case hv1751 =>
        intro E1
        refine (V1.move rfl rfl rfl lt0 ?_)
        exact rfl
       refine VP.step (p := ?pv1752) rfl rfl rfl (⟨_, _, rfl, rfl, rfl⟩) ?hv1752 ?rest1752 hck8
       case hv1752 =>
        intro E1
        refine (V1.move rfl rfl rfl lt0 ?_)
        exact rfl
       refine VP.step (p := ?pv1753) rfl rfl rfl (⟨_, _, rfl, rfl, _, _, rfl, rfl, rfl⟩) ?hv1753 ?rest1753 hck8
       case hv1753 =>
        intro E1
        refine (V1.indexI rfl rfl esz_27 rfl rfl hh1 lt0 ?_)
        exact rfl
       refine VP.step (p := ?pv1754) rfl rfl rfl (⟨_, _, rfl, rfl, rfl⟩) ?hv1754 ?rest1754 hck8
       case hv1754 =>
        intro E1
        refine (V1.fieldPin rfl rfl fo_37_0 rfl lt0 ?_)
        exact rfl
       refine VP.step (p := ?pv1755) rfl rfl rfl (⟨_, _, rfl, rfl, rfl⟩) ?hv1755 ?rest1755 hck8
       case hv1755 =>
        intro E1
        refine (V1.loadPin rfl rfl tyk_3 rfl rfl lt0 ?_)
        exact rfl
       refine VP.step (p := ?pv1756) rfl rfl rfl (⟨_, _, rfl, rfl, rfl⟩) ?hv1756 ?rest1756 hck8
       case hv1756 =>
        intro E1
        refine (V1.fieldRef rfl rfl fo_37_0 rfl lt0 ?_)
        exact rfl
       refine VP.step (p := ?pv1757) rfl rfl rfl (⟨_, _, rfl, rfl, rfl⟩) ?hv1757 ?rest1757 hck8
       case hv1757 =>
        intro E1
        refine (V1.loadRef (k := 0) rfl rfl tyk_3 rfl rfl rfl rfl rfl lt0 ?_)
        exact rfl
       refine VP.fin rfl (⟨_, _, rfl, rfl, _, _, rfl, rfl, _, _, rfl, rfl, _, _, rfl, rfl, _, _, rfl, rfl, _, _, rfl, rfl, _, _, rfl, rfl, _, _, rfl, rfl, _, _, rfl, rfl, _, _, rfl, rfl, rfl⟩) ?_
       refine VO.cons rfl (V1.int rfl rfl rfl rfl rfl lt0 ?_)
       refine VO.nil ?_
       refine V.cond rfl (fun hc2 => ?_) (fun hc2 => ?_)
       ·
        replace hm3 := cond_t hc2 hm3
        refine V.seq ?_
        refine V.seq ?_
        replace hm3 := asrt_some hm3; rcases hm3 with ⟨hh2, hm3⟩
        refine V.regionM 44 7 [⟨[(0, none)], [], none⟩, ⟨[(6, none)], [], none⟩, ⟨[(28, some 1), (29, some 0)], [], none⟩, ⟨[(30, some 0)], [], none⟩, ⟨[(31, some 0)], [], none⟩, ⟨[(5, none)], [], none⟩, ⟨[(33, some 0)], [], none⟩] [(0, none), (3, none), (4, none), (6, none), (7, none), (8, none), (9, none), (32, some 2), (34, some 0)] (⟨_, rfl, ⟨_, rfl, ⟨_, rfl, ⟨_, rfl, ⟨_, rfl, ⟨_, rfl, ⟨_, rfl, ⟨rfl, rfl⟩⟩⟩⟩⟩⟩⟩⟩) mixed_orders rfl (by decide +kernel) (fun hck9 => ?_)
        refine VP.step (p := ?pv1758) rfl rfl rfl (⟨_, _, rfl, rfl, rfl⟩) ?hv1758 ?rest1758 hck9
        case hv1758 =>
         intro E1
         refine (V1.move rfl rfl rfl lt0 ?_)
         exact rfl
        refine VP.step (p := ?pv1759) rfl rfl rfl (⟨_, _, rfl, rfl, rfl⟩) ?hv1759 ?rest1759 hck9
        case hv1759 =>
         intro E1
         refine (V1.move rfl rfl rfl lt0 ?_)
         exact rfl
        refine VP.step (p := ?pv1760) rfl rfl rfl (⟨_, _, rfl, rfl, _, _, rfl, rfl, rfl⟩) ?hv1760 ?rest1760 hck9
        case hv1760 =>
         intro E1
         refine (V1.indexI rfl rfl esz_27 rfl rfl hh2 lt0 ?_)
         exact rfl
        refine VP.step (p := ?pv1761) rfl rfl rfl (⟨_, _, rfl, rfl, rfl⟩) ?hv1761 ?rest1761 hck9
        case hv1761 =>
         intro E1
         refine (V1.fieldPin rfl rfl fo_37_4 rfl lt0 ?_)
         exact rfl
        refine VP.step (p := ?pv1762) rfl rfl rfl (⟨_, _, rfl, rfl, rfl⟩) ?hv1762 ?rest1762 hck9
        case hv1762 =>
         intro E1
         refine (V1.loadPin rfl rfl tyk_3 rfl rfl lt0 ?_)
         exact rfl
        refine VP.step (p := ?pv1763) rfl rfl rfl (⟨_, _, rfl, rfl, rfl⟩) ?hv1763 ?rest1763 hck9
        case hv1763 =>
         intro E1
         refine (V1.fieldRef rfl rfl fo_37_4 rfl lt0 ?_)
         exact rfl
        refine VP.step (p := ?pv1764) rfl rfl rfl (⟨_, _, rfl, rfl, rfl⟩) ?hv1764 ?rest1764 hck9
        case hv1764 =>
         intro E1
         refine (V1.loadRef (k := 0) rfl rfl tyk_3 rfl rfl rfl rfl rfl lt0 ?_)
         exact rfl
        refine VP.fin rfl (⟨_, _, rfl, rfl, _, _, rfl, rfl, _, _, rfl, rfl, _, _, rfl, rfl, _, _, rfl, rfl, _, _, rfl, rfl, _, _, rfl, rfl, _, _, rfl, rfl, _, _, rfl, rfl, rfl⟩) ?_
        refine VO.cons rfl (V1.int rfl rfl rfl rfl rfl lt0 ?_)
        refine VO.nil ?_
        refine V.cond rfl (fun hc3 => ?_) (fun hc3 => ?_)
        ·
         replace hm3 := cond_t hc3 hm3
         replace hm3 := asrt_some hm3; rcases hm3 with ⟨hh3, hm3⟩
         refine V.region ?_
         refine VO.cons rfl (V1.move rfl rfl rfl lt0 ?_)
         refine VO.cons rfl (V1.move rfl rfl rfl lt0 ?_)
         refine VO.cons rfl (V1.move rfl rfl rfl lt0 ?_)
         refine VO.cons rfl (V1.buildSliceT (f := encInt) ([i, v] : List Int) rfl rfl esz_38 zk_3 rfl rfl rfl rfl rfl rfl rfl lt0 ?_)
         intro b3
         refine VO.weakenK (Keeps.freezeG 0 rn [(39, .vl rn 1 (List.map encInt ([i, v] : List Int)))] ([(b1, ⟨6, [encHand (list.getD (Int.toNat v) default)]⟩), (ob1, ⟨1, List.map (encL rn 1 encInt) pairs0⟩)]) (f := encInt) (l := ([i, v] : List Int)) rfl (fun _ => rfl) ⟨⟨_, rfl, .here⟩, trivial⟩ ⟨_, _, rfl, rfl, .inl rfl, ⟨_, _, rfl, rfl, .inl rfl, rfl⟩⟩ rfl iNil) ?_
         refine VO.cons rfl (V1.buildSliceT (f := (encL rn 1 encInt)) ([([i, v] : List Int)] : List (List Int)) rfl rfl esz_24 zk_38 rfl rfl rfl rfl rfl rfl rfl lt0 ?_)
         intro b4
         refine VO.cons rfl (V1.appendMap (k := 2) (f := (encL rn 1 encInt)) (l := pairs0) (m := ([([i, v] : List Int)] : List (List Int))) rfl rfl rfl rfl rfl esz_24 eby_24 zk_38 rfl rfl rfl (SrcOf.srMap (k := 0) rfl isl_24) hh3 lt0 ?_)
         intro b5
         refine VO.cons rfl (V1.assign rfl rfl rfl lt0 ?_)
         refine VO.nil ?_
         refine V.keep 44 [0, 3, 7, 8, 9] [0] (E0 := [(0, .vl ρ0 6 (List.map encHand list)), (3, .sref b5 1 0 (List.length (pairs0 ++ ([([i, v] : List Int)] : List (List Int))))), (7, .vl ρ0 6 (List.map encHand list)), (8, .int .i64 (list.length : Int)), (9, .int .i64 v)]) (H0 := [(b5, ⟨1, List.map (encL rn 1 encInt) (pairs0 ++ ([([i, v] : List Int)] : List (List Int)))⟩)]) rfl (⟨_, _, rfl, rfl, _, _, rfl, rfl, _, _, rfl, rfl, _, _, rfl, rfl, _, _, rfl, rfl, rfl⟩) (⟨_, _, rfl, rfl, rfl⟩) rfl ?_
         refine V.exit ?_
         obtain rfl := hr3 _ (Option.some.inj hm3).symm
         exact ⟨((pairs0 ++ ([([i, v] : List Int)] : List (List Int))), b5), rfl, Keeps.mk (ks := [0]) rfl ⟨rfl, rfl, rfl, rfl, rfl, trivial⟩ (⟨_, _, rfl, rfl, rfl⟩) rfl⟩
        ·
         replace hm3 := cond_f hc3 hm3
         refine V.skip ?_
         refine V.keep 44 [0, 3, 7, 8, 9] [1] (E0 := [(0, .vl ρ0 6 (List.map encHand list)), (3, .sref ob1 1 0 (List.length pairs0)), (7, .vl ρ0 6 (List.map encHand list)), (8, .int .i64 (list.length : Int)), (9, .int .i64 v)]) (H0 := [(ob1, ⟨1, List.map (encL rn 1 encInt) pairs0⟩)]) rfl (⟨_, _, rfl, rfl, _, _, rfl, rfl, _, _, rfl, rfl, _, _, rfl, rfl, _, _, rfl, rfl, rfl⟩) (⟨_, _, rfl, rfl, rfl⟩) rfl ?_
         refine V.exit ?_
         obtain rfl := hr3 _ (Option.some.inj hm3).symm
         exact ⟨(pairs0, ob1), rfl, Keeps.mk (ks := [0]) rfl ⟨rfl, rfl, rfl, rfl, rfl, trivial⟩ (⟨_, _, rfl, rfl, rfl⟩) rfl⟩
       ·
        replace hm3 := cond_f hc2 hm3
        refine V.skip ?_
        refine V.region ?_
        refine VO.cons rfl (V1.move rfl rfl rfl lt0 ?_)
        refine VO.cons rfl (V1.int rfl rfl rfl rfl rfl lt0 ?_)
        refine VO.cons rfl (V1.assign rfl rfl rfl lt0 ?_)
        refine VO.nil ?_
        exact ⟨(m1, (IntKind.i64.wrap (i - (1 : Int))), ()), hl3 _ (Option.some.inj hm3).symm, Nat.lt_succ_self _, Keeps.mk (ks := [0, 1]) rfl ⟨rfl, rfl, rfl, rfl, rfl, rfl, rfl, rfl, trivial⟩ (⟨_, _, rfl, rfl, _, _, rfl, rfl, rfl⟩) rfl⟩
      ·
       replace hm3 := cond_f hc1 hm3
       refine V.exit ?_
       obtain rfl := hr3 _ (Option.some.inj hm3).symm
       exact ⟨(pairs0, ob1), rfl, Keeps.mk (ks := [1]) rfl ⟨rfl, rfl, rfl, rfl, rfl, trivial⟩ (⟨_, _, rfl, rfl, rfl⟩) rfl⟩
     ·
      rintro ⟨pairs2, b2⟩ rfl
      try dsimp only at hm2
      exact ⟨(pairs2, b2), Option.some.inj hm2, Keeps.mk (ks := [0]) rfl ⟨rfl, rfl, rfl, rfl, rfl, trivial⟩ (⟨_, _, rfl, rfl, rfl⟩) rfl⟩
    ·
     rintro ⟨pairs1, b0⟩ rfl
     try dsimp only at hm1
     refine V.region ?_
     refine VO.cons rfl (V1.int rfl rfl rfl rfl rfl lt0 ?_)
     refine VO.cons rfl (V1.move rfl rfl rfl lt0 ?_)
     refine VO.nil ?_
     exact ⟨(m0, (pairs1, (IntKind.i64.wrap (v + (1 : Int)))), (some b0)), ⟨hl1 _ (Option.some.inj hm1).symm, (fun e => by cases e)⟩, Nat.lt_succ_self _, Keeps.mk (ks := [0]) rfl ⟨rfl, rfl, rfl, rfl, rfl, trivial⟩ (⟨_, _, rfl, rfl, rfl⟩) rfl⟩
   ·
    replace hm1 := cond_f hc0 hm1
    refine V.exit ?_
    obtain rfl := hr1 _ (Option.some.inj hm1).symm
    exact ⟨(pairs0, (some ob1)), ⟨rfl, (fun e => by cases e)⟩, Keeps.mk (ks := [0]) rfl ⟨rfl, trivial⟩ (⟨_, _, rfl, rfl, rfl⟩) rfl⟩
 ·
  rintro ⟨pairs, ob0⟩ ⟨rfl, hob0⟩
  try dsimp only at hm0
  rcases ob0 with _ | ob0
  ·
   replace hob0 := hob0 rfl
   refine V.seq ?_
   refine V.region ?_
   refine VO.cons rfl (V1.move rfl rfl rfl lt0 ?_)
   refine VO.cons rfl (V1.assign rfl rfl rfl lt0 ?_)
   refine VO.nil ?_
   refine V.keep 44 [2] [] (E0 := [(2, .nils)]) (H0 := []) rfl (⟨_, _, rfl, rfl, rfl⟩) (rfl) rfl ?_
   refine V.ret ?_
   obtain rfl := Option.some.inj hm0
   exact ⟨_, _, ⟨_, _, rfl, rfl, rfl⟩, List.Sublist.refl _, none, (fun _ => hob0), rfl, rfl⟩
  ·
   refine V.seq ?_
   refine V.region ?_
   refine VO.cons rfl (V1.move rfl rfl rfl lt0 ?_)
   refine VO.cons rfl (V1.assign rfl rfl rfl lt0 ?_)
   refine VO.nil ?_
   refine V.keep 44 [2] [0] (E0 := [(2, .sref ob0 1 0 (List.length pairs))]) (H0 := [(ob0, ⟨1, List.map (encL rn 1 encInt) pairs⟩)]) rfl (⟨_, _, rfl, rfl, rfl⟩) (⟨_, _, rfl, rfl, rfl⟩) rfl ?_
   refine V.ret ?_
   obtain rfl := Option.some.inj hm0
   exact ⟨_, _, ⟨_, _, rfl, rfl, rfl⟩, List.Sublist.refl _, some ob0, (fun e => by cases e), rfl, rfl⟩

theorem okd_impl_differences {ρ0 rn : Nat} {list : List Hand} {r : List (List Int)} (h : M.impl_differences list = some r) : Does Try.prog 18 [.vl ρ0 6 (List.map encHand list)] [] rn (fun x H => ∃ (ob0_ : Option Nat) (ts_ : List PV) (os_ : List (Nat × Obj')), (ob0_ = none → r = []) ∧ (Deep 1 (fun c_ : List Int => List.map encInt c_) ts_ os_ r) ∧ x = optS 1 ob0_ (List.length r) ∧ H = (optH 1 ob0_ (deepC (cellRow (β := Int)) ts_ r) ++ os_)) := by
 have hm0 := h; clear h; unfold M.impl_differences at hm0
 try dsimp only at hm0
 refine Does.intro (N := 44) Try.func18 rfl rfl rfl rfl ?_
 intro w0 S0 L0
 refine V.seq ?_
 refine V.region ?_
 refine VO.cons rfl (V1.assign rfl rfl rfl lt0 ?_)
 refine VO.nil ?_
 refine V.seq ?_
 refine V.region ?_
 refine VO.cons rfl (V1.assign rfl rfl rfl lt0 ?_)
 refine VO.nil ?_
 refine V.seq ?_
 refine V.seq ?_
 refine V.region ?_
 refine VO.cons rfl (V1.move rfl rfl rfl lt0 ?_)
 refine VO.cons rfl (V1.lenMap rfl rfl rfl rfl rfl rfl isl_27 lt0 ?_)
 refine VO.cons rfl (V1.move rfl rfl rfl lt0 ?_)
 refine VO.nil ?_
 replace hm0 := bindO hm0; rcases hm0 with ⟨e0, he1, hm0⟩
 refine V.cutT (D := (List (List Int)) × (Option Nat × List PV × (List (Nat × Obj')))) (fun ⟨pairs, ⟨ob0, ts_1658, os_1658⟩⟩ => ⟨44, [(3, optS 1 ob0 (List.length pairs))], (optH 1 ob0 (deepC (cellRow (β := Int)) ts_1658 pairs)) ++ os_1658⟩) (fun ⟨pairs, ⟨ob0, ts_1658, os_1658⟩⟩ => (pairs = e0) ∧ (ob0 = none → pairs = []) ∧ Deep 1 (fun c_ : List Int => List.map encInt c_) ts_1658 os_1658 pairs) ?_ ?_
 ·
  refine V.block ?_
  refine V.keep 44 [3, 9, 0, 7, 8] [] (E0 := [(3, .nils), (9, .int .i64 (0 : Int)), (0, .vl ρ0 6 (List.map encHand list)), (7, .vl ρ0 6 (List.map encHand list)), (8, .int .i64 (list.length : Int))]) (H0 := []) rfl (⟨_, _, rfl, rfl, _, _, rfl, rfl, _, _, rfl, rfl, _, _, rfl, rfl, _, _, rfl, rfl, rfl⟩) (rfl) rfl ?_
  refine V.loopT (D := Nat × (List (List Int) × Int) × (Option Nat × List PV × (List (Nat × Obj')))) (fun ⟨n0, ⟨pairs0, v⟩, ⟨ob1, ts_1659, os_1659⟩⟩ => [(3, optS 1 ob1 (List.length pairs0)), (9, .int .i64 v)]) (fun ⟨n0, ⟨pairs0, v⟩, ⟨ob1, ts_1659, os_1659⟩⟩ => (optH 1 ob1 (deepC (cellRow (β := Int)) ts_1659 pairs0)) ++ os_1659) (fun ⟨n0, ⟨pairs0, v⟩, ⟨ob1, ts_1659, os_1659⟩⟩ => loopO (M.impl_differences_l0 list) n0 (pairs0, v) = some e0 ∧ (ob1 = none → pairs0 = []) ∧ Deep 1 (fun c_ : List Int => List.map encInt c_) ts_1659 os_1659 pairs0) (fun ⟨n0, _, _⟩ => n0) (rounds, (([] : List (List Int)), (0 : Int)), (none, [], [])) rfl ⟨he1, (fun _ => rfl), (Deep.ofNil rfl)⟩ ?_
  rintro ⟨n0, ⟨pairs0, v⟩, ⟨ob1, ts_1659, os_1659⟩⟩ ⟨hP0, hob1, hd_1659⟩
  obtain ⟨m0, y0, rfl, hm1, hl1, hr1⟩ := loop_head hP0
  unfold M.impl_differences_l0 at hm1; dsimp only at hm1
  rcases ob1 with _ | ob1
  ·
   replace hob1 := hob1 rfl
   obtain ⟨rfl, rfl⟩ := Deep.nil hob1 hd_1659
   show V _ _ _ ⟨44, [(3, .nils), (9, .int .i64 v), (0, .vl ρ0 6 (List.map encHand list)), (7, .vl ρ0 6 (List.map encHand list)), (8, .int .i64 (list.length : Int))], []⟩
   refine V.seq ?_
   refine V.region ?_
   refine VO.cons rfl (V1.int rfl rfl rfl rfl rfl lt0 ?_)
   refine VO.nil ?_
   refine V.seq ?_
   refine V.cond rfl (fun hc0 => ?_) (fun hc0 => ?_)
   ·
    replace hm1 := cond_t hc0 hm1
    refine V.skip ?_
    refine V.seq ?_
    replace hm1 := bindO hm1; rcases hm1 with ⟨j0, hm2, hm1⟩
    refine V.cutT (D := (List (List Int)) × (Option Nat × List PV × (List (Nat × Obj')))) (fun ⟨pairs1, ⟨ob2, ts_1718, os_1718⟩⟩ => ⟨44, [(3, optS 1 ob2 (List.length pairs1)), (0, .vl ρ0 6 (List.map encHand list)), (7, .vl ρ0 6 (List.map encHand list)), (8, .int .i64 (list.length : Int)), (9, .int .i64 v)], (optH 1 ob2 (deepC (cellRow (β := Int)) ts_1718 pairs1)) ++ os_1718⟩) (fun ⟨pairs1, ⟨ob2, ts_1718, os_1718⟩⟩ => (pairs1 = j0) ∧ (ob2 = none → pairs1 = []) ∧ Deep 1 (fun c_ : List Int => List.map encInt c_) ts_1718 os_1718 pairs1) ?_ ?_
    ·
     refine V.block ?_
     refine V.seq ?_
     replace hm2 := asrt_some hm2; rcases hm2 with ⟨hh0, hm2⟩
     refine V.region ?_
     refine VO.cons rfl (V1.move rfl rfl rfl lt0 ?_)
     refine VO.cons rfl (V1.indexI rfl rfl esz_27 rfl rfl hh0 lt0 ?_)
     refine VO.cons rfl (V1.loadPinAll rfl rfl tyk_37 rfl rfl lt0 ?_)
     refine VO.cons rfl (V1.alloc rfl rfl zk_37 lt0 ?_)
     intro b0
     refine VO.cons rfl (V1.assign rfl rfl rfl lt0 ?_)
     refine VO.cons rfl (V1.storeRefAll (k := 0) rfl rfl tyk_37 rfl rfl rfl rfl rfl rfl ?_)
     refine VO.nil ?_
     refine V.keep 44 [0, 3, 4, 5, 7, 8, 9] [0] (E0 := [(0, .vl ρ0 6 (List.map encHand list)), (3, .nils), (4, .int .i64 v), (5, .ref b0 6 0 0), (7, .vl ρ0 6 (List.map encHand list)), (8, .int .i64 (list.length : Int)), (9, .int .i64 v)]) (H0 := [(b0, ⟨6, [encHand (list.getD (Int.toNat v) default)]⟩)]) rfl (⟨_, _, rfl, rfl, _, _, rfl, rfl, _, _, rfl, rfl, _, _, rfl, rfl, _, _, rfl, rfl, _, _, rfl, rfl, _, _, rfl, rfl, rfl⟩) (⟨_, _, rfl, rfl, rfl⟩) rfl ?_
     refine V.seq ?_
     refine V.region ?_
     refine VO.cons rfl (V1.move rfl rfl rfl lt0 ?_)
     refine VO.cons rfl (V1.int rfl rfl rfl rfl rfl lt0 ?_)
     refine VO.cons rfl (V1.assign rfl rfl rfl lt0 ?_)
     refine VO.nil ?_
     replace hm2 := bindO hm2; rcases hm2 with ⟨e1, he3, hm2⟩
     refine V.cutT (D := (List (List Int)) × (Option Nat × List PV × (List (Nat × Obj')))) (fun ⟨pairs2, ⟨ob3, ts_1762, os_1762⟩⟩ => ⟨44, [(3, optS 1 ob3 (List.length pairs2)), (0, .vl ρ0 6 (List.map encHand list)), (7, .vl ρ0 6 (List.map encHand list)), (8, .int .i64 (list.length : Int)), (9, .int .i64 v)], (optH 1 ob3 (deepC (cellRow (β := Int)) ts_1762 pairs2)) ++ os_1762⟩) (fun ⟨pairs2, ⟨ob3, ts_1762, os_1762⟩⟩ => (pairs2 = e1) ∧ (ob3 = none → pairs2 = []) ∧ Deep 1 (fun c_ : List Int => List.map encInt c_) ts_1762 os_1762 pairs2) ?_ ?_
     ·
      refine V.block ?_
      refine V.keep 44 [6, 0, 3, 4, 5, 7, 8, 9] [0] (E0 := [(6, .int .i64 (IntKind.i64.wrap (v - (1 : Int)))), (0, .vl ρ0 6 (List.map encHand list)), (3, .nils), (4, .int .i64 v), (5, .ref b0 6 0 0), (7, .vl ρ0 6 (List.map encHand list)), (8, .int .i64 (list.length : Int)), (9, .int .i64 v)]) (H0 := [(b0, ⟨6, [encHand (list.getD (Int.toNat v) default)]⟩)]) rfl (⟨_, _, rfl, rfl, _, _, rfl, rfl, _, _, rfl, rfl, _, _, rfl, rfl, _, _, rfl, rfl, _, _, rfl, rfl, _, _, rfl, rfl, _, _, rfl, rfl, rfl⟩) (⟨_, _, rfl, rfl, rfl⟩) rfl ?_
      refine V.loopE (D := Nat × (Int) × (Unit)) (fun ⟨n1, i, _⟩ => [(6, .int .i64 i)]) (fun ⟨n1, i, _⟩ => []) (fun ⟨n1, i, _⟩ => loopO (M.impl_differences_l1 list pairs0 v) n1 i = some e1) (fun ⟨n1, _, _⟩ => n1) (rounds, (IntKind.i64.wrap (v - (1 : Int))), ()) rfl he3 ?_
      rintro ⟨n1, i, _⟩ hP1
      obtain ⟨m1, y1, rfl, hm3, hl3, hr3⟩ := loop_head hP1
      unfold M.impl_differences_l1 at hm3; dsimp only at hm3
      show V _ _ _ ⟨44, [(6, .int .i64 i), (0, .vl ρ0 6 (List.map encHand list)), (3, .nils), (4, .int .i64 v), (5, .ref b0 6 0 0), (7, .vl ρ0 6 (List.map encHand list)), (8, .int .i64 (list.length : Int)), (9, .int .i64 v)], [(b0, ⟨6, [encHand (list.getD (Int.toNat v) default)]⟩)]⟩
      refine V.seq ?_
      refine V.seq ?_
      refine V.region ?_
      refine VO.cons rfl (V1.move rfl rfl rfl lt0 ?_)
      refine VO.cons rfl (V1.int rfl rfl rfl rfl rfl lt0 ?_)
      refine VO.nil ?_
      refine V.cond rfl (fun hc1 => ?_) (fun hc1 => ?_)
      ·
       replace hm3 := cond_t hc1 hm3
       refine V.skip ?_
       refine V.seq ?_
       refine V.block ?_
       refine V.seq ?_
       replace hm3 := asrt_some hm3; rcases hm3 with ⟨hh1, hm3⟩
       refine V.regionM 44 7 [⟨[(0, none)], [], none⟩, ⟨[(6, none)], [], none⟩, ⟨[(20, some 1), (21, some 0)], [], none⟩, ⟨[(22, some 0)], [], none⟩, ⟨[(23, some 0)], [], none⟩, ⟨[(5, none)], [], none⟩, ⟨[(25, some 0)], [], none⟩] [(0, none), (3, none), (4, none), (5, none), (6, none), (7, none), (8, none), (9, none), (24, some 2), (26, some 0)] (⟨_, rfl, ⟨_, rfl, ⟨_, rfl, ⟨_, rfl, ⟨_, rfl, ⟨_, rfl, ⟨_, rfl, ⟨rfl, rfl⟩⟩⟩⟩⟩⟩⟩⟩) mixed_orders rfl (by decide +kernel) (fun hck8 => ?_)
       refine VP.step (p := ?pv1764) rfl rfl rfl (⟨_, _, rfl, rfl, rfl⟩) ?hv1764 ?rest1764 hck8
       case hv1764 =>
        intro E1
        refine (V1.move rfl rfl rfl lt0 ?_)
        exact rfl
       refine VP.step (p := ?pv1765) rfl rfl rfl (⟨_, _, rfl, rfl, rfl⟩) ?hv1765 ?rest1765 hck8
       case hv1765 =>
        intro E1
        refine (V1.move rfl rfl rfl lt0 ?_)
        exact rfl
       refine VP.step (p := ?pv1766) rfl rfl rfl (⟨_, _, rfl, rfl, _, _, rfl, rfl, rfl⟩) ?hv1766 ?rest1766 hck8
       case hv1766 =>
        intro E1
        refine (V1.indexI rfl rfl esz_27 rfl rfl hh1 lt0 ?_)
        exact rfl
       refine VP.step (p := ?pv1767) rfl rfl rfl (⟨_, _, rfl, rfl, rfl⟩) ?hv1767 ?rest1767 hck8
       case hv1767 =>
        intro E1
        refine (V1.fieldPin rfl rfl fo_37_0 rfl lt0 ?_)
        exact rfl
       refine VP.step (p := ?pv1768) rfl rfl rfl (⟨_, _, rfl, rfl, rfl⟩) ?hv1768 ?rest1768 hck8
       case hv1768 =>
        intro E1
        refine (V1.loadPin rfl rfl tyk_3 rfl rfl lt0 ?_)
        exact rfl
       refine VP.step (p := ?pv1769) rfl rfl rfl (⟨_, _, rfl, rfl, rfl⟩) ?hv1769 ?rest1769 hck8
       case hv1769 =>
        intro E1
        refine (V1.fieldRef rfl rfl fo_37_0 rfl lt0 ?_)
        exact rfl
       refine VP.step (p := ?pv1770) rfl rfl rfl (⟨_, _, rfl, rfl, rfl⟩) ?hv1770 ?rest1770 hck8
       case hv1770 =>
        intro E1
        refine (V1.loadRef (k := 0) rfl rfl tyk_3 rfl rfl rfl rfl rfl lt0 ?_)
        exact rfl
       refine VP.fin rfl (⟨_, _, rfl, rfl, _, _, rfl, rfl, _, _, rfl, rfl, _, _, rfl, rfl, _, _, rfl, rfl, _, _, rfl, rfl, _, _, rfl, rfl, _, _, rfl, rfl, _, _, rfl, rfl, _, _, rfl, rfl, rfl⟩) ?_
       refine VO.cons rfl (V1.int rfl rfl rfl rfl rfl lt0 ?_)
       refine VO.nil ?_
       refine V.cond rfl (fun hc2 => ?_) (fun hc2 => ?_)
       ·
        replace hm3 := cond_t hc2 hm3
        refine V.seq ?_
        refine V.seq ?_
        replace hm3 := asrt_some hm3; rcases hm3 with ⟨hh2, hm3⟩
        refine V.regionM 44 7 [⟨[(0, none)], [], none⟩, ⟨[(6, none)], [], none⟩, ⟨[(28, some 1), (29, some 0)], [], none⟩, ⟨[(30, some 0)], [], none⟩, ⟨[(31, some 0)], [], none⟩, ⟨[(5, none)], [], none⟩, ⟨[(33, some 0)], [], none⟩] [(0, none), (3, none), (4, none), (6, none), (7, none), (8, none), (9, none), (32, some 2), (34, some 0)] (⟨_, rfl, ⟨_, rfl, ⟨_, rfl, ⟨_, rfl, ⟨_, rfl, ⟨_, rfl, ⟨_, rfl, ⟨rfl, rfl⟩⟩⟩⟩⟩⟩⟩⟩) mixed_orders rfl (by decide +kernel) (fun hck9 => ?_)
        refine VP.step (p := ?pv1771) rfl rfl rfl (⟨_, _, rfl, rfl, rfl⟩) ?hv1771 ?rest1771 hck9
        case hv1771 =>
         intro E1
         refine (V1.move rfl rfl rfl lt0 ?_)
         exact rfl
        refine VP.step (p := ?pv1772) rfl rfl rfl (⟨_, _, rfl, rfl, rfl⟩) ?hv1772 ?rest1772 hck9
        case hv1772 =>
         intro E1
         refine (V1.move rfl rfl rfl lt0 ?_)
         exact rfl
        refine VP.step (p := ?pv1773) rfl rfl rfl (⟨_, _, rfl, rfl, _, _, rfl, rfl, rfl⟩) ?hv1773 ?rest1773 hck9
        case hv1773 =>
         intro E1
         refine (V1.indexI rfl rfl esz_27 rfl rfl hh2 lt0 ?_)
         exact rfl
        refine VP.step (p := ?pv1774) rfl rfl rfl (⟨_, _, rfl, rfl, rfl⟩) ?hv1774 ?rest1774 hck9
        case hv1774 =>
         intro E1
         refine (V1.fieldPin rfl rfl fo_37_4 rfl lt0 ?_)
         exact rfl
        refine VP.step (p := ?pv1775) rfl rfl rfl (⟨_, _, rfl, rfl, rfl⟩) ?hv1775 ?rest1775 hck9
        case hv1775 =>
         intro E1
         refine (V1.loadPin rfl rfl tyk_3 rfl rfl lt0 ?_)
         exact rfl
        refine VP.step (p := ?pv1776) rfl rfl rfl (⟨_, _, rfl, rfl, rfl⟩) ?hv1776 ?rest1776 hck9
        case hv1776 =>
         intro E1
         refine (V1.fieldRef rfl rfl fo_37_4 rfl lt0 ?_)
         exact rfl
        refine VP.step (p := ?pv1777) rfl rfl rfl (⟨_, _, rfl, rfl, rfl⟩) ?hv1777 ?rest1777 hck9
        case hv1777 =>
         intro E1
         refine (V1.loadRef (k := 0) rfl rfl tyk_3 rfl rfl rfl rfl rfl lt0 ?_)
         exact rfl
        refine VP.fin rfl (⟨_, _, rfl, rfl, _, _, rfl, rfl, _, _, rfl, rfl, _, _, rfl, rfl, _, _, rfl, rfl, _, _, rfl, rfl, _, _, rfl, rfl, _, _, rfl, rfl, _, _, rfl, rfl, rfl⟩) ?_
        refine VO.cons rfl (V1.int rfl rfl rfl rfl rfl lt0 ?_)
        refine VO.nil ?_
        refine V.cond rfl (fun hc3 => ?_) (fun hc3 => ?_)
        ·
         replace hm3 := cond_t hc3 hm3
         replace hm3 := asrt_some hm3; rcases hm3 with ⟨hh3, hm3⟩
         refine V.region ?_
         refine VO.cons rfl (V1.move rfl rfl rfl lt0 ?_)
         refine VO.cons rfl (V1.move rfl rfl rfl lt0 ?_)
         refine VO.cons rfl (V1.move rfl rfl rfl lt0 ?_)
         refine VO.cons rfl (V1.buildSliceT (f := encInt) ([i, v] : List Int) rfl rfl esz_38 zk_3 rfl rfl rfl rfl rfl rfl rfl lt0 ?_)
         intro b1
         refine VO.cons rfl (V1.buildDeep (p := .sref b1 1 0 (List.length ([i, v] : List Int))) rfl rfl esz_24 zk_38 rfl rfl rfl rfl rfl rfl rfl lt0 ?_)
         intro b2
         refine VO.weakenK (Keeps.tailPut 1 (A := [(b2, ⟨1, deepC (cellRow (β := Int)) ([.sref b1 1 0 (List.length ([i, v] : List Int))]) ([([i, v] : List Int)] : List (List Int))⟩), (b1, ⟨1, List.map encInt ([i, v] : List Int)⟩), (b0, ⟨6, [encHand (list.getD (Int.toNat v) default)]⟩)]) (A' := [(b2, ⟨1, deepC (cellRow (β := Int)) ([.sref b1 1 0 (List.length ([i, v] : List Int))]) ([([i, v] : List Int)] : List (List Int))⟩), (b0, ⟨6, [encHand (list.getD (Int.toNat v) default)]⟩)]) (T := []) (p := (b1, ⟨1, List.map encInt ([i, v] : List Int)⟩)) rfl rfl rfl) ?_
         refine VO.cons rfl (V1.appendND (cell := (cellRow (β := Int))) (xs := pairs0) (ts2 := [.sref b1 1 0 (List.length ([i, v] : List Int))]) (xs2 := ([([i, v] : List Int)] : List (List Int))) (k2 := 0) rfl rfl rfl rfl rfl esz_24 eby_24 zk_38 rfl rfl hob1 rfl rfl rfl isl_24 (by simp) hh3 lt0 ?_)
         intro b3
         refine VO.weakenK (Keeps.dropAt 1 (H' := (([(b3, ⟨1, deepC (cellRow (β := Int)) ([.sref b1 1 0 (List.length ([i, v] : List Int))]) (pairs0 ++ ([([i, v] : List Int)] : List (List Int)))⟩), (b0, ⟨6, [encHand (list.getD (Int.toNat v) default)]⟩)] : List (Nat × Obj')) ++ (([] : List (Nat × Obj')) ++ [(b1, ⟨1, List.map encInt ([i, v] : List Int)⟩)]))) rfl) ?_
         refine VO.cons rfl (V1.assign rfl rfl rfl lt0 ?_)
         refine VO.nil ?_
         refine V.keepT 44 [0, 3, 7, 8, 9] [0] (E0 := [(0, .vl ρ0 6 (List.map encHand list)), (3, .sref b3 1 0 (List.length (pairs0 ++ ([([i, v] : List Int)] : List (List Int))))), (7, .vl ρ0 6 (List.map encHand list)), (8, .int .i64 (list.length : Int)), (9, .int .i64 v)]) (A := [(b3, ⟨1, deepC (cellRow (β := Int)) ([.sref b1 1 0 (List.length ([i, v] : List Int))]) (pairs0 ++ ([([i, v] : List Int)] : List (List Int)))⟩), (b0, ⟨6, [encHand (list.getD (Int.toNat v) default)]⟩)]) (T := (([] : List (Nat × Obj')) ++ [(b1, ⟨1, List.map encInt ([i, v] : List Int)⟩)])) (H0 := [(b3, ⟨1, deepC (cellRow (β := Int)) ([.sref b1 1 0 (List.length ([i, v] : List Int))]) (pairs0 ++ ([([i, v] : List Int)] : List (List Int)))⟩)]) (T' := (([] : List (Nat × Obj')) ++ [(b1, ⟨1, List.map encInt ([i, v] : List Int)⟩)])) rfl (⟨_, _, rfl, rfl, _, _, rfl, rfl, _, _, rfl, rfl, _, _, rfl, rfl, _, _, rfl, rfl, rfl⟩) rfl (⟨_, _, rfl, rfl, rfl⟩) rfl (List.Sublist.refl _) ?_
         refine V.exit ?_
         obtain rfl := hr3 _ (Option.some.inj hm3).symm
         exact ⟨((pairs0 ++ ([([i, v] : List Int)] : List (List Int))), ((some b3), [.sref b1 1 0 (List.length ([i, v] : List Int))], (([] : List (Nat × Obj')) ++ [(b1, ⟨1, List.map encInt ([i, v] : List Int)⟩)]))), ⟨rfl, (fun e => by cases e), (Deep.append (Deep.ofNil hob1) (Deep.one (m := 1) (inn := (fun c_ : List Int => List.map encInt c_)) (x := ([i, v] : List Int)) (Deep1.own (by simp))))⟩, Keeps.mkT (A := [(b3, ⟨1, deepC (cellRow (β := Int)) ([.sref b1 1 0 (List.length ([i, v] : List Int))]) (pairs0 ++ ([([i, v] : List Int)] : List (List Int)))⟩)]) (T := (([] : List (Nat × Obj')) ++ [(b1, ⟨1, List.map encInt ([i, v] : List Int)⟩)])) (T' := (([] : List (Nat × Obj')) ++ [(b1, ⟨1, List.map encInt ([i, v] : List Int)⟩)])) (H := [(b3, ⟨1, deepC (cellRow (β := Int)) ([.sref b1 1 0 (List.length ([i, v] : List Int))]) (pairs0 ++ ([([i, v] : List Int)] : List (List Int)))⟩)]) (ks := [0]) rfl (by exact ⟨rfl, rfl, rfl, rfl, rfl, trivial⟩) rfl (by exact (⟨_, _, rfl, rfl, rfl⟩)) rfl (List.Sublist.refl _)⟩
        ·
         replace hm3 := cond_f hc3 hm3
         refine V.skip ?_
         refine V.keep 44 [0, 3, 7, 8, 9] [] (E0 := [(0, .vl ρ0 6 (List.map encHand list)), (3, .nils), (7, .vl ρ0 6 (List.map encHand list)), (8, .int .i64 (list.length : Int)), (9, .int .i64 v)]) (H0 := []) rfl (⟨_, _, rfl, rfl, _, _, rfl, rfl, _, _, rfl, rfl, _, _, rfl, rfl, _, _, rfl, rfl, rfl⟩) (rfl) rfl ?_
         refine V.exit ?_
         obtain rfl := hr3 _ (Option.some.inj hm3).symm
         exact ⟨(pairs0, (none, [], [])), ⟨rfl, (fun _ => hob1), (Deep.ofNil hob1)⟩, Keeps.mkT (A := []) (T := []) (T' := []) (H := []) (ks := []) rfl (by exact ⟨rfl, rfl, rfl, rfl, rfl, trivial⟩) (List.append_nil _).symm (by exact (rfl)) rfl (List.Sublist.refl _)⟩
       ·
        replace hm3 := cond_f hc2 hm3
        refine V.skip ?_
        refine V.region ?_
        refine VO.cons rfl (V1.move rfl rfl rfl lt0 ?_)
        refine VO.cons rfl (V1.int rfl rfl rfl rfl rfl lt0 ?_)
        refine VO.cons rfl (V1.assign rfl rfl rfl lt0 ?_)
        refine VO.nil ?_
        exact ⟨(m1, (IntKind.i64.wrap (i - (1 : Int))), ()), hl3 _ (Option.some.inj hm3).symm, Nat.lt_succ_self _, Keeps.mk (ks := [0]) rfl ⟨rfl, rfl, rfl, rfl, rfl, rfl, rfl, rfl, trivial⟩ (⟨_, _, rfl, rfl, rfl⟩) rfl⟩
      ·
       replace hm3 := cond_f hc1 hm3
       refine V.exit ?_
       obtain rfl := hr3 _ (Option.some.inj hm3).symm
       exact ⟨(pairs0, (none, [], [])), ⟨rfl, (fun _ => hob1), (Deep.ofNil hob1)⟩, Keeps.mkT (A := [(b0, ⟨6, [encHand (list.getD (Int.toNat v) default)]⟩)]) (T := []) (T' := []) (H := []) (ks := []) rfl (by exact ⟨rfl, rfl, rfl, rfl, rfl, trivial⟩) (List.append_nil _).symm (by exact (rfl)) rfl (List.Sublist.refl _)⟩
     ·
      rintro ⟨pairs2, ⟨ob3, ts_1762, os_1762⟩⟩ ⟨rfl, hob3, hd_1762⟩
      try dsimp only at hm2
      rcases ob3 with _ | ob3
      ·
       replace hob3 := hob3 rfl
       obtain ⟨rfl, rfl⟩ := Deep.nil hob3 hd_1762
       exact ⟨(pairs2, (none, [], [])), ⟨Option.some.inj hm2, (fun _ => hob3), (Deep.ofNil hob3)⟩, Keeps.mkT (A := []) (T := []) (T' := []) (H := []) (ks := []) rfl (by exact ⟨rfl, rfl, rfl, rfl, rfl, trivial⟩) (List.append_nil _).symm (by exact (rfl)) rfl (List.Sublist.refl _)⟩
      ·
       exact ⟨(pairs2, ((some ob3), ts_1762, os_1762)), ⟨Option.some.inj hm2, (fun e => by cases e), hd_1762⟩, Keeps.mkT (A := [(ob3, ⟨1, deepC (cellRow (β := Int)) ts_1762 pairs2⟩)]) (T := os_1762) (T' := os_1762) (H := [(ob3, ⟨1, deepC (cellRow (β := Int)) ts_1762 pairs2⟩)]) (ks := [0]) rfl (by exact ⟨rfl, rfl, rfl, rfl, rfl, trivial⟩) rfl (by exact (⟨_, _, rfl, rfl, rfl⟩)) rfl (List.Sublist.refl _)⟩
    ·
     rintro ⟨pairs1, ⟨ob2, ts_1718, os_1718⟩⟩ ⟨rfl, hob2, hd_1718⟩
     try dsimp only at hm1
     rcases ob2 with _ | ob2
     ·
      replace hob2 := hob2 rfl
      obtain ⟨rfl, rfl⟩ := Deep.nil hob2 hd_1718
      refine V.region ?_
      refine VO.cons rfl (V1.int rfl rfl rfl rfl rfl lt0 ?_)
      refine VO.cons rfl (V1.move rfl rfl rfl lt0 ?_)
      refine VO.nil ?_
      exact ⟨(m0, (pairs1, (IntKind.i64.wrap (v + (1 : Int)))), (none, [], [])), ⟨hl1 _ (Option.some.inj hm1).symm, (fun _ => hob2), (Deep.ofNil hob2)⟩, Nat.lt_succ_self _, Keeps.mkT (A := []) (T := []) (T' := []) (H := []) (ks := []) rfl (by exact ⟨rfl, rfl, rfl, rfl, rfl, trivial⟩) (List.append_nil _).symm (by exact (rfl)) rfl (List.Sublist.refl _)⟩
     ·
      refine V.region ?_
      refine VO.cons rfl (V1.int rfl rfl rfl rfl rfl lt0 ?_)
      refine VO.cons rfl (V1.move rfl rfl rfl lt0 ?_)
      refine VO.nil ?_
      exact ⟨(m0, (pairs1, (IntKind.i64.wrap (v + (1 : Int)))), ((some ob2), ts_1718, os_1718)), ⟨hl1 _ (Option.some.inj hm1).symm, (fun e => by cases e), hd_1718⟩, Nat.lt_succ_self _, Keeps.mkT (A := [(ob2, ⟨1, deepC (cellRow (β := Int)) ts_1718 pairs1⟩)]) (T := os_1718) (T' := os_1718) (H := [(ob2, ⟨1, deepC (cellRow (β := Int)) ts_1718 pairs1⟩)]) (ks := [0]) rfl (by exact ⟨rfl, rfl, rfl, rfl, rfl, trivial⟩) rfl (by exact (⟨_, _, rfl, rfl, rfl⟩)) rfl (List.Sublist.refl _)⟩
   ·
    replace hm1 := cond_f hc0 hm1
    refine V.exit ?_
    obtain rfl := hr1 _ (Option.some.inj hm1).symm
    exact ⟨(pairs0, (none, [], [])), ⟨rfl, (fun _ => hob1), (Deep.ofNil hob1)⟩, Keeps.mkT (A := []) (T := []) (T' := []) (H := []) (ks := []) rfl (by exact ⟨rfl, trivial⟩) (List.append_nil _).symm (by exact (rfl)) rfl (List.Sublist.refl _)⟩
  ·
   show V _ _ _ ⟨44, [(3, .sref ob1 1 0 (List.length pairs0)), (9, .int .i64 v), (0, .vl ρ0 6 (List.map encHand list)), (7, .vl ρ0 6 (List.map encHand list)), (8, .int .i64 (list.length : Int))], (([(ob1, ⟨1, deepC (cellRow (β := Int)) ts_1659 pairs0⟩)] : List (Nat × Obj')) ++ os_1659)⟩
   refine V.seq ?_
   refine V.region ?_
   refine VO.cons rfl (V1.int rfl rfl rfl rfl rfl lt0 ?_)
   refine VO.nil ?_
   refine V.seq ?_
   refine V.cond rfl (fun hc0 => ?_) (fun hc0 => ?_)
   ·
    replace hm1 := cond_t hc0 hm1
    refine V.skip ?_
    refine V.seq ?_
    replace hm1 := bindO hm1; rcases hm1 with ⟨j0, hm2, hm1⟩
    refine V.cutT (D := (List (List Int)) × (Nat × List PV × (List (Nat × Obj')))) (fun ⟨pairs1, ⟨b0, ts_1821, os_1821⟩⟩ => ⟨44, [(3, .sref b0 1 0 (List.length pairs1)), (0, .vl ρ0 6 (List.map encHand list)), (7, .vl ρ0 6 (List.map encHand list)), (8, .int .i64 (list.length : Int)), (9, .int .i64 v)], ([(b0, ⟨1, deepC (cellRow (β := Int)) ts_1821 pairs1⟩)]) ++ os_1821⟩) (fun ⟨pairs1, ⟨b0, ts_1821, os_1821⟩⟩ => (pairs1 = j0) ∧ Deep 1 (fun c_ : List Int => List.map encInt c_) ts_1821 os_1821 pairs1) ?_ ?_
    ·
     refine V.block ?_
     refine V.seq ?_
     replace hm2 := asrt_some hm2; rcases hm2 with ⟨hh0, hm2⟩
     refine V.region ?_
     refine VO.cons rfl (V1.move rfl rfl rfl lt0 ?_)
     refine VO.cons rfl (V1.indexI rfl rfl esz_27 rfl rfl hh0 lt0 ?_)
     refine VO.cons rfl (V1.loadPinAll rfl rfl tyk_37 rfl rfl lt0 ?_)
     refine VO.cons rfl (V1.alloc rfl rfl zk_37 lt0 ?_)
     intro b1
     refine VO.cons rfl (V1.assign rfl rfl rfl lt0 ?_)
     refine VO.cons rfl (V1.storeRefAll (k := 0) rfl rfl tyk_37 rfl rfl rfl rfl rfl rfl ?_)
     refine VO.nil ?_
     refine V.keepT 44 [0, 3, 4, 5, 7, 8, 9] [0, 1] (E0 := [(0, .vl ρ0 6 (List.map encHand list)), (3, .sref ob1 1 0 (List.length pairs0)), (4, .int .i64 v), (5, .ref b1 6 0 0), (7, .vl ρ0 6 (List.map encHand list)), (8, .int .i64 (list.length : Int)), (9, .int .i64 v)]) (A := [(b1, ⟨6, [encHand (list.getD (Int.toNat v) default)]⟩), (ob1, ⟨1, deepC (cellRow (β := Int)) ts_1659 pairs0⟩)]) (T := os_1659) (H0 := [(b1, ⟨6, [encHand (list.getD (Int.toNat v) default)]⟩), (ob1, ⟨1, deepC (cellRow (β := Int)) ts_1659 pairs0⟩)]) (T' := os_1659) rfl (⟨_, _, rfl, rfl, _, _, rfl, rfl, _, _, rfl, rfl, _, _, rfl, rfl, _, _, rfl, rfl, _, _, rfl, rfl, _, _, rfl, rfl, rfl⟩) rfl (⟨_, _, rfl, rfl, _, _, rfl, rfl, rfl⟩) rfl (List.Sublist.refl _) ?_
     refine V.seq ?_
     refine V.region ?_
     refine VO.cons rfl (V1.move rfl rfl rfl lt0 ?_)
     refine VO.cons rfl (V1.int rfl rfl rfl rfl rfl lt0 ?_)
     refine VO.cons rfl (V1.assign rfl rfl rfl lt0 ?_)
     refine VO.nil ?_
     replace hm2 := bindO hm2; rcases hm2 with ⟨e1, he3, hm2⟩
     refine V.cutT (D := (List (List Int)) × (Nat × List PV × (List (Nat × Obj')))) (fun ⟨pairs2, ⟨b2, ts_1851, os_1851⟩⟩ => ⟨44, [(3, .sref b2 1 0 (List.length pairs2)), (0, .vl ρ0 6 (List.map encHand list)), (7, .vl ρ0 6 (List.map encHand list)), (8, .int .i64 (list.length : Int)), (9, .int .i64 v)], ([(b2, ⟨1, deepC (cellRow (β := Int)) ts_1851 pairs2⟩)]) ++ os_1851⟩) (fun ⟨pairs2, ⟨b2, ts_1851, os_1851⟩⟩ => (pairs2 = e1) ∧ Deep 1 (fun c_ : List Int => List.map encInt c_) ts_1851 os_1851 pairs2) ?_ ?_
     ·
      refine V.block ?_
      refine V.keepT 44 [6, 0, 3, 4, 5, 7, 8, 9] [0, 1] (E0 := [(6, .int .i64 (IntKind.i64.wrap (v - (1 : Int)))), (0, .vl ρ0 6 (List.map encHand list)), (3, .sref ob1 1 0 (List.length pairs0)), (4, .int .i64 v), (5, .ref b1 6 0 0), (7, .vl ρ0 6 (List.map encHand list)), (8, .int .i64 (list.length : Int)), (9, .int .i64 v)]) (A := [(b1, ⟨6, [encHand (list.getD (Int.toNat v) default)]⟩), (ob1, ⟨1, deepC (cellRow (β := Int)) ts_1659 pairs0⟩)]) (T := os_1659) (H0 := [(b1, ⟨6, [encHand (list.getD (Int.toNat v) default)]⟩), (ob1, ⟨1, deepC (cellRow (β := Int)) ts_1659 pairs0⟩)]) (T' := os_1659) rfl (⟨_, _, rfl, rfl, _, _, rfl, rfl, _, _, rfl, rfl, _, _, rfl, rfl, _, _, rfl, rfl, _, _, rfl, rfl, _, _, rfl, rfl, _, _, rfl, rfl, rfl⟩) rfl (⟨_, _, rfl, rfl, _, _, rfl, rfl, rfl⟩) rfl (List.Sublist.refl _) ?_
      refine V.loopE (D := Nat × (Int) × (Unit)) (fun ⟨n1, i, _⟩ => [(6, .int .i64 i)]) (fun ⟨n1, i, _⟩ => []) (fun ⟨n1, i, _⟩ => loopO (M.impl_differences_l1 list pairs0 v) n1 i = some e1) (fun ⟨n1, _, _⟩ => n1) (rounds, (IntKind.i64.wrap (v - (1 : Int))), ()) rfl he3 ?_
      rintro ⟨n1, i, _⟩ hP1
      obtain ⟨m1, y1, rfl, hm3, hl3, hr3⟩ := loop_head hP1
      unfold M.impl_differences_l1 at hm3; dsimp only at hm3
      show V _ _ _ ⟨44, [(6, .int .i64 i), (0, .vl ρ0 6 (List.map encHand list)), (3, .sref ob1 1 0 (List.length pairs0)), (4, .int .i64 v), (5, .ref b1 6 0 0), (7, .vl ρ0 6 (List.map encHand list)), (8, .int .i64 (list.length : Int)), (9, .int .i64 v)], (([(b1, ⟨6, [encHand (list.getD (Int.toNat v) default)]⟩), (ob1, ⟨1, deepC (cellRow (β := Int)) ts_1659 pairs0⟩)] : List (Nat × Obj')) ++ os_1659)⟩
      refine V.seq ?_
      refine V.seq ?_
      refine V.region ?_
      refine VO.cons rfl (V1.move rfl rfl rfl lt0 ?_)
      refine VO.cons rfl (V1.int rfl rfl rfl rfl rfl lt0 ?_)
      refine VO.nil ?_
      refine V.cond rfl (fun hc1 => ?_) (fun hc1 => ?_)
      ·
       replace hm3 := cond_t hc1 hm3
       refine V.skip ?_
       refine V.seq ?_
       refine V.block ?_
       refine V.seq ?_
       replace hm3 := asrt_some hm3; rcases hm3 with ⟨hh1, hm3⟩
       refine V.regionM 44 7 [⟨[(0, none)], [], none⟩, ⟨[(6, none)], [], none⟩, ⟨[(20, some 1), (21, some 0)], [], none⟩, ⟨[(22, some 0)], [], none⟩, ⟨[(23, some 0)], [], none⟩, ⟨[(5, none)], [], none⟩, ⟨[(25, some 0)], [], none⟩] [(0, none), (3, none), (4, none), (5, none), (6, none), (7, none), (8, none), (9, none), (24, some 2), (26, some 0)] (⟨_, rfl, ⟨_, rfl, ⟨_, rfl, ⟨_, rfl, ⟨_, rfl, ⟨_, rfl, ⟨_, rfl, ⟨rfl, rfl⟩⟩⟩⟩⟩⟩⟩⟩) mixed_orders rfl (by decide +kernel) (fun hck8 => ?_)
       refine VP.step (p := ?pv1853) rfl rfl rfl (⟨_, _, rfl, rfl, rfl⟩) ?hv1853 ?rest1853 hck8
       case hv1853 =>
        intro E1
        refine (V1.move rfl rfl rfl lt0 ?_)
        exact rfl
       refine VP.step (p := ?pv1854) rfl rfl rfl (⟨_, _, rfl, rfl, rfl⟩) ?hv1854 ?rest1854 hck8
       case hv1854 =>
        intro E1
        refine (V1.move rfl rfl rfl lt0 ?_)
        exact rfl
       refine VP.step (p := ?pv1855) rfl rfl rfl (⟨_, _, rfl, rfl, _, _, rfl, rfl, rfl⟩) ?hv1855 ?rest1855 hck8
       case hv1855 =>
        intro E1
        refine (V1.indexI rfl rfl esz_27 rfl rfl hh1 lt0 ?_)
        exact rfl
       refine VP.step (p := ?pv1856) rfl rfl rfl (⟨_, _, rfl, rfl, rfl⟩) ?hv1856 ?rest1856 hck8
       case hv1856 =>
        intro E1
        refine (V1.fieldPin rfl rfl fo_37_0 rfl lt0 ?_)
        exact rfl
       refine VP.step (p := ?pv1857) rfl rfl rfl (⟨_, _, rfl, rfl, rfl⟩) ?hv1857 ?rest1857 hck8
       case hv1857 =>
        intro E1
        refine (V1.loadPin rfl rfl tyk_3 rfl rfl lt0 ?_)
        exact rfl
       refine VP.step (p := ?pv1858) rfl rfl rfl (⟨_, _, rfl, rfl, rfl⟩) ?hv1858 ?rest1858 hck8
       case hv1858 =>
        intro E1
        refine (V1.fieldRef rfl rfl fo_37_0 rfl lt0 ?_)
        exact rfl
       refine VP.step (p := ?pv1859) rfl rfl rfl (⟨_, _, rfl, rfl, rfl⟩) ?hv1859 ?rest1859 hck8
       case hv1859 =>
        intro E1
        refine (V1.loadRef (k := 0) rfl rfl tyk_3 rfl rfl rfl rfl rfl lt0 ?_)
        exact rfl
       refine VP.fin rfl (⟨_, _, rfl, rfl, _, _, rfl, rfl, _, _, rfl, rfl, _, _, rfl, rfl, _, _, rfl, rfl, _, _, rfl, rfl, _, _, rfl, rfl, _, _, rfl, rfl, _, _, rfl, rfl, _, _, rfl, rfl, rfl⟩) ?_
       refine VO.cons rfl (V1.int rfl rfl rfl rfl rfl lt0 ?_)
       refine VO.nil ?_
       refine V.cond rfl (fun hc2 => ?_) (fun hc2 => ?_)
       ·
        replace hm3 := cond_t hc2 hm3
        refine V.seq ?_
        refine V.seq ?_
        replace hm3 := asrt_some hm3; rcases hm3 with ⟨hh2, hm3⟩
        refine V.regionM 44 7 [⟨[(0, none)], [], none⟩, ⟨[(6, none)], [], none⟩, ⟨[(28, some 1), (29, some 0)], [], none⟩, ⟨[(30, some 0)], [], none⟩, ⟨[(31, some 0)], [], none⟩, ⟨[(5, none)], [], none⟩, ⟨[(33, some 0)], [], none⟩] [(0, none), (3, none), (4, none), (6, none), (7, none), (8, none), (9, none), (32, some 2), (34, some 0)] (⟨_, rfl, ⟨_, rfl, ⟨_, rfl, ⟨_, rfl, ⟨_, rfl, ⟨_, rfl, ⟨_, rfl, ⟨rfl, rfl⟩⟩⟩⟩⟩⟩⟩⟩) mixed_orders rfl (by decide +kernel) (fun hck9 => ?_)
        refine VP.step (p := ?pv1860) rfl rfl rfl (⟨_, _, rfl, rfl, rfl⟩) ?hv1860 ?rest1860 hck9
        case hv1860 =>
         intro E1
         refine (V1.move rfl rfl rfl lt0 ?_)
         exact rfl
        refine VP.step (p := ?pv1861) rfl rfl rfl (⟨_, _, rfl, rfl, rfl⟩) ?hv1861 ?rest1861 hck9
        case hv1861 =>
         intro E1
         refine (V1.move rfl rfl rfl lt0 ?_)
         exact rfl
        refine VP.step (p := ?pv1862) rfl rfl rfl (⟨_, _, rfl, rfl, _, _, rfl, rfl, rfl⟩) ?hv1862 ?rest1862 hck9
        case hv1862 =>
         intro E1
         refine (V1.indexI rfl rfl esz_27 rfl rfl hh2 lt0 ?_)
         exact rfl
        refine VP.step (p := ?pv1863) rfl rfl rfl (⟨_, _, rfl, rfl, rfl⟩) ?hv1863 ?rest1863 hck9
        case hv1863 =>
         intro E1
         refine (V1.fieldPin rfl rfl fo_37_4 rfl lt0 ?_)
         exact rfl
        refine VP.step (p := ?pv1864) rfl rfl rfl (⟨_, _, rfl, rfl, rfl⟩) ?hv1864 ?rest1864 hck9
        case hv1864 =>
         intro E1
         refine (V1.loadPin rfl rfl tyk_3 rfl rfl lt0 ?_)
         exact rfl
        refine VP.step (p := ?pv1865) rfl rfl rfl (⟨_, _, rfl, rfl, rfl⟩) ?hv1865 ?rest1865 hck9
        case hv1865 =>
         intro E1
         refine (V1.fieldRef rfl rfl fo_37_4 rfl lt0 ?_)
         exact rfl
        refine VP.step (p := ?pv1866) rfl rfl rfl (⟨_, _, rfl, rfl, rfl⟩) ?hv1866 ?rest1866 hck9
        case hv1866 =>
         intro E1
         refine (V1.loadRef (k := 0) rfl rfl tyk_3 rfl rfl rfl rfl rfl lt0 ?_)
         exact rfl
        refine VP.fin rfl (⟨_, _, rfl, rfl, _, _, rfl, rfl, _, _, rfl, rfl, _, _, rfl, rfl, _, _, rfl, rfl, _, _, rfl, rfl, _, _, rfl, rfl, _, _, rfl, rfl, _, _, rfl, rfl, rfl⟩) ?_
        refine VO.cons rfl (V1.int rfl rfl rfl rfl rfl lt0 ?_)
        refine VO.nil ?_
        refine V.cond rfl (fun hc3 => ?_) (fun hc3 => ?_)
        ·
         replace hm3 := cond_t hc3 hm3
         replace hm3 := asrt_some hm3; rcases hm3 with ⟨hh3, hm3⟩
         refine V.region ?_
         refine VO.cons rfl (V1.move rfl rfl rfl lt0 ?_)
         refine VO.cons rfl (V1.move rfl rfl rfl lt0 ?_)
         refine VO.cons rfl (V1.move rfl rfl rfl lt0 ?_)
         refine VO.cons rfl (V1.buildSliceT (f := encInt) ([i, v] : List Int) rfl rfl esz_38 zk_3 rfl rfl rfl rfl rfl rfl rfl lt0 ?_)
         intro b3
         refine VO.cons rfl (V1.buildDeep (p := .sref b3 1 0 (List.length ([i, v] : List Int))) rfl rfl esz_24 zk_38 rfl rfl rfl rfl rfl rfl rfl lt0 ?_)
         intro b4
         refine VO.weakenK (Keeps.tailPut 1 (A := [(b4, ⟨1, deepC (cellRow (β := Int)) ([.sref b3 1 0 (List.length ([i, v] : List Int))]) ([([i, v] : List Int)] : List (List Int))⟩), (b3, ⟨1, List.map encInt ([i, v] : List Int)⟩), (b1, ⟨6, [encHand (list.getD (Int.toNat v) default)]⟩), (ob1, ⟨1, deepC (cellRow (β := Int)) ts_1659 pairs0⟩)]) (A' := [(b4, ⟨1, deepC (cellRow (β := Int)) ([.sref b3 1 0 (List.length ([i, v] : List Int))]) ([([i, v] : List Int)] : List (List Int))⟩), (b1, ⟨6, [encHand (list.getD (Int.toNat v) default)]⟩), (ob1, ⟨1, deepC (cellRow (β := Int)) ts_1659 pairs0⟩)]) (T := os_1659) (p := (b3, ⟨1, List.map encInt ([i, v] : List Int)⟩)) rfl rfl rfl) ?_
         refine VO.cons rfl (V1.appendDD (cell := (cellRow (β := Int))) (ts := ts_1659) (xs := pairs0) (ts2 := [.sref b3 1 0 (List.length ([i, v] : List Int))]) (xs2 := ([([i, v] : List Int)] : List (List Int))) (k := 2) (k2 := 0) rfl rfl rfl rfl rfl esz_24 eby_24 zk_38 rfl rfl (Deep.length hd_1659) rfl rfl rfl isl_24 hh3 lt0 ?_)
         intro b5
         refine VO.weakenK (Keeps.dropAt 1 (H' := (([(b5, ⟨1, deepC (cellRow (β := Int)) (ts_1659 ++ [.sref b3 1 0 (List.length ([i, v] : List Int))]) (pairs0 ++ ([([i, v] : List Int)] : List (List Int)))⟩), (b1, ⟨6, [encHand (list.getD (Int.toNat v) default)]⟩)] : List (Nat × Obj')) ++ (os_1659 ++ [(b3, ⟨1, List.map encInt ([i, v] : List Int)⟩)]))) rfl) ?_
         refine VO.cons rfl (V1.assign rfl rfl rfl lt0 ?_)
         refine VO.nil ?_
         refine V.keepT 44 [0, 3, 7, 8, 9] [0] (E0 := [(0, .vl ρ0 6 (List.map encHand list)), (3, .sref b5 1 0 (List.length (pairs0 ++ ([([i, v] : List Int)] : List (List Int))))), (7, .vl ρ0 6 (List.map encHand list)), (8, .int .i64 (list.length : Int)), (9, .int .i64 v)]) (A := [(b5, ⟨1, deepC (cellRow (β := Int)) (ts_1659 ++ [.sref b3 1 0 (List.length ([i, v] : List Int))]) (pairs0 ++ ([([i, v] : List Int)] : List (List Int)))⟩), (b1, ⟨6, [encHand (list.getD (Int.toNat v) default)]⟩)]) (T := (os_1659 ++ [(b3, ⟨1, List.map encInt ([i, v] : List Int)⟩)])) (H0 := [(b5, ⟨1, deepC (cellRow (β := Int)) (ts_1659 ++ [.sref b3 1 0 (List.length ([i, v] : List Int))]) (pairs0 ++ ([([i, v] : List Int)] : List (List Int)))⟩)]) (T' := (os_1659 ++ [(b3, ⟨1, List.map encInt ([i, v] : List Int)⟩)])) rfl (⟨_, _, rfl, rfl, _, _, rfl, rfl, _, _, rfl, rfl, _, _, rfl, rfl, _, _, rfl, rfl, rfl⟩) rfl (⟨_, _, rfl, rfl, rfl⟩) rfl (List.Sublist.refl _) ?_
         refine V.exit ?_
         obtain rfl := hr3 _ (Option.some.inj hm3).symm
         exact ⟨((pairs0 ++ ([([i, v] : List Int)] : List (List Int))), (b5, (ts_1659 ++ [.sref b3 1 0 (List.length ([i, v] : List Int))]), (os_1659 ++ [(b3, ⟨1, List.map encInt ([i, v] : List Int)⟩)]))), ⟨rfl, (Deep.append hd_1659 (Deep.one (m := 1) (inn := (fun c_ : List Int => List.map encInt c_)) (x := ([i, v] : List Int)) (Deep1.own (by simp))))⟩, Keeps.mkT (A := [(b5, ⟨1, deepC (cellRow (β := Int)) (ts_1659 ++ [.sref b3 1 0 (List.length ([i, v] : List Int))]) (pairs0 ++ ([([i, v] : List Int)] : List (List Int)))⟩)]) (T := (os_1659 ++ [(b3, ⟨1, List.map encInt ([i, v] : List Int)⟩)])) (T' := (os_1659 ++ [(b3, ⟨1, List.map encInt ([i, v] : List Int)⟩)])) (H := [(b5, ⟨1, deepC (cellRow (β := Int)) (ts_1659 ++ [.sref b3 1 0 (List.length ([i, v] : List Int))]) (pairs0 ++ ([([i, v] : List Int)] : List (List Int)))⟩)]) (ks := [0]) rfl (by exact ⟨rfl, rfl, rfl, rfl, rfl, trivial⟩) rfl (by exact (⟨_, _, rfl, rfl, rfl⟩)) rfl (List.Sublist.refl _)⟩
        ·
         replace hm3 := cond_f hc3 hm3
         refine V.skip ?_
         refine V.keepT 44 [0, 3, 7, 8, 9] [1] (E0 := [(0, .vl ρ0 6 (List.map encHand list)), (3, .sref ob1 1 0 (List.length pairs0)), (7, .vl ρ0 6 (List.map encHand list)), (8, .int .i64 (list.length : Int)), (9, .int .i64 v)]) (A := [(b1, ⟨6, [encHand (list.getD (Int.toNat v) default)]⟩), (ob1, ⟨1, deepC (cellRow (β := Int)) ts_1659 pairs0⟩)]) (T := os_1659) (H0 := [(ob1, ⟨1, deepC (cellRow (β := Int)) ts_1659 pairs0⟩)]) (T' := os_1659) rfl (⟨_, _, rfl, rfl, _, _, rfl, rfl, _, _, rfl, rfl, _, _, rfl, rfl, _, _, rfl, rfl, rfl⟩) rfl (⟨_, _, rfl, rfl, rfl⟩) rfl (List.Sublist.refl _) ?_
         refine V.exit ?_
         obtain rfl := hr3 _ (Option.some.inj hm3).symm
         exact ⟨(pairs0, (ob1, ts_1659, os_1659)), ⟨rfl, hd_1659⟩, Keeps.mkT (A := [(ob1, ⟨1, deepC (cellRow (β := Int)) ts_1659 pairs0⟩)]) (T := os_1659) (T' := os_1659) (H := [(ob1, ⟨1, deepC (cellRow (β := Int)) ts_1659 pairs0⟩)]) (ks := [0]) rfl (by exact ⟨rfl, rfl, rfl, rfl, rfl, trivial⟩) rfl (by exact (⟨_, _, rfl, rfl, rfl⟩)) rfl (List.Sublist.refl _)⟩
       ·
        replace hm3 := cond_f hc2 hm3
        refine V.skip ?_
        refine V.region ?_
        refine VO.cons rfl (V1.move rfl rfl rfl lt0 ?_)
        refine VO.cons rfl (V1.int rfl rfl rfl rfl rfl lt0 ?_)
        refine VO.cons rfl (V1.assign rfl rfl rfl lt0 ?_)
        refine VO.nil ?_
        exact ⟨(m1, (IntKind.i64.wrap (i - (1 : Int))), ()), hl3 _ (Option.some.inj hm3).symm, Nat.lt_succ_self _, Keeps.mkT (A := [(b1, ⟨6, [encHand (list.getD (Int.toNat v) default)]⟩), (ob1, ⟨1, deepC (cellRow (β := Int)) ts_1659 pairs0⟩)]) (T := os_1659) (T' := os_1659) (H := [(b1, ⟨6, [encHand (list.getD (Int.toNat v) default)]⟩), (ob1, ⟨1, deepC (cellRow (β := Int)) ts_1659 pairs0⟩)]) (ks := [0, 1]) rfl (by exact ⟨rfl, rfl, rfl, rfl, rfl, rfl, rfl, rfl, trivial⟩) rfl (by exact (⟨_, _, rfl, rfl, _, _, rfl, rfl, rfl⟩)) rfl (List.Sublist.refl _)⟩
      ·
       replace hm3 := cond_f hc1 hm3
       refine V.exit ?_
       obtain rfl := hr3 _ (Option.some.inj hm3).symm
       exact ⟨(pairs0, (ob1, ts_1659, os_1659)), ⟨rfl, hd_1659⟩, Keeps.mkT (A := [(b1, ⟨6, [encHand (list.getD (Int.toNat v) default)]⟩), (ob1, ⟨1, deepC (cellRow (β := Int)) ts_1659 pairs0⟩)]) (T := os_1659) (T' := os_1659) (H := [(ob1, ⟨1, deepC (cellRow (β := Int)) ts_1659 pairs0⟩)]) (ks := [1]) rfl (by exact ⟨rfl, rfl, rfl, rfl, rfl, trivial⟩) rfl (by exact (⟨_, _, rfl, rfl, rfl⟩)) rfl (List.Sublist.refl _)⟩
     ·
      rintro ⟨pairs2, ⟨b2, ts_1851, os_1851⟩⟩ ⟨rfl, hd_1851⟩
      try dsimp only at hm2
      exact ⟨(pairs2, (b2, ts_1851, os_1851)), ⟨Option.some.inj hm2, hd_1851⟩, Keeps.mkT (A := [(b2, ⟨1, deepC (cellRow (β := Int)) ts_1851 pairs2⟩)]) (T := os_1851) (T' := os_1851) (H := [(b2, ⟨1, deepC (cellRow (β := Int)) ts_1851 pairs2⟩)]) (ks := [0]) rfl (by exact ⟨rfl, rfl, rfl, rfl, rfl, trivial⟩) rfl (by exact (⟨_, _, rfl, rfl, rfl⟩)) rfl (List.Sublist.refl _)⟩
    ·
     rintro ⟨pairs1, ⟨b0, ts_1821, os_1821⟩⟩ ⟨rfl, hd_1821⟩
     try dsimp only at hm1
     refine V.region ?_
     refine VO.cons rfl (V1.int rfl rfl rfl rfl rfl lt0 ?_)
     refine VO.cons rfl (V1.move rfl rfl rfl lt0 ?_)
     refine VO.nil ?_
     exact ⟨(m0, (pairs1, (IntKind.i64.wrap (v + (1 : Int)))), ((some b0), ts_1821, os_1821)), ⟨hl1 _ (Option.some.inj hm1).symm, (fun e => by cases e), hd_1821⟩, Nat.lt_succ_self _, Keeps.mkT (A := [(b0, ⟨1, deepC (cellRow (β := Int)) ts_1821 pairs1⟩)]) (T := os_1821) (T' := os_1821) (H := [(b0, ⟨1, deepC (cellRow (β := Int)) ts_1821 pairs1⟩)]) (ks := [0]) rfl (by exact ⟨rfl, rfl, rfl, rfl, rfl, trivial⟩) rfl (by exact (⟨_, _, rfl, rfl, rfl⟩)) rfl (List.Sublist.refl _)⟩
   ·
    replace hm1 := cond_f hc0 hm1
    refine V.exit ?_
    obtain rfl := hr1 _ (Option.some.inj hm1).symm
    exact ⟨(pairs0, ((some ob1), ts_1659, os_1659)), ⟨rfl, (fun e => by cases e), hd_1659⟩, Keeps.mkT (A := [(ob1, ⟨1, deepC (cellRow (β := Int)) ts_1659 pairs0⟩)]) (T := os_1659) (T' := os_1659) (H := [(ob1, ⟨1, deepC (cellRow (β := Int)) ts_1659 pairs0⟩)]) (ks := [0]) rfl (by exact ⟨rfl, trivial⟩) rfl (by exact (⟨_, _, rfl, rfl, rfl⟩)) rfl (List.Sublist.refl _)⟩
 ·
  rintro ⟨pairs, ⟨ob0, ts_1658, os_1658⟩⟩ ⟨rfl, hob0, hd_1658⟩
  try dsimp only at hm0
  rcases ob0 with _ | ob0
  ·
   replace hob0 := hob0 rfl
   obtain ⟨rfl, rfl⟩ := Deep.nil hob0 hd_1658
   refine V.seq ?_
   refine V.region ?_
   refine VO.cons rfl (V1.move rfl rfl rfl lt0 ?_)
   refine VO.cons rfl (V1.assign rfl rfl rfl lt0 ?_)
   refine VO.nil ?_
   refine V.keep 44 [2] [] (E0 := [(2, .nils)]) (H0 := []) rfl (⟨_, _, rfl, rfl, rfl⟩) (rfl) rfl ?_
   refine V.ret ?_
   obtain rfl := Option.some.inj hm0
   exact ⟨_, _, ⟨_, _, rfl, rfl, rfl⟩, List.Sublist.refl _, none, [], [], (fun _ => hob0), (Deep.ofNil hob0), rfl, rfl⟩
  ·
   refine V.seq ?_
   refine V.region ?_
   refine VO.cons rfl (V1.move rfl rfl rfl lt0 ?_)
   refine VO.cons rfl (V1.assign rfl rfl rfl lt0 ?_)
   refine VO.nil ?_
   refine V.keepT 44 [2] [0] (E0 := [(2, .sref ob0 1 0 (List.length pairs))]) (A := [(ob0, ⟨1, deepC (cellRow (β := Int)) ts_1658 pairs⟩)]) (T := os_1658) (H0 := [(ob0, ⟨1, deepC (cellRow (β := Int)) ts_1658 pairs⟩)]) (T' := os_1658) rfl (⟨_, _, rfl, rfl, rfl⟩) rfl (⟨_, _, rfl, rfl, rfl⟩) rfl (List.Sublist.refl _) ?_
   refine V.ret ?_
   obtain rfl := Option.some.inj hm0
   exact ⟨_, _, ⟨_, _, rfl, rfl, rfl⟩, List.Sublist.refl _, some ob0, ts_1658, os_1658, (fun e => by cases e), hd_1658, rfl, rfl⟩

theorem ok_impl_BrokenSeals_1 {ρ0 ρ1 τ1 rn : Nat} {p : List Int} {list : List Hand} {r : Bool} (h : M.impl_BrokenSeals_1 p list = some r) : Does Try.prog 19 [.vl ρ0 1 (List.map encInt p), .pin τ1 (.vl ρ1 6 (List.map encHand list)) 0] [] rn (fun x H => x = .bool r ∧ H = []) := by
 have hm0 := h; clear h; unfold M.impl_BrokenSeals_1 at hm0
 try dsimp only at hm0
 refine Does.intro (N := 12) Try.func19 rfl rfl rfl rfl ?_
 intro w0 S0 L0
 refine V.seq ?_
 refine V.region ?_
 refine VO.cons rfl (V1.assign rfl rfl rfl lt0 ?_)
 refine VO.nil ?_
 refine V.seq ?_
 replace hm0 := asrt_some hm0; rcases hm0 with ⟨hh0, hm0⟩
 replace hm0 := asrt_some hm0; rcases hm0 with ⟨hh1, hm0⟩
 refine V.regionM 12 4 [⟨[(1, none)], [], none⟩, ⟨[(0, none)], [], none⟩, ⟨[(5, some 0)], [], none⟩, ⟨[(6, some 0)], [], none⟩] [(4, some 3), (7, some 0)] (⟨_, rfl, ⟨_, rfl, ⟨_, rfl, ⟨_, rfl, ⟨rfl, rfl⟩⟩⟩⟩⟩) mixed_orders rfl (by decide +kernel) (fun hck1 => ?_)
 refine VP.step (p := ?pv9) rfl rfl rfl (⟨_, _, rfl, rfl, rfl⟩) ?hv9 ?rest9 hck1
 case hv9 =>
  intro E1
  refine (V1.loadPin rfl rfl tyk_27 rfl rfl lt0 ?_)
  exact rfl
 refine VP.step (p := ?pv10) rfl rfl rfl (⟨_, _, rfl, rfl, rfl⟩) ?hv10 ?rest10 hck1
 case hv10 =>
  intro E1
  refine (V1.move rfl rfl rfl lt0 ?_)
  exact rfl
 refine VP.step (p := ?pv11) rfl rfl rfl (⟨_, _, rfl, rfl, rfl⟩) ?hv11 ?rest11 hck1
 case hv11 =>
  intro E1
  refine (V1.indexI rfl rfl esz_38 rfl rfl hh0 lt0 ?_)
  exact rfl
 refine VP.step (p := ?pv12) rfl rfl rfl (⟨_, _, rfl, rfl, rfl⟩) ?hv12 ?rest12 hck1
 case hv12 =>
  intro E1
  refine (V1.loadPin rfl rfl tyk_3 rfl rfl lt0 ?_)
  exact rfl
 refine VP.fin rfl (⟨_, _, rfl, rfl, _, _, rfl, rfl, rfl⟩) ?_
 refine VO.cons rfl (V1.indexI rfl rfl esz_27 rfl rfl hh1 lt0 ?_)
 refine VO.cons rfl (V1.fieldPin rfl rfl fo_37_5 rfl lt0 ?_)
 refine VO.cons rfl (V1.loadPin rfl rfl tyk_4 rfl rfl lt0 ?_)
 refine VO.cons rfl (V1.not rfl rfl rfl lt0 ?_)
 refine VO.cons rfl (V1.assign rfl rfl rfl lt0 ?_)
 refine VO.nil ?_
 refine V.ret ?_
 obtain rfl := Option.some.inj hm0
 exact ⟨_, [], ⟨_, _, rfl, rfl, rfl⟩, List.nil_sublist _, rfl, rfl⟩

theorem ok_slices_IndexFunc_int_int {ρ0 σ0 rn : Nat} {s : List (List Int)} {f1 : Nat} {cs1 : List PV} {r : Int} {fm : (List Int) → Option Bool} (h : M.slices_IndexFunc_int_int s fm = some r) (hok1 : callOK Try.prog f1 = true) (hf1 : ∀ x0 r, fm x0 = some r → Does Try.prog f1 (.vl σ0 1 (List.map encInt x0) :: cs1) [] rn (fun x H => x = .bool r ∧ H = [])) : Does Try.prog 28 [.vl ρ0 1 (List.map (encL σ0 1 encInt) s), .fn f1 cs1] [] rn (fun x H => x = .int .i64 r ∧ H = []) := by
 have hm0 := h; clear h; unfold M.slices_IndexFunc_int_int at hm0
 try dsimp only at hm0
 refine Does.intro (N := 19) Try.func28 rfl rfl rfl rfl ?_
 intro w0 S0 L0
 refine V.seq ?_
 refine V.region ?_
 refine VO.cons rfl (V1.assign rfl rfl rfl lt0 ?_)
 refine VO.nil ?_
 refine V.seq ?_
 refine V.seq ?_
 refine V.region ?_
 refine VO.cons rfl (V1.move rfl rfl rfl lt0 ?_)
 refine VO.cons rfl (V1.lenMap rfl rfl rfl rfl rfl rfl isl_24 lt0 ?_)
 refine VO.cons rfl (V1.move rfl rfl rfl lt0 ?_)
 refine VO.nil ?_
 replace hm0 := bindO hm0; rcases hm0 with ⟨e0, he1, hm0⟩
 refine V.cutT (D := (Unit) × (Unit)) (fun ⟨_, _⟩ => ⟨19, [], []⟩) (fun ⟨_, _⟩ => (.inl () = e0)) ?_ ?_
 ·
  refine V.block ?_
  refine V.keep 19 [8, 0, 1, 7] [] (E0 := [(8, .int .i64 (0 : Int)), (0, .vl ρ0 1 (List.map (encL σ0 1 encInt) s)), (1, .fn f1 cs1), (7, .int .i64 (s.length : Int))]) (H0 := []) rfl (⟨_, _, rfl, rfl, _, _, rfl, rfl, _, _, rfl, rfl, _, _, rfl, rfl, rfl⟩) (rfl) rfl ?_
  refine V.loopE (D := Nat × (Int) × (Unit)) (fun ⟨n0, v, _⟩ => [(8, .int .i64 v)]) (fun ⟨n0, v, _⟩ => []) (fun ⟨n0, v, _⟩ => loopO (M.slices_IndexFunc_int_int_l0 s fm) n0 v = some e0) (fun ⟨n0, _, _⟩ => n0) (rounds, (0 : Int), ()) rfl he1 ?_
  rintro ⟨n0, v, _⟩ hP0
  obtain ⟨m0, y0, rfl, hm1, hl1, hr1⟩ := loop_head hP0
  unfold M.slices_IndexFunc_int_int_l0 at hm1; dsimp only at hm1
  show V _ _ _ ⟨19, [(8, .int .i64 v), (0, .vl ρ0 1 (List.map (encL σ0 1 encInt) s)), (1, .fn f1 cs1), (7, .int .i64 (s.length : Int))], []⟩
  refine V.seq ?_
  refine V.region ?_
  refine VO.cons rfl (V1.int rfl rfl rfl rfl rfl lt0 ?_)
  refine VO.nil ?_
  refine V.seq ?_
  refine V.cond rfl (fun hc0 => ?_) (fun hc0 => ?_)
  ·
   replace hm1 := cond_t hc0 hm1
   refine V.skip ?_
   refine V.seq ?_
   refine V.block ?_
   refine V.seq ?_
   refine V.region ?_
   refine VO.cons rfl (V1.move rfl rfl rfl lt0 ?_)
   refine VO.cons rfl (V1.assign rfl rfl rfl lt0 ?_)
   refine VO.nil ?_
   refine V.seq ?_
   replace hm1 := asrt_some hm1; rcases hm1 with ⟨hh0, hm1⟩
   replace hm1 := bindO hm1; rcases hm1 with ⟨y1, hh1, hm1⟩
   refine V.region ?_
   refine VO.cons rfl (V1.move rfl rfl rfl lt0 ?_)
   refine VO.cons rfl (V1.move rfl rfl rfl lt0 ?_)
   refine VO.cons rfl (V1.move rfl rfl rfl lt0 ?_)
   refine VO.cons rfl (V1.indexI rfl rfl esz_24 rfl rfl hh0 lt0 ?_)
   refine VO.cons rfl (V1.loadPin rfl rfl tyk_38 rfl rfl lt0 ?_)
   refine VO.cons rfl (V1.callG (τ := 0) (Bw := []) rfl lt0 (run_callFn rfl rfl rfl hok1 rfl) (.refl _) (Lends.same _) (fun _ h => by cases h) ((hf1 _  _) hh1) (.inl rfl) (.inl rfl) ?_)
   rintro _ _ ⟨rfl, rfl⟩
   refine VO.nil ?_
   refine V.keep 19 [0, 1, 5, 7, 8, 16] [] (E0 := [(0, .vl ρ0 1 (List.map (encL σ0 1 encInt) s)), (1, .fn f1 cs1), (5, .int .i64 v), (7, .int .i64 (s.length : Int)), (8, .int .i64 v), (16, .bool y1)]) (H0 := []) rfl (⟨_, _, rfl, rfl, _, _, rfl, rfl, _, _, rfl, rfl, _, _, rfl, rfl, _, _, rfl, rfl, _, _, rfl, rfl, rfl⟩) (rfl) rfl ?_
   refine V.cond rfl (fun hc1 => ?_) (fun hc1 => ?_)
   ·
    replace hm1 := cond_t hc1 hm1
    refine V.seq ?_
    refine V.region ?_
    refine VO.cons rfl (V1.move rfl rfl rfl lt0 ?_)
    refine VO.cons rfl (V1.assign rfl rfl rfl lt0 ?_)
    refine VO.nil ?_
    refine V.ret ?_
    obtain rfl := hr1 _ (Option.some.inj hm1).symm
    change some _ = some _ at hm0
    obtain rfl := Option.some.inj hm0
    exact ⟨_, [], ⟨_, _, rfl, rfl, rfl⟩, List.nil_sublist _, rfl, rfl⟩
   ·
    replace hm1 := cond_f hc1 hm1
    refine V.skip ?_
    refine V.region ?_
    refine VO.cons rfl (V1.int rfl rfl rfl rfl rfl lt0 ?_)
    refine VO.cons rfl (V1.move rfl rfl rfl lt0 ?_)
    refine VO.nil ?_
    exact ⟨(m0, (IntKind.i64.wrap (v + (1 : Int))), ()), hl1 _ (Option.some.inj hm1).symm, Nat.lt_succ_self _, Keeps.mk (ks := []) rfl ⟨rfl, rfl, rfl, rfl, trivial⟩ (rfl) rfl⟩
  ·
   replace hm1 := cond_f hc0 hm1
   refine V.exit ?_
   obtain rfl := hr1 _ (Option.some.inj hm1).symm
   exact ⟨((), ()), rfl, Keeps.mk (ks := []) rfl trivial (rfl) rfl⟩
 ·
  rintro ⟨_, _⟩ rfl
  try dsimp only at hm0
  refine V.seq ?_
  refine V.region ?_
  refine VO.cons rfl (V1.assign rfl rfl rfl lt0 ?_)
  refine VO.nil ?_
  refine V.ret ?_
  obtain rfl := Option.some.inj hm0
  exact ⟨_, [], ⟨_, _, rfl, rfl, rfl⟩, List.nil_sublist _, rfl, rfl⟩

theorem ok_slices_DeleteFunc_int_int {rn : Nat} {oq : Option Nat} {s : List (List Int)} {f1 : Nat} {cs1 : List PV} {r : List (List Int)} {fm : (List Int) → Option Bool} (h : M.slices_DeleteFunc_int_int s fm = some r) (hoq : oq = none → s = []) (hok1 : callOK Try.prog f1 = true) (hf1 : ∀ x0 r, fm x0 = some r → Does Try.prog f1 (.vl rn 1 (List.map encInt x0) :: cs1) [] rn (fun x H => x = .bool r ∧ H = [])) : Does Try.prog 17 [optS 1 oq (List.length s), .fn f1 cs1] (optH 1 oq (List.map (encL rn 1 encInt) s)) rn (fun x H => ∃ (ob0_ : Option Nat), (ob0_ = none → r = []) ∧ x = optS 1 ob0_ (List.length r) ∧ H = optH 1 ob0_ (List.map (encL rn 1 encInt) r)) := by
 have hm0 := h; clear h; unfold M.slices_DeleteFunc_int_int at hm0
 try dsimp only at hm0
 refine Does.intro (N := 42) Try.func17 rfl rfl rfl rfl ?_
 intro w0 S0 L0
 rcases oq with _ | oq
 ·
  refine V.seq ?_
  refine V.region ?_
  refine VO.cons rfl (V1.assign rfl rfl rfl lt0 ?_)
  refine VO.nil ?_
  refine V.seq ?_
  replace hm0 := bindO hm0; rcases hm0 with ⟨y0, hh0, hm0⟩
  refine V.region ?_
  refine VO.cons rfl (V1.move rfl rfl rfl lt0 ?_)
  refine VO.cons rfl (V1.move rfl rfl rfl lt0 ?_)
  refine VO.weakenK (Keeps.nilsE (l := s) 8 rn 1 (encL rn 1 encInt) (hoq rfl) rfl rfl) ?_
  refine VO.cons rfl (V1.call rfl rfl rfl cok_28 rfl (ok_slices_IndexFunc_int_int hh0 (fm := fm) hok1 hf1) rfl lt0 ?_)
  rintro _ _ ⟨rfl, rfl⟩
  refine VO.cons rfl (V1.assign rfl rfl rfl lt0 ?_)
  refine VO.nil ?_
  refine V.keep 42 [0, 1, 5] [] (E0 := [(0, .nils), (1, .fn f1 cs1), (5, .int .i64 y0)]) (H0 := []) rfl (⟨_, _, rfl, rfl, _, _, rfl, rfl, _, _, rfl, rfl, rfl⟩) (rfl) rfl ?_
  refine V.seq ?_
  refine V.seq ?_
  refine V.region ?_
  refine VO.cons rfl (V1.move rfl rfl rfl lt0 ?_)
  refine VO.cons rfl (V1.int rfl rfl rfl rfl rfl lt0 ?_)
  refine VO.nil ?_
  refine V.cond rfl (fun hc0 => ?_) (fun hc0 => ?_)
  ·
   replace hm0 := cond_t hc0 hm0
   refine V.seq ?_
   refine V.region ?_
   refine VO.cons rfl (V1.move rfl rfl rfl lt0 ?_)
   refine VO.cons rfl (V1.assign rfl rfl rfl lt0 ?_)
   refine VO.nil ?_
   refine V.keep 42 [4] [] (E0 := [(4, .nils)]) (H0 := []) rfl (⟨_, _, rfl, rfl, rfl⟩) (rfl) rfl ?_
   refine V.ret ?_
   obtain rfl := Option.some.inj hm0
   exact ⟨_, _, ⟨_, _, rfl, rfl, rfl⟩, List.Sublist.refl _, none, (fun _ => (hoq rfl)), rfl, rfl⟩
  ·
   replace hm0 := cond_f hc0 hm0
   exfalso
   obtain rfl := hoq rfl; have hz_ : M.slices_IndexFunc_int_int [] fm = some (-1) := by unfold M.slices_IndexFunc_int_int; rw [iterO_now (e := .inl ()) (by unfold M.slices_IndexFunc_int_int_l0; rfl)]; rfl
   first | (rw [hz_] at hh0; obtain rfl := Option.some.inj hh0) | skip
   revert hc0; decide
 ·
  refine V.seq ?_
  refine V.region ?_
  refine VO.cons rfl (V1.assign rfl rfl rfl lt0 ?_)
  refine VO.nil ?_
  refine V.seq ?_
  replace hm0 := bindO hm0; rcases hm0 with ⟨y0, hh0, hm0⟩
  refine V.region ?_
  refine VO.cons rfl (V1.move rfl rfl rfl lt0 ?_)
  refine VO.cons rfl (V1.move rfl rfl rfl lt0 ?_)
  refine VO.cons rfl (V1.callL (rn + 1) [oq] [.vl (rn + 1) 1 (List.map (encL rn 1 encInt) s), .fn f1 cs1] rfl rfl rfl cok_28 rfl ⟨_, _, rfl, Lend.srMap 0 rfl (fun _ => rfl) (.head _), ⟨_, _, rfl, .same _, rfl⟩⟩ (bwCons (k := 0) rfl bwNil) (ok_slices_IndexFunc_int_int hh0 (fm := fm) hok1 hf1) rfl (⟨(by first | omega | (dsimp only; omega)), by rintro _ _ ⟨rfl, rfl⟩; exact ⟨rfl, by simp⟩⟩) lt0 ?_)
  rintro _ _ ⟨rfl, rfl⟩
  refine VO.cons rfl (V1.assign rfl rfl rfl lt0 ?_)
  refine VO.nil ?_
  refine V.keep 42 [0, 1, 5] [0] (E0 := [(0, .sref oq 1 0 (List.length s)), (1, .fn f1 cs1), (5, .int .i64 y0)]) (H0 := [(oq, ⟨1, List.map (encL rn 1 encInt) s⟩)]) rfl (⟨_, _, rfl, rfl, _, _, rfl, rfl, _, _, rfl, rfl, rfl⟩) (⟨_, _, rfl, rfl, rfl⟩) rfl ?_
  refine V.seq ?_
  refine V.seq ?_
  refine V.region ?_
  refine VO.cons rfl (V1.move rfl rfl rfl lt0 ?_)
  refine VO.cons rfl (V1.int rfl rfl rfl rfl rfl lt0 ?_)
  refine VO.nil ?_
  refine V.cond rfl (fun hc0 => ?_) (fun hc0 => ?_)
  ·
   replace hm0 := cond_t hc0 hm0
   refine V.seq ?_
   refine V.region ?_
   refine VO.cons rfl (V1.move rfl rfl rfl lt0 ?_)
   refine VO.cons rfl (V1.assign rfl rfl rfl lt0 ?_)
   refine VO.nil ?_
   refine V.keep 42 [4] [0] (E0 := [(4, .sref oq 1 0 (List.length s))]) (H0 := [(oq, ⟨1, List.map (encL rn 1 encInt) s⟩)]) rfl (⟨_, _, rfl, rfl, rfl⟩) (⟨_, _, rfl, rfl, rfl⟩) rfl ?_
   refine V.ret ?_
   obtain rfl := Option.some.inj hm0
   exact ⟨_, _, ⟨_, _, rfl, rfl, rfl⟩, List.Sublist.refl _, some oq, (fun e => by cases e), rfl, rfl⟩
  ·
   replace hm0 := cond_f hc0 hm0
   refine V.skip ?_
   refine V.seq ?_
   refine V.seq ?_
   refine V.region ?_
   refine VO.cons rfl (V1.move rfl rfl rfl lt0 ?_)
   refine VO.cons rfl (V1.int rfl rfl rfl rfl rfl lt0 ?_)
   refine VO.cons rfl (V1.assign rfl rfl rfl lt0 ?_)
   refine VO.nil ?_
   refine V.keep 42 [0, 1, 5, 6] [0] (E0 := [(0, .sref oq 1 0 (List.length s)), (1, .fn f1 cs1), (5, .int .i64 y0), (6, .int .i64 (IntKind.i64.wrap (y0 + (1 : Int))))]) (H0 := [(oq, ⟨1, List.map (encL rn 1 encInt) s⟩)]) rfl (⟨_, _, rfl, rfl, _, _, rfl, rfl, _, _, rfl, rfl, _, _, rfl, rfl, rfl⟩) (⟨_, _, rfl, rfl, rfl⟩) rfl ?_
   replace hm0 := bindO hm0; rcases hm0 with ⟨e0, he1, hm0⟩
   refine V.cutT (D := (List (List Int) × Int) × (Unit)) (fun ⟨⟨s0, i⟩, _⟩ => ⟨42, [(0, .sref oq 1 0 (List.length s0)), (5, .int .i64 i)], [(oq, ⟨1, List.map (encL rn 1 encInt) s0⟩)]⟩) (fun ⟨⟨s0, i⟩, _⟩ => ((s0, i) = e0)) ?_ ?_
   ·
    refine V.block ?_
    refine V.keep 42 [0, 5, 6, 1] [0] (E0 := [(0, .sref oq 1 0 (List.length s)), (5, .int .i64 y0), (6, .int .i64 (IntKind.i64.wrap (y0 + (1 : Int)))), (1, .fn f1 cs1)]) (H0 := [(oq, ⟨1, List.map (encL rn 1 encInt) s⟩)]) rfl (⟨_, _, rfl, rfl, _, _, rfl, rfl, _, _, rfl, rfl, _, _, rfl, rfl, rfl⟩) (⟨_, _, rfl, rfl, rfl⟩) rfl ?_
    refine V.loopE (D := Nat × (List (List Int) × Int × Int) × (Unit)) (fun ⟨n0, ⟨s1, i0, j_⟩, _⟩ => [(0, .sref oq 1 0 (List.length s1)), (5, .int .i64 i0), (6, .int .i64 j_)]) (fun ⟨n0, ⟨s1, i0, j_⟩, _⟩ => [(oq, ⟨1, List.map (encL rn 1 encInt) s1⟩)]) (fun ⟨n0, ⟨s1, i0, j_⟩, _⟩ => loopO (M.slices_DeleteFunc_int_int_l0 fm) n0 (s1, i0, j_) = some e0) (fun ⟨n0, _, _⟩ => n0) (rounds, (s, y0, (IntKind.i64.wrap (y0 + (1 : Int)))), ()) rfl he1 ?_
    rintro ⟨n0, ⟨s1, i0, j_⟩, _⟩ hP0
    obtain ⟨m0, y1, rfl, hm1, hl1, hr1⟩ := loop_head hP0
    unfold M.slices_DeleteFunc_int_int_l0 at hm1; dsimp only at hm1
    show V _ _ _ ⟨42, [(0, .sref oq 1 0 (List.length s1)), (5, .int .i64 i0), (6, .int .i64 j_), (1, .fn f1 cs1)], [(oq, ⟨1, List.map (encL rn 1 encInt) s1⟩)]⟩
    refine V.seq ?_
    refine V.seq ?_
    refine V.region ?_
    refine VO.cons rfl (V1.move rfl rfl rfl lt0 ?_)
    refine VO.cons rfl (V1.move rfl rfl rfl lt0 ?_)
    refine VO.cons rfl (V1.lenSref rfl rfl rfl rfl rfl rfl isl_24 lt0 ?_)
    refine VO.cons rfl (V1.int rfl rfl rfl rfl rfl lt0 ?_)
    refine VO.nil ?_
    refine V.cond rfl (fun hc1 => ?_) (fun hc1 => ?_)
    ·
     replace hm1 := cond_t hc1 hm1
     refine V.skip ?_
     refine V.keep 42 [0, 1, 5, 6] [0] (E0 := [(0, .sref oq 1 0 (List.length s1)), (1, .fn f1 cs1), (5, .int .i64 i0), (6, .int .i64 j_)]) (H0 := [(oq, ⟨1, List.map (encL rn 1 encInt) s1⟩)]) rfl (⟨_, _, rfl, rfl, _, _, rfl, rfl, _, _, rfl, rfl, _, _, rfl, rfl, rfl⟩) (⟨_, _, rfl, rfl, rfl⟩) rfl ?_
     refine V.seq ?_
     replace hm1 := bindO hm1; rcases hm1 with ⟨j0, hm2, hm1⟩
     refine V.cutT (D := (List (List Int) × Int) × (Unit)) (fun ⟨⟨s2, i1⟩, _⟩ => ⟨42, [(0, .sref oq 1 0 (List.length s2)), (5, .int .i64 i1), (1, .fn f1 cs1), (6, .int .i64 j_)], [(oq, ⟨1, List.map (encL rn 1 encInt) s2⟩)]⟩) (fun ⟨⟨s2, i1⟩, _⟩ => ((s2, i1) = j0)) ?_ ?_
     ·
      refine V.block ?_
      refine V.seq ?_
      replace hm2 := asrt_some hm2; rcases hm2 with ⟨hh1, hm2⟩
      refine V.region ?_
      refine VO.cons rfl (V1.move rfl rfl rfl lt0 ?_)
      refine VO.cons rfl (V1.move rfl rfl rfl lt0 ?_)
      refine VO.cons rfl (V1.indexSr rfl rfl esz_24 rfl rfl hh1 lt0 ?_)
      refine VO.cons rfl (V1.loadMap (k := 0) (f := (encL rn 1 encInt)) rfl rfl tyk_38 rfl rfl (by simpa using natLt hh1.1 hh1.2) rfl lt0 ?_)
      refine VO.cons rfl (V1.assign rfl rfl rfl lt0 ?_)
      refine VO.nil ?_
      refine V.keep 42 [0, 1, 5, 6, 7] [0] (E0 := [(0, .sref oq 1 0 (List.length s1)), (1, .fn f1 cs1), (5, .int .i64 i0), (6, .int .i64 j_), (7, .vl rn 1 (List.map encInt (s1.getD (Int.toNat j_) default)))]) (H0 := [(oq, ⟨1, List.map (encL rn 1 encInt) s1⟩)]) rfl (⟨_, _, rfl, rfl, _, _, rfl, rfl, _, _, rfl, rfl, _, _, rfl, rfl, _, _, rfl, rfl, rfl⟩) (⟨_, _, rfl, rfl, rfl⟩) rfl ?_
      refine V.seq ?_
      replace hm2 := bindO hm2; rcases hm2 with ⟨y2, hh2, hm2⟩
      refine V.region ?_
      refine VO.cons rfl (V1.move rfl rfl rfl lt0 ?_)
      refine VO.cons rfl (V1.move rfl rfl rfl lt0 ?_)
      refine VO.cons rfl (V1.callG (τ := 0) (Bw := []) rfl lt0 (run_callFn rfl rfl rfl hok1 rfl) (.refl _) (Lends.same _) (fun _ h => by cases h) ((hf1 _  _) hh2) (.inl rfl) (.inl rfl) ?_)
      rintro _ _ ⟨rfl, rfl⟩
      refine VO.cons rfl (V1.not rfl rfl rfl lt0 ?_)
      refine VO.nil ?_
      refine V.cond rfl (fun hc2 => ?_) (fun hc2 => ?_)
      ·
       replace hm2 := cond_t hc2 hm2
       refine V.seq ?_
       replace hm2 := asrt_some hm2; rcases hm2 with ⟨hh3, hm2⟩
       refine V.region ?_
       refine VO.cons rfl (V1.move rfl rfl rfl lt0 ?_)
       refine VO.cons rfl (V1.move rfl rfl rfl lt0 ?_)
       refine VO.cons rfl (V1.move rfl rfl rfl lt0 ?_)
       refine VO.cons rfl (V1.indexSr rfl rfl esz_24 rfl rfl hh3 lt0 ?_)
       refine VO.cons rfl (V1.storeMap (k := 0) (f := (encL rn 1 encInt)) (x := (s1.getD (Int.toNat j_) default)) rfl rfl tyk_38 rfl rfl (by simpa using natLt hh3.1 hh3.2) rfl rfl ?_)
       refine VO.weakenK (Keeps.say 0 (y := .sref oq 1 0 (List.length (s1.set (Int.toNat i0) (s1.getD (Int.toNat j_) default)))) rfl (by simp [optS])) ?_
       refine VO.nil ?_
       refine V.keep 42 [0, 1, 5, 6] [0] (E0 := [(0, .sref oq 1 0 (List.length (s1.set (Int.toNat i0) (s1.getD (Int.toNat j_) default)))), (1, .fn f1 cs1), (5, .int .i64 i0), (6, .int .i64 j_)]) (H0 := [(oq, ⟨1, List.map (encL rn 1 encInt) (s1.set (Int.toNat i0) (s1.getD (Int.toNat j_) default))⟩)]) rfl (⟨_, _, rfl, rfl, _, _, rfl, rfl, _, _, rfl, rfl, _, _, rfl, rfl, rfl⟩) (⟨_, _, rfl, rfl, rfl⟩) rfl ?_
       refine V.region ?_
       refine VO.cons rfl (V1.move rfl rfl rfl lt0 ?_)
       refine VO.cons rfl (V1.int rfl rfl rfl rfl rfl lt0 ?_)
       refine VO.cons rfl (V1.assign rfl rfl rfl lt0 ?_)
       refine VO.nil ?_
       exact ⟨(((s1.set (Int.toNat i0) (s1.getD (Int.toNat j_) default)), (IntKind.i64.wrap (i0 + (1 : Int)))), ()), Option.some.inj hm2, Keeps.mk (ks := [0]) rfl ⟨(someSref (by simp)), rfl, rfl, rfl, trivial⟩ (⟨_, _, rfl, rfl, rfl⟩) rfl⟩
      ·
       replace hm2 := cond_f hc2 hm2
       refine V.skip ?_
       exact ⟨((s1, i0), ()), Option.some.inj hm2, Keeps.mk (ks := [0]) rfl ⟨(someSref (by simp)), rfl, rfl, rfl, trivial⟩ (⟨_, _, rfl, rfl, rfl⟩) rfl⟩
     ·
      rintro ⟨⟨s2, i1⟩, _⟩ rfl
      try dsimp only at hm1
      refine V.region ?_
      refine VO.cons rfl (V1.move rfl rfl rfl lt0 ?_)
      refine VO.cons rfl (V1.int rfl rfl rfl rfl rfl lt0 ?_)
      refine VO.cons rfl (V1.assign rfl rfl rfl lt0 ?_)
      refine VO.nil ?_
      exact ⟨(m0, (s2, i1, (IntKind.i64.wrap (j_ + (1 : Int)))), ()), hl1 _ (Option.some.inj hm1).symm, Nat.lt_succ_self _, Keeps.mk (ks := [0]) rfl ⟨(someSref (by simp)), rfl, rfl, rfl, trivial⟩ (⟨_, _, rfl, rfl, rfl⟩) rfl⟩
    ·
     replace hm1 := cond_f hc1 hm1
     refine V.exit ?_
     obtain rfl := hr1 _ (Option.some.inj hm1).symm
     exact ⟨((s1, i0), ()), rfl, Keeps.mk (ks := [0]) rfl ⟨(someSref (by simp)), rfl, trivial⟩ (⟨_, _, rfl, rfl, rfl⟩) rfl⟩
   ·
    rintro ⟨⟨s0, i⟩, _⟩ rfl
    try dsimp only at hm0
    refine V.seq ?_
    replace hm0 := asrt_some hm0; rcases hm0 with ⟨hh4, hm0⟩
    replace hm0 := asrt_some hm0; rcases hm0 with ⟨hh5, hm0⟩
    refine V.region ?_
    refine VO.cons rfl (V1.move rfl rfl rfl lt0 ?_)
    refine VO.cons rfl (V1.move rfl rfl rfl lt0 ?_)
    refine VO.cons rfl (V1.sliceSw (a := i) (c := (((List.length s0) : Nat) : Int)) rfl rfl esz_24 rfl (Bnd.some rfl hh4.1 _) (Bnd.none _ _) hh4 lt0 ?_)
    refine VO.cons rfl (V1.clearSw (k := 0) (f := (encL rn 1 encInt)) (l := s0) (z := ([] : List Int)) rfl rfl rfl rfl rfl esz_24 zk_38 (.nils (l := ([] : List Int)) (f := encInt) rn 1 rfl rfl) rfl rfl hh5 ?_)
    refine VO.weakenK (Keeps.say 0 (y := .sref oq 1 0 (List.length (List.take (0 + Int.toNat i) s0 ++ List.replicate (Int.toNat (((List.length s0) : Nat) : Int) - Int.toNat i) ([] : List Int) ++ List.drop ((0 + Int.toNat i) + (Int.toNat (((List.length s0) : Nat) : Int) - Int.toNat i)) s0))) rfl (congrArg (PV.sref oq 1 0) (segLen (z := ([] : List Int)) hh5))) ?_
    refine VO.nil ?_
    refine V.seq ?_
    replace hm0 := asrt_some hm0; rcases hm0 with ⟨hh6, hm0⟩
    refine V.region ?_
    refine VO.cons rfl (V1.move rfl rfl rfl lt0 ?_)
    refine VO.cons rfl (V1.move rfl rfl rfl lt0 ?_)
    refine VO.cons rfl (V1.sliceSw (a := (0 : Int)) (c := i) rfl rfl esz_24 rfl (Bnd.none _ _) (Bnd.some rfl (Int.le_trans hh6.1 hh6.2.1) _) hh6 lt0 ?_)
    refine VO.cons rfl (V1.assign rfl rfl rfl lt0 ?_)
    refine VO.nil ?_
    replace hm0 := asrt_some hm0; rcases hm0 with ⟨hh7, hm0⟩
    refine V.weakenK (Keeps.cut 4 0 (Int.toNat i - Int.toNat (0 : Int)) (f := (encL rn 1 encInt)) (l := (List.take (0 + Int.toNat i) s0 ++ List.replicate (Int.toNat (((List.length s0) : Nat) : Int) - Int.toNat i) ([] : List Int) ++ List.drop ((0 + Int.toNat i) + (Int.toNat (((List.length s0) : Nat) : Int) - Int.toNat i)) s0)) rfl rfl hh7) ?_
    refine V.keep 42 [4] [0] (E0 := [(4, .sref oq 1 0 (List.length (List.take (Int.toNat i - Int.toNat (0 : Int)) (List.take (0 + Int.toNat i) s0 ++ List.replicate (Int.toNat (((List.length s0) : Nat) : Int) - Int.toNat i) ([] : List Int) ++ List.drop ((0 + Int.toNat i) + (Int.toNat (((List.length s0) : Nat) : Int) - Int.toNat i)) s0))))]) (H0 := [(oq, ⟨1, List.map (encL rn 1 encInt) (List.take (Int.toNat i - Int.toNat (0 : Int)) (List.take (0 + Int.toNat i) s0 ++ List.replicate (Int.toNat (((List.length s0) : Nat) : Int) - Int.toNat i) ([] : List Int) ++ List.drop ((0 + Int.toNat i) + (Int.toNat (((List.length s0) : Nat) : Int) - Int.toNat i)) s0))⟩)]) rfl (⟨_, _, rfl, rfl, rfl⟩) (⟨_, _, rfl, rfl, rfl⟩) rfl ?_
    refine V.ret ?_
    obtain rfl := Option.some.inj hm0
    exact ⟨_, _, ⟨_, _, rfl, rfl, rfl⟩, List.Sublist.refl _, some oq, (fun e => by cases e), rfl, rfl⟩

theorem okd_slices_DeleteFunc_int_int {rn : Nat} {oq : Option Nat} {ts : List PV} {T : List (Nat × Obj')} {s : List (List Int)} {f1 : Nat} {cs1 : List PV} {r : List (List Int)} {fm : (List Int) → Option Bool} (h : M.slices_DeleteFunc_int_int s fm = some r) (hoq : oq = none → s = []) (hD : Deep 1 (fun c_ : List Int => List.map encInt c_) ts T s) (hok1 : callOK Try.prog f1 = true) (hf1 : ∀ x0 r, fm x0 = some r → Does Try.prog f1 (.vl (rn + 1) 1 (List.map encInt x0) :: cs1) [] rn (fun x H => x = .bool r ∧ H = [])) : Does Try.prog 17 [optS 1 oq (List.length s), .fn f1 cs1] (optH 1 oq (deepC (cellRow (β := Int)) ts s) ++ T) rn (fun x H => ∃ (ob1 : Option Nat) (ts' : List PV) (os' : List (Nat × Obj')), (ob1 = none → r = []) ∧ Deep 1 (fun c_ : List Int => List.map encInt c_) ts' os' r ∧ x = optS 1 ob1 (List.length r) ∧ H = optH 1 ob1 (deepC (cellRow (β := Int)) ts' r) ++ os') := by
 rcases oq with _ | oq
 ·
  obtain rfl := hoq rfl
  obtain ⟨rfl, rfl⟩ := Deep.nil rfl hD
  have hz : ∀ fm', M.slices_DeleteFunc_int_int [] fm' = some [] := fun fm' => by
   have hz_ : M.slices_IndexFunc_int_int [] fm' = some (-1) := by unfold M.slices_IndexFunc_int_int; rw [iterO_now (e := .inl ()) (by unfold M.slices_IndexFunc_int_int_l0; rfl)]; rfl
   unfold M.slices_DeleteFunc_int_int
   rw [hz_]; rfl
  obtain rfl : [] = r := Option.some.inj ((hz fm).symm.trans h)
  refine (ok_slices_DeleteFunc_int_int (oq := none) (hz (fun _ => none)) (fun _ => rfl) hok1 (fun _ _ h => by cases h)).mono ?_
  rintro x H ⟨ob0, _, rfl, rfl⟩
  exact ⟨ob0, [], [], (fun _ => rfl), Deep.empty, rfl, (List.append_nil _).symm⟩
 ·
  have hz := zip_fst hD.length
  obtain ⟨ps, hps⟩ : ∃ ps, ps = ts.zip s := ⟨_, rfl⟩
  rw [← hps] at hz
  obtain ⟨rp, hm0, rfl⟩ := delF_map (g := Prod.snd) rfl (z := ((.nils, []) : PV × List Int)) (ps := ps) (fm := fm) (by rw [hz.2]; exact h)
  have hidx : M.slices_IndexFunc_int_int s fm = idxF ps (fun p_ : PV × List Int => fm p_.2) := by
   have := idxF_map (g := Prod.snd) rfl ps fm
   rw [hz.2] at this; exact this
  have hall : ∀ p_, p_ ∈ ps → Held 1 encInt T p_ := fun p_ hp => Held.ofDeep hD p_ (hps ▸ hp)
  obtain ⟨os2, ho1, ho2⟩ := Deep.subPairs hD (hps ▸ delF_sub hm0)
  have hlen : s.length = ps.length := by rw [← hz.2, List.length_map]
  have hrow : deepC (cellRow (β := Int)) ts s = List.map Prod.fst ps := by rw [← hz.1, ← hz.2]; exact deepRow ps
  clear h hz
  unfold delF at hm0
  try dsimp only at hm0
  refine Does.intro (N := 42) Try.func17 rfl rfl rfl rfl ?_
  intro w0 S0 L0
  refine V.seq ?_
  refine V.region ?_
  refine VO.cons rfl (V1.assign rfl rfl rfl lt0 ?_)
  refine VO.nil ?_
  refine V.seq ?_
  replace hm0 := bindO hm0; rcases hm0 with ⟨y0, hh0, hm0⟩
  refine V.region ?_
  refine VO.cons rfl (V1.move rfl rfl rfl lt0 ?_)
  refine VO.cons rfl (V1.move rfl rfl rfl lt0 ?_)
  refine VO.cons rfl (V1.callL (rn + 1) ([oq] ++ List.map Prod.fst T) [.vl (rn + 1) 1 (List.map (encL (rn + 1) 1 encInt) s), .fn f1 cs1] rfl rfl rfl cok_28 rfl ⟨_, _, rfl, Lend.deep (m := 1) (inn := (fun c_ : List Int => List.map encInt c_)) (cell := (cellRow (β := Int))) (cokRow 1 encInt) (ts := ts) (os := T) (xs := s) 0 hD rfl (fun _ => roL_map (fun _ => rfl) _) rfl (fun p hp => memTail (A := [(oq, ⟨1, deepC (cellRow (β := Int)) ts s⟩)]) (T := T) hp rfl) (List.mem_append_left _ (.head _)) (fun p hp => List.mem_append_right _ (List.mem_map.2 ⟨p, hp, rfl⟩)), ⟨_, _, rfl, .same _, rfl⟩⟩ (bwTail (A := [(oq, ⟨1, deepC (cellRow (β := Int)) ts s⟩)]) (T := T) rfl (bwCons (k := 0) rfl bwNil) (fun p hp => hp)) (ok_slices_IndexFunc_int_int (hidx.trans hh0) (fm := fm) hok1 hf1) rfl (⟨(by first | omega | (dsimp only; omega)), by rintro _ _ ⟨rfl, rfl⟩; exact ⟨rfl, by simp⟩⟩) lt0 ?_)
  rintro _ _ ⟨rfl, rfl⟩
  refine VO.cons rfl (V1.assign rfl rfl rfl lt0 ?_)
  refine VO.nil ?_
  refine V.keepT 42 [0, 1, 5] [0] (E0 := [(0, .sref oq 1 0 (List.length s)), (1, .fn f1 cs1), (5, .int .i64 y0)]) (A := [(oq, ⟨1, deepC (cellRow (β := Int)) ts s⟩)]) (T := T) (H0 := [(oq, ⟨1, deepC (cellRow (β := Int)) ts s⟩)]) (T' := T) rfl (⟨_, _, rfl, rfl, _, _, rfl, rfl, _, _, rfl, rfl, rfl⟩) rfl (⟨_, _, rfl, rfl, rfl⟩) rfl (List.Sublist.refl _) ?_
  refine V.weakenK (Keeps.say 0 (y := .sref oq 1 0 (List.length ps)) rfl (by rw [hlen])) ?_
  refine V.weakenK (Keeps.sayObj 0 (ys := List.map Prod.fst ps) rfl hrow) ?_
  refine V.seq ?_
  refine V.seq ?_
  refine V.region ?_
  refine VO.cons rfl (V1.move rfl rfl rfl lt0 ?_)
  refine VO.cons rfl (V1.int rfl rfl rfl rfl rfl lt0 ?_)
  refine VO.nil ?_
  refine V.cond rfl (fun hc0 => ?_) (fun hc0 => ?_)
  ·
   replace hm0 := cond_t hc0 hm0
   refine V.seq ?_
   refine V.region ?_
   refine VO.cons rfl (V1.move rfl rfl rfl lt0 ?_)
   refine VO.cons rfl (V1.assign rfl rfl rfl lt0 ?_)
   refine VO.nil ?_
   refine V.keepT 42 [4] [0] (E0 := [(4, .sref oq 1 0 (List.length ps))]) (A := [(oq, ⟨1, List.map (Prod.fst : PV × List Int → PV) ps⟩)]) (T := T) (H0 := [(oq, ⟨1, List.map (Prod.fst : PV × List Int → PV) ps⟩)]) (T' := T) rfl (⟨_, _, rfl, rfl, rfl⟩) rfl (⟨_, _, rfl, rfl, rfl⟩) rfl (List.Sublist.refl _) ?_
   refine V.ret ?_
   obtain rfl := Option.some.inj hm0
   exact ⟨_, _, ⟨_, _, rfl, rfl, rfl⟩, (List.Sublist.refl _).append ho1, some oq, _, os2, (fun e => by cases e), ho2, (by rw [List.length_map]; rfl), (by rw [deepRow]; rfl)⟩
  ·
   replace hm0 := cond_f hc0 hm0
   refine V.skip ?_
   refine V.seq ?_
   refine V.seq ?_
   refine V.region ?_
   refine VO.cons rfl (V1.move rfl rfl rfl lt0 ?_)
   refine VO.cons rfl (V1.int rfl rfl rfl rfl rfl lt0 ?_)
   refine VO.cons rfl (V1.assign rfl rfl rfl lt0 ?_)
   refine VO.nil ?_
   refine V.keepT 42 [0, 1, 5, 6] [0] (E0 := [(0, .sref oq 1 0 (List.length ps)), (1, .fn f1 cs1), (5, .int .i64 y0), (6, .int .i64 (IntKind.i64.wrap (y0 + (1 : Int))))]) (A := [(oq, ⟨1, List.map (Prod.fst : PV × List Int → PV) ps⟩)]) (T := T) (H0 := [(oq, ⟨1, List.map (Prod.fst : PV × List Int → PV) ps⟩)]) (T' := T) rfl (⟨_, _, rfl, rfl, _, _, rfl, rfl, _, _, rfl, rfl, _, _, rfl, rfl, rfl⟩) rfl (⟨_, _, rfl, rfl, rfl⟩) rfl (List.Sublist.refl _) ?_
   replace hm0 := bindO hm0; rcases hm0 with ⟨e0, he1, hm0⟩
   refine V.cutT (D := (List (PV × List Int) × Int) × (Unit)) (fun ⟨⟨s0, i⟩, _⟩ => ⟨42, [(0, .sref oq 1 0 (List.length s0)), (5, .int .i64 i)], [(oq, ⟨1, List.map (Prod.fst : PV × List Int → PV) s0⟩)] ++ T⟩) (fun ⟨⟨s0, i⟩, _⟩ => ((s0, i) = e0)) ?_ ?_
   ·
    refine V.block ?_
    refine V.keepT 42 [0, 5, 6, 1] [0] (E0 := [(0, .sref oq 1 0 (List.length ps)), (5, .int .i64 y0), (6, .int .i64 (IntKind.i64.wrap (y0 + (1 : Int)))), (1, .fn f1 cs1)]) (A := [(oq, ⟨1, List.map (Prod.fst : PV × List Int → PV) ps⟩)]) (T := T) (H0 := [(oq, ⟨1, List.map (Prod.fst : PV × List Int → PV) ps⟩)]) (T' := T) rfl (⟨_, _, rfl, rfl, _, _, rfl, rfl, _, _, rfl, rfl, _, _, rfl, rfl, rfl⟩) rfl (⟨_, _, rfl, rfl, rfl⟩) rfl (List.Sublist.refl _) ?_
    refine V.loopE (D := Nat × (List (PV × List Int) × Int × Int) × (Unit)) (fun ⟨n0, ⟨s1, i0, j_⟩, _⟩ => [(0, .sref oq 1 0 (List.length s1)), (5, .int .i64 i0), (6, .int .i64 j_)]) (fun ⟨n0, ⟨s1, i0, j_⟩, _⟩ => [(oq, ⟨1, List.map (Prod.fst : PV × List Int → PV) s1⟩)]) (fun ⟨n0, ⟨s1, i0, j_⟩, _⟩ => loopO (delF_l0 (fun p_ : PV × List Int => fm p_.2)) n0 (s1, i0, j_) = some e0 ∧ ∀ p_, p_ ∈ s1 → Held 1 encInt T p_) (fun ⟨n0, _, _⟩ => n0) (rounds, (ps, y0, (IntKind.i64.wrap (y0 + (1 : Int)))), ()) rfl ⟨he1, hall⟩ ?_
    rintro ⟨n0, ⟨s1, i0, j_⟩, _⟩ ⟨hP0, hA0⟩
    obtain ⟨m0, y1, rfl, hm1, hl1, hr1⟩ := loop_head hP0
    unfold delF_l0 at hm1; dsimp only at hm1
    show V _ _ _ ⟨42, [(0, .sref oq 1 0 (List.length s1)), (5, .int .i64 i0), (6, .int .i64 j_), (1, .fn f1 cs1)], [(oq, ⟨1, List.map (Prod.fst : PV × List Int → PV) s1⟩)] ++ T⟩
    refine V.seq ?_
    refine V.seq ?_
    refine V.region ?_
    refine VO.cons rfl (V1.move rfl rfl rfl lt0 ?_)
    refine VO.cons rfl (V1.move rfl rfl rfl lt0 ?_)
    refine VO.cons rfl (V1.lenSref rfl rfl rfl rfl rfl rfl isl_24 lt0 ?_)
    refine VO.cons rfl (V1.int rfl rfl rfl rfl rfl lt0 ?_)
    refine VO.nil ?_
    refine V.cond rfl (fun hc1 => ?_) (fun hc1 => ?_)
    ·
     replace hm1 := cond_t hc1 hm1
     refine V.skip ?_
     refine V.keepT 42 [0, 1, 5, 6] [0] (E0 := [(0, .sref oq 1 0 (List.length s1)), (1, .fn f1 cs1), (5, .int .i64 i0), (6, .int .i64 j_)]) (A := [(oq, ⟨1, List.map (Prod.fst : PV × List Int → PV) s1⟩)]) (T := T) (H0 := [(oq, ⟨1, List.map (Prod.fst : PV × List Int → PV) s1⟩)]) (T' := T) rfl (⟨_, _, rfl, rfl, _, _, rfl, rfl, _, _, rfl, rfl, _, _, rfl, rfl, rfl⟩) rfl (⟨_, _, rfl, rfl, rfl⟩) rfl (List.Sublist.refl _) ?_
     refine V.seq ?_
     replace hm1 := bindO hm1; rcases hm1 with ⟨j0, hm2, hm1⟩
     refine V.cutT (D := (List (PV × List Int) × Int) × (Unit)) (fun ⟨⟨s2, i1⟩, _⟩ => ⟨42, [(0, .sref oq 1 0 (List.length s2)), (5, .int .i64 i1), (1, .fn f1 cs1), (6, .int .i64 j_)], [(oq, ⟨1, List.map (Prod.fst : PV × List Int → PV) s2⟩)] ++ T⟩) (fun ⟨⟨s2, i1⟩, _⟩ => ((s2, i1) = j0 ∧ ∀ p_, p_ ∈ s2 → Held 1 encInt T p_)) ?_ ?_
     ·
      refine V.block ?_
      refine V.seq ?_
      replace hm2 := asrt_some hm2; rcases hm2 with ⟨hh1, hm2⟩
      refine V.region ?_
      refine VO.cons rfl (V1.move rfl rfl rfl lt0 ?_)
      refine VO.cons rfl (V1.move rfl rfl rfl lt0 ?_)
      refine VO.cons rfl (V1.indexSr rfl rfl esz_24 rfl rfl hh1 lt0 ?_)
      have hx0 := heldAt hA0 hh1
      refine VO.cons rfl (V1.loadMap (k := 0) (f := (Prod.fst : PV × List Int → PV)) rfl rfl tyk_38 rfl rfl (by simpa using natLt hh1.1 hh1.2) (Held.cells hx0) lt0 ?_)
      refine VO.cons rfl (V1.assign rfl rfl rfl lt0 ?_)
      refine VO.nil ?_
      refine V.keepT 42 [0, 1, 5, 6, 7] [0] (E0 := [(0, .sref oq 1 0 (List.length s1)), (1, .fn f1 cs1), (5, .int .i64 i0), (6, .int .i64 j_), (7, (s1.getD (Int.toNat j_) default).1)]) (A := [(oq, ⟨1, List.map (Prod.fst : PV × List Int → PV) s1⟩)]) (T := T) (H0 := [(oq, ⟨1, List.map (Prod.fst : PV × List Int → PV) s1⟩)]) (T' := T) rfl (⟨_, _, rfl, rfl, _, _, rfl, rfl, _, _, rfl, rfl, _, _, rfl, rfl, _, _, rfl, rfl, rfl⟩) rfl (⟨_, _, rfl, rfl, rfl⟩) rfl (List.Sublist.refl _) ?_
      refine V.seq ?_
      replace hm2 := bindO hm2; rcases hm2 with ⟨y2, hh2, hm2⟩
      refine V.region ?_
      refine VO.cons rfl (V1.move rfl rfl rfl lt0 ?_)
      refine VO.cons rfl (V1.move rfl rfl rfl lt0 ?_)
      refine VO.cons rfl (V1.callHeld (m := 1) (f := encInt) (τ := rn + 1) (T := T) rfl rfl rfl rfl hok1 rfl (by decide) (fun _ => rfl) hx0 (fun q hq => List.mem_append_right _ hq) ((hf1 _ _) hh2) (by first | omega | (dsimp only; omega)) (.inl rfl) lt0 ?_)
      refine VO.cons rfl (V1.not rfl rfl rfl lt0 ?_)
      refine VO.nil ?_
      refine V.cond rfl (fun hc2 => ?_) (fun hc2 => ?_)
      ·
       replace hm2 := cond_t hc2 hm2
       refine V.seq ?_
       replace hm2 := asrt_some hm2; rcases hm2 with ⟨hh3, hm2⟩
       refine V.region ?_
       refine VO.cons rfl (V1.move rfl rfl rfl lt0 ?_)
       refine VO.cons rfl (V1.move rfl rfl rfl lt0 ?_)
       refine VO.cons rfl (V1.move rfl rfl rfl lt0 ?_)
       refine VO.cons rfl (V1.indexSr rfl rfl esz_24 rfl rfl hh3 lt0 ?_)
       refine VO.cons rfl (V1.storeMap (k := 0) (f := (Prod.fst : PV × List Int → PV)) (x := (s1.getD (Int.toNat j_) default)) rfl rfl tyk_38 rfl rfl (by simpa using natLt hh3.1 hh3.2) rfl (Held.good hx0) ?_)
       refine VO.weakenK (Keeps.say 0 (y := .sref oq 1 0 (List.length (s1.set (Int.toNat i0) (s1.getD (Int.toNat j_) default)))) rfl (by simp [optS])) ?_
       refine VO.nil ?_
       refine V.keepT 42 [0, 1, 5, 6] [0] (E0 := [(0, .sref oq 1 0 (List.length (s1.set (Int.toNat i0) (s1.getD (Int.toNat j_) default)))), (1, .fn f1 cs1), (5, .int .i64 i0), (6, .int .i64 j_)]) (A := [(oq, ⟨1, List.map (Prod.fst : PV × List Int → PV) (s1.set (Int.toNat i0) (s1.getD (Int.toNat j_) default))⟩)]) (T := T) (H0 := [(oq, ⟨1, List.map (Prod.fst : PV × List Int → PV) (s1.set (Int.toNat i0) (s1.getD (Int.toNat j_) default))⟩)]) (T' := T) rfl (⟨_, _, rfl, rfl, _, _, rfl, rfl, _, _, rfl, rfl, _, _, rfl, rfl, rfl⟩) rfl (⟨_, _, rfl, rfl, rfl⟩) rfl (List.Sublist.refl _) ?_
       refine V.region ?_
       refine VO.cons rfl (V1.move rfl rfl rfl lt0 ?_)
       refine VO.cons rfl (V1.int rfl rfl rfl rfl rfl lt0 ?_)
       refine VO.cons rfl (V1.assign rfl rfl rfl lt0 ?_)
       refine VO.nil ?_
       exact ⟨(((s1.set (Int.toNat i0) (s1.getD (Int.toNat j_) default)), (IntKind.i64.wrap (i0 + (1 : Int)))), ()), ⟨Option.some.inj hm2, heldSet hA0 (natLt hh1.1 hh1.2)⟩, Keeps.mkT (T := T) (ks := [0]) rfl (by exact ⟨(someSref (by simp)), rfl, rfl, rfl, trivial⟩) rfl (by exact (⟨_, _, rfl, rfl, rfl⟩)) rfl (List.Sublist.refl _)⟩
      ·
       replace hm2 := cond_f hc2 hm2
       refine V.skip ?_
       exact ⟨((s1, i0), ()), ⟨Option.some.inj hm2, hA0⟩, Keeps.mkT (T := T) (ks := [0]) rfl (by exact ⟨(someSref (by simp)), rfl, rfl, rfl, trivial⟩) rfl (by exact (⟨_, _, rfl, rfl, rfl⟩)) rfl (List.Sublist.refl _)⟩
     ·
      rintro ⟨⟨s2, i1⟩, _⟩ ⟨rfl, hA1⟩
      try dsimp only at hm1
      refine V.region ?_
      refine VO.cons rfl (V1.move rfl rfl rfl lt0 ?_)
      refine VO.cons rfl (V1.int rfl rfl rfl rfl rfl lt0 ?_)
      refine VO.cons rfl (V1.assign rfl rfl rfl lt0 ?_)
      refine VO.nil ?_
      exact ⟨(m0, (s2, i1, (IntKind.i64.wrap (j_ + (1 : Int)))), ()), ⟨hl1 _ (Option.some.inj hm1).symm, hA1⟩, Nat.lt_succ_self _, Keeps.mkT (T := T) (ks := [0]) rfl (by exact ⟨(someSref (by simp)), rfl, rfl, rfl, trivial⟩) rfl (by exact (⟨_, _, rfl, rfl, rfl⟩)) rfl (List.Sublist.refl _)⟩
    ·
     replace hm1 := cond_f hc1 hm1
     refine V.exit ?_
     obtain rfl := hr1 _ (Option.some.inj hm1).symm
     exact ⟨((s1, i0), ()), rfl, Keeps.mkT (T := T) (ks := [0]) rfl (by exact ⟨(someSref (by simp)), rfl, trivial⟩) rfl (by exact (⟨_, _, rfl, rfl, rfl⟩)) rfl (List.Sublist.refl _)⟩
   ·
    rintro ⟨⟨s0, i⟩, _⟩ rfl
    try dsimp only at hm0
    refine V.seq ?_
    replace hm0 := asrt_some hm0; rcases hm0 with ⟨hh4, hm0⟩
    replace hm0 := asrt_some hm0; rcases hm0 with ⟨hh5, hm0⟩
    refine V.region ?_
    refine VO.cons rfl (V1.move rfl rfl rfl lt0 ?_)
    refine VO.cons rfl (V1.move rfl rfl rfl lt0 ?_)
    refine VO.cons rfl (V1.sliceSw (a := i) (c := (((List.length s0) : Nat) : Int)) rfl rfl esz_24 rfl (Bnd.some rfl hh4.1 _) (Bnd.none _ _) hh4 lt0 ?_)
    refine VO.cons rfl (V1.clearSw (k := 0) (f := (Prod.fst : PV × List Int → PV)) (l := s0) (z := ((.nils, []) : PV × List Int)) rfl rfl rfl rfl rfl esz_24 zk_38 .same rfl rfl hh5 ?_)
    refine VO.weakenK (Keeps.say 0 (y := .sref oq 1 0 (List.length (List.take (0 + Int.toNat i) s0 ++ List.replicate (Int.toNat (((List.length s0) : Nat) : Int) - Int.toNat i) ((.nils, []) : PV × List Int) ++ List.drop ((0 + Int.toNat i) + (Int.toNat (((List.length s0) : Nat) : Int) - Int.toNat i)) s0))) rfl (congrArg (PV.sref oq 1 0) (segLen (z := ((.nils, []) : PV × List Int)) hh5))) ?_
    refine VO.nil ?_
    refine V.seq ?_
    replace hm0 := asrt_some hm0; rcases hm0 with ⟨hh6, hm0⟩
    refine V.region ?_
    refine VO.cons rfl (V1.move rfl rfl rfl lt0 ?_)
    refine VO.cons rfl (V1.move rfl rfl rfl lt0 ?_)
    refine VO.cons rfl (V1.sliceSw (a := (0 : Int)) (c := i) rfl rfl esz_24 rfl (Bnd.none _ _) (Bnd.some rfl (Int.le_trans hh6.1 hh6.2.1) _) hh6 lt0 ?_)
    refine VO.cons rfl (V1.assign rfl rfl rfl lt0 ?_)
    refine VO.nil ?_
    replace hm0 := asrt_some hm0; rcases hm0 with ⟨hh7, hm0⟩
    refine V.weakenK (Keeps.cut 4 0 (Int.toNat i - Int.toNat (0 : Int)) (f := (Prod.fst : PV × List Int → PV)) (l := (List.take (0 + Int.toNat i) s0 ++ List.replicate (Int.toNat (((List.length s0) : Nat) : Int) - Int.toNat i) ((.nils, []) : PV × List Int) ++ List.drop ((0 + Int.toNat i) + (Int.toNat (((List.length s0) : Nat) : Int) - Int.toNat i)) s0)) rfl rfl hh7) ?_
    refine V.keepT 42 [4] [0] (E0 := [(4, .sref oq 1 0 (List.length (List.take (Int.toNat i - Int.toNat (0 : Int)) (List.take (0 + Int.toNat i) s0 ++ List.replicate (Int.toNat (((List.length s0) : Nat) : Int) - Int.toNat i) ((.nils, []) : PV × List Int) ++ List.drop ((0 + Int.toNat i) + (Int.toNat (((List.length s0) : Nat) : Int) - Int.toNat i)) s0))))]) (A := [(oq, ⟨1, List.map (Prod.fst : PV × List Int → PV) (List.take (Int.toNat i - Int.toNat (0 : Int)) (List.take (0 + Int.toNat i) s0 ++ List.replicate (Int.toNat (((List.length s0) : Nat) : Int) - Int.toNat i) ((.nils, []) : PV × List Int) ++ List.drop ((0 + Int.toNat i) + (Int.toNat (((List.length s0) : Nat) : Int) - Int.toNat i)) s0))⟩)]) (T := T) (H0 := [(oq, ⟨1, List.map (Prod.fst : PV × List Int → PV) (List.take (Int.toNat i - Int.toNat (0 : Int)) (List.take (0 + Int.toNat i) s0 ++ List.replicate (Int.toNat (((List.length s0) : Nat) : Int) - Int.toNat i) ((.nils, []) : PV × List Int) ++ List.drop ((0 + Int.toNat i) + (Int.toNat (((List.length s0) : Nat) : Int) - Int.toNat i)) s0))⟩)]) (T' := T) rfl (⟨_, _, rfl, rfl, rfl⟩) rfl (⟨_, _, rfl, rfl, rfl⟩) rfl (List.Sublist.refl _) ?_
    refine V.ret ?_
    obtain rfl := Option.some.inj hm0
    exact ⟨_, _, ⟨_, _, rfl, rfl, rfl⟩, (List.Sublist.refl _).append ho1, some oq, _, os2, (fun e => by cases e), ho2, (by rw [List.length_map]; rfl), (by rw [deepRow]; rfl)⟩

theorem ok_impl_BrokenSeals {ρ0 rn : Nat} {list : List Hand} {r : List (List Int) × Bool} (h : M.impl_BrokenSeals list = some r) : Does Try.prog 7 [.vl ρ0 6 (List.map encHand list)] [] rn (fun x H => ∃ (ob0_ : Option Nat), (ob0_ = none → r.1 = []) ∧ x = .tup [optS 1 ob0_ (List.length r.1), .bool r.2] ∧ H = optH 1 ob0_ (List.map (encL rn 1 encInt) r.1)) := by
 have hm0 := h; clear h; unfold M.impl_BrokenSeals at hm0
 try dsimp only at hm0
 refine Does.intro (N := 11) Try.func7 rfl rfl rfl rfl ?_
 intro w0 S0 L0
 refine V.seq ?_
 refine V.region ?_
 refine VO.cons rfl (V1.boxN (n := 1) rfl rfl rfl rfl rfl lt0 ?_)
 intro b0
 refine VO.cons rfl (V1.assign rfl rfl rfl lt0 ?_)
 refine VO.cons rfl (V1.assign rfl rfl rfl lt0 ?_)
 refine VO.nil ?_
 refine V.seq ?_
 refine V.seq ?_
 replace hm0 := bindO hm0; rcases hm0 with ⟨y0, hh0, hm0⟩
 refine V.region ?_
 refine VO.cons rfl (V1.loadRef (k := 0) rfl rfl tyk_27 rfl rfl rfl rfl rfl lt0 ?_)
 refine VO.cons rfl (V1.call rfl rfl rfl cok_16 rfl (ok_impl_IsCustody hh0) rfl lt0 ?_)
 rintro _ _ ⟨rfl, rfl⟩
 refine VO.cons rfl (V1.not rfl rfl rfl lt0 ?_)
 refine VO.nil ?_
 refine V.keep 11 [1, 6] [0] (E0 := [(1, .ref b0 1 0 0), (6, .bool (!y0))]) (H0 := [(b0, ⟨1, [.vl ρ0 6 (List.map encHand list)]⟩)]) rfl (⟨_, _, rfl, rfl, _, _, rfl, rfl, rfl⟩) (⟨_, _, rfl, rfl, rfl⟩) rfl ?_
 refine V.cond rfl (fun hc0 => ?_) (fun hc0 => ?_)
 ·
  replace hm0 := cond_t hc0 hm0
  refine V.seq ?_
  refine V.region ?_
  refine VO.cons rfl (V1.assign rfl rfl rfl lt0 ?_)
  refine VO.cons rfl (V1.assign rfl rfl rfl lt0 ?_)
  refine VO.nil ?_
  refine V.keep 11 [2, 3] [] (E0 := [(2, .nils), (3, .bool false)]) (H0 := []) rfl (⟨_, _, rfl, rfl, _, _, rfl, rfl, rfl⟩) (rfl) rfl ?_
  refine V.ret ?_
  obtain rfl := Option.some.inj hm0
  exact ⟨_, _, ⟨_, _, rfl, rfl, _, _, rfl, rfl, rfl⟩, List.Sublist.refl _, none, (fun _ => rfl), rfl, rfl⟩
 ·
  replace hm0 := cond_f hc0 hm0
  refine V.skip ?_
  refine V.seq ?_
  replace hm0 := bindO hm0; rcases hm0 with ⟨y1, hh1, hm0⟩
  replace hm0 := bindO hm0; rcases hm0 with ⟨y2, hh2, hm0⟩
  refine V.region ?_
  refine VO.cons rfl (V1.loadRef (k := 0) rfl rfl tyk_27 rfl rfl rfl rfl rfl lt0 ?_)
  refine VO.cons rfl (V1.permK (V1.call rfl rfl rfl cok_18 rfl (ok_impl_differences hh1) rfl lt0 ?_))
  rintro _ _ ⟨ob0, hob0, rfl, rfl⟩
  refine ⟨_, ?_, Keeps.optBack (n := 1) (ob := ob0) (xs := List.map (encL rn 1 encInt) y1) (H1 := []) (H2 := [(b0, ⟨1, [.vl ρ0 6 (List.map encHand list)]⟩)]) rfl⟩
  refine VO.cons rfl (V1.makeFunc rfl rfl rfl lt0 ?_)
  refine VO.cons rfl (V1.permK (V1.callO (n := 1) (ob := ob0) (xs := List.map (encL rn 1 encInt) y1) (rn + 1) [b0] [optS 1 ob0 (List.length y1), .fn 19 [.pin (rn + 1) (.vl ρ0 6 (List.map encHand list)) 0]] [(b0, ⟨1, [.vl ρ0 6 (List.map encHand list)]⟩)] rfl rfl rfl cok_17 rfl rfl ⟨_, _, rfl, .same _, ⟨_, _, rfl, Lend.fn ⟨_, _, rfl, Lend.ref 0 rfl rfl rfl rfl (.head _), rfl⟩, rfl⟩⟩ (bwCons (k := 0) rfl bwNil) (ok_slices_DeleteFunc_int_int hh2 (oq := ob0) hob0 (fm := (fun x0 => M.impl_BrokenSeals_1 x0 list)) cok_19 (fun _ _ h => ok_impl_BrokenSeals_1 h)) rfl (.inr ⟨(by first | omega | (dsimp only; omega)), by rintro _ _ ⟨ob1, hob1, rfl, rfl⟩; exact ⟨by simp [PV.no, PV.noL, optS_no, noL_iff, nbeq] <;> omega, by intro b ob h; first | exact optH_no (noL_map (fun _ => by simp [PV.no, PV.noL, noL_iff, nbeq]) _) b ob h | (simp only [List.append_assoc, List.mem_append, List.mem_cons, List.mem_singleton, List.not_mem_nil, or_false, Prod.mk.injEq] at h; rcases h with ⟨rfl, rfl⟩ | ⟨rfl, rfl⟩ <;> first | exact noL_map (fun _ => by simp [PV.no, PV.noL, noL_iff, nbeq]) _ | (simp [PV.no, PV.noL, optS_no, noL_iff, nbeq] <;> omega)) | (simp at h; obtain ⟨rfl, rfl⟩ := h; exact noL_map (fun _ => by simp [PV.no, PV.noL, noL_iff, nbeq]) _) | (simp at h; obtain ⟨rfl, rfl⟩ := h; simp [PV.no, PV.noL, optS_no, noL_iff, nbeq] <;> omega)⟩⟩) lt0 ?_))
  rintro _ _ ⟨ob1, hob1, rfl, rfl⟩
  refine ⟨_, ?_, Keeps.optBack (n := 1) (ob := ob1) (xs := List.map (encL rn 1 encInt) y2) (H1 := []) (H2 := [(b0, ⟨1, [.vl ρ0 6 (List.map encHand list)]⟩)]) rfl⟩
  refine VO.cons rfl (V1.assign rfl rfl rfl lt0 ?_)
  refine VO.cons rfl (V1.assign rfl rfl rfl lt0 ?_)
  refine VO.nil ?_
  rcases ob1 with _ | ob1
  ·
   refine V.keep 11 [2, 3] [] (E0 := [(2, .nils), (3, .bool true)]) (H0 := []) rfl (⟨_, _, rfl, rfl, _, _, rfl, rfl, rfl⟩) (rfl) rfl ?_
   refine V.ret ?_
   obtain rfl := Option.some.inj hm0
   exact ⟨_, _, ⟨_, _, rfl, rfl, _, _, rfl, rfl, rfl⟩, List.Sublist.refl _, none, (fun _ => (hob1 rfl)), rfl, rfl⟩
  ·
   refine V.keep 11 [2, 3] [1] (E0 := [(2, .sref ob1 1 0 (List.length y2)), (3, .bool true)]) (H0 := [(ob1, ⟨1, List.map (encL rn 1 encInt) y2⟩)]) rfl (⟨_, _, rfl, rfl, _, _, rfl, rfl, rfl⟩) (⟨_, _, rfl, rfl, rfl⟩) rfl ?_
   refine V.ret ?_
   obtain rfl := Option.some.inj hm0
   exact ⟨_, _, ⟨_, _, rfl, rfl, _, _, rfl, rfl, rfl⟩, List.Sublist.refl _, some ob1, (fun e => by cases e), rfl, rfl⟩

theorem okd_impl_BrokenSeals {ρ0 rn : Nat} {list : List Hand} {r : List (List Int) × Bool} (h : M.impl_BrokenSeals list = some r) : Does Try.prog 7 [.vl ρ0 6 (List.map encHand list)] [] rn (fun x H => ∃ (ob0_ : Option Nat) (ts_ : List PV) (os_ : List (Nat × Obj')), (ob0_ = none → r.1 = []) ∧ (Deep 1 (fun c_ : List Int => List.map encInt c_) ts_ os_ r.1) ∧ x = .tup [optS 1 ob0_ (List.length r.1), .bool r.2] ∧ H = (optH 1 ob0_ (deepC (cellRow (β := Int)) ts_ r.1) ++ os_)) := by
 have hm0 := h; clear h; unfold M.impl_BrokenSeals at hm0
 try dsimp only at hm0
 refine Does.intro (N := 11) Try.func7 rfl rfl rfl rfl ?_
 intro w0 S0 L0
 refine V.seq ?_
 refine V.region ?_
 refine VO.cons rfl (V1.boxN (n := 1) rfl rfl rfl rfl rfl lt0 ?_)
 intro b0
 refine VO.cons rfl (V1.assign rfl rfl rfl lt0 ?_)
 refine VO.cons rfl (V1.assign rfl rfl rfl lt0 ?_)
 refine VO.nil ?_
 refine V.seq ?_
 refine V.seq ?_
 replace hm0 := bindO hm0; rcases hm0 with ⟨y0, hh0, hm0⟩
 refine V.region ?_
 refine VO.cons rfl (V1.loadRef (k := 0) rfl rfl tyk_27 rfl rfl rfl rfl rfl lt0 ?_)
 refine VO.cons rfl (V1.call rfl rfl rfl cok_16 rfl (ok_impl_IsCustody hh0) rfl lt0 ?_)
 rintro _ _ ⟨rfl, rfl⟩
 refine VO.cons rfl (V1.not rfl rfl rfl lt0 ?_)
 refine VO.nil ?_
 refine V.keep 11 [1, 6] [0] (E0 := [(1, .ref b0 1 0 0), (6, .bool (!y0))]) (H0 := [(b0, ⟨1, [.vl ρ0 6 (List.map encHand list)]⟩)]) rfl (⟨_, _, rfl, rfl, _, _, rfl, rfl, rfl⟩) (⟨_, _, rfl, rfl, rfl⟩) rfl ?_
 refine V.cond rfl (fun hc0 => ?_) (fun hc0 => ?_)
 ·
  replace hm0 := cond_t hc0 hm0
  refine V.seq ?_
  refine V.region ?_
  refine VO.cons rfl (V1.assign rfl rfl rfl lt0 ?_)
  refine VO.cons rfl (V1.assign rfl rfl rfl lt0 ?_)
  refine VO.nil ?_
  refine V.keep 11 [2, 3] [] (E0 := [(2, .nils), (3, .bool false)]) (H0 := []) rfl (⟨_, _, rfl, rfl, _, _, rfl, rfl, rfl⟩) (rfl) rfl ?_
  refine V.ret ?_
  obtain rfl := Option.some.inj hm0
  exact ⟨_, _, ⟨_, _, rfl, rfl, _, _, rfl, rfl, rfl⟩, List.Sublist.refl _, none, [], [], (fun _ => rfl), (Deep.ofNil rfl), rfl, rfl⟩
 ·
  replace hm0 := cond_f hc0 hm0
  refine V.skip ?_
  refine V.seq ?_
  replace hm0 := bindO hm0; rcases hm0 with ⟨y1, hh1, hm0⟩
  replace hm0 := bindO hm0; rcases hm0 with ⟨y2, hh2, hm0⟩
  refine V.region ?_
  refine VO.cons rfl (V1.loadRef (k := 0) rfl rfl tyk_27 rfl rfl rfl rfl rfl lt0 ?_)
  refine VO.cons rfl (V1.permK (V1.call rfl rfl rfl cok_18 rfl (okd_impl_differences hh1) rfl lt0 ?_))
  rintro _ _ ⟨ob0, ts_7, os_7, hob0, hd_7, rfl, rfl⟩
  refine ⟨_, ?_, Keeps.perm (optH 1 ob0 (deepC (cellRow (β := Int)) ts_7 y1) ++ (([(b0, ⟨1, [.vl ρ0 6 (List.map encHand list)]⟩)] : List (Nat × Obj')) ++ os_7)) (permDeepO1 (o := optH 1 ob0 (deepC (cellRow (β := Int)) ts_7 y1)) (os := os_7) (A := [(b0, ⟨1, [.vl ρ0 6 (List.map encHand list)]⟩)]))⟩
  refine VO.cons rfl (V1.makeFunc rfl rfl rfl lt0 ?_)
  refine VO.weakenK (Keeps.perm (([(b0, ⟨1, [.vl ρ0 6 (List.map encHand list)]⟩)] : List (Nat × Obj')) ++ (optH 1 ob0 (deepC (cellRow (β := Int)) ts_7 y1) ++ os_7)) (List.perm_append_comm_assoc _ _ _)) ?_
  refine VO.cons rfl (V1.callDelF (m := 1) (inn := (fun c_ : List Int => List.map encInt c_)) (cell := (cellRow (β := Int))) (ts := ts_7) (os := os_7) (xs := y1) (r := y2) (n := 1) (ob := ob0) (A := [(b0, ⟨1, [.vl ρ0 6 (List.map encHand list)]⟩)]) (rn + 1) [b0] [optS 1 ob0 (List.length y1), .fn 19 [.pin (rn + 1) (.vl ρ0 6 (List.map encHand list)) 0]] rfl rfl rfl cok_17 rfl rfl (cokRow 1 encInt) (fun _ => noL_map (fun _ => rfl) _) ⟨_, _, rfl, .same _, ⟨_, _, rfl, Lend.fn ⟨_, _, rfl, Lend.ref 0 rfl rfl rfl rfl (.head _), rfl⟩, rfl⟩⟩ (bwCons (k := 0) rfl bwNil) (okd_slices_DeleteFunc_int_int hh2 hob0 hd_7 cok_19 (fun _ _ h => ok_impl_BrokenSeals_1 h)) rfl (by first | omega | (dsimp only; omega)) lt0 ?_)
  intro ob1 ts_8 os_8 hob1 hd_8
  refine VO.cons rfl (V1.assign rfl rfl rfl lt0 ?_)
  refine VO.cons rfl (V1.assign rfl rfl rfl lt0 ?_)
  refine VO.nil ?_
  rcases ob1 with _ | ob1
  ·
   obtain ⟨rfl, rfl⟩ := Deep.nil (hob1 rfl) hd_8
   refine V.keep 11 [2, 3] [] (E0 := [(2, .nils), (3, .bool true)]) (H0 := []) rfl (⟨_, _, rfl, rfl, _, _, rfl, rfl, rfl⟩) (rfl) rfl ?_
   refine V.ret ?_
   obtain rfl := Option.some.inj hm0
   exact ⟨_, _, ⟨_, _, rfl, rfl, _, _, rfl, rfl, rfl⟩, List.Sublist.refl _, none, [], [], (fun _ => (hob1 rfl)), (Deep.ofNil (hob1 rfl)), rfl, rfl⟩
  ·
   refine V.keepT 11 [2, 3] [0] (E0 := [(2, .sref ob1 1 0 (List.length y2)), (3, .bool true)]) (A := [(ob1, ⟨1, deepC (cellRow (β := Int)) ts_8 y2⟩), (b0, ⟨1, [.vl ρ0 6 (List.map encHand list)]⟩)]) (T := os_8) (H0 := [(ob1, ⟨1, deepC (cellRow (β := Int)) ts_8 y2⟩)]) (T' := os_8) rfl (⟨_, _, rfl, rfl, _, _, rfl, rfl, rfl⟩) rfl (⟨_, _, rfl, rfl, rfl⟩) rfl (List.Sublist.refl _) ?_
   refine V.ret ?_
   obtain rfl := Option.some.inj hm0
   exact ⟨_, _, ⟨_, _, rfl, rfl, _, _, rfl, rfl, rfl⟩, List.Sublist.refl _, some ob1, ts_8, os_8, (fun e => by cases e), hd_8, rfl, rfl⟩

theorem ok_laws_eqIntS {ρ0 ρ1 rn : Nat} {a : List Int} {b_ : List Int} {r : Bool} (h : M.laws_eqIntS a b_ = some r) : Does Try.prog 20 [.vl ρ0 1 (List.map encInt a), .vl ρ1 1 (List.map encInt b_)] [] rn (fun x H => x = .bool r ∧ H = []) := by
 have hm0 := h; clear h; unfold M.laws_eqIntS at hm0
 try dsimp only at hm0
 refine Does.intro (N := 26) Try.func20 rfl rfl rfl rfl ?_
 intro w0 S0 L0
 refine V.seq ?_
 refine V.region ?_
 refine VO.cons rfl (V1.assign rfl rfl rfl lt0 ?_)
 refine VO.nil ?_
 refine V.seq ?_
 refine V.seq ?_
 refine V.region ?_
 refine VO.cons rfl (V1.move rfl rfl rfl lt0 ?_)
 refine VO.cons rfl (V1.lenMap rfl rfl rfl rfl rfl rfl isl_38 lt0 ?_)
 refine VO.cons rfl (V1.move rfl rfl rfl lt0 ?_)
 refine VO.cons rfl (V1.lenMap rfl rfl rfl rfl rfl rfl isl_38 lt0 ?_)
 refine VO.cons rfl (V1.int rfl rfl rfl rfl rfl lt0 ?_)
 refine VO.nil ?_
 refine V.keep 26 [0, 1, 10] [] (E0 := [(0, .vl ρ0 1 (List.map encInt a)), (1, .vl ρ1 1 (List.map encInt b_)), (10, .bool ((a.length : Int) != (b_.length : Int)))]) (H0 := []) rfl (⟨_, _, rfl, rfl, _, _, rfl, rfl, _, _, rfl, rfl, rfl⟩) (rfl) rfl ?_
 refine V.cond rfl (fun hc0 => ?_) (fun hc0 => ?_)
 ·
  replace hm0 := cond_t hc0 hm0
  refine V.seq ?_
  refine V.region ?_
  refine VO.cons rfl (V1.assign rfl rfl rfl lt0 ?_)
  refine VO.nil ?_
  refine V.ret ?_
  obtain rfl := Option.some.inj hm0
  exact ⟨_, [], ⟨_, _, rfl, rfl, rfl⟩, List.nil_sublist _, rfl, rfl⟩
 ·
  replace hm0 := cond_f hc0 hm0
  refine V.skip ?_
  refine V.seq ?_
  refine V.seq ?_
  refine V.region ?_
  refine VO.cons rfl (V1.assign rfl rfl rfl lt0 ?_)
  refine VO.nil ?_
  replace hm0 := bindO hm0; rcases hm0 with ⟨e0, he1, hm0⟩
  refine V.cutT (D := (Unit) × (Unit)) (fun ⟨_, _⟩ => ⟨26, [], []⟩) (fun ⟨_, _⟩ => (.inl () = e0)) ?_ ?_
  ·
   refine V.block ?_
   refine V.keep 26 [5, 0, 1] [] (E0 := [(5, .int .i64 (0 : Int)), (0, .vl ρ0 1 (List.map encInt a)), (1, .vl ρ1 1 (List.map encInt b_))]) (H0 := []) rfl (⟨_, _, rfl, rfl, _, _, rfl, rfl, _, _, rfl, rfl, rfl⟩) (rfl) rfl ?_
   refine V.loopE (D := Nat × (Int) × (Unit)) (fun ⟨n0, i, _⟩ => [(5, .int .i64 i)]) (fun ⟨n0, i, _⟩ => []) (fun ⟨n0, i, _⟩ => loopO (M.laws_eqIntS_l0 a b_) n0 i = some e0) (fun ⟨n0, _, _⟩ => n0) (rounds, (0 : Int), ()) rfl he1 ?_
   rintro ⟨n0, i, _⟩ hP0
   obtain ⟨m0, y0, rfl, hm1, hl1, hr1⟩ := loop_head hP0
   unfold M.laws_eqIntS_l0 at hm1; dsimp only at hm1
   show V _ _ _ ⟨26, [(5, .int .i64 i), (0, .vl ρ0 1 (List.map encInt a)), (1, .vl ρ1 1 (List.map encInt b_))], []⟩
   refine V.seq ?_
   refine V.seq ?_
   refine V.region ?_
   refine VO.cons rfl (V1.move rfl rfl rfl lt0 ?_)
   refine VO.cons rfl (V1.move rfl rfl rfl lt0 ?_)
   refine VO.cons rfl (V1.lenMap rfl rfl rfl rfl rfl rfl isl_38 lt0 ?_)
   refine VO.cons rfl (V1.int rfl rfl rfl rfl rfl lt0 ?_)
   refine VO.nil ?_
   refine V.cond rfl (fun hc1 => ?_) (fun hc1 => ?_)
   ·
    replace hm1 := cond_t hc1 hm1
    refine V.skip ?_
    refine V.keep 26 [0, 1, 5] [] (E0 := [(0, .vl ρ0 1 (List.map encInt a)), (1, .vl ρ1 1 (List.map encInt b_)), (5, .int .i64 i)]) (H0 := []) rfl (⟨_, _, rfl, rfl, _, _, rfl, rfl, _, _, rfl, rfl, rfl⟩) (rfl) rfl ?_
    refine V.seq ?_
    refine V.block ?_
    refine V.seq ?_
    replace hm1 := asrt_some hm1; rcases hm1 with ⟨hh0, hm1⟩
    replace hm1 := asrt_some hm1; rcases hm1 with ⟨hh1, hm1⟩
    refine V.regionM 26 8 [⟨[(0, none)], [], none⟩, ⟨[(5, none)], [], none⟩, ⟨[(17, some 1), (18, some 0)], [], none⟩, ⟨[(19, some 0)], [], none⟩, ⟨[(1, none)], [], none⟩, ⟨[(5, none)], [], none⟩, ⟨[(21, some 1), (22, some 0)], [], none⟩, ⟨[(23, some 0)], [], none⟩] [(0, none), (1, none), (5, none), (20, some 4), (24, some 0)] (⟨_, rfl, ⟨_, rfl, ⟨_, rfl, ⟨_, rfl, ⟨_, rfl, ⟨_, rfl, ⟨_, rfl, ⟨_, rfl, ⟨rfl, rfl⟩⟩⟩⟩⟩⟩⟩⟩⟩) mixed_orders rfl (by decide +kernel) (fun hck6 => ?_)
    refine VP.step (p := ?pv65) rfl rfl rfl (⟨_, _, rfl, rfl, rfl⟩) ?hv65 ?rest65 hck6
    case hv65 =>
     intro E1
     refine (V1.move rfl rfl rfl lt0 ?_)
     exact rfl
    refine VP.step (p := ?pv66) rfl rfl rfl (⟨_, _, rfl, rfl, rfl⟩) ?hv66 ?rest66 hck6
    case hv66 =>
     intro E1
     refine (V1.move rfl rfl rfl lt0 ?_)
     exact rfl
    refine VP.step (p := ?pv67) rfl rfl rfl (⟨_, _, rfl, rfl, _, _, rfl, rfl, rfl⟩) ?hv67 ?rest67 hck6
    case hv67 =>
     intro E1
     refine (V1.indexI rfl rfl esz_38 rfl rfl hh0 lt0 ?_)
     exact rfl
    refine VP.step (p := ?pv68) rfl rfl rfl (⟨_, _, rfl, rfl, rfl⟩) ?hv68 ?rest68 hck6
    case hv68 =>
     intro E1
     refine (V1.loadPin rfl rfl tyk_3 rfl rfl lt0 ?_)
     exact rfl
    refine VP.step (p := ?pv69) rfl rfl rfl (⟨_, _, rfl, rfl, rfl⟩) ?hv69 ?rest69 hck6
    case hv69 =>
     intro E1
     refine (V1.move rfl rfl rfl lt0 ?_)
     exact rfl
    refine VP.step (p := ?pv70) rfl rfl rfl (⟨_, _, rfl, rfl, rfl⟩) ?hv70 ?rest70 hck6
    case hv70 =>
     intro E1
     refine (V1.move rfl rfl rfl lt0 ?_)
     exact rfl
    refine VP.step (p := ?pv71) rfl rfl rfl (⟨_, _, rfl, rfl, _, _, rfl, rfl, rfl⟩) ?hv71 ?rest71 hck6
    case hv71 =>
     intro E1
     refine (V1.indexI rfl rfl esz_38 rfl rfl hh1 lt0 ?_)
     exact rfl
    refine VP.step (p := ?pv72) rfl rfl rfl (⟨_, _, rfl, rfl, rfl⟩) ?hv72 ?rest72 hck6
    case hv72 =>
     intro E1
     refine (V1.loadPin rfl rfl tyk_3 rfl rfl lt0 ?_)
     exact rfl
    refine VP.fin rfl (⟨_, _, rfl, rfl, _, _, rfl, rfl, _, _, rfl, rfl, _, _, rfl, rfl, _, _, rfl, rfl, rfl⟩) ?_
    refine VO.cons rfl (V1.int rfl rfl rfl rfl rfl lt0 ?_)
    refine VO.nil ?_
    refine V.cond rfl (fun hc2 => ?_) (fun hc2 => ?_)
    ·
     replace hm1 := cond_t hc2 hm1
     refine V.seq ?_
     refine V.region ?_
     refine VO.cons rfl (V1.assign rfl rfl rfl lt0 ?_)
     refine VO.nil ?_
     refine V.ret ?_
     obtain rfl := hr1 _ (Option.some.inj hm1).symm
     change some _ = some _ at hm0
     obtain rfl := Option.some.inj hm0
     exact ⟨_, [], ⟨_, _, rfl, rfl, rfl⟩, List.nil_sublist _, rfl, rfl⟩
    ·
     replace hm1 := cond_f hc2 hm1
     refine V.skip ?_
     refine V.region ?_
     refine VO.cons rfl (V1.move rfl rfl rfl lt0 ?_)
     refine VO.cons rfl (V1.int rfl rfl rfl rfl rfl lt0 ?_)
     refine VO.cons rfl (V1.assign rfl rfl rfl lt0 ?_)
     refine VO.nil ?_
     exact ⟨(m0, (IntKind.i64.wrap (i + (1 : Int))), ()), hl1 _ (Option.some.inj hm1).symm, Nat.lt_succ_self _, Keeps.mk (ks := []) rfl ⟨rfl, rfl, rfl, trivial⟩ (rfl) rfl⟩
   ·
    replace hm1 := cond_f hc1 hm1
    refine V.exit ?_
    obtain rfl := hr1 _ (Option.some.inj hm1).symm
    exact ⟨((), ()), rfl, Keeps.mk (ks := []) rfl trivial (rfl) rfl⟩
  ·
   rintro ⟨_, _⟩ rfl
   try dsimp only at hm0
   refine V.seq ?_
   refine V.region ?_
   refine VO.cons rfl (V1.assign rfl rfl rfl lt0 ?_)
   refine VO.nil ?_
   refine V.ret ?_
   obtain rfl := Option.some.inj hm0
   exact ⟨_, [], ⟨_, _, rfl, rfl, rfl⟩, List.nil_sublist _, rfl, rfl⟩

theorem ok_laws_eqIntSS {ρ0 σ0 ρ1 σ1 rn : Nat} {a : List (List Int)} {b_ : List (List Int)} {r : Bool} (h : M.laws_eqIntSS a b_ = some r) : Does Try.prog 8 [.vl ρ0 1 (List.map (encL σ0 1 encInt) a), .vl ρ1 1 (List.map (encL σ1 1 encInt) b_)] [] rn (fun x H => x = .bool r ∧ H = []) := by
 have hm0 := h; clear h; unfold M.laws_eqIntSS at hm0
 try dsimp only at hm0
 refine Does.intro (N := 27) Try.func8 rfl rfl rfl rfl ?_
 intro w0 S0 L0
 refine V.seq ?_
 refine V.region ?_
 refine VO.cons rfl (V1.assign rfl rfl rfl lt0 ?_)
 refine VO.nil ?_
 refine V.seq ?_
 refine V.seq ?_
 refine V.region ?_
 refine VO.cons rfl (V1.move rfl rfl rfl lt0 ?_)
 refine VO.cons rfl (V1.lenMap rfl rfl rfl rfl rfl rfl isl_24 lt0 ?_)
 refine VO.cons rfl (V1.move rfl rfl rfl lt0 ?_)
 refine VO.cons rfl (V1.lenMap rfl rfl rfl rfl rfl rfl isl_24 lt0 ?_)
 refine VO.cons rfl (V1.int rfl rfl rfl rfl rfl lt0 ?_)
 refine VO.nil ?_
 refine V.keep 27 [0, 1, 10] [] (E0 := [(0, .vl ρ0 1 (List.map (encL σ0 1 encInt) a)), (1, .vl ρ1 1 (List.map (encL σ1 1 encInt) b_)), (10, .bool ((a.length : Int) != (b_.length : Int)))]) (H0 := []) rfl (⟨_, _, rfl, rfl, _, _, rfl, rfl, _, _, rfl, rfl, rfl⟩) (rfl) rfl ?_
 refine V.cond rfl (fun hc0 => ?_) (fun hc0 => ?_)
 ·
  replace hm0 := cond_t hc0 hm0
  refine V.seq ?_
  refine V.region ?_
  refine VO.cons rfl (V1.assign rfl rfl rfl lt0 ?_)
  refine VO.nil ?_
  refine V.ret ?_
  obtain rfl := Option.some.inj hm0
  exact ⟨_, [], ⟨_, _, rfl, rfl, rfl⟩, List.nil_sublist _, rfl, rfl⟩
 ·
  replace hm0 := cond_f hc0 hm0
  refine V.skip ?_
  refine V.seq ?_
  refine V.seq ?_
  refine V.region ?_
  refine VO.cons rfl (V1.assign rfl rfl rfl lt0 ?_)
  refine VO.nil ?_
  replace hm0 := bindO hm0; rcases hm0 with ⟨e0, he1, hm0⟩
  refine V.cutT (D := (Unit) × (Unit)) (fun ⟨_, _⟩ => ⟨27, [], []⟩) (fun ⟨_, _⟩ => (.inl () = e0)) ?_ ?_
  ·
   refine V.block ?_
   refine V.keep 27 [5, 0, 1] [] (E0 := [(5, .int .i64 (0 : Int)), (0, .vl ρ0 1 (List.map (encL σ0 1 encInt) a)), (1, .vl ρ1 1 (List.map (encL σ1 1 encInt) b_))]) (H0 := []) rfl (⟨_, _, rfl, rfl, _, _, rfl, rfl, _, _, rfl, rfl, rfl⟩) (rfl) rfl ?_
   refine V.loopE (D := Nat × (Int) × (Unit)) (fun ⟨n0, i, _⟩ => [(5, .int .i64 i)]) (fun ⟨n0, i, _⟩ => []) (fun ⟨n0, i, _⟩ => loopO (M.laws_eqIntSS_l0 a b_) n0 i = some e0) (fun ⟨n0, _, _⟩ => n0) (rounds, (0 : Int), ()) rfl he1 ?_
   rintro ⟨n0, i, _⟩ hP0
   obtain ⟨m0, y0, rfl, hm1, hl1, hr1⟩ := loop_head hP0
   unfold M.laws_eqIntSS_l0 at hm1; dsimp only at hm1
   show V _ _ _ ⟨27, [(5, .int .i64 i), (0, .vl ρ0 1 (List.map (encL σ0 1 encInt) a)), (1, .vl ρ1 1 (List.map (encL σ1 1 encInt) b_))], []⟩
   refine V.seq ?_
   refine V.seq ?_
   refine V.region ?_
   refine VO.cons rfl (V1.move rfl rfl rfl lt0 ?_)
   refine VO.cons rfl (V1.move rfl rfl rfl lt0 ?_)
   refine VO.cons rfl (V1.lenMap rfl rfl rfl rfl rfl rfl isl_24 lt0 ?_)
   refine VO.cons rfl (V1.int rfl rfl rfl rfl rfl lt0 ?_)
   refine VO.nil ?_
   refine V.cond rfl (fun hc1 => ?_) (fun hc1 => ?_)
   ·
    replace hm1 := cond_t hc1 hm1
    refine V.skip ?_
    refine V.keep 27 [0, 1, 5] [] (E0 := [(0, .vl ρ0 1 (List.map (encL σ0 1 encInt) a)), (1, .vl ρ1 1 (List.map (encL σ1 1 encInt) b_)), (5, .int .i64 i)]) (H0 := []) rfl (⟨_, _, rfl, rfl, _, _, rfl, rfl, _, _, rfl, rfl, rfl⟩) (rfl) rfl ?_
    refine V.seq ?_
    refine V.block ?_
    refine V.seq ?_
    replace hm1 := asrt_some hm1; rcases hm1 with ⟨hh0, hm1⟩
    replace hm1 := asrt_some hm1; rcases hm1 with ⟨hh1, hm1⟩
    replace hm1 := bindO hm1; rcases hm1 with ⟨y1, hh2, hm1⟩
    refine V.regionM 27 8 [⟨[(0, none)], [], none⟩, ⟨[(5, none)], [], none⟩, ⟨[(17, some 1), (18, some 0)], [], none⟩, ⟨[(19, some 0)], [], none⟩, ⟨[(1, none)], [], none⟩, ⟨[(5, none)], [], none⟩, ⟨[(21, some 1), (22, some 0)], [], none⟩, ⟨[(23, some 0)], [], none⟩] [(0, none), (1, none), (5, none), (20, some 4), (24, some 0)] (⟨_, rfl, ⟨_, rfl, ⟨_, rfl, ⟨_, rfl, ⟨_, rfl, ⟨_, rfl, ⟨_, rfl, ⟨_, rfl, ⟨rfl, rfl⟩⟩⟩⟩⟩⟩⟩⟩⟩) mixed_orders rfl (by decide +kernel) (fun hck6 => ?_)
    refine VP.step (p := ?pv82) rfl rfl rfl (⟨_, _, rfl, rfl, rfl⟩) ?hv82 ?rest82 hck6
    case hv82 =>
     intro E1
     refine (V1.move rfl rfl rfl lt0 ?_)
     exact rfl
    refine VP.step (p := ?pv83) rfl rfl rfl (⟨_, _, rfl, rfl, rfl⟩) ?hv83 ?rest83 hck6
    case hv83 =>
     intro E1
     refine (V1.move rfl rfl rfl lt0 ?_)
     exact rfl
    refine VP.step (p := ?pv84) rfl rfl rfl (⟨_, _, rfl, rfl, _, _, rfl, rfl, rfl⟩) ?hv84 ?rest84 hck6
    case hv84 =>
     intro E1
     refine (V1.indexI rfl rfl esz_24 rfl rfl hh0 lt0 ?_)
     exact rfl
    refine VP.step (p := ?pv85) rfl rfl rfl (⟨_, _, rfl, rfl, rfl⟩) ?hv85 ?rest85 hck6
    case hv85 =>
     intro E1
     refine (V1.loadPin rfl rfl tyk_38 rfl rfl lt0 ?_)
     exact rfl
    refine VP.step (p := ?pv86) rfl rfl rfl (⟨_, _, rfl, rfl, rfl⟩) ?hv86 ?rest86 hck6
    case hv86 =>
     intro E1
     refine (V1.move rfl rfl rfl lt0 ?_)
     exact rfl
    refine VP.step (p := ?pv87) rfl rfl rfl (⟨_, _, rfl, rfl, rfl⟩) ?hv87 ?rest87 hck6
    case hv87 =>
     intro E1
     refine (V1.move rfl rfl rfl lt0 ?_)
     exact rfl
    refine VP.step (p := ?pv88) rfl rfl rfl (⟨_, _, rfl, rfl, _, _, rfl, rfl, rfl⟩) ?hv88 ?rest88 hck6
    case hv88 =>
     intro E1
     refine (V1.indexI rfl rfl esz_24 rfl rfl hh1 lt0 ?_)
     exact rfl
    refine VP.step (p := ?pv89) rfl rfl rfl (⟨_, _, rfl, rfl, rfl⟩) ?hv89 ?rest89 hck6
    case hv89 =>
     intro E1
     refine (V1.loadPin rfl rfl tyk_38 rfl rfl lt0 ?_)
     exact rfl
    refine VP.fin rfl (⟨_, _, rfl, rfl, _, _, rfl, rfl, _, _, rfl, rfl, _, _, rfl, rfl, _, _, rfl, rfl, rfl⟩) ?_
    refine VO.cons rfl (V1.call rfl rfl rfl cok_20 rfl (ok_laws_eqIntS hh2) rfl lt0 ?_)
    rintro _ _ ⟨rfl, rfl⟩
    refine VO.cons rfl (V1.not rfl rfl rfl lt0 ?_)
    refine VO.nil ?_
    refine V.cond rfl (fun hc2 => ?_) (fun hc2 => ?_)
    ·
     replace hm1 := cond_t hc2 hm1
     refine V.seq ?_
     refine V.region ?_
     refine VO.cons rfl (V1.assign rfl rfl rfl lt0 ?_)
     refine VO.nil ?_
     refine V.ret ?_
     obtain rfl := hr1 _ (Option.some.inj hm1).symm
     change some _ = some _ at hm0
     obtain rfl := Option.some.inj hm0
     exact ⟨_, [], ⟨_, _, rfl, rfl, rfl⟩, List.nil_sublist _, rfl, rfl⟩
    ·
     replace hm1 := cond_f hc2 hm1
     refine V.skip ?_
     refine V.keep 27 [0, 1, 5] [] (E0 := [(0, .vl ρ0 1 (List.map (encL σ0 1 encInt) a)), (1, .vl ρ1 1 (List.map (encL σ1 1 encInt) b_)), (5, .int .i64 i)]) (H0 := []) rfl (⟨_, _, rfl, rfl, _, _, rfl, rfl, _, _, rfl, rfl, rfl⟩) (rfl) rfl ?_
     refine V.region ?_
     refine VO.cons rfl (V1.move rfl rfl rfl lt0 ?_)
     refine VO.cons rfl (V1.int rfl rfl rfl rfl rfl lt0 ?_)
     refine VO.cons rfl (V1.assign rfl rfl rfl lt0 ?_)
     refine VO.nil ?_
     exact ⟨(m0, (IntKind.i64.wrap (i + (1 : Int))), ()), hl1 _ (Option.some.inj hm1).symm, Nat.lt_succ_self _, Keeps.mk (ks := []) rfl ⟨rfl, rfl, rfl, trivial⟩ (rfl) rfl⟩
   ·
    replace hm1 := cond_f hc1 hm1
    refine V.exit ?_
    obtain rfl := hr1 _ (Option.some.inj hm1).symm
    exact ⟨((), ()), rfl, Keeps.mk (ks := []) rfl trivial (rfl) rfl⟩
  ·
   rintro ⟨_, _⟩ rfl
   try dsimp only at hm0
   refine V.seq ?_
   refine V.region ?_
   refine VO.cons rfl (V1.assign rfl rfl rfl lt0 ?_)
   refine VO.nil ?_
   refine V.ret ?_
   obtain rfl := Option.some.inj hm0
   exact ⟨_, [], ⟨_, _, rfl, rfl, rfl⟩, List.nil_sublist _, rfl, rfl⟩

theorem ok_laws_eqHand {rn : Nat} {a : Hand} {b_ : Hand} {r : Bool} (h : M.laws_eqHand a b_ = some r) : Does Try.prog 21 [encHand a, encHand b_] [] rn (fun x H => x = .bool r ∧ H = []) := by
 have hm0 := h; clear h; unfold M.laws_eqHand at hm0
 try dsimp only at hm0
 refine Does.intro (N := 35) Try.func21 rfl rfl rfl rfl ?_
 intro w0 S0 L0
 refine V.seq ?_
 refine V.region ?_
 refine VO.cons rfl (V1.boxN (n := 6) rfl rfl rfl rfl rfl lt0 ?_)
 intro b0
 refine VO.cons rfl (V1.boxN (n := 6) rfl rfl rfl rfl rfl lt0 ?_)
 intro b1
 refine VO.cons rfl (V1.assign rfl rfl rfl lt0 ?_)
 refine VO.nil ?_
 refine V.seq ?_
 refine V.seq ?_
 refine V.region ?_
 refine VO.cons rfl (V1.fieldRef rfl rfl fo_37_0 rfl lt0 ?_)
 refine VO.cons rfl (V1.loadRef (k := 1) rfl rfl tyk_3 rfl rfl rfl rfl rfl lt0 ?_)
 refine VO.cons rfl (V1.fieldRef rfl rfl fo_37_0 rfl lt0 ?_)
 refine VO.cons rfl (V1.loadRef (k := 0) rfl rfl tyk_3 rfl rfl rfl rfl rfl lt0 ?_)
 refine VO.cons rfl (V1.int rfl rfl rfl rfl rfl lt0 ?_)
 refine VO.nil ?_
 refine V.keep 35 [2, 3, 9] [0, 1] (E0 := [(2, .ref b0 6 0 0), (3, .ref b1 6 0 0), (9, .bool (a.Record != b_.Record))]) (H0 := [(b1, ⟨6, [encHand b_]⟩), (b0, ⟨6, [encHand a]⟩)]) rfl (⟨_, _, rfl, rfl, _, _, rfl, rfl, _, _, rfl, rfl, rfl⟩) (⟨_, _, rfl, rfl, _, _, rfl, rfl, rfl⟩) rfl ?_
 refine V.cond rfl (fun hc0 => ?_) (fun hc0 => ?_)
 ·
  replace hm0 := cond_t hc0 hm0
  refine V.seq ?_
  refine V.region ?_
  refine VO.cons rfl (V1.assign rfl rfl rfl lt0 ?_)
  refine VO.nil ?_
  refine V.ret ?_
  obtain rfl := Option.some.inj hm0
  exact ⟨_, [], ⟨_, _, rfl, rfl, rfl⟩, List.nil_sublist _, rfl, rfl⟩
 ·
  replace hm0 := cond_f hc0 hm0
  refine V.skip ?_
  refine V.seq ?_
  refine V.seq ?_
  refine V.region ?_
  refine VO.cons rfl (V1.fieldRef rfl rfl fo_37_1 rfl lt0 ?_)
  refine VO.cons rfl (V1.loadRef (k := 1) rfl rfl tyk_3 rfl rfl rfl rfl rfl lt0 ?_)
  refine VO.cons rfl (V1.fieldRef rfl rfl fo_37_1 rfl lt0 ?_)
  refine VO.cons rfl (V1.loadRef (k := 0) rfl rfl tyk_3 rfl rfl rfl rfl rfl lt0 ?_)
  refine VO.cons rfl (V1.int rfl rfl rfl rfl rfl lt0 ?_)
  refine VO.nil ?_
  refine V.keep 35 [2, 3, 14] [0, 1] (E0 := [(2, .ref b0 6 0 0), (3, .ref b1 6 0 0), (14, .bool (a.From != b_.From))]) (H0 := [(b1, ⟨6, [encHand b_]⟩), (b0, ⟨6, [encHand a]⟩)]) rfl (⟨_, _, rfl, rfl, _, _, rfl, rfl, _, _, rfl, rfl, rfl⟩) (⟨_, _, rfl, rfl, _, _, rfl, rfl, rfl⟩) rfl ?_
  refine V.cond rfl (fun hc1 => ?_) (fun hc1 => ?_)
  ·
   replace hm0 := cond_t hc1 hm0
   refine V.seq ?_
   refine V.region ?_
   refine VO.cons rfl (V1.assign rfl rfl rfl lt0 ?_)
   refine VO.nil ?_
   refine V.ret ?_
   obtain rfl := Option.some.inj hm0
   exact ⟨_, [], ⟨_, _, rfl, rfl, rfl⟩, List.nil_sublist _, rfl, rfl⟩
  ·
   replace hm0 := cond_f hc1 hm0
   refine V.skip ?_
   refine V.seq ?_
   refine V.seq ?_
   refine V.region ?_
   refine VO.cons rfl (V1.fieldRef rfl rfl fo_37_2 rfl lt0 ?_)
   refine VO.cons rfl (V1.loadRef (k := 1) rfl rfl tyk_3 rfl rfl rfl rfl rfl lt0 ?_)
   refine VO.cons rfl (V1.fieldRef rfl rfl fo_37_2 rfl lt0 ?_)
   refine VO.cons rfl (V1.loadRef (k := 0) rfl rfl tyk_3 rfl rfl rfl rfl rfl lt0 ?_)
   refine VO.cons rfl (V1.int rfl rfl rfl rfl rfl lt0 ?_)
   refine VO.nil ?_
   refine V.keep 35 [2, 3, 19] [0, 1] (E0 := [(2, .ref b0 6 0 0), (3, .ref b1 6 0 0), (19, .bool (a.To != b_.To))]) (H0 := [(b1, ⟨6, [encHand b_]⟩), (b0, ⟨6, [encHand a]⟩)]) rfl (⟨_, _, rfl, rfl, _, _, rfl, rfl, _, _, rfl, rfl, rfl⟩) (⟨_, _, rfl, rfl, _, _, rfl, rfl, rfl⟩) rfl ?_
   refine V.cond rfl (fun hc2 => ?_) (fun hc2 => ?_)
   ·
    replace hm0 := cond_t hc2 hm0
    refine V.seq ?_
    refine V.region ?_
    refine VO.cons rfl (V1.assign rfl rfl rfl lt0 ?_)
    refine VO.nil ?_
    refine V.ret ?_
    obtain rfl := Option.some.inj hm0
    exact ⟨_, [], ⟨_, _, rfl, rfl, rfl⟩, List.nil_sublist _, rfl, rfl⟩
   ·
    replace hm0 := cond_f hc2 hm0
    refine V.skip ?_
    refine V.seq ?_
    refine V.seq ?_
    refine V.region ?_
    refine VO.cons rfl (V1.fieldRef rfl rfl fo_37_3 rfl lt0 ?_)
    refine VO.cons rfl (V1.loadRef (k := 1) rfl rfl tyk_3 rfl rfl rfl rfl rfl lt0 ?_)
    refine VO.cons rfl (V1.fieldRef rfl rfl fo_37_3 rfl lt0 ?_)
    refine VO.cons rfl (V1.loadRef (k := 0) rfl rfl tyk_3 rfl rfl rfl rfl rfl lt0 ?_)
    refine VO.cons rfl (V1.int rfl rfl rfl rfl rfl lt0 ?_)
    refine VO.nil ?_
    refine V.keep 35 [2, 3, 24] [0, 1] (E0 := [(2, .ref b0 6 0 0), (3, .ref b1 6 0 0), (24, .bool (a.Day != b_.Day))]) (H0 := [(b1, ⟨6, [encHand b_]⟩), (b0, ⟨6, [encHand a]⟩)]) rfl (⟨_, _, rfl, rfl, _, _, rfl, rfl, _, _, rfl, rfl, rfl⟩) (⟨_, _, rfl, rfl, _, _, rfl, rfl, rfl⟩) rfl ?_
    refine V.cond rfl (fun hc3 => ?_) (fun hc3 => ?_)
    ·
     replace hm0 := cond_t hc3 hm0
     refine V.seq ?_
     refine V.region ?_
     refine VO.cons rfl (V1.assign rfl rfl rfl lt0 ?_)
     refine VO.nil ?_
     refine V.ret ?_
     obtain rfl := Option.some.inj hm0
     exact ⟨_, [], ⟨_, _, rfl, rfl, rfl⟩, List.nil_sublist _, rfl, rfl⟩
    ·
     replace hm0 := cond_f hc3 hm0
     refine V.skip ?_
     refine V.seq ?_
     refine V.seq ?_
     refine V.region ?_
     refine VO.cons rfl (V1.fieldRef rfl rfl fo_37_4 rfl lt0 ?_)
     refine VO.cons rfl (V1.loadRef (k := 1) rfl rfl tyk_3 rfl rfl rfl rfl rfl lt0 ?_)
     refine VO.cons rfl (V1.fieldRef rfl rfl fo_37_4 rfl lt0 ?_)
     refine VO.cons rfl (V1.loadRef (k := 0) rfl rfl tyk_3 rfl rfl rfl rfl rfl lt0 ?_)
     refine VO.cons rfl (V1.int rfl rfl rfl rfl rfl lt0 ?_)
     refine VO.nil ?_
     refine V.keep 35 [2, 3, 29] [0, 1] (E0 := [(2, .ref b0 6 0 0), (3, .ref b1 6 0 0), (29, .bool (a.Sum != b_.Sum))]) (H0 := [(b1, ⟨6, [encHand b_]⟩), (b0, ⟨6, [encHand a]⟩)]) rfl (⟨_, _, rfl, rfl, _, _, rfl, rfl, _, _, rfl, rfl, rfl⟩) (⟨_, _, rfl, rfl, _, _, rfl, rfl, rfl⟩) rfl ?_
     refine V.cond rfl (fun hc4 => ?_) (fun hc4 => ?_)
     ·
      replace hm0 := cond_t hc4 hm0
      refine V.seq ?_
      refine V.region ?_
      refine VO.cons rfl (V1.assign rfl rfl rfl lt0 ?_)
      refine VO.nil ?_
      refine V.ret ?_
      obtain rfl := Option.some.inj hm0
      exact ⟨_, [], ⟨_, _, rfl, rfl, rfl⟩, List.nil_sublist _, rfl, rfl⟩
     ·
      replace hm0 := cond_f hc4 hm0
      refine V.skip ?_
      refine V.seq ?_
      refine V.seq ?_
      refine V.region ?_
      refine VO.cons rfl (V1.fieldRef rfl rfl fo_37_5 rfl lt0 ?_)
      refine VO.cons rfl (V1.loadRef (k := 1) rfl rfl tyk_4 rfl rfl rfl rfl rfl lt0 ?_)
      refine VO.cons rfl (V1.fieldRef rfl rfl fo_37_5 rfl lt0 ?_)
      refine VO.cons rfl (V1.loadRef (k := 0) rfl rfl tyk_4 rfl rfl rfl rfl rfl lt0 ?_)
      refine VO.cons rfl (V1.boolNeq rfl rfl und_4 rfl rfl lt0 ?_)
      refine VO.nil ?_
      refine V.keep 35 [34] [] (E0 := [(34, .bool (!(a.Seal == b_.Seal)))]) (H0 := []) rfl (⟨_, _, rfl, rfl, rfl⟩) (rfl) rfl ?_
      refine V.cond rfl (fun hc5 => ?_) (fun hc5 => ?_)
      ·
       replace hm0 := cond_t hc5 hm0
       refine V.seq ?_
       refine V.region ?_
       refine VO.cons rfl (V1.assign rfl rfl rfl lt0 ?_)
       refine VO.nil ?_
       refine V.ret ?_
       obtain rfl := Option.some.inj hm0
       exact ⟨_, [], ⟨_, _, rfl, rfl, rfl⟩, List.nil_sublist _, rfl, rfl⟩
      ·
       replace hm0 := cond_f hc5 hm0
       refine V.skip ?_
       refine V.seq ?_
       refine V.region ?_
       refine VO.cons rfl (V1.assign rfl rfl rfl lt0 ?_)
       refine VO.nil ?_
       refine V.ret ?_
       obtain rfl := Option.some.inj hm0
       exact ⟨_, [], ⟨_, _, rfl, rfl, rfl⟩, List.nil_sublist _, rfl, rfl⟩
end Go.Proofs.Ytpmjemddofcmaaa
