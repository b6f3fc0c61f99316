/- the functions do what their models say -/
import Derived.Test.YthaeehmkeiiidaaFacts
import Derived.Test.YthaeehmkeiiidaaMbM
set_option linter.unusedSimpArgs false
set_option linter.unusedVariables false
set_option maxRecDepth 100000
namespace Go.Proofs.Ythaeehmkeiiidaa
open Go.VS

theorem ok_laws_szIntS {ρ0 rn : Nat} {a : List Int} {left : Int} {r : Int} (h : M.laws_szIntS a left = some r) : Does Try.prog 67 [.vl ρ0 1 (List.map encInt a), .int .i64 left] [] rn (fun x H => x = .int .i64 r ∧ H = []) := by
 have hm0 := h; clear h; unfold M.laws_szIntS at hm0
 try dsimp only at hm0
 refine Does.intro (N := 12) Try.func67 rfl rfl rfl rfl ?_
 intro w0 S0
 refine V.seq ?_
 refine V.region ?_
 refine VO.cons rfl (V1.assign rfl rfl rfl (ltb rfl) ?_)
 refine VO.nil ?_
 refine V.seq ?_
 refine V.region ?_
 refine VO.cons rfl (V1.move rfl rfl rfl (ltb rfl) ?_)
 refine VO.cons rfl (V1.move rfl rfl rfl (ltb rfl) ?_)
 refine VO.cons rfl (V1.lenMap rfl rfl rfl rfl rfl rfl isl_22 (ltb rfl) ?_)
 refine VO.cons rfl (V1.int rfl rfl rfl rfl rfl (ltb rfl) ?_)
 refine VO.cons rfl (V1.assign rfl rfl rfl (ltb rfl) ?_)
 refine VO.nil ?_
 refine V.keep 12 [1] [] (E0 := [(1, .int .i64 (IntKind.i64.wrap (left - (a.length : Int))))]) (H0 := []) rfl (⟨_, _, rfl, rfl, rfl⟩) (rfl) rfl ?_
 refine V.seq ?_
 refine V.seq ?_
 refine V.region ?_
 refine VO.cons rfl (V1.move rfl rfl rfl (ltb rfl) ?_)
 refine VO.cons rfl (V1.int rfl rfl rfl rfl rfl (ltb rfl) ?_)
 refine VO.nil ?_
 refine V.cond rfl (fun hc0 => ?_) (fun hc0 => ?_)
 ·
  replace hm0 := cond_t hc0 hm0
  refine V.seq ?_
  refine V.region ?_
  refine VO.cons rfl (V1.assign rfl rfl rfl (ltb rfl) ?_)
  refine VO.nil ?_
  refine V.ret ?_
  obtain rfl := Option.some.inj hm0
  exact ⟨_, [], ⟨_, _, rfl, rfl, rfl⟩, List.nil_sublist _, rfl, rfl⟩
 ·
  replace hm0 := cond_f hc0 hm0
  refine V.skip ?_
  refine V.seq ?_
  refine V.region ?_
  refine VO.cons rfl (V1.move rfl rfl rfl (ltb rfl) ?_)
  refine VO.cons rfl (V1.assign rfl rfl rfl (ltb rfl) ?_)
  refine VO.nil ?_
  refine V.ret ?_
  obtain rfl := Option.some.inj hm0
  exact ⟨_, [], ⟨_, _, rfl, rfl, rfl⟩, List.nil_sublist _, rfl, rfl⟩

theorem ok_laws_szCarton {ρ0 rn : Nat} {a : Carton} {left : Int} {r : Int} (h : M.laws_szCarton a left = some r) : Does Try.prog 16 [encCarton ρ0 a, .int .i64 left] [] rn (fun x H => x = .int .i64 r ∧ H = []) := by
 have hm0 := h; clear h; unfold M.laws_szCarton at hm0
 try dsimp only at hm0
 refine Does.intro (N := 12) Try.func16 rfl rfl rfl rfl ?_
 intro w0 S0
 refine V.seq ?_
 refine V.region ?_
 refine VO.cons rfl (V1.boxN (n := 5) rfl rfl rfl rfl rfl (ltb rfl) ?_)
 intro b0
 refine VO.cons rfl (V1.assign rfl rfl rfl (ltb rfl) ?_)
 refine VO.nil ?_
 refine V.seq ?_
 replace hm0 := bindO hm0; rcases hm0 with ⟨y0, hh0, hm0⟩
 refine V.region ?_
 refine VO.cons rfl (V1.fieldRef rfl rfl fo_24_3 rfl (ltb rfl) ?_)
 refine VO.cons rfl (V1.loadRef (k := 0) rfl rfl tyk_22 rfl rfl rfl rfl rfl (ltb rfl) ?_)
 refine VO.cons rfl (V1.move rfl rfl rfl (ltb rfl) ?_)
 refine VO.cons rfl (V1.call rfl rfl rfl cok_67 rfl (ok_laws_szIntS hh0) rfl (ltb rfl) ?_)
 rintro _ _ ⟨rfl, rfl⟩
 refine VO.cons rfl (V1.assign rfl rfl rfl (ltb rfl) ?_)
 refine VO.nil ?_
 refine V.keep 12 [1] [] (E0 := [(1, .int .i64 y0)]) (H0 := []) rfl (⟨_, _, rfl, rfl, rfl⟩) (rfl) rfl ?_
 refine V.seq ?_
 refine V.seq ?_
 refine V.region ?_
 refine VO.cons rfl (V1.move rfl rfl rfl (ltb rfl) ?_)
 refine VO.cons rfl (V1.int rfl rfl rfl rfl rfl (ltb rfl) ?_)
 refine VO.nil ?_
 refine V.cond rfl (fun hc0 => ?_) (fun hc0 => ?_)
 ·
  replace hm0 := cond_t hc0 hm0
  refine V.seq ?_
  refine V.region ?_
  refine VO.cons rfl (V1.assign rfl rfl rfl (ltb rfl) ?_)
  refine VO.nil ?_
  refine V.ret ?_
  obtain rfl := Option.some.inj hm0
  exact ⟨_, [], ⟨_, _, rfl, rfl, rfl⟩, List.nil_sublist _, rfl, rfl⟩
 ·
  replace hm0 := cond_f hc0 hm0
  refine V.skip ?_
  refine V.seq ?_
  refine V.region ?_
  refine VO.cons rfl (V1.move rfl rfl rfl (ltb rfl) ?_)
  refine VO.cons rfl (V1.assign rfl rfl rfl (ltb rfl) ?_)
  refine VO.nil ?_
  refine V.ret ?_
  obtain rfl := Option.some.inj hm0
  exact ⟨_, [], ⟨_, _, rfl, rfl, rfl⟩, List.nil_sublist _, rfl, rfl⟩

theorem ok_laws_szCartonS {ρ0 σ0 rn : Nat} {a : List Carton} {left : Int} {r : Int} (h : M.laws_szCartonS a left = some r) : Does Try.prog 21 [.vl ρ0 5 (List.map (encCarton σ0) a), .int .i64 left] [] rn (fun x H => x = .int .i64 r ∧ H = []) := by
 have hm0 := h; clear h; unfold M.laws_szCartonS at hm0
 try dsimp only at hm0
 refine Does.intro (N := 27) Try.func21 rfl rfl rfl rfl ?_
 intro w0 S0
 refine V.seq ?_
 refine V.region ?_
 refine VO.cons rfl (V1.assign rfl rfl rfl (ltb rfl) ?_)
 refine VO.nil ?_
 refine V.seq ?_
 refine V.region ?_
 refine VO.cons rfl (V1.move rfl rfl rfl (ltb rfl) ?_)
 refine VO.cons rfl (V1.move rfl rfl rfl (ltb rfl) ?_)
 refine VO.cons rfl (V1.lenMap rfl rfl rfl rfl rfl rfl isl_31 (ltb rfl) ?_)
 refine VO.cons rfl (V1.int rfl rfl rfl rfl rfl (ltb rfl) ?_)
 refine VO.cons rfl (V1.assign rfl rfl rfl (ltb rfl) ?_)
 refine VO.nil ?_
 refine V.keep 27 [0, 1] [] (E0 := [(0, .vl ρ0 5 (List.map (encCarton σ0) a)), (1, .int .i64 (IntKind.i64.wrap (left - (a.length : Int))))]) (H0 := []) rfl (⟨_, _, rfl, rfl, ⟨_, _, rfl, rfl, rfl⟩⟩) (rfl) rfl ?_
 refine V.seq ?_
 refine V.seq ?_
 refine V.region ?_
 refine VO.cons rfl (V1.move rfl rfl rfl (ltb rfl) ?_)
 refine VO.cons rfl (V1.int rfl rfl rfl rfl rfl (ltb rfl) ?_)
 refine VO.nil ?_
 refine V.cond rfl (fun hc0 => ?_) (fun hc0 => ?_)
 ·
  replace hm0 := cond_t hc0 hm0
  refine V.seq ?_
  refine V.region ?_
  refine VO.cons rfl (V1.assign rfl rfl rfl (ltb rfl) ?_)
  refine VO.nil ?_
  refine V.ret ?_
  obtain rfl := Option.some.inj hm0
  exact ⟨_, [], ⟨_, _, rfl, rfl, rfl⟩, List.nil_sublist _, rfl, rfl⟩
 ·
  replace hm0 := cond_f hc0 hm0
  refine V.skip ?_
  refine V.seq ?_
  refine V.seq ?_
  refine V.region ?_
  refine VO.cons rfl (V1.assign rfl rfl rfl (ltb rfl) ?_)
  refine VO.nil ?_
  replace hm0 := bindO hm0; rcases hm0 with ⟨e0, he1, hm0⟩
  refine V.cutT (D := (Int) × (Unit)) (fun ⟨left0, _⟩ => ⟨27, [(1, .int .i64 left0)], []⟩) (fun ⟨left0, _⟩ => (.inl left0 = e0)) ?_ ?_
  ·
   refine V.block ?_
   refine V.keep 27 [1, 5, 0] [] (E0 := [(1, .int .i64 (IntKind.i64.wrap (left - (a.length : Int)))), (5, .int .i64 (0 : Int)), (0, .vl ρ0 5 (List.map (encCarton σ0) a))]) (H0 := []) rfl (⟨_, _, rfl, rfl, ⟨_, _, rfl, rfl, ⟨_, _, rfl, rfl, rfl⟩⟩⟩) (rfl) rfl ?_
   refine V.loopE (D := Nat × (Int × Int) × (Unit)) (fun ⟨n0, ⟨left1, i⟩, _⟩ => [(1, .int .i64 left1), (5, .int .i64 i)]) (fun ⟨n0, ⟨left1, i⟩, _⟩ => []) (fun ⟨n0, ⟨left1, i⟩, _⟩ => loopO (M.laws_szCartonS_l0 a) n0 (left1, i) = some e0) (fun ⟨n0, _, _⟩ => n0) (rounds, ((IntKind.i64.wrap (left - (a.length : Int))), (0 : Int)), ()) rfl he1 ?_
   rintro ⟨n0, ⟨left1, i⟩, _⟩ hP0
   obtain ⟨m0, y0, rfl, hm1, hl1, hr1⟩ := loop_head hP0
   unfold M.laws_szCartonS_l0 at hm1; dsimp only at hm1
   show V _ _ _ ⟨27, [(1, .int .i64 left1), (5, .int .i64 i), (0, .vl ρ0 5 (List.map (encCarton σ0) a))], []⟩
   refine V.seq ?_
   refine V.seq ?_
   refine V.region ?_
   refine VO.cons rfl (V1.move rfl rfl rfl (ltb rfl) ?_)
   refine VO.cons rfl (V1.move rfl rfl rfl (ltb rfl) ?_)
   refine VO.cons rfl (V1.lenMap rfl rfl rfl rfl rfl rfl isl_31 (ltb rfl) ?_)
   refine VO.cons rfl (V1.int rfl rfl rfl rfl rfl (ltb rfl) ?_)
   refine VO.nil ?_
   refine V.cond rfl (fun hc1 => ?_) (fun hc1 => ?_)
   ·
    replace hm1 := cond_t hc1 hm1
    refine V.skip ?_
    refine V.keep 27 [0, 1, 5] [] (E0 := [(0, .vl ρ0 5 (List.map (encCarton σ0) a)), (1, .int .i64 left1), (5, .int .i64 i)]) (H0 := []) rfl (⟨_, _, rfl, rfl, ⟨_, _, rfl, rfl, ⟨_, _, rfl, rfl, rfl⟩⟩⟩) (rfl) rfl ?_
    refine V.seq ?_
    refine V.block ?_
    refine V.seq ?_
    replace hm1 := asrt_some hm1; rcases hm1 with ⟨hh0, hm1⟩
    replace hm1 := bindO hm1; rcases hm1 with ⟨y1, hh1, hm1⟩
    refine V.region ?_
    refine VO.cons rfl (V1.move rfl rfl rfl (ltb rfl) ?_)
    refine VO.cons rfl (V1.move rfl rfl rfl (ltb rfl) ?_)
    refine VO.cons rfl (V1.indexI rfl rfl esz_31 rfl rfl hh0 (ltb rfl) ?_)
    refine VO.cons rfl (V1.loadPinAll rfl rfl tyk_24 rfl rfl (ltb rfl) ?_)
    refine VO.cons rfl (V1.move rfl rfl rfl (ltb rfl) ?_)
    refine VO.cons rfl (V1.call rfl rfl rfl cok_16 rfl (ok_laws_szCarton hh1) rfl (ltb rfl) ?_)
    rintro _ _ ⟨rfl, rfl⟩
    refine VO.cons rfl (V1.assign rfl rfl rfl (ltb rfl) ?_)
    refine VO.nil ?_
    refine V.keep 27 [0, 1, 5] [] (E0 := [(0, .vl ρ0 5 (List.map (encCarton σ0) a)), (1, .int .i64 y1), (5, .int .i64 i)]) (H0 := []) rfl (⟨_, _, rfl, rfl, ⟨_, _, rfl, rfl, ⟨_, _, rfl, rfl, rfl⟩⟩⟩) (rfl) rfl ?_
    refine V.seq ?_
    refine V.region ?_
    refine VO.cons rfl (V1.move rfl rfl rfl (ltb rfl) ?_)
    refine VO.cons rfl (V1.int rfl rfl rfl rfl rfl (ltb rfl) ?_)
    refine VO.nil ?_
    refine V.cond rfl (fun hc2 => ?_) (fun hc2 => ?_)
    ·
     replace hm1 := cond_t hc2 hm1
     refine V.seq ?_
     refine V.region ?_
     refine VO.cons rfl (V1.assign rfl rfl rfl (ltb rfl) ?_)
     refine VO.nil ?_
     refine V.ret ?_
     obtain rfl := hr1 _ (Option.some.inj hm1).symm
     change some _ = some _ at hm0
     obtain rfl := Option.some.inj hm0
     exact ⟨_, [], ⟨_, _, rfl, rfl, rfl⟩, List.nil_sublist _, rfl, rfl⟩
    ·
     replace hm1 := cond_f hc2 hm1
     refine V.skip ?_
     refine V.region ?_
     refine VO.cons rfl (V1.move rfl rfl rfl (ltb rfl) ?_)
     refine VO.cons rfl (V1.int rfl rfl rfl rfl rfl (ltb rfl) ?_)
     refine VO.cons rfl (V1.assign rfl rfl rfl (ltb rfl) ?_)
     refine VO.nil ?_
     exact ⟨(m0, (y1, (IntKind.i64.wrap (i + (1 : Int)))), ()), hl1 _ (Option.some.inj hm1).symm, Nat.lt_succ_self _, Keeps.mk (ks := []) rfl ⟨rfl, rfl, rfl, trivial⟩ (rfl) rfl⟩
   ·
    replace hm1 := cond_f hc1 hm1
    refine V.exit ?_
    obtain rfl := hr1 _ (Option.some.inj hm1).symm
    exact ⟨(left1, ()), rfl, Keeps.mk (ks := []) rfl ⟨rfl, trivial⟩ (rfl) rfl⟩
  ·
   rintro ⟨left0, _⟩ rfl
   try dsimp only at hm0
   refine V.seq ?_
   refine V.region ?_
   refine VO.cons rfl (V1.move rfl rfl rfl (ltb rfl) ?_)
   refine VO.cons rfl (V1.assign rfl rfl rfl (ltb rfl) ?_)
   refine VO.nil ?_
   refine V.ret ?_
   obtain rfl := Option.some.inj hm0
   exact ⟨_, [], ⟨_, _, rfl, rfl, rfl⟩, List.nil_sublist _, rfl, rfl⟩

theorem ok_laws_toIntS {ρ0 rn : Nat} {a : List Int} {r : List Int} (h : M.laws_toIntS a = some r) : Does Try.prog 47 [.vl ρ0 1 (List.map encInt a)] [] rn (fun x H => ∃ ob0_ : Option Nat, (ob0_ = none → r = []) ∧ x = optS 1 ob0_ (List.length r) ∧ H = optH 1 ob0_ (List.map encInt r)) := by
 have hm0 := h; clear h; unfold M.laws_toIntS at hm0
 try dsimp only at hm0
 refine Does.intro (N := 22) Try.func47 rfl rfl rfl rfl ?_
 intro w0 S0
 refine V.seq ?_
 refine V.region ?_
 refine VO.cons rfl (V1.assign rfl rfl rfl (ltb rfl) ?_)
 refine VO.nil ?_
 refine V.seq ?_
 replace hm0 := asrt_some hm0; rcases hm0 with ⟨hh0, hm0⟩
 refine V.region ?_
 refine VO.cons rfl (V1.move rfl rfl rfl (ltb rfl) ?_)
 refine VO.cons rfl (V1.lenMap rfl rfl rfl rfl rfl rfl isl_22 (ltb rfl) ?_)
 refine VO.cons rfl (V1.makeMap (f := encInt) (z := (0 : Int)) rfl rfl esz_22 eby_22 zk_3 rfl rfl hh0 rfl (ltb rfl) ?_)
 intro b0
 refine VO.cons rfl (V1.assign rfl rfl rfl (ltb rfl) ?_)
 refine VO.nil ?_
 refine V.keep 22 [0, 3] [0] (E0 := [(0, .vl ρ0 1 (List.map encInt a)), (3, .sref b0 1 0 (List.length (List.replicate (Int.toNat (a.length : Int)) (0 : Int))))]) (H0 := [(b0, ⟨1, List.map encInt (List.replicate (Int.toNat (a.length : Int)) (0 : Int))⟩)]) rfl (⟨_, _, rfl, rfl, ⟨_, _, rfl, rfl, rfl⟩⟩) (⟨_, _, rfl, rfl, rfl⟩) rfl ?_
 refine V.seq ?_
 refine V.seq ?_
 refine V.region ?_
 refine VO.cons rfl (V1.assign rfl rfl rfl (ltb rfl) ?_)
 refine VO.nil ?_
 replace hm0 := bindO hm0; rcases hm0 with ⟨e0, he1, hm0⟩
 refine V.cutT (D := (List Int) × (Nat)) (fun ⟨out_, b1⟩ => ⟨22, [(3, .sref b1 1 0 (List.length out_))], [(b1, ⟨1, List.map encInt out_⟩)]⟩) (fun ⟨out_, b1⟩ => (out_ = e0)) ?_ ?_
 ·
  refine V.block ?_
  refine V.keep 22 [4, 3, 0] [0] (E0 := [(4, .int .i64 (0 : Int)), (3, .sref b0 1 0 (List.length (List.replicate (Int.toNat (a.length : Int)) (0 : Int)))), (0, .vl ρ0 1 (List.map encInt a))]) (H0 := [(b0, ⟨1, List.map encInt (List.replicate (Int.toNat (a.length : Int)) (0 : Int))⟩)]) rfl (⟨_, _, rfl, rfl, ⟨_, _, rfl, rfl, ⟨_, _, rfl, rfl, rfl⟩⟩⟩) (⟨_, _, rfl, rfl, rfl⟩) rfl ?_
  refine V.loopE (D := Nat × (Int × List Int) × (Unit)) (fun ⟨n0, ⟨i, out_0⟩, _⟩ => [(4, .int .i64 i), (3, .sref b0 1 0 (List.length out_0))]) (fun ⟨n0, ⟨i, out_0⟩, _⟩ => [(b0, ⟨1, List.map encInt out_0⟩)]) (fun ⟨n0, ⟨i, out_0⟩, _⟩ => loopO (M.laws_toIntS_l0 a) n0 (i, out_0) = some e0) (fun ⟨n0, _, _⟩ => n0) (rounds, ((0 : Int), (List.replicate (Int.toNat (a.length : Int)) (0 : Int))), ()) rfl he1 ?_
  rintro ⟨n0, ⟨i, out_0⟩, _⟩ hP0
  obtain ⟨m0, y0, rfl, hm1, hl1, hr1⟩ := loop_head hP0
  unfold M.laws_toIntS_l0 at hm1; dsimp only at hm1
  show V _ _ _ ⟨22, [(4, .int .i64 i), (3, .sref b0 1 0 (List.length out_0)), (0, .vl ρ0 1 (List.map encInt a))], [(b0, ⟨1, List.map encInt out_0⟩)]⟩
  refine V.seq ?_
  refine V.seq ?_
  refine V.region ?_
  refine VO.cons rfl (V1.move rfl rfl rfl (ltb rfl) ?_)
  refine VO.cons rfl (V1.move rfl rfl rfl (ltb rfl) ?_)
  refine VO.cons rfl (V1.lenMap rfl rfl rfl rfl rfl rfl isl_22 (ltb rfl) ?_)
  refine VO.cons rfl (V1.int rfl rfl rfl rfl rfl (ltb rfl) ?_)
  refine VO.nil ?_
  refine V.cond rfl (fun hc0 => ?_) (fun hc0 => ?_)
  ·
   replace hm1 := cond_t hc0 hm1
   refine V.skip ?_
   refine V.keep 22 [0, 3, 4] [0] (E0 := [(0, .vl ρ0 1 (List.map encInt a)), (3, .sref b0 1 0 (List.length out_0)), (4, .int .i64 i)]) (H0 := [(b0, ⟨1, List.map encInt out_0⟩)]) rfl (⟨_, _, rfl, rfl, ⟨_, _, rfl, rfl, ⟨_, _, rfl, rfl, rfl⟩⟩⟩) (⟨_, _, rfl, rfl, rfl⟩) rfl ?_
   refine V.seq ?_
   refine V.block ?_
   replace hm1 := asrt_some hm1; rcases hm1 with ⟨hh1, hm1⟩
   replace hm1 := asrt_some hm1; rcases hm1 with ⟨hh2, hm1⟩
   refine V.region ?_
   refine VO.cons rfl (V1.move rfl rfl rfl (ltb rfl) ?_)
   refine VO.cons rfl (V1.move rfl rfl rfl (ltb rfl) ?_)
   refine VO.cons rfl (V1.move rfl rfl rfl (ltb rfl) ?_)
   refine VO.cons rfl (V1.move rfl rfl rfl (ltb rfl) ?_)
   refine VO.cons rfl (V1.indexI rfl rfl esz_22 rfl rfl hh1 (ltb rfl) ?_)
   refine VO.cons rfl (V1.loadPin rfl rfl tyk_3 rfl rfl (ltb rfl) ?_)
   refine VO.cons rfl (V1.indexSr rfl rfl esz_22 rfl rfl hh2 (ltb rfl) ?_)
   refine VO.cons rfl (V1.storeMap (k := 0) (f := encInt) (x := (a.getD (Int.toNat i) default)) rfl rfl tyk_3 rfl rfl (by simpa using natLt hh2.1 hh2.2) rfl rfl ?_)
   refine VO.weakenK (Keeps.say 3 (y := .sref b0 1 0 (List.length (out_0.set (Int.toNat i) (a.getD (Int.toNat i) default)))) rfl (by simp)) ?_
   refine VO.nil ?_
   refine V.keep 22 [0, 3, 4] [0] (E0 := [(0, .vl ρ0 1 (List.map encInt a)), (3, .sref b0 1 0 (List.length (out_0.set (Int.toNat i) (a.getD (Int.toNat i) default)))), (4, .int .i64 i)]) (H0 := [(b0, ⟨1, List.map encInt (out_0.set (Int.toNat i) (a.getD (Int.toNat i) default))⟩)]) rfl (⟨_, _, rfl, rfl, ⟨_, _, rfl, rfl, ⟨_, _, rfl, rfl, rfl⟩⟩⟩) (⟨_, _, rfl, rfl, rfl⟩) rfl ?_
   refine V.region ?_
   refine VO.cons rfl (V1.move rfl rfl rfl (ltb rfl) ?_)
   refine VO.cons rfl (V1.int rfl rfl rfl rfl rfl (ltb rfl) ?_)
   refine VO.cons rfl (V1.assign rfl rfl rfl (ltb rfl) ?_)
   refine VO.nil ?_
   exact ⟨(m0, ((IntKind.i64.wrap (i + (1 : Int))), (out_0.set (Int.toNat i) (a.getD (Int.toNat i) default))), ()), hl1 _ (Option.some.inj hm1).symm, Nat.lt_succ_self _, Keeps.mk (ks := [0]) rfl ⟨rfl, (someSref (by simp)), rfl, trivial⟩ (⟨_, _, rfl, rfl, rfl⟩) rfl⟩
  ·
   replace hm1 := cond_f hc0 hm1
   refine V.exit ?_
   obtain rfl := hr1 _ (Option.some.inj hm1).symm
   exact ⟨(out_0, b0), rfl, Keeps.mk (ks := [0]) rfl ⟨rfl, trivial⟩ (⟨_, _, rfl, rfl, rfl⟩) rfl⟩
 ·
  rintro ⟨out_, b1⟩ rfl
  try dsimp only at hm0
  refine V.seq ?_
  refine V.region ?_
  refine VO.cons rfl (V1.move rfl rfl rfl (ltb rfl) ?_)
  refine VO.cons rfl (V1.assign rfl rfl rfl (ltb rfl) ?_)
  refine VO.nil ?_
  refine V.keep 22 [2] [0] (E0 := [(2, .sref b1 1 0 (List.length out_))]) (H0 := [(b1, ⟨1, List.map encInt out_⟩)]) rfl (⟨_, _, rfl, rfl, rfl⟩) (⟨_, _, rfl, rfl, rfl⟩) rfl ?_
  refine V.ret ?_
  obtain rfl := Option.some.inj hm0
  exact ⟨_, _, ⟨_, _, rfl, rfl, rfl⟩, List.Sublist.refl _, some b1, (fun e => by cases e), rfl, rfl⟩

theorem ok_laws_toCarton {ρ0 rn : Nat} {a : Carton} {r : Carton} (h : M.laws_toCarton a = some r) : Does Try.prog 18 [encCarton ρ0 a] [] rn (fun x H => x = encCarton rn r ∧ H = []) := by
 have hm0 := h; clear h; unfold M.laws_toCarton at hm0
 try dsimp only at hm0
 refine Does.intro (N := 21) Try.func18 rfl rfl rfl rfl ?_
 intro w0 S0
 refine V.seq ?_
 refine V.region ?_
 refine VO.cons rfl (V1.boxN (n := 5) rfl rfl rfl rfl rfl (ltb rfl) ?_)
 intro b0
 refine VO.cons rfl (V1.alloc rfl rfl zk_27 (ltb rfl) ?_)
 intro b1
 refine VO.nil ?_
 refine V.seq ?_
 refine V.region ?_
 refine VO.cons rfl (V1.alloc rfl rfl zk_27 (ltb rfl) ?_)
 intro b2
 refine VO.nil ?_
 refine V.seq ?_
 refine V.region ?_
 refine VO.cons rfl (V1.fieldRef rfl rfl fo_24_0 rfl (ltb rfl) ?_)
 refine VO.cons rfl (V1.loadRef (k := 2) rfl rfl tyk_3 rfl rfl rfl rfl rfl (ltb rfl) ?_)
 refine VO.cons rfl (V1.fieldRef rfl rfl fo_27_0 rfl (ltb rfl) ?_)
 refine VO.cons rfl (V1.storeRef (k := 0) rfl rfl tyk_3 rfl rfl rfl rfl rfl rfl rfl rfl rfl ?_)
 refine VO.nil ?_
 refine V.keep 21 [1, 2, 3] [0, 1, 2] (E0 := [(1, .ref b0 5 0 0), (2, .ref b1 5 0 0), (3, .ref b2 5 0 0)]) (H0 := [(b2, ⟨5, [.agg [.int .i64 a.Id, .int .i64 (0 : Int), .int .i64 (0 : Int), .nils, .int .i64 (0 : Int)]]⟩), (b1, ⟨5, [.agg [.int .i64 (0 : Int), .int .i64 (0 : Int), .int .i64 (0 : Int), .nils, .int .i64 (0 : Int)]]⟩), (b0, ⟨5, [encCarton ρ0 a]⟩)]) rfl (⟨_, _, rfl, rfl, ⟨_, _, rfl, rfl, ⟨_, _, rfl, rfl, rfl⟩⟩⟩) (⟨_, _, rfl, rfl, ⟨_, _, rfl, rfl, ⟨_, _, rfl, rfl, rfl⟩⟩⟩) rfl ?_
 refine V.seq ?_
 refine V.region ?_
 refine VO.cons rfl (V1.fieldRef rfl rfl fo_24_1 rfl (ltb rfl) ?_)
 refine VO.cons rfl (V1.loadRef (k := 2) rfl rfl tyk_3 rfl rfl rfl rfl rfl (ltb rfl) ?_)
 refine VO.cons rfl (V1.fieldRef rfl rfl fo_27_1 rfl (ltb rfl) ?_)
 refine VO.cons rfl (V1.storeRef (k := 0) rfl rfl tyk_3 rfl rfl rfl rfl rfl rfl rfl rfl rfl ?_)
 refine VO.nil ?_
 refine V.seq ?_
 refine V.region ?_
 refine VO.cons rfl (V1.fieldRef rfl rfl fo_24_2 rfl (ltb rfl) ?_)
 refine VO.cons rfl (V1.loadRef (k := 2) rfl rfl tyk_3 rfl rfl rfl rfl rfl (ltb rfl) ?_)
 refine VO.cons rfl (V1.fieldRef rfl rfl fo_27_2 rfl (ltb rfl) ?_)
 refine VO.cons rfl (V1.storeRef (k := 0) rfl rfl tyk_3 rfl rfl rfl rfl rfl rfl rfl rfl rfl ?_)
 refine VO.nil ?_
 refine V.keep 21 [1, 2, 3] [0, 1, 2] (E0 := [(1, .ref b0 5 0 0), (2, .ref b1 5 0 0), (3, .ref b2 5 0 0)]) (H0 := [(b2, ⟨5, [.agg [.int .i64 a.Id, .int .i64 a.Shelf, .int .i64 a.Room, .nils, .int .i64 (0 : Int)]]⟩), (b1, ⟨5, [.agg [.int .i64 (0 : Int), .int .i64 (0 : Int), .int .i64 (0 : Int), .nils, .int .i64 (0 : Int)]]⟩), (b0, ⟨5, [encCarton ρ0 a]⟩)]) rfl (⟨_, _, rfl, rfl, ⟨_, _, rfl, rfl, ⟨_, _, rfl, rfl, rfl⟩⟩⟩) (⟨_, _, rfl, rfl, ⟨_, _, rfl, rfl, ⟨_, _, rfl, rfl, rfl⟩⟩⟩) rfl ?_
 refine V.seq ?_
 replace hm0 := bindO hm0; rcases hm0 with ⟨y0, hh0, hm0⟩
 refine V.region ?_
 refine VO.cons rfl (V1.fieldRef rfl rfl fo_24_3 rfl (ltb rfl) ?_)
 refine VO.cons rfl (V1.loadRef (k := 2) rfl rfl tyk_22 rfl rfl rfl rfl rfl (ltb rfl) ?_)
 refine VO.cons rfl (V1.call rfl rfl rfl cok_47 rfl (ok_laws_toIntS hh0) rfl (ltb rfl) ?_)
 rintro _ _ ⟨ob0, hob0, rfl, rfl⟩
 refine VO.weakenK (Keeps.optVl 15 [] rn (f := encInt) (l := y0) (ob := ob0) (H1 := []) hob0 rfl rfl ⟨rfl, trivial⟩ (fun _ => rfl) rfl iNil) ?_
 refine VO.cons rfl (V1.fieldRef rfl rfl fo_27_3 rfl (ltb rfl) ?_)
 refine VO.cons rfl (V1.storeRef (k := 0) rfl rfl tyk_22 rfl rfl rfl rfl rfl rfl rfl rfl rfl ?_)
 refine VO.nil ?_
 refine V.keep 21 [1, 2, 3] [0, 1, 2] (E0 := [(1, .ref b0 5 0 0), (2, .ref b1 5 0 0), (3, .ref b2 5 0 0)]) (H0 := [(b2, ⟨5, [.agg [.int .i64 a.Id, .int .i64 a.Shelf, .int .i64 a.Room, .vl rn 1 (List.map encInt y0), .int .i64 (0 : Int)]]⟩), (b1, ⟨5, [.agg [.int .i64 (0 : Int), .int .i64 (0 : Int), .int .i64 (0 : Int), .nils, .int .i64 (0 : Int)]]⟩), (b0, ⟨5, [encCarton ρ0 a]⟩)]) rfl (⟨_, _, rfl, rfl, ⟨_, _, rfl, rfl, ⟨_, _, rfl, rfl, rfl⟩⟩⟩) (⟨_, _, rfl, rfl, ⟨_, _, rfl, rfl, ⟨_, _, rfl, rfl, rfl⟩⟩⟩) rfl ?_
 refine V.seq ?_
 refine V.region ?_
 refine VO.cons rfl (V1.fieldRef rfl rfl fo_24_4 rfl (ltb rfl) ?_)
 refine VO.cons rfl (V1.loadRef (k := 2) rfl rfl tyk_3 rfl rfl rfl rfl rfl (ltb rfl) ?_)
 refine VO.cons rfl (V1.fieldRef rfl rfl fo_27_4 rfl (ltb rfl) ?_)
 refine VO.cons rfl (V1.storeRef (k := 0) rfl rfl tyk_3 rfl rfl rfl rfl rfl rfl rfl rfl rfl ?_)
 refine VO.nil ?_
 refine V.keep 21 [2, 3] [0, 1] (E0 := [(2, .ref b1 5 0 0), (3, .ref b2 5 0 0)]) (H0 := [(b2, ⟨5, [.agg [.int .i64 a.Id, .int .i64 a.Shelf, .int .i64 a.Room, .vl rn 1 (List.map encInt y0), .int .i64 a.Thick]]⟩), (b1, ⟨5, [.agg [.int .i64 (0 : Int), .int .i64 (0 : Int), .int .i64 (0 : Int), .nils, .int .i64 (0 : Int)]]⟩)]) rfl (⟨_, _, rfl, rfl, ⟨_, _, rfl, rfl, rfl⟩⟩) (⟨_, _, rfl, rfl, ⟨_, _, rfl, rfl, rfl⟩⟩) rfl ?_
 refine V.seq ?_
 refine V.region ?_
 refine VO.cons rfl (V1.loadRefAll (k := 0) rfl rfl tyk_27 rfl rfl rfl rfl rfl (ltb rfl) ?_)
 refine VO.cons rfl (V1.storeRefAll (k := 1) rfl rfl tyk_27 rfl rfl rfl rfl rfl rfl ?_)
 refine VO.nil ?_
 refine V.ret ?_
 obtain rfl := Option.some.inj hm0
 exact ⟨_, [], ⟨_, _, rfl, ⟨_, _, 1, _, rfl, rfl, rfl, rfl, tyk_27, rfl⟩, rfl⟩, List.nil_sublist _, rfl, rfl⟩

theorem ok_laws_toCartonS {ρ0 σ0 rn : Nat} {a : List Carton} {r : List Carton} (h : M.laws_toCartonS a = some r) : Does Try.prog 23 [.vl ρ0 5 (List.map (encCarton σ0) a)] [] rn (fun x H => ∃ ob0_ : Option Nat, (ob0_ = none → r = []) ∧ x = optS 5 ob0_ (List.length r) ∧ H = optH 5 ob0_ (List.map (encCarton rn) r)) := by
 have hm0 := h; clear h; unfold M.laws_toCartonS at hm0
 try dsimp only at hm0
 refine Does.intro (N := 23) Try.func23 rfl rfl rfl rfl ?_
 intro w0 S0
 refine V.seq ?_
 refine V.region ?_
 refine VO.cons rfl (V1.assign rfl rfl rfl (ltb rfl) ?_)
 refine VO.nil ?_
 refine V.seq ?_
 replace hm0 := asrt_some hm0; rcases hm0 with ⟨hh0, hm0⟩
 refine V.region ?_
 refine VO.cons rfl (V1.move rfl rfl rfl (ltb rfl) ?_)
 refine VO.cons rfl (V1.lenMap rfl rfl rfl rfl rfl rfl isl_31 (ltb rfl) ?_)
 refine VO.cons rfl (V1.makeMapLe (f := (encCarton rn)) (z := (⟨(0 : Int), (0 : Int), (0 : Int), ([] : List Int), (0 : Int)⟩ : Carton)) rfl rfl esz_34 eby_34 zk_27 (.agg (.cons .same (.cons .same (.cons .same (.cons (.nils (l := ([] : List Int)) (f := encInt) rn 1 rfl rfl) (.cons .same .nil)))))) rfl rfl hh0 rfl (ltb rfl) ?_)
 intro b0
 refine VO.cons rfl (V1.assign rfl rfl rfl (ltb rfl) ?_)
 refine VO.nil ?_
 refine V.keep 23 [0, 3] [0] (E0 := [(0, .vl ρ0 5 (List.map (encCarton σ0) a)), (3, .sref b0 5 0 (List.length (List.replicate (Int.toNat (a.length : Int)) (⟨(0 : Int), (0 : Int), (0 : Int), ([] : List Int), (0 : Int)⟩ : Carton))))]) (H0 := [(b0, ⟨5, List.map (encCarton rn) (List.replicate (Int.toNat (a.length : Int)) (⟨(0 : Int), (0 : Int), (0 : Int), ([] : List Int), (0 : Int)⟩ : Carton))⟩)]) rfl (⟨_, _, rfl, rfl, ⟨_, _, rfl, rfl, rfl⟩⟩) (⟨_, _, rfl, rfl, rfl⟩) rfl ?_
 refine V.seq ?_
 refine V.seq ?_
 refine V.region ?_
 refine VO.cons rfl (V1.assign rfl rfl rfl (ltb rfl) ?_)
 refine VO.nil ?_
 replace hm0 := bindO hm0; rcases hm0 with ⟨e0, he1, hm0⟩
 refine V.cutT (D := (List Carton) × (Nat)) (fun ⟨out_, b1⟩ => ⟨23, [(3, .sref b1 5 0 (List.length out_))], [(b1, ⟨5, List.map (encCarton rn) out_⟩)]⟩) (fun ⟨out_, b1⟩ => (out_ = e0)) ?_ ?_
 ·
  refine V.block ?_
  refine V.keep 23 [4, 3, 0] [0] (E0 := [(4, .int .i64 (0 : Int)), (3, .sref b0 5 0 (List.length (List.replicate (Int.toNat (a.length : Int)) (⟨(0 : Int), (0 : Int), (0 : Int), ([] : List Int), (0 : Int)⟩ : Carton)))), (0, .vl ρ0 5 (List.map (encCarton σ0) a))]) (H0 := [(b0, ⟨5, List.map (encCarton rn) (List.replicate (Int.toNat (a.length : Int)) (⟨(0 : Int), (0 : Int), (0 : Int), ([] : List Int), (0 : Int)⟩ : Carton))⟩)]) rfl (⟨_, _, rfl, rfl, ⟨_, _, rfl, rfl, ⟨_, _, rfl, rfl, rfl⟩⟩⟩) (⟨_, _, rfl, rfl, rfl⟩) rfl ?_
  refine V.loopE (D := Nat × (Int × List Carton) × (Unit)) (fun ⟨n0, ⟨i, out_0⟩, _⟩ => [(4, .int .i64 i), (3, .sref b0 5 0 (List.length out_0))]) (fun ⟨n0, ⟨i, out_0⟩, _⟩ => [(b0, ⟨5, List.map (encCarton rn) out_0⟩)]) (fun ⟨n0, ⟨i, out_0⟩, _⟩ => loopO (M.laws_toCartonS_l0 a) n0 (i, out_0) = some e0) (fun ⟨n0, _, _⟩ => n0) (rounds, ((0 : Int), (List.replicate (Int.toNat (a.length : Int)) (⟨(0 : Int), (0 : Int), (0 : Int), ([] : List Int), (0 : Int)⟩ : Carton))), ()) rfl he1 ?_
  rintro ⟨n0, ⟨i, out_0⟩, _⟩ hP0
  obtain ⟨m0, y0, rfl, hm1, hl1, hr1⟩ := loop_head hP0
  unfold M.laws_toCartonS_l0 at hm1; dsimp only at hm1
  show V _ _ _ ⟨23, [(4, .int .i64 i), (3, .sref b0 5 0 (List.length out_0)), (0, .vl ρ0 5 (List.map (encCarton σ0) a))], [(b0, ⟨5, List.map (encCarton rn) out_0⟩)]⟩
  refine V.seq ?_
  refine V.seq ?_
  refine V.region ?_
  refine VO.cons rfl (V1.move rfl rfl rfl (ltb rfl) ?_)
  refine VO.cons rfl (V1.move rfl rfl rfl (ltb rfl) ?_)
  refine VO.cons rfl (V1.lenMap rfl rfl rfl rfl rfl rfl isl_31 (ltb rfl) ?_)
  refine VO.cons rfl (V1.int rfl rfl rfl rfl rfl (ltb rfl) ?_)
  refine VO.nil ?_
  refine V.cond rfl (fun hc0 => ?_) (fun hc0 => ?_)
  ·
   replace hm1 := cond_t hc0 hm1
   refine V.skip ?_
   refine V.keep 23 [0, 3, 4] [0] (E0 := [(0, .vl ρ0 5 (List.map (encCarton σ0) a)), (3, .sref b0 5 0 (List.length out_0)), (4, .int .i64 i)]) (H0 := [(b0, ⟨5, List.map (encCarton rn) out_0⟩)]) rfl (⟨_, _, rfl, rfl, ⟨_, _, rfl, rfl, ⟨_, _, rfl, rfl, rfl⟩⟩⟩) (⟨_, _, rfl, rfl, rfl⟩) rfl ?_
   refine V.seq ?_
   refine V.block ?_
   replace hm1 := asrt_some hm1; rcases hm1 with ⟨hh1, hm1⟩
   replace hm1 := bindO hm1; rcases hm1 with ⟨y1, hh2, hm1⟩
   replace hm1 := asrt_some hm1; rcases hm1 with ⟨hh3, hm1⟩
   refine V.region ?_
   refine VO.cons rfl (V1.move rfl rfl rfl (ltb rfl) ?_)
   refine VO.cons rfl (V1.move rfl rfl rfl (ltb rfl) ?_)
   refine VO.cons rfl (V1.move rfl rfl rfl (ltb rfl) ?_)
   refine VO.cons rfl (V1.move rfl rfl rfl (ltb rfl) ?_)
   refine VO.cons rfl (V1.indexI rfl rfl esz_31 rfl rfl hh1 (ltb rfl) ?_)
   refine VO.cons rfl (V1.loadPinAll rfl rfl tyk_24 rfl rfl (ltb rfl) ?_)
   refine VO.cons rfl (V1.call rfl rfl rfl cok_18 rfl (ok_laws_toCarton hh2) rfl (ltb rfl) ?_)
   rintro _ _ ⟨rfl, rfl⟩
   refine VO.cons rfl (V1.indexSr rfl rfl esz_34 rfl rfl hh3 (ltb rfl) ?_)
   refine VO.cons rfl (V1.storeMap (k := 0) (f := (encCarton rn)) (x := y1) rfl rfl tyk_27 rfl rfl (by simpa using natLt hh3.1 hh3.2) rfl rfl ?_)
   refine VO.weakenK (Keeps.say 3 (y := .sref b0 5 0 (List.length (out_0.set (Int.toNat i) y1))) rfl (by simp)) ?_
   refine VO.nil ?_
   refine V.keep 23 [0, 3, 4] [0] (E0 := [(0, .vl ρ0 5 (List.map (encCarton σ0) a)), (3, .sref b0 5 0 (List.length (out_0.set (Int.toNat i) y1))), (4, .int .i64 i)]) (H0 := [(b0, ⟨5, List.map (encCarton rn) (out_0.set (Int.toNat i) y1)⟩)]) rfl (⟨_, _, rfl, rfl, ⟨_, _, rfl, rfl, ⟨_, _, rfl, rfl, rfl⟩⟩⟩) (⟨_, _, rfl, rfl, rfl⟩) rfl ?_
   refine V.region ?_
   refine VO.cons rfl (V1.move rfl rfl rfl (ltb rfl) ?_)
   refine VO.cons rfl (V1.int rfl rfl rfl rfl rfl (ltb rfl) ?_)
   refine VO.cons rfl (V1.assign rfl rfl rfl (ltb rfl) ?_)
   refine VO.nil ?_
   exact ⟨(m0, ((IntKind.i64.wrap (i + (1 : Int))), (out_0.set (Int.toNat i) y1)), ()), hl1 _ (Option.some.inj hm1).symm, Nat.lt_succ_self _, Keeps.mk (ks := [0]) rfl ⟨rfl, (someSref (by simp)), rfl, trivial⟩ (⟨_, _, rfl, rfl, rfl⟩) rfl⟩
  ·
   replace hm1 := cond_f hc0 hm1
   refine V.exit ?_
   obtain rfl := hr1 _ (Option.some.inj hm1).symm
   exact ⟨(out_0, b0), rfl, Keeps.mk (ks := [0]) rfl ⟨rfl, trivial⟩ (⟨_, _, rfl, rfl, rfl⟩) rfl⟩
 ·
  rintro ⟨out_, b1⟩ rfl
  try dsimp only at hm0
  refine V.seq ?_
  refine V.region ?_
  refine VO.cons rfl (V1.move rfl rfl rfl (ltb rfl) ?_)
  refine VO.cons rfl (V1.assign rfl rfl rfl (ltb rfl) ?_)
  refine VO.nil ?_
  refine V.keep 23 [2] [0] (E0 := [(2, .sref b1 5 0 (List.length out_))]) (H0 := [(b1, ⟨5, List.map (encCarton rn) out_⟩)]) rfl (⟨_, _, rfl, rfl, rfl⟩) (⟨_, _, rfl, rfl, rfl⟩) rfl ?_
  refine V.ret ?_
  obtain rfl := Option.some.inj hm0
  exact ⟨_, _, ⟨_, _, rfl, rfl, rfl⟩, List.Sublist.refl _, some b1, (fun e => by cases e), rfl, rfl⟩

theorem ok_spec_l1In {rn : Nat} {x : Int} {a : Int} {b_ : Int} {r : Bool} (h : M.spec_l1In x a b_ = some r) : Does Try.prog 84 [.int .i64 x, .int .i64 a, .int .i64 b_] [] rn (fun x H => x = .bool r ∧ H = []) := by
 have hm0 := h; clear h; unfold M.spec_l1In at hm0
 try dsimp only at hm0
 refine Does.intro (N := 15) Try.func84 rfl rfl rfl rfl ?_
 intro w0 S0
 refine V.seq ?_
 refine V.region ?_
 refine VO.cons rfl (V1.assign rfl rfl rfl (ltb rfl) ?_)
 refine VO.nil ?_
 refine V.seq ?_
 refine V.region ?_
 refine VO.cons rfl (V1.move rfl rfl rfl (ltb rfl) ?_)
 refine VO.cons rfl (V1.move rfl rfl rfl (ltb rfl) ?_)
 refine VO.cons rfl (V1.int rfl rfl rfl rfl rfl (ltb rfl) ?_)
 refine VO.cons rfl (V1.move rfl rfl rfl (ltb rfl) ?_)
 apply VO.and (n := 3) rfl rfl rfl rfl rfl rfl (ltb rfl) (.none rfl)
 ·
  intro hg0
  refine VO.step (.some rfl rfl rfl) (V1.move rfl rfl rfl (ltb rfl) ?_)
  refine VO.step (.some rfl rfl rfl) (V1.move rfl rfl rfl (ltb rfl) ?_)
  refine VO.step (.some rfl rfl rfl) (V1.int rfl rfl rfl rfl rfl (ltb rfl) ?_)
  exact VO.nil ⟨rfl, rfl, rfl, rfl, .inr ⟨rfl, .inr ⟨rfl, .inr ⟨rfl, .inr ⟨rfl, .inl rfl⟩⟩⟩⟩⟩
 refine VO.cons rfl (V1.assign rfl rfl rfl (ltb rfl) ?_)
 refine VO.nil ?_
 refine V.ret ?_
 obtain rfl := Option.some.inj hm0
 exact ⟨_, [], ⟨_, _, rfl, rfl, rfl⟩, List.nil_sublist _, rfl, rfl⟩

theorem ok_spec_l18Place {rn : Nat} {room : Int} {shelf : Int} {r : Bool} (h : M.spec_l18Place room shelf = some r) : Does Try.prog 80 [.int .i64 room, .int .i64 shelf] [] rn (fun x H => x = .bool r ∧ H = []) := by
 have hm0 := h; clear h; unfold M.spec_l18Place at hm0
 try dsimp only at hm0
 refine Does.intro (N := 11) Try.func80 rfl rfl rfl rfl ?_
 intro w0 S0
 refine V.seq ?_
 refine V.region ?_
 refine VO.cons rfl (V1.assign rfl rfl rfl (ltb rfl) ?_)
 refine VO.nil ?_
 refine V.seq ?_
 replace hm0 := bindO hm0; rcases hm0 with ⟨y0, hh0, hm0⟩
 replace hm0 := bindO hm0; rcases hm0 with ⟨y1, hh1, hm0⟩
 refine V.region ?_
 refine VO.cons rfl (V1.move rfl rfl rfl (ltb rfl) ?_)
 refine VO.cons rfl (V1.call rfl rfl rfl cok_84 rfl (ok_spec_l1In hh0) rfl (ltb rfl) ?_)
 rintro _ _ ⟨rfl, rfl⟩
 refine VO.cons rfl (V1.move rfl rfl rfl (ltb rfl) ?_)
 apply VO.and (n := 2) rfl rfl rfl rfl rfl rfl (ltb rfl) (.none rfl)
 ·
  intro hg0
  refine VO.step (.some rfl rfl rfl) (V1.move rfl rfl rfl (ltb rfl) ?_)
  refine VO.step (.some rfl rfl rfl) (V1.call rfl rfl rfl cok_84 rfl (ok_spec_l1In (cond_t hg0 hh1)) rfl (ltb rfl) ?_)
  rintro _ _ ⟨rfl, rfl⟩
  exact VO.nil ⟨rfl, rfl, rfl, rfl, .inr ⟨rfl, .inr ⟨rfl, .inr ⟨rfl, .inl rfl⟩⟩⟩⟩
 refine VO.cons rfl (V1.assign rfl rfl rfl (ltb rfl) ?_)
 refine VO.nil ?_
 refine V.ret ?_
 obtain rfl := Option.some.inj hm0
 exact ⟨_, [], ⟨_, _, rfl, rfl, rfl⟩, List.nil_sublist _, rfl, rfl⟩

theorem ok_spec_l1Rising {ρ0 rn : Nat} {l : List Int} {lo : Int} {hi : Int} {r : Bool} (h : M.spec_l1Rising l lo hi = some r) : Does Try.prog 89 [.vl ρ0 1 (List.map encInt l), .int .i64 lo, .int .i64 hi] [] rn (fun x H => x = .bool r ∧ H = []) := by
 have hm0 := h; clear h; unfold M.spec_l1Rising at hm0
 try dsimp only at hm0
 refine Does.intro (N := 38) Try.func89 rfl rfl rfl rfl ?_
 intro w0 S0
 refine V.seq ?_
 refine V.region ?_
 refine VO.cons rfl (V1.assign rfl rfl rfl (ltb rfl) ?_)
 refine VO.nil ?_
 refine V.seq ?_
 refine V.seq ?_
 refine V.region ?_
 refine VO.cons rfl (V1.assign rfl rfl rfl (ltb rfl) ?_)
 refine VO.nil ?_
 replace hm0 := bindO hm0; rcases hm0 with ⟨e0, he1, hm0⟩
 refine V.cutT (D := (Unit) × (Unit)) (fun ⟨_, _⟩ => ⟨38, [], []⟩) (fun ⟨_, _⟩ => (.inl () = e0)) ?_ ?_
 ·
  refine V.block ?_
  refine V.keep 38 [7, 0, 1, 2] [] (E0 := [(7, .int .i64 (0 : Int)), (0, .vl ρ0 1 (List.map encInt l)), (1, .int .i64 lo), (2, .int .i64 hi)]) (H0 := []) rfl (⟨_, _, rfl, rfl, ⟨_, _, rfl, rfl, ⟨_, _, rfl, rfl, ⟨_, _, rfl, rfl, rfl⟩⟩⟩⟩) (rfl) rfl ?_
  refine V.loopE (D := Nat × (Int) × (Unit)) (fun ⟨n0, i, _⟩ => [(7, .int .i64 i)]) (fun ⟨n0, i, _⟩ => []) (fun ⟨n0, i, _⟩ => loopO (M.spec_l1Rising_l0 l lo hi) n0 i = some e0) (fun ⟨n0, _, _⟩ => n0) (rounds, (0 : Int), ()) rfl he1 ?_
  rintro ⟨n0, i, _⟩ hP0
  obtain ⟨m0, y0, rfl, hm1, hl1, hr1⟩ := loop_head hP0
  unfold M.spec_l1Rising_l0 at hm1; dsimp only at hm1
  show V _ _ _ ⟨38, [(7, .int .i64 i), (0, .vl ρ0 1 (List.map encInt l)), (1, .int .i64 lo), (2, .int .i64 hi)], []⟩
  refine V.seq ?_
  refine V.seq ?_
  refine V.region ?_
  refine VO.cons rfl (V1.move rfl rfl rfl (ltb rfl) ?_)
  refine VO.cons rfl (V1.move rfl rfl rfl (ltb rfl) ?_)
  refine VO.cons rfl (V1.lenMap rfl rfl rfl rfl rfl rfl isl_22 (ltb rfl) ?_)
  refine VO.cons rfl (V1.int rfl rfl rfl rfl rfl (ltb rfl) ?_)
  refine VO.nil ?_
  refine V.cond rfl (fun hc0 => ?_) (fun hc0 => ?_)
  ·
   replace hm1 := cond_t hc0 hm1
   refine V.skip ?_
   refine V.keep 38 [0, 1, 2, 7] [] (E0 := [(0, .vl ρ0 1 (List.map encInt l)), (1, .int .i64 lo), (2, .int .i64 hi), (7, .int .i64 i)]) (H0 := []) rfl (⟨_, _, rfl, rfl, ⟨_, _, rfl, rfl, ⟨_, _, rfl, rfl, ⟨_, _, rfl, rfl, rfl⟩⟩⟩⟩) (rfl) rfl ?_
   refine V.seq ?_
   refine V.block ?_
   refine V.seq ?_
   replace hm1 := asrt_some hm1; rcases hm1 with ⟨hh0, hm1⟩
   replace hm1 := bindO hm1; rcases hm1 with ⟨y1, hh1, hm1⟩
   replace hm1 := asrt_some hm1; rcases hm1 with ⟨hh2, hm1⟩
   replace hm1 := asrt_some hm1; rcases hm1 with ⟨hh3, hm1⟩
   refine V.regionM 38 24 [⟨[(0, none)], [], none⟩, ⟨[(7, none)], [], none⟩, ⟨[(14, some 1), (15, some 0)], [], none⟩, ⟨[(16, some 0)], [], none⟩, ⟨[(1, none)], [], none⟩, ⟨[(2, none)], [], none⟩, ⟨[(17, some 2), (18, some 1), (19, some 0)], [], none⟩, ⟨[(20, some 0)], [], none⟩, ⟨[(21, some 0)], [], none⟩, ⟨[(7, none)], [(0, false)], none⟩, ⟨[(23, some 0)], [(1, false)], none⟩, ⟨[(24, some 0)], [(2, false)], none⟩, ⟨[(0, none)], [(0, true), (3, false)], none⟩, ⟨[(7, none)], [(1, true), (4, false)], none⟩, ⟨[(27, some 0)], [(2, true), (5, false)], none⟩, ⟨[(26, some 2), (28, some 0)], [(3, true), (6, false)], none⟩, ⟨[(29, some 0)], [(4, true), (7, false)], none⟩, ⟨[(0, none)], [(5, true), (8, false)], none⟩, ⟨[(7, none)], [(6, true), (9, false)], none⟩, ⟨[(31, some 1), (32, some 0)], [(7, true), (10, false)], none⟩, ⟨[(33, some 0)], [(8, true), (11, false)], none⟩, ⟨[(30, some 4), (34, some 0)], [(9, true), (12, false)], none⟩, ⟨[], [(13, false)], some (true, 25, 35, 10, 0)⟩, ⟨[], [], some (false, 22, 36, 14, 0)⟩] [(0, none), (1, none), (2, none), (7, none), (37, some 0)] (⟨_, rfl, ⟨_, rfl, ⟨_, rfl, ⟨_, rfl, ⟨_, rfl, ⟨_, rfl, ⟨_, rfl, ⟨_, rfl, ⟨_, rfl, ⟨_, rfl, ⟨_, rfl, ⟨_, rfl, ⟨_, rfl, ⟨_, rfl, ⟨_, rfl, ⟨_, rfl, ⟨_, rfl, ⟨_, rfl, ⟨_, rfl, ⟨_, rfl, ⟨_, rfl, ⟨_, rfl, ⟨_, rfl, ⟨_, rfl, ⟨rfl, rfl⟩⟩⟩⟩⟩⟩⟩⟩⟩⟩⟩⟩⟩⟩⟩⟩⟩⟩⟩⟩⟩⟩⟩⟩⟩) mixed_orders rfl (by decide +kernel) (fun hck4 => ?_)
   refine VP.step (p := ?pv111) rfl rfl rfl (⟨_, _, rfl, rfl, rfl⟩) ?hv111 ?rest111 hck4
   case hv111 =>
    intro E1
    refine (V1.move rfl rfl rfl (ltb rfl) ?_)
    exact rfl
   refine VP.step (p := ?pv112) rfl rfl rfl (⟨_, _, rfl, rfl, rfl⟩) ?hv112 ?rest112 hck4
   case hv112 =>
    intro E1
    refine (V1.move rfl rfl rfl (ltb rfl) ?_)
    exact rfl
   refine VP.step (p := ?pv113) rfl rfl rfl (⟨_, _, rfl, rfl, ⟨_, _, rfl, rfl, rfl⟩⟩) ?hv113 ?rest113 hck4
   case hv113 =>
    intro E1
    refine (V1.indexI rfl rfl esz_22 rfl rfl hh0 (ltb rfl) ?_)
    exact rfl
   refine VP.step (p := ?pv114) rfl rfl rfl (⟨_, _, rfl, rfl, rfl⟩) ?hv114 ?rest114 hck4
   case hv114 =>
    intro E1
    refine (V1.loadPin rfl rfl tyk_3 rfl rfl (ltb rfl) ?_)
    exact rfl
   refine VP.step (p := ?pv115) rfl rfl rfl (⟨_, _, rfl, rfl, rfl⟩) ?hv115 ?rest115 hck4
   case hv115 =>
    intro E1
    refine (V1.move rfl rfl rfl (ltb rfl) ?_)
    exact rfl
   refine VP.step (p := ?pv116) rfl rfl rfl (⟨_, _, rfl, rfl, rfl⟩) ?hv116 ?rest116 hck4
   case hv116 =>
    intro E1
    refine (V1.move rfl rfl rfl (ltb rfl) ?_)
    exact rfl
   refine VP.step (p := ?pv117) rfl rfl rfl (⟨_, _, rfl, rfl, ⟨_, _, rfl, rfl, ⟨_, _, rfl, rfl, rfl⟩⟩⟩) ?hv117 ?rest117 hck4
   case hv117 =>
    intro E1
    refine (V1.call rfl rfl rfl cok_84 rfl (ok_spec_l1In hh1) rfl (ltb rfl) ?_)
    rintro _ _ ⟨rfl, rfl⟩
    exact rfl
   refine VP.step (p := ?pv118) rfl rfl rfl (⟨_, _, rfl, rfl, rfl⟩) ?hv118 ?rest118 hck4
   case hv118 =>
    intro E1
    refine (V1.not rfl rfl rfl (ltb rfl) ?_)
    exact rfl
   refine VP.step (p := ?pv119) rfl rfl rfl (⟨_, _, rfl, rfl, rfl⟩) ?hv119 ?rest119 hck4
   case hv119 =>
    intro E1
    refine (V1.move rfl rfl rfl (ltb rfl) ?_)
    exact rfl
   refine VP.step (p := ?pv120) rfl rfl rfl (⟨_, _, rfl, rfl, rfl⟩) ?hv120 ?rest120 hck4
   case hv120 =>
    refine ⟨_, rfl, fun hg0 => ?_⟩
    intro E1
    refine (V1.move rfl rfl rfl (ltb rfl) ?_)
    exact rfl
   refine VP.step (p := ?pv121) rfl rfl rfl (⟨_, _, rfl, rfl, rfl⟩) ?hv121 ?rest121 hck4
   case hv121 =>
    refine ⟨_, rfl, fun hg0 => ?_⟩
    intro E1
    refine (V1.int rfl rfl rfl rfl rfl (ltb rfl) ?_)
    exact rfl
   refine VP.step (p := ?pv122) rfl rfl rfl (⟨_, _, rfl, rfl, rfl⟩) ?hv122 ?rest122 hck4
   case hv122 =>
    refine ⟨_, rfl, fun hg0 => ?_⟩
    intro E1
    refine (V1.move rfl rfl rfl (ltb rfl) ?_)
    exact rfl
   refine VP.step (p := ?pv123) rfl rfl rfl (⟨_, _, rfl, rfl, rfl⟩) ?hv123 ?rest123 hck4
   case hv123 =>
    refine ⟨_, rfl, fun hg1 => ?_⟩
    refine ⟨_, rfl, fun hg0 => ?_⟩
    intro E1
    refine (V1.move rfl rfl rfl (ltb rfl) ?_)
    exact rfl
   refine VP.step (p := ?pv124) rfl rfl rfl (⟨_, _, rfl, rfl, rfl⟩) ?hv124 ?rest124 hck4
   case hv124 =>
    refine ⟨_, rfl, fun hg1 => ?_⟩
    refine ⟨_, rfl, fun hg0 => ?_⟩
    intro E1
    refine (V1.move rfl rfl rfl (ltb rfl) ?_)
    exact rfl
   refine VP.step (p := ?pv125) rfl rfl rfl (⟨_, _, rfl, rfl, rfl⟩) ?hv125 ?rest125 hck4
   case hv125 =>
    refine ⟨_, rfl, fun hg1 => ?_⟩
    refine ⟨_, rfl, fun hg0 => ?_⟩
    intro E1
    refine (V1.int rfl rfl rfl rfl rfl (ltb rfl) ?_)
    exact rfl
   refine VP.step (p := ?pv126) rfl rfl rfl (⟨_, _, rfl, rfl, ⟨_, _, rfl, rfl, rfl⟩⟩) ?hv126 ?rest126 hck4
   case hv126 =>
    refine ⟨_, rfl, fun hg1 => ?_⟩
    refine ⟨_, rfl, fun hg0 => ?_⟩
    intro E1
    refine (V1.indexI rfl rfl esz_22 rfl rfl (hh2 hg0 hg1) (ltb rfl) ?_)
    exact rfl
   refine VP.step (p := ?pv127) rfl rfl rfl (⟨_, _, rfl, rfl, rfl⟩) ?hv127 ?rest127 hck4
   case hv127 =>
    refine ⟨_, rfl, fun hg1 => ?_⟩
    refine ⟨_, rfl, fun hg0 => ?_⟩
    intro E1
    refine (V1.loadPin rfl rfl tyk_3 rfl rfl (ltb rfl) ?_)
    exact rfl
   refine VP.step (p := ?pv128) rfl rfl rfl (⟨_, _, rfl, rfl, rfl⟩) ?hv128 ?rest128 hck4
   case hv128 =>
    refine ⟨_, rfl, fun hg1 => ?_⟩
    refine ⟨_, rfl, fun hg0 => ?_⟩
    intro E1
    refine (V1.move rfl rfl rfl (ltb rfl) ?_)
    exact rfl
   refine VP.step (p := ?pv129) rfl rfl rfl (⟨_, _, rfl, rfl, rfl⟩) ?hv129 ?rest129 hck4
   case hv129 =>
    refine ⟨_, rfl, fun hg1 => ?_⟩
    refine ⟨_, rfl, fun hg0 => ?_⟩
    intro E1
    refine (V1.move rfl rfl rfl (ltb rfl) ?_)
    exact rfl
   refine VP.step (p := ?pv130) rfl rfl rfl (⟨_, _, rfl, rfl, ⟨_, _, rfl, rfl, rfl⟩⟩) ?hv130 ?rest130 hck4
   case hv130 =>
    refine ⟨_, rfl, fun hg1 => ?_⟩
    refine ⟨_, rfl, fun hg0 => ?_⟩
    intro E1
    refine (V1.indexI rfl rfl esz_22 rfl rfl (hh3 hg0 hg1) (ltb rfl) ?_)
    exact rfl
   refine VP.step (p := ?pv131) rfl rfl rfl (⟨_, _, rfl, rfl, rfl⟩) ?hv131 ?rest131 hck4
   case hv131 =>
    refine ⟨_, rfl, fun hg1 => ?_⟩
    refine ⟨_, rfl, fun hg0 => ?_⟩
    intro E1
    refine (V1.loadPin rfl rfl tyk_3 rfl rfl (ltb rfl) ?_)
    exact rfl
   refine VP.step (p := ?pv132) rfl rfl rfl (⟨_, _, rfl, rfl, ⟨_, _, rfl, rfl, rfl⟩⟩) ?hv132 ?rest132 hck4
   case hv132 =>
    refine ⟨_, rfl, fun hg1 => ?_⟩
    refine ⟨_, rfl, fun hg0 => ?_⟩
    intro E1
    refine (V1.int rfl rfl rfl rfl rfl (ltb rfl) ?_)
    exact rfl
   refine VP.pickAnd rfl rfl rfl rfl rfl rfl (⟨_, rfl, fun _ => trivial⟩) ?_ hck4
   refine VP.pickOr rfl rfl rfl rfl rfl rfl (trivial) ?_ hck4
   refine VP.fin rfl (⟨_, _, rfl, rfl, ⟨_, _, rfl, rfl, ⟨_, _, rfl, rfl, ⟨_, _, rfl, rfl, ⟨_, _, rfl, rfl, rfl⟩⟩⟩⟩⟩) ?_
   refine VO.nil ?_
   refine V.cond rfl (fun hc1 => ?_) (fun hc1 => ?_)
   ·
    replace hm1 := cond_t hc1 hm1
    refine V.seq ?_
    refine V.region ?_
    refine VO.cons rfl (V1.assign rfl rfl rfl (ltb rfl) ?_)
    refine VO.nil ?_
    refine V.ret ?_
    obtain rfl := hr1 _ (Option.some.inj hm1).symm
    change some _ = some _ at hm0
    obtain rfl := Option.some.inj hm0
    exact ⟨_, [], ⟨_, _, rfl, rfl, rfl⟩, List.nil_sublist _, rfl, rfl⟩
   ·
    replace hm1 := cond_f hc1 hm1
    refine V.skip ?_
    refine V.region ?_
    refine VO.cons rfl (V1.move rfl rfl rfl (ltb rfl) ?_)
    refine VO.cons rfl (V1.int rfl rfl rfl rfl rfl (ltb rfl) ?_)
    refine VO.cons rfl (V1.assign rfl rfl rfl (ltb rfl) ?_)
    refine VO.nil ?_
    exact ⟨(m0, (IntKind.i64.wrap (i + (1 : Int))), ()), hl1 _ (Option.some.inj hm1).symm, Nat.lt_succ_self _, Keeps.mk (ks := []) rfl ⟨rfl, rfl, rfl, rfl, trivial⟩ (rfl) rfl⟩
  ·
   replace hm1 := cond_f hc0 hm1
   refine V.exit ?_
   obtain rfl := hr1 _ (Option.some.inj hm1).symm
   exact ⟨((), ()), rfl, Keeps.mk (ks := []) rfl trivial (rfl) rfl⟩
 ·
  rintro ⟨_, _⟩ rfl
  try dsimp only at hm0
  refine V.seq ?_
  refine V.region ?_
  refine VO.cons rfl (V1.assign rfl rfl rfl (ltb rfl) ?_)
  refine VO.nil ?_
  refine V.ret ?_
  obtain rfl := Option.some.inj hm0
  exact ⟨_, [], ⟨_, _, rfl, rfl, rfl⟩, List.nil_sublist _, rfl, rfl⟩

theorem ok_spec_l18One {ρ0 rn : Nat} {x : Carton} {r : Bool} (h : M.spec_l18One x = some r) : Does Try.prog 68 [encCarton ρ0 x] [] rn (fun x H => x = .bool r ∧ H = []) := by
 have hm0 := h; clear h; unfold M.spec_l18One at hm0
 try dsimp only at hm0
 refine Does.intro (N := 29) Try.func68 rfl rfl rfl rfl ?_
 intro w0 S0
 refine V.seq ?_
 refine V.region ?_
 refine VO.cons rfl (V1.boxN (n := 5) rfl rfl rfl rfl rfl (ltb rfl) ?_)
 intro b0
 refine VO.cons rfl (V1.assign rfl rfl rfl (ltb rfl) ?_)
 refine VO.nil ?_
 refine V.seq ?_
 replace hm0 := bindO hm0; rcases hm0 with ⟨y0, hh0, hm0⟩
 replace hm0 := bindO hm0; rcases hm0 with ⟨y1, hh1, hm0⟩
 replace hm0 := bindO hm0; rcases hm0 with ⟨y2, hh2, hm0⟩
 replace hm0 := bindO hm0; rcases hm0 with ⟨y3, hh3, hm0⟩
 refine V.region ?_
 refine VO.cons rfl (V1.fieldRef rfl rfl fo_27_0 rfl (ltb rfl) ?_)
 refine VO.cons rfl (V1.loadRef (k := 0) rfl rfl tyk_3 rfl rfl rfl rfl rfl (ltb rfl) ?_)
 refine VO.cons rfl (V1.call rfl rfl rfl cok_84 rfl (ok_spec_l1In hh0) rfl (ltb rfl) ?_)
 rintro _ _ ⟨rfl, rfl⟩
 refine VO.cons rfl (V1.move rfl rfl rfl (ltb rfl) ?_)
 apply VO.and (n := 5) rfl rfl rfl rfl rfl rfl (ltb rfl) (.none rfl)
 ·
  intro hg0
  refine VO.step (.some rfl rfl rfl) (V1.fieldRef rfl rfl fo_27_2 rfl (ltb rfl) ?_)
  refine VO.step (.some rfl rfl rfl) (V1.loadRef (k := 0) rfl rfl tyk_3 rfl rfl rfl rfl rfl (ltb rfl) ?_)
  refine VO.step (.some rfl rfl rfl) (V1.fieldRef rfl rfl fo_27_1 rfl (ltb rfl) ?_)
  refine VO.step (.some rfl rfl rfl) (V1.loadRef (k := 0) rfl rfl tyk_3 rfl rfl rfl rfl rfl (ltb rfl) ?_)
  refine VO.step (.some rfl rfl rfl) (V1.call rfl rfl rfl cok_80 rfl (ok_spec_l18Place (cond_t hg0 hh1)) rfl (ltb rfl) ?_)
  rintro _ _ ⟨rfl, rfl⟩
  exact VO.nil ⟨rfl, rfl, rfl, rfl, .inr ⟨rfl, .inr ⟨rfl, .inr ⟨rfl, .inr ⟨rfl, .inr ⟨rfl, .inr ⟨rfl, .inl rfl⟩⟩⟩⟩⟩⟩⟩
 refine VO.cons rfl (V1.move rfl rfl rfl (ltb rfl) ?_)
 apply VO.and (n := 4) rfl rfl rfl rfl rfl rfl (ltb rfl) (.none rfl)
 ·
  intro hg1
  refine VO.step (.some rfl rfl rfl) (V1.fieldRef rfl rfl fo_27_3 rfl (ltb rfl) ?_)
  refine VO.step (.some rfl rfl rfl) (V1.loadRef (k := 0) rfl rfl tyk_22 rfl rfl rfl rfl rfl (ltb rfl) ?_)
  refine VO.step (.some rfl rfl rfl) (V1.lenMap rfl rfl rfl rfl rfl rfl isl_22 (ltb rfl) ?_)
  refine VO.step (.some rfl rfl rfl) (V1.int rfl rfl rfl rfl rfl (ltb rfl) ?_)
  exact VO.nil ⟨rfl, rfl, rfl, rfl, .inr ⟨rfl, .inr ⟨rfl, .inr ⟨rfl, .inr ⟨rfl, .inr ⟨rfl, .inl rfl⟩⟩⟩⟩⟩⟩
 refine VO.cons rfl (V1.move rfl rfl rfl (ltb rfl) ?_)
 apply VO.and (n := 3) rfl rfl rfl rfl rfl rfl (ltb rfl) (.none rfl)
 ·
  intro hg2
  refine VO.step (.some rfl rfl rfl) (V1.fieldRef rfl rfl fo_27_3 rfl (ltb rfl) ?_)
  refine VO.step (.some rfl rfl rfl) (V1.loadRef (k := 0) rfl rfl tyk_22 rfl rfl rfl rfl rfl (ltb rfl) ?_)
  refine VO.step (.some rfl rfl rfl) (V1.call rfl rfl rfl cok_89 rfl (ok_spec_l1Rising (cond_t hg2 hh2)) rfl (ltb rfl) ?_)
  rintro _ _ ⟨rfl, rfl⟩
  exact VO.nil ⟨rfl, rfl, rfl, rfl, .inr ⟨rfl, .inr ⟨rfl, .inr ⟨rfl, .inr ⟨rfl, .inl rfl⟩⟩⟩⟩⟩
 refine VO.cons rfl (V1.move rfl rfl rfl (ltb rfl) ?_)
 apply VO.and (n := 3) rfl rfl rfl rfl rfl rfl (ltb rfl) (.none rfl)
 ·
  intro hg3
  refine VO.step (.some rfl rfl rfl) (V1.fieldRef rfl rfl fo_27_4 rfl (ltb rfl) ?_)
  refine VO.step (.some rfl rfl rfl) (V1.loadRef (k := 0) rfl rfl tyk_3 rfl rfl rfl rfl rfl (ltb rfl) ?_)
  refine VO.step (.some rfl rfl rfl) (V1.call rfl rfl rfl cok_84 rfl (ok_spec_l1In (cond_t hg3 hh3)) rfl (ltb rfl) ?_)
  rintro _ _ ⟨rfl, rfl⟩
  exact VO.nil ⟨rfl, rfl, rfl, rfl, .inr ⟨rfl, .inr ⟨rfl, .inr ⟨rfl, .inr ⟨rfl, .inl rfl⟩⟩⟩⟩⟩
 refine VO.cons rfl (V1.assign rfl rfl rfl (ltb rfl) ?_)
 refine VO.nil ?_
 refine V.ret ?_
 obtain rfl := Option.some.inj hm0
 exact ⟨_, [], ⟨_, _, rfl, rfl, rfl⟩, List.nil_sublist _, rfl, rfl⟩

theorem ok_spec_l18Taken {ρ0 σ0 rn : Nat} {list : List Carton} {room : Int} {shelf : Int} {r : Int} (h : M.spec_l18Taken list room shelf = some r) : Does Try.prog 81 [.vl ρ0 5 (List.map (encCarton σ0) list), .int .i64 room, .int .i64 shelf] [] rn (fun x H => x = .int .i64 r ∧ H = []) := by
 have hm0 := h; clear h; unfold M.spec_l18Taken at hm0
 try dsimp only at hm0
 refine Does.intro (N := 39) Try.func81 rfl rfl rfl rfl ?_
 intro w0 S0
 refine V.seq ?_
 refine V.region ?_
 refine VO.cons rfl (V1.assign rfl rfl rfl (ltb rfl) ?_)
 refine VO.nil ?_
 refine V.seq ?_
 refine V.region ?_
 refine VO.cons rfl (V1.assign rfl rfl rfl (ltb rfl) ?_)
 refine VO.nil ?_
 refine V.seq ?_
 refine V.seq ?_
 refine V.region ?_
 refine VO.cons rfl (V1.assign rfl rfl rfl (ltb rfl) ?_)
 refine VO.nil ?_
 replace hm0 := bindO hm0; rcases hm0 with ⟨e0, he1, hm0⟩
 refine V.cutT (D := (Int) × (Unit)) (fun ⟨sum_, _⟩ => ⟨39, [(7, .int .i64 sum_)], []⟩) (fun ⟨sum_, _⟩ => (sum_ = e0)) ?_ ?_
 ·
  refine V.block ?_
  refine V.keep 39 [7, 8, 0, 1, 2] [] (E0 := [(7, .int .i64 (0 : Int)), (8, .int .i64 (0 : Int)), (0, .vl ρ0 5 (List.map (encCarton σ0) list)), (1, .int .i64 room), (2, .int .i64 shelf)]) (H0 := []) rfl (⟨_, _, rfl, rfl, ⟨_, _, rfl, rfl, ⟨_, _, rfl, rfl, ⟨_, _, rfl, rfl, ⟨_, _, rfl, rfl, rfl⟩⟩⟩⟩⟩) (rfl) rfl ?_
  refine V.loopE (D := Nat × (Int × Int) × (Unit)) (fun ⟨n0, ⟨sum_0, i⟩, _⟩ => [(7, .int .i64 sum_0), (8, .int .i64 i)]) (fun ⟨n0, ⟨sum_0, i⟩, _⟩ => []) (fun ⟨n0, ⟨sum_0, i⟩, _⟩ => loopO (M.spec_l18Taken_l0 list room shelf) n0 (sum_0, i) = some e0) (fun ⟨n0, _, _⟩ => n0) (rounds, ((0 : Int), (0 : Int)), ()) rfl he1 ?_
  rintro ⟨n0, ⟨sum_0, i⟩, _⟩ hP0
  obtain ⟨m0, y0, rfl, hm1, hl1, hr1⟩ := loop_head hP0
  unfold M.spec_l18Taken_l0 at hm1; dsimp only at hm1
  show V _ _ _ ⟨39, [(7, .int .i64 sum_0), (8, .int .i64 i), (0, .vl ρ0 5 (List.map (encCarton σ0) list)), (1, .int .i64 room), (2, .int .i64 shelf)], []⟩
  refine V.seq ?_
  refine V.seq ?_
  refine V.region ?_
  refine VO.cons rfl (V1.move rfl rfl rfl (ltb rfl) ?_)
  refine VO.cons rfl (V1.move rfl rfl rfl (ltb rfl) ?_)
  refine VO.cons rfl (V1.lenMap rfl rfl rfl rfl rfl rfl isl_34 (ltb rfl) ?_)
  refine VO.cons rfl (V1.int rfl rfl rfl rfl rfl (ltb rfl) ?_)
  refine VO.nil ?_
  refine V.cond rfl (fun hc0 => ?_) (fun hc0 => ?_)
  ·
   replace hm1 := cond_t hc0 hm1
   refine V.skip ?_
   refine V.keep 39 [0, 1, 2, 7, 8] [] (E0 := [(0, .vl ρ0 5 (List.map (encCarton σ0) list)), (1, .int .i64 room), (2, .int .i64 shelf), (7, .int .i64 sum_0), (8, .int .i64 i)]) (H0 := []) rfl (⟨_, _, rfl, rfl, ⟨_, _, rfl, rfl, ⟨_, _, rfl, rfl, ⟨_, _, rfl, rfl, ⟨_, _, rfl, rfl, rfl⟩⟩⟩⟩⟩) (rfl) rfl ?_
   refine V.seq ?_
   replace hm1 := bindO hm1; rcases hm1 with ⟨j0, hm2, hm1⟩
   refine V.cutT (D := (Int) × (Unit)) (fun ⟨sum_1, _⟩ => ⟨39, [(7, .int .i64 sum_1), (0, .vl ρ0 5 (List.map (encCarton σ0) list)), (1, .int .i64 room), (2, .int .i64 shelf), (8, .int .i64 i)], []⟩) (fun ⟨sum_1, _⟩ => (sum_1 = j0)) ?_ ?_
   ·
    refine V.block ?_
    refine V.seq ?_
    replace hm2 := asrt_some hm2; rcases hm2 with ⟨hh0, hm2⟩
    replace hm2 := asrt_some hm2; rcases hm2 with ⟨hh1, hm2⟩
    refine V.region ?_
    refine VO.cons rfl (V1.move rfl rfl rfl (ltb rfl) ?_)
    refine VO.cons rfl (V1.move rfl rfl rfl (ltb rfl) ?_)
    refine VO.cons rfl (V1.indexI rfl rfl esz_34 rfl rfl hh0 (ltb rfl) ?_)
    refine VO.cons rfl (V1.fieldPin rfl rfl fo_27_2 rfl (ltb rfl) ?_)
    refine VO.cons rfl (V1.loadPin rfl rfl tyk_3 rfl rfl (ltb rfl) ?_)
    refine VO.cons rfl (V1.move rfl rfl rfl (ltb rfl) ?_)
    refine VO.cons rfl (V1.int rfl rfl rfl rfl rfl (ltb rfl) ?_)
    refine VO.cons rfl (V1.move rfl rfl rfl (ltb rfl) ?_)
    apply VO.and (n := 7) rfl rfl rfl rfl rfl rfl (ltb rfl) (.none rfl)
    ·
     intro hg0
     refine VO.step (.some rfl rfl rfl) (V1.move rfl rfl rfl (ltb rfl) ?_)
     refine VO.step (.some rfl rfl rfl) (V1.move rfl rfl rfl (ltb rfl) ?_)
     refine VO.step (.some rfl rfl rfl) (V1.indexI rfl rfl esz_34 rfl rfl (hh1 hg0) (ltb rfl) ?_)
     refine VO.step (.some rfl rfl rfl) (V1.fieldPin rfl rfl fo_27_1 rfl (ltb rfl) ?_)
     refine VO.step (.some rfl rfl rfl) (V1.loadPin rfl rfl tyk_3 rfl rfl (ltb rfl) ?_)
     refine VO.step (.some rfl rfl rfl) (V1.move rfl rfl rfl (ltb rfl) ?_)
     refine VO.step (.some rfl rfl rfl) (V1.int rfl rfl rfl rfl rfl (ltb rfl) ?_)
     exact VO.nil ⟨rfl, rfl, rfl, rfl, .inr ⟨rfl, .inr ⟨rfl, .inr ⟨rfl, .inr ⟨rfl, .inr ⟨rfl, .inr ⟨rfl, .inr ⟨rfl, .inr ⟨rfl, .inl rfl⟩⟩⟩⟩⟩⟩⟩⟩⟩
    refine VO.nil ?_
    refine V.keep 39 [0, 1, 2, 7, 8, 30] [] (E0 := [(0, .vl ρ0 5 (List.map (encCarton σ0) list)), (1, .int .i64 room), (2, .int .i64 shelf), (7, .int .i64 sum_0), (8, .int .i64 i), (30, .bool ((((list.getD (Int.toNat i) default).Room) == room) && (((list.getD (Int.toNat i) default).Shelf) == shelf)))]) (H0 := []) rfl (⟨_, _, rfl, rfl, ⟨_, _, rfl, rfl, ⟨_, _, rfl, rfl, ⟨_, _, rfl, rfl, ⟨_, _, rfl, rfl, ⟨_, _, rfl, rfl, rfl⟩⟩⟩⟩⟩⟩) (rfl) rfl ?_
    refine V.cond rfl (fun hc1 => ?_) (fun hc1 => ?_)
    ·
     replace hm2 := cond_t hc1 hm2
     replace hm2 := asrt_some hm2; rcases hm2 with ⟨hh2, hm2⟩
     refine V.region ?_
     refine VO.cons rfl (V1.move rfl rfl rfl (ltb rfl) ?_)
     refine VO.cons rfl (V1.move rfl rfl rfl (ltb rfl) ?_)
     refine VO.cons rfl (V1.move rfl rfl rfl (ltb rfl) ?_)
     refine VO.cons rfl (V1.indexI rfl rfl esz_34 rfl rfl hh2 (ltb rfl) ?_)
     refine VO.cons rfl (V1.fieldPin rfl rfl fo_27_4 rfl (ltb rfl) ?_)
     refine VO.cons rfl (V1.loadPin rfl rfl tyk_3 rfl rfl (ltb rfl) ?_)
     refine VO.cons rfl (V1.int rfl rfl rfl rfl rfl (ltb rfl) ?_)
     refine VO.cons rfl (V1.assign rfl rfl rfl (ltb rfl) ?_)
     refine VO.nil ?_
     exact ⟨((IntKind.i64.wrap (sum_0 + ((list.getD (Int.toNat i) default).Thick))), ()), Option.some.inj hm2, Keeps.mk (ks := []) rfl ⟨rfl, rfl, rfl, rfl, rfl, trivial⟩ (rfl) rfl⟩
    ·
     replace hm2 := cond_f hc1 hm2
     refine V.skip ?_
     exact ⟨(sum_0, ()), Option.some.inj hm2, Keeps.mk (ks := []) rfl ⟨rfl, rfl, rfl, rfl, rfl, trivial⟩ (rfl) rfl⟩
   ·
    rintro ⟨sum_1, _⟩ rfl
    try dsimp only at hm1
    refine V.region ?_
    refine VO.cons rfl (V1.move rfl rfl rfl (ltb rfl) ?_)
    refine VO.cons rfl (V1.int rfl rfl rfl rfl rfl (ltb rfl) ?_)
    refine VO.cons rfl (V1.assign rfl rfl rfl (ltb rfl) ?_)
    refine VO.nil ?_
    exact ⟨(m0, (sum_1, (IntKind.i64.wrap (i + (1 : Int)))), ()), hl1 _ (Option.some.inj hm1).symm, Nat.lt_succ_self _, Keeps.mk (ks := []) rfl ⟨rfl, rfl, rfl, rfl, rfl, trivial⟩ (rfl) rfl⟩
  ·
   replace hm1 := cond_f hc0 hm1
   refine V.exit ?_
   obtain rfl := hr1 _ (Option.some.inj hm1).symm
   exact ⟨(sum_0, ()), rfl, Keeps.mk (ks := []) rfl ⟨rfl, trivial⟩ (rfl) rfl⟩
 ·
  rintro ⟨sum_, _⟩ rfl
  try dsimp only at hm0
  refine V.seq ?_
  refine V.region ?_
  refine VO.cons rfl (V1.move rfl rfl rfl (ltb rfl) ?_)
  refine VO.cons rfl (V1.assign rfl rfl rfl (ltb rfl) ?_)
  refine VO.nil ?_
  refine V.ret ?_
  obtain rfl := Option.some.inj hm0
  exact ⟨_, [], ⟨_, _, rfl, rfl, rfl⟩, List.nil_sublist _, rfl, rfl⟩

theorem ok_spec_l1Has {ρ0 rn : Nat} {l : List Int} {n : Int} {r : Bool} (h : M.spec_l1Has l n = some r) : Does Try.prog 90 [.vl ρ0 1 (List.map encInt l), .int .i64 n] [] rn (fun x H => x = .bool r ∧ H = []) := by
 have hm0 := h; clear h; unfold M.spec_l1Has at hm0
 try dsimp only at hm0
 refine Does.intro (N := 18) Try.func90 rfl rfl rfl rfl ?_
 intro w0 S0
 refine V.seq ?_
 refine V.region ?_
 refine VO.cons rfl (V1.assign rfl rfl rfl (ltb rfl) ?_)
 refine VO.nil ?_
 refine V.seq ?_
 refine V.seq ?_
 refine V.region ?_
 refine VO.cons rfl (V1.assign rfl rfl rfl (ltb rfl) ?_)
 refine VO.nil ?_
 replace hm0 := bindO hm0; rcases hm0 with ⟨e0, he1, hm0⟩
 refine V.cutT (D := (Unit) × (Unit)) (fun ⟨_, _⟩ => ⟨18, [], []⟩) (fun ⟨_, _⟩ => (.inl () = e0)) ?_ ?_
 ·
  refine V.block ?_
  refine V.keep 18 [5, 0, 1] [] (E0 := [(5, .int .i64 (0 : Int)), (0, .vl ρ0 1 (List.map encInt l)), (1, .int .i64 n)]) (H0 := []) rfl (⟨_, _, rfl, rfl, ⟨_, _, rfl, rfl, ⟨_, _, rfl, rfl, rfl⟩⟩⟩) (rfl) rfl ?_
  refine V.loopE (D := Nat × (Int) × (Unit)) (fun ⟨n0, i, _⟩ => [(5, .int .i64 i)]) (fun ⟨n0, i, _⟩ => []) (fun ⟨n0, i, _⟩ => loopO (M.spec_l1Has_l0 l n) n0 i = some e0) (fun ⟨n0, _, _⟩ => n0) (rounds, (0 : Int), ()) rfl he1 ?_
  rintro ⟨n0, i, _⟩ hP0
  obtain ⟨m0, y0, rfl, hm1, hl1, hr1⟩ := loop_head hP0
  unfold M.spec_l1Has_l0 at hm1; dsimp only at hm1
  show V _ _ _ ⟨18, [(5, .int .i64 i), (0, .vl ρ0 1 (List.map encInt l)), (1, .int .i64 n)], []⟩
  refine V.seq ?_
  refine V.seq ?_
  refine V.region ?_
  refine VO.cons rfl (V1.move rfl rfl rfl (ltb rfl) ?_)
  refine VO.cons rfl (V1.move rfl rfl rfl (ltb rfl) ?_)
  refine VO.cons rfl (V1.lenMap rfl rfl rfl rfl rfl rfl isl_22 (ltb rfl) ?_)
  refine VO.cons rfl (V1.int rfl rfl rfl rfl rfl (ltb rfl) ?_)
  refine VO.nil ?_
  refine V.cond rfl (fun hc0 => ?_) (fun hc0 => ?_)
  ·
   replace hm1 := cond_t hc0 hm1
   refine V.skip ?_
   refine V.keep 18 [0, 1, 5] [] (E0 := [(0, .vl ρ0 1 (List.map encInt l)), (1, .int .i64 n), (5, .int .i64 i)]) (H0 := []) rfl (⟨_, _, rfl, rfl, ⟨_, _, rfl, rfl, ⟨_, _, rfl, rfl, rfl⟩⟩⟩) (rfl) rfl ?_
   refine V.seq ?_
   refine V.block ?_
   refine V.seq ?_
   replace hm1 := asrt_some hm1; rcases hm1 with ⟨hh0, hm1⟩
   refine V.region ?_
   refine VO.cons rfl (V1.move rfl rfl rfl (ltb rfl) ?_)
   refine VO.cons rfl (V1.move rfl rfl rfl (ltb rfl) ?_)
   refine VO.cons rfl (V1.indexI rfl rfl esz_22 rfl rfl hh0 (ltb rfl) ?_)
   refine VO.cons rfl (V1.loadPin rfl rfl tyk_3 rfl rfl (ltb rfl) ?_)
   refine VO.cons rfl (V1.move rfl rfl rfl (ltb rfl) ?_)
   refine VO.cons rfl (V1.int rfl rfl rfl rfl rfl (ltb rfl) ?_)
   refine VO.nil ?_
   refine V.keep 18 [0, 1, 5, 17] [] (E0 := [(0, .vl ρ0 1 (List.map encInt l)), (1, .int .i64 n), (5, .int .i64 i), (17, .bool ((l.getD (Int.toNat i) default) == n))]) (H0 := []) rfl (⟨_, _, rfl, rfl, ⟨_, _, rfl, rfl, ⟨_, _, rfl, rfl, ⟨_, _, rfl, rfl, rfl⟩⟩⟩⟩) (rfl) rfl ?_
   refine V.cond rfl (fun hc1 => ?_) (fun hc1 => ?_)
   ·
    replace hm1 := cond_t hc1 hm1
    refine V.seq ?_
    refine V.region ?_
    refine VO.cons rfl (V1.assign rfl rfl rfl (ltb rfl) ?_)
    refine VO.nil ?_
    refine V.ret ?_
    obtain rfl := hr1 _ (Option.some.inj hm1).symm
    change some _ = some _ at hm0
    obtain rfl := Option.some.inj hm0
    exact ⟨_, [], ⟨_, _, rfl, rfl, rfl⟩, List.nil_sublist _, rfl, rfl⟩
   ·
    replace hm1 := cond_f hc1 hm1
    refine V.skip ?_
    refine V.region ?_
    refine VO.cons rfl (V1.move rfl rfl rfl (ltb rfl) ?_)
    refine VO.cons rfl (V1.int rfl rfl rfl rfl rfl (ltb rfl) ?_)
    refine VO.cons rfl (V1.assign rfl rfl rfl (ltb rfl) ?_)
    refine VO.nil ?_
    exact ⟨(m0, (IntKind.i64.wrap (i + (1 : Int))), ()), hl1 _ (Option.some.inj hm1).symm, Nat.lt_succ_self _, Keeps.mk (ks := []) rfl ⟨rfl, rfl, rfl, trivial⟩ (rfl) rfl⟩
  ·
   replace hm1 := cond_f hc0 hm1
   refine V.exit ?_
   obtain rfl := hr1 _ (Option.some.inj hm1).symm
   exact ⟨((), ()), rfl, Keeps.mk (ks := []) rfl trivial (rfl) rfl⟩
 ·
  rintro ⟨_, _⟩ rfl
  try dsimp only at hm0
  refine V.seq ?_
  refine V.region ?_
  refine VO.cons rfl (V1.assign rfl rfl rfl (ltb rfl) ?_)
  refine VO.nil ?_
  refine V.ret ?_
  obtain rfl := Option.some.inj hm0
  exact ⟨_, [], ⟨_, _, rfl, rfl, rfl⟩, List.nil_sublist _, rfl, rfl⟩

theorem ok_spec_l18Holds {ρ0 σ0 rn : Nat} {list : List Carton} {file : Int} {r : Int} (h : M.spec_l18Holds list file = some r) : Does Try.prog 82 [.vl ρ0 5 (List.map (encCarton σ0) list), .int .i64 file] [] rn (fun x H => x = .int .i64 r ∧ H = []) := by
 have hm0 := h; clear h; unfold M.spec_l18Holds at hm0
 try dsimp only at hm0
 refine Does.intro (N := 20) Try.func82 rfl rfl rfl rfl ?_
 intro w0 S0
 refine V.seq ?_
 refine V.region ?_
 refine VO.cons rfl (V1.assign rfl rfl rfl (ltb rfl) ?_)
 refine VO.nil ?_
 refine V.seq ?_
 refine V.seq ?_
 refine V.region ?_
 refine VO.cons rfl (V1.assign rfl rfl rfl (ltb rfl) ?_)
 refine VO.nil ?_
 replace hm0 := bindO hm0; rcases hm0 with ⟨e0, he1, hm0⟩
 refine V.cutT (D := (Unit) × (Unit)) (fun ⟨_, _⟩ => ⟨20, [], []⟩) (fun ⟨_, _⟩ => (.inl () = e0)) ?_ ?_
 ·
  refine V.block ?_
  refine V.keep 20 [5, 0, 1] [] (E0 := [(5, .int .i64 (0 : Int)), (0, .vl ρ0 5 (List.map (encCarton σ0) list)), (1, .int .i64 file)]) (H0 := []) rfl (⟨_, _, rfl, rfl, ⟨_, _, rfl, rfl, ⟨_, _, rfl, rfl, rfl⟩⟩⟩) (rfl) rfl ?_
  refine V.loopE (D := Nat × (Int) × (Unit)) (fun ⟨n0, i, _⟩ => [(5, .int .i64 i)]) (fun ⟨n0, i, _⟩ => []) (fun ⟨n0, i, _⟩ => loopO (M.spec_l18Holds_l0 list file) n0 i = some e0) (fun ⟨n0, _, _⟩ => n0) (rounds, (0 : Int), ()) rfl he1 ?_
  rintro ⟨n0, i, _⟩ hP0
  obtain ⟨m0, y0, rfl, hm1, hl1, hr1⟩ := loop_head hP0
  unfold M.spec_l18Holds_l0 at hm1; dsimp only at hm1
  show V _ _ _ ⟨20, [(5, .int .i64 i), (0, .vl ρ0 5 (List.map (encCarton σ0) list)), (1, .int .i64 file)], []⟩
  refine V.seq ?_
  refine V.seq ?_
  refine V.region ?_
  refine VO.cons rfl (V1.move rfl rfl rfl (ltb rfl) ?_)
  refine VO.cons rfl (V1.move rfl rfl rfl (ltb rfl) ?_)
  refine VO.cons rfl (V1.lenMap rfl rfl rfl rfl rfl rfl isl_34 (ltb rfl) ?_)
  refine VO.cons rfl (V1.int rfl rfl rfl rfl rfl (ltb rfl) ?_)
  refine VO.nil ?_
  refine V.cond rfl (fun hc0 => ?_) (fun hc0 => ?_)
  ·
   replace hm1 := cond_t hc0 hm1
   refine V.skip ?_
   refine V.keep 20 [0, 1, 5] [] (E0 := [(0, .vl ρ0 5 (List.map (encCarton σ0) list)), (1, .int .i64 file), (5, .int .i64 i)]) (H0 := []) rfl (⟨_, _, rfl, rfl, ⟨_, _, rfl, rfl, ⟨_, _, rfl, rfl, rfl⟩⟩⟩) (rfl) rfl ?_
   refine V.seq ?_
   refine V.block ?_
   refine V.seq ?_
   replace hm1 := asrt_some hm1; rcases hm1 with ⟨hh0, hm1⟩
   replace hm1 := bindO hm1; rcases hm1 with ⟨y1, hh1, hm1⟩
   refine V.region ?_
   refine VO.cons rfl (V1.move rfl rfl rfl (ltb rfl) ?_)
   refine VO.cons rfl (V1.move rfl rfl rfl (ltb rfl) ?_)
   refine VO.cons rfl (V1.indexI rfl rfl esz_34 rfl rfl hh0 (ltb rfl) ?_)
   refine VO.cons rfl (V1.fieldPin rfl rfl fo_27_3 rfl (ltb rfl) ?_)
   refine VO.cons rfl (V1.loadPin rfl rfl tyk_22 rfl rfl (ltb rfl) ?_)
   refine VO.cons rfl (V1.move rfl rfl rfl (ltb rfl) ?_)
   refine VO.cons rfl (V1.call rfl rfl rfl cok_90 rfl (ok_spec_l1Has hh1) rfl (ltb rfl) ?_)
   rintro _ _ ⟨rfl, rfl⟩
   refine VO.nil ?_
   refine V.keep 20 [0, 1, 5, 18] [] (E0 := [(0, .vl ρ0 5 (List.map (encCarton σ0) list)), (1, .int .i64 file), (5, .int .i64 i), (18, .bool y1)]) (H0 := []) rfl (⟨_, _, rfl, rfl, ⟨_, _, rfl, rfl, ⟨_, _, rfl, rfl, ⟨_, _, rfl, rfl, rfl⟩⟩⟩⟩) (rfl) rfl ?_
   refine V.cond rfl (fun hc1 => ?_) (fun hc1 => ?_)
   ·
    replace hm1 := cond_t hc1 hm1
    refine V.seq ?_
    refine V.region ?_
    refine VO.cons rfl (V1.move rfl rfl rfl (ltb rfl) ?_)
    refine VO.cons rfl (V1.assign rfl rfl rfl (ltb rfl) ?_)
    refine VO.nil ?_
    refine V.ret ?_
    obtain rfl := hr1 _ (Option.some.inj hm1).symm
    change some _ = some _ at hm0
    obtain rfl := Option.some.inj hm0
    exact ⟨_, [], ⟨_, _, rfl, rfl, rfl⟩, List.nil_sublist _, rfl, rfl⟩
   ·
    replace hm1 := cond_f hc1 hm1
    refine V.skip ?_
    refine V.region ?_
    refine VO.cons rfl (V1.move rfl rfl rfl (ltb rfl) ?_)
    refine VO.cons rfl (V1.int rfl rfl rfl rfl rfl (ltb rfl) ?_)
    refine VO.cons rfl (V1.assign rfl rfl rfl (ltb rfl) ?_)
    refine VO.nil ?_
    exact ⟨(m0, (IntKind.i64.wrap (i + (1 : Int))), ()), hl1 _ (Option.some.inj hm1).symm, Nat.lt_succ_self _, Keeps.mk (ks := []) rfl ⟨rfl, rfl, rfl, trivial⟩ (rfl) rfl⟩
  ·
   replace hm1 := cond_f hc0 hm1
   refine V.exit ?_
   obtain rfl := hr1 _ (Option.some.inj hm1).symm
   exact ⟨((), ()), rfl, Keeps.mk (ks := []) rfl trivial (rfl) rfl⟩
 ·
  rintro ⟨_, _⟩ rfl
  try dsimp only at hm0
  refine V.seq ?_
  refine V.region ?_
  refine VO.cons rfl (V1.assign rfl rfl rfl (ltb rfl) ?_)
  refine VO.nil ?_
  refine V.ret ?_
  obtain rfl := Option.some.inj hm0
  exact ⟨_, [], ⟨_, _, rfl, rfl, rfl⟩, List.nil_sublist _, rfl, rfl⟩

theorem ok_spec_l18Good {ρ0 σ0 rn : Nat} {list : List Carton} {r : Bool} (h : M.spec_l18Good list = some r) : Does Try.prog 76 [.vl ρ0 5 (List.map (encCarton σ0) list)] [] rn (fun x H => x = .bool r ∧ H = []) := by
 have hm0 := h; clear h; unfold M.spec_l18Good at hm0
 try dsimp only at hm0
 refine Does.intro (N := 70) Try.func76 rfl rfl rfl rfl ?_
 intro w0 S0
 refine V.seq ?_
 refine V.region ?_
 refine VO.cons rfl (V1.assign rfl rfl rfl (ltb rfl) ?_)
 refine VO.nil ?_
 refine V.seq ?_
 refine V.seq ?_
 refine V.region ?_
 refine VO.cons rfl (V1.assign rfl rfl rfl (ltb rfl) ?_)
 refine VO.nil ?_
 replace hm0 := bindO hm0; rcases hm0 with ⟨e0, he1, hm0⟩
 refine V.cutT (D := (Unit) × (Unit)) (fun ⟨_, _⟩ => ⟨70, [(0, .vl ρ0 5 (List.map (encCarton σ0) list))], []⟩) (fun ⟨_, _⟩ => (.inl () = e0)) ?_ ?_
 ·
  refine V.block ?_
  refine V.keep 70 [3, 0] [] (E0 := [(3, .int .i64 (0 : Int)), (0, .vl ρ0 5 (List.map (encCarton σ0) list))]) (H0 := []) rfl (⟨_, _, rfl, rfl, ⟨_, _, rfl, rfl, rfl⟩⟩) (rfl) rfl ?_
  refine V.loopE (D := Nat × (Int) × (Unit)) (fun ⟨n0, i, _⟩ => [(3, .int .i64 i)]) (fun ⟨n0, i, _⟩ => []) (fun ⟨n0, i, _⟩ => loopO (M.spec_l18Good_l0 list) n0 i = some e0) (fun ⟨n0, _, _⟩ => n0) (rounds, (0 : Int), ()) rfl he1 ?_
  rintro ⟨n0, i, _⟩ hP0
  obtain ⟨m0, y0, rfl, hm1, hl1, hr1⟩ := loop_head hP0
  unfold M.spec_l18Good_l0 at hm1; dsimp only at hm1
  show V _ _ _ ⟨70, [(3, .int .i64 i), (0, .vl ρ0 5 (List.map (encCarton σ0) list))], []⟩
  refine V.seq ?_
  refine V.seq ?_
  refine V.region ?_
  refine VO.cons rfl (V1.move rfl rfl rfl (ltb rfl) ?_)
  refine VO.cons rfl (V1.move rfl rfl rfl (ltb rfl) ?_)
  refine VO.cons rfl (V1.lenMap rfl rfl rfl rfl rfl rfl isl_34 (ltb rfl) ?_)
  refine VO.cons rfl (V1.int rfl rfl rfl rfl rfl (ltb rfl) ?_)
  refine VO.cons rfl (V1.move rfl rfl rfl (ltb rfl) ?_)
  apply VO.and (n := 2) rfl rfl rfl rfl rfl rfl (ltb rfl) (.none rfl)
  ·
   intro hg0
   refine VO.step (.some rfl rfl rfl) (V1.move rfl rfl rfl (ltb rfl) ?_)
   refine VO.step (.some rfl rfl rfl) (V1.int rfl rfl rfl rfl rfl (ltb rfl) ?_)
   exact VO.nil ⟨rfl, rfl, rfl, rfl, .inr ⟨rfl, .inr ⟨rfl, .inr ⟨rfl, .inl rfl⟩⟩⟩⟩
  refine VO.nil ?_
  refine V.keep 70 [0, 3, 13] [] (E0 := [(0, .vl ρ0 5 (List.map (encCarton σ0) list)), (3, .int .i64 i), (13, .bool ((decide (i < (list.length : Int))) && (decide (i ≤ (10 : Int)))))]) (H0 := []) rfl (⟨_, _, rfl, rfl, ⟨_, _, rfl, rfl, ⟨_, _, rfl, rfl, rfl⟩⟩⟩) (rfl) rfl ?_
  refine V.cond rfl (fun hc0 => ?_) (fun hc0 => ?_)
  ·
   replace hm1 := cond_t hc0 hm1
   refine V.skip ?_
   refine V.seq ?_
   refine V.block ?_
   refine V.seq ?_
   replace hm1 := asrt_some hm1; rcases hm1 with ⟨hh0, hm1⟩
   refine V.region ?_
   refine VO.cons rfl (V1.move rfl rfl rfl (ltb rfl) ?_)
   refine VO.cons rfl (V1.move rfl rfl rfl (ltb rfl) ?_)
   refine VO.cons rfl (V1.indexI rfl rfl esz_34 rfl rfl hh0 (ltb rfl) ?_)
   refine VO.cons rfl (V1.loadPinAll rfl rfl tyk_27 rfl rfl (ltb rfl) ?_)
   refine VO.cons rfl (V1.alloc rfl rfl zk_27 (ltb rfl) ?_)
   intro b0
   refine VO.cons rfl (V1.storeRefAll (k := 0) rfl rfl tyk_27 rfl rfl rfl rfl rfl rfl ?_)
   refine VO.nil ?_
   refine V.keep 70 [0, 3, 4] [0] (E0 := [(0, .vl ρ0 5 (List.map (encCarton σ0) list)), (3, .int .i64 i), (4, .ref b0 5 0 0)]) (H0 := [(b0, ⟨5, [encCarton σ0 (list.getD (Int.toNat i) default)]⟩)]) rfl (⟨_, _, rfl, rfl, ⟨_, _, rfl, rfl, ⟨_, _, rfl, rfl, rfl⟩⟩⟩) (⟨_, _, rfl, rfl, rfl⟩) rfl ?_
   refine V.seq ?_
   refine V.seq ?_
   replace hm1 := bindO hm1; rcases hm1 with ⟨y1, hh1, hm1⟩
   replace hm1 := asrt_some hm1; rcases hm1 with ⟨hh2, hm1⟩
   replace hm1 := asrt_some hm1; rcases hm1 with ⟨hh3, hm1⟩
   replace hm1 := bindO hm1; rcases hm1 with ⟨y2, hh4, hm1⟩
   refine V.regionM 70 30 [⟨[(4, none)], [], none⟩, ⟨[(20, some 0)], [], none⟩, ⟨[(21, some 0)], [], none⟩, ⟨[(22, some 0)], [], none⟩, ⟨[(3, none)], [(0, false)], none⟩, ⟨[(24, some 0)], [(1, false)], none⟩, ⟨[(25, some 0)], [(2, false)], none⟩, ⟨[(0, none)], [(0, true), (3, false)], none⟩, ⟨[(3, none)], [(1, true), (4, false)], none⟩, ⟨[(28, some 0)], [(2, true), (5, false)], none⟩, ⟨[(27, some 2), (29, some 0)], [(3, true), (6, false)], none⟩, ⟨[(30, some 0)], [(4, true), (7, false)], none⟩, ⟨[(31, some 0)], [(5, true), (8, false)], none⟩, ⟨[(4, none)], [(6, true), (9, false)], none⟩, ⟨[(33, some 0)], [(7, true), (10, false)], none⟩, ⟨[(32, some 2), (34, some 0)], [(8, true), (11, false)], none⟩, ⟨[], [(12, false)], some (true, 26, 35, 9, 0)⟩, ⟨[], [], some (false, 23, 36, 13, 0)⟩, ⟨[(37, some 0)], [], none⟩, ⟨[(0, none)], [(0, false)], none⟩, ⟨[(3, none)], [(1, false)], none⟩, ⟨[(40, some 0)], [(2, false)], none⟩, ⟨[(39, some 2), (41, some 0)], [(3, false)], none⟩, ⟨[(4, none)], [(4, false)], none⟩, ⟨[(43, some 0)], [(5, false)], none⟩, ⟨[(4, none)], [(6, false)], none⟩, ⟨[(45, some 0)], [(7, false)], none⟩, ⟨[(42, some 4), (44, some 2), (46, some 0)], [(8, false)], none⟩, ⟨[(47, some 0)], [(9, false)], none⟩, ⟨[], [], some (false, 38, 48, 10, 0)⟩] [(0, none), (3, none), (4, none), (49, some 0)] (⟨_, rfl, ⟨_, rfl, ⟨_, rfl, ⟨_, rfl, ⟨_, rfl, ⟨_, rfl, ⟨_, rfl, ⟨_, rfl, ⟨_, rfl, ⟨_, rfl, ⟨_, rfl, ⟨_, rfl, ⟨_, rfl, ⟨_, rfl, ⟨_, rfl, ⟨_, rfl, ⟨_, rfl, ⟨_, rfl, ⟨_, rfl, ⟨_, rfl, ⟨_, rfl, ⟨_, rfl, ⟨_, rfl, ⟨_, rfl, ⟨_, rfl, ⟨_, rfl, ⟨_, rfl, ⟨_, rfl, ⟨_, rfl, ⟨_, rfl, ⟨rfl, rfl⟩⟩⟩⟩⟩⟩⟩⟩⟩⟩⟩⟩⟩⟩⟩⟩⟩⟩⟩⟩⟩⟩⟩⟩⟩⟩⟩⟩⟩⟩⟩) mixed_orders rfl (by decide +kernel) (fun hck5 => ?_)
   refine VP.step (p := ?pv256) rfl rfl rfl (⟨_, _, rfl, rfl, rfl⟩) ?hv256 ?rest256 hck5
   case hv256 =>
    intro E1
    refine (V1.loadRefAll (k := 0) rfl rfl tyk_27 rfl rfl rfl rfl rfl (ltb rfl) ?_)
    exact rfl
   refine VP.step (p := ?pv257) rfl rfl rfl (⟨_, _, rfl, rfl, rfl⟩) ?hv257 ?rest257 hck5
   case hv257 =>
    intro E1
    refine (V1.call rfl rfl rfl cok_68 rfl (ok_spec_l18One hh1) rfl (ltb rfl) ?_)
    rintro _ _ ⟨rfl, rfl⟩
    exact rfl
   refine VP.step (p := ?pv258) rfl rfl rfl (⟨_, _, rfl, rfl, rfl⟩) ?hv258 ?rest258 hck5
   case hv258 =>
    intro E1
    refine (V1.not rfl rfl rfl (ltb rfl) ?_)
    exact rfl
   refine VP.step (p := ?pv259) rfl rfl rfl (⟨_, _, rfl, rfl, rfl⟩) ?hv259 ?rest259 hck5
   case hv259 =>
    intro E1
    refine (V1.move rfl rfl rfl (ltb rfl) ?_)
    exact rfl
   refine VP.step (p := ?pv260) rfl rfl rfl (⟨_, _, rfl, rfl, rfl⟩) ?hv260 ?rest260 hck5
   case hv260 =>
    refine ⟨_, rfl, fun hg1 => ?_⟩
    intro E1
    refine (V1.move rfl rfl rfl (ltb rfl) ?_)
    exact rfl
   refine VP.step (p := ?pv261) rfl rfl rfl (⟨_, _, rfl, rfl, rfl⟩) ?hv261 ?rest261 hck5
   case hv261 =>
    refine ⟨_, rfl, fun hg1 => ?_⟩
    intro E1
    refine (V1.int rfl rfl rfl rfl rfl (ltb rfl) ?_)
    exact rfl
   refine VP.step (p := ?pv262) rfl rfl rfl (⟨_, _, rfl, rfl, rfl⟩) ?hv262 ?rest262 hck5
   case hv262 =>
    refine ⟨_, rfl, fun hg1 => ?_⟩
    intro E1
    refine (V1.move rfl rfl rfl (ltb rfl) ?_)
    exact rfl
   refine VP.step (p := ?pv263) rfl rfl rfl (⟨_, _, rfl, rfl, rfl⟩) ?hv263 ?rest263 hck5
   case hv263 =>
    refine ⟨_, rfl, fun hg2 => ?_⟩
    refine ⟨_, rfl, fun hg1 => ?_⟩
    intro E1
    refine (V1.move rfl rfl rfl (ltb rfl) ?_)
    exact rfl
   refine VP.step (p := ?pv264) rfl rfl rfl (⟨_, _, rfl, rfl, rfl⟩) ?hv264 ?rest264 hck5
   case hv264 =>
    refine ⟨_, rfl, fun hg2 => ?_⟩
    refine ⟨_, rfl, fun hg1 => ?_⟩
    intro E1
    refine (V1.move rfl rfl rfl (ltb rfl) ?_)
    exact rfl
   refine VP.step (p := ?pv265) rfl rfl rfl (⟨_, _, rfl, rfl, rfl⟩) ?hv265 ?rest265 hck5
   case hv265 =>
    refine ⟨_, rfl, fun hg2 => ?_⟩
    refine ⟨_, rfl, fun hg1 => ?_⟩
    intro E1
    refine (V1.int rfl rfl rfl rfl rfl (ltb rfl) ?_)
    exact rfl
   refine VP.step (p := ?pv266) rfl rfl rfl (⟨_, _, rfl, rfl, ⟨_, _, rfl, rfl, rfl⟩⟩) ?hv266 ?rest266 hck5
   case hv266 =>
    refine ⟨_, rfl, fun hg2 => ?_⟩
    refine ⟨_, rfl, fun hg1 => ?_⟩
    intro E1
    refine (V1.indexI rfl rfl esz_34 rfl rfl (hh2 hg1 hg2) (ltb rfl) ?_)
    exact rfl
   refine VP.step (p := ?pv267) rfl rfl rfl (⟨_, _, rfl, rfl, rfl⟩) ?hv267 ?rest267 hck5
   case hv267 =>
    refine ⟨_, rfl, fun hg2 => ?_⟩
    refine ⟨_, rfl, fun hg1 => ?_⟩
    intro E1
    refine (V1.fieldPin rfl rfl fo_27_0 rfl (ltb rfl) ?_)
    exact rfl
   refine VP.step (p := ?pv268) rfl rfl rfl (⟨_, _, rfl, rfl, rfl⟩) ?hv268 ?rest268 hck5
   case hv268 =>
    refine ⟨_, rfl, fun hg2 => ?_⟩
    refine ⟨_, rfl, fun hg1 => ?_⟩
    intro E1
    refine (V1.loadPin rfl rfl tyk_3 rfl rfl (ltb rfl) ?_)
    exact rfl
   refine VP.step (p := ?pv269) rfl rfl rfl (⟨_, _, rfl, rfl, rfl⟩) ?hv269 ?rest269 hck5
   case hv269 =>
    refine ⟨_, rfl, fun hg2 => ?_⟩
    refine ⟨_, rfl, fun hg1 => ?_⟩
    intro E1
    refine (V1.fieldRef rfl rfl fo_27_0 rfl (ltb rfl) ?_)
    exact rfl
   refine VP.step (p := ?pv270) rfl rfl rfl (⟨_, _, rfl, rfl, rfl⟩) ?hv270 ?rest270 hck5
   case hv270 =>
    refine ⟨_, rfl, fun hg2 => ?_⟩
    refine ⟨_, rfl, fun hg1 => ?_⟩
    intro E1
    refine (V1.loadRef (k := 0) rfl rfl tyk_3 rfl rfl rfl rfl rfl (ltb rfl) ?_)
    exact rfl
   refine VP.step (p := ?pv271) rfl rfl rfl (⟨_, _, rfl, rfl, ⟨_, _, rfl, rfl, rfl⟩⟩) ?hv271 ?rest271 hck5
   case hv271 =>
    refine ⟨_, rfl, fun hg2 => ?_⟩
    refine ⟨_, rfl, fun hg1 => ?_⟩
    intro E1
    refine (V1.int rfl rfl rfl rfl rfl (ltb rfl) ?_)
    exact rfl
   refine VP.pickAnd rfl rfl rfl rfl rfl rfl (⟨_, rfl, fun _ => trivial⟩) ?_ hck5
   refine VP.pickOr rfl rfl rfl rfl rfl rfl (trivial) ?_ hck5
   refine VP.step (p := ?pv272) rfl rfl rfl (⟨_, _, rfl, rfl, rfl⟩) ?hv272 ?rest272 hck5
   case hv272 =>
    intro E1
    refine (V1.move rfl rfl rfl (ltb rfl) ?_)
    exact rfl
   refine VP.step (p := ?pv273) rfl rfl rfl (⟨_, _, rfl, rfl, rfl⟩) ?hv273 ?rest273 hck5
   case hv273 =>
    refine ⟨_, rfl, fun hg3 => ?_⟩
    intro E1
    refine (V1.move rfl rfl rfl (ltb rfl) ?_)
    exact rfl
   refine VP.step (p := ?pv274) rfl rfl rfl (⟨_, _, rfl, rfl, rfl⟩) ?hv274 ?rest274 hck5
   case hv274 =>
    refine ⟨_, rfl, fun hg3 => ?_⟩
    intro E1
    refine (V1.move rfl rfl rfl (ltb rfl) ?_)
    exact rfl
   refine VP.step (p := ?pv275) rfl rfl rfl (⟨_, _, rfl, rfl, rfl⟩) ?hv275 ?rest275 hck5
   case hv275 =>
    refine ⟨_, rfl, fun hg3 => ?_⟩
    intro E1
    refine (V1.int rfl rfl rfl rfl rfl (ltb rfl) ?_)
    exact rfl
   refine VP.step (p := ?pv276) rfl rfl rfl (⟨_, _, rfl, rfl, ⟨_, _, rfl, rfl, rfl⟩⟩) ?hv276 ?rest276 hck5
   case hv276 =>
    refine ⟨_, rfl, fun hg3 => ?_⟩
    intro E1
    refine (V1.sliceMap (a := (0 : Int)) (b := (IntKind.i64.wrap (i + (1 : Int)))) rfl rfl esz_34 rfl (Bnd.none _ _) (Bnd.some rfl (Int.le_trans (hh3 hg3).1 (hh3 hg3).2.1) _) (hh3 hg3) (ltb rfl) ?_)
    exact rfl
   refine VP.step (p := ?pv277) rfl rfl rfl (⟨_, _, rfl, rfl, rfl⟩) ?hv277 ?rest277 hck5
   case hv277 =>
    refine ⟨_, rfl, fun hg3 => ?_⟩
    intro E1
    refine (V1.fieldRef rfl rfl fo_27_2 rfl (ltb rfl) ?_)
    exact rfl
   refine VP.step (p := ?pv278) rfl rfl rfl (⟨_, _, rfl, rfl, rfl⟩) ?hv278 ?rest278 hck5
   case hv278 =>
    refine ⟨_, rfl, fun hg3 => ?_⟩
    intro E1
    refine (V1.loadRef (k := 0) rfl rfl tyk_3 rfl rfl rfl rfl rfl (ltb rfl) ?_)
    exact rfl
   refine VP.step (p := ?pv279) rfl rfl rfl (⟨_, _, rfl, rfl, rfl⟩) ?hv279 ?rest279 hck5
   case hv279 =>
    refine ⟨_, rfl, fun hg3 => ?_⟩
    intro E1
    refine (V1.fieldRef rfl rfl fo_27_1 rfl (ltb rfl) ?_)
    exact rfl
   refine VP.step (p := ?pv280) rfl rfl rfl (⟨_, _, rfl, rfl, rfl⟩) ?hv280 ?rest280 hck5
   case hv280 =>
    refine ⟨_, rfl, fun hg3 => ?_⟩
    intro E1
    refine (V1.loadRef (k := 0) rfl rfl tyk_3 rfl rfl rfl rfl rfl (ltb rfl) ?_)
    exact rfl
   refine VP.step (p := ?pv281) rfl rfl rfl (⟨_, _, rfl, rfl, ⟨_, _, rfl, rfl, ⟨_, _, rfl, rfl, rfl⟩⟩⟩) ?hv281 ?rest281 hck5
   case hv281 =>
    refine ⟨_, rfl, fun hg3 => ?_⟩
    intro E1
    refine (V1.call rfl rfl rfl cok_81 rfl (ok_spec_l18Taken (cond_f hg3 hh4)) rfl (ltb rfl) ?_)
    rintro _ _ ⟨rfl, rfl⟩
    exact rfl
   refine VP.step (p := ?pv282) rfl rfl rfl (⟨_, _, rfl, rfl, rfl⟩) ?hv282 ?rest282 hck5
   case hv282 =>
    refine ⟨_, rfl, fun hg3 => ?_⟩
    intro E1
    refine (V1.int rfl rfl rfl rfl rfl (ltb rfl) ?_)
    exact rfl
   refine VP.pickOr rfl rfl rfl rfl rfl rfl (trivial) ?_ hck5
   refine VP.fin rfl (⟨_, _, rfl, rfl, ⟨_, _, rfl, rfl, ⟨_, _, rfl, rfl, ⟨_, _, rfl, rfl, rfl⟩⟩⟩⟩) ?_
   refine VO.nil ?_
   refine V.cond rfl (fun hc1 => ?_) (fun hc1 => ?_)
   ·
    replace hm1 := cond_t hc1 hm1
    refine V.seq ?_
    refine V.region ?_
    refine VO.cons rfl (V1.assign rfl rfl rfl (ltb rfl) ?_)
    refine VO.nil ?_
    refine V.ret ?_
    obtain rfl := hr1 _ (Option.some.inj hm1).symm
    change some _ = some _ at hm0
    obtain rfl := Option.some.inj hm0
    exact ⟨_, [], ⟨_, _, rfl, rfl, rfl⟩, List.nil_sublist _, rfl, rfl⟩
   ·
    replace hm1 := cond_f hc1 hm1
    refine V.skip ?_
    refine V.seq ?_
    refine V.region ?_
    refine VO.cons rfl (V1.assign rfl rfl rfl (ltb rfl) ?_)
    refine VO.nil ?_
    replace hm1 := bindO hm1; rcases hm1 with ⟨e1, he2, hm1⟩
    refine V.cutT (D := (Unit) × (Unit)) (fun ⟨_, _⟩ => ⟨70, [(0, .vl ρ0 5 (List.map (encCarton σ0) list)), (3, .int .i64 i)], []⟩) (fun ⟨_, _⟩ => (.inl () = e1)) ?_ ?_
    ·
     refine V.block ?_
     refine V.keep 70 [5, 0, 3, 4] [0] (E0 := [(5, .int .i64 (0 : Int)), (0, .vl ρ0 5 (List.map (encCarton σ0) list)), (3, .int .i64 i), (4, .ref b0 5 0 0)]) (H0 := [(b0, ⟨5, [encCarton σ0 (list.getD (Int.toNat i) default)]⟩)]) rfl (⟨_, _, rfl, rfl, ⟨_, _, rfl, rfl, ⟨_, _, rfl, rfl, ⟨_, _, rfl, rfl, rfl⟩⟩⟩⟩) (⟨_, _, rfl, rfl, rfl⟩) rfl ?_
     refine V.loopE (D := Nat × (Int) × (Unit)) (fun ⟨n1, k, _⟩ => [(5, .int .i64 k)]) (fun ⟨n1, k, _⟩ => []) (fun ⟨n1, k, _⟩ => loopO (M.spec_l18Good_l1 list i) n1 k = some e1) (fun ⟨n1, _, _⟩ => n1) (rounds, (0 : Int), ()) rfl he2 ?_
     rintro ⟨n1, k, _⟩ hP1
     obtain ⟨m1, y3, rfl, hm2, hl2, hr2⟩ := loop_head hP1
     unfold M.spec_l18Good_l1 at hm2; dsimp only at hm2
     show V _ _ _ ⟨70, [(5, .int .i64 k), (0, .vl ρ0 5 (List.map (encCarton σ0) list)), (3, .int .i64 i), (4, .ref b0 5 0 0)], [(b0, ⟨5, [encCarton σ0 (list.getD (Int.toNat i) default)]⟩)]⟩
     refine V.seq ?_
     refine V.seq ?_
     refine V.region ?_
     refine VO.cons rfl (V1.move rfl rfl rfl (ltb rfl) ?_)
     refine VO.cons rfl (V1.fieldRef rfl rfl fo_27_3 rfl (ltb rfl) ?_)
     refine VO.cons rfl (V1.loadRef (k := 0) rfl rfl tyk_22 rfl rfl rfl rfl rfl (ltb rfl) ?_)
     refine VO.cons rfl (V1.lenMap rfl rfl rfl rfl rfl rfl isl_22 (ltb rfl) ?_)
     refine VO.cons rfl (V1.int rfl rfl rfl rfl rfl (ltb rfl) ?_)
     refine VO.nil ?_
     refine V.keep 70 [0, 3, 4, 5, 54] [0] (E0 := [(0, .vl ρ0 5 (List.map (encCarton σ0) list)), (3, .int .i64 i), (4, .ref b0 5 0 0), (5, .int .i64 k), (54, .bool (decide (k < (((list.getD (Int.toNat i) default).Files).length : Int))))]) (H0 := [(b0, ⟨5, [encCarton σ0 (list.getD (Int.toNat i) default)]⟩)]) rfl (⟨_, _, rfl, rfl, ⟨_, _, rfl, rfl, ⟨_, _, rfl, rfl, ⟨_, _, rfl, rfl, ⟨_, _, rfl, rfl, rfl⟩⟩⟩⟩⟩) (⟨_, _, rfl, rfl, rfl⟩) rfl ?_
     refine V.cond rfl (fun hc2 => ?_) (fun hc2 => ?_)
     ·
      replace hm2 := cond_t hc2 hm2
      refine V.skip ?_
      refine V.seq ?_
      refine V.block ?_
      refine V.seq ?_
      replace hm2 := asrt_some hm2; rcases hm2 with ⟨hh5, hm2⟩
      replace hm2 := asrt_some hm2; rcases hm2 with ⟨hh6, hm2⟩
      replace hm2 := bindO hm2; rcases hm2 with ⟨y4, hh7, hm2⟩
      refine V.regionM 70 8 [⟨[(0, none)], [], none⟩, ⟨[(3, none)], [], none⟩, ⟨[(57, some 1), (58, some 0)], [], none⟩, ⟨[(4, none)], [], none⟩, ⟨[(60, some 0)], [], none⟩, ⟨[(5, none)], [], none⟩, ⟨[(61, some 1), (62, some 0)], [], none⟩, ⟨[(63, some 0)], [], none⟩] [(0, none), (3, none), (4, none), (5, none), (59, some 5), (64, some 0)] (⟨_, rfl, ⟨_, rfl, ⟨_, rfl, ⟨_, rfl, ⟨_, rfl, ⟨_, rfl, ⟨_, rfl, ⟨_, rfl, ⟨rfl, rfl⟩⟩⟩⟩⟩⟩⟩⟩⟩) mixed_orders rfl (by decide +kernel) (fun hck10 => ?_)
      refine VP.step (p := ?pv299) rfl rfl rfl (⟨_, _, rfl, rfl, rfl⟩) ?hv299 ?rest299 hck10
      case hv299 =>
       intro E1
       refine (V1.move rfl rfl rfl (ltb rfl) ?_)
       exact rfl
      refine VP.step (p := ?pv300) rfl rfl rfl (⟨_, _, rfl, rfl, rfl⟩) ?hv300 ?rest300 hck10
      case hv300 =>
       intro E1
       refine (V1.move rfl rfl rfl (ltb rfl) ?_)
       exact rfl
      refine VP.step (p := ?pv301) rfl rfl rfl (⟨_, _, rfl, rfl, ⟨_, _, rfl, rfl, rfl⟩⟩) ?hv301 ?rest301 hck10
      case hv301 =>
       intro E1
       refine (V1.sliceMap (a := (0 : Int)) (b := i) rfl rfl esz_34 rfl (Bnd.none _ _) (Bnd.some rfl (Int.le_trans hh5.1 hh5.2.1) _) hh5 (ltb rfl) ?_)
       exact rfl
      refine VP.step (p := ?pv302) rfl rfl rfl (⟨_, _, rfl, rfl, rfl⟩) ?hv302 ?rest302 hck10
      case hv302 =>
       intro E1
       refine (V1.fieldRef rfl rfl fo_27_3 rfl (ltb rfl) ?_)
       exact rfl
      refine VP.step (p := ?pv303) rfl rfl rfl (⟨_, _, rfl, rfl, rfl⟩) ?hv303 ?rest303 hck10
      case hv303 =>
       intro E1
       refine (V1.loadRef (k := 0) rfl rfl tyk_22 rfl rfl rfl rfl rfl (ltb rfl) ?_)
       exact rfl
      refine VP.step (p := ?pv304) rfl rfl rfl (⟨_, _, rfl, rfl, rfl⟩) ?hv304 ?rest304 hck10
      case hv304 =>
       intro E1
       refine (V1.move rfl rfl rfl (ltb rfl) ?_)
       exact rfl
      refine VP.step (p := ?pv305) rfl rfl rfl (⟨_, _, rfl, rfl, ⟨_, _, rfl, rfl, rfl⟩⟩) ?hv305 ?rest305 hck10
      case hv305 =>
       intro E1
       refine (V1.indexI rfl rfl esz_22 rfl rfl hh6 (ltb rfl) ?_)
       exact rfl
      refine VP.step (p := ?pv306) rfl rfl rfl (⟨_, _, rfl, rfl, rfl⟩) ?hv306 ?rest306 hck10
      case hv306 =>
       intro E1
       refine (V1.loadPin rfl rfl tyk_3 rfl rfl (ltb rfl) ?_)
       exact rfl
      refine VP.fin rfl (⟨_, _, rfl, rfl, ⟨_, _, rfl, rfl, ⟨_, _, rfl, rfl, ⟨_, _, rfl, rfl, ⟨_, _, rfl, rfl, ⟨_, _, rfl, rfl, rfl⟩⟩⟩⟩⟩⟩) ?_
      refine VO.cons rfl (V1.call rfl rfl rfl cok_82 rfl (ok_spec_l18Holds hh7) rfl (ltb rfl) ?_)
      rintro _ _ ⟨rfl, rfl⟩
      refine VO.cons rfl (V1.int rfl rfl rfl rfl rfl (ltb rfl) ?_)
      refine VO.nil ?_
      refine V.cond rfl (fun hc3 => ?_) (fun hc3 => ?_)
      ·
       replace hm2 := cond_t hc3 hm2
       refine V.seq ?_
       refine V.region ?_
       refine VO.cons rfl (V1.assign rfl rfl rfl (ltb rfl) ?_)
       refine VO.nil ?_
       refine V.ret ?_
       obtain rfl := hr2 _ (Option.some.inj hm2).symm
       change some _ = some _ at hm1
       obtain rfl := hr1 _ (Option.some.inj hm1).symm
       change some _ = some _ at hm0
       obtain rfl := Option.some.inj hm0
       exact ⟨_, [], ⟨_, _, rfl, rfl, rfl⟩, List.nil_sublist _, rfl, rfl⟩
      ·
       replace hm2 := cond_f hc3 hm2
       refine V.skip ?_
       refine V.keep 70 [0, 3, 4, 5] [0] (E0 := [(0, .vl ρ0 5 (List.map (encCarton σ0) list)), (3, .int .i64 i), (4, .ref b0 5 0 0), (5, .int .i64 k)]) (H0 := [(b0, ⟨5, [encCarton σ0 (list.getD (Int.toNat i) default)]⟩)]) rfl (⟨_, _, rfl, rfl, ⟨_, _, rfl, rfl, ⟨_, _, rfl, rfl, ⟨_, _, rfl, rfl, rfl⟩⟩⟩⟩) (⟨_, _, rfl, rfl, rfl⟩) rfl ?_
       refine V.region ?_
       refine VO.cons rfl (V1.move rfl rfl rfl (ltb rfl) ?_)
       refine VO.cons rfl (V1.int rfl rfl rfl rfl rfl (ltb rfl) ?_)
       refine VO.cons rfl (V1.assign rfl rfl rfl (ltb rfl) ?_)
       refine VO.nil ?_
       exact ⟨(m1, (IntKind.i64.wrap (k + (1 : Int))), ()), hl2 _ (Option.some.inj hm2).symm, Nat.lt_succ_self _, Keeps.mk (ks := [0]) rfl ⟨rfl, rfl, rfl, rfl, trivial⟩ (⟨_, _, rfl, rfl, rfl⟩) rfl⟩
     ·
      replace hm2 := cond_f hc2 hm2
      refine V.exit ?_
      obtain rfl := hr2 _ (Option.some.inj hm2).symm
      exact ⟨((), ()), rfl, Keeps.mk (ks := []) rfl ⟨rfl, rfl, trivial⟩ (rfl) rfl⟩
    ·
     rintro ⟨_, _⟩ rfl
     try dsimp only at hm1
     refine V.region ?_
     refine VO.cons rfl (V1.move rfl rfl rfl (ltb rfl) ?_)
     refine VO.cons rfl (V1.int rfl rfl rfl rfl rfl (ltb rfl) ?_)
     refine VO.cons rfl (V1.assign rfl rfl rfl (ltb rfl) ?_)
     refine VO.nil ?_
     exact ⟨(m0, (IntKind.i64.wrap (i + (1 : Int))), ()), hl1 _ (Option.some.inj hm1).symm, Nat.lt_succ_self _, Keeps.mk (ks := []) rfl ⟨rfl, rfl, trivial⟩ (rfl) rfl⟩
  ·
   replace hm1 := cond_f hc0 hm1
   refine V.exit ?_
   obtain rfl := hr1 _ (Option.some.inj hm1).symm
   exact ⟨((), ()), rfl, Keeps.mk (ks := []) rfl ⟨rfl, trivial⟩ (rfl) rfl⟩
 ·
  rintro ⟨_, _⟩ rfl
  try dsimp only at hm0
  refine V.seq ?_
  refine V.region ?_
  refine VO.cons rfl (V1.move rfl rfl rfl (ltb rfl) ?_)
  refine VO.cons rfl (V1.lenMap rfl rfl rfl rfl rfl rfl isl_34 (ltb rfl) ?_)
  refine VO.cons rfl (V1.int rfl rfl rfl rfl rfl (ltb rfl) ?_)
  refine VO.cons rfl (V1.assign rfl rfl rfl (ltb rfl) ?_)
  refine VO.nil ?_
  refine V.ret ?_
  obtain rfl := Option.some.inj hm0
  exact ⟨_, [], ⟨_, _, rfl, rfl, rfl⟩, List.nil_sublist _, rfl, rfl⟩

theorem ok_spec_BestShelf {ρ0 σ0 rn : Nat} {list : List Carton} {room : Int} {thick : Int} {r : Int × Bool} (h : M.spec_BestShelf list room thick = some r) : Does Try.prog 30 [.vl ρ0 5 (List.map (encCarton σ0) list), .int .i64 room, .int .i64 thick] [] rn (fun x H => x = .tup [.int .i64 r.1, .bool r.2] ∧ H = []) := by
 have hm0 := h; clear h; unfold M.spec_BestShelf at hm0
 try dsimp only at hm0
 refine Does.intro (N := 52) Try.func30 rfl rfl rfl rfl ?_
 intro w0 S0
 refine V.seq ?_
 refine V.region ?_
 refine VO.cons rfl (V1.assign rfl rfl rfl (ltb rfl) ?_)
 refine VO.cons rfl (V1.assign rfl rfl rfl (ltb rfl) ?_)
 refine VO.nil ?_
 refine V.seq ?_
 refine V.seq ?_
 replace hm0 := bindO hm0; rcases hm0 with ⟨y0, hh0, hm0⟩
 replace hm0 := bindO hm0; rcases hm0 with ⟨y1, hh1, hm0⟩
 replace hm0 := bindO hm0; rcases hm0 with ⟨y2, hh2, hm0⟩
 refine V.region ?_
 refine VO.cons rfl (V1.move rfl rfl rfl (ltb rfl) ?_)
 refine VO.cons rfl (V1.call rfl rfl rfl cok_76 rfl (ok_spec_l18Good hh0) rfl (ltb rfl) ?_)
 rintro _ _ ⟨rfl, rfl⟩
 refine VO.cons rfl (V1.not rfl rfl rfl (ltb rfl) ?_)
 refine VO.cons rfl (V1.move rfl rfl rfl (ltb rfl) ?_)
 apply VO.or (n := 3) rfl rfl rfl rfl rfl rfl (ltb rfl) (.none rfl)
 ·
  intro hg0
  refine VO.step (.some rfl rfl rfl) (V1.move rfl rfl rfl (ltb rfl) ?_)
  refine VO.step (.some rfl rfl rfl) (V1.call rfl rfl rfl cok_80 rfl (ok_spec_l18Place (cond_f hg0 hh1)) rfl (ltb rfl) ?_)
  rintro _ _ ⟨rfl, rfl⟩
  refine VO.step (.some rfl rfl rfl) (V1.not rfl rfl rfl (ltb rfl) ?_)
  exact VO.nil ⟨rfl, rfl, rfl, rfl, .inr ⟨rfl, .inr ⟨rfl, .inr ⟨rfl, .inr ⟨rfl, .inl rfl⟩⟩⟩⟩⟩
 refine VO.cons rfl (V1.move rfl rfl rfl (ltb rfl) ?_)
 apply VO.or (n := 3) rfl rfl rfl rfl rfl rfl (ltb rfl) (.none rfl)
 ·
  intro hg1
  refine VO.step (.some rfl rfl rfl) (V1.move rfl rfl rfl (ltb rfl) ?_)
  refine VO.step (.some rfl rfl rfl) (V1.call rfl rfl rfl cok_84 rfl (ok_spec_l1In (cond_f hg1 hh2)) rfl (ltb rfl) ?_)
  rintro _ _ ⟨rfl, rfl⟩
  refine VO.step (.some rfl rfl rfl) (V1.not rfl rfl rfl (ltb rfl) ?_)
  exact VO.nil ⟨rfl, rfl, rfl, rfl, .inr ⟨rfl, .inr ⟨rfl, .inr ⟨rfl, .inr ⟨rfl, .inl rfl⟩⟩⟩⟩⟩
 refine VO.nil ?_
 refine V.keep 52 [0, 1, 2, 23] [] (E0 := [(0, .vl ρ0 5 (List.map (encCarton σ0) list)), (1, .int .i64 room), (2, .int .i64 thick), (23, .bool (((!y0) || (!y1)) || (!y2)))]) (H0 := []) rfl (⟨_, _, rfl, rfl, ⟨_, _, rfl, rfl, ⟨_, _, rfl, rfl, ⟨_, _, rfl, rfl, rfl⟩⟩⟩⟩) (rfl) rfl ?_
 refine V.cond rfl (fun hc0 => ?_) (fun hc0 => ?_)
 ·
  replace hm0 := cond_t hc0 hm0
  refine V.seq ?_
  refine V.region ?_
  refine VO.cons rfl (V1.assign rfl rfl rfl (ltb rfl) ?_)
  refine VO.cons rfl (V1.assign rfl rfl rfl (ltb rfl) ?_)
  refine VO.nil ?_
  refine V.ret ?_
  obtain rfl := Option.some.inj hm0
  exact ⟨_, [], ⟨_, _, rfl, rfl, ⟨_, _, rfl, rfl, rfl⟩⟩, List.nil_sublist _, rfl, rfl⟩
 ·
  replace hm0 := cond_f hc0 hm0
  refine V.skip ?_
  refine V.seq ?_
  refine V.region ?_
  refine VO.cons rfl (V1.assign rfl rfl rfl (ltb rfl) ?_)
  refine VO.nil ?_
  refine V.seq ?_
  refine V.seq ?_
  refine V.region ?_
  refine VO.cons rfl (V1.assign rfl rfl rfl (ltb rfl) ?_)
  refine VO.nil ?_
  replace hm0 := bindO hm0; rcases hm0 with ⟨e0, he1, hm0⟩
  refine V.cutT (D := (Int) × (Unit)) (fun ⟨best, _⟩ => ⟨52, [(8, .int .i64 best)], []⟩) (fun ⟨best, _⟩ => (best = e0)) ?_ ?_
  ·
   refine V.block ?_
   refine V.keep 52 [8, 9, 0, 1, 2] [] (E0 := [(8, .int .i64 (0 : Int)), (9, .int .i64 (1 : Int)), (0, .vl ρ0 5 (List.map (encCarton σ0) list)), (1, .int .i64 room), (2, .int .i64 thick)]) (H0 := []) rfl (⟨_, _, rfl, rfl, ⟨_, _, rfl, rfl, ⟨_, _, rfl, rfl, ⟨_, _, rfl, rfl, ⟨_, _, rfl, rfl, rfl⟩⟩⟩⟩⟩) (rfl) rfl ?_
   refine V.loopE (D := Nat × (Int × Int) × (Unit)) (fun ⟨n0, ⟨best0, shelf⟩, _⟩ => [(8, .int .i64 best0), (9, .int .i64 shelf)]) (fun ⟨n0, ⟨best0, shelf⟩, _⟩ => []) (fun ⟨n0, ⟨best0, shelf⟩, _⟩ => loopO (M.spec_BestShelf_l0 list room thick) n0 (best0, shelf) = some e0) (fun ⟨n0, _, _⟩ => n0) (rounds, ((0 : Int), (1 : Int)), ()) rfl he1 ?_
   rintro ⟨n0, ⟨best0, shelf⟩, _⟩ hP0
   obtain ⟨m0, y3, rfl, hm1, hl1, hr1⟩ := loop_head hP0
   unfold M.spec_BestShelf_l0 at hm1; dsimp only at hm1
   show V _ _ _ ⟨52, [(8, .int .i64 best0), (9, .int .i64 shelf), (0, .vl ρ0 5 (List.map (encCarton σ0) list)), (1, .int .i64 room), (2, .int .i64 thick)], []⟩
   refine V.seq ?_
   refine V.seq ?_
   refine V.region ?_
   refine VO.cons rfl (V1.move rfl rfl rfl (ltb rfl) ?_)
   refine VO.cons rfl (V1.int rfl rfl rfl rfl rfl (ltb rfl) ?_)
   refine VO.nil ?_
   refine V.cond rfl (fun hc1 => ?_) (fun hc1 => ?_)
   ·
    replace hm1 := cond_t hc1 hm1
    refine V.skip ?_
    refine V.seq ?_
    replace hm1 := bindO hm1; rcases hm1 with ⟨j0, hm2, hm1⟩
    refine V.cutT (D := (Int) × (Unit)) (fun ⟨best1, _⟩ => ⟨52, [(8, .int .i64 best1), (0, .vl ρ0 5 (List.map (encCarton σ0) list)), (1, .int .i64 room), (2, .int .i64 thick), (9, .int .i64 shelf)], []⟩) (fun ⟨best1, _⟩ => (best1 = j0)) ?_ ?_
    ·
     refine V.block ?_
     refine V.seq ?_
     replace hm2 := bindO hm2; rcases hm2 with ⟨y4, hh3, hm2⟩
     refine V.region ?_
     refine VO.cons rfl (V1.move rfl rfl rfl (ltb rfl) ?_)
     refine VO.cons rfl (V1.move rfl rfl rfl (ltb rfl) ?_)
     refine VO.cons rfl (V1.move rfl rfl rfl (ltb rfl) ?_)
     refine VO.cons rfl (V1.call rfl rfl rfl cok_81 rfl (ok_spec_l18Taken hh3) rfl (ltb rfl) ?_)
     rintro _ _ ⟨rfl, rfl⟩
     refine VO.cons rfl (V1.assign rfl rfl rfl (ltb rfl) ?_)
     refine VO.nil ?_
     refine V.keep 52 [0, 1, 2, 8, 9, 10] [] (E0 := [(0, .vl ρ0 5 (List.map (encCarton σ0) list)), (1, .int .i64 room), (2, .int .i64 thick), (8, .int .i64 best0), (9, .int .i64 shelf), (10, .int .i64 y4)]) (H0 := []) rfl (⟨_, _, rfl, rfl, ⟨_, _, rfl, rfl, ⟨_, _, rfl, rfl, ⟨_, _, rfl, rfl, ⟨_, _, rfl, rfl, ⟨_, _, rfl, rfl, rfl⟩⟩⟩⟩⟩⟩) (rfl) rfl ?_
     refine V.seq ?_
     replace hm2 := bindO hm2; rcases hm2 with ⟨y5, hh4, hm2⟩
     refine V.region ?_
     refine VO.cons rfl (V1.move rfl rfl rfl (ltb rfl) ?_)
     refine VO.cons rfl (V1.move rfl rfl rfl (ltb rfl) ?_)
     refine VO.cons rfl (V1.int rfl rfl rfl rfl rfl (ltb rfl) ?_)
     refine VO.cons rfl (V1.int rfl rfl rfl rfl rfl (ltb rfl) ?_)
     refine VO.cons rfl (V1.move rfl rfl rfl (ltb rfl) ?_)
     apply VO.and (n := 10) rfl rfl rfl rfl rfl rfl (ltb rfl) (.none rfl)
     ·
      intro hg2
      refine VO.step (.some rfl rfl rfl) (V1.move rfl rfl rfl (ltb rfl) ?_)
      refine VO.step (.some rfl rfl rfl) (V1.int rfl rfl rfl rfl rfl (ltb rfl) ?_)
      refine VO.step (.some rfl rfl rfl) (V1.move rfl rfl rfl (ltb rfl) ?_)
      apply VO.or (n := 6) rfl rfl rfl rfl rfl rfl (ltb rfl) (.some rfl rfl rfl)
      ·
       intro hg3
       refine VO.step (.some rfl rfl rfl) (V1.move rfl rfl rfl (ltb rfl) ?_)
       refine VO.step (.some rfl rfl rfl) (V1.move rfl rfl rfl (ltb rfl) ?_)
       refine VO.step (.some rfl rfl rfl) (V1.move rfl rfl rfl (ltb rfl) ?_)
       refine VO.step (.some rfl rfl rfl) (V1.move rfl rfl rfl (ltb rfl) ?_)
       refine VO.step (.some rfl rfl rfl) (V1.call rfl rfl rfl cok_81 rfl (ok_spec_l18Taken (cond_f hg3 (cond_t hg2 hh4))) rfl (ltb rfl) ?_)
       rintro _ _ ⟨rfl, rfl⟩
       refine VO.step (.some rfl rfl rfl) (V1.int rfl rfl rfl rfl rfl (ltb rfl) ?_)
       exact VO.nil ⟨rfl, rfl, rfl, rfl, .inr ⟨rfl, .inr ⟨rfl, .inr ⟨rfl, .inr ⟨rfl, .inr ⟨rfl, .inr ⟨rfl, .inr ⟨rfl, .inl rfl⟩⟩⟩⟩⟩⟩⟩⟩
      exact VO.nil ⟨rfl, rfl, rfl, rfl, .inr ⟨rfl, .inr ⟨rfl, .inr ⟨rfl, .inr ⟨rfl, .inr ⟨rfl, .inl rfl⟩⟩⟩⟩⟩⟩
     refine VO.nil ?_
     refine V.keep 52 [0, 1, 2, 8, 9, 47] [] (E0 := [(0, .vl ρ0 5 (List.map (encCarton σ0) list)), (1, .int .i64 room), (2, .int .i64 thick), (8, .int .i64 best0), (9, .int .i64 shelf), (47, .bool ((decide ((IntKind.i64.wrap (y4 + thick)) ≤ (100 : Int))) && ((best0 == (0 : Int)) || (decide (y4 > y5)))))]) (H0 := []) rfl (⟨_, _, rfl, rfl, ⟨_, _, rfl, rfl, ⟨_, _, rfl, rfl, ⟨_, _, rfl, rfl, ⟨_, _, rfl, rfl, ⟨_, _, rfl, rfl, rfl⟩⟩⟩⟩⟩⟩) (rfl) rfl ?_
     refine V.cond rfl (fun hc2 => ?_) (fun hc2 => ?_)
     ·
      replace hm2 := cond_t hc2 hm2
      refine V.region ?_
      refine VO.cons rfl (V1.move rfl rfl rfl (ltb rfl) ?_)
      refine VO.cons rfl (V1.assign rfl rfl rfl (ltb rfl) ?_)
      refine VO.nil ?_
      exact ⟨(shelf, ()), Option.some.inj hm2, Keeps.mk (ks := []) rfl ⟨rfl, rfl, rfl, rfl, rfl, trivial⟩ (rfl) rfl⟩
     ·
      replace hm2 := cond_f hc2 hm2
      refine V.skip ?_
      exact ⟨(best0, ()), Option.some.inj hm2, Keeps.mk (ks := []) rfl ⟨rfl, rfl, rfl, rfl, rfl, trivial⟩ (rfl) rfl⟩
    ·
     rintro ⟨best1, _⟩ rfl
     try dsimp only at hm1
     refine V.region ?_
     refine VO.cons rfl (V1.move rfl rfl rfl (ltb rfl) ?_)
     refine VO.cons rfl (V1.int rfl rfl rfl rfl rfl (ltb rfl) ?_)
     refine VO.cons rfl (V1.assign rfl rfl rfl (ltb rfl) ?_)
     refine VO.nil ?_
     exact ⟨(m0, (best1, (IntKind.i64.wrap (shelf + (1 : Int)))), ()), hl1 _ (Option.some.inj hm1).symm, Nat.lt_succ_self _, Keeps.mk (ks := []) rfl ⟨rfl, rfl, rfl, rfl, rfl, trivial⟩ (rfl) rfl⟩
   ·
    replace hm1 := cond_f hc1 hm1
    refine V.exit ?_
    obtain rfl := hr1 _ (Option.some.inj hm1).symm
    exact ⟨(best0, ()), rfl, Keeps.mk (ks := []) rfl ⟨rfl, trivial⟩ (rfl) rfl⟩
  ·
   rintro ⟨best, _⟩ rfl
   try dsimp only at hm0
   refine V.seq ?_
   refine V.region ?_
   refine VO.cons rfl (V1.move rfl rfl rfl (ltb rfl) ?_)
   refine VO.cons rfl (V1.move rfl rfl rfl (ltb rfl) ?_)
   refine VO.cons rfl (V1.int rfl rfl rfl rfl rfl (ltb rfl) ?_)
   refine VO.cons rfl (V1.assign rfl rfl rfl (ltb rfl) ?_)
   refine VO.cons rfl (V1.assign rfl rfl rfl (ltb rfl) ?_)
   refine VO.nil ?_
   refine V.ret ?_
   obtain rfl := Option.some.inj hm0
   exact ⟨_, [], ⟨_, _, rfl, rfl, ⟨_, _, rfl, rfl, rfl⟩⟩, List.nil_sublist _, rfl, rfl⟩

theorem ok_impl_within {rn : Nat} {n : Int} {low : Int} {high : Int} {r : Bool} (h : M.impl_within n low high = some r) : Does Try.prog 75 [.int .i64 n, .int .i64 low, .int .i64 high] [] rn (fun x H => x = .bool r ∧ H = []) := by
 have hm0 := h; clear h; unfold M.impl_within at hm0
 try dsimp only at hm0
 refine Does.intro (N := 15) Try.func75 rfl rfl rfl rfl ?_
 intro w0 S0
 refine V.seq ?_
 refine V.region ?_
 refine VO.cons rfl (V1.assign rfl rfl rfl (ltb rfl) ?_)
 refine VO.nil ?_
 refine V.seq ?_
 refine V.region ?_
 refine VO.cons rfl (V1.move rfl rfl rfl (ltb rfl) ?_)
 refine VO.cons rfl (V1.move rfl rfl rfl (ltb rfl) ?_)
 refine VO.cons rfl (V1.int rfl rfl rfl rfl rfl (ltb rfl) ?_)
 refine VO.cons rfl (V1.move rfl rfl rfl (ltb rfl) ?_)
 apply VO.and (n := 3) rfl rfl rfl rfl rfl rfl (ltb rfl) (.none rfl)
 ·
  intro hg0
  refine VO.step (.some rfl rfl rfl) (V1.move rfl rfl rfl (ltb rfl) ?_)
  refine VO.step (.some rfl rfl rfl) (V1.move rfl rfl rfl (ltb rfl) ?_)
  refine VO.step (.some rfl rfl rfl) (V1.int rfl rfl rfl rfl rfl (ltb rfl) ?_)
  exact VO.nil ⟨rfl, rfl, rfl, rfl, .inr ⟨rfl, .inr ⟨rfl, .inr ⟨rfl, .inr ⟨rfl, .inl rfl⟩⟩⟩⟩⟩
 refine VO.cons rfl (V1.assign rfl rfl rfl (ltb rfl) ?_)
 refine VO.nil ?_
 refine V.ret ?_
 obtain rfl := Option.some.inj hm0
 exact ⟨_, [], ⟨_, _, rfl, rfl, rfl⟩, List.nil_sublist _, rfl, rfl⟩

theorem ok_impl_isId {rn : Nat} {id_ : Int} {r : Bool} (h : M.impl_isId id_ = some r) : Does Try.prog 69 [.int .i64 id_] [] rn (fun x H => x = .bool r ∧ H = []) := by
 have hm0 := h; clear h; unfold M.impl_isId at hm0
 try dsimp only at hm0
 refine Does.intro (N := 5) Try.func69 rfl rfl rfl rfl ?_
 intro w0 S0
 refine V.seq ?_
 refine V.region ?_
 refine VO.cons rfl (V1.assign rfl rfl rfl (ltb rfl) ?_)
 refine VO.nil ?_
 refine V.seq ?_
 replace hm0 := bindO hm0; rcases hm0 with ⟨y0, hh0, hm0⟩
 refine V.region ?_
 refine VO.cons rfl (V1.move rfl rfl rfl (ltb rfl) ?_)
 refine VO.cons rfl (V1.call rfl rfl rfl cok_75 rfl (ok_impl_within hh0) rfl (ltb rfl) ?_)
 rintro _ _ ⟨rfl, rfl⟩
 refine VO.cons rfl (V1.assign rfl rfl rfl (ltb rfl) ?_)
 refine VO.nil ?_
 refine V.ret ?_
 obtain rfl := Option.some.inj hm0
 exact ⟨_, [], ⟨_, _, rfl, rfl, rfl⟩, List.nil_sublist _, rfl, rfl⟩

theorem ok_impl_isShelf {rn : Nat} {shelf : Int} {r : Bool} (h : M.impl_isShelf shelf = some r) : Does Try.prog 70 [.int .i64 shelf] [] rn (fun x H => x = .bool r ∧ H = []) := by
 have hm0 := h; clear h; unfold M.impl_isShelf at hm0
 try dsimp only at hm0
 refine Does.intro (N := 5) Try.func70 rfl rfl rfl rfl ?_
 intro w0 S0
 refine V.seq ?_
 refine V.region ?_
 refine VO.cons rfl (V1.assign rfl rfl rfl (ltb rfl) ?_)
 refine VO.nil ?_
 refine V.seq ?_
 replace hm0 := bindO hm0; rcases hm0 with ⟨y0, hh0, hm0⟩
 refine V.region ?_
 refine VO.cons rfl (V1.move rfl rfl rfl (ltb rfl) ?_)
 refine VO.cons rfl (V1.call rfl rfl rfl cok_75 rfl (ok_impl_within hh0) rfl (ltb rfl) ?_)
 rintro _ _ ⟨rfl, rfl⟩
 refine VO.cons rfl (V1.assign rfl rfl rfl (ltb rfl) ?_)
 refine VO.nil ?_
 refine V.ret ?_
 obtain rfl := Option.some.inj hm0
 exact ⟨_, [], ⟨_, _, rfl, rfl, rfl⟩, List.nil_sublist _, rfl, rfl⟩

theorem ok_impl_isRoom {rn : Nat} {room : Int} {r : Bool} (h : M.impl_isRoom room = some r) : Does Try.prog 71 [.int .i64 room] [] rn (fun x H => x = .bool r ∧ H = []) := by
 have hm0 := h; clear h; unfold M.impl_isRoom at hm0
 try dsimp only at hm0
 refine Does.intro (N := 5) Try.func71 rfl rfl rfl rfl ?_
 intro w0 S0
 refine V.seq ?_
 refine V.region ?_
 refine VO.cons rfl (V1.assign rfl rfl rfl (ltb rfl) ?_)
 refine VO.nil ?_
 refine V.seq ?_
 replace hm0 := bindO hm0; rcases hm0 with ⟨y0, hh0, hm0⟩
 refine V.region ?_
 refine VO.cons rfl (V1.move rfl rfl rfl (ltb rfl) ?_)
 refine VO.cons rfl (V1.call rfl rfl rfl cok_75 rfl (ok_impl_within hh0) rfl (ltb rfl) ?_)
 rintro _ _ ⟨rfl, rfl⟩
 refine VO.cons rfl (V1.assign rfl rfl rfl (ltb rfl) ?_)
 refine VO.nil ?_
 refine V.ret ?_
 obtain rfl := Option.some.inj hm0
 exact ⟨_, [], ⟨_, _, rfl, rfl, rfl⟩, List.nil_sublist _, rfl, rfl⟩

theorem ok_impl_areRising {ρ0 rn : Nat} {list : List Int} {r : Bool} (h : M.impl_areRising list = some r) : Does Try.prog 72 [.vl ρ0 1 (List.map encInt list)] [] rn (fun x H => x = .bool r ∧ H = []) := by
 have hm0 := h; clear h; unfold M.impl_areRising at hm0
 try dsimp only at hm0
 refine Does.intro (N := 20) Try.func72 rfl rfl rfl rfl ?_
 intro w0 S0
 refine V.seq ?_
 refine V.region ?_
 refine VO.cons rfl (V1.assign rfl rfl rfl (ltb rfl) ?_)
 refine VO.nil ?_
 refine V.seq ?_
 refine V.seq ?_
 refine V.region ?_
 refine VO.cons rfl (V1.assign rfl rfl rfl (ltb rfl) ?_)
 refine VO.nil ?_
 replace hm0 := bindO hm0; rcases hm0 with ⟨e0, he1, hm0⟩
 refine V.cutT (D := (Unit) × (Unit)) (fun ⟨_, _⟩ => ⟨20, [], []⟩) (fun ⟨_, _⟩ => (.inl () = e0)) ?_ ?_
 ·
  refine V.block ?_
  refine V.keep 20 [3, 0] [] (E0 := [(3, .int .i64 (1 : Int)), (0, .vl ρ0 1 (List.map encInt list))]) (H0 := []) rfl (⟨_, _, rfl, rfl, ⟨_, _, rfl, rfl, rfl⟩⟩) (rfl) rfl ?_
  refine V.loopE (D := Nat × (Int) × (Unit)) (fun ⟨n0, i, _⟩ => [(3, .int .i64 i)]) (fun ⟨n0, i, _⟩ => []) (fun ⟨n0, i, _⟩ => loopO (M.impl_areRising_l0 list) n0 i = some e0) (fun ⟨n0, _, _⟩ => n0) (rounds, (1 : Int), ()) rfl he1 ?_
  rintro ⟨n0, i, _⟩ hP0
  obtain ⟨m0, y0, rfl, hm1, hl1, hr1⟩ := loop_head hP0
  unfold M.impl_areRising_l0 at hm1; dsimp only at hm1
  show V _ _ _ ⟨20, [(3, .int .i64 i), (0, .vl ρ0 1 (List.map encInt list))], []⟩
  refine V.seq ?_
  refine V.seq ?_
  refine V.region ?_
  refine VO.cons rfl (V1.move rfl rfl rfl (ltb rfl) ?_)
  refine VO.cons rfl (V1.move rfl rfl rfl (ltb rfl) ?_)
  refine VO.cons rfl (V1.lenMap rfl rfl rfl rfl rfl rfl isl_22 (ltb rfl) ?_)
  refine VO.cons rfl (V1.int rfl rfl rfl rfl rfl (ltb rfl) ?_)
  refine VO.nil ?_
  refine V.cond rfl (fun hc0 => ?_) (fun hc0 => ?_)
  ·
   replace hm1 := cond_t hc0 hm1
   refine V.skip ?_
   refine V.keep 20 [0, 3] [] (E0 := [(0, .vl ρ0 1 (List.map encInt list)), (3, .int .i64 i)]) (H0 := []) rfl (⟨_, _, rfl, rfl, ⟨_, _, rfl, rfl, rfl⟩⟩) (rfl) rfl ?_
   refine V.seq ?_
   refine V.block ?_
   refine V.seq ?_
   replace hm1 := asrt_some hm1; rcases hm1 with ⟨hh0, hm1⟩
   replace hm1 := asrt_some hm1; rcases hm1 with ⟨hh1, hm1⟩
   refine V.regionM 20 9 [⟨[(0, none)], [], none⟩, ⟨[(3, none)], [], none⟩, ⟨[(11, some 0)], [], none⟩, ⟨[(10, some 2), (12, some 0)], [], none⟩, ⟨[(13, some 0)], [], none⟩, ⟨[(0, none)], [], none⟩, ⟨[(3, none)], [], none⟩, ⟨[(15, some 1), (16, some 0)], [], none⟩, ⟨[(17, some 0)], [], none⟩] [(0, none), (3, none), (14, some 4), (18, some 0)] (⟨_, rfl, ⟨_, rfl, ⟨_, rfl, ⟨_, rfl, ⟨_, rfl, ⟨_, rfl, ⟨_, rfl, ⟨_, rfl, ⟨_, rfl, ⟨rfl, rfl⟩⟩⟩⟩⟩⟩⟩⟩⟩⟩) mixed_orders rfl (by decide +kernel) (fun hck4 => ?_)
   refine VP.step (p := ?pv46) rfl rfl rfl (⟨_, _, rfl, rfl, rfl⟩) ?hv46 ?rest46 hck4
   case hv46 =>
    intro E1
    refine (V1.move rfl rfl rfl (ltb rfl) ?_)
    exact rfl
   refine VP.step (p := ?pv47) rfl rfl rfl (⟨_, _, rfl, rfl, rfl⟩) ?hv47 ?rest47 hck4
   case hv47 =>
    intro E1
    refine (V1.move rfl rfl rfl (ltb rfl) ?_)
    exact rfl
   refine VP.step (p := ?pv48) rfl rfl rfl (⟨_, _, rfl, rfl, rfl⟩) ?hv48 ?rest48 hck4
   case hv48 =>
    intro E1
    refine (V1.int rfl rfl rfl rfl rfl (ltb rfl) ?_)
    exact rfl
   refine VP.step (p := ?pv49) rfl rfl rfl (⟨_, _, rfl, rfl, ⟨_, _, rfl, rfl, rfl⟩⟩) ?hv49 ?rest49 hck4
   case hv49 =>
    intro E1
    refine (V1.indexI rfl rfl esz_22 rfl rfl hh0 (ltb rfl) ?_)
    exact rfl
   refine VP.step (p := ?pv50) rfl rfl rfl (⟨_, _, rfl, rfl, rfl⟩) ?hv50 ?rest50 hck4
   case hv50 =>
    intro E1
    refine (V1.loadPin rfl rfl tyk_3 rfl rfl (ltb rfl) ?_)
    exact rfl
   refine VP.step (p := ?pv51) rfl rfl rfl (⟨_, _, rfl, rfl, rfl⟩) ?hv51 ?rest51 hck4
   case hv51 =>
    intro E1
    refine (V1.move rfl rfl rfl (ltb rfl) ?_)
    exact rfl
   refine VP.step (p := ?pv52) rfl rfl rfl (⟨_, _, rfl, rfl, rfl⟩) ?hv52 ?rest52 hck4
   case hv52 =>
    intro E1
    refine (V1.move rfl rfl rfl (ltb rfl) ?_)
    exact rfl
   refine VP.step (p := ?pv53) rfl rfl rfl (⟨_, _, rfl, rfl, ⟨_, _, rfl, rfl, rfl⟩⟩) ?hv53 ?rest53 hck4
   case hv53 =>
    intro E1
    refine (V1.indexI rfl rfl esz_22 rfl rfl hh1 (ltb rfl) ?_)
    exact rfl
   refine VP.step (p := ?pv54) rfl rfl rfl (⟨_, _, rfl, rfl, rfl⟩) ?hv54 ?rest54 hck4
   case hv54 =>
    intro E1
    refine (V1.loadPin rfl rfl tyk_3 rfl rfl (ltb rfl) ?_)
    exact rfl
   refine VP.fin rfl (⟨_, _, rfl, rfl, ⟨_, _, rfl, rfl, ⟨_, _, rfl, rfl, ⟨_, _, rfl, rfl, rfl⟩⟩⟩⟩) ?_
   refine VO.cons rfl (V1.int rfl rfl rfl rfl rfl (ltb rfl) ?_)
   refine VO.nil ?_
   refine V.cond rfl (fun hc1 => ?_) (fun hc1 => ?_)
   ·
    replace hm1 := cond_t hc1 hm1
    refine V.seq ?_
    refine V.region ?_
    refine VO.cons rfl (V1.assign rfl rfl rfl (ltb rfl) ?_)
    refine VO.nil ?_
    refine V.ret ?_
    obtain rfl := hr1 _ (Option.some.inj hm1).symm
    change some _ = some _ at hm0
    obtain rfl := Option.some.inj hm0
    exact ⟨_, [], ⟨_, _, rfl, rfl, rfl⟩, List.nil_sublist _, rfl, rfl⟩
   ·
    replace hm1 := cond_f hc1 hm1
    refine V.skip ?_
    refine V.region ?_
    refine VO.cons rfl (V1.move rfl rfl rfl (ltb rfl) ?_)
    refine VO.cons rfl (V1.int rfl rfl rfl rfl rfl (ltb rfl) ?_)
    refine VO.cons rfl (V1.assign rfl rfl rfl (ltb rfl) ?_)
    refine VO.nil ?_
    exact ⟨(m0, (IntKind.i64.wrap (i + (1 : Int))), ()), hl1 _ (Option.some.inj hm1).symm, Nat.lt_succ_self _, Keeps.mk (ks := []) rfl ⟨rfl, rfl, trivial⟩ (rfl) rfl⟩
  ·
   replace hm1 := cond_f hc0 hm1
   refine V.exit ?_
   obtain rfl := hr1 _ (Option.some.inj hm1).symm
   exact ⟨((), ()), rfl, Keeps.mk (ks := []) rfl trivial (rfl) rfl⟩
 ·
  rintro ⟨_, _⟩ rfl
  try dsimp only at hm0
  refine V.seq ?_
  refine V.region ?_
  refine VO.cons rfl (V1.assign rfl rfl rfl (ltb rfl) ?_)
  refine VO.nil ?_
  refine V.ret ?_
  obtain rfl := Option.some.inj hm0
  exact ⟨_, [], ⟨_, _, rfl, rfl, rfl⟩, List.nil_sublist _, rfl, rfl⟩

theorem ok_slices_IndexFunc_int_int {ρ0 rn : Nat} {s : List Int} {f1 : Nat} {cs1 : List PV} {r : Int} {fm : Int → Option Bool} (h : M.slices_IndexFunc_int_int s fm = some r) (hok1 : callOK Try.prog f1 = true) (hf1 : ∀ x0 r, fm x0 = some r → Does Try.prog f1 (.int .i64 x0 :: cs1) [] rn (fun x H => x = .bool r ∧ H = [])) : Does Try.prog 109 [.vl ρ0 1 (List.map encInt s), .fn f1 cs1] [] rn (fun x H => x = .int .i64 r ∧ H = []) := by
 have hm0 := h; clear h; unfold M.slices_IndexFunc_int_int at hm0
 try dsimp only at hm0
 refine Does.intro (N := 19) Try.func109 rfl rfl rfl rfl ?_
 intro w0 S0
 refine V.seq ?_
 refine V.region ?_
 refine VO.cons rfl (V1.assign rfl rfl rfl (ltb rfl) ?_)
 refine VO.nil ?_
 refine V.seq ?_
 refine V.seq ?_
 refine V.region ?_
 refine VO.cons rfl (V1.move rfl rfl rfl (ltb rfl) ?_)
 refine VO.cons rfl (V1.lenMap rfl rfl rfl rfl rfl rfl isl_22 (ltb rfl) ?_)
 refine VO.cons rfl (V1.move rfl rfl rfl (ltb rfl) ?_)
 refine VO.nil ?_
 replace hm0 := bindO hm0; rcases hm0 with ⟨e0, he1, hm0⟩
 refine V.cutT (D := (Unit) × (Unit)) (fun ⟨_, _⟩ => ⟨19, [], []⟩) (fun ⟨_, _⟩ => (.inl () = e0)) ?_ ?_
 ·
  refine V.block ?_
  refine V.keep 19 [8, 0, 1, 7] [] (E0 := [(8, .int .i64 (0 : Int)), (0, .vl ρ0 1 (List.map encInt s)), (1, .fn f1 cs1), (7, .int .i64 (s.length : Int))]) (H0 := []) rfl (⟨_, _, rfl, rfl, ⟨_, _, rfl, rfl, ⟨_, _, rfl, rfl, ⟨_, _, rfl, rfl, rfl⟩⟩⟩⟩) (rfl) rfl ?_
  refine V.loopE (D := Nat × (Int) × (Unit)) (fun ⟨n0, v, _⟩ => [(8, .int .i64 v)]) (fun ⟨n0, v, _⟩ => []) (fun ⟨n0, v, _⟩ => loopO (M.slices_IndexFunc_int_int_l0 s fm) n0 v = some e0) (fun ⟨n0, _, _⟩ => n0) (rounds, (0 : Int), ()) rfl he1 ?_
  rintro ⟨n0, v, _⟩ hP0
  obtain ⟨m0, y0, rfl, hm1, hl1, hr1⟩ := loop_head hP0
  unfold M.slices_IndexFunc_int_int_l0 at hm1; dsimp only at hm1
  show V _ _ _ ⟨19, [(8, .int .i64 v), (0, .vl ρ0 1 (List.map encInt s)), (1, .fn f1 cs1), (7, .int .i64 (s.length : Int))], []⟩
  refine V.seq ?_
  refine V.region ?_
  refine VO.cons rfl (V1.int rfl rfl rfl rfl rfl (ltb rfl) ?_)
  refine VO.nil ?_
  refine V.seq ?_
  refine V.cond rfl (fun hc0 => ?_) (fun hc0 => ?_)
  ·
   replace hm1 := cond_t hc0 hm1
   refine V.skip ?_
   refine V.seq ?_
   refine V.block ?_
   refine V.seq ?_
   refine V.region ?_
   refine VO.cons rfl (V1.move rfl rfl rfl (ltb rfl) ?_)
   refine VO.cons rfl (V1.assign rfl rfl rfl (ltb rfl) ?_)
   refine VO.nil ?_
   refine V.seq ?_
   replace hm1 := asrt_some hm1; rcases hm1 with ⟨hh0, hm1⟩
   replace hm1 := bindO hm1; rcases hm1 with ⟨y1, hh1, hm1⟩
   refine V.region ?_
   refine VO.cons rfl (V1.move rfl rfl rfl (ltb rfl) ?_)
   refine VO.cons rfl (V1.move rfl rfl rfl (ltb rfl) ?_)
   refine VO.cons rfl (V1.move rfl rfl rfl (ltb rfl) ?_)
   refine VO.cons rfl (V1.indexI rfl rfl esz_22 rfl rfl hh0 (ltb rfl) ?_)
   refine VO.cons rfl (V1.loadPin rfl rfl tyk_3 rfl rfl (ltb rfl) ?_)
   refine VO.cons rfl (V1.callG (τ := 0) (Bw := []) rfl (ltb rfl) (run_callFn rfl rfl rfl hok1 rfl) (.refl _) (Lends.same _) (fun _ h => by cases h) ((hf1 _  _) hh1) (.inl rfl) (.inl rfl) ?_)
   rintro _ _ ⟨rfl, rfl⟩
   refine VO.nil ?_
   refine V.keep 19 [0, 1, 5, 7, 8, 16] [] (E0 := [(0, .vl ρ0 1 (List.map encInt s)), (1, .fn f1 cs1), (5, .int .i64 v), (7, .int .i64 (s.length : Int)), (8, .int .i64 v), (16, .bool y1)]) (H0 := []) rfl (⟨_, _, rfl, rfl, ⟨_, _, rfl, rfl, ⟨_, _, rfl, rfl, ⟨_, _, rfl, rfl, ⟨_, _, rfl, rfl, ⟨_, _, rfl, rfl, rfl⟩⟩⟩⟩⟩⟩) (rfl) rfl ?_
   refine V.cond rfl (fun hc1 => ?_) (fun hc1 => ?_)
   ·
    replace hm1 := cond_t hc1 hm1
    refine V.seq ?_
    refine V.region ?_
    refine VO.cons rfl (V1.move rfl rfl rfl (ltb rfl) ?_)
    refine VO.cons rfl (V1.assign rfl rfl rfl (ltb rfl) ?_)
    refine VO.nil ?_
    refine V.ret ?_
    obtain rfl := hr1 _ (Option.some.inj hm1).symm
    change some _ = some _ at hm0
    obtain rfl := Option.some.inj hm0
    exact ⟨_, [], ⟨_, _, rfl, rfl, rfl⟩, List.nil_sublist _, rfl, rfl⟩
   ·
    replace hm1 := cond_f hc1 hm1
    refine V.skip ?_
    refine V.region ?_
    refine VO.cons rfl (V1.int rfl rfl rfl rfl rfl (ltb rfl) ?_)
    refine VO.cons rfl (V1.move rfl rfl rfl (ltb rfl) ?_)
    refine VO.nil ?_
    exact ⟨(m0, (IntKind.i64.wrap (v + (1 : Int))), ()), hl1 _ (Option.some.inj hm1).symm, Nat.lt_succ_self _, Keeps.mk (ks := []) rfl ⟨rfl, rfl, rfl, rfl, trivial⟩ (rfl) rfl⟩
  ·
   replace hm1 := cond_f hc0 hm1
   refine V.exit ?_
   obtain rfl := hr1 _ (Option.some.inj hm1).symm
   exact ⟨((), ()), rfl, Keeps.mk (ks := []) rfl trivial (rfl) rfl⟩
 ·
  rintro ⟨_, _⟩ rfl
  try dsimp only at hm0
  refine V.seq ?_
  refine V.region ?_
  refine VO.cons rfl (V1.assign rfl rfl rfl (ltb rfl) ?_)
  refine VO.nil ?_
  refine V.ret ?_
  obtain rfl := Option.some.inj hm0
  exact ⟨_, [], ⟨_, _, rfl, rfl, rfl⟩, List.nil_sublist _, rfl, rfl⟩

theorem ok_slices_ContainsFunc_int_int {ρ0 rn : Nat} {s : List Int} {f1 : Nat} {cs1 : List PV} {r : Bool} {fm : Int → Option Bool} (h : M.slices_ContainsFunc_int_int s fm = some r) (hok1 : callOK Try.prog f1 = true) (hf1 : ∀ x0 r, fm x0 = some r → Does Try.prog f1 (.int .i64 x0 :: cs1) [] rn (fun x H => x = .bool r ∧ H = [])) : Does Try.prog 73 [.vl ρ0 1 (List.map encInt s), .fn f1 cs1] [] rn (fun x H => x = .bool r ∧ H = []) := by
 have hm0 := h; clear h; unfold M.slices_ContainsFunc_int_int at hm0
 try dsimp only at hm0
 refine Does.intro (N := 9) Try.func73 rfl rfl rfl rfl ?_
 intro w0 S0
 refine V.seq ?_
 refine V.region ?_
 refine VO.cons rfl (V1.assign rfl rfl rfl (ltb rfl) ?_)
 refine VO.nil ?_
 refine V.seq ?_
 replace hm0 := bindO hm0; rcases hm0 with ⟨y0, hh0, hm0⟩
 refine V.region ?_
 refine VO.cons rfl (V1.move rfl rfl rfl (ltb rfl) ?_)
 refine VO.cons rfl (V1.move rfl rfl rfl (ltb rfl) ?_)
 refine VO.cons rfl (V1.call rfl rfl rfl cok_109 rfl (ok_slices_IndexFunc_int_int hh0 (fm := fm) hok1 hf1) rfl (ltb rfl) ?_)
 rintro _ _ ⟨rfl, rfl⟩
 refine VO.cons rfl (V1.int rfl rfl rfl rfl rfl (ltb rfl) ?_)
 refine VO.cons rfl (V1.assign rfl rfl rfl (ltb rfl) ?_)
 refine VO.nil ?_
 refine V.ret ?_
 obtain rfl := Option.some.inj hm0
 exact ⟨_, [], ⟨_, _, rfl, rfl, rfl⟩, List.nil_sublist _, rfl, rfl⟩

theorem ok_impl_IsCarton_1 {rn : Nat} {id_ : Int} {r : Bool} (h : M.impl_IsCarton_1 id_ = some r) : Does Try.prog 74 [.int .i64 id_] [] rn (fun x H => x = .bool r ∧ H = []) := by
 have hm0 := h; clear h; unfold M.impl_IsCarton_1 at hm0
 try dsimp only at hm0
 refine Does.intro (N := 6) Try.func74 rfl rfl rfl rfl ?_
 intro w0 S0
 refine V.seq ?_
 refine V.region ?_
 refine VO.cons rfl (V1.assign rfl rfl rfl (ltb rfl) ?_)
 refine VO.nil ?_
 refine V.seq ?_
 replace hm0 := bindO hm0; rcases hm0 with ⟨y0, hh0, hm0⟩
 refine V.region ?_
 refine VO.cons rfl (V1.move rfl rfl rfl (ltb rfl) ?_)
 refine VO.cons rfl (V1.call rfl rfl rfl cok_75 rfl (ok_impl_within hh0) rfl (ltb rfl) ?_)
 rintro _ _ ⟨rfl, rfl⟩
 refine VO.cons rfl (V1.not rfl rfl rfl (ltb rfl) ?_)
 refine VO.cons rfl (V1.assign rfl rfl rfl (ltb rfl) ?_)
 refine VO.nil ?_
 refine V.ret ?_
 obtain rfl := Option.some.inj hm0
 exact ⟨_, [], ⟨_, _, rfl, rfl, rfl⟩, List.nil_sublist _, rfl, rfl⟩

theorem ok_impl_IsCarton {ρ0 rn : Nat} {x : Carton} {r : Bool} (h : M.impl_IsCarton x = some r) : Does Try.prog 19 [encCarton ρ0 x] [] rn (fun x H => x = .bool r ∧ H = []) := by
 have hm0 := h; clear h; unfold M.impl_IsCarton at hm0
 try dsimp only at hm0
 refine Does.intro (N := 38) Try.func19 rfl rfl rfl rfl ?_
 intro w0 S0
 refine V.seq ?_
 refine V.region ?_
 refine VO.cons rfl (V1.boxN (n := 5) rfl rfl rfl rfl rfl (ltb rfl) ?_)
 intro b0
 refine VO.cons rfl (V1.assign rfl rfl rfl (ltb rfl) ?_)
 refine VO.nil ?_
 refine V.seq ?_
 replace hm0 := bindO hm0; rcases hm0 with ⟨y0, hh0, hm0⟩
 replace hm0 := bindO hm0; rcases hm0 with ⟨y1, hh1, hm0⟩
 replace hm0 := bindO hm0; rcases hm0 with ⟨y2, hh2, hm0⟩
 replace hm0 := bindO hm0; rcases hm0 with ⟨y3, hh3, hm0⟩
 replace hm0 := bindO hm0; rcases hm0 with ⟨y4, hh4, hm0⟩
 replace hm0 := bindO hm0; rcases hm0 with ⟨y5, hh5, hm0⟩
 refine V.region ?_
 refine VO.cons rfl (V1.fieldRef rfl rfl fo_27_0 rfl (ltb rfl) ?_)
 refine VO.cons rfl (V1.loadRef (k := 0) rfl rfl tyk_3 rfl rfl rfl rfl rfl (ltb rfl) ?_)
 refine VO.cons rfl (V1.call rfl rfl rfl cok_69 rfl (ok_impl_isId hh0) rfl (ltb rfl) ?_)
 rintro _ _ ⟨rfl, rfl⟩
 refine VO.cons rfl (V1.move rfl rfl rfl (ltb rfl) ?_)
 apply VO.and (n := 3) rfl rfl rfl rfl rfl rfl (ltb rfl) (.none rfl)
 ·
  intro hg0
  refine VO.step (.some rfl rfl rfl) (V1.fieldRef rfl rfl fo_27_1 rfl (ltb rfl) ?_)
  refine VO.step (.some rfl rfl rfl) (V1.loadRef (k := 0) rfl rfl tyk_3 rfl rfl rfl rfl rfl (ltb rfl) ?_)
  refine VO.step (.some rfl rfl rfl) (V1.call rfl rfl rfl cok_70 rfl (ok_impl_isShelf (cond_t hg0 hh1)) rfl (ltb rfl) ?_)
  rintro _ _ ⟨rfl, rfl⟩
  exact VO.nil ⟨rfl, rfl, rfl, rfl, .inr ⟨rfl, .inr ⟨rfl, .inr ⟨rfl, .inr ⟨rfl, .inl rfl⟩⟩⟩⟩⟩
 refine VO.cons rfl (V1.move rfl rfl rfl (ltb rfl) ?_)
 apply VO.and (n := 3) rfl rfl rfl rfl rfl rfl (ltb rfl) (.none rfl)
 ·
  intro hg1
  refine VO.step (.some rfl rfl rfl) (V1.fieldRef rfl rfl fo_27_2 rfl (ltb rfl) ?_)
  refine VO.step (.some rfl rfl rfl) (V1.loadRef (k := 0) rfl rfl tyk_3 rfl rfl rfl rfl rfl (ltb rfl) ?_)
  refine VO.step (.some rfl rfl rfl) (V1.call rfl rfl rfl cok_71 rfl (ok_impl_isRoom (cond_t hg1 hh2)) rfl (ltb rfl) ?_)
  rintro _ _ ⟨rfl, rfl⟩
  exact VO.nil ⟨rfl, rfl, rfl, rfl, .inr ⟨rfl, .inr ⟨rfl, .inr ⟨rfl, .inr ⟨rfl, .inl rfl⟩⟩⟩⟩⟩
 refine VO.cons rfl (V1.move rfl rfl rfl (ltb rfl) ?_)
 apply VO.and (n := 4) rfl rfl rfl rfl rfl rfl (ltb rfl) (.none rfl)
 ·
  intro hg2
  refine VO.step (.some rfl rfl rfl) (V1.fieldRef rfl rfl fo_27_3 rfl (ltb rfl) ?_)
  refine VO.step (.some rfl rfl rfl) (V1.loadRef (k := 0) rfl rfl tyk_22 rfl rfl rfl rfl rfl (ltb rfl) ?_)
  refine VO.step (.some rfl rfl rfl) (V1.lenMap rfl rfl rfl rfl rfl rfl isl_22 (ltb rfl) ?_)
  refine VO.step (.some rfl rfl rfl) (V1.int rfl rfl rfl rfl rfl (ltb rfl) ?_)
  exact VO.nil ⟨rfl, rfl, rfl, rfl, .inr ⟨rfl, .inr ⟨rfl, .inr ⟨rfl, .inr ⟨rfl, .inr ⟨rfl, .inl rfl⟩⟩⟩⟩⟩⟩
 refine VO.cons rfl (V1.move rfl rfl rfl (ltb rfl) ?_)
 apply VO.and (n := 3) rfl rfl rfl rfl rfl rfl (ltb rfl) (.none rfl)
 ·
  intro hg3
  refine VO.step (.some rfl rfl rfl) (V1.fieldRef rfl rfl fo_27_3 rfl (ltb rfl) ?_)
  refine VO.step (.some rfl rfl rfl) (V1.loadRef (k := 0) rfl rfl tyk_22 rfl rfl rfl rfl rfl (ltb rfl) ?_)
  refine VO.step (.some rfl rfl rfl) (V1.call rfl rfl rfl cok_72 rfl (ok_impl_areRising (cond_t hg3 hh3)) rfl (ltb rfl) ?_)
  rintro _ _ ⟨rfl, rfl⟩
  exact VO.nil ⟨rfl, rfl, rfl, rfl, .inr ⟨rfl, .inr ⟨rfl, .inr ⟨rfl, .inr ⟨rfl, .inl rfl⟩⟩⟩⟩⟩
 refine VO.cons rfl (V1.move rfl rfl rfl (ltb rfl) ?_)
 apply VO.and (n := 4) rfl rfl rfl rfl rfl rfl (ltb rfl) (.none rfl)
 ·
  intro hg4
  refine VO.step (.some rfl rfl rfl) (V1.fieldRef rfl rfl fo_27_3 rfl (ltb rfl) ?_)
  refine VO.step (.some rfl rfl rfl) (V1.loadRef (k := 0) rfl rfl tyk_22 rfl rfl rfl rfl rfl (ltb rfl) ?_)
  refine VO.step (.some rfl rfl rfl) (V1.call rfl rfl rfl cok_73 rfl (ok_slices_ContainsFunc_int_int (cond_t hg4 hh4) (fm := (fun x0 => M.impl_IsCarton_1 x0)) cok_74 (fun _ _ h => ok_impl_IsCarton_1 h)) rfl (ltb rfl) ?_)
  rintro _ _ ⟨rfl, rfl⟩
  refine VO.step (.some rfl rfl rfl) (V1.not rfl rfl rfl (ltb rfl) ?_)
  exact VO.nil ⟨rfl, rfl, rfl, rfl, .inr ⟨rfl, .inr ⟨rfl, .inr ⟨rfl, .inr ⟨rfl, .inr ⟨rfl, .inl rfl⟩⟩⟩⟩⟩⟩
 refine VO.cons rfl (V1.move rfl rfl rfl (ltb rfl) ?_)
 apply VO.and (n := 3) rfl rfl rfl rfl rfl rfl (ltb rfl) (.none rfl)
 ·
  intro hg5
  refine VO.step (.some rfl rfl rfl) (V1.fieldRef rfl rfl fo_27_4 rfl (ltb rfl) ?_)
  refine VO.step (.some rfl rfl rfl) (V1.loadRef (k := 0) rfl rfl tyk_3 rfl rfl rfl rfl rfl (ltb rfl) ?_)
  refine VO.step (.some rfl rfl rfl) (V1.call rfl rfl rfl cok_75 rfl (ok_impl_within (cond_t hg5 hh5)) rfl (ltb rfl) ?_)
  rintro _ _ ⟨rfl, rfl⟩
  exact VO.nil ⟨rfl, rfl, rfl, rfl, .inr ⟨rfl, .inr ⟨rfl, .inr ⟨rfl, .inr ⟨rfl, .inl rfl⟩⟩⟩⟩⟩
 refine VO.cons rfl (V1.assign rfl rfl rfl (ltb rfl) ?_)
 refine VO.nil ?_
 refine V.ret ?_
 obtain rfl := Option.some.inj hm0
 exact ⟨_, [], ⟨_, _, rfl, rfl, rfl⟩, List.nil_sublist _, rfl, rfl⟩

theorem ok_slices_Index_int_int {ρ0 rn : Nat} {s : List Int} {v : Int} {r : Int} (h : M.slices_Index_int_int s v = some r) : Does Try.prog 110 [.vl ρ0 1 (List.map encInt s), .int .i64 v] [] rn (fun x H => x = .int .i64 r ∧ H = []) := by
 have hm0 := h; clear h; unfold M.slices_Index_int_int at hm0
 try dsimp only at hm0
 refine Does.intro (N := 19) Try.func110 rfl rfl rfl rfl ?_
 intro w0 S0
 refine V.seq ?_
 refine V.region ?_
 refine VO.cons rfl (V1.assign rfl rfl rfl (ltb rfl) ?_)
 refine VO.nil ?_
 refine V.seq ?_
 refine V.seq ?_
 refine V.region ?_
 refine VO.cons rfl (V1.move rfl rfl rfl (ltb rfl) ?_)
 refine VO.cons rfl (V1.lenMap rfl rfl rfl rfl rfl rfl isl_22 (ltb rfl) ?_)
 refine VO.cons rfl (V1.move rfl rfl rfl (ltb rfl) ?_)
 refine VO.nil ?_
 replace hm0 := bindO hm0; rcases hm0 with ⟨e0, he1, hm0⟩
 refine V.cutT (D := (Unit) × (Unit)) (fun ⟨_, _⟩ => ⟨19, [], []⟩) (fun ⟨_, _⟩ => (.inl () = e0)) ?_ ?_
 ·
  refine V.block ?_
  refine V.keep 19 [8, 0, 1, 7] [] (E0 := [(8, .int .i64 (0 : Int)), (0, .vl ρ0 1 (List.map encInt s)), (1, .int .i64 v), (7, .int .i64 (s.length : Int))]) (H0 := []) rfl (⟨_, _, rfl, rfl, ⟨_, _, rfl, rfl, ⟨_, _, rfl, rfl, ⟨_, _, rfl, rfl, rfl⟩⟩⟩⟩) (rfl) rfl ?_
  refine V.loopE (D := Nat × (Int) × (Unit)) (fun ⟨n0, v0, _⟩ => [(8, .int .i64 v0)]) (fun ⟨n0, v0, _⟩ => []) (fun ⟨n0, v0, _⟩ => loopO (M.slices_Index_int_int_l0 s v) n0 v0 = some e0) (fun ⟨n0, _, _⟩ => n0) (rounds, (0 : Int), ()) rfl he1 ?_
  rintro ⟨n0, v0, _⟩ hP0
  obtain ⟨m0, y0, rfl, hm1, hl1, hr1⟩ := loop_head hP0
  unfold M.slices_Index_int_int_l0 at hm1; dsimp only at hm1
  show V _ _ _ ⟨19, [(8, .int .i64 v0), (0, .vl ρ0 1 (List.map encInt s)), (1, .int .i64 v), (7, .int .i64 (s.length : Int))], []⟩
  refine V.seq ?_
  refine V.region ?_
  refine VO.cons rfl (V1.int rfl rfl rfl rfl rfl (ltb rfl) ?_)
  refine VO.nil ?_
  refine V.seq ?_
  refine V.cond rfl (fun hc0 => ?_) (fun hc0 => ?_)
  ·
   replace hm1 := cond_t hc0 hm1
   refine V.skip ?_
   refine V.seq ?_
   refine V.block ?_
   refine V.seq ?_
   refine V.region ?_
   refine VO.cons rfl (V1.move rfl rfl rfl (ltb rfl) ?_)
   refine VO.cons rfl (V1.assign rfl rfl rfl (ltb rfl) ?_)
   refine VO.nil ?_
   refine V.seq ?_
   replace hm1 := asrt_some hm1; rcases hm1 with ⟨hh0, hm1⟩
   refine V.region ?_
   refine VO.cons rfl (V1.move rfl rfl rfl (ltb rfl) ?_)
   refine VO.cons rfl (V1.move rfl rfl rfl (ltb rfl) ?_)
   refine VO.cons rfl (V1.move rfl rfl rfl (ltb rfl) ?_)
   refine VO.cons rfl (V1.indexI rfl rfl esz_22 rfl rfl hh0 (ltb rfl) ?_)
   refine VO.cons rfl (V1.loadPin rfl rfl tyk_3 rfl rfl (ltb rfl) ?_)
   refine VO.cons rfl (V1.int rfl rfl rfl rfl rfl (ltb rfl) ?_)
   refine VO.nil ?_
   refine V.keep 19 [0, 1, 5, 7, 8, 16] [] (E0 := [(0, .vl ρ0 1 (List.map encInt s)), (1, .int .i64 v), (5, .int .i64 v0), (7, .int .i64 (s.length : Int)), (8, .int .i64 v0), (16, .bool (v == (s.getD (Int.toNat v0) default)))]) (H0 := []) rfl (⟨_, _, rfl, rfl, ⟨_, _, rfl, rfl, ⟨_, _, rfl, rfl, ⟨_, _, rfl, rfl, ⟨_, _, rfl, rfl, ⟨_, _, rfl, rfl, rfl⟩⟩⟩⟩⟩⟩) (rfl) rfl ?_
   refine V.cond rfl (fun hc1 => ?_) (fun hc1 => ?_)
   ·
    replace hm1 := cond_t hc1 hm1
    refine V.seq ?_
    refine V.region ?_
    refine VO.cons rfl (V1.move rfl rfl rfl (ltb rfl) ?_)
    refine VO.cons rfl (V1.assign rfl rfl rfl (ltb rfl) ?_)
    refine VO.nil ?_
    refine V.ret ?_
    obtain rfl := hr1 _ (Option.some.inj hm1).symm
    change some _ = some _ at hm0
    obtain rfl := Option.some.inj hm0
    exact ⟨_, [], ⟨_, _, rfl, rfl, rfl⟩, List.nil_sublist _, rfl, rfl⟩
   ·
    replace hm1 := cond_f hc1 hm1
    refine V.skip ?_
    refine V.region ?_
    refine VO.cons rfl (V1.int rfl rfl rfl rfl rfl (ltb rfl) ?_)
    refine VO.cons rfl (V1.move rfl rfl rfl (ltb rfl) ?_)
    refine VO.nil ?_
    exact ⟨(m0, (IntKind.i64.wrap (v0 + (1 : Int))), ()), hl1 _ (Option.some.inj hm1).symm, Nat.lt_succ_self _, Keeps.mk (ks := []) rfl ⟨rfl, rfl, rfl, rfl, trivial⟩ (rfl) rfl⟩
  ·
   replace hm1 := cond_f hc0 hm1
   refine V.exit ?_
   obtain rfl := hr1 _ (Option.some.inj hm1).symm
   exact ⟨((), ()), rfl, Keeps.mk (ks := []) rfl trivial (rfl) rfl⟩
 ·
  rintro ⟨_, _⟩ rfl
  try dsimp only at hm0
  refine V.seq ?_
  refine V.region ?_
  refine VO.cons rfl (V1.assign rfl rfl rfl (ltb rfl) ?_)
  refine VO.nil ?_
  refine V.ret ?_
  obtain rfl := Option.some.inj hm0
  exact ⟨_, [], ⟨_, _, rfl, rfl, rfl⟩, List.nil_sublist _, rfl, rfl⟩

theorem ok_slices_Contains_int_int {ρ0 rn : Nat} {s : List Int} {v : Int} {r : Bool} (h : M.slices_Contains_int_int s v = some r) : Does Try.prog 78 [.vl ρ0 1 (List.map encInt s), .int .i64 v] [] rn (fun x H => x = .bool r ∧ H = []) := by
 have hm0 := h; clear h; unfold M.slices_Contains_int_int at hm0
 try dsimp only at hm0
 refine Does.intro (N := 9) Try.func78 rfl rfl rfl rfl ?_
 intro w0 S0
 refine V.seq ?_
 refine V.region ?_
 refine VO.cons rfl (V1.assign rfl rfl rfl (ltb rfl) ?_)
 refine VO.nil ?_
 refine V.seq ?_
 replace hm0 := bindO hm0; rcases hm0 with ⟨y0, hh0, hm0⟩
 refine V.region ?_
 refine VO.cons rfl (V1.move rfl rfl rfl (ltb rfl) ?_)
 refine VO.cons rfl (V1.move rfl rfl rfl (ltb rfl) ?_)
 refine VO.cons rfl (V1.call rfl rfl rfl cok_110 rfl (ok_slices_Index_int_int hh0) rfl (ltb rfl) ?_)
 rintro _ _ ⟨rfl, rfl⟩
 refine VO.cons rfl (V1.int rfl rfl rfl rfl rfl (ltb rfl) ?_)
 refine VO.cons rfl (V1.assign rfl rfl rfl (ltb rfl) ?_)
 refine VO.nil ?_
 refine V.ret ?_
 obtain rfl := Option.some.inj hm0
 exact ⟨_, [], ⟨_, _, rfl, rfl, rfl⟩, List.nil_sublist _, rfl, rfl⟩

theorem ok_impl_AreCartons_1 {ρ1 τ1 rn : Nat} {id_ : Int} {y_c : Carton} {r : Bool} (h : M.impl_AreCartons_1 id_ y_c = some r) : Does Try.prog 77 [.int .i64 id_, .pin τ1 (encCarton ρ1 y_c) 0] [] rn (fun x H => x = .bool r ∧ H = []) := by
 have hm0 := h; clear h; unfold M.impl_AreCartons_1 at hm0
 try dsimp only at hm0
 refine Does.intro (N := 8) Try.func77 rfl rfl rfl rfl ?_
 intro w0 S0
 refine V.seq ?_
 refine V.region ?_
 refine VO.cons rfl (V1.assign rfl rfl rfl (ltb rfl) ?_)
 refine VO.nil ?_
 refine V.seq ?_
 replace hm0 := bindO hm0; rcases hm0 with ⟨y0, hh0, hm0⟩
 refine V.region ?_
 refine VO.cons rfl (V1.fieldPin rfl rfl fo_27_3 rfl (ltb rfl) ?_)
 refine VO.cons rfl (V1.loadPin rfl rfl tyk_22 rfl rfl (ltb rfl) ?_)
 refine VO.cons rfl (V1.move rfl rfl rfl (ltb rfl) ?_)
 refine VO.cons rfl (V1.call rfl rfl rfl cok_78 rfl (ok_slices_Contains_int_int hh0) rfl (ltb rfl) ?_)
 rintro _ _ ⟨rfl, rfl⟩
 refine VO.cons rfl (V1.assign rfl rfl rfl (ltb rfl) ?_)
 refine VO.nil ?_
 refine V.ret ?_
 obtain rfl := Option.some.inj hm0
 exact ⟨_, [], ⟨_, _, rfl, rfl, rfl⟩, List.nil_sublist _, rfl, rfl⟩

theorem ok_impl_freeOn {ρ0 σ0 rn : Nat} {list : List Carton} {room : Int} {shelf : Int} {r : Int} (h : M.impl_freeOn list room shelf = some r) : Does Try.prog 79 [.vl ρ0 5 (List.map (encCarton σ0) list), .int .i64 room, .int .i64 shelf] [] rn (fun x H => x = .int .i64 r ∧ H = []) := by
 have hm0 := h; clear h; unfold M.impl_freeOn at hm0
 try dsimp only at hm0
 refine Does.intro (N := 32) Try.func79 rfl rfl rfl rfl ?_
 intro w0 S0
 refine V.seq ?_
 refine V.region ?_
 refine VO.cons rfl (V1.assign rfl rfl rfl (ltb rfl) ?_)
 refine VO.nil ?_
 refine V.seq ?_
 refine V.region ?_
 refine VO.cons rfl (V1.assign rfl rfl rfl (ltb rfl) ?_)
 refine VO.nil ?_
 refine V.seq ?_
 refine V.seq ?_
 refine V.region ?_
 refine VO.cons rfl (V1.move rfl rfl rfl (ltb rfl) ?_)
 refine VO.cons rfl (V1.lenMap rfl rfl rfl rfl rfl rfl isl_34 (ltb rfl) ?_)
 refine VO.cons rfl (V1.move rfl rfl rfl (ltb rfl) ?_)
 refine VO.nil ?_
 replace hm0 := bindO hm0; rcases hm0 with ⟨e0, he1, hm0⟩
 refine V.cutT (D := (Int) × (Unit)) (fun ⟨free, _⟩ => ⟨32, [(7, .int .i64 free)], []⟩) (fun ⟨free, _⟩ => (free = e0)) ?_ ?_
 ·
  refine V.block ?_
  refine V.keep 32 [7, 12, 1, 2, 10, 11] [] (E0 := [(7, .int .i64 (100 : Int)), (12, .int .i64 (0 : Int)), (1, .int .i64 room), (2, .int .i64 shelf), (10, .vl ρ0 5 (List.map (encCarton σ0) list)), (11, .int .i64 (list.length : Int))]) (H0 := []) rfl (⟨_, _, rfl, rfl, ⟨_, _, rfl, rfl, ⟨_, _, rfl, rfl, ⟨_, _, rfl, rfl, ⟨_, _, rfl, rfl, ⟨_, _, rfl, rfl, rfl⟩⟩⟩⟩⟩⟩) (rfl) rfl ?_
  refine V.loopE (D := Nat × (Int × Int) × (Unit)) (fun ⟨n0, ⟨free0, v⟩, _⟩ => [(7, .int .i64 free0), (12, .int .i64 v)]) (fun ⟨n0, ⟨free0, v⟩, _⟩ => []) (fun ⟨n0, ⟨free0, v⟩, _⟩ => loopO (M.impl_freeOn_l0 list room shelf) n0 (free0, v) = some e0) (fun ⟨n0, _, _⟩ => n0) (rounds, ((100 : Int), (0 : Int)), ()) rfl he1 ?_
  rintro ⟨n0, ⟨free0, v⟩, _⟩ hP0
  obtain ⟨m0, y0, rfl, hm1, hl1, hr1⟩ := loop_head hP0
  unfold M.impl_freeOn_l0 at hm1; dsimp only at hm1
  show V _ _ _ ⟨32, [(7, .int .i64 free0), (12, .int .i64 v), (1, .int .i64 room), (2, .int .i64 shelf), (10, .vl ρ0 5 (List.map (encCarton σ0) list)), (11, .int .i64 (list.length : Int))], []⟩
  refine V.seq ?_
  refine V.region ?_
  refine VO.cons rfl (V1.int rfl rfl rfl rfl rfl (ltb rfl) ?_)
  refine VO.nil ?_
  refine V.seq ?_
  refine V.cond rfl (fun hc0 => ?_) (fun hc0 => ?_)
  ·
   replace hm1 := cond_t hc0 hm1
   refine V.skip ?_
   refine V.seq ?_
   replace hm1 := bindO hm1; rcases hm1 with ⟨j0, hm2, hm1⟩
   refine V.cutT (D := (Int) × (Unit)) (fun ⟨free1, _⟩ => ⟨32, [(7, .int .i64 free1), (1, .int .i64 room), (2, .int .i64 shelf), (10, .vl ρ0 5 (List.map (encCarton σ0) list)), (11, .int .i64 (list.length : Int)), (12, .int .i64 v)], []⟩) (fun ⟨free1, _⟩ => (free1 = j0)) ?_ ?_
   ·
    refine V.block ?_
    refine V.seq ?_
    replace hm2 := asrt_some hm2; rcases hm2 with ⟨hh0, hm2⟩
    refine V.region ?_
    refine VO.cons rfl (V1.indexI rfl rfl esz_34 rfl rfl hh0 (ltb rfl) ?_)
    refine VO.cons rfl (V1.loadPinAll rfl rfl tyk_27 rfl rfl (ltb rfl) ?_)
    refine VO.cons rfl (V1.alloc rfl rfl zk_27 (ltb rfl) ?_)
    intro b0
    refine VO.cons rfl (V1.storeRefAll (k := 0) rfl rfl tyk_27 rfl rfl rfl rfl rfl rfl ?_)
    refine VO.nil ?_
    refine V.seq ?_
    refine V.region ?_
    refine VO.cons rfl (V1.fieldRef rfl rfl fo_27_2 rfl (ltb rfl) ?_)
    refine VO.cons rfl (V1.loadRef (k := 0) rfl rfl tyk_3 rfl rfl rfl rfl rfl (ltb rfl) ?_)
    refine VO.cons rfl (V1.move rfl rfl rfl (ltb rfl) ?_)
    refine VO.cons rfl (V1.int rfl rfl rfl rfl rfl (ltb rfl) ?_)
    refine VO.cons rfl (V1.move rfl rfl rfl (ltb rfl) ?_)
    apply VO.and (n := 4) rfl rfl rfl rfl rfl rfl (ltb rfl) (.none rfl)
    ·
     intro hg0
     refine VO.step (.some rfl rfl rfl) (V1.fieldRef rfl rfl fo_27_1 rfl (ltb rfl) ?_)
     refine VO.step (.some rfl rfl rfl) (V1.loadRef (k := 0) rfl rfl tyk_3 rfl rfl rfl rfl rfl (ltb rfl) ?_)
     refine VO.step (.some rfl rfl rfl) (V1.move rfl rfl rfl (ltb rfl) ?_)
     refine VO.step (.some rfl rfl rfl) (V1.int rfl rfl rfl rfl rfl (ltb rfl) ?_)
     exact VO.nil ⟨rfl, rfl, rfl, rfl, .inr ⟨rfl, .inr ⟨rfl, .inr ⟨rfl, .inr ⟨rfl, .inr ⟨rfl, .inl rfl⟩⟩⟩⟩⟩⟩
    refine VO.nil ?_
    refine V.keep 32 [1, 2, 7, 9, 10, 11, 12, 25] [0] (E0 := [(1, .int .i64 room), (2, .int .i64 shelf), (7, .int .i64 free0), (9, .ref b0 5 0 0), (10, .vl ρ0 5 (List.map (encCarton σ0) list)), (11, .int .i64 (list.length : Int)), (12, .int .i64 v), (25, .bool ((((list.getD (Int.toNat v) default).Room) == room) && (((list.getD (Int.toNat v) default).Shelf) == shelf)))]) (H0 := [(b0, ⟨5, [encCarton σ0 (list.getD (Int.toNat v) default)]⟩)]) rfl (⟨_, _, rfl, rfl, ⟨_, _, rfl, rfl, ⟨_, _, rfl, rfl, ⟨_, _, rfl, rfl, ⟨_, _, rfl, rfl, ⟨_, _, rfl, rfl, ⟨_, _, rfl, rfl, ⟨_, _, rfl, rfl, rfl⟩⟩⟩⟩⟩⟩⟩⟩) (⟨_, _, rfl, rfl, rfl⟩) rfl ?_
    refine V.cond rfl (fun hc1 => ?_) (fun hc1 => ?_)
    ·
     replace hm2 := cond_t hc1 hm2
     refine V.region ?_
     refine VO.cons rfl (V1.move rfl rfl rfl (ltb rfl) ?_)
     refine VO.cons rfl (V1.fieldRef rfl rfl fo_27_4 rfl (ltb rfl) ?_)
     refine VO.cons rfl (V1.loadRef (k := 0) rfl rfl tyk_3 rfl rfl rfl rfl rfl (ltb rfl) ?_)
     refine VO.cons rfl (V1.int rfl rfl rfl rfl rfl (ltb rfl) ?_)
     refine VO.cons rfl (V1.assign rfl rfl rfl (ltb rfl) ?_)
     refine VO.nil ?_
     exact ⟨((IntKind.i64.wrap (free0 - ((list.getD (Int.toNat v) default).Thick))), ()), Option.some.inj hm2, Keeps.mk (ks := []) rfl ⟨rfl, rfl, rfl, rfl, rfl, rfl, trivial⟩ (rfl) rfl⟩
    ·
     replace hm2 := cond_f hc1 hm2
     refine V.skip ?_
     exact ⟨(free0, ()), Option.some.inj hm2, Keeps.mk (ks := []) rfl ⟨rfl, rfl, rfl, rfl, rfl, rfl, trivial⟩ (rfl) rfl⟩
   ·
    rintro ⟨free1, _⟩ rfl
    try dsimp only at hm1
    refine V.region ?_
    refine VO.cons rfl (V1.int rfl rfl rfl rfl rfl (ltb rfl) ?_)
    refine VO.cons rfl (V1.move rfl rfl rfl (ltb rfl) ?_)
    refine VO.nil ?_
    exact ⟨(m0, (free1, (IntKind.i64.wrap (v + (1 : Int)))), ()), hl1 _ (Option.some.inj hm1).symm, Nat.lt_succ_self _, Keeps.mk (ks := []) rfl ⟨rfl, rfl, rfl, rfl, rfl, rfl, trivial⟩ (rfl) rfl⟩
  ·
   replace hm1 := cond_f hc0 hm1
   refine V.exit ?_
   obtain rfl := hr1 _ (Option.some.inj hm1).symm
   exact ⟨(free0, ()), rfl, Keeps.mk (ks := []) rfl ⟨rfl, trivial⟩ (rfl) rfl⟩
 ·
  rintro ⟨free, _⟩ rfl
  try dsimp only at hm0
  refine V.seq ?_
  refine V.region ?_
  refine VO.cons rfl (V1.move rfl rfl rfl (ltb rfl) ?_)
  refine VO.cons rfl (V1.assign rfl rfl rfl (ltb rfl) ?_)
  refine VO.nil ?_
  refine V.ret ?_
  obtain rfl := Option.some.inj hm0
  exact ⟨_, [], ⟨_, _, rfl, rfl, rfl⟩, List.nil_sublist _, rfl, rfl⟩

theorem ok_impl_AreCartons {ρ0 σ0 rn : Nat} {list : List Carton} {r : Bool} (h : M.impl_AreCartons list = some r) : Does Try.prog 24 [.vl ρ0 5 (List.map (encCarton σ0) list)] [] rn (fun x H => x = .bool r ∧ H = []) := by
 have hm0 := h; clear h; unfold M.impl_AreCartons at hm0
 try dsimp only at hm0
 refine Does.intro (N := 59) Try.func24 rfl rfl rfl rfl ?_
 intro w0 S0
 refine V.seq ?_
 refine V.region ?_
 refine VO.cons rfl (V1.assign rfl rfl rfl (ltb rfl) ?_)
 refine VO.nil ?_
 refine V.seq ?_
 refine V.seq ?_
 refine V.region ?_
 refine VO.cons rfl (V1.move rfl rfl rfl (ltb rfl) ?_)
 refine VO.cons rfl (V1.lenMap rfl rfl rfl rfl rfl rfl isl_34 (ltb rfl) ?_)
 refine VO.cons rfl (V1.int rfl rfl rfl rfl rfl (ltb rfl) ?_)
 refine VO.nil ?_
 refine V.cond rfl (fun hc0 => ?_) (fun hc0 => ?_)
 ·
  replace hm0 := cond_t hc0 hm0
  refine V.seq ?_
  refine V.region ?_
  refine VO.cons rfl (V1.assign rfl rfl rfl (ltb rfl) ?_)
  refine VO.nil ?_
  refine V.ret ?_
  obtain rfl := Option.some.inj hm0
  exact ⟨_, [], ⟨_, _, rfl, rfl, rfl⟩, List.nil_sublist _, rfl, rfl⟩
 ·
  replace hm0 := cond_f hc0 hm0
  refine V.skip ?_
  refine V.keep 59 [0] [] (E0 := [(0, .vl ρ0 5 (List.map (encCarton σ0) list))]) (H0 := []) rfl (⟨_, _, rfl, rfl, rfl⟩) (rfl) rfl ?_
  refine V.seq ?_
  refine V.seq ?_
  refine V.region ?_
  refine VO.cons rfl (V1.move rfl rfl rfl (ltb rfl) ?_)
  refine VO.cons rfl (V1.lenMap rfl rfl rfl rfl rfl rfl isl_34 (ltb rfl) ?_)
  refine VO.cons rfl (V1.move rfl rfl rfl (ltb rfl) ?_)
  refine VO.nil ?_
  replace hm0 := bindO hm0; rcases hm0 with ⟨e0, he1, hm0⟩
  refine V.cutT (D := (Unit) × (Unit)) (fun ⟨_, _⟩ => ⟨59, [], []⟩) (fun ⟨_, _⟩ => (.inl () = e0)) ?_ ?_
  ·
   refine V.block ?_
   refine V.keep 59 [12, 0, 10, 11] [] (E0 := [(12, .int .i64 (0 : Int)), (0, .vl ρ0 5 (List.map (encCarton σ0) list)), (10, .vl ρ0 5 (List.map (encCarton σ0) list)), (11, .int .i64 (list.length : Int))]) (H0 := []) rfl (⟨_, _, rfl, rfl, ⟨_, _, rfl, rfl, ⟨_, _, rfl, rfl, ⟨_, _, rfl, rfl, rfl⟩⟩⟩⟩) (rfl) rfl ?_
   refine V.loopE (D := Nat × (Int) × (Unit)) (fun ⟨n0, v, _⟩ => [(12, .int .i64 v)]) (fun ⟨n0, v, _⟩ => []) (fun ⟨n0, v, _⟩ => loopO (M.impl_AreCartons_l0 list) n0 v = some e0) (fun ⟨n0, _, _⟩ => n0) (rounds, (0 : Int), ()) rfl he1 ?_
   rintro ⟨n0, v, _⟩ hP0
   obtain ⟨m0, y0, rfl, hm1, hl1, hr1⟩ := loop_head hP0
   unfold M.impl_AreCartons_l0 at hm1; dsimp only at hm1
   show V _ _ _ ⟨59, [(12, .int .i64 v), (0, .vl ρ0 5 (List.map (encCarton σ0) list)), (10, .vl ρ0 5 (List.map (encCarton σ0) list)), (11, .int .i64 (list.length : Int))], []⟩
   refine V.seq ?_
   refine V.region ?_
   refine VO.cons rfl (V1.int rfl rfl rfl rfl rfl (ltb rfl) ?_)
   refine VO.nil ?_
   refine V.seq ?_
   refine V.cond rfl (fun hc1 => ?_) (fun hc1 => ?_)
   ·
    replace hm1 := cond_t hc1 hm1
    refine V.skip ?_
    refine V.seq ?_
    refine V.block ?_
    refine V.seq ?_
    replace hm1 := asrt_some hm1; rcases hm1 with ⟨hh0, hm1⟩
    refine V.region ?_
    refine VO.cons rfl (V1.move rfl rfl rfl (ltb rfl) ?_)
    refine VO.cons rfl (V1.indexI rfl rfl esz_34 rfl rfl hh0 (ltb rfl) ?_)
    refine VO.cons rfl (V1.loadPinAll rfl rfl tyk_27 rfl rfl (ltb rfl) ?_)
    refine VO.cons rfl (V1.alloc rfl rfl zk_27 (ltb rfl) ?_)
    intro b0
    refine VO.cons rfl (V1.assign rfl rfl rfl (ltb rfl) ?_)
    refine VO.cons rfl (V1.storeRefAll (k := 0) rfl rfl tyk_27 rfl rfl rfl rfl rfl rfl ?_)
    refine VO.nil ?_
    refine V.keep 59 [0, 3, 4, 10, 11, 12] [0] (E0 := [(0, .vl ρ0 5 (List.map (encCarton σ0) list)), (3, .int .i64 v), (4, .ref b0 5 0 0), (10, .vl ρ0 5 (List.map (encCarton σ0) list)), (11, .int .i64 (list.length : Int)), (12, .int .i64 v)]) (H0 := [(b0, ⟨5, [encCarton σ0 (list.getD (Int.toNat v) default)]⟩)]) rfl (⟨_, _, rfl, rfl, ⟨_, _, rfl, rfl, ⟨_, _, rfl, rfl, ⟨_, _, rfl, rfl, ⟨_, _, rfl, rfl, ⟨_, _, rfl, rfl, rfl⟩⟩⟩⟩⟩⟩) (⟨_, _, rfl, rfl, rfl⟩) rfl ?_
    refine V.seq ?_
    refine V.seq ?_
    replace hm1 := bindO hm1; rcases hm1 with ⟨y1, hh1, hm1⟩
    replace hm1 := asrt_some hm1; rcases hm1 with ⟨hh2, hm1⟩
    refine V.regionM 59 18 [⟨[(4, none)], [], none⟩, ⟨[(17, some 0)], [], none⟩, ⟨[(18, some 0)], [], none⟩, ⟨[(19, some 0)], [], none⟩, ⟨[(3, none)], [(0, false)], none⟩, ⟨[(21, some 0)], [(1, false)], none⟩, ⟨[(22, some 0)], [(2, false)], none⟩, ⟨[(0, none)], [(0, true), (3, false)], none⟩, ⟨[(3, none)], [(1, true), (4, false)], none⟩, ⟨[(25, some 0)], [(2, true), (5, false)], none⟩, ⟨[(24, some 2), (26, some 0)], [(3, true), (6, false)], none⟩, ⟨[(27, some 0)], [(4, true), (7, false)], none⟩, ⟨[(28, some 0)], [(5, true), (8, false)], none⟩, ⟨[(4, none)], [(6, true), (9, false)], none⟩, ⟨[(30, some 0)], [(7, true), (10, false)], none⟩, ⟨[(29, some 2), (31, some 0)], [(8, true), (11, false)], none⟩, ⟨[], [(12, false)], some (true, 23, 32, 9, 0)⟩, ⟨[], [], some (false, 20, 33, 13, 0)⟩] [(0, none), (3, none), (4, none), (10, none), (11, none), (12, none), (34, some 0)] (⟨_, rfl, ⟨_, rfl, ⟨_, rfl, ⟨_, rfl, ⟨_, rfl, ⟨_, rfl, ⟨_, rfl, ⟨_, rfl, ⟨_, rfl, ⟨_, rfl, ⟨_, rfl, ⟨_, rfl, ⟨_, rfl, ⟨_, rfl, ⟨_, rfl, ⟨_, rfl, ⟨_, rfl, ⟨_, rfl, ⟨rfl, rfl⟩⟩⟩⟩⟩⟩⟩⟩⟩⟩⟩⟩⟩⟩⟩⟩⟩⟩⟩) mixed_orders rfl (by decide +kernel) (fun hck6 => ?_)
    refine VP.step (p := ?pv121) rfl rfl rfl (⟨_, _, rfl, rfl, rfl⟩) ?hv121 ?rest121 hck6
    case hv121 =>
     intro E1
     refine (V1.loadRefAll (k := 0) rfl rfl tyk_27 rfl rfl rfl rfl rfl (ltb rfl) ?_)
     exact rfl
    refine VP.step (p := ?pv122) rfl rfl rfl (⟨_, _, rfl, rfl, rfl⟩) ?hv122 ?rest122 hck6
    case hv122 =>
     intro E1
     refine (V1.call rfl rfl rfl cok_19 rfl (ok_impl_IsCarton hh1) rfl (ltb rfl) ?_)
     rintro _ _ ⟨rfl, rfl⟩
     exact rfl
    refine VP.step (p := ?pv123) rfl rfl rfl (⟨_, _, rfl, rfl, rfl⟩) ?hv123 ?rest123 hck6
    case hv123 =>
     intro E1
     refine (V1.not rfl rfl rfl (ltb rfl) ?_)
     exact rfl
    refine VP.step (p := ?pv124) rfl rfl rfl (⟨_, _, rfl, rfl, rfl⟩) ?hv124 ?rest124 hck6
    case hv124 =>
     intro E1
     refine (V1.move rfl rfl rfl (ltb rfl) ?_)
     exact rfl
    refine VP.step (p := ?pv125) rfl rfl rfl (⟨_, _, rfl, rfl, rfl⟩) ?hv125 ?rest125 hck6
    case hv125 =>
     refine ⟨_, rfl, fun hg0 => ?_⟩
     intro E1
     refine (V1.move rfl rfl rfl (ltb rfl) ?_)
     exact rfl
    refine VP.step (p := ?pv126) rfl rfl rfl (⟨_, _, rfl, rfl, rfl⟩) ?hv126 ?rest126 hck6
    case hv126 =>
     refine ⟨_, rfl, fun hg0 => ?_⟩
     intro E1
     refine (V1.int rfl rfl rfl rfl rfl (ltb rfl) ?_)
     exact rfl
    refine VP.step (p := ?pv127) rfl rfl rfl (⟨_, _, rfl, rfl, rfl⟩) ?hv127 ?rest127 hck6
    case hv127 =>
     refine ⟨_, rfl, fun hg0 => ?_⟩
     intro E1
     refine (V1.move rfl rfl rfl (ltb rfl) ?_)
     exact rfl
    refine VP.step (p := ?pv128) rfl rfl rfl (⟨_, _, rfl, rfl, rfl⟩) ?hv128 ?rest128 hck6
    case hv128 =>
     refine ⟨_, rfl, fun hg1 => ?_⟩
     refine ⟨_, rfl, fun hg0 => ?_⟩
     intro E1
     refine (V1.move rfl rfl rfl (ltb rfl) ?_)
     exact rfl
    refine VP.step (p := ?pv129) rfl rfl rfl (⟨_, _, rfl, rfl, rfl⟩) ?hv129 ?rest129 hck6
    case hv129 =>
     refine ⟨_, rfl, fun hg1 => ?_⟩
     refine ⟨_, rfl, fun hg0 => ?_⟩
     intro E1
     refine (V1.move rfl rfl rfl (ltb rfl) ?_)
     exact rfl
    refine VP.step (p := ?pv130) rfl rfl rfl (⟨_, _, rfl, rfl, rfl⟩) ?hv130 ?rest130 hck6
    case hv130 =>
     refine ⟨_, rfl, fun hg1 => ?_⟩
     refine ⟨_, rfl, fun hg0 => ?_⟩
     intro E1
     refine (V1.int rfl rfl rfl rfl rfl (ltb rfl) ?_)
     exact rfl
    refine VP.step (p := ?pv131) rfl rfl rfl (⟨_, _, rfl, rfl, ⟨_, _, rfl, rfl, rfl⟩⟩) ?hv131 ?rest131 hck6
    case hv131 =>
     refine ⟨_, rfl, fun hg1 => ?_⟩
     refine ⟨_, rfl, fun hg0 => ?_⟩
     intro E1
     refine (V1.indexI rfl rfl esz_34 rfl rfl (hh2 hg0 hg1) (ltb rfl) ?_)
     exact rfl
    refine VP.step (p := ?pv132) rfl rfl rfl (⟨_, _, rfl, rfl, rfl⟩) ?hv132 ?rest132 hck6
    case hv132 =>
     refine ⟨_, rfl, fun hg1 => ?_⟩
     refine ⟨_, rfl, fun hg0 => ?_⟩
     intro E1
     refine (V1.fieldPin rfl rfl fo_27_0 rfl (ltb rfl) ?_)
     exact rfl
    refine VP.step (p := ?pv133) rfl rfl rfl (⟨_, _, rfl, rfl, rfl⟩) ?hv133 ?rest133 hck6
    case hv133 =>
     refine ⟨_, rfl, fun hg1 => ?_⟩
     refine ⟨_, rfl, fun hg0 => ?_⟩
     intro E1
     refine (V1.loadPin rfl rfl tyk_3 rfl rfl (ltb rfl) ?_)
     exact rfl
    refine VP.step (p := ?pv134) rfl rfl rfl (⟨_, _, rfl, rfl, rfl⟩) ?hv134 ?rest134 hck6
    case hv134 =>
     refine ⟨_, rfl, fun hg1 => ?_⟩
     refine ⟨_, rfl, fun hg0 => ?_⟩
     intro E1
     refine (V1.fieldRef rfl rfl fo_27_0 rfl (ltb rfl) ?_)
     exact rfl
    refine VP.step (p := ?pv135) rfl rfl rfl (⟨_, _, rfl, rfl, rfl⟩) ?hv135 ?rest135 hck6
    case hv135 =>
     refine ⟨_, rfl, fun hg1 => ?_⟩
     refine ⟨_, rfl, fun hg0 => ?_⟩
     intro E1
     refine (V1.loadRef (k := 0) rfl rfl tyk_3 rfl rfl rfl rfl rfl (ltb rfl) ?_)
     exact rfl
    refine VP.step (p := ?pv136) rfl rfl rfl (⟨_, _, rfl, rfl, ⟨_, _, rfl, rfl, rfl⟩⟩) ?hv136 ?rest136 hck6
    case hv136 =>
     refine ⟨_, rfl, fun hg1 => ?_⟩
     refine ⟨_, rfl, fun hg0 => ?_⟩
     intro E1
     refine (V1.int rfl rfl rfl rfl rfl (ltb rfl) ?_)
     exact rfl
    refine VP.pickAnd rfl rfl rfl rfl rfl rfl (⟨_, rfl, fun _ => trivial⟩) ?_ hck6
    refine VP.pickOr rfl rfl rfl rfl rfl rfl (trivial) ?_ hck6
    refine VP.fin rfl (⟨_, _, rfl, rfl, ⟨_, _, rfl, rfl, ⟨_, _, rfl, rfl, ⟨_, _, rfl, rfl, ⟨_, _, rfl, rfl, ⟨_, _, rfl, rfl, ⟨_, _, rfl, rfl, rfl⟩⟩⟩⟩⟩⟩⟩) ?_
    refine VO.nil ?_
    refine V.cond rfl (fun hc2 => ?_) (fun hc2 => ?_)
    ·
     replace hm1 := cond_t hc2 hm1
     refine V.seq ?_
     refine V.region ?_
     refine VO.cons rfl (V1.assign rfl rfl rfl (ltb rfl) ?_)
     refine VO.nil ?_
     refine V.ret ?_
     obtain rfl := hr1 _ (Option.some.inj hm1).symm
     change some _ = some _ at hm0
     obtain rfl := Option.some.inj hm0
     exact ⟨_, [], ⟨_, _, rfl, rfl, rfl⟩, List.nil_sublist _, rfl, rfl⟩
    ·
     replace hm1 := cond_f hc2 hm1
     refine V.skip ?_
     refine V.seq ?_
     refine V.seq ?_
     replace hm1 := asrt_some hm1; rcases hm1 with ⟨hh3, hm1⟩
     refine V.region ?_
     refine VO.cons rfl (V1.move rfl rfl rfl (ltb rfl) ?_)
     refine VO.cons rfl (V1.move rfl rfl rfl (ltb rfl) ?_)
     refine VO.cons rfl (V1.sliceMap (a := (0 : Int)) (b := v) rfl rfl esz_34 rfl (Bnd.none _ _) (Bnd.some rfl (Int.le_trans hh3.1 hh3.2.1) _) hh3 (ltb rfl) ?_)
     refine VO.cons rfl (V1.lenMap rfl rfl rfl rfl rfl rfl isl_34 (ltb rfl) ?_)
     refine VO.cons rfl (V1.move rfl rfl rfl (ltb rfl) ?_)
     refine VO.nil ?_
     replace hm1 := bindO hm1; rcases hm1 with ⟨e1, he2, hm1⟩
     refine V.cutT (D := (Unit) × (Unit)) (fun ⟨_, _⟩ => ⟨59, [(0, .vl ρ0 5 (List.map (encCarton σ0) list)), (3, .int .i64 v), (4, .ref b0 5 0 0), (10, .vl ρ0 5 (List.map (encCarton σ0) list)), (11, .int .i64 (list.length : Int)), (12, .int .i64 v)], [(b0, ⟨5, [encCarton σ0 (list.getD (Int.toNat v) default)]⟩)]⟩) (fun ⟨_, _⟩ => (.inl () = e1)) ?_ ?_
     ·
      refine V.block ?_
      refine V.keep 59 [39, 0, 3, 4, 10, 11, 12, 37, 38] [0] (E0 := [(39, .int .i64 (0 : Int)), (0, .vl ρ0 5 (List.map (encCarton σ0) list)), (3, .int .i64 v), (4, .ref b0 5 0 0), (10, .vl ρ0 5 (List.map (encCarton σ0) list)), (11, .int .i64 (list.length : Int)), (12, .int .i64 v), (37, .vl ρ0 5 (List.map (encCarton σ0) (slc list (0 : Int) v))), (38, .int .i64 ((slc list (0 : Int) v).length : Int))]) (H0 := [(b0, ⟨5, [encCarton σ0 (list.getD (Int.toNat v) default)]⟩)]) rfl (⟨_, _, rfl, rfl, ⟨_, _, rfl, rfl, ⟨_, _, rfl, rfl, ⟨_, _, rfl, rfl, ⟨_, _, rfl, rfl, ⟨_, _, rfl, rfl, ⟨_, _, rfl, rfl, ⟨_, _, rfl, rfl, ⟨_, _, rfl, rfl, rfl⟩⟩⟩⟩⟩⟩⟩⟩⟩) (⟨_, _, rfl, rfl, rfl⟩) rfl ?_
      refine V.loopE (D := Nat × (Int) × (Unit)) (fun ⟨n1, v0, _⟩ => [(39, .int .i64 v0)]) (fun ⟨n1, v0, _⟩ => []) (fun ⟨n1, v0, _⟩ => loopO (M.impl_AreCartons_l1 list v) n1 v0 = some e1) (fun ⟨n1, _, _⟩ => n1) (rounds, (0 : Int), ()) rfl he2 ?_
      rintro ⟨n1, v0, _⟩ hP1
      obtain ⟨m1, y2, rfl, hm2, hl2, hr2⟩ := loop_head hP1
      unfold M.impl_AreCartons_l1 at hm2; dsimp only at hm2
      show V _ _ _ ⟨59, [(39, .int .i64 v0), (0, .vl ρ0 5 (List.map (encCarton σ0) list)), (3, .int .i64 v), (4, .ref b0 5 0 0), (10, .vl ρ0 5 (List.map (encCarton σ0) list)), (11, .int .i64 (list.length : Int)), (12, .int .i64 v), (37, .vl ρ0 5 (List.map (encCarton σ0) (slc list (0 : Int) v))), (38, .int .i64 ((slc list (0 : Int) v).length : Int))], [(b0, ⟨5, [encCarton σ0 (list.getD (Int.toNat v) default)]⟩)]⟩
      refine V.seq ?_
      refine V.region ?_
      refine VO.cons rfl (V1.int rfl rfl rfl rfl rfl (ltb rfl) ?_)
      refine VO.nil ?_
      refine V.seq ?_
      refine V.cond rfl (fun hc3 => ?_) (fun hc3 => ?_)
      ·
       replace hm2 := cond_t hc3 hm2
       refine V.skip ?_
       refine V.seq ?_
       refine V.block ?_
       refine V.seq ?_
       replace hm2 := asrt_some hm2; rcases hm2 with ⟨hh4, hm2⟩
       refine V.region ?_
       refine VO.cons rfl (V1.indexI rfl rfl esz_34 rfl rfl hh4 (ltb rfl) ?_)
       refine VO.cons rfl (V1.loadPinAll rfl rfl tyk_27 rfl rfl (ltb rfl) ?_)
       refine VO.cons rfl (V1.alloc rfl rfl zk_27 (ltb rfl) ?_)
       intro b1
       refine VO.cons rfl (V1.storeRefAll (k := 0) rfl rfl tyk_27 rfl rfl rfl rfl rfl rfl ?_)
       refine VO.nil ?_
       refine V.seq ?_
       replace hm2 := bindO hm2; rcases hm2 with ⟨y3, hh5, hm2⟩
       refine V.region ?_
       refine VO.cons rfl (V1.fieldRef rfl rfl fo_27_3 rfl (ltb rfl) ?_)
       refine VO.cons rfl (V1.loadRef (k := 1) rfl rfl tyk_22 rfl rfl rfl rfl rfl (ltb rfl) ?_)
       refine VO.cons rfl (V1.makeFunc rfl rfl rfl (ltb rfl) ?_)
       refine VO.cons rfl (V1.callL (rn + 1) [b1] [.vl σ0 1 (List.map encInt ((list.getD (Int.toNat v) default).Files)), .fn 77 [.pin (rn + 1) (encCarton σ0 ((slc list (0 : Int) v).getD (Int.toNat v0) default)) 0]] rfl rfl rfl cok_73 rfl ⟨_, _, rfl, .same _, ⟨_, _, rfl, Lend.fn ⟨_, _, rfl, Lend.ref 0 rfl rfl rfl rfl (.head _), rfl⟩, rfl⟩⟩ (bwCons (k := 0) rfl bwNil) (ok_slices_ContainsFunc_int_int hh5 (fm := (fun x0 => M.impl_AreCartons_1 x0 ((slc list (0 : Int) v).getD (Int.toNat v0) default))) cok_77 (fun _ _ h => ok_impl_AreCartons_1 h)) rfl (⟨(by dsimp only; omega), by rintro _ _ ⟨rfl, rfl⟩; exact ⟨rfl, by simp⟩⟩) (ltb rfl) ?_)
       rintro _ _ ⟨rfl, rfl⟩
       refine VO.nil ?_
       refine V.keep 59 [0, 3, 4, 10, 11, 12, 37, 38, 39, 46] [1] (E0 := [(0, .vl ρ0 5 (List.map (encCarton σ0) list)), (3, .int .i64 v), (4, .ref b0 5 0 0), (10, .vl ρ0 5 (List.map (encCarton σ0) list)), (11, .int .i64 (list.length : Int)), (12, .int .i64 v), (37, .vl ρ0 5 (List.map (encCarton σ0) (slc list (0 : Int) v))), (38, .int .i64 ((slc list (0 : Int) v).length : Int)), (39, .int .i64 v0), (46, .bool y3)]) (H0 := [(b0, ⟨5, [encCarton σ0 (list.getD (Int.toNat v) default)]⟩)]) rfl (⟨_, _, rfl, rfl, ⟨_, _, rfl, rfl, ⟨_, _, rfl, rfl, ⟨_, _, rfl, rfl, ⟨_, _, rfl, rfl, ⟨_, _, rfl, rfl, ⟨_, _, rfl, rfl, ⟨_, _, rfl, rfl, ⟨_, _, rfl, rfl, ⟨_, _, rfl, rfl, rfl⟩⟩⟩⟩⟩⟩⟩⟩⟩⟩) (⟨_, _, rfl, rfl, rfl⟩) rfl ?_
       refine V.cond rfl (fun hc4 => ?_) (fun hc4 => ?_)
       ·
        replace hm2 := cond_t hc4 hm2
        refine V.seq ?_
        refine V.region ?_
        refine VO.cons rfl (V1.assign rfl rfl rfl (ltb rfl) ?_)
        refine VO.nil ?_
        refine V.ret ?_
        obtain rfl := hr2 _ (Option.some.inj hm2).symm
        change some _ = some _ at hm1
        obtain rfl := hr1 _ (Option.some.inj hm1).symm
        change some _ = some _ at hm0
        obtain rfl := Option.some.inj hm0
        exact ⟨_, [], ⟨_, _, rfl, rfl, rfl⟩, List.nil_sublist _, rfl, rfl⟩
       ·
        replace hm2 := cond_f hc4 hm2
        refine V.skip ?_
        refine V.region ?_
        refine VO.cons rfl (V1.int rfl rfl rfl rfl rfl (ltb rfl) ?_)
        refine VO.cons rfl (V1.move rfl rfl rfl (ltb rfl) ?_)
        refine VO.nil ?_
        exact ⟨(m1, (IntKind.i64.wrap (v0 + (1 : Int))), ()), hl2 _ (Option.some.inj hm2).symm, Nat.lt_succ_self _, Keeps.mk (ks := [0]) rfl ⟨rfl, rfl, rfl, rfl, rfl, rfl, rfl, rfl, rfl, trivial⟩ (⟨_, _, rfl, rfl, rfl⟩) rfl⟩
      ·
       replace hm2 := cond_f hc3 hm2
       refine V.exit ?_
       obtain rfl := hr2 _ (Option.some.inj hm2).symm
       exact ⟨((), ()), rfl, Keeps.mk (ks := [0]) rfl ⟨rfl, rfl, rfl, rfl, rfl, rfl, trivial⟩ (⟨_, _, rfl, rfl, rfl⟩) rfl⟩
     ·
      rintro ⟨_, _⟩ rfl
      try dsimp only at hm1
      refine V.seq ?_
      replace hm1 := asrt_some hm1; rcases hm1 with ⟨hh6, hm1⟩
      replace hm1 := bindO hm1; rcases hm1 with ⟨y4, hh7, hm1⟩
      refine V.regionM 59 8 [⟨[(0, none)], [], none⟩, ⟨[(3, none)], [], none⟩, ⟨[(49, some 0)], [], none⟩, ⟨[(48, some 2), (50, some 0)], [], none⟩, ⟨[(4, none)], [], none⟩, ⟨[(52, some 0)], [], none⟩, ⟨[(4, none)], [], none⟩, ⟨[(54, some 0)], [], none⟩] [(0, none), (10, none), (11, none), (12, none), (51, some 4), (53, some 2), (55, some 0)] (⟨_, rfl, ⟨_, rfl, ⟨_, rfl, ⟨_, rfl, ⟨_, rfl, ⟨_, rfl, ⟨_, rfl, ⟨_, rfl, ⟨rfl, rfl⟩⟩⟩⟩⟩⟩⟩⟩⟩) mixed_orders rfl (by decide +kernel) (fun hck14 => ?_)
      refine VP.step (p := ?pv137) rfl rfl rfl (⟨_, _, rfl, rfl, rfl⟩) ?hv137 ?rest137 hck14
      case hv137 =>
       intro E1
       refine (V1.move rfl rfl rfl (ltb rfl) ?_)
       exact rfl
      refine VP.step (p := ?pv138) rfl rfl rfl (⟨_, _, rfl, rfl, rfl⟩) ?hv138 ?rest138 hck14
      case hv138 =>
       intro E1
       refine (V1.move rfl rfl rfl (ltb rfl) ?_)
       exact rfl
      refine VP.step (p := ?pv139) rfl rfl rfl (⟨_, _, rfl, rfl, rfl⟩) ?hv139 ?rest139 hck14
      case hv139 =>
       intro E1
       refine (V1.int rfl rfl rfl rfl rfl (ltb rfl) ?_)
       exact rfl
      refine VP.step (p := ?pv140) rfl rfl rfl (⟨_, _, rfl, rfl, ⟨_, _, rfl, rfl, rfl⟩⟩) ?hv140 ?rest140 hck14
      case hv140 =>
       intro E1
       refine (V1.sliceMap (a := (0 : Int)) (b := (IntKind.i64.wrap (v + (1 : Int)))) rfl rfl esz_34 rfl (Bnd.none _ _) (Bnd.some rfl (Int.le_trans hh6.1 hh6.2.1) _) hh6 (ltb rfl) ?_)
       exact rfl
      refine VP.step (p := ?pv141) rfl rfl rfl (⟨_, _, rfl, rfl, rfl⟩) ?hv141 ?rest141 hck14
      case hv141 =>
       intro E1
       refine (V1.fieldRef rfl rfl fo_27_2 rfl (ltb rfl) ?_)
       exact rfl
      refine VP.step (p := ?pv142) rfl rfl rfl (⟨_, _, rfl, rfl, rfl⟩) ?hv142 ?rest142 hck14
      case hv142 =>
       intro E1
       refine (V1.loadRef (k := 0) rfl rfl tyk_3 rfl rfl rfl rfl rfl (ltb rfl) ?_)
       exact rfl
      refine VP.step (p := ?pv143) rfl rfl rfl (⟨_, _, rfl, rfl, rfl⟩) ?hv143 ?rest143 hck14
      case hv143 =>
       intro E1
       refine (V1.fieldRef rfl rfl fo_27_1 rfl (ltb rfl) ?_)
       exact rfl
      refine VP.step (p := ?pv144) rfl rfl rfl (⟨_, _, rfl, rfl, rfl⟩) ?hv144 ?rest144 hck14
      case hv144 =>
       intro E1
       refine (V1.loadRef (k := 0) rfl rfl tyk_3 rfl rfl rfl rfl rfl (ltb rfl) ?_)
       exact rfl
      refine VP.fin rfl (⟨_, _, rfl, rfl, ⟨_, _, rfl, rfl, ⟨_, _, rfl, rfl, ⟨_, _, rfl, rfl, ⟨_, _, rfl, rfl, ⟨_, _, rfl, rfl, ⟨_, _, rfl, rfl, rfl⟩⟩⟩⟩⟩⟩⟩) ?_
      refine VO.cons rfl (V1.call rfl rfl rfl cok_79 rfl (ok_impl_freeOn hh7) rfl (ltb rfl) ?_)
      rintro _ _ ⟨rfl, rfl⟩
      refine VO.cons rfl (V1.int rfl rfl rfl rfl rfl (ltb rfl) ?_)
      refine VO.nil ?_
      refine V.keep 59 [0, 10, 11, 12, 57] [] (E0 := [(0, .vl ρ0 5 (List.map (encCarton σ0) list)), (10, .vl ρ0 5 (List.map (encCarton σ0) list)), (11, .int .i64 (list.length : Int)), (12, .int .i64 v), (57, .bool (decide (y4 < (0 : Int))))]) (H0 := []) rfl (⟨_, _, rfl, rfl, ⟨_, _, rfl, rfl, ⟨_, _, rfl, rfl, ⟨_, _, rfl, rfl, ⟨_, _, rfl, rfl, rfl⟩⟩⟩⟩⟩) (rfl) rfl ?_
      refine V.cond rfl (fun hc5 => ?_) (fun hc5 => ?_)
      ·
       replace hm1 := cond_t hc5 hm1
       refine V.seq ?_
       refine V.region ?_
       refine VO.cons rfl (V1.assign rfl rfl rfl (ltb rfl) ?_)
       refine VO.nil ?_
       refine V.ret ?_
       obtain rfl := hr1 _ (Option.some.inj hm1).symm
       change some _ = some _ at hm0
       obtain rfl := Option.some.inj hm0
       exact ⟨_, [], ⟨_, _, rfl, rfl, rfl⟩, List.nil_sublist _, rfl, rfl⟩
      ·
       replace hm1 := cond_f hc5 hm1
       refine V.skip ?_
       refine V.region ?_
       refine VO.cons rfl (V1.int rfl rfl rfl rfl rfl (ltb rfl) ?_)
       refine VO.cons rfl (V1.move rfl rfl rfl (ltb rfl) ?_)
       refine VO.nil ?_
       exact ⟨(m0, (IntKind.i64.wrap (v + (1 : Int))), ()), hl1 _ (Option.some.inj hm1).symm, Nat.lt_succ_self _, Keeps.mk (ks := []) rfl ⟨rfl, rfl, rfl, rfl, trivial⟩ (rfl) rfl⟩
   ·
    replace hm1 := cond_f hc1 hm1
    refine V.exit ?_
    obtain rfl := hr1 _ (Option.some.inj hm1).symm
    exact ⟨((), ()), rfl, Keeps.mk (ks := []) rfl trivial (rfl) rfl⟩
  ·
   rintro ⟨_, _⟩ rfl
   try dsimp only at hm0
   refine V.seq ?_
   refine V.region ?_
   refine VO.cons rfl (V1.assign rfl rfl rfl (ltb rfl) ?_)
   refine VO.nil ?_
   refine V.ret ?_
   obtain rfl := Option.some.inj hm0
   exact ⟨_, [], ⟨_, _, rfl, rfl, rfl⟩, List.nil_sublist _, rfl, rfl⟩

theorem ok_impl_BestShelf {ρ0 σ0 rn : Nat} {list : List Carton} {room : Int} {thick : Int} {r : Int × Bool} (h : M.impl_BestShelf list room thick = some r) : Does Try.prog 31 [.vl ρ0 5 (List.map (encCarton σ0) list), .int .i64 room, .int .i64 thick] [] rn (fun x H => x = .tup [.int .i64 r.1, .bool r.2] ∧ H = []) := by
 have hm0 := h; clear h; unfold M.impl_BestShelf at hm0
 try dsimp only at hm0
 refine Does.intro (N := 47) Try.func31 rfl rfl rfl rfl ?_
 intro w0 S0
 refine V.seq ?_
 refine V.region ?_
 refine VO.cons rfl (V1.assign rfl rfl rfl (ltb rfl) ?_)
 refine VO.cons rfl (V1.assign rfl rfl rfl (ltb rfl) ?_)
 refine VO.nil ?_
 refine V.seq ?_
 refine V.seq ?_
 replace hm0 := bindO hm0; rcases hm0 with ⟨y0, hh0, hm0⟩
 replace hm0 := bindO hm0; rcases hm0 with ⟨y1, hh1, hm0⟩
 replace hm0 := bindO hm0; rcases hm0 with ⟨y2, hh2, hm0⟩
 refine V.region ?_
 refine VO.cons rfl (V1.move rfl rfl rfl (ltb rfl) ?_)
 refine VO.cons rfl (V1.call rfl rfl rfl cok_24 rfl (ok_impl_AreCartons hh0) rfl (ltb rfl) ?_)
 rintro _ _ ⟨rfl, rfl⟩
 refine VO.cons rfl (V1.not rfl rfl rfl (ltb rfl) ?_)
 refine VO.cons rfl (V1.move rfl rfl rfl (ltb rfl) ?_)
 apply VO.or (n := 3) rfl rfl rfl rfl rfl rfl (ltb rfl) (.none rfl)
 ·
  intro hg0
  refine VO.step (.some rfl rfl rfl) (V1.move rfl rfl rfl (ltb rfl) ?_)
  refine VO.step (.some rfl rfl rfl) (V1.call rfl rfl rfl cok_71 rfl (ok_impl_isRoom (cond_f hg0 hh1)) rfl (ltb rfl) ?_)
  rintro _ _ ⟨rfl, rfl⟩
  refine VO.step (.some rfl rfl rfl) (V1.not rfl rfl rfl (ltb rfl) ?_)
  exact VO.nil ⟨rfl, rfl, rfl, rfl, .inr ⟨rfl, .inr ⟨rfl, .inr ⟨rfl, .inr ⟨rfl, .inl rfl⟩⟩⟩⟩⟩
 refine VO.cons rfl (V1.move rfl rfl rfl (ltb rfl) ?_)
 apply VO.or (n := 3) rfl rfl rfl rfl rfl rfl (ltb rfl) (.none rfl)
 ·
  intro hg1
  refine VO.step (.some rfl rfl rfl) (V1.move rfl rfl rfl (ltb rfl) ?_)
  refine VO.step (.some rfl rfl rfl) (V1.call rfl rfl rfl cok_75 rfl (ok_impl_within (cond_f hg1 hh2)) rfl (ltb rfl) ?_)
  rintro _ _ ⟨rfl, rfl⟩
  refine VO.step (.some rfl rfl rfl) (V1.not rfl rfl rfl (ltb rfl) ?_)
  exact VO.nil ⟨rfl, rfl, rfl, rfl, .inr ⟨rfl, .inr ⟨rfl, .inr ⟨rfl, .inr ⟨rfl, .inl rfl⟩⟩⟩⟩⟩
 refine VO.nil ?_
 refine V.keep 47 [0, 1, 2, 24] [] (E0 := [(0, .vl ρ0 5 (List.map (encCarton σ0) list)), (1, .int .i64 room), (2, .int .i64 thick), (24, .bool (((!y0) || (!y1)) || (!y2)))]) (H0 := []) rfl (⟨_, _, rfl, rfl, ⟨_, _, rfl, rfl, ⟨_, _, rfl, rfl, ⟨_, _, rfl, rfl, rfl⟩⟩⟩⟩) (rfl) rfl ?_
 refine V.cond rfl (fun hc0 => ?_) (fun hc0 => ?_)
 ·
  replace hm0 := cond_t hc0 hm0
  refine V.seq ?_
  refine V.region ?_
  refine VO.cons rfl (V1.assign rfl rfl rfl (ltb rfl) ?_)
  refine VO.cons rfl (V1.assign rfl rfl rfl (ltb rfl) ?_)
  refine VO.nil ?_
  refine V.ret ?_
  obtain rfl := Option.some.inj hm0
  exact ⟨_, [], ⟨_, _, rfl, rfl, ⟨_, _, rfl, rfl, rfl⟩⟩, List.nil_sublist _, rfl, rfl⟩
 ·
  replace hm0 := cond_f hc0 hm0
  refine V.skip ?_
  refine V.seq ?_
  refine V.region ?_
  refine VO.cons rfl (V1.assign rfl rfl rfl (ltb rfl) ?_)
  refine VO.cons rfl (V1.assign rfl rfl rfl (ltb rfl) ?_)
  refine VO.nil ?_
  refine V.seq ?_
  refine V.seq ?_
  refine V.region ?_
  refine VO.cons rfl (V1.assign rfl rfl rfl (ltb rfl) ?_)
  refine VO.nil ?_
  replace hm0 := bindO hm0; rcases hm0 with ⟨e0, he1, hm0⟩
  refine V.cutT (D := (Int) × (Unit)) (fun ⟨best, _⟩ => ⟨47, [(8, .int .i64 best)], []⟩) (fun ⟨best, _⟩ => (best = e0)) ?_ ?_
  ·
   refine V.block ?_
   refine V.keep 47 [8, 9, 10, 0, 1, 2] [] (E0 := [(8, .int .i64 (0 : Int)), (9, .int .i64 (101 : Int)), (10, .int .i64 (1 : Int)), (0, .vl ρ0 5 (List.map (encCarton σ0) list)), (1, .int .i64 room), (2, .int .i64 thick)]) (H0 := []) rfl (⟨_, _, rfl, rfl, ⟨_, _, rfl, rfl, ⟨_, _, rfl, rfl, ⟨_, _, rfl, rfl, ⟨_, _, rfl, rfl, ⟨_, _, rfl, rfl, rfl⟩⟩⟩⟩⟩⟩) (rfl) rfl ?_
   refine V.loopE (D := Nat × (Int × Int × Int) × (Unit)) (fun ⟨n0, ⟨best0, least, shelf⟩, _⟩ => [(8, .int .i64 best0), (9, .int .i64 least), (10, .int .i64 shelf)]) (fun ⟨n0, ⟨best0, least, shelf⟩, _⟩ => []) (fun ⟨n0, ⟨best0, least, shelf⟩, _⟩ => loopO (M.impl_BestShelf_l0 list room thick) n0 (best0, least, shelf) = some e0) (fun ⟨n0, _, _⟩ => n0) (rounds, ((0 : Int), (101 : Int), (1 : Int)), ()) rfl he1 ?_
   rintro ⟨n0, ⟨best0, least, shelf⟩, _⟩ hP0
   obtain ⟨m0, y3, rfl, hm1, hl1, hr1⟩ := loop_head hP0
   unfold M.impl_BestShelf_l0 at hm1; dsimp only at hm1
   show V _ _ _ ⟨47, [(8, .int .i64 best0), (9, .int .i64 least), (10, .int .i64 shelf), (0, .vl ρ0 5 (List.map (encCarton σ0) list)), (1, .int .i64 room), (2, .int .i64 thick)], []⟩
   refine V.seq ?_
   refine V.seq ?_
   refine V.region ?_
   refine VO.cons rfl (V1.move rfl rfl rfl (ltb rfl) ?_)
   refine VO.cons rfl (V1.int rfl rfl rfl rfl rfl (ltb rfl) ?_)
   refine VO.nil ?_
   refine V.cond rfl (fun hc1 => ?_) (fun hc1 => ?_)
   ·
    replace hm1 := cond_t hc1 hm1
    refine V.skip ?_
    refine V.seq ?_
    replace hm1 := bindO hm1; rcases hm1 with ⟨j0, hm2, hm1⟩
    refine V.cutT (D := (Int × Int) × (Unit)) (fun ⟨⟨best1, least0⟩, _⟩ => ⟨47, [(8, .int .i64 best1), (9, .int .i64 least0), (0, .vl ρ0 5 (List.map (encCarton σ0) list)), (1, .int .i64 room), (2, .int .i64 thick), (10, .int .i64 shelf)], []⟩) (fun ⟨⟨best1, least0⟩, _⟩ => ((best1, least0) = j0)) ?_ ?_
    ·
     refine V.block ?_
     refine V.seq ?_
     replace hm2 := bindO hm2; rcases hm2 with ⟨y4, hh3, hm2⟩
     refine V.region ?_
     refine VO.cons rfl (V1.move rfl rfl rfl (ltb rfl) ?_)
     refine VO.cons rfl (V1.move rfl rfl rfl (ltb rfl) ?_)
     refine VO.cons rfl (V1.move rfl rfl rfl (ltb rfl) ?_)
     refine VO.cons rfl (V1.call rfl rfl rfl cok_79 rfl (ok_impl_freeOn hh3) rfl (ltb rfl) ?_)
     rintro _ _ ⟨rfl, rfl⟩
     refine VO.cons rfl (V1.move rfl rfl rfl (ltb rfl) ?_)
     refine VO.cons rfl (V1.int rfl rfl rfl rfl rfl (ltb rfl) ?_)
     refine VO.cons rfl (V1.assign rfl rfl rfl (ltb rfl) ?_)
     refine VO.nil ?_
     refine V.keep 47 [0, 1, 2, 8, 9, 10, 11] [] (E0 := [(0, .vl ρ0 5 (List.map (encCarton σ0) list)), (1, .int .i64 room), (2, .int .i64 thick), (8, .int .i64 best0), (9, .int .i64 least), (10, .int .i64 shelf), (11, .int .i64 (IntKind.i64.wrap (y4 - thick)))]) (H0 := []) rfl (⟨_, _, rfl, rfl, ⟨_, _, rfl, rfl, ⟨_, _, rfl, rfl, ⟨_, _, rfl, rfl, ⟨_, _, rfl, rfl, ⟨_, _, rfl, rfl, ⟨_, _, rfl, rfl, rfl⟩⟩⟩⟩⟩⟩⟩) (rfl) rfl ?_
     refine V.seq ?_
     refine V.region ?_
     refine VO.cons rfl (V1.move rfl rfl rfl (ltb rfl) ?_)
     refine VO.cons rfl (V1.int rfl rfl rfl rfl rfl (ltb rfl) ?_)
     refine VO.cons rfl (V1.move rfl rfl rfl (ltb rfl) ?_)
     apply VO.and (n := 3) rfl rfl rfl rfl rfl rfl (ltb rfl) (.none rfl)
     ·
      intro hg2
      refine VO.step (.some rfl rfl rfl) (V1.move rfl rfl rfl (ltb rfl) ?_)
      refine VO.step (.some rfl rfl rfl) (V1.move rfl rfl rfl (ltb rfl) ?_)
      refine VO.step (.some rfl rfl rfl) (V1.int rfl rfl rfl rfl rfl (ltb rfl) ?_)
      exact VO.nil ⟨rfl, rfl, rfl, rfl, .inr ⟨rfl, .inr ⟨rfl, .inr ⟨rfl, .inr ⟨rfl, .inl rfl⟩⟩⟩⟩⟩
     refine VO.nil ?_
     refine V.cond rfl (fun hc2 => ?_) (fun hc2 => ?_)
     ·
      replace hm2 := cond_t hc2 hm2
      refine V.region ?_
      refine VO.cons rfl (V1.move rfl rfl rfl (ltb rfl) ?_)
      refine VO.cons rfl (V1.move rfl rfl rfl (ltb rfl) ?_)
      refine VO.cons rfl (V1.assign rfl rfl rfl (ltb rfl) ?_)
      refine VO.cons rfl (V1.assign rfl rfl rfl (ltb rfl) ?_)
      refine VO.nil ?_
      exact ⟨((shelf, (IntKind.i64.wrap (y4 - thick))), ()), Option.some.inj hm2, Keeps.mk (ks := []) rfl ⟨rfl, rfl, rfl, rfl, rfl, rfl, trivial⟩ (rfl) rfl⟩
     ·
      replace hm2 := cond_f hc2 hm2
      refine V.skip ?_
      exact ⟨((best0, least), ()), Option.some.inj hm2, Keeps.mk (ks := []) rfl ⟨rfl, rfl, rfl, rfl, rfl, rfl, trivial⟩ (rfl) rfl⟩
    ·
     rintro ⟨⟨best1, least0⟩, _⟩ rfl
     try dsimp only at hm1
     refine V.region ?_
     refine VO.cons rfl (V1.move rfl rfl rfl (ltb rfl) ?_)
     refine VO.cons rfl (V1.int rfl rfl rfl rfl rfl (ltb rfl) ?_)
     refine VO.cons rfl (V1.assign rfl rfl rfl (ltb rfl) ?_)
     refine VO.nil ?_
     exact ⟨(m0, (best1, least0, (IntKind.i64.wrap (shelf + (1 : Int)))), ()), hl1 _ (Option.some.inj hm1).symm, Nat.lt_succ_self _, Keeps.mk (ks := []) rfl ⟨rfl, rfl, rfl, rfl, rfl, rfl, trivial⟩ (rfl) rfl⟩
   ·
    replace hm1 := cond_f hc1 hm1
    refine V.exit ?_
    obtain rfl := hr1 _ (Option.some.inj hm1).symm
    exact ⟨(best0, ()), rfl, Keeps.mk (ks := []) rfl ⟨rfl, trivial⟩ (rfl) rfl⟩
  ·
   rintro ⟨best, _⟩ rfl
   try dsimp only at hm0
   refine V.seq ?_
   refine V.region ?_
   refine VO.cons rfl (V1.move rfl rfl rfl (ltb rfl) ?_)
   refine VO.cons rfl (V1.move rfl rfl rfl (ltb rfl) ?_)
   refine VO.cons rfl (V1.int rfl rfl rfl rfl rfl (ltb rfl) ?_)
   refine VO.cons rfl (V1.assign rfl rfl rfl (ltb rfl) ?_)
   refine VO.cons rfl (V1.assign rfl rfl rfl (ltb rfl) ?_)
   refine VO.nil ?_
   refine V.ret ?_
   obtain rfl := Option.some.inj hm0
   exact ⟨_, [], ⟨_, _, rfl, rfl, ⟨_, _, rfl, rfl, rfl⟩⟩, List.nil_sublist _, rfl, rfl⟩

theorem ok_laws_eqIntS {ρ0 ρ1 rn : Nat} {a : List Int} {b_ : List Int} {r : Bool} (h : M.laws_eqIntS a b_ = some r) : Does Try.prog 34 [.vl ρ0 1 (List.map encInt a), .vl ρ1 1 (List.map encInt b_)] [] rn (fun x H => x = .bool r ∧ H = []) := by
 have hm0 := h; clear h; unfold M.laws_eqIntS at hm0
 try dsimp only at hm0
 refine Does.intro (N := 26) Try.func34 rfl rfl rfl rfl ?_
 intro w0 S0
 refine V.seq ?_
 refine V.region ?_
 refine VO.cons rfl (V1.assign rfl rfl rfl (ltb rfl) ?_)
 refine VO.nil ?_
 refine V.seq ?_
 refine V.seq ?_
 refine V.region ?_
 refine VO.cons rfl (V1.move rfl rfl rfl (ltb rfl) ?_)
 refine VO.cons rfl (V1.lenMap rfl rfl rfl rfl rfl rfl isl_22 (ltb rfl) ?_)
 refine VO.cons rfl (V1.move rfl rfl rfl (ltb rfl) ?_)
 refine VO.cons rfl (V1.lenMap rfl rfl rfl rfl rfl rfl isl_22 (ltb rfl) ?_)
 refine VO.cons rfl (V1.int rfl rfl rfl rfl rfl (ltb rfl) ?_)
 refine VO.nil ?_
 refine V.keep 26 [0, 1, 10] [] (E0 := [(0, .vl ρ0 1 (List.map encInt a)), (1, .vl ρ1 1 (List.map encInt b_)), (10, .bool ((a.length : Int) != (b_.length : Int)))]) (H0 := []) rfl (⟨_, _, rfl, rfl, ⟨_, _, rfl, rfl, ⟨_, _, rfl, rfl, rfl⟩⟩⟩) (rfl) rfl ?_
 refine V.cond rfl (fun hc0 => ?_) (fun hc0 => ?_)
 ·
  replace hm0 := cond_t hc0 hm0
  refine V.seq ?_
  refine V.region ?_
  refine VO.cons rfl (V1.assign rfl rfl rfl (ltb rfl) ?_)
  refine VO.nil ?_
  refine V.ret ?_
  obtain rfl := Option.some.inj hm0
  exact ⟨_, [], ⟨_, _, rfl, rfl, rfl⟩, List.nil_sublist _, rfl, rfl⟩
 ·
  replace hm0 := cond_f hc0 hm0
  refine V.skip ?_
  refine V.seq ?_
  refine V.seq ?_
  refine V.region ?_
  refine VO.cons rfl (V1.assign rfl rfl rfl (ltb rfl) ?_)
  refine VO.nil ?_
  replace hm0 := bindO hm0; rcases hm0 with ⟨e0, he1, hm0⟩
  refine V.cutT (D := (Unit) × (Unit)) (fun ⟨_, _⟩ => ⟨26, [], []⟩) (fun ⟨_, _⟩ => (.inl () = e0)) ?_ ?_
  ·
   refine V.block ?_
   refine V.keep 26 [5, 0, 1] [] (E0 := [(5, .int .i64 (0 : Int)), (0, .vl ρ0 1 (List.map encInt a)), (1, .vl ρ1 1 (List.map encInt b_))]) (H0 := []) rfl (⟨_, _, rfl, rfl, ⟨_, _, rfl, rfl, ⟨_, _, rfl, rfl, rfl⟩⟩⟩) (rfl) rfl ?_
   refine V.loopE (D := Nat × (Int) × (Unit)) (fun ⟨n0, i, _⟩ => [(5, .int .i64 i)]) (fun ⟨n0, i, _⟩ => []) (fun ⟨n0, i, _⟩ => loopO (M.laws_eqIntS_l0 a b_) n0 i = some e0) (fun ⟨n0, _, _⟩ => n0) (rounds, (0 : Int), ()) rfl he1 ?_
   rintro ⟨n0, i, _⟩ hP0
   obtain ⟨m0, y0, rfl, hm1, hl1, hr1⟩ := loop_head hP0
   unfold M.laws_eqIntS_l0 at hm1; dsimp only at hm1
   show V _ _ _ ⟨26, [(5, .int .i64 i), (0, .vl ρ0 1 (List.map encInt a)), (1, .vl ρ1 1 (List.map encInt b_))], []⟩
   refine V.seq ?_
   refine V.seq ?_
   refine V.region ?_
   refine VO.cons rfl (V1.move rfl rfl rfl (ltb rfl) ?_)
   refine VO.cons rfl (V1.move rfl rfl rfl (ltb rfl) ?_)
   refine VO.cons rfl (V1.lenMap rfl rfl rfl rfl rfl rfl isl_22 (ltb rfl) ?_)
   refine VO.cons rfl (V1.int rfl rfl rfl rfl rfl (ltb rfl) ?_)
   refine VO.nil ?_
   refine V.cond rfl (fun hc1 => ?_) (fun hc1 => ?_)
   ·
    replace hm1 := cond_t hc1 hm1
    refine V.skip ?_
    refine V.keep 26 [0, 1, 5] [] (E0 := [(0, .vl ρ0 1 (List.map encInt a)), (1, .vl ρ1 1 (List.map encInt b_)), (5, .int .i64 i)]) (H0 := []) rfl (⟨_, _, rfl, rfl, ⟨_, _, rfl, rfl, ⟨_, _, rfl, rfl, rfl⟩⟩⟩) (rfl) rfl ?_
    refine V.seq ?_
    refine V.block ?_
    refine V.seq ?_
    replace hm1 := asrt_some hm1; rcases hm1 with ⟨hh0, hm1⟩
    replace hm1 := asrt_some hm1; rcases hm1 with ⟨hh1, hm1⟩
    refine V.regionM 26 8 [⟨[(0, none)], [], none⟩, ⟨[(5, none)], [], none⟩, ⟨[(17, some 1), (18, some 0)], [], none⟩, ⟨[(19, some 0)], [], none⟩, ⟨[(1, none)], [], none⟩, ⟨[(5, none)], [], none⟩, ⟨[(21, some 1), (22, some 0)], [], none⟩, ⟨[(23, some 0)], [], none⟩] [(0, none), (1, none), (5, none), (20, some 4), (24, some 0)] (⟨_, rfl, ⟨_, rfl, ⟨_, rfl, ⟨_, rfl, ⟨_, rfl, ⟨_, rfl, ⟨_, rfl, ⟨_, rfl, ⟨rfl, rfl⟩⟩⟩⟩⟩⟩⟩⟩⟩) mixed_orders rfl (by decide +kernel) (fun hck6 => ?_)
    refine VP.step (p := ?pv41) rfl rfl rfl (⟨_, _, rfl, rfl, rfl⟩) ?hv41 ?rest41 hck6
    case hv41 =>
     intro E1
     refine (V1.move rfl rfl rfl (ltb rfl) ?_)
     exact rfl
    refine VP.step (p := ?pv42) rfl rfl rfl (⟨_, _, rfl, rfl, rfl⟩) ?hv42 ?rest42 hck6
    case hv42 =>
     intro E1
     refine (V1.move rfl rfl rfl (ltb rfl) ?_)
     exact rfl
    refine VP.step (p := ?pv43) rfl rfl rfl (⟨_, _, rfl, rfl, ⟨_, _, rfl, rfl, rfl⟩⟩) ?hv43 ?rest43 hck6
    case hv43 =>
     intro E1
     refine (V1.indexI rfl rfl esz_22 rfl rfl hh0 (ltb rfl) ?_)
     exact rfl
    refine VP.step (p := ?pv44) rfl rfl rfl (⟨_, _, rfl, rfl, rfl⟩) ?hv44 ?rest44 hck6
    case hv44 =>
     intro E1
     refine (V1.loadPin rfl rfl tyk_3 rfl rfl (ltb rfl) ?_)
     exact rfl
    refine VP.step (p := ?pv45) rfl rfl rfl (⟨_, _, rfl, rfl, rfl⟩) ?hv45 ?rest45 hck6
    case hv45 =>
     intro E1
     refine (V1.move rfl rfl rfl (ltb rfl) ?_)
     exact rfl
    refine VP.step (p := ?pv46) rfl rfl rfl (⟨_, _, rfl, rfl, rfl⟩) ?hv46 ?rest46 hck6
    case hv46 =>
     intro E1
     refine (V1.move rfl rfl rfl (ltb rfl) ?_)
     exact rfl
    refine VP.step (p := ?pv47) rfl rfl rfl (⟨_, _, rfl, rfl, ⟨_, _, rfl, rfl, rfl⟩⟩) ?hv47 ?rest47 hck6
    case hv47 =>
     intro E1
     refine (V1.indexI rfl rfl esz_22 rfl rfl hh1 (ltb rfl) ?_)
     exact rfl
    refine VP.step (p := ?pv48) rfl rfl rfl (⟨_, _, rfl, rfl, rfl⟩) ?hv48 ?rest48 hck6
    case hv48 =>
     intro E1
     refine (V1.loadPin rfl rfl tyk_3 rfl rfl (ltb rfl) ?_)
     exact rfl
    refine VP.fin rfl (⟨_, _, rfl, rfl, ⟨_, _, rfl, rfl, ⟨_, _, rfl, rfl, ⟨_, _, rfl, rfl, ⟨_, _, rfl, rfl, rfl⟩⟩⟩⟩⟩) ?_
    refine VO.cons rfl (V1.int rfl rfl rfl rfl rfl (ltb rfl) ?_)
    refine VO.nil ?_
    refine V.cond rfl (fun hc2 => ?_) (fun hc2 => ?_)
    ·
     replace hm1 := cond_t hc2 hm1
     refine V.seq ?_
     refine V.region ?_
     refine VO.cons rfl (V1.assign rfl rfl rfl (ltb rfl) ?_)
     refine VO.nil ?_
     refine V.ret ?_
     obtain rfl := hr1 _ (Option.some.inj hm1).symm
     change some _ = some _ at hm0
     obtain rfl := Option.some.inj hm0
     exact ⟨_, [], ⟨_, _, rfl, rfl, rfl⟩, List.nil_sublist _, rfl, rfl⟩
    ·
     replace hm1 := cond_f hc2 hm1
     refine V.skip ?_
     refine V.region ?_
     refine VO.cons rfl (V1.move rfl rfl rfl (ltb rfl) ?_)
     refine VO.cons rfl (V1.int rfl rfl rfl rfl rfl (ltb rfl) ?_)
     refine VO.cons rfl (V1.assign rfl rfl rfl (ltb rfl) ?_)
     refine VO.nil ?_
     exact ⟨(m0, (IntKind.i64.wrap (i + (1 : Int))), ()), hl1 _ (Option.some.inj hm1).symm, Nat.lt_succ_self _, Keeps.mk (ks := []) rfl ⟨rfl, rfl, rfl, trivial⟩ (rfl) rfl⟩
   ·
    replace hm1 := cond_f hc1 hm1
    refine V.exit ?_
    obtain rfl := hr1 _ (Option.some.inj hm1).symm
    exact ⟨((), ()), rfl, Keeps.mk (ks := []) rfl trivial (rfl) rfl⟩
  ·
   rintro ⟨_, _⟩ rfl
   try dsimp only at hm0
   refine V.seq ?_
   refine V.region ?_
   refine VO.cons rfl (V1.assign rfl rfl rfl (ltb rfl) ?_)
   refine VO.nil ?_
   refine V.ret ?_
   obtain rfl := Option.some.inj hm0
   exact ⟨_, [], ⟨_, _, rfl, rfl, rfl⟩, List.nil_sublist _, rfl, rfl⟩

theorem ok_laws_eqCarton {ρ0 ρ1 rn : Nat} {a : Carton} {b_ : Carton} {r : Bool} (h : M.laws_eqCarton a b_ = some r) : Does Try.prog 20 [encCarton ρ0 a, encCarton ρ1 b_] [] rn (fun x H => x = .bool r ∧ H = []) := by
 have hm0 := h; clear h; unfold M.laws_eqCarton at hm0
 try dsimp only at hm0
 refine Does.intro (N := 31) Try.func20 rfl rfl rfl rfl ?_
 intro w0 S0
 refine V.seq ?_
 refine V.region ?_
 refine VO.cons rfl (V1.boxN (n := 5) rfl rfl rfl rfl rfl (ltb rfl) ?_)
 intro b0
 refine VO.cons rfl (V1.boxN (n := 5) rfl rfl rfl rfl rfl (ltb rfl) ?_)
 intro b1
 refine VO.cons rfl (V1.assign rfl rfl rfl (ltb rfl) ?_)
 refine VO.nil ?_
 refine V.seq ?_
 refine V.seq ?_
 refine V.region ?_
 refine VO.cons rfl (V1.fieldRef rfl rfl fo_27_0 rfl (ltb rfl) ?_)
 refine VO.cons rfl (V1.loadRef (k := 1) rfl rfl tyk_3 rfl rfl rfl rfl rfl (ltb rfl) ?_)
 refine VO.cons rfl (V1.fieldRef rfl rfl fo_27_0 rfl (ltb rfl) ?_)
 refine VO.cons rfl (V1.loadRef (k := 0) rfl rfl tyk_3 rfl rfl rfl rfl rfl (ltb rfl) ?_)
 refine VO.cons rfl (V1.int rfl rfl rfl rfl rfl (ltb rfl) ?_)
 refine VO.nil ?_
 refine V.keep 31 [2, 3, 9] [0, 1] (E0 := [(2, .ref b0 5 0 0), (3, .ref b1 5 0 0), (9, .bool (a.Id != b_.Id))]) (H0 := [(b1, ⟨5, [encCarton ρ1 b_]⟩), (b0, ⟨5, [encCarton ρ0 a]⟩)]) rfl (⟨_, _, rfl, rfl, ⟨_, _, rfl, rfl, ⟨_, _, rfl, rfl, rfl⟩⟩⟩) (⟨_, _, rfl, rfl, ⟨_, _, rfl, rfl, rfl⟩⟩) rfl ?_
 refine V.cond rfl (fun hc0 => ?_) (fun hc0 => ?_)
 ·
  replace hm0 := cond_t hc0 hm0
  refine V.seq ?_
  refine V.region ?_
  refine VO.cons rfl (V1.assign rfl rfl rfl (ltb rfl) ?_)
  refine VO.nil ?_
  refine V.ret ?_
  obtain rfl := Option.some.inj hm0
  exact ⟨_, [], ⟨_, _, rfl, rfl, rfl⟩, List.nil_sublist _, rfl, rfl⟩
 ·
  replace hm0 := cond_f hc0 hm0
  refine V.skip ?_
  refine V.seq ?_
  refine V.seq ?_
  refine V.region ?_
  refine VO.cons rfl (V1.fieldRef rfl rfl fo_27_1 rfl (ltb rfl) ?_)
  refine VO.cons rfl (V1.loadRef (k := 1) rfl rfl tyk_3 rfl rfl rfl rfl rfl (ltb rfl) ?_)
  refine VO.cons rfl (V1.fieldRef rfl rfl fo_27_1 rfl (ltb rfl) ?_)
  refine VO.cons rfl (V1.loadRef (k := 0) rfl rfl tyk_3 rfl rfl rfl rfl rfl (ltb rfl) ?_)
  refine VO.cons rfl (V1.int rfl rfl rfl rfl rfl (ltb rfl) ?_)
  refine VO.nil ?_
  refine V.keep 31 [2, 3, 14] [0, 1] (E0 := [(2, .ref b0 5 0 0), (3, .ref b1 5 0 0), (14, .bool (a.Shelf != b_.Shelf))]) (H0 := [(b1, ⟨5, [encCarton ρ1 b_]⟩), (b0, ⟨5, [encCarton ρ0 a]⟩)]) rfl (⟨_, _, rfl, rfl, ⟨_, _, rfl, rfl, ⟨_, _, rfl, rfl, rfl⟩⟩⟩) (⟨_, _, rfl, rfl, ⟨_, _, rfl, rfl, rfl⟩⟩) rfl ?_
  refine V.cond rfl (fun hc1 => ?_) (fun hc1 => ?_)
  ·
   replace hm0 := cond_t hc1 hm0
   refine V.seq ?_
   refine V.region ?_
   refine VO.cons rfl (V1.assign rfl rfl rfl (ltb rfl) ?_)
   refine VO.nil ?_
   refine V.ret ?_
   obtain rfl := Option.some.inj hm0
   exact ⟨_, [], ⟨_, _, rfl, rfl, rfl⟩, List.nil_sublist _, rfl, rfl⟩
  ·
   replace hm0 := cond_f hc1 hm0
   refine V.skip ?_
   refine V.seq ?_
   refine V.seq ?_
   refine V.region ?_
   refine VO.cons rfl (V1.fieldRef rfl rfl fo_27_2 rfl (ltb rfl) ?_)
   refine VO.cons rfl (V1.loadRef (k := 1) rfl rfl tyk_3 rfl rfl rfl rfl rfl (ltb rfl) ?_)
   refine VO.cons rfl (V1.fieldRef rfl rfl fo_27_2 rfl (ltb rfl) ?_)
   refine VO.cons rfl (V1.loadRef (k := 0) rfl rfl tyk_3 rfl rfl rfl rfl rfl (ltb rfl) ?_)
   refine VO.cons rfl (V1.int rfl rfl rfl rfl rfl (ltb rfl) ?_)
   refine VO.nil ?_
   refine V.keep 31 [2, 3, 19] [0, 1] (E0 := [(2, .ref b0 5 0 0), (3, .ref b1 5 0 0), (19, .bool (a.Room != b_.Room))]) (H0 := [(b1, ⟨5, [encCarton ρ1 b_]⟩), (b0, ⟨5, [encCarton ρ0 a]⟩)]) rfl (⟨_, _, rfl, rfl, ⟨_, _, rfl, rfl, ⟨_, _, rfl, rfl, rfl⟩⟩⟩) (⟨_, _, rfl, rfl, ⟨_, _, rfl, rfl, rfl⟩⟩) rfl ?_
   refine V.cond rfl (fun hc2 => ?_) (fun hc2 => ?_)
   ·
    replace hm0 := cond_t hc2 hm0
    refine V.seq ?_
    refine V.region ?_
    refine VO.cons rfl (V1.assign rfl rfl rfl (ltb rfl) ?_)
    refine VO.nil ?_
    refine V.ret ?_
    obtain rfl := Option.some.inj hm0
    exact ⟨_, [], ⟨_, _, rfl, rfl, rfl⟩, List.nil_sublist _, rfl, rfl⟩
   ·
    replace hm0 := cond_f hc2 hm0
    refine V.skip ?_
    refine V.seq ?_
    refine V.seq ?_
    replace hm0 := bindO hm0; rcases hm0 with ⟨y0, hh0, hm0⟩
    refine V.region ?_
    refine VO.cons rfl (V1.fieldRef rfl rfl fo_27_3 rfl (ltb rfl) ?_)
    refine VO.cons rfl (V1.loadRef (k := 1) rfl rfl tyk_22 rfl rfl rfl rfl rfl (ltb rfl) ?_)
    refine VO.cons rfl (V1.fieldRef rfl rfl fo_27_3 rfl (ltb rfl) ?_)
    refine VO.cons rfl (V1.loadRef (k := 0) rfl rfl tyk_22 rfl rfl rfl rfl rfl (ltb rfl) ?_)
    refine VO.cons rfl (V1.call rfl rfl rfl cok_34 rfl (ok_laws_eqIntS hh0) rfl (ltb rfl) ?_)
    rintro _ _ ⟨rfl, rfl⟩
    refine VO.cons rfl (V1.not rfl rfl rfl (ltb rfl) ?_)
    refine VO.nil ?_
    refine V.keep 31 [2, 3, 25] [0, 1] (E0 := [(2, .ref b0 5 0 0), (3, .ref b1 5 0 0), (25, .bool (!y0))]) (H0 := [(b1, ⟨5, [encCarton ρ1 b_]⟩), (b0, ⟨5, [encCarton ρ0 a]⟩)]) rfl (⟨_, _, rfl, rfl, ⟨_, _, rfl, rfl, ⟨_, _, rfl, rfl, rfl⟩⟩⟩) (⟨_, _, rfl, rfl, ⟨_, _, rfl, rfl, rfl⟩⟩) rfl ?_
    refine V.cond rfl (fun hc3 => ?_) (fun hc3 => ?_)
    ·
     replace hm0 := cond_t hc3 hm0
     refine V.seq ?_
     refine V.region ?_
     refine VO.cons rfl (V1.assign rfl rfl rfl (ltb rfl) ?_)
     refine VO.nil ?_
     refine V.ret ?_
     obtain rfl := Option.some.inj hm0
     exact ⟨_, [], ⟨_, _, rfl, rfl, rfl⟩, List.nil_sublist _, rfl, rfl⟩
    ·
     replace hm0 := cond_f hc3 hm0
     refine V.skip ?_
     refine V.seq ?_
     refine V.seq ?_
     refine V.region ?_
     refine VO.cons rfl (V1.fieldRef rfl rfl fo_27_4 rfl (ltb rfl) ?_)
     refine VO.cons rfl (V1.loadRef (k := 1) rfl rfl tyk_3 rfl rfl rfl rfl rfl (ltb rfl) ?_)
     refine VO.cons rfl (V1.fieldRef rfl rfl fo_27_4 rfl (ltb rfl) ?_)
     refine VO.cons rfl (V1.loadRef (k := 0) rfl rfl tyk_3 rfl rfl rfl rfl rfl (ltb rfl) ?_)
     refine VO.cons rfl (V1.int rfl rfl rfl rfl rfl (ltb rfl) ?_)
     refine VO.nil ?_
     refine V.keep 31 [30] [] (E0 := [(30, .bool (a.Thick != b_.Thick))]) (H0 := []) rfl (⟨_, _, rfl, rfl, rfl⟩) (rfl) rfl ?_
     refine V.cond rfl (fun hc4 => ?_) (fun hc4 => ?_)
     ·
      replace hm0 := cond_t hc4 hm0
      refine V.seq ?_
      refine V.region ?_
      refine VO.cons rfl (V1.assign rfl rfl rfl (ltb rfl) ?_)
      refine VO.nil ?_
      refine V.ret ?_
      obtain rfl := Option.some.inj hm0
      exact ⟨_, [], ⟨_, _, rfl, rfl, rfl⟩, List.nil_sublist _, rfl, rfl⟩
     ·
      replace hm0 := cond_f hc4 hm0
      refine V.skip ?_
      refine V.seq ?_
      refine V.region ?_
      refine VO.cons rfl (V1.assign rfl rfl rfl (ltb rfl) ?_)
      refine VO.nil ?_
      refine V.ret ?_
      obtain rfl := Option.some.inj hm0
      exact ⟨_, [], ⟨_, _, rfl, rfl, rfl⟩, List.nil_sublist _, rfl, rfl⟩

theorem ok_laws_eqCartonS {ρ0 σ0 ρ1 σ1 rn : Nat} {a : List Carton} {b_ : List Carton} {r : Bool} (h : M.laws_eqCartonS a b_ = some r) : Does Try.prog 25 [.vl ρ0 5 (List.map (encCarton σ0) a), .vl ρ1 5 (List.map (encCarton σ1) b_)] [] rn (fun x H => x = .bool r ∧ H = []) := by
 have hm0 := h; clear h; unfold M.laws_eqCartonS at hm0
 try dsimp only at hm0
 refine Does.intro (N := 27) Try.func25 rfl rfl rfl rfl ?_
 intro w0 S0
 refine V.seq ?_
 refine V.region ?_
 refine VO.cons rfl (V1.assign rfl rfl rfl (ltb rfl) ?_)
 refine VO.nil ?_
 refine V.seq ?_
 refine V.seq ?_
 refine V.region ?_
 refine VO.cons rfl (V1.move rfl rfl rfl (ltb rfl) ?_)
 refine VO.cons rfl (V1.lenMap rfl rfl rfl rfl rfl rfl isl_34 (ltb rfl) ?_)
 refine VO.cons rfl (V1.move rfl rfl rfl (ltb rfl) ?_)
 refine VO.cons rfl (V1.lenMap rfl rfl rfl rfl rfl rfl isl_34 (ltb rfl) ?_)
 refine VO.cons rfl (V1.int rfl rfl rfl rfl rfl (ltb rfl) ?_)
 refine VO.nil ?_
 refine V.keep 27 [0, 1, 10] [] (E0 := [(0, .vl ρ0 5 (List.map (encCarton σ0) a)), (1, .vl ρ1 5 (List.map (encCarton σ1) b_)), (10, .bool ((a.length : Int) != (b_.length : Int)))]) (H0 := []) rfl (⟨_, _, rfl, rfl, ⟨_, _, rfl, rfl, ⟨_, _, rfl, rfl, rfl⟩⟩⟩) (rfl) rfl ?_
 refine V.cond rfl (fun hc0 => ?_) (fun hc0 => ?_)
 ·
  replace hm0 := cond_t hc0 hm0
  refine V.seq ?_
  refine V.region ?_
  refine VO.cons rfl (V1.assign rfl rfl rfl (ltb rfl) ?_)
  refine VO.nil ?_
  refine V.ret ?_
  obtain rfl := Option.some.inj hm0
  exact ⟨_, [], ⟨_, _, rfl, rfl, rfl⟩, List.nil_sublist _, rfl, rfl⟩
 ·
  replace hm0 := cond_f hc0 hm0
  refine V.skip ?_
  refine V.seq ?_
  refine V.seq ?_
  refine V.region ?_
  refine VO.cons rfl (V1.assign rfl rfl rfl (ltb rfl) ?_)
  refine VO.nil ?_
  replace hm0 := bindO hm0; rcases hm0 with ⟨e0, he1, hm0⟩
  refine V.cutT (D := (Unit) × (Unit)) (fun ⟨_, _⟩ => ⟨27, [], []⟩) (fun ⟨_, _⟩ => (.inl () = e0)) ?_ ?_
  ·
   refine V.block ?_
   refine V.keep 27 [5, 0, 1] [] (E0 := [(5, .int .i64 (0 : Int)), (0, .vl ρ0 5 (List.map (encCarton σ0) a)), (1, .vl ρ1 5 (List.map (encCarton σ1) b_))]) (H0 := []) rfl (⟨_, _, rfl, rfl, ⟨_, _, rfl, rfl, ⟨_, _, rfl, rfl, rfl⟩⟩⟩) (rfl) rfl ?_
   refine V.loopE (D := Nat × (Int) × (Unit)) (fun ⟨n0, i, _⟩ => [(5, .int .i64 i)]) (fun ⟨n0, i, _⟩ => []) (fun ⟨n0, i, _⟩ => loopO (M.laws_eqCartonS_l0 a b_) n0 i = some e0) (fun ⟨n0, _, _⟩ => n0) (rounds, (0 : Int), ()) rfl he1 ?_
   rintro ⟨n0, i, _⟩ hP0
   obtain ⟨m0, y0, rfl, hm1, hl1, hr1⟩ := loop_head hP0
   unfold M.laws_eqCartonS_l0 at hm1; dsimp only at hm1
   show V _ _ _ ⟨27, [(5, .int .i64 i), (0, .vl ρ0 5 (List.map (encCarton σ0) a)), (1, .vl ρ1 5 (List.map (encCarton σ1) b_))], []⟩
   refine V.seq ?_
   refine V.seq ?_
   refine V.region ?_
   refine VO.cons rfl (V1.move rfl rfl rfl (ltb rfl) ?_)
   refine VO.cons rfl (V1.move rfl rfl rfl (ltb rfl) ?_)
   refine VO.cons rfl (V1.lenMap rfl rfl rfl rfl rfl rfl isl_34 (ltb rfl) ?_)
   refine VO.cons rfl (V1.int rfl rfl rfl rfl rfl (ltb rfl) ?_)
   refine VO.nil ?_
   refine V.cond rfl (fun hc1 => ?_) (fun hc1 => ?_)
   ·
    replace hm1 := cond_t hc1 hm1
    refine V.skip ?_
    refine V.keep 27 [0, 1, 5] [] (E0 := [(0, .vl ρ0 5 (List.map (encCarton σ0) a)), (1, .vl ρ1 5 (List.map (encCarton σ1) b_)), (5, .int .i64 i)]) (H0 := []) rfl (⟨_, _, rfl, rfl, ⟨_, _, rfl, rfl, ⟨_, _, rfl, rfl, rfl⟩⟩⟩) (rfl) rfl ?_
    refine V.seq ?_
    refine V.block ?_
    refine V.seq ?_
    replace hm1 := asrt_some hm1; rcases hm1 with ⟨hh0, hm1⟩
    replace hm1 := asrt_some hm1; rcases hm1 with ⟨hh1, hm1⟩
    replace hm1 := bindO hm1; rcases hm1 with ⟨y1, hh2, hm1⟩
    refine V.regionM 27 8 [⟨[(0, none)], [], none⟩, ⟨[(5, none)], [], none⟩, ⟨[(17, some 1), (18, some 0)], [], none⟩, ⟨[(19, some 0)], [], none⟩, ⟨[(1, none)], [], none⟩, ⟨[(5, none)], [], none⟩, ⟨[(21, some 1), (22, some 0)], [], none⟩, ⟨[(23, some 0)], [], none⟩] [(0, none), (1, none), (5, none), (20, some 4), (24, some 0)] (⟨_, rfl, ⟨_, rfl, ⟨_, rfl, ⟨_, rfl, ⟨_, rfl, ⟨_, rfl, ⟨_, rfl, ⟨_, rfl, ⟨rfl, rfl⟩⟩⟩⟩⟩⟩⟩⟩⟩) mixed_orders rfl (by decide +kernel) (fun hck6 => ?_)
    refine VP.step (p := ?pv41) rfl rfl rfl (⟨_, _, rfl, rfl, rfl⟩) ?hv41 ?rest41 hck6
    case hv41 =>
     intro E1
     refine (V1.move rfl rfl rfl (ltb rfl) ?_)
     exact rfl
    refine VP.step (p := ?pv42) rfl rfl rfl (⟨_, _, rfl, rfl, rfl⟩) ?hv42 ?rest42 hck6
    case hv42 =>
     intro E1
     refine (V1.move rfl rfl rfl (ltb rfl) ?_)
     exact rfl
    refine VP.step (p := ?pv43) rfl rfl rfl (⟨_, _, rfl, rfl, ⟨_, _, rfl, rfl, rfl⟩⟩) ?hv43 ?rest43 hck6
    case hv43 =>
     intro E1
     refine (V1.indexI rfl rfl esz_34 rfl rfl hh0 (ltb rfl) ?_)
     exact rfl
    refine VP.step (p := ?pv44) rfl rfl rfl (⟨_, _, rfl, rfl, rfl⟩) ?hv44 ?rest44 hck6
    case hv44 =>
     intro E1
     refine (V1.loadPinAll rfl rfl tyk_27 rfl rfl (ltb rfl) ?_)
     exact rfl
    refine VP.step (p := ?pv45) rfl rfl rfl (⟨_, _, rfl, rfl, rfl⟩) ?hv45 ?rest45 hck6
    case hv45 =>
     intro E1
     refine (V1.move rfl rfl rfl (ltb rfl) ?_)
     exact rfl
    refine VP.step (p := ?pv46) rfl rfl rfl (⟨_, _, rfl, rfl, rfl⟩) ?hv46 ?rest46 hck6
    case hv46 =>
     intro E1
     refine (V1.move rfl rfl rfl (ltb rfl) ?_)
     exact rfl
    refine VP.step (p := ?pv47) rfl rfl rfl (⟨_, _, rfl, rfl, ⟨_, _, rfl, rfl, rfl⟩⟩) ?hv47 ?rest47 hck6
    case hv47 =>
     intro E1
     refine (V1.indexI rfl rfl esz_34 rfl rfl hh1 (ltb rfl) ?_)
     exact rfl
    refine VP.step (p := ?pv48) rfl rfl rfl (⟨_, _, rfl, rfl, rfl⟩) ?hv48 ?rest48 hck6
    case hv48 =>
     intro E1
     refine (V1.loadPinAll rfl rfl tyk_27 rfl rfl (ltb rfl) ?_)
     exact rfl
    refine VP.fin rfl (⟨_, _, rfl, rfl, ⟨_, _, rfl, rfl, ⟨_, _, rfl, rfl, ⟨_, _, rfl, rfl, ⟨_, _, rfl, rfl, rfl⟩⟩⟩⟩⟩) ?_
    refine VO.cons rfl (V1.call rfl rfl rfl cok_20 rfl (ok_laws_eqCarton hh2) rfl (ltb rfl) ?_)
    rintro _ _ ⟨rfl, rfl⟩
    refine VO.cons rfl (V1.not rfl rfl rfl (ltb rfl) ?_)
    refine VO.nil ?_
    refine V.cond rfl (fun hc2 => ?_) (fun hc2 => ?_)
    ·
     replace hm1 := cond_t hc2 hm1
     refine V.seq ?_
     refine V.region ?_
     refine VO.cons rfl (V1.assign rfl rfl rfl (ltb rfl) ?_)
     refine VO.nil ?_
     refine V.ret ?_
     obtain rfl := hr1 _ (Option.some.inj hm1).symm
     change some _ = some _ at hm0
     obtain rfl := Option.some.inj hm0
     exact ⟨_, [], ⟨_, _, rfl, rfl, rfl⟩, List.nil_sublist _, rfl, rfl⟩
    ·
     replace hm1 := cond_f hc2 hm1
     refine V.skip ?_
     refine V.keep 27 [0, 1, 5] [] (E0 := [(0, .vl ρ0 5 (List.map (encCarton σ0) a)), (1, .vl ρ1 5 (List.map (encCarton σ1) b_)), (5, .int .i64 i)]) (H0 := []) rfl (⟨_, _, rfl, rfl, ⟨_, _, rfl, rfl, ⟨_, _, rfl, rfl, rfl⟩⟩⟩) (rfl) rfl ?_
     refine V.region ?_
     refine VO.cons rfl (V1.move rfl rfl rfl (ltb rfl) ?_)
     refine VO.cons rfl (V1.int rfl rfl rfl rfl rfl (ltb rfl) ?_)
     refine VO.cons rfl (V1.assign rfl rfl rfl (ltb rfl) ?_)
     refine VO.nil ?_
     exact ⟨(m0, (IntKind.i64.wrap (i + (1 : Int))), ()), hl1 _ (Option.some.inj hm1).symm, Nat.lt_succ_self _, Keeps.mk (ks := []) rfl ⟨rfl, rfl, rfl, trivial⟩ (rfl) rfl⟩
   ·
    replace hm1 := cond_f hc1 hm1
    refine V.exit ?_
    obtain rfl := hr1 _ (Option.some.inj hm1).symm
    exact ⟨((), ()), rfl, Keeps.mk (ks := []) rfl trivial (rfl) rfl⟩
  ·
   rintro ⟨_, _⟩ rfl
   try dsimp only at hm0
   refine V.seq ?_
   refine V.region ?_
   refine VO.cons rfl (V1.assign rfl rfl rfl (ltb rfl) ?_)
   refine VO.nil ?_
   refine V.ret ?_
   obtain rfl := Option.some.inj hm0
   exact ⟨_, [], ⟨_, _, rfl, rfl, rfl⟩, List.nil_sublist _, rfl, rfl⟩

theorem ok_laws_FnExactBestShelf {ρ0 σ0 rn : Nat} {aList : List Carton} {aRoom : Int} {aThick : Int} {r : Bool} (h : M.laws_FnExactBestShelf aList aRoom aThick = some r) : Does Try.prog 7 [.vl ρ0 5 (List.map (encCarton σ0) aList), .int .i64 aRoom, .int .i64 aThick] [] rn (fun x H => x = .bool r ∧ H = []) := by
 have hm0 := h; clear h; unfold M.laws_FnExactBestShelf at hm0
 try dsimp only at hm0
 refine Does.intro (N := 48) Try.func7 rfl rfl rfl rfl ?_
 intro w0 S0
 refine V.seq ?_
 refine V.region ?_
 refine VO.cons rfl (V1.assign rfl rfl rfl (ltb rfl) ?_)
 refine VO.nil ?_
 refine V.seq ?_
 refine V.region ?_
 refine VO.cons rfl (V1.assign rfl rfl rfl (ltb rfl) ?_)
 refine VO.nil ?_
 refine V.seq ?_
 replace hm0 := bindO hm0; rcases hm0 with ⟨y0, hh0, hm0⟩
 refine V.region ?_
 refine VO.cons rfl (V1.move rfl rfl rfl (ltb rfl) ?_)
 refine VO.cons rfl (V1.move rfl rfl rfl (ltb rfl) ?_)
 refine VO.cons rfl (V1.call rfl rfl rfl cok_21 rfl (ok_laws_szCartonS hh0) rfl (ltb rfl) ?_)
 rintro _ _ ⟨rfl, rfl⟩
 refine VO.cons rfl (V1.assign rfl rfl rfl (ltb rfl) ?_)
 refine VO.nil ?_
 refine V.keep 48 [0, 1, 2, 7] [] (E0 := [(0, .vl ρ0 5 (List.map (encCarton σ0) aList)), (1, .int .i64 aRoom), (2, .int .i64 aThick), (7, .int .i64 y0)]) (H0 := []) rfl (⟨_, _, rfl, rfl, ⟨_, _, rfl, rfl, ⟨_, _, rfl, rfl, ⟨_, _, rfl, rfl, rfl⟩⟩⟩⟩) (rfl) rfl ?_
 refine V.seq ?_
 refine V.seq ?_
 refine V.region ?_
 refine VO.cons rfl (V1.move rfl rfl rfl (ltb rfl) ?_)
 refine VO.cons rfl (V1.int rfl rfl rfl rfl rfl (ltb rfl) ?_)
 refine VO.nil ?_
 refine V.cond rfl (fun hc0 => ?_) (fun hc0 => ?_)
 ·
  replace hm0 := cond_t hc0 hm0
  refine V.seq ?_
  refine V.region ?_
  refine VO.cons rfl (V1.assign rfl rfl rfl (ltb rfl) ?_)
  refine VO.nil ?_
  refine V.ret ?_
  obtain rfl := Option.some.inj hm0
  exact ⟨_, [], ⟨_, _, rfl, rfl, rfl⟩, List.nil_sublist _, rfl, rfl⟩
 ·
  replace hm0 := cond_f hc0 hm0
  refine V.skip ?_
  refine V.seq ?_
  replace hm0 := bindO hm0; rcases hm0 with ⟨y1, hh1, hm0⟩
  replace hm0 := bindO hm0; rcases hm0 with ⟨y2, hh2, hm0⟩
  refine V.region ?_
  refine VO.cons rfl (V1.move rfl rfl rfl (ltb rfl) ?_)
  refine VO.cons rfl (V1.call rfl rfl rfl cok_23 rfl (ok_laws_toCartonS hh1) rfl (ltb rfl) ?_)
  rintro _ _ ⟨ob0, hob0, rfl, rfl⟩
  refine VO.weakenK (Keeps.optVl 20 [] rn (f := (encCarton rn)) (l := y1) (ob := ob0) (H1 := []) hob0 rfl rfl ⟨rfl, trivial⟩ (fun _ => rfl) rfl iNil) ?_
  refine VO.cons rfl (V1.move rfl rfl rfl (ltb rfl) ?_)
  refine VO.cons rfl (V1.move rfl rfl rfl (ltb rfl) ?_)
  refine VO.cons rfl (V1.call rfl rfl rfl cok_30 rfl (ok_spec_BestShelf hh2) rfl (ltb rfl) ?_)
  rintro _ _ ⟨rfl, rfl⟩
  refine VO.cons rfl (V1.move rfl rfl rfl (ltb rfl) ?_)
  refine VO.cons rfl (V1.extract rfl rfl rfl rfl (ltb rfl) ?_)
  refine VO.cons rfl (V1.extract rfl rfl rfl rfl (ltb rfl) ?_)
  refine VO.cons rfl (V1.assign rfl rfl rfl (ltb rfl) ?_)
  refine VO.cons rfl (V1.assign rfl rfl rfl (ltb rfl) ?_)
  refine VO.nil ?_
  refine V.keep 48 [0, 1, 2, 8, 9] [] (E0 := [(0, .vl ρ0 5 (List.map (encCarton σ0) aList)), (1, .int .i64 aRoom), (2, .int .i64 aThick), (8, .int .i64 y2.1), (9, .bool y2.2)]) (H0 := []) rfl (⟨_, _, rfl, rfl, ⟨_, _, rfl, rfl, ⟨_, _, rfl, rfl, ⟨_, _, rfl, rfl, ⟨_, _, rfl, rfl, rfl⟩⟩⟩⟩⟩) (rfl) rfl ?_
  refine V.seq ?_
  replace hm0 := bindO hm0; rcases hm0 with ⟨y3, hh3, hm0⟩
  refine V.region ?_
  refine VO.cons rfl (V1.move rfl rfl rfl (ltb rfl) ?_)
  refine VO.cons rfl (V1.call rfl rfl rfl cok_23 rfl (ok_laws_toCartonS hh3) rfl (ltb rfl) ?_)
  rintro _ _ ⟨ob1, hob1, rfl, rfl⟩
  refine VO.weakenK (Keeps.optVl 27 [] rn (f := (encCarton rn)) (l := y3) (ob := ob1) (H1 := []) hob1 rfl rfl ⟨rfl, trivial⟩ (fun _ => rfl) rfl iNil) ?_
  refine VO.cons rfl (V1.assign rfl rfl rfl (ltb rfl) ?_)
  refine VO.nil ?_
  refine V.seq ?_
  replace hm0 := bindO hm0; rcases hm0 with ⟨y4, hh4, hm0⟩
  refine V.region ?_
  refine VO.cons rfl (V1.move rfl rfl rfl (ltb rfl) ?_)
  refine VO.cons rfl (V1.move rfl rfl rfl (ltb rfl) ?_)
  refine VO.cons rfl (V1.move rfl rfl rfl (ltb rfl) ?_)
  refine VO.cons rfl (V1.call rfl rfl rfl cok_31 rfl (ok_impl_BestShelf hh4) rfl (ltb rfl) ?_)
  rintro _ _ ⟨rfl, rfl⟩
  refine VO.cons rfl (V1.move rfl rfl rfl (ltb rfl) ?_)
  refine VO.cons rfl (V1.extract rfl rfl rfl rfl (ltb rfl) ?_)
  refine VO.cons rfl (V1.extract rfl rfl rfl rfl (ltb rfl) ?_)
  refine VO.cons rfl (V1.assign rfl rfl rfl (ltb rfl) ?_)
  refine VO.cons rfl (V1.assign rfl rfl rfl (ltb rfl) ?_)
  refine VO.nil ?_
  refine V.keep 48 [0, 8, 9, 10, 11, 12] [] (E0 := [(0, .vl ρ0 5 (List.map (encCarton σ0) aList)), (8, .int .i64 y2.1), (9, .bool y2.2), (10, .vl rn 5 (List.map (encCarton rn) y3)), (11, .int .i64 y4.1), (12, .bool y4.2)]) (H0 := []) rfl (⟨_, _, rfl, rfl, ⟨_, _, rfl, rfl, ⟨_, _, rfl, rfl, ⟨_, _, rfl, rfl, ⟨_, _, rfl, rfl, ⟨_, _, rfl, rfl, rfl⟩⟩⟩⟩⟩⟩) (rfl) rfl ?_
  refine V.seq ?_
  refine V.seq ?_
  refine V.region ?_
  refine VO.cons rfl (V1.move rfl rfl rfl (ltb rfl) ?_)
  refine VO.cons rfl (V1.move rfl rfl rfl (ltb rfl) ?_)
  refine VO.cons rfl (V1.int rfl rfl rfl rfl rfl (ltb rfl) ?_)
  refine VO.cons rfl (V1.move rfl rfl rfl (ltb rfl) ?_)
  apply VO.or (n := 3) rfl rfl rfl rfl rfl rfl (ltb rfl) (.none rfl)
  ·
   intro hg0
   refine VO.step (.some rfl rfl rfl) (V1.move rfl rfl rfl (ltb rfl) ?_)
   refine VO.step (.some rfl rfl rfl) (V1.move rfl rfl rfl (ltb rfl) ?_)
   refine VO.step (.some rfl rfl rfl) (V1.boolNeq rfl rfl und_4 rfl rfl (ltb rfl) ?_)
   exact VO.nil ⟨rfl, rfl, rfl, rfl, .inr ⟨rfl, .inr ⟨rfl, .inr ⟨rfl, .inr ⟨rfl, .inl rfl⟩⟩⟩⟩⟩
  refine VO.nil ?_
  refine V.keep 48 [0, 10, 42] [] (E0 := [(0, .vl ρ0 5 (List.map (encCarton σ0) aList)), (10, .vl rn 5 (List.map (encCarton rn) y3)), (42, .bool ((y4.1 != y2.1) || (!(y4.2 == y2.2))))]) (H0 := []) rfl (⟨_, _, rfl, rfl, ⟨_, _, rfl, rfl, ⟨_, _, rfl, rfl, rfl⟩⟩⟩) (rfl) rfl ?_
  refine V.cond rfl (fun hc1 => ?_) (fun hc1 => ?_)
  ·
   replace hm0 := cond_t hc1 hm0
   refine V.seq ?_
   refine V.region ?_
   refine VO.cons rfl (V1.assign rfl rfl rfl (ltb rfl) ?_)
   refine VO.nil ?_
   refine V.ret ?_
   obtain rfl := Option.some.inj hm0
   exact ⟨_, [], ⟨_, _, rfl, rfl, rfl⟩, List.nil_sublist _, rfl, rfl⟩
  ·
   replace hm0 := cond_f hc1 hm0
   refine V.skip ?_
   refine V.seq ?_
   refine V.seq ?_
   replace hm0 := bindO hm0; rcases hm0 with ⟨y5, hh5, hm0⟩
   replace hm0 := bindO hm0; rcases hm0 with ⟨y6, hh6, hm0⟩
   refine V.region ?_
   refine VO.cons rfl (V1.move rfl rfl rfl (ltb rfl) ?_)
   refine VO.cons rfl (V1.move rfl rfl rfl (ltb rfl) ?_)
   refine VO.cons rfl (V1.call rfl rfl rfl cok_23 rfl (ok_laws_toCartonS hh5) rfl (ltb rfl) ?_)
   rintro _ _ ⟨ob2, hob2, rfl, rfl⟩
   refine VO.weakenK (Keeps.optVl 45 [] rn (f := (encCarton rn)) (l := y5) (ob := ob2) (H1 := []) hob2 rfl rfl ⟨rfl, trivial⟩ (fun _ => rfl) rfl iNil) ?_
   refine VO.cons rfl (V1.call rfl rfl rfl cok_25 rfl (ok_laws_eqCartonS hh6) rfl (ltb rfl) ?_)
   rintro _ _ ⟨rfl, rfl⟩
   refine VO.cons rfl (V1.not rfl rfl rfl (ltb rfl) ?_)
   refine VO.nil ?_
   refine V.keep 48 [47] [] (E0 := [(47, .bool (!y6))]) (H0 := []) rfl (⟨_, _, rfl, rfl, rfl⟩) (rfl) rfl ?_
   refine V.cond rfl (fun hc2 => ?_) (fun hc2 => ?_)
   ·
    replace hm0 := cond_t hc2 hm0
    refine V.seq ?_
    refine V.region ?_
    refine VO.cons rfl (V1.assign rfl rfl rfl (ltb rfl) ?_)
    refine VO.nil ?_
    refine V.ret ?_
    obtain rfl := Option.some.inj hm0
    exact ⟨_, [], ⟨_, _, rfl, rfl, rfl⟩, List.nil_sublist _, rfl, rfl⟩
   ·
    replace hm0 := cond_f hc2 hm0
    refine V.skip ?_
    refine V.seq ?_
    refine V.region ?_
    refine VO.cons rfl (V1.assign rfl rfl rfl (ltb rfl) ?_)
    refine VO.nil ?_
    refine V.ret ?_
    obtain rfl := Option.some.inj hm0
    exact ⟨_, [], ⟨_, _, rfl, rfl, rfl⟩, List.nil_sublist _, rfl, rfl⟩
end Go.Proofs.Ythaeehmkeiiidaa
