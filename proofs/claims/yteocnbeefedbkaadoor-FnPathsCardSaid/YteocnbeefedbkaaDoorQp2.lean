/- the functions do what their models say -/
import Derived.Test.YteocnbeefedbkaaDoorQp1
set_option linter.unusedSimpArgs false
set_option linter.unusedVariables false
set_option maxRecDepth 100000
set_option maxHeartbeats 4000000
namespace Go.Proofs.YteocnbeefedbkaaDoor
open Go.VS

theorem ok_impl_isOnDay {ρ0 rn : Nat} {list : List Format} {id_ : Int} {day : Int} {r : Bool} (h : M.impl_isOnDay list id_ day = some r) : Does Tryd.prog 53 [.vl ρ0 4 (List.map (encFormat ρ0) list), .int .i64 id_, .int .i64 day] [] rn (fun x H => x = .bool r ∧ H = []) := by
 have hm0 := h; clear h; unfold M.impl_isOnDay at hm0
 try dsimp only at hm0
 refine Does.intro (N := 19) Tryd.func53 rfl rfl rfl rfl ?_
 intro w0 S0 L0
 refine V.seq ?_
 refine V.region ?_
 refine VO.cons rfl (V1.assign rfl rfl rfl lt0 ?_)
 refine VO.nil ?_
 refine V.seq ?_
 replace hm0 := bindO hm0; rcases hm0 with ⟨y0, hh0, hm0⟩
 replace hm0 := bindO hm0; rcases hm0 with ⟨y1, hh1, hm0⟩
 replace hm0 := bindO hm0; rcases hm0 with ⟨y2, hh2, hm0⟩
 refine V.region ?_
 refine VO.cons rfl (V1.move rfl rfl rfl lt0 ?_)
 refine VO.cons rfl (V1.call rfl rfl rfl cok_111 rfl (ok_impl_AreFormats hh0) rfl lt0 ?_)
 rintro _ _ ⟨rfl, rfl⟩
 refine VO.cons rfl (V1.move rfl rfl rfl lt0 ?_)
 apply VO.and (n := 4) rfl rfl rfl rfl rfl rfl lt0 (.none rfl)
 ·
  intro hg0
  refine VO.step (.some rfl rfl rfl) (V1.move rfl rfl rfl lt0 ?_)
  refine VO.step (.some rfl rfl rfl) (V1.move rfl rfl rfl lt0 ?_)
  refine VO.step (.some rfl rfl rfl) (V1.call rfl rfl rfl cok_54 rfl (ok_impl_formatAt (cond_t hg0 hh1)) rfl lt0 ?_)
  rintro _ _ ⟨rfl, rfl⟩
  refine VO.step (.some rfl rfl rfl) (V1.int rfl rfl rfl rfl rfl lt0 ?_)
  exact VO.nil ⟨rfl, rfl, rfl, rfl, .inr ⟨rfl, .inr ⟨rfl, .inr ⟨rfl, .inr ⟨rfl, .inr ⟨rfl, .inl rfl⟩⟩⟩⟩⟩⟩
 refine VO.cons rfl (V1.move rfl rfl rfl lt0 ?_)
 apply VO.and (n := 2) rfl rfl rfl rfl rfl rfl lt0 (.none rfl)
 ·
  intro hg1
  refine VO.step (.some rfl rfl rfl) (V1.move rfl rfl rfl lt0 ?_)
  refine VO.step (.some rfl rfl rfl) (V1.call rfl rfl rfl cok_112 rfl (ok_impl_isDay (cond_t hg1 hh2)) rfl lt0 ?_)
  rintro _ _ ⟨rfl, rfl⟩
  exact VO.nil ⟨rfl, rfl, rfl, rfl, .inr ⟨rfl, .inr ⟨rfl, .inr ⟨rfl, .inl rfl⟩⟩⟩⟩
 refine VO.cons rfl (V1.assign rfl rfl rfl lt0 ?_)
 refine VO.nil ?_
 refine V.ret ?_
 obtain rfl := Option.some.inj hm0
 exact ⟨_, [], ⟨_, _, rfl, rfl, rfl⟩, List.nil_sublist _, rfl, rfl⟩

theorem ok_slices_Index_int_int {ρ0 rn : Nat} {s : List Int} {v : Int} {r : Int} (h : M.slices_Index_int_int s v = some r) : Does Tryd.prog 115 [.vl ρ0 1 (List.map encInt s), .int .i64 v] [] rn (fun x H => x = .int .i64 r ∧ H = []) := by
 have hm0 := h; clear h; unfold M.slices_Index_int_int at hm0
 try dsimp only at hm0
 refine Does.intro (N := 19) Tryd.func115 rfl rfl rfl rfl ?_
 intro w0 S0 L0
 refine V.seq ?_
 refine V.region ?_
 refine VO.cons rfl (V1.assign rfl rfl rfl lt0 ?_)
 refine VO.nil ?_
 refine V.seq ?_
 refine V.seq ?_
 refine V.region ?_
 refine VO.cons rfl (V1.move rfl rfl rfl lt0 ?_)
 refine VO.cons rfl (V1.lenMap rfl rfl rfl rfl rfl rfl isl_27 lt0 ?_)
 refine VO.cons rfl (V1.move rfl rfl rfl lt0 ?_)
 refine VO.nil ?_
 replace hm0 := bindO hm0; rcases hm0 with ⟨e0, he1, hm0⟩
 refine V.cutT (D := (Unit) × (Unit)) (fun ⟨_, _⟩ => ⟨19, [], []⟩) (fun ⟨_, _⟩ => (.inl () = e0)) ?_ ?_
 ·
  refine V.block ?_
  refine V.keep 19 [8, 0, 1, 7] [] (E0 := [(8, .int .i64 (0 : Int)), (0, .vl ρ0 1 (List.map encInt s)), (1, .int .i64 v), (7, .int .i64 (s.length : Int))]) (H0 := []) rfl (⟨_, _, rfl, rfl, _, _, rfl, rfl, _, _, rfl, rfl, _, _, rfl, rfl, rfl⟩) (rfl) rfl ?_
  refine V.loopE (D := Nat × (Int) × (Unit)) (fun ⟨n0, v0, _⟩ => [(8, .int .i64 v0)]) (fun ⟨n0, v0, _⟩ => []) (fun ⟨n0, v0, _⟩ => loopO (M.slices_Index_int_int_l0 s v) n0 v0 = some e0) (fun ⟨n0, _, _⟩ => n0) (rounds, (0 : Int), ()) rfl he1 ?_
  rintro ⟨n0, v0, _⟩ hP0
  obtain ⟨m0, y0, rfl, hm1, hl1, hr1⟩ := loop_head hP0
  unfold M.slices_Index_int_int_l0 at hm1; dsimp only at hm1
  show V _ _ _ ⟨19, [(8, .int .i64 v0), (0, .vl ρ0 1 (List.map encInt s)), (1, .int .i64 v), (7, .int .i64 (s.length : Int))], []⟩
  refine V.seq ?_
  refine V.region ?_
  refine VO.cons rfl (V1.int rfl rfl rfl rfl rfl lt0 ?_)
  refine VO.nil ?_
  refine V.seq ?_
  refine V.cond rfl (fun hc0 => ?_) (fun hc0 => ?_)
  ·
   replace hm1 := cond_t hc0 hm1
   refine V.skip ?_
   refine V.seq ?_
   refine V.block ?_
   refine V.seq ?_
   refine V.region ?_
   refine VO.cons rfl (V1.move rfl rfl rfl lt0 ?_)
   refine VO.cons rfl (V1.assign rfl rfl rfl lt0 ?_)
   refine VO.nil ?_
   refine V.seq ?_
   replace hm1 := asrt_some hm1; rcases hm1 with ⟨hh0, hm1⟩
   refine V.region ?_
   refine VO.cons rfl (V1.move rfl rfl rfl lt0 ?_)
   refine VO.cons rfl (V1.move rfl rfl rfl lt0 ?_)
   refine VO.cons rfl (V1.move rfl rfl rfl lt0 ?_)
   refine VO.cons rfl (V1.indexI rfl rfl esz_27 rfl rfl hh0 lt0 ?_)
   refine VO.cons rfl (V1.loadPin rfl rfl tyk_3 rfl rfl lt0 ?_)
   refine VO.cons rfl (V1.int rfl rfl rfl rfl rfl lt0 ?_)
   refine VO.nil ?_
   refine V.keep 19 [0, 1, 5, 7, 8, 16] [] (E0 := [(0, .vl ρ0 1 (List.map encInt s)), (1, .int .i64 v), (5, .int .i64 v0), (7, .int .i64 (s.length : Int)), (8, .int .i64 v0), (16, .bool (v == (s.getD (Int.toNat v0) default)))]) (H0 := []) rfl (⟨_, _, rfl, rfl, _, _, rfl, rfl, _, _, rfl, rfl, _, _, rfl, rfl, _, _, rfl, rfl, _, _, rfl, rfl, rfl⟩) (rfl) rfl ?_
   refine V.cond rfl (fun hc1 => ?_) (fun hc1 => ?_)
   ·
    replace hm1 := cond_t hc1 hm1
    refine V.seq ?_
    refine V.region ?_
    refine VO.cons rfl (V1.move rfl rfl rfl lt0 ?_)
    refine VO.cons rfl (V1.assign rfl rfl rfl lt0 ?_)
    refine VO.nil ?_
    refine V.ret ?_
    obtain rfl := hr1 _ (Option.some.inj hm1).symm
    change some _ = some _ at hm0
    obtain rfl := Option.some.inj hm0
    exact ⟨_, [], ⟨_, _, rfl, rfl, rfl⟩, List.nil_sublist _, rfl, rfl⟩
   ·
    replace hm1 := cond_f hc1 hm1
    refine V.skip ?_
    refine V.region ?_
    refine VO.cons rfl (V1.int rfl rfl rfl rfl rfl lt0 ?_)
    refine VO.cons rfl (V1.move rfl rfl rfl lt0 ?_)
    refine VO.nil ?_
    exact ⟨(m0, (IntKind.i64.wrap (v0 + (1 : Int))), ()), hl1 _ (Option.some.inj hm1).symm, Nat.lt_succ_self _, Keeps.mk (ks := []) rfl ⟨rfl, rfl, rfl, rfl, trivial⟩ (rfl) rfl⟩
  ·
   replace hm1 := cond_f hc0 hm1
   refine V.exit ?_
   obtain rfl := hr1 _ (Option.some.inj hm1).symm
   exact ⟨((), ()), rfl, Keeps.mk (ks := []) rfl trivial (rfl) rfl⟩
 ·
  rintro ⟨_, _⟩ rfl
  try dsimp only at hm0
  refine V.seq ?_
  refine V.region ?_
  refine VO.cons rfl (V1.assign rfl rfl rfl lt0 ?_)
  refine VO.nil ?_
  refine V.ret ?_
  obtain rfl := Option.some.inj hm0
  exact ⟨_, [], ⟨_, _, rfl, rfl, rfl⟩, List.nil_sublist _, rfl, rfl⟩

theorem ok_slices_Contains_int_int {ρ0 rn : Nat} {s : List Int} {v : Int} {r : Bool} (h : M.slices_Contains_int_int s v = some r) : Does Tryd.prog 56 [.vl ρ0 1 (List.map encInt s), .int .i64 v] [] rn (fun x H => x = .bool r ∧ H = []) := by
 have hm0 := h; clear h; unfold M.slices_Contains_int_int at hm0
 try dsimp only at hm0
 refine Does.intro (N := 9) Tryd.func56 rfl rfl rfl rfl ?_
 intro w0 S0 L0
 refine V.seq ?_
 refine V.region ?_
 refine VO.cons rfl (V1.assign rfl rfl rfl lt0 ?_)
 refine VO.nil ?_
 refine V.seq ?_
 replace hm0 := bindO hm0; rcases hm0 with ⟨y0, hh0, hm0⟩
 refine V.region ?_
 refine VO.cons rfl (V1.move rfl rfl rfl lt0 ?_)
 refine VO.cons rfl (V1.move rfl rfl rfl lt0 ?_)
 refine VO.cons rfl (V1.call rfl rfl rfl cok_115 rfl (ok_slices_Index_int_int hh0) rfl lt0 ?_)
 rintro _ _ ⟨rfl, rfl⟩
 refine VO.cons rfl (V1.int rfl rfl rfl rfl rfl lt0 ?_)
 refine VO.cons rfl (V1.assign rfl rfl rfl lt0 ?_)
 refine VO.nil ?_
 refine V.ret ?_
 obtain rfl := Option.some.inj hm0
 exact ⟨_, [], ⟨_, _, rfl, rfl, rfl⟩, List.nil_sublist _, rfl, rfl⟩

theorem ok_impl_leads {ρ0 ρ1 rn : Nat} {from_ : Format} {to_ : Format} {day : Int} {r : Bool} (h : M.impl_leads from_ to_ day = some r) : Does Tryd.prog 55 [encFormat ρ0 from_, encFormat ρ1 to_, .int .i64 day] [] rn (fun x H => x = .bool r ∧ H = []) := by
 have hm0 := h; clear h; unfold M.impl_leads at hm0
 try dsimp only at hm0
 refine Does.intro (N := 18) Tryd.func55 rfl rfl rfl rfl ?_
 intro w0 S0 L0
 refine V.seq ?_
 refine V.region ?_
 refine VO.cons rfl (V1.boxN (n := 4) rfl rfl rfl rfl rfl lt0 ?_)
 intro b0
 refine VO.cons rfl (V1.boxN (n := 4) rfl rfl rfl rfl rfl lt0 ?_)
 intro b1
 refine VO.cons rfl (V1.assign rfl rfl rfl lt0 ?_)
 refine VO.nil ?_
 refine V.seq ?_
 replace hm0 := bindO hm0; rcases hm0 with ⟨y0, hh0, hm0⟩
 refine V.region ?_
 refine VO.cons rfl (V1.fieldRef rfl rfl fo_34_3 rfl lt0 ?_)
 refine VO.cons rfl (V1.loadRef (k := 0) rfl rfl tyk_27 rfl rfl rfl rfl rfl lt0 ?_)
 refine VO.cons rfl (V1.fieldRef rfl rfl fo_34_0 rfl lt0 ?_)
 refine VO.cons rfl (V1.loadRef (k := 1) rfl rfl tyk_3 rfl rfl rfl rfl rfl lt0 ?_)
 refine VO.cons rfl (V1.call rfl rfl rfl cok_56 rfl (ok_slices_Contains_int_int hh0) rfl lt0 ?_)
 rintro _ _ ⟨rfl, rfl⟩
 refine VO.cons rfl (V1.move rfl rfl rfl lt0 ?_)
 apply VO.and (n := 4) rfl rfl rfl rfl rfl rfl lt0 (.none rfl)
 ·
  intro hg0
  refine VO.step (.some rfl rfl rfl) (V1.fieldRef rfl rfl fo_34_2 rfl lt0 ?_)
  refine VO.step (.some rfl rfl rfl) (V1.loadRef (k := 0) rfl rfl tyk_3 rfl rfl rfl rfl rfl lt0 ?_)
  refine VO.step (.some rfl rfl rfl) (V1.move rfl rfl rfl lt0 ?_)
  refine VO.step (.some rfl rfl rfl) (V1.int rfl rfl rfl rfl rfl lt0 ?_)
  exact VO.nil ⟨rfl, rfl, rfl, rfl, .inr ⟨rfl, .inr ⟨rfl, .inr ⟨rfl, .inr ⟨rfl, .inr ⟨rfl, .inl rfl⟩⟩⟩⟩⟩⟩
 refine VO.cons rfl (V1.assign rfl rfl rfl lt0 ?_)
 refine VO.nil ?_
 refine V.ret ?_
 obtain rfl := Option.some.inj hm0
 exact ⟨_, [], ⟨_, _, rfl, rfl, rfl⟩, List.nil_sublist _, rfl, rfl⟩

theorem ok_slices_Clone_int_int {ρ0 rn : Nat} {s : List Int} {r : List Int} (h : M.slices_Clone_int_int s = some r) : Does Tryd.prog 57 [.vl ρ0 1 (List.map encInt s)] [] rn (fun x H => ∃ ob0_ : Option Nat, (ob0_ = none → r = []) ∧ x = optS 1 ob0_ (List.length r) ∧ H = optH 1 ob0_ (List.map encInt r)) := by
 have hm0 := h; clear h; unfold M.slices_Clone_int_int at hm0
 replace hm0 := asrt_some hm0; rcases hm0 with ⟨hh0, hm0⟩
 obtain rfl := Option.some.inj hm0
 refine Does.intro (N := 8) Tryd.func57 rfl rfl rfl rfl ?_
 intro w0 S0 L0
 refine V.seq ?_
 refine V.region ?_
 refine VO.cons rfl (V1.assign rfl rfl rfl lt0 ?_)
 refine VO.nil ?_
 refine V.seq ?_
 first | refine V.region ?_ | (refine V.seq ?_; refine V.region ?_)
 refine VO.cons rfl (V1.move rfl rfl rfl lt0 ?_)
 refine VO.cons rfl (V1.eqNil rfl rfl usl_27 rfl rfl lt0 ?_)
 intro c hc
 refine VO.nil ?_
 first | refine V.cond rfl (fun hc0 => ?_) (fun hc0 => ?_) | (refine V.seq ?_; refine V.cond rfl (fun hc0 => ?_) (fun hc0 => ?_))
 ·
  have hs : s = [] := List.map_eq_nil_iff.1 (hc hc0)
  refine V.seq ?_
  refine V.region ?_
  refine VO.cons rfl (V1.assign rfl rfl rfl lt0 ?_)
  refine VO.nil ?_
  refine V.ret ?_
  exact ⟨_, [], ⟨_, _, rfl, rfl, rfl⟩, List.nil_sublist _, none, fun _ => hs, rfl, rfl⟩
 ·
  refine V.skip ?_
  refine V.seq ?_
  refine V.region ?_
  refine VO.cons rfl (V1.buildSliceT (f := encInt) ([] : List Int) rfl rfl esz_27 zk_3 rfl rfl rfl rfl rfl rfl rfl lt0 ?_)
  intro b0
  refine VO.cons rfl (V1.move rfl rfl rfl lt0 ?_)
  refine VO.cons rfl (V1.appendMap (k := 0) (f := encInt) (l := []) (m := s) rfl rfl rfl rfl rfl esz_27 eby_27 zk_3 rfl rfl rfl (.vl isl_27) (by simpa using hh0) lt0 ?_)
  intro b1
  refine VO.cons rfl (V1.assign rfl rfl rfl lt0 ?_)
  refine VO.nil ?_
  refine V.keep 8 [2] [0] (E0 := [(2, .sref b1 1 0 (List.length s))]) (H0 := [(b1, ⟨1, List.map encInt s⟩)]) rfl (⟨_, _, rfl, rfl, rfl⟩) (⟨_, _, rfl, rfl, rfl⟩) rfl ?_
  refine V.ret ?_
  exact ⟨_, _, ⟨_, _, rfl, rfl, rfl⟩, List.Sublist.refl _, some b1, (fun e => by cases e), rfl, rfl⟩

theorem ok_impl_ShortestPath {ρ0 rn : Nat} {list : List Format} {from_ : Int} {to_ : Int} {day : Int} {r : List Int × Bool} (h : M.impl_ShortestPath list from_ to_ day = some r) : Does Tryd.prog 8 [.vl ρ0 4 (List.map (encFormat ρ0) list), .int .i64 from_, .int .i64 to_, .int .i64 day] [] rn (fun x H => x = .tup [.vl rn 1 (List.map encInt r.1), .bool r.2] ∧ H = []) := by
 have hm0 := h; clear h; unfold M.impl_ShortestPath at hm0
 try dsimp only at hm0
 refine Does.intro (N := 92) Tryd.func8 rfl rfl rfl rfl ?_
 intro w0 S0 L0
 refine V.seq ?_
 refine V.region ?_
 refine VO.cons rfl (V1.assign rfl rfl rfl lt0 ?_)
 refine VO.cons rfl (V1.assign rfl rfl rfl lt0 ?_)
 refine VO.nil ?_
 refine V.seq ?_
 refine V.seq ?_
 replace hm0 := bindO hm0; rcases hm0 with ⟨y0, hh0, hm0⟩
 replace hm0 := bindO hm0; rcases hm0 with ⟨y1, hh1, hm0⟩
 refine V.region ?_
 refine VO.cons rfl (V1.move rfl rfl rfl lt0 ?_)
 refine VO.cons rfl (V1.move rfl rfl rfl lt0 ?_)
 refine VO.cons rfl (V1.move rfl rfl rfl lt0 ?_)
 refine VO.cons rfl (V1.call rfl rfl rfl cok_53 rfl (ok_impl_isOnDay hh0) rfl lt0 ?_)
 rintro _ _ ⟨rfl, rfl⟩
 refine VO.cons rfl (V1.not rfl rfl rfl lt0 ?_)
 refine VO.cons rfl (V1.move rfl rfl rfl lt0 ?_)
 apply VO.or (n := 4) rfl rfl rfl rfl rfl rfl lt0 (.none rfl)
 ·
  intro hg0
  refine VO.step (.some rfl rfl rfl) (V1.move rfl rfl rfl lt0 ?_)
  refine VO.step (.some rfl rfl rfl) (V1.move rfl rfl rfl lt0 ?_)
  refine VO.step (.some rfl rfl rfl) (V1.call rfl rfl rfl cok_54 rfl (ok_impl_formatAt (cond_f hg0 hh1)) rfl lt0 ?_)
  rintro _ _ ⟨rfl, rfl⟩
  refine VO.step (.some rfl rfl rfl) (V1.int rfl rfl rfl rfl rfl lt0 ?_)
  exact VO.nil ⟨rfl, rfl, rfl, rfl, .inr ⟨rfl, .inr ⟨rfl, .inr ⟨rfl, .inr ⟨rfl, .inr ⟨rfl, .inl rfl⟩⟩⟩⟩⟩⟩
 refine VO.nil ?_
 refine V.keep 92 [0, 1, 2, 3, 28] [] (E0 := [(0, .vl ρ0 4 (List.map (encFormat ρ0) list)), (1, .int .i64 from_), (2, .int .i64 to_), (3, .int .i64 day), (28, .bool ((!y0) || (decide (y1 < (0 : Int)))))]) (H0 := []) rfl (⟨_, _, rfl, rfl, _, _, rfl, rfl, _, _, rfl, rfl, _, _, rfl, rfl, _, _, rfl, rfl, rfl⟩) (rfl) rfl ?_
 refine V.cond rfl (fun hc0 => ?_) (fun hc0 => ?_)
 ·
  replace hm0 := cond_t hc0 hm0
  refine V.seq ?_
  refine V.region ?_
  refine VO.cons rfl (V1.assign rfl rfl rfl lt0 ?_)
  refine VO.cons rfl (V1.assign rfl rfl rfl lt0 ?_)
  refine VO.nil ?_
  refine V.weakenK (Keeps.nilsE (l := ([] : List Int)) 8 rn 1 encInt rfl rfl rfl) ?_
  refine V.ret ?_
  obtain rfl := Option.some.inj hm0
  exact ⟨_, [], ⟨_, _, rfl, rfl, _, _, rfl, rfl, rfl⟩, List.nil_sublist _, rfl, rfl⟩
 ·
  replace hm0 := cond_f hc0 hm0
  refine V.skip ?_
  refine V.seq ?_
  refine V.region ?_
  refine VO.cons rfl (V1.move rfl rfl rfl lt0 ?_)
  refine VO.cons rfl (V1.buildSliceT (f := encInt) ([from_] : List Int) rfl rfl esz_27 zk_3 rfl rfl rfl rfl rfl rfl rfl lt0 ?_)
  intro b0
  refine VO.weakenK (Keeps.freezeG 0 rn [(30, .vl rn 1 (List.map encInt ([from_] : List Int)))] ([]) (f := encInt) (l := ([from_] : List Int)) rfl (fun _ => rfl) ⟨⟨_, rfl, .here⟩, trivial⟩ rfl rfl iNil) ?_
  refine VO.cons rfl (V1.buildSliceT (f := (encL rn 1 encInt)) ([([from_] : List Int)] : List (List Int)) rfl rfl esz_47 zk_27 rfl rfl rfl rfl rfl rfl rfl lt0 ?_)
  intro b1
  refine VO.cons rfl (V1.assign rfl rfl rfl lt0 ?_)
  refine VO.nil ?_
  refine V.keep 92 [0, 1, 2, 3, 10] [0] (E0 := [(0, .vl ρ0 4 (List.map (encFormat ρ0) list)), (1, .int .i64 from_), (2, .int .i64 to_), (3, .int .i64 day), (10, .sref b1 1 0 (List.length ([([from_] : List Int)] : List (List Int))))]) (H0 := [(b1, ⟨1, List.map (encL rn 1 encInt) ([([from_] : List Int)] : List (List Int))⟩)]) rfl (⟨_, _, rfl, rfl, _, _, rfl, rfl, _, _, rfl, rfl, _, _, rfl, rfl, _, _, rfl, rfl, rfl⟩) (⟨_, _, rfl, rfl, rfl⟩) rfl ?_
  refine V.seq ?_
  refine V.region ?_
  refine VO.cons rfl (V1.move rfl rfl rfl lt0 ?_)
  refine VO.cons rfl (V1.buildSliceT (f := encInt) ([from_] : List Int) rfl rfl esz_27 zk_3 rfl rfl rfl rfl rfl rfl rfl lt0 ?_)
  intro b2
  refine VO.cons rfl (V1.assign rfl rfl rfl lt0 ?_)
  refine VO.nil ?_
  refine V.seq ?_
  replace hm0 := bindO hm0; rcases hm0 with ⟨e0, he1, hm0⟩
  refine V.cutT (D := (Unit) × (Unit)) (fun ⟨_, _⟩ => ⟨92, [], []⟩) (fun ⟨_, _⟩ => (.inl () = e0)) ?_ ?_
  ·
   refine V.block ?_
   refine V.keep 92 [10, 11, 0, 2, 3] [1, 0] (E0 := [(10, .sref b1 1 0 (List.length ([([from_] : List Int)] : List (List Int)))), (11, .sref b2 1 0 (List.length ([from_] : List Int))), (0, .vl ρ0 4 (List.map (encFormat ρ0) list)), (2, .int .i64 to_), (3, .int .i64 day)]) (H0 := [(b1, ⟨1, List.map (encL rn 1 encInt) ([([from_] : List Int)] : List (List Int))⟩), (b2, ⟨1, List.map encInt ([from_] : List Int)⟩)]) rfl (⟨_, _, rfl, rfl, _, _, rfl, rfl, _, _, rfl, rfl, _, _, rfl, rfl, _, _, rfl, rfl, rfl⟩) (⟨_, _, rfl, rfl, _, _, rfl, rfl, rfl⟩) rfl ?_
   refine V.loopE (D := Nat × (List (List Int) × List Int) × (Option Nat × Nat)) (fun ⟨n0, ⟨paths, seen⟩, ⟨ob0, b3⟩⟩ => [(10, optS 1 ob0 (List.length paths)), (11, .sref b3 1 0 (List.length seen))]) (fun ⟨n0, ⟨paths, seen⟩, ⟨ob0, b3⟩⟩ => optH 1 ob0 (List.map (encL rn 1 encInt) paths) ++ [(b3, ⟨1, List.map encInt seen⟩)]) (fun ⟨n0, ⟨paths, seen⟩, ⟨ob0, b3⟩⟩ => loopO (M.impl_ShortestPath_l0 list to_ day) n0 (paths, seen) = some e0 ∧ (ob0 = none → paths = [])) (fun ⟨n0, _, _⟩ => n0) (rounds, (([([from_] : List Int)] : List (List Int)), ([from_] : List Int)), ((some b1), b2)) rfl ⟨he1, (fun e => by cases e)⟩ ?_
   rintro ⟨n0, ⟨paths, seen⟩, ⟨ob0, b3⟩⟩ ⟨hP0, hob0⟩
   obtain ⟨m0, y2, rfl, hm1, hl1, hr1⟩ := loop_head hP0
   unfold M.impl_ShortestPath_l0 at hm1; dsimp only at hm1
   rcases ob0 with _ | ob0
   ·
    replace hob0 := hob0 rfl
    show V _ _ _ ⟨92, [(10, .nils), (11, .sref b3 1 0 (List.length seen)), (0, .vl ρ0 4 (List.map (encFormat ρ0) list)), (2, .int .i64 to_), (3, .int .i64 day)], [(b3, ⟨1, List.map encInt seen⟩)]⟩
    refine V.seq ?_
    refine V.seq ?_
    refine V.region ?_
    refine VO.cons rfl (V1.move rfl rfl rfl lt0 ?_)
    refine VO.cons rfl (V1.lenNilsE (l := paths) hob0 rfl rfl rfl rfl rfl rfl isl_47 lt0 ?_)
    refine VO.cons rfl (V1.int rfl rfl rfl rfl rfl lt0 ?_)
    refine VO.nil ?_
    refine V.cond rfl (fun hc1 => ?_) (fun hc1 => ?_)
    ·
     replace hm1 := cond_t hc1 hm1
     refine V.skip ?_
     refine V.block ?_
     refine V.seq ?_
     refine V.region ?_
     refine VO.cons rfl (V1.assign rfl rfl rfl lt0 ?_)
     refine VO.nil ?_
     refine V.seq ?_
     refine V.seq ?_
     refine V.region ?_
     refine VO.cons rfl (V1.move rfl rfl rfl lt0 ?_)
     refine VO.cons rfl (V1.lenNilsE (l := paths) hob0 rfl rfl rfl rfl rfl rfl isl_47 lt0 ?_)
     refine VO.cons rfl (V1.move rfl rfl rfl lt0 ?_)
     refine VO.nil ?_
     refine V.keep 92 [0, 2, 3, 11, 12, 37, 38, 39] [0] (E0 := [(0, .vl ρ0 4 (List.map (encFormat ρ0) list)), (2, .int .i64 to_), (3, .int .i64 day), (11, .sref b3 1 0 (List.length seen)), (12, .nils), (37, .nils), (38, .int .i64 (paths.length : Int)), (39, .int .i64 (0 : Int))]) (H0 := [(b3, ⟨1, List.map encInt seen⟩)]) rfl (⟨_, _, rfl, rfl, _, _, rfl, rfl, _, _, rfl, rfl, _, _, rfl, rfl, _, _, rfl, rfl, _, _, rfl, rfl, _, _, rfl, rfl, _, _, rfl, rfl, rfl⟩) (⟨_, _, rfl, rfl, rfl⟩) rfl ?_
     replace hm1 := bindO hm1; rcases hm1 with ⟨e1, he2, hm1⟩
     refine V.cutT (D := (List Int × List (List Int)) × (Nat × Option Nat)) (fun ⟨⟨seen0, next⟩, ⟨b4, ob1⟩⟩ => ⟨92, [(11, .sref b4 1 0 (List.length seen0)), (12, optS 1 ob1 (List.length next)), (0, .vl ρ0 4 (List.map (encFormat ρ0) list)), (2, .int .i64 to_), (3, .int .i64 day)], [(b4, ⟨1, List.map encInt seen0⟩)] ++ optH 1 ob1 (List.map (encL rn 1 encInt) next)⟩) (fun ⟨⟨seen0, next⟩, ⟨b4, ob1⟩⟩ => (.inl (seen0, next) = e1) ∧ (ob1 = none → next = [])) ?_ ?_
     ·
      refine V.block ?_
      refine V.weakenK (Keeps.nilsE (l := paths) 37 rn 1 (encL rn 1 encInt) hob0 rfl rfl) ?_
      refine V.keep 92 [11, 12, 39, 0, 2, 3, 37, 38] [0] (E0 := [(11, .sref b3 1 0 (List.length seen)), (12, .nils), (39, .int .i64 (0 : Int)), (0, .vl ρ0 4 (List.map (encFormat ρ0) list)), (2, .int .i64 to_), (3, .int .i64 day), (37, .vl rn 1 (List.map (encL rn 1 encInt) paths)), (38, .int .i64 (paths.length : Int))]) (H0 := [(b3, ⟨1, List.map encInt seen⟩)]) rfl (⟨_, _, rfl, rfl, _, _, rfl, rfl, _, _, rfl, rfl, _, _, rfl, rfl, _, _, rfl, rfl, _, _, rfl, rfl, _, _, rfl, rfl, _, _, rfl, rfl, rfl⟩) (⟨_, _, rfl, rfl, rfl⟩) rfl ?_
      refine V.loopE (D := Nat × (List Int × List (List Int) × Int) × (Nat × Option Nat)) (fun ⟨n1, ⟨seen1, next0, v⟩, ⟨b5, ob2⟩⟩ => [(11, .sref b5 1 0 (List.length seen1)), (12, optS 1 ob2 (List.length next0)), (39, .int .i64 v)]) (fun ⟨n1, ⟨seen1, next0, v⟩, ⟨b5, ob2⟩⟩ => [(b5, ⟨1, List.map encInt seen1⟩)] ++ optH 1 ob2 (List.map (encL rn 1 encInt) next0)) (fun ⟨n1, ⟨seen1, next0, v⟩, ⟨b5, ob2⟩⟩ => loopO (M.impl_ShortestPath_l1 list to_ day paths) n1 (seen1, next0, v) = some e1 ∧ (ob2 = none → next0 = [])) (fun ⟨n1, _, _⟩ => n1) (rounds, (seen, ([] : List (List Int)), (0 : Int)), (b3, none)) rfl ⟨he2, (fun _ => rfl)⟩ ?_
      rintro ⟨n1, ⟨seen1, next0, v⟩, ⟨b5, ob2⟩⟩ ⟨hP1, hob2⟩
      obtain ⟨m1, y3, rfl, hm2, hl2, hr2⟩ := loop_head hP1
      unfold M.impl_ShortestPath_l1 at hm2; dsimp only at hm2
      rcases ob2 with _ | ob2
      ·
       replace hob2 := hob2 rfl
       show V _ _ _ ⟨92, [(11, .sref b5 1 0 (List.length seen1)), (12, .nils), (39, .int .i64 v), (0, .vl ρ0 4 (List.map (encFormat ρ0) list)), (2, .int .i64 to_), (3, .int .i64 day), (37, .vl rn 1 (List.map (encL rn 1 encInt) paths)), (38, .int .i64 (paths.length : Int))], [(b5, ⟨1, List.map encInt seen1⟩)]⟩
       refine V.seq ?_
       refine V.region ?_
       refine VO.cons rfl (V1.int rfl rfl rfl rfl rfl lt0 ?_)
       refine VO.nil ?_
       refine V.seq ?_
       refine V.cond rfl (fun hc2 => ?_) (fun hc2 => ?_)
       ·
        replace hm2 := cond_t hc2 hm2
        refine V.skip ?_
        refine V.seq ?_
        refine V.block ?_
        refine V.seq ?_
        replace hm2 := asrt_some hm2; rcases hm2 with ⟨hh2, hm2⟩
        refine V.region ?_
        refine VO.cons rfl (V1.indexI rfl rfl esz_47 rfl rfl hh2 lt0 ?_)
        refine VO.cons rfl (V1.loadPin rfl rfl tyk_27 rfl rfl lt0 ?_)
        refine VO.cons rfl (V1.assign rfl rfl rfl lt0 ?_)
        refine VO.nil ?_
        refine V.seq ?_
        replace hm2 := asrt_some hm2; rcases hm2 with ⟨hh3, hm2⟩
        refine V.region ?_
        refine VO.cons rfl (V1.move rfl rfl rfl lt0 ?_)
        refine VO.cons rfl (V1.move rfl rfl rfl lt0 ?_)
        refine VO.cons rfl (V1.lenMap rfl rfl rfl rfl rfl rfl isl_27 lt0 ?_)
        refine VO.cons rfl (V1.int rfl rfl rfl rfl rfl lt0 ?_)
        refine VO.cons rfl (V1.indexI rfl rfl esz_27 rfl rfl hh3 lt0 ?_)
        refine VO.cons rfl (V1.loadPin rfl rfl tyk_3 rfl rfl lt0 ?_)
        refine VO.cons rfl (V1.assign rfl rfl rfl lt0 ?_)
        refine VO.nil ?_
        refine V.keep 92 [0, 2, 3, 11, 12, 14, 15, 37, 38, 39] [0] (E0 := [(0, .vl ρ0 4 (List.map (encFormat ρ0) list)), (2, .int .i64 to_), (3, .int .i64 day), (11, .sref b5 1 0 (List.length seen1)), (12, .nils), (14, .vl rn 1 (List.map encInt (paths.getD (Int.toNat v) default))), (15, .int .i64 ((paths.getD (Int.toNat v) default).getD (Int.toNat (IntKind.i64.wrap (((paths.getD (Int.toNat v) default).length : Int) - (1 : Int)))) default)), (37, .vl rn 1 (List.map (encL rn 1 encInt) paths)), (38, .int .i64 (paths.length : Int)), (39, .int .i64 v)]) (H0 := [(b5, ⟨1, List.map encInt seen1⟩)]) rfl (⟨_, _, rfl, rfl, _, _, rfl, rfl, _, _, rfl, rfl, _, _, rfl, rfl, _, _, rfl, rfl, _, _, rfl, rfl, _, _, rfl, rfl, _, _, rfl, rfl, _, _, rfl, rfl, _, _, rfl, rfl, rfl⟩) (⟨_, _, rfl, rfl, rfl⟩) rfl ?_
        refine V.seq ?_
        refine V.seq ?_
        refine V.region ?_
        refine VO.cons rfl (V1.move rfl rfl rfl lt0 ?_)
        refine VO.cons rfl (V1.move rfl rfl rfl lt0 ?_)
        refine VO.cons rfl (V1.int rfl rfl rfl rfl rfl lt0 ?_)
        refine VO.nil ?_
        refine V.cond rfl (fun hc3 => ?_) (fun hc3 => ?_)
        ·
         replace hm2 := cond_t hc3 hm2
         refine V.seq ?_
         refine V.region ?_
         refine VO.cons rfl (V1.move rfl rfl rfl lt0 ?_)
         refine VO.cons rfl (V1.assign rfl rfl rfl lt0 ?_)
         refine VO.cons rfl (V1.assign rfl rfl rfl lt0 ?_)
         refine VO.nil ?_
         refine V.ret ?_
         obtain rfl := hr2 _ (Option.some.inj hm2).symm
         change some _ = some _ at hm1
         obtain rfl := hr1 _ (Option.some.inj hm1).symm
         change some _ = some _ at hm0
         obtain rfl := Option.some.inj hm0
         exact ⟨_, [], ⟨_, _, rfl, rfl, _, _, rfl, rfl, rfl⟩, List.nil_sublist _, rfl, rfl⟩
        ·
         replace hm2 := cond_f hc3 hm2
         refine V.skip ?_
         refine V.seq ?_
         refine V.region ?_
         refine VO.cons rfl (V1.move rfl rfl rfl lt0 ?_)
         refine VO.cons rfl (V1.lenMap rfl rfl rfl rfl rfl rfl isl_24 lt0 ?_)
         refine VO.cons rfl (V1.move rfl rfl rfl lt0 ?_)
         refine VO.nil ?_
         replace hm2 := bindO hm2; rcases hm2 with ⟨e2, he3, hm2⟩
         refine V.cutT (D := (List Int × List (List Int)) × (Nat × Option Nat)) (fun ⟨⟨seen2, next1⟩, ⟨b6, ob3⟩⟩ => ⟨92, [(11, .sref b6 1 0 (List.length seen2)), (12, optS 1 ob3 (List.length next1)), (0, .vl ρ0 4 (List.map (encFormat ρ0) list)), (2, .int .i64 to_), (3, .int .i64 day), (37, .vl rn 1 (List.map (encL rn 1 encInt) paths)), (38, .int .i64 (paths.length : Int)), (39, .int .i64 v)], [(b6, ⟨1, List.map encInt seen2⟩)] ++ optH 1 ob3 (List.map (encL rn 1 encInt) next1)⟩) (fun ⟨⟨seen2, next1⟩, ⟨b6, ob3⟩⟩ => ((seen2, next1) = e2) ∧ (ob3 = none → next1 = [])) ?_ ?_
         ·
          refine V.block ?_
          refine V.keep 92 [11, 12, 55, 0, 2, 3, 14, 15, 37, 38, 39, 53, 54] [0] (E0 := [(11, .sref b5 1 0 (List.length seen1)), (12, .nils), (55, .int .i64 (0 : Int)), (0, .vl ρ0 4 (List.map (encFormat ρ0) list)), (2, .int .i64 to_), (3, .int .i64 day), (14, .vl rn 1 (List.map encInt (paths.getD (Int.toNat v) default))), (15, .int .i64 ((paths.getD (Int.toNat v) default).getD (Int.toNat (IntKind.i64.wrap (((paths.getD (Int.toNat v) default).length : Int) - (1 : Int)))) default)), (37, .vl rn 1 (List.map (encL rn 1 encInt) paths)), (38, .int .i64 (paths.length : Int)), (39, .int .i64 v), (53, .vl ρ0 4 (List.map (encFormat ρ0) list)), (54, .int .i64 (list.length : Int))]) (H0 := [(b5, ⟨1, List.map encInt seen1⟩)]) rfl (⟨_, _, rfl, rfl, _, _, rfl, rfl, _, _, rfl, rfl, _, _, rfl, rfl, _, _, rfl, rfl, _, _, rfl, rfl, _, _, rfl, rfl, _, _, rfl, rfl, _, _, rfl, rfl, _, _, rfl, rfl, _, _, rfl, rfl, _, _, rfl, rfl, _, _, rfl, rfl, rfl⟩) (⟨_, _, rfl, rfl, rfl⟩) rfl ?_
          refine V.loopE (D := Nat × (List Int × List (List Int) × Int) × (Nat × Option Nat)) (fun ⟨n2, ⟨seen3, next2, v0⟩, ⟨b7, ob4⟩⟩ => [(11, .sref b7 1 0 (List.length seen3)), (12, optS 1 ob4 (List.length next2)), (55, .int .i64 v0)]) (fun ⟨n2, ⟨seen3, next2, v0⟩, ⟨b7, ob4⟩⟩ => [(b7, ⟨1, List.map encInt seen3⟩)] ++ optH 1 ob4 (List.map (encL rn 1 encInt) next2)) (fun ⟨n2, ⟨seen3, next2, v0⟩, ⟨b7, ob4⟩⟩ => loopO (M.impl_ShortestPath_l2 list day paths v) n2 (seen3, next2, v0) = some e2 ∧ (ob4 = none → next2 = [])) (fun ⟨n2, _, _⟩ => n2) (rounds, (seen1, next0, (0 : Int)), (b5, none)) rfl ⟨he3, (fun _ => hob2)⟩ ?_
          rintro ⟨n2, ⟨seen3, next2, v0⟩, ⟨b7, ob4⟩⟩ ⟨hP2, hob4⟩
          obtain ⟨m2, y4, rfl, hm3, hl3, hr3⟩ := loop_head hP2
          unfold M.impl_ShortestPath_l2 at hm3; dsimp only at hm3
          rcases ob4 with _ | ob4
          ·
           replace hob4 := hob4 rfl
           show V _ _ _ ⟨92, [(11, .sref b7 1 0 (List.length seen3)), (12, .nils), (55, .int .i64 v0), (0, .vl ρ0 4 (List.map (encFormat ρ0) list)), (2, .int .i64 to_), (3, .int .i64 day), (14, .vl rn 1 (List.map encInt (paths.getD (Int.toNat v) default))), (15, .int .i64 ((paths.getD (Int.toNat v) default).getD (Int.toNat (IntKind.i64.wrap (((paths.getD (Int.toNat v) default).length : Int) - (1 : Int)))) default)), (37, .vl rn 1 (List.map (encL rn 1 encInt) paths)), (38, .int .i64 (paths.length : Int)), (39, .int .i64 v), (53, .vl ρ0 4 (List.map (encFormat ρ0) list)), (54, .int .i64 (list.length : Int))], [(b7, ⟨1, List.map encInt seen3⟩)]⟩
           refine V.seq ?_
           refine V.region ?_
           refine VO.cons rfl (V1.int rfl rfl rfl rfl rfl lt0 ?_)
           refine VO.nil ?_
           refine V.seq ?_
           refine V.cond rfl (fun hc4 => ?_) (fun hc4 => ?_)
           ·
            replace hm3 := cond_t hc4 hm3
            refine V.skip ?_
            refine V.seq ?_
            replace hm3 := bindO hm3; rcases hm3 with ⟨j0, hm4, hm3⟩
            refine V.cutT (D := (List Int × List (List Int)) × (Nat × Option Nat)) (fun ⟨⟨seen4, next3⟩, ⟨b8, ob5⟩⟩ => ⟨92, [(11, .sref b8 1 0 (List.length seen4)), (12, optS 1 ob5 (List.length next3)), (0, .vl ρ0 4 (List.map (encFormat ρ0) list)), (2, .int .i64 to_), (3, .int .i64 day), (14, .vl rn 1 (List.map encInt (paths.getD (Int.toNat v) default))), (15, .int .i64 ((paths.getD (Int.toNat v) default).getD (Int.toNat (IntKind.i64.wrap (((paths.getD (Int.toNat v) default).length : Int) - (1 : Int)))) default)), (37, .vl rn 1 (List.map (encL rn 1 encInt) paths)), (38, .int .i64 (paths.length : Int)), (39, .int .i64 v), (53, .vl ρ0 4 (List.map (encFormat ρ0) list)), (54, .int .i64 (list.length : Int)), (55, .int .i64 v0)], [(b8, ⟨1, List.map encInt seen4⟩)] ++ optH 1 ob5 (List.map (encL rn 1 encInt) next3)⟩) (fun ⟨⟨seen4, next3⟩, ⟨b8, ob5⟩⟩ => ((seen4, next3) = j0) ∧ (ob5 = none → next3 = [])) ?_ ?_
            ·
             refine V.block ?_
             refine V.seq ?_
             replace hm4 := asrt_some hm4; rcases hm4 with ⟨hh4, hm4⟩
             refine V.region ?_
             refine VO.cons rfl (V1.indexI rfl rfl esz_24 rfl rfl hh4 lt0 ?_)
             refine VO.cons rfl (V1.loadPinAll rfl rfl tyk_34 rfl rfl lt0 ?_)
             refine VO.cons rfl (V1.alloc rfl rfl zk_34 lt0 ?_)
             intro b9
             refine VO.cons rfl (V1.storeRefAll (k := 0) rfl rfl tyk_34 rfl rfl rfl rfl rfl rfl ?_)
             refine VO.nil ?_
             refine V.seq ?_
             replace hm4 := bindO hm4; rcases hm4 with ⟨y5, hh5, hm4⟩
             replace hm4 := asrt_some hm4; rcases hm4 with ⟨hh6, hm4⟩
             replace hm4 := bindO hm4; rcases hm4 with ⟨y6, hh7, hm4⟩
             replace hm4 := bindO hm4; rcases hm4 with ⟨y7, hh8, hm4⟩
             refine V.regionM 92 16 [⟨[(0, none)], [], none⟩, ⟨[(0, none)], [], none⟩, ⟨[(15, none)], [], none⟩, ⟨[(60, some 1), (61, some 0)], [], none⟩, ⟨[(59, some 3), (62, some 0)], [], none⟩, ⟨[(63, some 0)], [], none⟩, ⟨[(17, none)], [], none⟩, ⟨[(3, none)], [], none⟩, ⟨[(64, some 2), (65, some 1), (66, some 0)], [], none⟩, ⟨[(67, some 0)], [], none⟩, ⟨[(11, none)], [(0, true)], none⟩, ⟨[(17, none)], [(1, true)], none⟩, ⟨[(70, some 0)], [(2, true)], none⟩, ⟨[(69, some 2), (71, some 0)], [(3, true)], none⟩, ⟨[(72, some 0)], [(4, true)], none⟩, ⟨[], [], some (true, 68, 73, 5, 0)⟩] [(0, none), (2, none), (3, none), (11, none), (12, none), (14, none), (15, none), (17, none), (37, none), (38, none), (39, none), (53, none), (54, none), (55, none), (74, some 0)] (⟨_, rfl, ⟨_, rfl, ⟨_, rfl, ⟨_, rfl, ⟨_, rfl, ⟨_, rfl, ⟨_, rfl, ⟨_, rfl, ⟨_, rfl, ⟨_, rfl, ⟨_, rfl, ⟨_, rfl, ⟨_, rfl, ⟨_, rfl, ⟨_, rfl, ⟨_, rfl, ⟨rfl, rfl⟩⟩⟩⟩⟩⟩⟩⟩⟩⟩⟩⟩⟩⟩⟩⟩⟩) mixed_orders rfl (by decide +kernel) (fun hck16 => ?_)
             refine VP.step (p := ?pv36999) rfl rfl rfl (⟨_, _, rfl, rfl, rfl⟩) ?hv36999 ?rest36999 hck16
             case hv36999 =>
              intro E1
              refine (V1.move rfl rfl rfl lt0 ?_)
              exact rfl
             refine VP.step (p := ?pv37000) rfl rfl rfl (⟨_, _, rfl, rfl, rfl⟩) ?hv37000 ?rest37000 hck16
             case hv37000 =>
              intro E1
              refine (V1.move rfl rfl rfl lt0 ?_)
              exact rfl
             refine VP.step (p := ?pv37001) rfl rfl rfl (⟨_, _, rfl, rfl, rfl⟩) ?hv37001 ?rest37001 hck16
             case hv37001 =>
              intro E1
              refine (V1.move rfl rfl rfl lt0 ?_)
              exact rfl
             refine VP.step (p := ?pv37002) rfl rfl rfl (⟨_, _, rfl, rfl, _, _, rfl, rfl, rfl⟩) ?hv37002 ?rest37002 hck16
             case hv37002 =>
              intro E1
              refine (V1.call rfl rfl rfl cok_54 rfl (ok_impl_formatAt hh5) rfl lt0 ?_)
              rintro _ _ ⟨rfl, rfl⟩
              exact rfl
             refine VP.step (p := ?pv37004) rfl rfl rfl (⟨_, _, rfl, rfl, _, _, rfl, rfl, rfl⟩) ?hv37004 ?rest37004 hck16
             case hv37004 =>
              intro E1
              refine (V1.indexI rfl rfl esz_24 rfl rfl hh6 lt0 ?_)
              exact rfl
             refine VP.step (p := ?pv37005) rfl rfl rfl (⟨_, _, rfl, rfl, rfl⟩) ?hv37005 ?rest37005 hck16
             case hv37005 =>
              intro E1
              refine (V1.loadPinAll rfl rfl tyk_34 rfl rfl lt0 ?_)
              exact rfl
             refine VP.step (p := ?pv37006) rfl rfl rfl (⟨_, _, rfl, rfl, rfl⟩) ?hv37006 ?rest37006 hck16
             case hv37006 =>
              intro E1
              refine (V1.loadRefAll (k := 0) rfl rfl tyk_34 rfl rfl rfl rfl rfl lt0 ?_)
              exact rfl
             refine VP.step (p := ?pv37007) rfl rfl rfl (⟨_, _, rfl, rfl, rfl⟩) ?hv37007 ?rest37007 hck16
             case hv37007 =>
              intro E1
              refine (V1.move rfl rfl rfl lt0 ?_)
              exact rfl
             refine VP.step (p := ?pv37008) rfl rfl rfl (⟨_, _, rfl, rfl, _, _, rfl, rfl, _, _, rfl, rfl, rfl⟩) ?hv37008 ?rest37008 hck16
             case hv37008 =>
              intro E1
              refine (V1.call rfl rfl rfl cok_55 rfl (ok_impl_leads hh7) rfl lt0 ?_)
              rintro _ _ ⟨rfl, rfl⟩
              exact rfl
             refine VP.step (p := ?pv37010) rfl rfl rfl (⟨_, _, rfl, rfl, rfl⟩) ?hv37010 ?rest37010 hck16
             case hv37010 =>
              intro E1
              refine (V1.move rfl rfl rfl lt0 ?_)
              exact rfl
             refine VP.step (p := ?pv37011) rfl rfl rfl (⟨_, _, rfl, rfl, rfl⟩) ?hv37011 ?rest37011 hck16
             case hv37011 =>
              refine ⟨_, rfl, fun hg1 => ?_⟩
              intro E1
              refine (V1.move rfl rfl rfl lt0 ?_)
              exact rfl
             refine VP.step (p := ?pv37012) rfl rfl rfl (⟨_, _, rfl, rfl, rfl⟩) ?hv37012 ?rest37012 hck16
             case hv37012 =>
              refine ⟨_, rfl, fun hg1 => ?_⟩
              intro E1
              refine (V1.fieldRef rfl rfl fo_34_0 rfl lt0 ?_)
              exact rfl
             refine VP.step (p := ?pv37013) rfl rfl rfl (⟨_, _, rfl, rfl, rfl⟩) ?hv37013 ?rest37013 hck16
             case hv37013 =>
              refine ⟨_, rfl, fun hg1 => ?_⟩
              intro E1
              refine (V1.loadRef (k := 0) rfl rfl tyk_3 rfl rfl rfl rfl rfl lt0 ?_)
              exact rfl
             refine VP.step (p := ?pv37014) rfl rfl rfl (⟨_, _, rfl, rfl, _, _, rfl, rfl, rfl⟩) ?hv37014 ?rest37014 hck16
             case hv37014 =>
              refine ⟨_, rfl, fun hg1 => ?_⟩
              intro E1
              refine (V1.callL (rn + 1) [b7] [.vl (rn + 1) 1 (List.map encInt seen3), .int .i64 ((list.getD (Int.toNat v0) default).Id)] rfl rfl rfl cok_56 rfl ⟨_, _, rfl, Lend.srMap 1 rfl (fun _ => rfl) (.head _), ⟨_, _, rfl, .same _, rfl⟩⟩ (bwCons (k := 1) rfl bwNil) (ok_slices_Contains_int_int (cond_t hg1 hh8)) rfl (⟨(by first | omega | (dsimp only; omega)), by rintro _ _ ⟨rfl, rfl⟩; exact ⟨rfl, by simp⟩⟩) lt0 ?_)
              rintro _ _ ⟨rfl, rfl⟩
              exact rfl
             refine VP.step (p := ?pv37016) rfl rfl rfl (⟨_, _, rfl, rfl, rfl⟩) ?hv37016 ?rest37016 hck16
             case hv37016 =>
              refine ⟨_, rfl, fun hg1 => ?_⟩
              intro E1
              refine (V1.not rfl rfl rfl lt0 ?_)
              exact rfl
             refine VP.pickAnd rfl rfl rfl rfl rfl rfl (trivial) ?_ hck16
             refine VP.fin rfl (⟨_, _, rfl, rfl, _, _, rfl, rfl, _, _, rfl, rfl, _, _, rfl, rfl, _, _, rfl, rfl, _, _, rfl, rfl, _, _, rfl, rfl, _, _, rfl, rfl, _, _, rfl, rfl, _, _, rfl, rfl, _, _, rfl, rfl, _, _, rfl, rfl, _, _, rfl, rfl, _, _, rfl, rfl, _, _, rfl, rfl, rfl⟩) ?_
             refine VO.nil ?_
             refine V.cond rfl (fun hc5 => ?_) (fun hc5 => ?_)
             ·
              replace hm4 := cond_t hc5 hm4
              refine V.seq ?_
              replace hm4 := asrt_some hm4; rcases hm4 with ⟨hh9, hm4⟩
              refine V.region ?_
              refine VO.cons rfl (V1.move rfl rfl rfl lt0 ?_)
              refine VO.cons rfl (V1.fieldRef rfl rfl fo_34_0 rfl lt0 ?_)
              refine VO.cons rfl (V1.loadRef (k := 0) rfl rfl tyk_3 rfl rfl rfl rfl rfl lt0 ?_)
              refine VO.cons rfl (V1.buildSliceT (f := encInt) ([(list.getD (Int.toNat v0) default).Id] : List Int) rfl rfl esz_27 zk_3 rfl rfl rfl rfl rfl rfl rfl lt0 ?_)
              intro b10
              refine VO.cons rfl (V1.appendMap (k := 2) (f := encInt) (l := seen3) (m := ([(list.getD (Int.toNat v0) default).Id] : List Int)) rfl rfl rfl rfl rfl esz_27 eby_27 zk_3 rfl rfl rfl (SrcOf.srMap (k := 0) rfl isl_27) hh9 lt0 ?_)
              intro b11
              refine VO.cons rfl (V1.assign rfl rfl rfl lt0 ?_)
              refine VO.nil ?_
              refine V.keep 92 [0, 2, 3, 11, 12, 14, 15, 17, 37, 38, 39, 53, 54, 55] [0, 2] (E0 := [(0, .vl ρ0 4 (List.map (encFormat ρ0) list)), (2, .int .i64 to_), (3, .int .i64 day), (11, .sref b11 1 0 (List.length (seen3 ++ ([(list.getD (Int.toNat v0) default).Id] : List Int)))), (12, .nils), (14, .vl rn 1 (List.map encInt (paths.getD (Int.toNat v) default))), (15, .int .i64 ((paths.getD (Int.toNat v) default).getD (Int.toNat (IntKind.i64.wrap (((paths.getD (Int.toNat v) default).length : Int) - (1 : Int)))) default)), (17, .ref b9 4 0 0), (37, .vl rn 1 (List.map (encL rn 1 encInt) paths)), (38, .int .i64 (paths.length : Int)), (39, .int .i64 v), (53, .vl ρ0 4 (List.map (encFormat ρ0) list)), (54, .int .i64 (list.length : Int)), (55, .int .i64 v0)]) (H0 := [(b11, ⟨1, List.map encInt (seen3 ++ ([(list.getD (Int.toNat v0) default).Id] : List Int))⟩), (b9, ⟨4, [encFormat ρ0 (list.getD (Int.toNat v0) default)]⟩)]) rfl (⟨_, _, rfl, rfl, _, _, rfl, rfl, _, _, rfl, rfl, _, _, rfl, rfl, _, _, rfl, rfl, _, _, rfl, rfl, _, _, rfl, rfl, _, _, rfl, rfl, _, _, rfl, rfl, _, _, rfl, rfl, _, _, rfl, rfl, _, _, rfl, rfl, _, _, rfl, rfl, _, _, rfl, rfl, rfl⟩) (⟨_, _, rfl, rfl, _, _, rfl, rfl, rfl⟩) rfl ?_
              replace hm4 := bindO hm4; rcases hm4 with ⟨y8, hh10, hm4⟩
              replace hm4 := asrt_some hm4; rcases hm4 with ⟨hh11, hm4⟩
              replace hm4 := asrt_some hm4; rcases hm4 with ⟨hh12, hm4⟩
              refine V.regionS [(b9, ⟨4, [encFormat ρ0 (list.getD (Int.toNat v0) default)]⟩)] 92 8 [⟨[(12, none)], false⟩, ⟨[(14, none)], false⟩, ⟨[(81, some 1)], true⟩, ⟨[(17, none)], false⟩, ⟨[(83, some 3)], false⟩, ⟨[(84, some 4)], false⟩, ⟨[(82, some 2), (85, some 5)], true⟩, ⟨[(86, some 6)], true⟩] [(0, none), (2, none), (3, none), (11, none), (14, none), (15, none), (37, none), (38, none), (39, none), (53, none), (54, none), (55, none), (80, some 0), (87, some 7)] 3 (⟨_, rfl, ⟨_, rfl, ⟨_, rfl, ⟨_, rfl, ⟨_, rfl, ⟨_, rfl, ⟨_, rfl, ⟨_, rfl, ⟨rfl, rfl⟩⟩⟩⟩⟩⟩⟩⟩⟩) mixed_orders rfl (by decide +kernel) ?_
              refine WalkP.step (p := ?pv37020) 0 rfl rfl rfl rfl rfl (⟨_, _, rfl, rfl, rfl⟩) ?hv37020 ?rest37020
              case hv37020 =>
               intro E1 H1 hI1
               refine (V1.move rfl rfl rfl lt0 ?_)
               exact rfl
              refine WalkP.step (p := ?pv37021) 1 rfl rfl rfl rfl rfl (⟨_, _, rfl, rfl, rfl⟩) ?hv37021 ?rest37021
              case hv37021 =>
               intro E1 H1 hI1
               refine (V1.move rfl rfl rfl lt0 ?_)
               exact rfl
              refine WalkP.step (p := ?pv37022) 3 rfl rfl rfl rfl rfl (⟨_, _, rfl, rfl, rfl⟩) ?hv37022 ?rest37022
              case hv37022 =>
               intro E1 H1 hI1
               refine (V1.fieldRef rfl rfl fo_34_0 rfl lt0 ?_)
               exact rfl
              refine WalkP.step (p := ?pv37023) 4 rfl rfl rfl rfl rfl (⟨_, _, rfl, rfl, rfl⟩) ?hv37023 ?rest37023
              case hv37023 =>
               intro E1 H1 hI1
               obtain ⟨k37024_, hk37024_⟩ := inGet 0 rfl hI1
               refine (V1.loadRef (k := k37024_) rfl rfl tyk_3 rfl hk37024_ rfl rfl rfl lt0 ?_)
               exact rfl
              refine WalkP.step (p := ?pv37025) 5 rfl rfl rfl rfl rfl (⟨_, _, rfl, rfl, rfl⟩) ?hv37025 ?rest37025
              case hv37025 =>
               intro E1 H1 hI1
               refine (V1.buildFrz (f := encInt) ([(list.getD (Int.toNat v0) default).Id] : List Int) (fun _ => rfl) iNil rfl rfl esz_27 zk_3 rfl rfl rfl rfl rfl rfl rfl lt0 ?_)
               exact rfl
              refine WalkP.nil ?_
              refine NodeS.branch [2] (inCons 1 rfl inNil) rfl rfl rfl ⟨?_, trivial⟩
              ·
               refine ⟨_, _, _, _, rfl, rfl, rfl, (⟨_, _, rfl, rfl, rfl⟩), fun E1 => ?_⟩
               refine (V1.permK (V1.call rfl rfl rfl cok_57 rfl (ok_slices_Clone_int_int hh10) rfl lt0 ?_))
               rintro _ _ ⟨ob7, hob7, rfl, rfl⟩
               refine ⟨_, ?_, Keeps.optBack (n := 1) (ob := ob7) (xs := List.map encInt y8) (H1 := []) (H2 := [(b11, ⟨1, List.map encInt (seen3 ++ ([(list.getD (Int.toNat v0) default).Id] : List Int))⟩), (b9, ⟨4, [encFormat ρ0 (list.getD (Int.toNat v0) default)]⟩)]) rfl⟩
               refine ⟨_, _, rfl, ?_⟩
               refine WalkP.nil ?_
               refine NodeS.branch [6] (inCons 1 rfl inNil) rfl rfl rfl ⟨?_, trivial⟩
               ·
                refine ⟨_, _, _, _, rfl, rfl, rfl, (⟨_, _, rfl, rfl, _, _, rfl, rfl, rfl⟩), fun E1 => ?_⟩
                refine (V1.thenK (V1.appendOpt (f := encInt) (l := y8) (m := ([(list.getD (Int.toNat v0) default).Id] : List Int)) [(b11, ⟨1, List.map encInt (seen3 ++ ([(list.getD (Int.toNat v0) default).Id] : List Int))⟩), (b9, ⟨4, [encFormat ρ0 (list.getD (Int.toNat v0) default)]⟩)] hob7 rfl rfl rfl rfl rfl esz_27 eby_27 zk_3 rfl rfl rfl rfl (.vl isl_27) rfl hh11 lt0 ?_))
                intro b17
                refine ⟨_, Keeps.frzTop (f := encInt) (l := (y8 ++ ([(list.getD (Int.toNat v0) default).Id] : List Int))) (fun _ => rfl) iNil, ?_⟩
                refine ⟨_, _, rfl, ?_⟩
                refine WalkP.nil ?_
                refine NodeS.branch [7] (inCons 1 rfl inNil) rfl rfl rfl ⟨?_, trivial⟩
                ·
                 refine ⟨_, _, _, _, rfl, rfl, rfl, (⟨_, _, rfl, rfl, rfl⟩), fun E1 => ?_⟩
                 refine (V1.buildSliceT (f := (encL rn 1 encInt)) ([(y8 ++ ([(list.getD (Int.toNat v0) default).Id] : List Int))] : List (List Int)) rfl rfl esz_47 zk_27 rfl rfl rfl rfl rfl rfl rfl lt0 ?_)
                 intro b18
                 refine ⟨_, _, rfl, ?_⟩
                 refine WalkP.nil ?_
                 refine NodeS.fin (inCons 2 rfl inNil) rfl rfl rfl (⟨_, _, rfl, rfl, _, _, rfl, rfl, _, _, rfl, rfl, _, _, rfl, rfl, _, _, rfl, rfl, _, _, rfl, rfl, _, _, rfl, rfl, _, _, rfl, rfl, _, _, rfl, rfl, _, _, rfl, rfl, _, _, rfl, rfl, _, _, rfl, rfl, _, _, rfl, rfl, _, _, rfl, rfl, rfl⟩) ?_
                 refine VO.cons rfl (V1.appendNilE (f := (encL rn 1 encInt)) (l := next2) (m := ([(y8 ++ ([(list.getD (Int.toNat v0) default).Id] : List Int))] : List (List Int))) hob4 rfl rfl rfl rfl rfl esz_47 eby_47 zk_27 rfl rfl rfl (SrcOf.srMap (k := 0) rfl isl_47) rfl hh12 lt0 ?_)
                 intro b19
                 refine VO.cons rfl (V1.assign rfl rfl rfl lt0 ?_)
                 refine VO.nil ?_
                 exact ⟨(((seen3 ++ ([(list.getD (Int.toNat v0) default).Id] : List Int)), (next2 ++ ([(y8 ++ ([(list.getD (Int.toNat v0) default).Id] : List Int))] : List (List Int)))), (b11, (some b19))), ⟨Option.some.inj hm4, (fun e => by cases e)⟩, Keeps.mk (ks := [2, 0]) rfl ⟨rfl, rfl, rfl, rfl, rfl, rfl, rfl, rfl, rfl, rfl, rfl, rfl, rfl, trivial⟩ (⟨_, _, rfl, rfl, _, _, rfl, rfl, rfl⟩) rfl⟩
             ·
              replace hm4 := cond_f hc5 hm4
              refine V.skip ?_
              exact ⟨((seen3, next2), (b7, none)), ⟨Option.some.inj hm4, (fun _ => hob4)⟩, Keeps.mk (ks := [1]) rfl ⟨rfl, rfl, rfl, rfl, rfl, rfl, rfl, rfl, rfl, rfl, rfl, rfl, rfl, trivial⟩ (⟨_, _, rfl, rfl, rfl⟩) rfl⟩
            ·
             rintro ⟨⟨seen4, next3⟩, ⟨b8, ob5⟩⟩ ⟨rfl, hob5⟩
             try dsimp only at hm3
             rcases ob5 with _ | ob5
             ·
              replace hob5 := hob5 rfl
              refine V.region ?_
              refine VO.cons rfl (V1.int rfl rfl rfl rfl rfl lt0 ?_)
              refine VO.cons rfl (V1.move rfl rfl rfl lt0 ?_)
              refine VO.nil ?_
              exact ⟨(m2, (seen4, next3, (IntKind.i64.wrap (v0 + (1 : Int)))), (b8, none)), ⟨hl3 _ (Option.some.inj hm3).symm, (fun _ => hob5)⟩, Nat.lt_succ_self _, Keeps.mk (ks := [0]) rfl ⟨rfl, rfl, rfl, rfl, rfl, rfl, rfl, rfl, rfl, rfl, rfl, rfl, rfl, trivial⟩ (⟨_, _, rfl, rfl, rfl⟩) rfl⟩
             ·
              refine V.region ?_
              refine VO.cons rfl (V1.int rfl rfl rfl rfl rfl lt0 ?_)
              refine VO.cons rfl (V1.move rfl rfl rfl lt0 ?_)
              refine VO.nil ?_
              exact ⟨(m2, (seen4, next3, (IntKind.i64.wrap (v0 + (1 : Int)))), (b8, (some ob5))), ⟨hl3 _ (Option.some.inj hm3).symm, (fun e => by cases e)⟩, Nat.lt_succ_self _, Keeps.mk (ks := [0, 1]) rfl ⟨rfl, rfl, rfl, rfl, rfl, rfl, rfl, rfl, rfl, rfl, rfl, rfl, rfl, trivial⟩ (⟨_, _, rfl, rfl, _, _, rfl, rfl, rfl⟩) rfl⟩
           ·
            replace hm3 := cond_f hc4 hm3
            refine V.exit ?_
            obtain rfl := hr3 _ (Option.some.inj hm3).symm
            exact ⟨((seen3, next2), (b7, none)), ⟨rfl, (fun _ => hob4)⟩, Keeps.mk (ks := [0]) rfl ⟨rfl, rfl, rfl, rfl, rfl, rfl, rfl, rfl, trivial⟩ (⟨_, _, rfl, rfl, rfl⟩) rfl⟩
          ·
           show V _ _ _ ⟨92, [(11, .sref b7 1 0 (List.length seen3)), (12, .sref ob4 1 0 (List.length next2)), (55, .int .i64 v0), (0, .vl ρ0 4 (List.map (encFormat ρ0) list)), (2, .int .i64 to_), (3, .int .i64 day), (14, .vl rn 1 (List.map encInt (paths.getD (Int.toNat v) default))), (15, .int .i64 ((paths.getD (Int.toNat v) default).getD (Int.toNat (IntKind.i64.wrap (((paths.getD (Int.toNat v) default).length : Int) - (1 : Int)))) default)), (37, .vl rn 1 (List.map (encL rn 1 encInt) paths)), (38, .int .i64 (paths.length : Int)), (39, .int .i64 v), (53, .vl ρ0 4 (List.map (encFormat ρ0) list)), (54, .int .i64 (list.length : Int))], [(b7, ⟨1, List.map encInt seen3⟩), (ob4, ⟨1, List.map (encL rn 1 encInt) next2⟩)]⟩
           refine V.seq ?_
           refine V.region ?_
           refine VO.cons rfl (V1.int rfl rfl rfl rfl rfl lt0 ?_)
           refine VO.nil ?_
           refine V.seq ?_
           refine V.cond rfl (fun hc4 => ?_) (fun hc4 => ?_)
           ·
            replace hm3 := cond_t hc4 hm3
            refine V.skip ?_
            refine V.seq ?_
            replace hm3 := bindO hm3; rcases hm3 with ⟨j0, hm4, hm3⟩
            refine V.cutT (D := (List Int × List (List Int)) × (Nat × Nat)) (fun ⟨⟨seen4, next3⟩, ⟨b8, b9⟩⟩ => ⟨92, [(11, .sref b8 1 0 (List.length seen4)), (12, .sref b9 1 0 (List.length next3)), (0, .vl ρ0 4 (List.map (encFormat ρ0) list)), (2, .int .i64 to_), (3, .int .i64 day), (14, .vl rn 1 (List.map encInt (paths.getD (Int.toNat v) default))), (15, .int .i64 ((paths.getD (Int.toNat v) default).getD (Int.toNat (IntKind.i64.wrap (((paths.getD (Int.toNat v) default).length : Int) - (1 : Int)))) default)), (37, .vl rn 1 (List.map (encL rn 1 encInt) paths)), (38, .int .i64 (paths.length : Int)), (39, .int .i64 v), (53, .vl ρ0 4 (List.map (encFormat ρ0) list)), (54, .int .i64 (list.length : Int)), (55, .int .i64 v0)], [(b8, ⟨1, List.map encInt seen4⟩), (b9, ⟨1, List.map (encL rn 1 encInt) next3⟩)]⟩) (fun ⟨⟨seen4, next3⟩, ⟨b8, b9⟩⟩ => ((seen4, next3) = j0)) ?_ ?_
            ·
             refine V.block ?_
             refine V.seq ?_
             replace hm4 := asrt_some hm4; rcases hm4 with ⟨hh4, hm4⟩
             refine V.region ?_
             refine VO.cons rfl (V1.indexI rfl rfl esz_24 rfl rfl hh4 lt0 ?_)
             refine VO.cons rfl (V1.loadPinAll rfl rfl tyk_34 rfl rfl lt0 ?_)
             refine VO.cons rfl (V1.alloc rfl rfl zk_34 lt0 ?_)
             intro b10
             refine VO.cons rfl (V1.storeRefAll (k := 0) rfl rfl tyk_34 rfl rfl rfl rfl rfl rfl ?_)
             refine VO.nil ?_
             refine V.seq ?_
             replace hm4 := bindO hm4; rcases hm4 with ⟨y5, hh5, hm4⟩
             replace hm4 := asrt_some hm4; rcases hm4 with ⟨hh6, hm4⟩
             replace hm4 := bindO hm4; rcases hm4 with ⟨y6, hh7, hm4⟩
             replace hm4 := bindO hm4; rcases hm4 with ⟨y7, hh8, hm4⟩
             refine V.regionM 92 16 [⟨[(0, none)], [], none⟩, ⟨[(0, none)], [], none⟩, ⟨[(15, none)], [], none⟩, ⟨[(60, some 1), (61, some 0)], [], none⟩, ⟨[(59, some 3), (62, some 0)], [], none⟩, ⟨[(63, some 0)], [], none⟩, ⟨[(17, none)], [], none⟩, ⟨[(3, none)], [], none⟩, ⟨[(64, some 2), (65, some 1), (66, some 0)], [], none⟩, ⟨[(67, some 0)], [], none⟩, ⟨[(11, none)], [(0, true)], none⟩, ⟨[(17, none)], [(1, true)], none⟩, ⟨[(70, some 0)], [(2, true)], none⟩, ⟨[(69, some 2), (71, some 0)], [(3, true)], none⟩, ⟨[(72, some 0)], [(4, true)], none⟩, ⟨[], [], some (true, 68, 73, 5, 0)⟩] [(0, none), (2, none), (3, none), (11, none), (12, none), (14, none), (15, none), (17, none), (37, none), (38, none), (39, none), (53, none), (54, none), (55, none), (74, some 0)] (⟨_, rfl, ⟨_, rfl, ⟨_, rfl, ⟨_, rfl, ⟨_, rfl, ⟨_, rfl, ⟨_, rfl, ⟨_, rfl, ⟨_, rfl, ⟨_, rfl, ⟨_, rfl, ⟨_, rfl, ⟨_, rfl, ⟨_, rfl, ⟨_, rfl, ⟨_, rfl, ⟨rfl, rfl⟩⟩⟩⟩⟩⟩⟩⟩⟩⟩⟩⟩⟩⟩⟩⟩⟩) mixed_orders rfl (by decide +kernel) (fun hck16 => ?_)
             refine VP.step (p := ?pv37059) rfl rfl rfl (⟨_, _, rfl, rfl, rfl⟩) ?hv37059 ?rest37059 hck16
             case hv37059 =>
              intro E1
              refine (V1.move rfl rfl rfl lt0 ?_)
              exact rfl
             refine VP.step (p := ?pv37060) rfl rfl rfl (⟨_, _, rfl, rfl, rfl⟩) ?hv37060 ?rest37060 hck16
             case hv37060 =>
              intro E1
              refine (V1.move rfl rfl rfl lt0 ?_)
              exact rfl
             refine VP.step (p := ?pv37061) rfl rfl rfl (⟨_, _, rfl, rfl, rfl⟩) ?hv37061 ?rest37061 hck16
             case hv37061 =>
              intro E1
              refine (V1.move rfl rfl rfl lt0 ?_)
              exact rfl
             refine VP.step (p := ?pv37062) rfl rfl rfl (⟨_, _, rfl, rfl, _, _, rfl, rfl, rfl⟩) ?hv37062 ?rest37062 hck16
             case hv37062 =>
              intro E1
              refine (V1.call rfl rfl rfl cok_54 rfl (ok_impl_formatAt hh5) rfl lt0 ?_)
              rintro _ _ ⟨rfl, rfl⟩
              exact rfl
             refine VP.step (p := ?pv37064) rfl rfl rfl (⟨_, _, rfl, rfl, _, _, rfl, rfl, rfl⟩) ?hv37064 ?rest37064 hck16
             case hv37064 =>
              intro E1
              refine (V1.indexI rfl rfl esz_24 rfl rfl hh6 lt0 ?_)
              exact rfl
             refine VP.step (p := ?pv37065) rfl rfl rfl (⟨_, _, rfl, rfl, rfl⟩) ?hv37065 ?rest37065 hck16
             case hv37065 =>
              intro E1
              refine (V1.loadPinAll rfl rfl tyk_34 rfl rfl lt0 ?_)
              exact rfl
             refine VP.step (p := ?pv37066) rfl rfl rfl (⟨_, _, rfl, rfl, rfl⟩) ?hv37066 ?rest37066 hck16
             case hv37066 =>
              intro E1
              refine (V1.loadRefAll (k := 0) rfl rfl tyk_34 rfl rfl rfl rfl rfl lt0 ?_)
              exact rfl
             refine VP.step (p := ?pv37067) rfl rfl rfl (⟨_, _, rfl, rfl, rfl⟩) ?hv37067 ?rest37067 hck16
             case hv37067 =>
              intro E1
              refine (V1.move rfl rfl rfl lt0 ?_)
              exact rfl
             refine VP.step (p := ?pv37068) rfl rfl rfl (⟨_, _, rfl, rfl, _, _, rfl, rfl, _, _, rfl, rfl, rfl⟩) ?hv37068 ?rest37068 hck16
             case hv37068 =>
              intro E1
              refine (V1.call rfl rfl rfl cok_55 rfl (ok_impl_leads hh7) rfl lt0 ?_)
              rintro _ _ ⟨rfl, rfl⟩
              exact rfl
             refine VP.step (p := ?pv37070) rfl rfl rfl (⟨_, _, rfl, rfl, rfl⟩) ?hv37070 ?rest37070 hck16
             case hv37070 =>
              intro E1
              refine (V1.move rfl rfl rfl lt0 ?_)
              exact rfl
             refine VP.step (p := ?pv37071) rfl rfl rfl (⟨_, _, rfl, rfl, rfl⟩) ?hv37071 ?rest37071 hck16
             case hv37071 =>
              refine ⟨_, rfl, fun hg1 => ?_⟩
              intro E1
              refine (V1.move rfl rfl rfl lt0 ?_)
              exact rfl
             refine VP.step (p := ?pv37072) rfl rfl rfl (⟨_, _, rfl, rfl, rfl⟩) ?hv37072 ?rest37072 hck16
             case hv37072 =>
              refine ⟨_, rfl, fun hg1 => ?_⟩
              intro E1
              refine (V1.fieldRef rfl rfl fo_34_0 rfl lt0 ?_)
              exact rfl
             refine VP.step (p := ?pv37073) rfl rfl rfl (⟨_, _, rfl, rfl, rfl⟩) ?hv37073 ?rest37073 hck16
             case hv37073 =>
              refine ⟨_, rfl, fun hg1 => ?_⟩
              intro E1
              refine (V1.loadRef (k := 0) rfl rfl tyk_3 rfl rfl rfl rfl rfl lt0 ?_)
              exact rfl
             refine VP.step (p := ?pv37074) rfl rfl rfl (⟨_, _, rfl, rfl, _, _, rfl, rfl, rfl⟩) ?hv37074 ?rest37074 hck16
             case hv37074 =>
              refine ⟨_, rfl, fun hg1 => ?_⟩
              intro E1
              refine (V1.callL (rn + 1) [b7] [.vl (rn + 1) 1 (List.map encInt seen3), .int .i64 ((list.getD (Int.toNat v0) default).Id)] rfl rfl rfl cok_56 rfl ⟨_, _, rfl, Lend.srMap 1 rfl (fun _ => rfl) (.head _), ⟨_, _, rfl, .same _, rfl⟩⟩ (bwCons (k := 1) rfl bwNil) (ok_slices_Contains_int_int (cond_t hg1 hh8)) rfl (⟨(by first | omega | (dsimp only; omega)), by rintro _ _ ⟨rfl, rfl⟩; exact ⟨rfl, by simp⟩⟩) lt0 ?_)
              rintro _ _ ⟨rfl, rfl⟩
              exact rfl
             refine VP.step (p := ?pv37076) rfl rfl rfl (⟨_, _, rfl, rfl, rfl⟩) ?hv37076 ?rest37076 hck16
             case hv37076 =>
              refine ⟨_, rfl, fun hg1 => ?_⟩
              intro E1
              refine (V1.not rfl rfl rfl lt0 ?_)
              exact rfl
             refine VP.pickAnd rfl rfl rfl rfl rfl rfl (trivial) ?_ hck16
             refine VP.fin rfl (⟨_, _, rfl, rfl, _, _, rfl, rfl, _, _, rfl, rfl, _, _, rfl, rfl, _, _, rfl, rfl, _, _, rfl, rfl, _, _, rfl, rfl, _, _, rfl, rfl, _, _, rfl, rfl, _, _, rfl, rfl, _, _, rfl, rfl, _, _, rfl, rfl, _, _, rfl, rfl, _, _, rfl, rfl, _, _, rfl, rfl, rfl⟩) ?_
             refine VO.nil ?_
             refine V.cond rfl (fun hc5 => ?_) (fun hc5 => ?_)
             ·
              replace hm4 := cond_t hc5 hm4
              refine V.seq ?_
              replace hm4 := asrt_some hm4; rcases hm4 with ⟨hh9, hm4⟩
              refine V.region ?_
              refine VO.cons rfl (V1.move rfl rfl rfl lt0 ?_)
              refine VO.cons rfl (V1.fieldRef rfl rfl fo_34_0 rfl lt0 ?_)
              refine VO.cons rfl (V1.loadRef (k := 0) rfl rfl tyk_3 rfl rfl rfl rfl rfl lt0 ?_)
              refine VO.cons rfl (V1.buildSliceT (f := encInt) ([(list.getD (Int.toNat v0) default).Id] : List Int) rfl rfl esz_27 zk_3 rfl rfl rfl rfl rfl rfl rfl lt0 ?_)
              intro b11
              refine VO.cons rfl (V1.appendMap (k := 2) (f := encInt) (l := seen3) (m := ([(list.getD (Int.toNat v0) default).Id] : List Int)) rfl rfl rfl rfl rfl esz_27 eby_27 zk_3 rfl rfl rfl (SrcOf.srMap (k := 0) rfl isl_27) hh9 lt0 ?_)
              intro b12
              refine VO.cons rfl (V1.assign rfl rfl rfl lt0 ?_)
              refine VO.nil ?_
              refine V.keep 92 [0, 2, 3, 11, 12, 14, 15, 17, 37, 38, 39, 53, 54, 55] [0, 2, 3] (E0 := [(0, .vl ρ0 4 (List.map (encFormat ρ0) list)), (2, .int .i64 to_), (3, .int .i64 day), (11, .sref b12 1 0 (List.length (seen3 ++ ([(list.getD (Int.toNat v0) default).Id] : List Int)))), (12, .sref ob4 1 0 (List.length next2)), (14, .vl rn 1 (List.map encInt (paths.getD (Int.toNat v) default))), (15, .int .i64 ((paths.getD (Int.toNat v) default).getD (Int.toNat (IntKind.i64.wrap (((paths.getD (Int.toNat v) default).length : Int) - (1 : Int)))) default)), (17, .ref b10 4 0 0), (37, .vl rn 1 (List.map (encL rn 1 encInt) paths)), (38, .int .i64 (paths.length : Int)), (39, .int .i64 v), (53, .vl ρ0 4 (List.map (encFormat ρ0) list)), (54, .int .i64 (list.length : Int)), (55, .int .i64 v0)]) (H0 := [(b12, ⟨1, List.map encInt (seen3 ++ ([(list.getD (Int.toNat v0) default).Id] : List Int))⟩), (b10, ⟨4, [encFormat ρ0 (list.getD (Int.toNat v0) default)]⟩), (ob4, ⟨1, List.map (encL rn 1 encInt) next2⟩)]) rfl (⟨_, _, rfl, rfl, _, _, rfl, rfl, _, _, rfl, rfl, _, _, rfl, rfl, _, _, rfl, rfl, _, _, rfl, rfl, _, _, rfl, rfl, _, _, rfl, rfl, _, _, rfl, rfl, _, _, rfl, rfl, _, _, rfl, rfl, _, _, rfl, rfl, _, _, rfl, rfl, _, _, rfl, rfl, rfl⟩) (⟨_, _, rfl, rfl, _, _, rfl, rfl, _, _, rfl, rfl, rfl⟩) rfl ?_
              replace hm4 := bindO hm4; rcases hm4 with ⟨y8, hh10, hm4⟩
              replace hm4 := asrt_some hm4; rcases hm4 with ⟨hh11, hm4⟩
              replace hm4 := asrt_some hm4; rcases hm4 with ⟨hh12, hm4⟩
              refine V.regionS [(b10, ⟨4, [encFormat ρ0 (list.getD (Int.toNat v0) default)]⟩)] 92 8 [⟨[(12, none)], false⟩, ⟨[(14, none)], false⟩, ⟨[(81, some 1)], true⟩, ⟨[(17, none)], false⟩, ⟨[(83, some 3)], false⟩, ⟨[(84, some 4)], false⟩, ⟨[(82, some 2), (85, some 5)], true⟩, ⟨[(86, some 6)], true⟩] [(0, none), (2, none), (3, none), (11, none), (14, none), (15, none), (37, none), (38, none), (39, none), (53, none), (54, none), (55, none), (80, some 0), (87, some 7)] 3 (⟨_, rfl, ⟨_, rfl, ⟨_, rfl, ⟨_, rfl, ⟨_, rfl, ⟨_, rfl, ⟨_, rfl, ⟨_, rfl, ⟨rfl, rfl⟩⟩⟩⟩⟩⟩⟩⟩⟩) mixed_orders rfl (by decide +kernel) ?_
              refine WalkP.step (p := ?pv37080) 0 rfl rfl rfl rfl rfl (⟨_, _, rfl, rfl, rfl⟩) ?hv37080 ?rest37080
              case hv37080 =>
               intro E1 H1 hI1
               refine (V1.move rfl rfl rfl lt0 ?_)
               exact rfl
              refine WalkP.step (p := ?pv37081) 1 rfl rfl rfl rfl rfl (⟨_, _, rfl, rfl, rfl⟩) ?hv37081 ?rest37081
              case hv37081 =>
               intro E1 H1 hI1
               refine (V1.move rfl rfl rfl lt0 ?_)
               exact rfl
              refine WalkP.step (p := ?pv37082) 3 rfl rfl rfl rfl rfl (⟨_, _, rfl, rfl, rfl⟩) ?hv37082 ?rest37082
              case hv37082 =>
               intro E1 H1 hI1
               refine (V1.fieldRef rfl rfl fo_34_0 rfl lt0 ?_)
               exact rfl
              refine WalkP.step (p := ?pv37083) 4 rfl rfl rfl rfl rfl (⟨_, _, rfl, rfl, rfl⟩) ?hv37083 ?rest37083
              case hv37083 =>
               intro E1 H1 hI1
               obtain ⟨k37084_, hk37084_⟩ := inGet 0 rfl hI1
               refine (V1.loadRef (k := k37084_) rfl rfl tyk_3 rfl hk37084_ rfl rfl rfl lt0 ?_)
               exact rfl
              refine WalkP.step (p := ?pv37085) 5 rfl rfl rfl rfl rfl (⟨_, _, rfl, rfl, rfl⟩) ?hv37085 ?rest37085
              case hv37085 =>
               intro E1 H1 hI1
               refine (V1.buildFrz (f := encInt) ([(list.getD (Int.toNat v0) default).Id] : List Int) (fun _ => rfl) iNil rfl rfl esz_27 zk_3 rfl rfl rfl rfl rfl rfl rfl lt0 ?_)
               exact rfl
              refine WalkP.nil ?_
              refine NodeS.branch [2] (inCons 1 rfl inNil) rfl rfl rfl ⟨?_, trivial⟩
              ·
               refine ⟨_, _, _, _, rfl, rfl, rfl, (⟨_, _, rfl, rfl, rfl⟩), fun E1 => ?_⟩
               refine (V1.permK (V1.call rfl rfl rfl cok_57 rfl (ok_slices_Clone_int_int hh10) rfl lt0 ?_))
               rintro _ _ ⟨ob6, hob6, rfl, rfl⟩
               refine ⟨_, ?_, Keeps.optBack (n := 1) (ob := ob6) (xs := List.map encInt y8) (H1 := []) (H2 := [(b12, ⟨1, List.map encInt (seen3 ++ ([(list.getD (Int.toNat v0) default).Id] : List Int))⟩), (b10, ⟨4, [encFormat ρ0 (list.getD (Int.toNat v0) default)]⟩), (ob4, ⟨1, List.map (encL rn 1 encInt) next2⟩)]) rfl⟩
               refine ⟨_, _, rfl, ?_⟩
               refine WalkP.nil ?_
               refine NodeS.branch [6] (inCons 1 rfl inNil) rfl rfl rfl ⟨?_, trivial⟩
               ·
                refine ⟨_, _, _, _, rfl, rfl, rfl, (⟨_, _, rfl, rfl, _, _, rfl, rfl, rfl⟩), fun E1 => ?_⟩
                refine (V1.thenK (V1.appendOpt (f := encInt) (l := y8) (m := ([(list.getD (Int.toNat v0) default).Id] : List Int)) [(b12, ⟨1, List.map encInt (seen3 ++ ([(list.getD (Int.toNat v0) default).Id] : List Int))⟩), (b10, ⟨4, [encFormat ρ0 (list.getD (Int.toNat v0) default)]⟩), (ob4, ⟨1, List.map (encL rn 1 encInt) next2⟩)] hob6 rfl rfl rfl rfl rfl esz_27 eby_27 zk_3 rfl rfl rfl rfl (.vl isl_27) rfl hh11 lt0 ?_))
                intro b18
                refine ⟨_, Keeps.frzTop (f := encInt) (l := (y8 ++ ([(list.getD (Int.toNat v0) default).Id] : List Int))) (fun _ => rfl) iNil, ?_⟩
                refine ⟨_, _, rfl, ?_⟩
                refine WalkP.nil ?_
                refine NodeS.branch [7] (inCons 1 rfl inNil) rfl rfl rfl ⟨?_, trivial⟩
                ·
                 refine ⟨_, _, _, _, rfl, rfl, rfl, (⟨_, _, rfl, rfl, rfl⟩), fun E1 => ?_⟩
                 refine (V1.buildSliceT (f := (encL rn 1 encInt)) ([(y8 ++ ([(list.getD (Int.toNat v0) default).Id] : List Int))] : List (List Int)) rfl rfl esz_47 zk_27 rfl rfl rfl rfl rfl rfl rfl lt0 ?_)
                 intro b19
                 refine ⟨_, _, rfl, ?_⟩
                 refine WalkP.nil ?_
                 refine NodeS.fin (inCons 2 rfl inNil) rfl rfl rfl (⟨_, _, rfl, rfl, _, _, rfl, rfl, _, _, rfl, rfl, _, _, rfl, rfl, _, _, rfl, rfl, _, _, rfl, rfl, _, _, rfl, rfl, _, _, rfl, rfl, _, _, rfl, rfl, _, _, rfl, rfl, _, _, rfl, rfl, _, _, rfl, rfl, _, _, rfl, rfl, _, _, rfl, rfl, rfl⟩) ?_
                 refine VO.cons rfl (V1.appendMap (k := 3) (f := (encL rn 1 encInt)) (l := next2) (m := ([(y8 ++ ([(list.getD (Int.toNat v0) default).Id] : List Int))] : List (List Int))) rfl rfl rfl rfl rfl esz_47 eby_47 zk_27 rfl rfl rfl (SrcOf.srMap (k := 0) rfl isl_47) hh12 lt0 ?_)
                 intro b20
                 refine VO.cons rfl (V1.assign rfl rfl rfl lt0 ?_)
                 refine VO.nil ?_
                 exact ⟨(((seen3 ++ ([(list.getD (Int.toNat v0) default).Id] : List Int)), (next2 ++ ([(y8 ++ ([(list.getD (Int.toNat v0) default).Id] : List Int))] : List (List Int)))), (b12, b20)), Option.some.inj hm4, Keeps.mk (ks := [2, 0]) rfl ⟨rfl, rfl, rfl, rfl, rfl, rfl, rfl, rfl, rfl, rfl, rfl, rfl, rfl, trivial⟩ (⟨_, _, rfl, rfl, _, _, rfl, rfl, rfl⟩) rfl⟩
             ·
              replace hm4 := cond_f hc5 hm4
              refine V.skip ?_
              exact ⟨((seen3, next2), (b7, ob4)), Option.some.inj hm4, Keeps.mk (ks := [1, 2]) rfl ⟨rfl, rfl, rfl, rfl, rfl, rfl, rfl, rfl, rfl, rfl, rfl, rfl, rfl, trivial⟩ (⟨_, _, rfl, rfl, _, _, rfl, rfl, rfl⟩) rfl⟩
            ·
             rintro ⟨⟨seen4, next3⟩, ⟨b8, b9⟩⟩ rfl
             try dsimp only at hm3
             refine V.region ?_
             refine VO.cons rfl (V1.int rfl rfl rfl rfl rfl lt0 ?_)
             refine VO.cons rfl (V1.move rfl rfl rfl lt0 ?_)
             refine VO.nil ?_
             exact ⟨(m2, (seen4, next3, (IntKind.i64.wrap (v0 + (1 : Int)))), (b8, (some b9))), ⟨hl3 _ (Option.some.inj hm3).symm, (fun e => by cases e)⟩, Nat.lt_succ_self _, Keeps.mk (ks := [0, 1]) rfl ⟨rfl, rfl, rfl, rfl, rfl, rfl, rfl, rfl, rfl, rfl, rfl, rfl, rfl, trivial⟩ (⟨_, _, rfl, rfl, _, _, rfl, rfl, rfl⟩) rfl⟩
           ·
            replace hm3 := cond_f hc4 hm3
            refine V.exit ?_
            obtain rfl := hr3 _ (Option.some.inj hm3).symm
            exact ⟨((seen3, next2), (b7, (some ob4))), ⟨rfl, (fun e => by cases e)⟩, Keeps.mk (ks := [0, 1]) rfl ⟨rfl, rfl, rfl, rfl, rfl, rfl, rfl, rfl, trivial⟩ (⟨_, _, rfl, rfl, _, _, rfl, rfl, rfl⟩) rfl⟩
         ·
          rintro ⟨⟨seen2, next1⟩, ⟨b6, ob3⟩⟩ ⟨rfl, hob3⟩
          try dsimp only at hm2
          rcases ob3 with _ | ob3
          ·
           replace hob3 := hob3 rfl
           refine V.region ?_
           refine VO.cons rfl (V1.int rfl rfl rfl rfl rfl lt0 ?_)
           refine VO.cons rfl (V1.move rfl rfl rfl lt0 ?_)
           refine VO.nil ?_
           exact ⟨(m1, (seen2, next1, (IntKind.i64.wrap (v + (1 : Int)))), (b6, none)), ⟨hl2 _ (Option.some.inj hm2).symm, (fun _ => hob3)⟩, Nat.lt_succ_self _, Keeps.mk (ks := [0]) rfl ⟨rfl, rfl, rfl, rfl, rfl, rfl, rfl, rfl, trivial⟩ (⟨_, _, rfl, rfl, rfl⟩) rfl⟩
          ·
           refine V.region ?_
           refine VO.cons rfl (V1.int rfl rfl rfl rfl rfl lt0 ?_)
           refine VO.cons rfl (V1.move rfl rfl rfl lt0 ?_)
           refine VO.nil ?_
           exact ⟨(m1, (seen2, next1, (IntKind.i64.wrap (v + (1 : Int)))), (b6, (some ob3))), ⟨hl2 _ (Option.some.inj hm2).symm, (fun e => by cases e)⟩, Nat.lt_succ_self _, Keeps.mk (ks := [0, 1]) rfl ⟨rfl, rfl, rfl, rfl, rfl, rfl, rfl, rfl, trivial⟩ (⟨_, _, rfl, rfl, _, _, rfl, rfl, rfl⟩) rfl⟩
       ·
        replace hm2 := cond_f hc2 hm2
        refine V.exit ?_
        obtain rfl := hr2 _ (Option.some.inj hm2).symm
        exact ⟨((seen1, next0), (b5, none)), ⟨rfl, (fun _ => hob2)⟩, Keeps.mk (ks := [0]) rfl ⟨rfl, rfl, rfl, rfl, rfl, trivial⟩ (⟨_, _, rfl, rfl, rfl⟩) rfl⟩
      ·
       show V _ _ _ ⟨92, [(11, .sref b5 1 0 (List.length seen1)), (12, .sref ob2 1 0 (List.length next0)), (39, .int .i64 v), (0, .vl ρ0 4 (List.map (encFormat ρ0) list)), (2, .int .i64 to_), (3, .int .i64 day), (37, .vl rn 1 (List.map (encL rn 1 encInt) paths)), (38, .int .i64 (paths.length : Int))], [(b5, ⟨1, List.map encInt seen1⟩), (ob2, ⟨1, List.map (encL rn 1 encInt) next0⟩)]⟩
       refine V.seq ?_
       refine V.region ?_
       refine VO.cons rfl (V1.int rfl rfl rfl rfl rfl lt0 ?_)
       refine VO.nil ?_
       refine V.seq ?_
       refine V.cond rfl (fun hc2 => ?_) (fun hc2 => ?_)
       ·
        replace hm2 := cond_t hc2 hm2
        refine V.skip ?_
        refine V.seq ?_
        refine V.block ?_
        refine V.seq ?_
        replace hm2 := asrt_some hm2; rcases hm2 with ⟨hh2, hm2⟩
        refine V.region ?_
        refine VO.cons rfl (V1.indexI rfl rfl esz_47 rfl rfl hh2 lt0 ?_)
        refine VO.cons rfl (V1.loadPin rfl rfl tyk_27 rfl rfl lt0 ?_)
        refine VO.cons rfl (V1.assign rfl rfl rfl lt0 ?_)
        refine VO.nil ?_
        refine V.seq ?_
        replace hm2 := asrt_some hm2; rcases hm2 with ⟨hh3, hm2⟩
        refine V.region ?_
        refine VO.cons rfl (V1.move rfl rfl rfl lt0 ?_)
        refine VO.cons rfl (V1.move rfl rfl rfl lt0 ?_)
        refine VO.cons rfl (V1.lenMap rfl rfl rfl rfl rfl rfl isl_27 lt0 ?_)
        refine VO.cons rfl (V1.int rfl rfl rfl rfl rfl lt0 ?_)
        refine VO.cons rfl (V1.indexI rfl rfl esz_27 rfl rfl hh3 lt0 ?_)
        refine VO.cons rfl (V1.loadPin rfl rfl tyk_3 rfl rfl lt0 ?_)
        refine VO.cons rfl (V1.assign rfl rfl rfl lt0 ?_)
        refine VO.nil ?_
        refine V.keep 92 [0, 2, 3, 11, 12, 14, 15, 37, 38, 39] [0, 1] (E0 := [(0, .vl ρ0 4 (List.map (encFormat ρ0) list)), (2, .int .i64 to_), (3, .int .i64 day), (11, .sref b5 1 0 (List.length seen1)), (12, .sref ob2 1 0 (List.length next0)), (14, .vl rn 1 (List.map encInt (paths.getD (Int.toNat v) default))), (15, .int .i64 ((paths.getD (Int.toNat v) default).getD (Int.toNat (IntKind.i64.wrap (((paths.getD (Int.toNat v) default).length : Int) - (1 : Int)))) default)), (37, .vl rn 1 (List.map (encL rn 1 encInt) paths)), (38, .int .i64 (paths.length : Int)), (39, .int .i64 v)]) (H0 := [(b5, ⟨1, List.map encInt seen1⟩), (ob2, ⟨1, List.map (encL rn 1 encInt) next0⟩)]) rfl (⟨_, _, rfl, rfl, _, _, rfl, rfl, _, _, rfl, rfl, _, _, rfl, rfl, _, _, rfl, rfl, _, _, rfl, rfl, _, _, rfl, rfl, _, _, rfl, rfl, _, _, rfl, rfl, _, _, rfl, rfl, rfl⟩) (⟨_, _, rfl, rfl, _, _, rfl, rfl, rfl⟩) rfl ?_
        refine V.seq ?_
        refine V.seq ?_
        refine V.region ?_
        refine VO.cons rfl (V1.move rfl rfl rfl lt0 ?_)
        refine VO.cons rfl (V1.move rfl rfl rfl lt0 ?_)
        refine VO.cons rfl (V1.int rfl rfl rfl rfl rfl lt0 ?_)
        refine VO.nil ?_
        refine V.cond rfl (fun hc3 => ?_) (fun hc3 => ?_)
        ·
         replace hm2 := cond_t hc3 hm2
         refine V.seq ?_
         refine V.region ?_
         refine VO.cons rfl (V1.move rfl rfl rfl lt0 ?_)
         refine VO.cons rfl (V1.assign rfl rfl rfl lt0 ?_)
         refine VO.cons rfl (V1.assign rfl rfl rfl lt0 ?_)
         refine VO.nil ?_
         refine V.ret ?_
         obtain rfl := hr2 _ (Option.some.inj hm2).symm
         change some _ = some _ at hm1
         obtain rfl := hr1 _ (Option.some.inj hm1).symm
         change some _ = some _ at hm0
         obtain rfl := Option.some.inj hm0
         exact ⟨_, [], ⟨_, _, rfl, rfl, _, _, rfl, rfl, rfl⟩, List.nil_sublist _, rfl, rfl⟩
        ·
         replace hm2 := cond_f hc3 hm2
         refine V.skip ?_
         refine V.seq ?_
         refine V.region ?_
         refine VO.cons rfl (V1.move rfl rfl rfl lt0 ?_)
         refine VO.cons rfl (V1.lenMap rfl rfl rfl rfl rfl rfl isl_24 lt0 ?_)
         refine VO.cons rfl (V1.move rfl rfl rfl lt0 ?_)
         refine VO.nil ?_
         replace hm2 := bindO hm2; rcases hm2 with ⟨e2, he3, hm2⟩
         refine V.cutT (D := (List Int × List (List Int)) × (Nat × Nat)) (fun ⟨⟨seen2, next1⟩, ⟨b6, b7⟩⟩ => ⟨92, [(11, .sref b6 1 0 (List.length seen2)), (12, .sref b7 1 0 (List.length next1)), (0, .vl ρ0 4 (List.map (encFormat ρ0) list)), (2, .int .i64 to_), (3, .int .i64 day), (37, .vl rn 1 (List.map (encL rn 1 encInt) paths)), (38, .int .i64 (paths.length : Int)), (39, .int .i64 v)], [(b6, ⟨1, List.map encInt seen2⟩), (b7, ⟨1, List.map (encL rn 1 encInt) next1⟩)]⟩) (fun ⟨⟨seen2, next1⟩, ⟨b6, b7⟩⟩ => ((seen2, next1) = e2)) ?_ ?_
         ·
          refine V.block ?_
          refine V.keep 92 [11, 12, 55, 0, 2, 3, 14, 15, 37, 38, 39, 53, 54] [0, 1] (E0 := [(11, .sref b5 1 0 (List.length seen1)), (12, .sref ob2 1 0 (List.length next0)), (55, .int .i64 (0 : Int)), (0, .vl ρ0 4 (List.map (encFormat ρ0) list)), (2, .int .i64 to_), (3, .int .i64 day), (14, .vl rn 1 (List.map encInt (paths.getD (Int.toNat v) default))), (15, .int .i64 ((paths.getD (Int.toNat v) default).getD (Int.toNat (IntKind.i64.wrap (((paths.getD (Int.toNat v) default).length : Int) - (1 : Int)))) default)), (37, .vl rn 1 (List.map (encL rn 1 encInt) paths)), (38, .int .i64 (paths.length : Int)), (39, .int .i64 v), (53, .vl ρ0 4 (List.map (encFormat ρ0) list)), (54, .int .i64 (list.length : Int))]) (H0 := [(b5, ⟨1, List.map encInt seen1⟩), (ob2, ⟨1, List.map (encL rn 1 encInt) next0⟩)]) rfl (⟨_, _, rfl, rfl, _, _, rfl, rfl, _, _, rfl, rfl, _, _, rfl, rfl, _, _, rfl, rfl, _, _, rfl, rfl, _, _, rfl, rfl, _, _, rfl, rfl, _, _, rfl, rfl, _, _, rfl, rfl, _, _, rfl, rfl, _, _, rfl, rfl, _, _, rfl, rfl, rfl⟩) (⟨_, _, rfl, rfl, _, _, rfl, rfl, rfl⟩) rfl ?_
          refine V.loopE (D := Nat × (List Int × List (List Int) × Int) × (Nat × Nat)) (fun ⟨n2, ⟨seen3, next2, v0⟩, ⟨b8, b9⟩⟩ => [(11, .sref b8 1 0 (List.length seen3)), (12, .sref b9 1 0 (List.length next2)), (55, .int .i64 v0)]) (fun ⟨n2, ⟨seen3, next2, v0⟩, ⟨b8, b9⟩⟩ => [(b8, ⟨1, List.map encInt seen3⟩), (b9, ⟨1, List.map (encL rn 1 encInt) next2⟩)]) (fun ⟨n2, ⟨seen3, next2, v0⟩, ⟨b8, b9⟩⟩ => loopO (M.impl_ShortestPath_l2 list day paths v) n2 (seen3, next2, v0) = some e2) (fun ⟨n2, _, _⟩ => n2) (rounds, (seen1, next0, (0 : Int)), (b5, ob2)) rfl he3 ?_
          rintro ⟨n2, ⟨seen3, next2, v0⟩, ⟨b8, b9⟩⟩ hP2
          obtain ⟨m2, y4, rfl, hm3, hl3, hr3⟩ := loop_head hP2
          unfold M.impl_ShortestPath_l2 at hm3; dsimp only at hm3
          show V _ _ _ ⟨92, [(11, .sref b8 1 0 (List.length seen3)), (12, .sref b9 1 0 (List.length next2)), (55, .int .i64 v0), (0, .vl ρ0 4 (List.map (encFormat ρ0) list)), (2, .int .i64 to_), (3, .int .i64 day), (14, .vl rn 1 (List.map encInt (paths.getD (Int.toNat v) default))), (15, .int .i64 ((paths.getD (Int.toNat v) default).getD (Int.toNat (IntKind.i64.wrap (((paths.getD (Int.toNat v) default).length : Int) - (1 : Int)))) default)), (37, .vl rn 1 (List.map (encL rn 1 encInt) paths)), (38, .int .i64 (paths.length : Int)), (39, .int .i64 v), (53, .vl ρ0 4 (List.map (encFormat ρ0) list)), (54, .int .i64 (list.length : Int))], [(b8, ⟨1, List.map encInt seen3⟩), (b9, ⟨1, List.map (encL rn 1 encInt) next2⟩)]⟩
          refine V.seq ?_
          refine V.region ?_
          refine VO.cons rfl (V1.int rfl rfl rfl rfl rfl lt0 ?_)
          refine VO.nil ?_
          refine V.seq ?_
          refine V.cond rfl (fun hc4 => ?_) (fun hc4 => ?_)
          ·
           replace hm3 := cond_t hc4 hm3
           refine V.skip ?_
           refine V.seq ?_
           replace hm3 := bindO hm3; rcases hm3 with ⟨j0, hm4, hm3⟩
           refine V.cutT (D := (List Int × List (List Int)) × (Nat × Nat)) (fun ⟨⟨seen4, next3⟩, ⟨b10, b11⟩⟩ => ⟨92, [(11, .sref b10 1 0 (List.length seen4)), (12, .sref b11 1 0 (List.length next3)), (0, .vl ρ0 4 (List.map (encFormat ρ0) list)), (2, .int .i64 to_), (3, .int .i64 day), (14, .vl rn 1 (List.map encInt (paths.getD (Int.toNat v) default))), (15, .int .i64 ((paths.getD (Int.toNat v) default).getD (Int.toNat (IntKind.i64.wrap (((paths.getD (Int.toNat v) default).length : Int) - (1 : Int)))) default)), (37, .vl rn 1 (List.map (encL rn 1 encInt) paths)), (38, .int .i64 (paths.length : Int)), (39, .int .i64 v), (53, .vl ρ0 4 (List.map (encFormat ρ0) list)), (54, .int .i64 (list.length : Int)), (55, .int .i64 v0)], [(b10, ⟨1, List.map encInt seen4⟩), (b11, ⟨1, List.map (encL rn 1 encInt) next3⟩)]⟩) (fun ⟨⟨seen4, next3⟩, ⟨b10, b11⟩⟩ => ((seen4, next3) = j0)) ?_ ?_
           ·
            refine V.block ?_
            refine V.seq ?_
            replace hm4 := asrt_some hm4; rcases hm4 with ⟨hh4, hm4⟩
            refine V.region ?_
            refine VO.cons rfl (V1.indexI rfl rfl esz_24 rfl rfl hh4 lt0 ?_)
            refine VO.cons rfl (V1.loadPinAll rfl rfl tyk_34 rfl rfl lt0 ?_)
            refine VO.cons rfl (V1.alloc rfl rfl zk_34 lt0 ?_)
            intro b12
            refine VO.cons rfl (V1.storeRefAll (k := 0) rfl rfl tyk_34 rfl rfl rfl rfl rfl rfl ?_)
            refine VO.nil ?_
            refine V.seq ?_
            replace hm4 := bindO hm4; rcases hm4 with ⟨y5, hh5, hm4⟩
            replace hm4 := asrt_some hm4; rcases hm4 with ⟨hh6, hm4⟩
            replace hm4 := bindO hm4; rcases hm4 with ⟨y6, hh7, hm4⟩
            replace hm4 := bindO hm4; rcases hm4 with ⟨y7, hh8, hm4⟩
            refine V.regionM 92 16 [⟨[(0, none)], [], none⟩, ⟨[(0, none)], [], none⟩, ⟨[(15, none)], [], none⟩, ⟨[(60, some 1), (61, some 0)], [], none⟩, ⟨[(59, some 3), (62, some 0)], [], none⟩, ⟨[(63, some 0)], [], none⟩, ⟨[(17, none)], [], none⟩, ⟨[(3, none)], [], none⟩, ⟨[(64, some 2), (65, some 1), (66, some 0)], [], none⟩, ⟨[(67, some 0)], [], none⟩, ⟨[(11, none)], [(0, true)], none⟩, ⟨[(17, none)], [(1, true)], none⟩, ⟨[(70, some 0)], [(2, true)], none⟩, ⟨[(69, some 2), (71, some 0)], [(3, true)], none⟩, ⟨[(72, some 0)], [(4, true)], none⟩, ⟨[], [], some (true, 68, 73, 5, 0)⟩] [(0, none), (2, none), (3, none), (11, none), (12, none), (14, none), (15, none), (17, none), (37, none), (38, none), (39, none), (53, none), (54, none), (55, none), (74, some 0)] (⟨_, rfl, ⟨_, rfl, ⟨_, rfl, ⟨_, rfl, ⟨_, rfl, ⟨_, rfl, ⟨_, rfl, ⟨_, rfl, ⟨_, rfl, ⟨_, rfl, ⟨_, rfl, ⟨_, rfl, ⟨_, rfl, ⟨_, rfl, ⟨_, rfl, ⟨_, rfl, ⟨rfl, rfl⟩⟩⟩⟩⟩⟩⟩⟩⟩⟩⟩⟩⟩⟩⟩⟩⟩) mixed_orders rfl (by decide +kernel) (fun hck16 => ?_)
            refine VP.step (p := ?pv37239) rfl rfl rfl (⟨_, _, rfl, rfl, rfl⟩) ?hv37239 ?rest37239 hck16
            case hv37239 =>
             intro E1
             refine (V1.move rfl rfl rfl lt0 ?_)
             exact rfl
            refine VP.step (p := ?pv37240) rfl rfl rfl (⟨_, _, rfl, rfl, rfl⟩) ?hv37240 ?rest37240 hck16
            case hv37240 =>
             intro E1
             refine (V1.move rfl rfl rfl lt0 ?_)
             exact rfl
            refine VP.step (p := ?pv37241) rfl rfl rfl (⟨_, _, rfl, rfl, rfl⟩) ?hv37241 ?rest37241 hck16
            case hv37241 =>
             intro E1
             refine (V1.move rfl rfl rfl lt0 ?_)
             exact rfl
            refine VP.step (p := ?pv37242) rfl rfl rfl (⟨_, _, rfl, rfl, _, _, rfl, rfl, rfl⟩) ?hv37242 ?rest37242 hck16
            case hv37242 =>
             intro E1
             refine (V1.call rfl rfl rfl cok_54 rfl (ok_impl_formatAt hh5) rfl lt0 ?_)
             rintro _ _ ⟨rfl, rfl⟩
             exact rfl
            refine VP.step (p := ?pv37244) rfl rfl rfl (⟨_, _, rfl, rfl, _, _, rfl, rfl, rfl⟩) ?hv37244 ?rest37244 hck16
            case hv37244 =>
             intro E1
             refine (V1.indexI rfl rfl esz_24 rfl rfl hh6 lt0 ?_)
             exact rfl
            refine VP.step (p := ?pv37245) rfl rfl rfl (⟨_, _, rfl, rfl, rfl⟩) ?hv37245 ?rest37245 hck16
            case hv37245 =>
             intro E1
             refine (V1.loadPinAll rfl rfl tyk_34 rfl rfl lt0 ?_)
             exact rfl
            refine VP.step (p := ?pv37246) rfl rfl rfl (⟨_, _, rfl, rfl, rfl⟩) ?hv37246 ?rest37246 hck16
            case hv37246 =>
             intro E1
             refine (V1.loadRefAll (k := 0) rfl rfl tyk_34 rfl rfl rfl rfl rfl lt0 ?_)
             exact rfl
            refine VP.step (p := ?pv37247) rfl rfl rfl (⟨_, _, rfl, rfl, rfl⟩) ?hv37247 ?rest37247 hck16
            case hv37247 =>
             intro E1
             refine (V1.move rfl rfl rfl lt0 ?_)
             exact rfl
            refine VP.step (p := ?pv37248) rfl rfl rfl (⟨_, _, rfl, rfl, _, _, rfl, rfl, _, _, rfl, rfl, rfl⟩) ?hv37248 ?rest37248 hck16
            case hv37248 =>
             intro E1
             refine (V1.call rfl rfl rfl cok_55 rfl (ok_impl_leads hh7) rfl lt0 ?_)
             rintro _ _ ⟨rfl, rfl⟩
             exact rfl
            refine VP.step (p := ?pv37250) rfl rfl rfl (⟨_, _, rfl, rfl, rfl⟩) ?hv37250 ?rest37250 hck16
            case hv37250 =>
             intro E1
             refine (V1.move rfl rfl rfl lt0 ?_)
             exact rfl
            refine VP.step (p := ?pv37251) rfl rfl rfl (⟨_, _, rfl, rfl, rfl⟩) ?hv37251 ?rest37251 hck16
            case hv37251 =>
             refine ⟨_, rfl, fun hg1 => ?_⟩
             intro E1
             refine (V1.move rfl rfl rfl lt0 ?_)
             exact rfl
            refine VP.step (p := ?pv37252) rfl rfl rfl (⟨_, _, rfl, rfl, rfl⟩) ?hv37252 ?rest37252 hck16
            case hv37252 =>
             refine ⟨_, rfl, fun hg1 => ?_⟩
             intro E1
             refine (V1.fieldRef rfl rfl fo_34_0 rfl lt0 ?_)
             exact rfl
            refine VP.step (p := ?pv37253) rfl rfl rfl (⟨_, _, rfl, rfl, rfl⟩) ?hv37253 ?rest37253 hck16
            case hv37253 =>
             refine ⟨_, rfl, fun hg1 => ?_⟩
             intro E1
             refine (V1.loadRef (k := 0) rfl rfl tyk_3 rfl rfl rfl rfl rfl lt0 ?_)
             exact rfl
            refine VP.step (p := ?pv37254) rfl rfl rfl (⟨_, _, rfl, rfl, _, _, rfl, rfl, rfl⟩) ?hv37254 ?rest37254 hck16
            case hv37254 =>
             refine ⟨_, rfl, fun hg1 => ?_⟩
             intro E1
             refine (V1.callL (rn + 1) [b8] [.vl (rn + 1) 1 (List.map encInt seen3), .int .i64 ((list.getD (Int.toNat v0) default).Id)] rfl rfl rfl cok_56 rfl ⟨_, _, rfl, Lend.srMap 1 rfl (fun _ => rfl) (.head _), ⟨_, _, rfl, .same _, rfl⟩⟩ (bwCons (k := 1) rfl bwNil) (ok_slices_Contains_int_int (cond_t hg1 hh8)) rfl (⟨(by first | omega | (dsimp only; omega)), by rintro _ _ ⟨rfl, rfl⟩; exact ⟨rfl, by simp⟩⟩) lt0 ?_)
             rintro _ _ ⟨rfl, rfl⟩
             exact rfl
            refine VP.step (p := ?pv37256) rfl rfl rfl (⟨_, _, rfl, rfl, rfl⟩) ?hv37256 ?rest37256 hck16
            case hv37256 =>
             refine ⟨_, rfl, fun hg1 => ?_⟩
             intro E1
             refine (V1.not rfl rfl rfl lt0 ?_)
             exact rfl
            refine VP.pickAnd rfl rfl rfl rfl rfl rfl (trivial) ?_ hck16
            refine VP.fin rfl (⟨_, _, rfl, rfl, _, _, rfl, rfl, _, _, rfl, rfl, _, _, rfl, rfl, _, _, rfl, rfl, _, _, rfl, rfl, _, _, rfl, rfl, _, _, rfl, rfl, _, _, rfl, rfl, _, _, rfl, rfl, _, _, rfl, rfl, _, _, rfl, rfl, _, _, rfl, rfl, _, _, rfl, rfl, _, _, rfl, rfl, rfl⟩) ?_
            refine VO.nil ?_
            refine V.cond rfl (fun hc5 => ?_) (fun hc5 => ?_)
            ·
             replace hm4 := cond_t hc5 hm4
             refine V.seq ?_
             replace hm4 := asrt_some hm4; rcases hm4 with ⟨hh9, hm4⟩
             refine V.region ?_
             refine VO.cons rfl (V1.move rfl rfl rfl lt0 ?_)
             refine VO.cons rfl (V1.fieldRef rfl rfl fo_34_0 rfl lt0 ?_)
             refine VO.cons rfl (V1.loadRef (k := 0) rfl rfl tyk_3 rfl rfl rfl rfl rfl lt0 ?_)
             refine VO.cons rfl (V1.buildSliceT (f := encInt) ([(list.getD (Int.toNat v0) default).Id] : List Int) rfl rfl esz_27 zk_3 rfl rfl rfl rfl rfl rfl rfl lt0 ?_)
             intro b13
             refine VO.cons rfl (V1.appendMap (k := 2) (f := encInt) (l := seen3) (m := ([(list.getD (Int.toNat v0) default).Id] : List Int)) rfl rfl rfl rfl rfl esz_27 eby_27 zk_3 rfl rfl rfl (SrcOf.srMap (k := 0) rfl isl_27) hh9 lt0 ?_)
             intro b14
             refine VO.cons rfl (V1.assign rfl rfl rfl lt0 ?_)
             refine VO.nil ?_
             refine V.keep 92 [0, 2, 3, 11, 12, 14, 15, 17, 37, 38, 39, 53, 54, 55] [0, 2, 3] (E0 := [(0, .vl ρ0 4 (List.map (encFormat ρ0) list)), (2, .int .i64 to_), (3, .int .i64 day), (11, .sref b14 1 0 (List.length (seen3 ++ ([(list.getD (Int.toNat v0) default).Id] : List Int)))), (12, .sref b9 1 0 (List.length next2)), (14, .vl rn 1 (List.map encInt (paths.getD (Int.toNat v) default))), (15, .int .i64 ((paths.getD (Int.toNat v) default).getD (Int.toNat (IntKind.i64.wrap (((paths.getD (Int.toNat v) default).length : Int) - (1 : Int)))) default)), (17, .ref b12 4 0 0), (37, .vl rn 1 (List.map (encL rn 1 encInt) paths)), (38, .int .i64 (paths.length : Int)), (39, .int .i64 v), (53, .vl ρ0 4 (List.map (encFormat ρ0) list)), (54, .int .i64 (list.length : Int)), (55, .int .i64 v0)]) (H0 := [(b14, ⟨1, List.map encInt (seen3 ++ ([(list.getD (Int.toNat v0) default).Id] : List Int))⟩), (b12, ⟨4, [encFormat ρ0 (list.getD (Int.toNat v0) default)]⟩), (b9, ⟨1, List.map (encL rn 1 encInt) next2⟩)]) rfl (⟨_, _, rfl, rfl, _, _, rfl, rfl, _, _, rfl, rfl, _, _, rfl, rfl, _, _, rfl, rfl, _, _, rfl, rfl, _, _, rfl, rfl, _, _, rfl, rfl, _, _, rfl, rfl, _, _, rfl, rfl, _, _, rfl, rfl, _, _, rfl, rfl, _, _, rfl, rfl, _, _, rfl, rfl, rfl⟩) (⟨_, _, rfl, rfl, _, _, rfl, rfl, _, _, rfl, rfl, rfl⟩) rfl ?_
             replace hm4 := bindO hm4; rcases hm4 with ⟨y8, hh10, hm4⟩
             replace hm4 := asrt_some hm4; rcases hm4 with ⟨hh11, hm4⟩
             replace hm4 := asrt_some hm4; rcases hm4 with ⟨hh12, hm4⟩
             refine V.regionS [(b12, ⟨4, [encFormat ρ0 (list.getD (Int.toNat v0) default)]⟩)] 92 8 [⟨[(12, none)], false⟩, ⟨[(14, none)], false⟩, ⟨[(81, some 1)], true⟩, ⟨[(17, none)], false⟩, ⟨[(83, some 3)], false⟩, ⟨[(84, some 4)], false⟩, ⟨[(82, some 2), (85, some 5)], true⟩, ⟨[(86, some 6)], true⟩] [(0, none), (2, none), (3, none), (11, none), (14, none), (15, none), (37, none), (38, none), (39, none), (53, none), (54, none), (55, none), (80, some 0), (87, some 7)] 3 (⟨_, rfl, ⟨_, rfl, ⟨_, rfl, ⟨_, rfl, ⟨_, rfl, ⟨_, rfl, ⟨_, rfl, ⟨_, rfl, ⟨rfl, rfl⟩⟩⟩⟩⟩⟩⟩⟩⟩) mixed_orders rfl (by decide +kernel) ?_
             refine WalkP.step (p := ?pv37260) 0 rfl rfl rfl rfl rfl (⟨_, _, rfl, rfl, rfl⟩) ?hv37260 ?rest37260
             case hv37260 =>
              intro E1 H1 hI1
              refine (V1.move rfl rfl rfl lt0 ?_)
              exact rfl
             refine WalkP.step (p := ?pv37261) 1 rfl rfl rfl rfl rfl (⟨_, _, rfl, rfl, rfl⟩) ?hv37261 ?rest37261
             case hv37261 =>
              intro E1 H1 hI1
              refine (V1.move rfl rfl rfl lt0 ?_)
              exact rfl
             refine WalkP.step (p := ?pv37262) 3 rfl rfl rfl rfl rfl (⟨_, _, rfl, rfl, rfl⟩) ?hv37262 ?rest37262
             case hv37262 =>
              intro E1 H1 hI1
              refine (V1.fieldRef rfl rfl fo_34_0 rfl lt0 ?_)
              exact rfl
             refine WalkP.step (p := ?pv37263) 4 rfl rfl rfl rfl rfl (⟨_, _, rfl, rfl, rfl⟩) ?hv37263 ?rest37263
             case hv37263 =>
              intro E1 H1 hI1
              obtain ⟨k37264_, hk37264_⟩ := inGet 0 rfl hI1
              refine (V1.loadRef (k := k37264_) rfl rfl tyk_3 rfl hk37264_ rfl rfl rfl lt0 ?_)
              exact rfl
             refine WalkP.step (p := ?pv37265) 5 rfl rfl rfl rfl rfl (⟨_, _, rfl, rfl, rfl⟩) ?hv37265 ?rest37265
             case hv37265 =>
              intro E1 H1 hI1
              refine (V1.buildFrz (f := encInt) ([(list.getD (Int.toNat v0) default).Id] : List Int) (fun _ => rfl) iNil rfl rfl esz_27 zk_3 rfl rfl rfl rfl rfl rfl rfl lt0 ?_)
              exact rfl
             refine WalkP.nil ?_
             refine NodeS.branch [2] (inCons 1 rfl inNil) rfl rfl rfl ⟨?_, trivial⟩
             ·
              refine ⟨_, _, _, _, rfl, rfl, rfl, (⟨_, _, rfl, rfl, rfl⟩), fun E1 => ?_⟩
              refine (V1.permK (V1.call rfl rfl rfl cok_57 rfl (ok_slices_Clone_int_int hh10) rfl lt0 ?_))
              rintro _ _ ⟨ob4, hob4, rfl, rfl⟩
              refine ⟨_, ?_, Keeps.optBack (n := 1) (ob := ob4) (xs := List.map encInt y8) (H1 := []) (H2 := [(b14, ⟨1, List.map encInt (seen3 ++ ([(list.getD (Int.toNat v0) default).Id] : List Int))⟩), (b12, ⟨4, [encFormat ρ0 (list.getD (Int.toNat v0) default)]⟩), (b9, ⟨1, List.map (encL rn 1 encInt) next2⟩)]) rfl⟩
              refine ⟨_, _, rfl, ?_⟩
              refine WalkP.nil ?_
              refine NodeS.branch [6] (inCons 1 rfl inNil) rfl rfl rfl ⟨?_, trivial⟩
              ·
               refine ⟨_, _, _, _, rfl, rfl, rfl, (⟨_, _, rfl, rfl, _, _, rfl, rfl, rfl⟩), fun E1 => ?_⟩
               refine (V1.thenK (V1.appendOpt (f := encInt) (l := y8) (m := ([(list.getD (Int.toNat v0) default).Id] : List Int)) [(b14, ⟨1, List.map encInt (seen3 ++ ([(list.getD (Int.toNat v0) default).Id] : List Int))⟩), (b12, ⟨4, [encFormat ρ0 (list.getD (Int.toNat v0) default)]⟩), (b9, ⟨1, List.map (encL rn 1 encInt) next2⟩)] hob4 rfl rfl rfl rfl rfl esz_27 eby_27 zk_3 rfl rfl rfl rfl (.vl isl_27) rfl hh11 lt0 ?_))
               intro b20
               refine ⟨_, Keeps.frzTop (f := encInt) (l := (y8 ++ ([(list.getD (Int.toNat v0) default).Id] : List Int))) (fun _ => rfl) iNil, ?_⟩
               refine ⟨_, _, rfl, ?_⟩
               refine WalkP.nil ?_
               refine NodeS.branch [7] (inCons 1 rfl inNil) rfl rfl rfl ⟨?_, trivial⟩
               ·
                refine ⟨_, _, _, _, rfl, rfl, rfl, (⟨_, _, rfl, rfl, rfl⟩), fun E1 => ?_⟩
                refine (V1.buildSliceT (f := (encL rn 1 encInt)) ([(y8 ++ ([(list.getD (Int.toNat v0) default).Id] : List Int))] : List (List Int)) rfl rfl esz_47 zk_27 rfl rfl rfl rfl rfl rfl rfl lt0 ?_)
                intro b21
                refine ⟨_, _, rfl, ?_⟩
                refine WalkP.nil ?_
                refine NodeS.fin (inCons 2 rfl inNil) rfl rfl rfl (⟨_, _, rfl, rfl, _, _, rfl, rfl, _, _, rfl, rfl, _, _, rfl, rfl, _, _, rfl, rfl, _, _, rfl, rfl, _, _, rfl, rfl, _, _, rfl, rfl, _, _, rfl, rfl, _, _, rfl, rfl, _, _, rfl, rfl, _, _, rfl, rfl, _, _, rfl, rfl, _, _, rfl, rfl, rfl⟩) ?_
                refine VO.cons rfl (V1.appendMap (k := 3) (f := (encL rn 1 encInt)) (l := next2) (m := ([(y8 ++ ([(list.getD (Int.toNat v0) default).Id] : List Int))] : List (List Int))) rfl rfl rfl rfl rfl esz_47 eby_47 zk_27 rfl rfl rfl (SrcOf.srMap (k := 0) rfl isl_47) hh12 lt0 ?_)
                intro b22
                refine VO.cons rfl (V1.assign rfl rfl rfl lt0 ?_)
                refine VO.nil ?_
                exact ⟨(((seen3 ++ ([(list.getD (Int.toNat v0) default).Id] : List Int)), (next2 ++ ([(y8 ++ ([(list.getD (Int.toNat v0) default).Id] : List Int))] : List (List Int)))), (b14, b22)), Option.some.inj hm4, Keeps.mk (ks := [2, 0]) rfl ⟨rfl, rfl, rfl, rfl, rfl, rfl, rfl, rfl, rfl, rfl, rfl, rfl, rfl, trivial⟩ (⟨_, _, rfl, rfl, _, _, rfl, rfl, rfl⟩) rfl⟩
            ·
             replace hm4 := cond_f hc5 hm4
             refine V.skip ?_
             exact ⟨((seen3, next2), (b8, b9)), Option.some.inj hm4, Keeps.mk (ks := [1, 2]) rfl ⟨rfl, rfl, rfl, rfl, rfl, rfl, rfl, rfl, rfl, rfl, rfl, rfl, rfl, trivial⟩ (⟨_, _, rfl, rfl, _, _, rfl, rfl, rfl⟩) rfl⟩
           ·
            rintro ⟨⟨seen4, next3⟩, ⟨b10, b11⟩⟩ rfl
            try dsimp only at hm3
            refine V.region ?_
            refine VO.cons rfl (V1.int rfl rfl rfl rfl rfl lt0 ?_)
            refine VO.cons rfl (V1.move rfl rfl rfl lt0 ?_)
            refine VO.nil ?_
            exact ⟨(m2, (seen4, next3, (IntKind.i64.wrap (v0 + (1 : Int)))), (b10, b11)), hl3 _ (Option.some.inj hm3).symm, Nat.lt_succ_self _, Keeps.mk (ks := [0, 1]) rfl ⟨rfl, rfl, rfl, rfl, rfl, rfl, rfl, rfl, rfl, rfl, rfl, rfl, rfl, trivial⟩ (⟨_, _, rfl, rfl, _, _, rfl, rfl, rfl⟩) rfl⟩
          ·
           replace hm3 := cond_f hc4 hm3
           refine V.exit ?_
           obtain rfl := hr3 _ (Option.some.inj hm3).symm
           exact ⟨((seen3, next2), (b8, b9)), rfl, Keeps.mk (ks := [0, 1]) rfl ⟨rfl, rfl, rfl, rfl, rfl, rfl, rfl, rfl, trivial⟩ (⟨_, _, rfl, rfl, _, _, rfl, rfl, rfl⟩) rfl⟩
         ·
          rintro ⟨⟨seen2, next1⟩, ⟨b6, b7⟩⟩ rfl
          try dsimp only at hm2
          refine V.region ?_
          refine VO.cons rfl (V1.int rfl rfl rfl rfl rfl lt0 ?_)
          refine VO.cons rfl (V1.move rfl rfl rfl lt0 ?_)
          refine VO.nil ?_
          exact ⟨(m1, (seen2, next1, (IntKind.i64.wrap (v + (1 : Int)))), (b6, (some b7))), ⟨hl2 _ (Option.some.inj hm2).symm, (fun e => by cases e)⟩, Nat.lt_succ_self _, Keeps.mk (ks := [0, 1]) rfl ⟨rfl, rfl, rfl, rfl, rfl, rfl, rfl, rfl, trivial⟩ (⟨_, _, rfl, rfl, _, _, rfl, rfl, rfl⟩) rfl⟩
       ·
        replace hm2 := cond_f hc2 hm2
        refine V.exit ?_
        obtain rfl := hr2 _ (Option.some.inj hm2).symm
        exact ⟨((seen1, next0), (b5, (some ob2))), ⟨rfl, (fun e => by cases e)⟩, Keeps.mk (ks := [0, 1]) rfl ⟨rfl, rfl, rfl, rfl, rfl, trivial⟩ (⟨_, _, rfl, rfl, _, _, rfl, rfl, rfl⟩) rfl⟩
     ·
      rintro ⟨⟨seen0, next⟩, ⟨b4, ob1⟩⟩ ⟨rfl, hob1⟩
      try dsimp only at hm1
      rcases ob1 with _ | ob1
      ·
       replace hob1 := hob1 rfl
       refine V.region ?_
       refine VO.cons rfl (V1.move rfl rfl rfl lt0 ?_)
       refine VO.cons rfl (V1.assign rfl rfl rfl lt0 ?_)
       refine VO.nil ?_
       exact ⟨(m0, (next, seen0), (none, b4)), ⟨hl1 _ (Option.some.inj hm1).symm, (fun _ => hob1)⟩, Nat.lt_succ_self _, Keeps.mk (ks := [0]) rfl ⟨rfl, rfl, rfl, rfl, rfl, trivial⟩ (⟨_, _, rfl, rfl, rfl⟩) rfl⟩
      ·
       refine V.region ?_
       refine VO.cons rfl (V1.move rfl rfl rfl lt0 ?_)
       refine VO.cons rfl (V1.assign rfl rfl rfl lt0 ?_)
       refine VO.nil ?_
       exact ⟨(m0, (next, seen0), ((some ob1), b4)), ⟨hl1 _ (Option.some.inj hm1).symm, (fun e => by cases e)⟩, Nat.lt_succ_self _, Keeps.mk (ks := [1, 0]) rfl ⟨rfl, rfl, rfl, rfl, rfl, trivial⟩ (⟨_, _, rfl, rfl, _, _, rfl, rfl, rfl⟩) rfl⟩
    ·
     replace hm1 := cond_f hc1 hm1
     refine V.exit ?_
     obtain rfl := hr1 _ (Option.some.inj hm1).symm
     exact ⟨((), ()), rfl, Keeps.mk (ks := []) rfl trivial (rfl) rfl⟩
   ·
    show V _ _ _ ⟨92, [(10, .sref ob0 1 0 (List.length paths)), (11, .sref b3 1 0 (List.length seen)), (0, .vl ρ0 4 (List.map (encFormat ρ0) list)), (2, .int .i64 to_), (3, .int .i64 day)], [(ob0, ⟨1, List.map (encL rn 1 encInt) paths⟩), (b3, ⟨1, List.map encInt seen⟩)]⟩
    refine V.seq ?_
    refine V.seq ?_
    refine V.region ?_
    refine VO.cons rfl (V1.move rfl rfl rfl lt0 ?_)
    refine VO.cons rfl (V1.lenSref rfl rfl rfl rfl rfl rfl isl_47 lt0 ?_)
    refine VO.cons rfl (V1.int rfl rfl rfl rfl rfl lt0 ?_)
    refine VO.nil ?_
    refine V.cond rfl (fun hc1 => ?_) (fun hc1 => ?_)
    ·
     replace hm1 := cond_t hc1 hm1
     refine V.skip ?_
     refine V.block ?_
     refine V.seq ?_
     refine V.region ?_
     refine VO.cons rfl (V1.assign rfl rfl rfl lt0 ?_)
     refine VO.nil ?_
     refine V.seq ?_
     refine V.seq ?_
     refine V.region ?_
     refine VO.cons rfl (V1.move rfl rfl rfl lt0 ?_)
     refine VO.cons rfl (V1.lenSref rfl rfl rfl rfl rfl rfl isl_47 lt0 ?_)
     refine VO.cons rfl (V1.move rfl rfl rfl lt0 ?_)
     refine VO.nil ?_
     refine V.keep 92 [0, 2, 3, 11, 12, 37, 38, 39] [0, 1] (E0 := [(0, .vl ρ0 4 (List.map (encFormat ρ0) list)), (2, .int .i64 to_), (3, .int .i64 day), (11, .sref b3 1 0 (List.length seen)), (12, .nils), (37, .sref ob0 1 0 (List.length paths)), (38, .int .i64 (paths.length : Int)), (39, .int .i64 (0 : Int))]) (H0 := [(ob0, ⟨1, List.map (encL rn 1 encInt) paths⟩), (b3, ⟨1, List.map encInt seen⟩)]) rfl (⟨_, _, rfl, rfl, _, _, rfl, rfl, _, _, rfl, rfl, _, _, rfl, rfl, _, _, rfl, rfl, _, _, rfl, rfl, _, _, rfl, rfl, _, _, rfl, rfl, rfl⟩) (⟨_, _, rfl, rfl, _, _, rfl, rfl, rfl⟩) rfl ?_
     replace hm1 := bindO hm1; rcases hm1 with ⟨e1, he2, hm1⟩
     refine V.cutT (D := (List Int × List (List Int)) × (Nat × Option Nat)) (fun ⟨⟨seen0, next⟩, ⟨b4, ob1⟩⟩ => ⟨92, [(11, .sref b4 1 0 (List.length seen0)), (12, optS 1 ob1 (List.length next)), (0, .vl ρ0 4 (List.map (encFormat ρ0) list)), (2, .int .i64 to_), (3, .int .i64 day)], [(b4, ⟨1, List.map encInt seen0⟩)] ++ optH 1 ob1 (List.map (encL rn 1 encInt) next)⟩) (fun ⟨⟨seen0, next⟩, ⟨b4, ob1⟩⟩ => (.inl (seen0, next) = e1) ∧ (ob1 = none → next = [])) ?_ ?_
     ·
      refine V.block ?_
      refine V.keep 92 [11, 12, 39, 0, 2, 3, 37, 38] [1, 0] (E0 := [(11, .sref b3 1 0 (List.length seen)), (12, .nils), (39, .int .i64 (0 : Int)), (0, .vl ρ0 4 (List.map (encFormat ρ0) list)), (2, .int .i64 to_), (3, .int .i64 day), (37, .sref ob0 1 0 (List.length paths)), (38, .int .i64 (paths.length : Int))]) (H0 := [(b3, ⟨1, List.map encInt seen⟩), (ob0, ⟨1, List.map (encL rn 1 encInt) paths⟩)]) rfl (⟨_, _, rfl, rfl, _, _, rfl, rfl, _, _, rfl, rfl, _, _, rfl, rfl, _, _, rfl, rfl, _, _, rfl, rfl, _, _, rfl, rfl, _, _, rfl, rfl, rfl⟩) (⟨_, _, rfl, rfl, _, _, rfl, rfl, rfl⟩) rfl ?_
      refine V.loopE (D := Nat × (List Int × List (List Int) × Int) × (Nat × Option Nat)) (fun ⟨n1, ⟨seen1, next0, v⟩, ⟨b5, ob2⟩⟩ => [(11, .sref b5 1 0 (List.length seen1)), (12, optS 1 ob2 (List.length next0)), (39, .int .i64 v)]) (fun ⟨n1, ⟨seen1, next0, v⟩, ⟨b5, ob2⟩⟩ => [(b5, ⟨1, List.map encInt seen1⟩)] ++ optH 1 ob2 (List.map (encL rn 1 encInt) next0)) (fun ⟨n1, ⟨seen1, next0, v⟩, ⟨b5, ob2⟩⟩ => loopO (M.impl_ShortestPath_l1 list to_ day paths) n1 (seen1, next0, v) = some e1 ∧ (ob2 = none → next0 = [])) (fun ⟨n1, _, _⟩ => n1) (rounds, (seen, ([] : List (List Int)), (0 : Int)), (b3, none)) rfl ⟨he2, (fun _ => rfl)⟩ ?_
      rintro ⟨n1, ⟨seen1, next0, v⟩, ⟨b5, ob2⟩⟩ ⟨hP1, hob2⟩
      obtain ⟨m1, y3, rfl, hm2, hl2, hr2⟩ := loop_head hP1
      unfold M.impl_ShortestPath_l1 at hm2; dsimp only at hm2
      rcases ob2 with _ | ob2
      ·
       replace hob2 := hob2 rfl
       show V _ _ _ ⟨92, [(11, .sref b5 1 0 (List.length seen1)), (12, .nils), (39, .int .i64 v), (0, .vl ρ0 4 (List.map (encFormat ρ0) list)), (2, .int .i64 to_), (3, .int .i64 day), (37, .sref ob0 1 0 (List.length paths)), (38, .int .i64 (paths.length : Int))], [(b5, ⟨1, List.map encInt seen1⟩), (ob0, ⟨1, List.map (encL rn 1 encInt) paths⟩)]⟩
       refine V.seq ?_
       refine V.region ?_
       refine VO.cons rfl (V1.int rfl rfl rfl rfl rfl lt0 ?_)
       refine VO.nil ?_
       refine V.seq ?_
       refine V.cond rfl (fun hc2 => ?_) (fun hc2 => ?_)
       ·
        replace hm2 := cond_t hc2 hm2
        refine V.skip ?_
        refine V.seq ?_
        refine V.block ?_
        refine V.seq ?_
        replace hm2 := asrt_some hm2; rcases hm2 with ⟨hh2, hm2⟩
        refine V.region ?_
        refine VO.cons rfl (V1.indexSr rfl rfl esz_47 rfl rfl hh2 lt0 ?_)
        refine VO.cons rfl (V1.loadMap (k := 1) (f := (encL rn 1 encInt)) rfl rfl tyk_27 rfl rfl (by simpa using natLt hh2.1 hh2.2) rfl lt0 ?_)
        refine VO.cons rfl (V1.assign rfl rfl rfl lt0 ?_)
        refine VO.nil ?_
        refine V.seq ?_
        replace hm2 := asrt_some hm2; rcases hm2 with ⟨hh3, hm2⟩
        refine V.region ?_
        refine VO.cons rfl (V1.move rfl rfl rfl lt0 ?_)
        refine VO.cons rfl (V1.move rfl rfl rfl lt0 ?_)
        refine VO.cons rfl (V1.lenMap rfl rfl rfl rfl rfl rfl isl_27 lt0 ?_)
        refine VO.cons rfl (V1.int rfl rfl rfl rfl rfl lt0 ?_)
        refine VO.cons rfl (V1.indexI rfl rfl esz_27 rfl rfl hh3 lt0 ?_)
        refine VO.cons rfl (V1.loadPin rfl rfl tyk_3 rfl rfl lt0 ?_)
        refine VO.cons rfl (V1.assign rfl rfl rfl lt0 ?_)
        refine VO.nil ?_
        refine V.keep 92 [0, 2, 3, 11, 12, 14, 15, 37, 38, 39] [0, 1] (E0 := [(0, .vl ρ0 4 (List.map (encFormat ρ0) list)), (2, .int .i64 to_), (3, .int .i64 day), (11, .sref b5 1 0 (List.length seen1)), (12, .nils), (14, .vl rn 1 (List.map encInt (paths.getD (Int.toNat v) default))), (15, .int .i64 ((paths.getD (Int.toNat v) default).getD (Int.toNat (IntKind.i64.wrap (((paths.getD (Int.toNat v) default).length : Int) - (1 : Int)))) default)), (37, .sref ob0 1 0 (List.length paths)), (38, .int .i64 (paths.length : Int)), (39, .int .i64 v)]) (H0 := [(b5, ⟨1, List.map encInt seen1⟩), (ob0, ⟨1, List.map (encL rn 1 encInt) paths⟩)]) rfl (⟨_, _, rfl, rfl, _, _, rfl, rfl, _, _, rfl, rfl, _, _, rfl, rfl, _, _, rfl, rfl, _, _, rfl, rfl, _, _, rfl, rfl, _, _, rfl, rfl, _, _, rfl, rfl, _, _, rfl, rfl, rfl⟩) (⟨_, _, rfl, rfl, _, _, rfl, rfl, rfl⟩) rfl ?_
        refine V.seq ?_
        refine V.seq ?_
        refine V.region ?_
        refine VO.cons rfl (V1.move rfl rfl rfl lt0 ?_)
        refine VO.cons rfl (V1.move rfl rfl rfl lt0 ?_)
        refine VO.cons rfl (V1.int rfl rfl rfl rfl rfl lt0 ?_)
        refine VO.nil ?_
        refine V.cond rfl (fun hc3 => ?_) (fun hc3 => ?_)
        ·
         replace hm2 := cond_t hc3 hm2
         refine V.seq ?_
         refine V.region ?_
         refine VO.cons rfl (V1.move rfl rfl rfl lt0 ?_)
         refine VO.cons rfl (V1.assign rfl rfl rfl lt0 ?_)
         refine VO.cons rfl (V1.assign rfl rfl rfl lt0 ?_)
         refine VO.nil ?_
         refine V.ret ?_
         obtain rfl := hr2 _ (Option.some.inj hm2).symm
         change some _ = some _ at hm1
         obtain rfl := hr1 _ (Option.some.inj hm1).symm
         change some _ = some _ at hm0
         obtain rfl := Option.some.inj hm0
         exact ⟨_, [], ⟨_, _, rfl, rfl, _, _, rfl, rfl, rfl⟩, List.nil_sublist _, rfl, rfl⟩
        ·
         replace hm2 := cond_f hc3 hm2
         refine V.skip ?_
         refine V.seq ?_
         refine V.region ?_
         refine VO.cons rfl (V1.move rfl rfl rfl lt0 ?_)
         refine VO.cons rfl (V1.lenMap rfl rfl rfl rfl rfl rfl isl_24 lt0 ?_)
         refine VO.cons rfl (V1.move rfl rfl rfl lt0 ?_)
         refine VO.nil ?_
         replace hm2 := bindO hm2; rcases hm2 with ⟨e2, he3, hm2⟩
         refine V.cutT (D := (List Int × List (List Int)) × (Nat × Option Nat)) (fun ⟨⟨seen2, next1⟩, ⟨b6, ob3⟩⟩ => ⟨92, [(11, .sref b6 1 0 (List.length seen2)), (12, optS 1 ob3 (List.length next1)), (0, .vl ρ0 4 (List.map (encFormat ρ0) list)), (2, .int .i64 to_), (3, .int .i64 day), (37, .sref ob0 1 0 (List.length paths)), (38, .int .i64 (paths.length : Int)), (39, .int .i64 v)], [(b6, ⟨1, List.map encInt seen2⟩)] ++ optH 1 ob3 (List.map (encL rn 1 encInt) next1) ++ [(ob0, ⟨1, List.map (encL rn 1 encInt) paths⟩)]⟩) (fun ⟨⟨seen2, next1⟩, ⟨b6, ob3⟩⟩ => ((seen2, next1) = e2) ∧ (ob3 = none → next1 = [])) ?_ ?_
         ·
          refine V.block ?_
          refine V.keep 92 [11, 12, 55, 0, 2, 3, 14, 15, 37, 38, 39, 53, 54] [0, 1] (E0 := [(11, .sref b5 1 0 (List.length seen1)), (12, .nils), (55, .int .i64 (0 : Int)), (0, .vl ρ0 4 (List.map (encFormat ρ0) list)), (2, .int .i64 to_), (3, .int .i64 day), (14, .vl rn 1 (List.map encInt (paths.getD (Int.toNat v) default))), (15, .int .i64 ((paths.getD (Int.toNat v) default).getD (Int.toNat (IntKind.i64.wrap (((paths.getD (Int.toNat v) default).length : Int) - (1 : Int)))) default)), (37, .sref ob0 1 0 (List.length paths)), (38, .int .i64 (paths.length : Int)), (39, .int .i64 v), (53, .vl ρ0 4 (List.map (encFormat ρ0) list)), (54, .int .i64 (list.length : Int))]) (H0 := [(b5, ⟨1, List.map encInt seen1⟩), (ob0, ⟨1, List.map (encL rn 1 encInt) paths⟩)]) rfl (⟨_, _, rfl, rfl, _, _, rfl, rfl, _, _, rfl, rfl, _, _, rfl, rfl, _, _, rfl, rfl, _, _, rfl, rfl, _, _, rfl, rfl, _, _, rfl, rfl, _, _, rfl, rfl, _, _, rfl, rfl, _, _, rfl, rfl, _, _, rfl, rfl, _, _, rfl, rfl, rfl⟩) (⟨_, _, rfl, rfl, _, _, rfl, rfl, rfl⟩) rfl ?_
          refine V.loopE (D := Nat × (List Int × List (List Int) × Int) × (Nat × Option Nat)) (fun ⟨n2, ⟨seen3, next2, v0⟩, ⟨b7, ob4⟩⟩ => [(11, .sref b7 1 0 (List.length seen3)), (12, optS 1 ob4 (List.length next2)), (55, .int .i64 v0)]) (fun ⟨n2, ⟨seen3, next2, v0⟩, ⟨b7, ob4⟩⟩ => [(b7, ⟨1, List.map encInt seen3⟩)] ++ optH 1 ob4 (List.map (encL rn 1 encInt) next2)) (fun ⟨n2, ⟨seen3, next2, v0⟩, ⟨b7, ob4⟩⟩ => loopO (M.impl_ShortestPath_l2 list day paths v) n2 (seen3, next2, v0) = some e2 ∧ (ob4 = none → next2 = [])) (fun ⟨n2, _, _⟩ => n2) (rounds, (seen1, next0, (0 : Int)), (b5, none)) rfl ⟨he3, (fun _ => hob2)⟩ ?_
          rintro ⟨n2, ⟨seen3, next2, v0⟩, ⟨b7, ob4⟩⟩ ⟨hP2, hob4⟩
          obtain ⟨m2, y4, rfl, hm3, hl3, hr3⟩ := loop_head hP2
          unfold M.impl_ShortestPath_l2 at hm3; dsimp only at hm3
          rcases ob4 with _ | ob4
          ·
           replace hob4 := hob4 rfl
           show V _ _ _ ⟨92, [(11, .sref b7 1 0 (List.length seen3)), (12, .nils), (55, .int .i64 v0), (0, .vl ρ0 4 (List.map (encFormat ρ0) list)), (2, .int .i64 to_), (3, .int .i64 day), (14, .vl rn 1 (List.map encInt (paths.getD (Int.toNat v) default))), (15, .int .i64 ((paths.getD (Int.toNat v) default).getD (Int.toNat (IntKind.i64.wrap (((paths.getD (Int.toNat v) default).length : Int) - (1 : Int)))) default)), (37, .sref ob0 1 0 (List.length paths)), (38, .int .i64 (paths.length : Int)), (39, .int .i64 v), (53, .vl ρ0 4 (List.map (encFormat ρ0) list)), (54, .int .i64 (list.length : Int))], [(b7, ⟨1, List.map encInt seen3⟩), (ob0, ⟨1, List.map (encL rn 1 encInt) paths⟩)]⟩
           refine V.seq ?_
           refine V.region ?_
           refine VO.cons rfl (V1.int rfl rfl rfl rfl rfl lt0 ?_)
           refine VO.nil ?_
           refine V.seq ?_
           refine V.cond rfl (fun hc4 => ?_) (fun hc4 => ?_)
           ·
            replace hm3 := cond_t hc4 hm3
            refine V.skip ?_
            refine V.seq ?_
            replace hm3 := bindO hm3; rcases hm3 with ⟨j0, hm4, hm3⟩
            refine V.cutT (D := (List Int × List (List Int)) × (Nat × Option Nat)) (fun ⟨⟨seen4, next3⟩, ⟨b8, ob5⟩⟩ => ⟨92, [(11, .sref b8 1 0 (List.length seen4)), (12, optS 1 ob5 (List.length next3)), (0, .vl ρ0 4 (List.map (encFormat ρ0) list)), (2, .int .i64 to_), (3, .int .i64 day), (14, .vl rn 1 (List.map encInt (paths.getD (Int.toNat v) default))), (15, .int .i64 ((paths.getD (Int.toNat v) default).getD (Int.toNat (IntKind.i64.wrap (((paths.getD (Int.toNat v) default).length : Int) - (1 : Int)))) default)), (37, .sref ob0 1 0 (List.length paths)), (38, .int .i64 (paths.length : Int)), (39, .int .i64 v), (53, .vl ρ0 4 (List.map (encFormat ρ0) list)), (54, .int .i64 (list.length : Int)), (55, .int .i64 v0)], [(b8, ⟨1, List.map encInt seen4⟩)] ++ optH 1 ob5 (List.map (encL rn 1 encInt) next3) ++ [(ob0, ⟨1, List.map (encL rn 1 encInt) paths⟩)]⟩) (fun ⟨⟨seen4, next3⟩, ⟨b8, ob5⟩⟩ => ((seen4, next3) = j0) ∧ (ob5 = none → next3 = [])) ?_ ?_
            ·
             refine V.block ?_
             refine V.seq ?_
             replace hm4 := asrt_some hm4; rcases hm4 with ⟨hh4, hm4⟩
             refine V.region ?_
             refine VO.cons rfl (V1.indexI rfl rfl esz_24 rfl rfl hh4 lt0 ?_)
             refine VO.cons rfl (V1.loadPinAll rfl rfl tyk_34 rfl rfl lt0 ?_)
             refine VO.cons rfl (V1.alloc rfl rfl zk_34 lt0 ?_)
             intro b9
             refine VO.cons rfl (V1.storeRefAll (k := 0) rfl rfl tyk_34 rfl rfl rfl rfl rfl rfl ?_)
             refine VO.nil ?_
             refine V.seq ?_
             replace hm4 := bindO hm4; rcases hm4 with ⟨y5, hh5, hm4⟩
             replace hm4 := asrt_some hm4; rcases hm4 with ⟨hh6, hm4⟩
             replace hm4 := bindO hm4; rcases hm4 with ⟨y6, hh7, hm4⟩
             replace hm4 := bindO hm4; rcases hm4 with ⟨y7, hh8, hm4⟩
             refine V.regionM 92 16 [⟨[(0, none)], [], none⟩, ⟨[(0, none)], [], none⟩, ⟨[(15, none)], [], none⟩, ⟨[(60, some 1), (61, some 0)], [], none⟩, ⟨[(59, some 3), (62, some 0)], [], none⟩, ⟨[(63, some 0)], [], none⟩, ⟨[(17, none)], [], none⟩, ⟨[(3, none)], [], none⟩, ⟨[(64, some 2), (65, some 1), (66, some 0)], [], none⟩, ⟨[(67, some 0)], [], none⟩, ⟨[(11, none)], [(0, true)], none⟩, ⟨[(17, none)], [(1, true)], none⟩, ⟨[(70, some 0)], [(2, true)], none⟩, ⟨[(69, some 2), (71, some 0)], [(3, true)], none⟩, ⟨[(72, some 0)], [(4, true)], none⟩, ⟨[], [], some (true, 68, 73, 5, 0)⟩] [(0, none), (2, none), (3, none), (11, none), (12, none), (14, none), (15, none), (17, none), (37, none), (38, none), (39, none), (53, none), (54, none), (55, none), (74, some 0)] (⟨_, rfl, ⟨_, rfl, ⟨_, rfl, ⟨_, rfl, ⟨_, rfl, ⟨_, rfl, ⟨_, rfl, ⟨_, rfl, ⟨_, rfl, ⟨_, rfl, ⟨_, rfl, ⟨_, rfl, ⟨_, rfl, ⟨_, rfl, ⟨_, rfl, ⟨_, rfl, ⟨rfl, rfl⟩⟩⟩⟩⟩⟩⟩⟩⟩⟩⟩⟩⟩⟩⟩⟩⟩) mixed_orders rfl (by decide +kernel) (fun hck16 => ?_)
             refine VP.step (p := ?pv38619) rfl rfl rfl (⟨_, _, rfl, rfl, rfl⟩) ?hv38619 ?rest38619 hck16
             case hv38619 =>
              intro E1
              refine (V1.move rfl rfl rfl lt0 ?_)
              exact rfl
             refine VP.step (p := ?pv38620) rfl rfl rfl (⟨_, _, rfl, rfl, rfl⟩) ?hv38620 ?rest38620 hck16
             case hv38620 =>
              intro E1
              refine (V1.move rfl rfl rfl lt0 ?_)
              exact rfl
             refine VP.step (p := ?pv38621) rfl rfl rfl (⟨_, _, rfl, rfl, rfl⟩) ?hv38621 ?rest38621 hck16
             case hv38621 =>
              intro E1
              refine (V1.move rfl rfl rfl lt0 ?_)
              exact rfl
             refine VP.step (p := ?pv38622) rfl rfl rfl (⟨_, _, rfl, rfl, _, _, rfl, rfl, rfl⟩) ?hv38622 ?rest38622 hck16
             case hv38622 =>
              intro E1
              refine (V1.call rfl rfl rfl cok_54 rfl (ok_impl_formatAt hh5) rfl lt0 ?_)
              rintro _ _ ⟨rfl, rfl⟩
              exact rfl
             refine VP.step (p := ?pv38624) rfl rfl rfl (⟨_, _, rfl, rfl, _, _, rfl, rfl, rfl⟩) ?hv38624 ?rest38624 hck16
             case hv38624 =>
              intro E1
              refine (V1.indexI rfl rfl esz_24 rfl rfl hh6 lt0 ?_)
              exact rfl
             refine VP.step (p := ?pv38625) rfl rfl rfl (⟨_, _, rfl, rfl, rfl⟩) ?hv38625 ?rest38625 hck16
             case hv38625 =>
              intro E1
              refine (V1.loadPinAll rfl rfl tyk_34 rfl rfl lt0 ?_)
              exact rfl
             refine VP.step (p := ?pv38626) rfl rfl rfl (⟨_, _, rfl, rfl, rfl⟩) ?hv38626 ?rest38626 hck16
             case hv38626 =>
              intro E1
              refine (V1.loadRefAll (k := 0) rfl rfl tyk_34 rfl rfl rfl rfl rfl lt0 ?_)
              exact rfl
             refine VP.step (p := ?pv38627) rfl rfl rfl (⟨_, _, rfl, rfl, rfl⟩) ?hv38627 ?rest38627 hck16
             case hv38627 =>
              intro E1
              refine (V1.move rfl rfl rfl lt0 ?_)
              exact rfl
             refine VP.step (p := ?pv38628) rfl rfl rfl (⟨_, _, rfl, rfl, _, _, rfl, rfl, _, _, rfl, rfl, rfl⟩) ?hv38628 ?rest38628 hck16
             case hv38628 =>
              intro E1
              refine (V1.call rfl rfl rfl cok_55 rfl (ok_impl_leads hh7) rfl lt0 ?_)
              rintro _ _ ⟨rfl, rfl⟩
              exact rfl
             refine VP.step (p := ?pv38630) rfl rfl rfl (⟨_, _, rfl, rfl, rfl⟩) ?hv38630 ?rest38630 hck16
             case hv38630 =>
              intro E1
              refine (V1.move rfl rfl rfl lt0 ?_)
              exact rfl
             refine VP.step (p := ?pv38631) rfl rfl rfl (⟨_, _, rfl, rfl, rfl⟩) ?hv38631 ?rest38631 hck16
             case hv38631 =>
              refine ⟨_, rfl, fun hg1 => ?_⟩
              intro E1
              refine (V1.move rfl rfl rfl lt0 ?_)
              exact rfl
             refine VP.step (p := ?pv38632) rfl rfl rfl (⟨_, _, rfl, rfl, rfl⟩) ?hv38632 ?rest38632 hck16
             case hv38632 =>
              refine ⟨_, rfl, fun hg1 => ?_⟩
              intro E1
              refine (V1.fieldRef rfl rfl fo_34_0 rfl lt0 ?_)
              exact rfl
             refine VP.step (p := ?pv38633) rfl rfl rfl (⟨_, _, rfl, rfl, rfl⟩) ?hv38633 ?rest38633 hck16
             case hv38633 =>
              refine ⟨_, rfl, fun hg1 => ?_⟩
              intro E1
              refine (V1.loadRef (k := 0) rfl rfl tyk_3 rfl rfl rfl rfl rfl lt0 ?_)
              exact rfl
             refine VP.step (p := ?pv38634) rfl rfl rfl (⟨_, _, rfl, rfl, _, _, rfl, rfl, rfl⟩) ?hv38634 ?rest38634 hck16
             case hv38634 =>
              refine ⟨_, rfl, fun hg1 => ?_⟩
              intro E1
              refine (V1.callL (rn + 1) [b7] [.vl (rn + 1) 1 (List.map encInt seen3), .int .i64 ((list.getD (Int.toNat v0) default).Id)] rfl rfl rfl cok_56 rfl ⟨_, _, rfl, Lend.srMap 1 rfl (fun _ => rfl) (.head _), ⟨_, _, rfl, .same _, rfl⟩⟩ (bwCons (k := 1) rfl bwNil) (ok_slices_Contains_int_int (cond_t hg1 hh8)) rfl (⟨(by first | omega | (dsimp only; omega)), by rintro _ _ ⟨rfl, rfl⟩; exact ⟨rfl, by simp⟩⟩) lt0 ?_)
              rintro _ _ ⟨rfl, rfl⟩
              exact rfl
             refine VP.step (p := ?pv38636) rfl rfl rfl (⟨_, _, rfl, rfl, rfl⟩) ?hv38636 ?rest38636 hck16
             case hv38636 =>
              refine ⟨_, rfl, fun hg1 => ?_⟩
              intro E1
              refine (V1.not rfl rfl rfl lt0 ?_)
              exact rfl
             refine VP.pickAnd rfl rfl rfl rfl rfl rfl (trivial) ?_ hck16
             refine VP.fin rfl (⟨_, _, rfl, rfl, _, _, rfl, rfl, _, _, rfl, rfl, _, _, rfl, rfl, _, _, rfl, rfl, _, _, rfl, rfl, _, _, rfl, rfl, _, _, rfl, rfl, _, _, rfl, rfl, _, _, rfl, rfl, _, _, rfl, rfl, _, _, rfl, rfl, _, _, rfl, rfl, _, _, rfl, rfl, _, _, rfl, rfl, rfl⟩) ?_
             refine VO.nil ?_
             refine V.cond rfl (fun hc5 => ?_) (fun hc5 => ?_)
             ·
              replace hm4 := cond_t hc5 hm4
              refine V.seq ?_
              replace hm4 := asrt_some hm4; rcases hm4 with ⟨hh9, hm4⟩
              refine V.region ?_
              refine VO.cons rfl (V1.move rfl rfl rfl lt0 ?_)
              refine VO.cons rfl (V1.fieldRef rfl rfl fo_34_0 rfl lt0 ?_)
              refine VO.cons rfl (V1.loadRef (k := 0) rfl rfl tyk_3 rfl rfl rfl rfl rfl lt0 ?_)
              refine VO.cons rfl (V1.buildSliceT (f := encInt) ([(list.getD (Int.toNat v0) default).Id] : List Int) rfl rfl esz_27 zk_3 rfl rfl rfl rfl rfl rfl rfl lt0 ?_)
              intro b10
              refine VO.cons rfl (V1.appendMap (k := 2) (f := encInt) (l := seen3) (m := ([(list.getD (Int.toNat v0) default).Id] : List Int)) rfl rfl rfl rfl rfl esz_27 eby_27 zk_3 rfl rfl rfl (SrcOf.srMap (k := 0) rfl isl_27) hh9 lt0 ?_)
              intro b11
              refine VO.cons rfl (V1.assign rfl rfl rfl lt0 ?_)
              refine VO.nil ?_
              refine V.keep 92 [0, 2, 3, 11, 12, 14, 15, 17, 37, 38, 39, 53, 54, 55] [0, 2, 3] (E0 := [(0, .vl ρ0 4 (List.map (encFormat ρ0) list)), (2, .int .i64 to_), (3, .int .i64 day), (11, .sref b11 1 0 (List.length (seen3 ++ ([(list.getD (Int.toNat v0) default).Id] : List Int)))), (12, .nils), (14, .vl rn 1 (List.map encInt (paths.getD (Int.toNat v) default))), (15, .int .i64 ((paths.getD (Int.toNat v) default).getD (Int.toNat (IntKind.i64.wrap (((paths.getD (Int.toNat v) default).length : Int) - (1 : Int)))) default)), (17, .ref b9 4 0 0), (37, .sref ob0 1 0 (List.length paths)), (38, .int .i64 (paths.length : Int)), (39, .int .i64 v), (53, .vl ρ0 4 (List.map (encFormat ρ0) list)), (54, .int .i64 (list.length : Int)), (55, .int .i64 v0)]) (H0 := [(b11, ⟨1, List.map encInt (seen3 ++ ([(list.getD (Int.toNat v0) default).Id] : List Int))⟩), (b9, ⟨4, [encFormat ρ0 (list.getD (Int.toNat v0) default)]⟩), (ob0, ⟨1, List.map (encL rn 1 encInt) paths⟩)]) rfl (⟨_, _, rfl, rfl, _, _, rfl, rfl, _, _, rfl, rfl, _, _, rfl, rfl, _, _, rfl, rfl, _, _, rfl, rfl, _, _, rfl, rfl, _, _, rfl, rfl, _, _, rfl, rfl, _, _, rfl, rfl, _, _, rfl, rfl, _, _, rfl, rfl, _, _, rfl, rfl, _, _, rfl, rfl, rfl⟩) (⟨_, _, rfl, rfl, _, _, rfl, rfl, _, _, rfl, rfl, rfl⟩) rfl ?_
              replace hm4 := bindO hm4; rcases hm4 with ⟨y8, hh10, hm4⟩
              replace hm4 := asrt_some hm4; rcases hm4 with ⟨hh11, hm4⟩
              replace hm4 := asrt_some hm4; rcases hm4 with ⟨hh12, hm4⟩
              refine V.regionS [(b9, ⟨4, [encFormat ρ0 (list.getD (Int.toNat v0) default)]⟩)] 92 8 [⟨[(12, none)], false⟩, ⟨[(14, none)], false⟩, ⟨[(81, some 1)], true⟩, ⟨[(17, none)], false⟩, ⟨[(83, some 3)], false⟩, ⟨[(84, some 4)], false⟩, ⟨[(82, some 2), (85, some 5)], true⟩, ⟨[(86, some 6)], true⟩] [(0, none), (2, none), (3, none), (11, none), (14, none), (15, none), (37, none), (38, none), (39, none), (53, none), (54, none), (55, none), (80, some 0), (87, some 7)] 3 (⟨_, rfl, ⟨_, rfl, ⟨_, rfl, ⟨_, rfl, ⟨_, rfl, ⟨_, rfl, ⟨_, rfl, ⟨_, rfl, ⟨rfl, rfl⟩⟩⟩⟩⟩⟩⟩⟩⟩) mixed_orders rfl (by decide +kernel) ?_
              refine WalkP.step (p := ?pv38640) 0 rfl rfl rfl rfl rfl (⟨_, _, rfl, rfl, rfl⟩) ?hv38640 ?rest38640
              case hv38640 =>
               intro E1 H1 hI1
               refine (V1.move rfl rfl rfl lt0 ?_)
               exact rfl
              refine WalkP.step (p := ?pv38641) 1 rfl rfl rfl rfl rfl (⟨_, _, rfl, rfl, rfl⟩) ?hv38641 ?rest38641
              case hv38641 =>
               intro E1 H1 hI1
               refine (V1.move rfl rfl rfl lt0 ?_)
               exact rfl
              refine WalkP.step (p := ?pv38642) 3 rfl rfl rfl rfl rfl (⟨_, _, rfl, rfl, rfl⟩) ?hv38642 ?rest38642
              case hv38642 =>
               intro E1 H1 hI1
               refine (V1.fieldRef rfl rfl fo_34_0 rfl lt0 ?_)
               exact rfl
              refine WalkP.step (p := ?pv38643) 4 rfl rfl rfl rfl rfl (⟨_, _, rfl, rfl, rfl⟩) ?hv38643 ?rest38643
              case hv38643 =>
               intro E1 H1 hI1
               obtain ⟨k38644_, hk38644_⟩ := inGet 0 rfl hI1
               refine (V1.loadRef (k := k38644_) rfl rfl tyk_3 rfl hk38644_ rfl rfl rfl lt0 ?_)
               exact rfl
              refine WalkP.step (p := ?pv38645) 5 rfl rfl rfl rfl rfl (⟨_, _, rfl, rfl, rfl⟩) ?hv38645 ?rest38645
              case hv38645 =>
               intro E1 H1 hI1
               refine (V1.buildFrz (f := encInt) ([(list.getD (Int.toNat v0) default).Id] : List Int) (fun _ => rfl) iNil rfl rfl esz_27 zk_3 rfl rfl rfl rfl rfl rfl rfl lt0 ?_)
               exact rfl
              refine WalkP.nil ?_
              refine NodeS.branch [2] (inCons 1 rfl inNil) rfl rfl rfl ⟨?_, trivial⟩
              ·
               refine ⟨_, _, _, _, rfl, rfl, rfl, (⟨_, _, rfl, rfl, rfl⟩), fun E1 => ?_⟩
               refine (V1.permK (V1.call rfl rfl rfl cok_57 rfl (ok_slices_Clone_int_int hh10) rfl lt0 ?_))
               rintro _ _ ⟨ob7, hob7, rfl, rfl⟩
               refine ⟨_, ?_, Keeps.optBack (n := 1) (ob := ob7) (xs := List.map encInt y8) (H1 := []) (H2 := [(b11, ⟨1, List.map encInt (seen3 ++ ([(list.getD (Int.toNat v0) default).Id] : List Int))⟩), (b9, ⟨4, [encFormat ρ0 (list.getD (Int.toNat v0) default)]⟩), (ob0, ⟨1, List.map (encL rn 1 encInt) paths⟩)]) rfl⟩
               refine ⟨_, _, rfl, ?_⟩
               refine WalkP.nil ?_
               refine NodeS.branch [6] (inCons 1 rfl inNil) rfl rfl rfl ⟨?_, trivial⟩
               ·
                refine ⟨_, _, _, _, rfl, rfl, rfl, (⟨_, _, rfl, rfl, _, _, rfl, rfl, rfl⟩), fun E1 => ?_⟩
                refine (V1.thenK (V1.appendOpt (f := encInt) (l := y8) (m := ([(list.getD (Int.toNat v0) default).Id] : List Int)) [(b11, ⟨1, List.map encInt (seen3 ++ ([(list.getD (Int.toNat v0) default).Id] : List Int))⟩), (b9, ⟨4, [encFormat ρ0 (list.getD (Int.toNat v0) default)]⟩), (ob0, ⟨1, List.map (encL rn 1 encInt) paths⟩)] hob7 rfl rfl rfl rfl rfl esz_27 eby_27 zk_3 rfl rfl rfl rfl (.vl isl_27) rfl hh11 lt0 ?_))
                intro b17
                refine ⟨_, Keeps.frzTop (f := encInt) (l := (y8 ++ ([(list.getD (Int.toNat v0) default).Id] : List Int))) (fun _ => rfl) iNil, ?_⟩
                refine ⟨_, _, rfl, ?_⟩
                refine WalkP.nil ?_
                refine NodeS.branch [7] (inCons 1 rfl inNil) rfl rfl rfl ⟨?_, trivial⟩
                ·
                 refine ⟨_, _, _, _, rfl, rfl, rfl, (⟨_, _, rfl, rfl, rfl⟩), fun E1 => ?_⟩
                 refine (V1.buildSliceT (f := (encL rn 1 encInt)) ([(y8 ++ ([(list.getD (Int.toNat v0) default).Id] : List Int))] : List (List Int)) rfl rfl esz_47 zk_27 rfl rfl rfl rfl rfl rfl rfl lt0 ?_)
                 intro b18
                 refine ⟨_, _, rfl, ?_⟩
                 refine WalkP.nil ?_
                 refine NodeS.fin (inCons 2 rfl inNil) rfl rfl rfl (⟨_, _, rfl, rfl, _, _, rfl, rfl, _, _, rfl, rfl, _, _, rfl, rfl, _, _, rfl, rfl, _, _, rfl, rfl, _, _, rfl, rfl, _, _, rfl, rfl, _, _, rfl, rfl, _, _, rfl, rfl, _, _, rfl, rfl, _, _, rfl, rfl, _, _, rfl, rfl, _, _, rfl, rfl, rfl⟩) ?_
                 refine VO.cons rfl (V1.appendNilE (f := (encL rn 1 encInt)) (l := next2) (m := ([(y8 ++ ([(list.getD (Int.toNat v0) default).Id] : List Int))] : List (List Int))) hob4 rfl rfl rfl rfl rfl esz_47 eby_47 zk_27 rfl rfl rfl (SrcOf.srMap (k := 0) rfl isl_47) rfl hh12 lt0 ?_)
                 intro b19
                 refine VO.cons rfl (V1.assign rfl rfl rfl lt0 ?_)
                 refine VO.nil ?_
                 exact ⟨(((seen3 ++ ([(list.getD (Int.toNat v0) default).Id] : List Int)), (next2 ++ ([(y8 ++ ([(list.getD (Int.toNat v0) default).Id] : List Int))] : List (List Int)))), (b11, (some b19))), ⟨Option.some.inj hm4, (fun e => by cases e)⟩, Keeps.mk (ks := [2, 0, 4]) rfl ⟨rfl, rfl, rfl, rfl, rfl, rfl, rfl, rfl, rfl, rfl, rfl, rfl, rfl, trivial⟩ (⟨_, _, rfl, rfl, _, _, rfl, rfl, _, _, rfl, rfl, rfl⟩) rfl⟩
             ·
              replace hm4 := cond_f hc5 hm4
              refine V.skip ?_
              exact ⟨((seen3, next2), (b7, none)), ⟨Option.some.inj hm4, (fun _ => hob4)⟩, Keeps.mk (ks := [1, 2]) rfl ⟨rfl, rfl, rfl, rfl, rfl, rfl, rfl, rfl, rfl, rfl, rfl, rfl, rfl, trivial⟩ (⟨_, _, rfl, rfl, _, _, rfl, rfl, rfl⟩) rfl⟩
            ·
             rintro ⟨⟨seen4, next3⟩, ⟨b8, ob5⟩⟩ ⟨rfl, hob5⟩
             try dsimp only at hm3
             rcases ob5 with _ | ob5
             ·
              replace hob5 := hob5 rfl
              refine V.region ?_
              refine VO.cons rfl (V1.int rfl rfl rfl rfl rfl lt0 ?_)
              refine VO.cons rfl (V1.move rfl rfl rfl lt0 ?_)
              refine VO.nil ?_
              exact ⟨(m2, (seen4, next3, (IntKind.i64.wrap (v0 + (1 : Int)))), (b8, none)), ⟨hl3 _ (Option.some.inj hm3).symm, (fun _ => hob5)⟩, Nat.lt_succ_self _, Keeps.mk (ks := [0, 1]) rfl ⟨rfl, rfl, rfl, rfl, rfl, rfl, rfl, rfl, rfl, rfl, rfl, rfl, rfl, trivial⟩ (⟨_, _, rfl, rfl, _, _, rfl, rfl, rfl⟩) rfl⟩
             ·
              refine V.region ?_
              refine VO.cons rfl (V1.int rfl rfl rfl rfl rfl lt0 ?_)
              refine VO.cons rfl (V1.move rfl rfl rfl lt0 ?_)
              refine VO.nil ?_
              exact ⟨(m2, (seen4, next3, (IntKind.i64.wrap (v0 + (1 : Int)))), (b8, (some ob5))), ⟨hl3 _ (Option.some.inj hm3).symm, (fun e => by cases e)⟩, Nat.lt_succ_self _, Keeps.mk (ks := [0, 1, 2]) rfl ⟨rfl, rfl, rfl, rfl, rfl, rfl, rfl, rfl, rfl, rfl, rfl, rfl, rfl, trivial⟩ (⟨_, _, rfl, rfl, _, _, rfl, rfl, _, _, rfl, rfl, rfl⟩) rfl⟩
           ·
            replace hm3 := cond_f hc4 hm3
            refine V.exit ?_
            obtain rfl := hr3 _ (Option.some.inj hm3).symm
            exact ⟨((seen3, next2), (b7, none)), ⟨rfl, (fun _ => hob4)⟩, Keeps.mk (ks := [0, 1]) rfl ⟨rfl, rfl, rfl, rfl, rfl, rfl, rfl, rfl, trivial⟩ (⟨_, _, rfl, rfl, _, _, rfl, rfl, rfl⟩) rfl⟩
          ·
           show V _ _ _ ⟨92, [(11, .sref b7 1 0 (List.length seen3)), (12, .sref ob4 1 0 (List.length next2)), (55, .int .i64 v0), (0, .vl ρ0 4 (List.map (encFormat ρ0) list)), (2, .int .i64 to_), (3, .int .i64 day), (14, .vl rn 1 (List.map encInt (paths.getD (Int.toNat v) default))), (15, .int .i64 ((paths.getD (Int.toNat v) default).getD (Int.toNat (IntKind.i64.wrap (((paths.getD (Int.toNat v) default).length : Int) - (1 : Int)))) default)), (37, .sref ob0 1 0 (List.length paths)), (38, .int .i64 (paths.length : Int)), (39, .int .i64 v), (53, .vl ρ0 4 (List.map (encFormat ρ0) list)), (54, .int .i64 (list.length : Int))], [(b7, ⟨1, List.map encInt seen3⟩), (ob4, ⟨1, List.map (encL rn 1 encInt) next2⟩), (ob0, ⟨1, List.map (encL rn 1 encInt) paths⟩)]⟩
           refine V.seq ?_
           refine V.region ?_
           refine VO.cons rfl (V1.int rfl rfl rfl rfl rfl lt0 ?_)
           refine VO.nil ?_
           refine V.seq ?_
           refine V.cond rfl (fun hc4 => ?_) (fun hc4 => ?_)
           ·
            replace hm3 := cond_t hc4 hm3
            refine V.skip ?_
            refine V.seq ?_
            replace hm3 := bindO hm3; rcases hm3 with ⟨j0, hm4, hm3⟩
            refine V.cutT (D := (List Int × List (List Int)) × (Nat × Nat)) (fun ⟨⟨seen4, next3⟩, ⟨b8, b9⟩⟩ => ⟨92, [(11, .sref b8 1 0 (List.length seen4)), (12, .sref b9 1 0 (List.length next3)), (0, .vl ρ0 4 (List.map (encFormat ρ0) list)), (2, .int .i64 to_), (3, .int .i64 day), (14, .vl rn 1 (List.map encInt (paths.getD (Int.toNat v) default))), (15, .int .i64 ((paths.getD (Int.toNat v) default).getD (Int.toNat (IntKind.i64.wrap (((paths.getD (Int.toNat v) default).length : Int) - (1 : Int)))) default)), (37, .sref ob0 1 0 (List.length paths)), (38, .int .i64 (paths.length : Int)), (39, .int .i64 v), (53, .vl ρ0 4 (List.map (encFormat ρ0) list)), (54, .int .i64 (list.length : Int)), (55, .int .i64 v0)], [(b8, ⟨1, List.map encInt seen4⟩), (b9, ⟨1, List.map (encL rn 1 encInt) next3⟩), (ob0, ⟨1, List.map (encL rn 1 encInt) paths⟩)]⟩) (fun ⟨⟨seen4, next3⟩, ⟨b8, b9⟩⟩ => ((seen4, next3) = j0)) ?_ ?_
            ·
             refine V.block ?_
             refine V.seq ?_
             replace hm4 := asrt_some hm4; rcases hm4 with ⟨hh4, hm4⟩
             refine V.region ?_
             refine VO.cons rfl (V1.indexI rfl rfl esz_24 rfl rfl hh4 lt0 ?_)
             refine VO.cons rfl (V1.loadPinAll rfl rfl tyk_34 rfl rfl lt0 ?_)
             refine VO.cons rfl (V1.alloc rfl rfl zk_34 lt0 ?_)
             intro b10
             refine VO.cons rfl (V1.storeRefAll (k := 0) rfl rfl tyk_34 rfl rfl rfl rfl rfl rfl ?_)
             refine VO.nil ?_
             refine V.seq ?_
             replace hm4 := bindO hm4; rcases hm4 with ⟨y5, hh5, hm4⟩
             replace hm4 := asrt_some hm4; rcases hm4 with ⟨hh6, hm4⟩
             replace hm4 := bindO hm4; rcases hm4 with ⟨y6, hh7, hm4⟩
             replace hm4 := bindO hm4; rcases hm4 with ⟨y7, hh8, hm4⟩
             refine V.regionM 92 16 [⟨[(0, none)], [], none⟩, ⟨[(0, none)], [], none⟩, ⟨[(15, none)], [], none⟩, ⟨[(60, some 1), (61, some 0)], [], none⟩, ⟨[(59, some 3), (62, some 0)], [], none⟩, ⟨[(63, some 0)], [], none⟩, ⟨[(17, none)], [], none⟩, ⟨[(3, none)], [], none⟩, ⟨[(64, some 2), (65, some 1), (66, some 0)], [], none⟩, ⟨[(67, some 0)], [], none⟩, ⟨[(11, none)], [(0, true)], none⟩, ⟨[(17, none)], [(1, true)], none⟩, ⟨[(70, some 0)], [(2, true)], none⟩, ⟨[(69, some 2), (71, some 0)], [(3, true)], none⟩, ⟨[(72, some 0)], [(4, true)], none⟩, ⟨[], [], some (true, 68, 73, 5, 0)⟩] [(0, none), (2, none), (3, none), (11, none), (12, none), (14, none), (15, none), (17, none), (37, none), (38, none), (39, none), (53, none), (54, none), (55, none), (74, some 0)] (⟨_, rfl, ⟨_, rfl, ⟨_, rfl, ⟨_, rfl, ⟨_, rfl, ⟨_, rfl, ⟨_, rfl, ⟨_, rfl, ⟨_, rfl, ⟨_, rfl, ⟨_, rfl, ⟨_, rfl, ⟨_, rfl, ⟨_, rfl, ⟨_, rfl, ⟨_, rfl, ⟨rfl, rfl⟩⟩⟩⟩⟩⟩⟩⟩⟩⟩⟩⟩⟩⟩⟩⟩⟩) mixed_orders rfl (by decide +kernel) (fun hck16 => ?_)
             refine VP.step (p := ?pv38679) rfl rfl rfl (⟨_, _, rfl, rfl, rfl⟩) ?hv38679 ?rest38679 hck16
             case hv38679 =>
              intro E1
              refine (V1.move rfl rfl rfl lt0 ?_)
              exact rfl
             refine VP.step (p := ?pv38680) rfl rfl rfl (⟨_, _, rfl, rfl, rfl⟩) ?hv38680 ?rest38680 hck16
             case hv38680 =>
              intro E1
              refine (V1.move rfl rfl rfl lt0 ?_)
              exact rfl
             refine VP.step (p := ?pv38681) rfl rfl rfl (⟨_, _, rfl, rfl, rfl⟩) ?hv38681 ?rest38681 hck16
             case hv38681 =>
              intro E1
              refine (V1.move rfl rfl rfl lt0 ?_)
              exact rfl
             refine VP.step (p := ?pv38682) rfl rfl rfl (⟨_, _, rfl, rfl, _, _, rfl, rfl, rfl⟩) ?hv38682 ?rest38682 hck16
             case hv38682 =>
              intro E1
              refine (V1.call rfl rfl rfl cok_54 rfl (ok_impl_formatAt hh5) rfl lt0 ?_)
              rintro _ _ ⟨rfl, rfl⟩
              exact rfl
             refine VP.step (p := ?pv38684) rfl rfl rfl (⟨_, _, rfl, rfl, _, _, rfl, rfl, rfl⟩) ?hv38684 ?rest38684 hck16
             case hv38684 =>
              intro E1
              refine (V1.indexI rfl rfl esz_24 rfl rfl hh6 lt0 ?_)
              exact rfl
             refine VP.step (p := ?pv38685) rfl rfl rfl (⟨_, _, rfl, rfl, rfl⟩) ?hv38685 ?rest38685 hck16
             case hv38685 =>
              intro E1
              refine (V1.loadPinAll rfl rfl tyk_34 rfl rfl lt0 ?_)
              exact rfl
             refine VP.step (p := ?pv38686) rfl rfl rfl (⟨_, _, rfl, rfl, rfl⟩) ?hv38686 ?rest38686 hck16
             case hv38686 =>
              intro E1
              refine (V1.loadRefAll (k := 0) rfl rfl tyk_34 rfl rfl rfl rfl rfl lt0 ?_)
              exact rfl
             refine VP.step (p := ?pv38687) rfl rfl rfl (⟨_, _, rfl, rfl, rfl⟩) ?hv38687 ?rest38687 hck16
             case hv38687 =>
              intro E1
              refine (V1.move rfl rfl rfl lt0 ?_)
              exact rfl
             refine VP.step (p := ?pv38688) rfl rfl rfl (⟨_, _, rfl, rfl, _, _, rfl, rfl, _, _, rfl, rfl, rfl⟩) ?hv38688 ?rest38688 hck16
             case hv38688 =>
              intro E1
              refine (V1.call rfl rfl rfl cok_55 rfl (ok_impl_leads hh7) rfl lt0 ?_)
              rintro _ _ ⟨rfl, rfl⟩
              exact rfl
             refine VP.step (p := ?pv38690) rfl rfl rfl (⟨_, _, rfl, rfl, rfl⟩) ?hv38690 ?rest38690 hck16
             case hv38690 =>
              intro E1
              refine (V1.move rfl rfl rfl lt0 ?_)
              exact rfl
             refine VP.step (p := ?pv38691) rfl rfl rfl (⟨_, _, rfl, rfl, rfl⟩) ?hv38691 ?rest38691 hck16
             case hv38691 =>
              refine ⟨_, rfl, fun hg1 => ?_⟩
              intro E1
              refine (V1.move rfl rfl rfl lt0 ?_)
              exact rfl
             refine VP.step (p := ?pv38692) rfl rfl rfl (⟨_, _, rfl, rfl, rfl⟩) ?hv38692 ?rest38692 hck16
             case hv38692 =>
              refine ⟨_, rfl, fun hg1 => ?_⟩
              intro E1
              refine (V1.fieldRef rfl rfl fo_34_0 rfl lt0 ?_)
              exact rfl
             refine VP.step (p := ?pv38693) rfl rfl rfl (⟨_, _, rfl, rfl, rfl⟩) ?hv38693 ?rest38693 hck16
             case hv38693 =>
              refine ⟨_, rfl, fun hg1 => ?_⟩
              intro E1
              refine (V1.loadRef (k := 0) rfl rfl tyk_3 rfl rfl rfl rfl rfl lt0 ?_)
              exact rfl
             refine VP.step (p := ?pv38694) rfl rfl rfl (⟨_, _, rfl, rfl, _, _, rfl, rfl, rfl⟩) ?hv38694 ?rest38694 hck16
             case hv38694 =>
              refine ⟨_, rfl, fun hg1 => ?_⟩
              intro E1
              refine (V1.callL (rn + 1) [b7] [.vl (rn + 1) 1 (List.map encInt seen3), .int .i64 ((list.getD (Int.toNat v0) default).Id)] rfl rfl rfl cok_56 rfl ⟨_, _, rfl, Lend.srMap 1 rfl (fun _ => rfl) (.head _), ⟨_, _, rfl, .same _, rfl⟩⟩ (bwCons (k := 1) rfl bwNil) (ok_slices_Contains_int_int (cond_t hg1 hh8)) rfl (⟨(by first | omega | (dsimp only; omega)), by rintro _ _ ⟨rfl, rfl⟩; exact ⟨rfl, by simp⟩⟩) lt0 ?_)
              rintro _ _ ⟨rfl, rfl⟩
              exact rfl
             refine VP.step (p := ?pv38696) rfl rfl rfl (⟨_, _, rfl, rfl, rfl⟩) ?hv38696 ?rest38696 hck16
             case hv38696 =>
              refine ⟨_, rfl, fun hg1 => ?_⟩
              intro E1
              refine (V1.not rfl rfl rfl lt0 ?_)
              exact rfl
             refine VP.pickAnd rfl rfl rfl rfl rfl rfl (trivial) ?_ hck16
             refine VP.fin rfl (⟨_, _, rfl, rfl, _, _, rfl, rfl, _, _, rfl, rfl, _, _, rfl, rfl, _, _, rfl, rfl, _, _, rfl, rfl, _, _, rfl, rfl, _, _, rfl, rfl, _, _, rfl, rfl, _, _, rfl, rfl, _, _, rfl, rfl, _, _, rfl, rfl, _, _, rfl, rfl, _, _, rfl, rfl, _, _, rfl, rfl, rfl⟩) ?_
             refine VO.nil ?_
             refine V.cond rfl (fun hc5 => ?_) (fun hc5 => ?_)
             ·
              replace hm4 := cond_t hc5 hm4
              refine V.seq ?_
              replace hm4 := asrt_some hm4; rcases hm4 with ⟨hh9, hm4⟩
              refine V.region ?_
              refine VO.cons rfl (V1.move rfl rfl rfl lt0 ?_)
              refine VO.cons rfl (V1.fieldRef rfl rfl fo_34_0 rfl lt0 ?_)
              refine VO.cons rfl (V1.loadRef (k := 0) rfl rfl tyk_3 rfl rfl rfl rfl rfl lt0 ?_)
              refine VO.cons rfl (V1.buildSliceT (f := encInt) ([(list.getD (Int.toNat v0) default).Id] : List Int) rfl rfl esz_27 zk_3 rfl rfl rfl rfl rfl rfl rfl lt0 ?_)
              intro b11
              refine VO.cons rfl (V1.appendMap (k := 2) (f := encInt) (l := seen3) (m := ([(list.getD (Int.toNat v0) default).Id] : List Int)) rfl rfl rfl rfl rfl esz_27 eby_27 zk_3 rfl rfl rfl (SrcOf.srMap (k := 0) rfl isl_27) hh9 lt0 ?_)
              intro b12
              refine VO.cons rfl (V1.assign rfl rfl rfl lt0 ?_)
              refine VO.nil ?_
              refine V.keep 92 [0, 2, 3, 11, 12, 14, 15, 17, 37, 38, 39, 53, 54, 55] [0, 2, 3, 4] (E0 := [(0, .vl ρ0 4 (List.map (encFormat ρ0) list)), (2, .int .i64 to_), (3, .int .i64 day), (11, .sref b12 1 0 (List.length (seen3 ++ ([(list.getD (Int.toNat v0) default).Id] : List Int)))), (12, .sref ob4 1 0 (List.length next2)), (14, .vl rn 1 (List.map encInt (paths.getD (Int.toNat v) default))), (15, .int .i64 ((paths.getD (Int.toNat v) default).getD (Int.toNat (IntKind.i64.wrap (((paths.getD (Int.toNat v) default).length : Int) - (1 : Int)))) default)), (17, .ref b10 4 0 0), (37, .sref ob0 1 0 (List.length paths)), (38, .int .i64 (paths.length : Int)), (39, .int .i64 v), (53, .vl ρ0 4 (List.map (encFormat ρ0) list)), (54, .int .i64 (list.length : Int)), (55, .int .i64 v0)]) (H0 := [(b12, ⟨1, List.map encInt (seen3 ++ ([(list.getD (Int.toNat v0) default).Id] : List Int))⟩), (b10, ⟨4, [encFormat ρ0 (list.getD (Int.toNat v0) default)]⟩), (ob4, ⟨1, List.map (encL rn 1 encInt) next2⟩), (ob0, ⟨1, List.map (encL rn 1 encInt) paths⟩)]) rfl (⟨_, _, rfl, rfl, _, _, rfl, rfl, _, _, rfl, rfl, _, _, rfl, rfl, _, _, rfl, rfl, _, _, rfl, rfl, _, _, rfl, rfl, _, _, rfl, rfl, _, _, rfl, rfl, _, _, rfl, rfl, _, _, rfl, rfl, _, _, rfl, rfl, _, _, rfl, rfl, _, _, rfl, rfl, rfl⟩) (⟨_, _, rfl, rfl, _, _, rfl, rfl, _, _, rfl, rfl, _, _, rfl, rfl, rfl⟩) rfl ?_
              replace hm4 := bindO hm4; rcases hm4 with ⟨y8, hh10, hm4⟩
              replace hm4 := asrt_some hm4; rcases hm4 with ⟨hh11, hm4⟩
              replace hm4 := asrt_some hm4; rcases hm4 with ⟨hh12, hm4⟩
              refine V.regionS [(b10, ⟨4, [encFormat ρ0 (list.getD (Int.toNat v0) default)]⟩)] 92 8 [⟨[(12, none)], false⟩, ⟨[(14, none)], false⟩, ⟨[(81, some 1)], true⟩, ⟨[(17, none)], false⟩, ⟨[(83, some 3)], false⟩, ⟨[(84, some 4)], false⟩, ⟨[(82, some 2), (85, some 5)], true⟩, ⟨[(86, some 6)], true⟩] [(0, none), (2, none), (3, none), (11, none), (14, none), (15, none), (37, none), (38, none), (39, none), (53, none), (54, none), (55, none), (80, some 0), (87, some 7)] 3 (⟨_, rfl, ⟨_, rfl, ⟨_, rfl, ⟨_, rfl, ⟨_, rfl, ⟨_, rfl, ⟨_, rfl, ⟨_, rfl, ⟨rfl, rfl⟩⟩⟩⟩⟩⟩⟩⟩⟩) mixed_orders rfl (by decide +kernel) ?_
              refine WalkP.step (p := ?pv38700) 0 rfl rfl rfl rfl rfl (⟨_, _, rfl, rfl, rfl⟩) ?hv38700 ?rest38700
              case hv38700 =>
               intro E1 H1 hI1
               refine (V1.move rfl rfl rfl lt0 ?_)
               exact rfl
              refine WalkP.step (p := ?pv38701) 1 rfl rfl rfl rfl rfl (⟨_, _, rfl, rfl, rfl⟩) ?hv38701 ?rest38701
              case hv38701 =>
               intro E1 H1 hI1
               refine (V1.move rfl rfl rfl lt0 ?_)
               exact rfl
              refine WalkP.step (p := ?pv38702) 3 rfl rfl rfl rfl rfl (⟨_, _, rfl, rfl, rfl⟩) ?hv38702 ?rest38702
              case hv38702 =>
               intro E1 H1 hI1
               refine (V1.fieldRef rfl rfl fo_34_0 rfl lt0 ?_)
               exact rfl
              refine WalkP.step (p := ?pv38703) 4 rfl rfl rfl rfl rfl (⟨_, _, rfl, rfl, rfl⟩) ?hv38703 ?rest38703
              case hv38703 =>
               intro E1 H1 hI1
               obtain ⟨k38704_, hk38704_⟩ := inGet 0 rfl hI1
               refine (V1.loadRef (k := k38704_) rfl rfl tyk_3 rfl hk38704_ rfl rfl rfl lt0 ?_)
               exact rfl
              refine WalkP.step (p := ?pv38705) 5 rfl rfl rfl rfl rfl (⟨_, _, rfl, rfl, rfl⟩) ?hv38705 ?rest38705
              case hv38705 =>
               intro E1 H1 hI1
               refine (V1.buildFrz (f := encInt) ([(list.getD (Int.toNat v0) default).Id] : List Int) (fun _ => rfl) iNil rfl rfl esz_27 zk_3 rfl rfl rfl rfl rfl rfl rfl lt0 ?_)
               exact rfl
              refine WalkP.nil ?_
              refine NodeS.branch [2] (inCons 1 rfl inNil) rfl rfl rfl ⟨?_, trivial⟩
              ·
               refine ⟨_, _, _, _, rfl, rfl, rfl, (⟨_, _, rfl, rfl, rfl⟩), fun E1 => ?_⟩
               refine (V1.permK (V1.call rfl rfl rfl cok_57 rfl (ok_slices_Clone_int_int hh10) rfl lt0 ?_))
               rintro _ _ ⟨ob6, hob6, rfl, rfl⟩
               refine ⟨_, ?_, Keeps.optBack (n := 1) (ob := ob6) (xs := List.map encInt y8) (H1 := []) (H2 := [(b12, ⟨1, List.map encInt (seen3 ++ ([(list.getD (Int.toNat v0) default).Id] : List Int))⟩), (b10, ⟨4, [encFormat ρ0 (list.getD (Int.toNat v0) default)]⟩), (ob4, ⟨1, List.map (encL rn 1 encInt) next2⟩), (ob0, ⟨1, List.map (encL rn 1 encInt) paths⟩)]) rfl⟩
               refine ⟨_, _, rfl, ?_⟩
               refine WalkP.nil ?_
               refine NodeS.branch [6] (inCons 1 rfl inNil) rfl rfl rfl ⟨?_, trivial⟩
               ·
                refine ⟨_, _, _, _, rfl, rfl, rfl, (⟨_, _, rfl, rfl, _, _, rfl, rfl, rfl⟩), fun E1 => ?_⟩
                refine (V1.thenK (V1.appendOpt (f := encInt) (l := y8) (m := ([(list.getD (Int.toNat v0) default).Id] : List Int)) [(b12, ⟨1, List.map encInt (seen3 ++ ([(list.getD (Int.toNat v0) default).Id] : List Int))⟩), (b10, ⟨4, [encFormat ρ0 (list.getD (Int.toNat v0) default)]⟩), (ob4, ⟨1, List.map (encL rn 1 encInt) next2⟩), (ob0, ⟨1, List.map (encL rn 1 encInt) paths⟩)] hob6 rfl rfl rfl rfl rfl esz_27 eby_27 zk_3 rfl rfl rfl rfl (.vl isl_27) rfl hh11 lt0 ?_))
                intro b18
                refine ⟨_, Keeps.frzTop (f := encInt) (l := (y8 ++ ([(list.getD (Int.toNat v0) default).Id] : List Int))) (fun _ => rfl) iNil, ?_⟩
                refine ⟨_, _, rfl, ?_⟩
                refine WalkP.nil ?_
                refine NodeS.branch [7] (inCons 1 rfl inNil) rfl rfl rfl ⟨?_, trivial⟩
                ·
                 refine ⟨_, _, _, _, rfl, rfl, rfl, (⟨_, _, rfl, rfl, rfl⟩), fun E1 => ?_⟩
                 refine (V1.buildSliceT (f := (encL rn 1 encInt)) ([(y8 ++ ([(list.getD (Int.toNat v0) default).Id] : List Int))] : List (List Int)) rfl rfl esz_47 zk_27 rfl rfl rfl rfl rfl rfl rfl lt0 ?_)
                 intro b19
                 refine ⟨_, _, rfl, ?_⟩
                 refine WalkP.nil ?_
                 refine NodeS.fin (inCons 2 rfl inNil) rfl rfl rfl (⟨_, _, rfl, rfl, _, _, rfl, rfl, _, _, rfl, rfl, _, _, rfl, rfl, _, _, rfl, rfl, _, _, rfl, rfl, _, _, rfl, rfl, _, _, rfl, rfl, _, _, rfl, rfl, _, _, rfl, rfl, _, _, rfl, rfl, _, _, rfl, rfl, _, _, rfl, rfl, _, _, rfl, rfl, rfl⟩) ?_
                 refine VO.cons rfl (V1.appendMap (k := 3) (f := (encL rn 1 encInt)) (l := next2) (m := ([(y8 ++ ([(list.getD (Int.toNat v0) default).Id] : List Int))] : List (List Int))) rfl rfl rfl rfl rfl esz_47 eby_47 zk_27 rfl rfl rfl (SrcOf.srMap (k := 0) rfl isl_47) hh12 lt0 ?_)
                 intro b20
                 refine VO.cons rfl (V1.assign rfl rfl rfl lt0 ?_)
                 refine VO.nil ?_
                 exact ⟨(((seen3 ++ ([(list.getD (Int.toNat v0) default).Id] : List Int)), (next2 ++ ([(y8 ++ ([(list.getD (Int.toNat v0) default).Id] : List Int))] : List (List Int)))), (b12, b20)), Option.some.inj hm4, Keeps.mk (ks := [2, 0, 4]) rfl ⟨rfl, rfl, rfl, rfl, rfl, rfl, rfl, rfl, rfl, rfl, rfl, rfl, rfl, trivial⟩ (⟨_, _, rfl, rfl, _, _, rfl, rfl, _, _, rfl, rfl, rfl⟩) rfl⟩
             ·
              replace hm4 := cond_f hc5 hm4
              refine V.skip ?_
              exact ⟨((seen3, next2), (b7, ob4)), Option.some.inj hm4, Keeps.mk (ks := [1, 2, 3]) rfl ⟨rfl, rfl, rfl, rfl, rfl, rfl, rfl, rfl, rfl, rfl, rfl, rfl, rfl, trivial⟩ (⟨_, _, rfl, rfl, _, _, rfl, rfl, _, _, rfl, rfl, rfl⟩) rfl⟩
            ·
             rintro ⟨⟨seen4, next3⟩, ⟨b8, b9⟩⟩ rfl
             try dsimp only at hm3
             refine V.region ?_
             refine VO.cons rfl (V1.int rfl rfl rfl rfl rfl lt0 ?_)
             refine VO.cons rfl (V1.move rfl rfl rfl lt0 ?_)
             refine VO.nil ?_
             exact ⟨(m2, (seen4, next3, (IntKind.i64.wrap (v0 + (1 : Int)))), (b8, (some b9))), ⟨hl3 _ (Option.some.inj hm3).symm, (fun e => by cases e)⟩, Nat.lt_succ_self _, Keeps.mk (ks := [0, 1, 2]) rfl ⟨rfl, rfl, rfl, rfl, rfl, rfl, rfl, rfl, rfl, rfl, rfl, rfl, rfl, trivial⟩ (⟨_, _, rfl, rfl, _, _, rfl, rfl, _, _, rfl, rfl, rfl⟩) rfl⟩
           ·
            replace hm3 := cond_f hc4 hm3
            refine V.exit ?_
            obtain rfl := hr3 _ (Option.some.inj hm3).symm
            exact ⟨((seen3, next2), (b7, (some ob4))), ⟨rfl, (fun e => by cases e)⟩, Keeps.mk (ks := [0, 1, 2]) rfl ⟨rfl, rfl, rfl, rfl, rfl, rfl, rfl, rfl, trivial⟩ (⟨_, _, rfl, rfl, _, _, rfl, rfl, _, _, rfl, rfl, rfl⟩) rfl⟩
         ·
          rintro ⟨⟨seen2, next1⟩, ⟨b6, ob3⟩⟩ ⟨rfl, hob3⟩
          try dsimp only at hm2
          rcases ob3 with _ | ob3
          ·
           replace hob3 := hob3 rfl
           refine V.region ?_
           refine VO.cons rfl (V1.int rfl rfl rfl rfl rfl lt0 ?_)
           refine VO.cons rfl (V1.move rfl rfl rfl lt0 ?_)
           refine VO.nil ?_
           exact ⟨(m1, (seen2, next1, (IntKind.i64.wrap (v + (1 : Int)))), (b6, none)), ⟨hl2 _ (Option.some.inj hm2).symm, (fun _ => hob3)⟩, Nat.lt_succ_self _, Keeps.mk (ks := [0, 1]) rfl ⟨rfl, rfl, rfl, rfl, rfl, rfl, rfl, rfl, trivial⟩ (⟨_, _, rfl, rfl, _, _, rfl, rfl, rfl⟩) rfl⟩
          ·
           refine V.region ?_
           refine VO.cons rfl (V1.int rfl rfl rfl rfl rfl lt0 ?_)
           refine VO.cons rfl (V1.move rfl rfl rfl lt0 ?_)
           refine VO.nil ?_
           exact ⟨(m1, (seen2, next1, (IntKind.i64.wrap (v + (1 : Int)))), (b6, (some ob3))), ⟨hl2 _ (Option.some.inj hm2).symm, (fun e => by cases e)⟩, Nat.lt_succ_self _, Keeps.mk (ks := [0, 1, 2]) rfl ⟨rfl, rfl, rfl, rfl, rfl, rfl, rfl, rfl, trivial⟩ (⟨_, _, rfl, rfl, _, _, rfl, rfl, _, _, rfl, rfl, rfl⟩) rfl⟩
       ·
        replace hm2 := cond_f hc2 hm2
        refine V.exit ?_
        obtain rfl := hr2 _ (Option.some.inj hm2).symm
        exact ⟨((seen1, next0), (b5, none)), ⟨rfl, (fun _ => hob2)⟩, Keeps.mk (ks := [0]) rfl ⟨rfl, rfl, rfl, rfl, rfl, trivial⟩ (⟨_, _, rfl, rfl, rfl⟩) rfl⟩
      ·
       show V _ _ _ ⟨92, [(11, .sref b5 1 0 (List.length seen1)), (12, .sref ob2 1 0 (List.length next0)), (39, .int .i64 v), (0, .vl ρ0 4 (List.map (encFormat ρ0) list)), (2, .int .i64 to_), (3, .int .i64 day), (37, .sref ob0 1 0 (List.length paths)), (38, .int .i64 (paths.length : Int))], [(b5, ⟨1, List.map encInt seen1⟩), (ob2, ⟨1, List.map (encL rn 1 encInt) next0⟩), (ob0, ⟨1, List.map (encL rn 1 encInt) paths⟩)]⟩
       refine V.seq ?_
       refine V.region ?_
       refine VO.cons rfl (V1.int rfl rfl rfl rfl rfl lt0 ?_)
       refine VO.nil ?_
       refine V.seq ?_
       refine V.cond rfl (fun hc2 => ?_) (fun hc2 => ?_)
       ·
        replace hm2 := cond_t hc2 hm2
        refine V.skip ?_
        refine V.seq ?_
        refine V.block ?_
        refine V.seq ?_
        replace hm2 := asrt_some hm2; rcases hm2 with ⟨hh2, hm2⟩
        refine V.region ?_
        refine VO.cons rfl (V1.indexSr rfl rfl esz_47 rfl rfl hh2 lt0 ?_)
        refine VO.cons rfl (V1.loadMap (k := 2) (f := (encL rn 1 encInt)) rfl rfl tyk_27 rfl rfl (by simpa using natLt hh2.1 hh2.2) rfl lt0 ?_)
        refine VO.cons rfl (V1.assign rfl rfl rfl lt0 ?_)
        refine VO.nil ?_
        refine V.seq ?_
        replace hm2 := asrt_some hm2; rcases hm2 with ⟨hh3, hm2⟩
        refine V.region ?_
        refine VO.cons rfl (V1.move rfl rfl rfl lt0 ?_)
        refine VO.cons rfl (V1.move rfl rfl rfl lt0 ?_)
        refine VO.cons rfl (V1.lenMap rfl rfl rfl rfl rfl rfl isl_27 lt0 ?_)
        refine VO.cons rfl (V1.int rfl rfl rfl rfl rfl lt0 ?_)
        refine VO.cons rfl (V1.indexI rfl rfl esz_27 rfl rfl hh3 lt0 ?_)
        refine VO.cons rfl (V1.loadPin rfl rfl tyk_3 rfl rfl lt0 ?_)
        refine VO.cons rfl (V1.assign rfl rfl rfl lt0 ?_)
        refine VO.nil ?_
        refine V.keep 92 [0, 2, 3, 11, 12, 14, 15, 37, 38, 39] [0, 1, 2] (E0 := [(0, .vl ρ0 4 (List.map (encFormat ρ0) list)), (2, .int .i64 to_), (3, .int .i64 day), (11, .sref b5 1 0 (List.length seen1)), (12, .sref ob2 1 0 (List.length next0)), (14, .vl rn 1 (List.map encInt (paths.getD (Int.toNat v) default))), (15, .int .i64 ((paths.getD (Int.toNat v) default).getD (Int.toNat (IntKind.i64.wrap (((paths.getD (Int.toNat v) default).length : Int) - (1 : Int)))) default)), (37, .sref ob0 1 0 (List.length paths)), (38, .int .i64 (paths.length : Int)), (39, .int .i64 v)]) (H0 := [(b5, ⟨1, List.map encInt seen1⟩), (ob2, ⟨1, List.map (encL rn 1 encInt) next0⟩), (ob0, ⟨1, List.map (encL rn 1 encInt) paths⟩)]) rfl (⟨_, _, rfl, rfl, _, _, rfl, rfl, _, _, rfl, rfl, _, _, rfl, rfl, _, _, rfl, rfl, _, _, rfl, rfl, _, _, rfl, rfl, _, _, rfl, rfl, _, _, rfl, rfl, _, _, rfl, rfl, rfl⟩) (⟨_, _, rfl, rfl, _, _, rfl, rfl, _, _, rfl, rfl, rfl⟩) rfl ?_
        refine V.seq ?_
        refine V.seq ?_
        refine V.region ?_
        refine VO.cons rfl (V1.move rfl rfl rfl lt0 ?_)
        refine VO.cons rfl (V1.move rfl rfl rfl lt0 ?_)
        refine VO.cons rfl (V1.int rfl rfl rfl rfl rfl lt0 ?_)
        refine VO.nil ?_
        refine V.cond rfl (fun hc3 => ?_) (fun hc3 => ?_)
        ·
         replace hm2 := cond_t hc3 hm2
         refine V.seq ?_
         refine V.region ?_
         refine VO.cons rfl (V1.move rfl rfl rfl lt0 ?_)
         refine VO.cons rfl (V1.assign rfl rfl rfl lt0 ?_)
         refine VO.cons rfl (V1.assign rfl rfl rfl lt0 ?_)
         refine VO.nil ?_
         refine V.ret ?_
         obtain rfl := hr2 _ (Option.some.inj hm2).symm
         change some _ = some _ at hm1
         obtain rfl := hr1 _ (Option.some.inj hm1).symm
         change some _ = some _ at hm0
         obtain rfl := Option.some.inj hm0
         exact ⟨_, [], ⟨_, _, rfl, rfl, _, _, rfl, rfl, rfl⟩, List.nil_sublist _, rfl, rfl⟩
        ·
         replace hm2 := cond_f hc3 hm2
         refine V.skip ?_
         refine V.seq ?_
         refine V.region ?_
         refine VO.cons rfl (V1.move rfl rfl rfl lt0 ?_)
         refine VO.cons rfl (V1.lenMap rfl rfl rfl rfl rfl rfl isl_24 lt0 ?_)
         refine VO.cons rfl (V1.move rfl rfl rfl lt0 ?_)
         refine VO.nil ?_
         replace hm2 := bindO hm2; rcases hm2 with ⟨e2, he3, hm2⟩
         refine V.cutT (D := (List Int × List (List Int)) × (Nat × Nat)) (fun ⟨⟨seen2, next1⟩, ⟨b6, b7⟩⟩ => ⟨92, [(11, .sref b6 1 0 (List.length seen2)), (12, .sref b7 1 0 (List.length next1)), (0, .vl ρ0 4 (List.map (encFormat ρ0) list)), (2, .int .i64 to_), (3, .int .i64 day), (37, .sref ob0 1 0 (List.length paths)), (38, .int .i64 (paths.length : Int)), (39, .int .i64 v)], [(b6, ⟨1, List.map encInt seen2⟩), (b7, ⟨1, List.map (encL rn 1 encInt) next1⟩), (ob0, ⟨1, List.map (encL rn 1 encInt) paths⟩)]⟩) (fun ⟨⟨seen2, next1⟩, ⟨b6, b7⟩⟩ => ((seen2, next1) = e2)) ?_ ?_
         ·
          refine V.block ?_
          refine V.keep 92 [11, 12, 55, 0, 2, 3, 14, 15, 37, 38, 39, 53, 54] [0, 1, 2] (E0 := [(11, .sref b5 1 0 (List.length seen1)), (12, .sref ob2 1 0 (List.length next0)), (55, .int .i64 (0 : Int)), (0, .vl ρ0 4 (List.map (encFormat ρ0) list)), (2, .int .i64 to_), (3, .int .i64 day), (14, .vl rn 1 (List.map encInt (paths.getD (Int.toNat v) default))), (15, .int .i64 ((paths.getD (Int.toNat v) default).getD (Int.toNat (IntKind.i64.wrap (((paths.getD (Int.toNat v) default).length : Int) - (1 : Int)))) default)), (37, .sref ob0 1 0 (List.length paths)), (38, .int .i64 (paths.length : Int)), (39, .int .i64 v), (53, .vl ρ0 4 (List.map (encFormat ρ0) list)), (54, .int .i64 (list.length : Int))]) (H0 := [(b5, ⟨1, List.map encInt seen1⟩), (ob2, ⟨1, List.map (encL rn 1 encInt) next0⟩), (ob0, ⟨1, List.map (encL rn 1 encInt) paths⟩)]) rfl (⟨_, _, rfl, rfl, _, _, rfl, rfl, _, _, rfl, rfl, _, _, rfl, rfl, _, _, rfl, rfl, _, _, rfl, rfl, _, _, rfl, rfl, _, _, rfl, rfl, _, _, rfl, rfl, _, _, rfl, rfl, _, _, rfl, rfl, _, _, rfl, rfl, _, _, rfl, rfl, rfl⟩) (⟨_, _, rfl, rfl, _, _, rfl, rfl, _, _, rfl, rfl, rfl⟩) rfl ?_
          refine V.loopE (D := Nat × (List Int × List (List Int) × Int) × (Nat × Nat)) (fun ⟨n2, ⟨seen3, next2, v0⟩, ⟨b8, b9⟩⟩ => [(11, .sref b8 1 0 (List.length seen3)), (12, .sref b9 1 0 (List.length next2)), (55, .int .i64 v0)]) (fun ⟨n2, ⟨seen3, next2, v0⟩, ⟨b8, b9⟩⟩ => [(b8, ⟨1, List.map encInt seen3⟩), (b9, ⟨1, List.map (encL rn 1 encInt) next2⟩)]) (fun ⟨n2, ⟨seen3, next2, v0⟩, ⟨b8, b9⟩⟩ => loopO (M.impl_ShortestPath_l2 list day paths v) n2 (seen3, next2, v0) = some e2) (fun ⟨n2, _, _⟩ => n2) (rounds, (seen1, next0, (0 : Int)), (b5, ob2)) rfl he3 ?_
          rintro ⟨n2, ⟨seen3, next2, v0⟩, ⟨b8, b9⟩⟩ hP2
          obtain ⟨m2, y4, rfl, hm3, hl3, hr3⟩ := loop_head hP2
          unfold M.impl_ShortestPath_l2 at hm3; dsimp only at hm3
          show V _ _ _ ⟨92, [(11, .sref b8 1 0 (List.length seen3)), (12, .sref b9 1 0 (List.length next2)), (55, .int .i64 v0), (0, .vl ρ0 4 (List.map (encFormat ρ0) list)), (2, .int .i64 to_), (3, .int .i64 day), (14, .vl rn 1 (List.map encInt (paths.getD (Int.toNat v) default))), (15, .int .i64 ((paths.getD (Int.toNat v) default).getD (Int.toNat (IntKind.i64.wrap (((paths.getD (Int.toNat v) default).length : Int) - (1 : Int)))) default)), (37, .sref ob0 1 0 (List.length paths)), (38, .int .i64 (paths.length : Int)), (39, .int .i64 v), (53, .vl ρ0 4 (List.map (encFormat ρ0) list)), (54, .int .i64 (list.length : Int))], [(b8, ⟨1, List.map encInt seen3⟩), (b9, ⟨1, List.map (encL rn 1 encInt) next2⟩), (ob0, ⟨1, List.map (encL rn 1 encInt) paths⟩)]⟩
          refine V.seq ?_
          refine V.region ?_
          refine VO.cons rfl (V1.int rfl rfl rfl rfl rfl lt0 ?_)
          refine VO.nil ?_
          refine V.seq ?_
          refine V.cond rfl (fun hc4 => ?_) (fun hc4 => ?_)
          ·
           replace hm3 := cond_t hc4 hm3
           refine V.skip ?_
           refine V.seq ?_
           replace hm3 := bindO hm3; rcases hm3 with ⟨j0, hm4, hm3⟩
           refine V.cutT (D := (List Int × List (List Int)) × (Nat × Nat)) (fun ⟨⟨seen4, next3⟩, ⟨b10, b11⟩⟩ => ⟨92, [(11, .sref b10 1 0 (List.length seen4)), (12, .sref b11 1 0 (List.length next3)), (0, .vl ρ0 4 (List.map (encFormat ρ0) list)), (2, .int .i64 to_), (3, .int .i64 day), (14, .vl rn 1 (List.map encInt (paths.getD (Int.toNat v) default))), (15, .int .i64 ((paths.getD (Int.toNat v) default).getD (Int.toNat (IntKind.i64.wrap (((paths.getD (Int.toNat v) default).length : Int) - (1 : Int)))) default)), (37, .sref ob0 1 0 (List.length paths)), (38, .int .i64 (paths.length : Int)), (39, .int .i64 v), (53, .vl ρ0 4 (List.map (encFormat ρ0) list)), (54, .int .i64 (list.length : Int)), (55, .int .i64 v0)], [(b10, ⟨1, List.map encInt seen4⟩), (b11, ⟨1, List.map (encL rn 1 encInt) next3⟩), (ob0, ⟨1, List.map (encL rn 1 encInt) paths⟩)]⟩) (fun ⟨⟨seen4, next3⟩, ⟨b10, b11⟩⟩ => ((seen4, next3) = j0)) ?_ ?_
           ·
            refine V.block ?_
            refine V.seq ?_
            replace hm4 := asrt_some hm4; rcases hm4 with ⟨hh4, hm4⟩
            refine V.region ?_
            refine VO.cons rfl (V1.indexI rfl rfl esz_24 rfl rfl hh4 lt0 ?_)
            refine VO.cons rfl (V1.loadPinAll rfl rfl tyk_34 rfl rfl lt0 ?_)
            refine VO.cons rfl (V1.alloc rfl rfl zk_34 lt0 ?_)
            intro b12
            refine VO.cons rfl (V1.storeRefAll (k := 0) rfl rfl tyk_34 rfl rfl rfl rfl rfl rfl ?_)
            refine VO.nil ?_
            refine V.seq ?_
            replace hm4 := bindO hm4; rcases hm4 with ⟨y5, hh5, hm4⟩
            replace hm4 := asrt_some hm4; rcases hm4 with ⟨hh6, hm4⟩
            replace hm4 := bindO hm4; rcases hm4 with ⟨y6, hh7, hm4⟩
            replace hm4 := bindO hm4; rcases hm4 with ⟨y7, hh8, hm4⟩
            refine V.regionM 92 16 [⟨[(0, none)], [], none⟩, ⟨[(0, none)], [], none⟩, ⟨[(15, none)], [], none⟩, ⟨[(60, some 1), (61, some 0)], [], none⟩, ⟨[(59, some 3), (62, some 0)], [], none⟩, ⟨[(63, some 0)], [], none⟩, ⟨[(17, none)], [], none⟩, ⟨[(3, none)], [], none⟩, ⟨[(64, some 2), (65, some 1), (66, some 0)], [], none⟩, ⟨[(67, some 0)], [], none⟩, ⟨[(11, none)], [(0, true)], none⟩, ⟨[(17, none)], [(1, true)], none⟩, ⟨[(70, some 0)], [(2, true)], none⟩, ⟨[(69, some 2), (71, some 0)], [(3, true)], none⟩, ⟨[(72, some 0)], [(4, true)], none⟩, ⟨[], [], some (true, 68, 73, 5, 0)⟩] [(0, none), (2, none), (3, none), (11, none), (12, none), (14, none), (15, none), (17, none), (37, none), (38, none), (39, none), (53, none), (54, none), (55, none), (74, some 0)] (⟨_, rfl, ⟨_, rfl, ⟨_, rfl, ⟨_, rfl, ⟨_, rfl, ⟨_, rfl, ⟨_, rfl, ⟨_, rfl, ⟨_, rfl, ⟨_, rfl, ⟨_, rfl, ⟨_, rfl, ⟨_, rfl, ⟨_, rfl, ⟨_, rfl, ⟨_, rfl, ⟨rfl, rfl⟩⟩⟩⟩⟩⟩⟩⟩⟩⟩⟩⟩⟩⟩⟩⟩⟩) mixed_orders rfl (by decide +kernel) (fun hck16 => ?_)
            refine VP.step (p := ?pv38859) rfl rfl rfl (⟨_, _, rfl, rfl, rfl⟩) ?hv38859 ?rest38859 hck16
            case hv38859 =>
             intro E1
             refine (V1.move rfl rfl rfl lt0 ?_)
             exact rfl
            refine VP.step (p := ?pv38860) rfl rfl rfl (⟨_, _, rfl, rfl, rfl⟩) ?hv38860 ?rest38860 hck16
            case hv38860 =>
             intro E1
             refine (V1.move rfl rfl rfl lt0 ?_)
             exact rfl
            refine VP.step (p := ?pv38861) rfl rfl rfl (⟨_, _, rfl, rfl, rfl⟩) ?hv38861 ?rest38861 hck16
            case hv38861 =>
             intro E1
             refine (V1.move rfl rfl rfl lt0 ?_)
             exact rfl
            refine VP.step (p := ?pv38862) rfl rfl rfl (⟨_, _, rfl, rfl, _, _, rfl, rfl, rfl⟩) ?hv38862 ?rest38862 hck16
            case hv38862 =>
             intro E1
             refine (V1.call rfl rfl rfl cok_54 rfl (ok_impl_formatAt hh5) rfl lt0 ?_)
             rintro _ _ ⟨rfl, rfl⟩
             exact rfl
            refine VP.step (p := ?pv38864) rfl rfl rfl (⟨_, _, rfl, rfl, _, _, rfl, rfl, rfl⟩) ?hv38864 ?rest38864 hck16
            case hv38864 =>
             intro E1
             refine (V1.indexI rfl rfl esz_24 rfl rfl hh6 lt0 ?_)
             exact rfl
            refine VP.step (p := ?pv38865) rfl rfl rfl (⟨_, _, rfl, rfl, rfl⟩) ?hv38865 ?rest38865 hck16
            case hv38865 =>
             intro E1
             refine (V1.loadPinAll rfl rfl tyk_34 rfl rfl lt0 ?_)
             exact rfl
            refine VP.step (p := ?pv38866) rfl rfl rfl (⟨_, _, rfl, rfl, rfl⟩) ?hv38866 ?rest38866 hck16
            case hv38866 =>
             intro E1
             refine (V1.loadRefAll (k := 0) rfl rfl tyk_34 rfl rfl rfl rfl rfl lt0 ?_)
             exact rfl
            refine VP.step (p := ?pv38867) rfl rfl rfl (⟨_, _, rfl, rfl, rfl⟩) ?hv38867 ?rest38867 hck16
            case hv38867 =>
             intro E1
             refine (V1.move rfl rfl rfl lt0 ?_)
             exact rfl
            refine VP.step (p := ?pv38868) rfl rfl rfl (⟨_, _, rfl, rfl, _, _, rfl, rfl, _, _, rfl, rfl, rfl⟩) ?hv38868 ?rest38868 hck16
            case hv38868 =>
             intro E1
             refine (V1.call rfl rfl rfl cok_55 rfl (ok_impl_leads hh7) rfl lt0 ?_)
             rintro _ _ ⟨rfl, rfl⟩
             exact rfl
            refine VP.step (p := ?pv38870) rfl rfl rfl (⟨_, _, rfl, rfl, rfl⟩) ?hv38870 ?rest38870 hck16
            case hv38870 =>
             intro E1
             refine (V1.move rfl rfl rfl lt0 ?_)
             exact rfl
            refine VP.step (p := ?pv38871) rfl rfl rfl (⟨_, _, rfl, rfl, rfl⟩) ?hv38871 ?rest38871 hck16
            case hv38871 =>
             refine ⟨_, rfl, fun hg1 => ?_⟩
             intro E1
             refine (V1.move rfl rfl rfl lt0 ?_)
             exact rfl
            refine VP.step (p := ?pv38872) rfl rfl rfl (⟨_, _, rfl, rfl, rfl⟩) ?hv38872 ?rest38872 hck16
            case hv38872 =>
             refine ⟨_, rfl, fun hg1 => ?_⟩
             intro E1
             refine (V1.fieldRef rfl rfl fo_34_0 rfl lt0 ?_)
             exact rfl
            refine VP.step (p := ?pv38873) rfl rfl rfl (⟨_, _, rfl, rfl, rfl⟩) ?hv38873 ?rest38873 hck16
            case hv38873 =>
             refine ⟨_, rfl, fun hg1 => ?_⟩
             intro E1
             refine (V1.loadRef (k := 0) rfl rfl tyk_3 rfl rfl rfl rfl rfl lt0 ?_)
             exact rfl
            refine VP.step (p := ?pv38874) rfl rfl rfl (⟨_, _, rfl, rfl, _, _, rfl, rfl, rfl⟩) ?hv38874 ?rest38874 hck16
            case hv38874 =>
             refine ⟨_, rfl, fun hg1 => ?_⟩
             intro E1
             refine (V1.callL (rn + 1) [b8] [.vl (rn + 1) 1 (List.map encInt seen3), .int .i64 ((list.getD (Int.toNat v0) default).Id)] rfl rfl rfl cok_56 rfl ⟨_, _, rfl, Lend.srMap 1 rfl (fun _ => rfl) (.head _), ⟨_, _, rfl, .same _, rfl⟩⟩ (bwCons (k := 1) rfl bwNil) (ok_slices_Contains_int_int (cond_t hg1 hh8)) rfl (⟨(by first | omega | (dsimp only; omega)), by rintro _ _ ⟨rfl, rfl⟩; exact ⟨rfl, by simp⟩⟩) lt0 ?_)
             rintro _ _ ⟨rfl, rfl⟩
             exact rfl
            refine VP.step (p := ?pv38876) rfl rfl rfl (⟨_, _, rfl, rfl, rfl⟩) ?hv38876 ?rest38876 hck16
            case hv38876 =>
             refine ⟨_, rfl, fun hg1 => ?_⟩
             intro E1
             refine (V1.not rfl rfl rfl lt0 ?_)
             exact rfl
            refine VP.pickAnd rfl rfl rfl rfl rfl rfl (trivial) ?_ hck16
            refine VP.fin rfl (⟨_, _, rfl, rfl, _, _, rfl, rfl, _, _, rfl, rfl, _, _, rfl, rfl, _, _, rfl, rfl, _, _, rfl, rfl, _, _, rfl, rfl, _, _, rfl, rfl, _, _, rfl, rfl, _, _, rfl, rfl, _, _, rfl, rfl, _, _, rfl, rfl, _, _, rfl, rfl, _, _, rfl, rfl, _, _, rfl, rfl, rfl⟩) ?_
            refine VO.nil ?_
            refine V.cond rfl (fun hc5 => ?_) (fun hc5 => ?_)
            ·
             replace hm4 := cond_t hc5 hm4
             refine V.seq ?_
             replace hm4 := asrt_some hm4; rcases hm4 with ⟨hh9, hm4⟩
             refine V.region ?_
             refine VO.cons rfl (V1.move rfl rfl rfl lt0 ?_)
             refine VO.cons rfl (V1.fieldRef rfl rfl fo_34_0 rfl lt0 ?_)
             refine VO.cons rfl (V1.loadRef (k := 0) rfl rfl tyk_3 rfl rfl rfl rfl rfl lt0 ?_)
             refine VO.cons rfl (V1.buildSliceT (f := encInt) ([(list.getD (Int.toNat v0) default).Id] : List Int) rfl rfl esz_27 zk_3 rfl rfl rfl rfl rfl rfl rfl lt0 ?_)
             intro b13
             refine VO.cons rfl (V1.appendMap (k := 2) (f := encInt) (l := seen3) (m := ([(list.getD (Int.toNat v0) default).Id] : List Int)) rfl rfl rfl rfl rfl esz_27 eby_27 zk_3 rfl rfl rfl (SrcOf.srMap (k := 0) rfl isl_27) hh9 lt0 ?_)
             intro b14
             refine VO.cons rfl (V1.assign rfl rfl rfl lt0 ?_)
             refine VO.nil ?_
             refine V.keep 92 [0, 2, 3, 11, 12, 14, 15, 17, 37, 38, 39, 53, 54, 55] [0, 2, 3, 4] (E0 := [(0, .vl ρ0 4 (List.map (encFormat ρ0) list)), (2, .int .i64 to_), (3, .int .i64 day), (11, .sref b14 1 0 (List.length (seen3 ++ ([(list.getD (Int.toNat v0) default).Id] : List Int)))), (12, .sref b9 1 0 (List.length next2)), (14, .vl rn 1 (List.map encInt (paths.getD (Int.toNat v) default))), (15, .int .i64 ((paths.getD (Int.toNat v) default).getD (Int.toNat (IntKind.i64.wrap (((paths.getD (Int.toNat v) default).length : Int) - (1 : Int)))) default)), (17, .ref b12 4 0 0), (37, .sref ob0 1 0 (List.length paths)), (38, .int .i64 (paths.length : Int)), (39, .int .i64 v), (53, .vl ρ0 4 (List.map (encFormat ρ0) list)), (54, .int .i64 (list.length : Int)), (55, .int .i64 v0)]) (H0 := [(b14, ⟨1, List.map encInt (seen3 ++ ([(list.getD (Int.toNat v0) default).Id] : List Int))⟩), (b12, ⟨4, [encFormat ρ0 (list.getD (Int.toNat v0) default)]⟩), (b9, ⟨1, List.map (encL rn 1 encInt) next2⟩), (ob0, ⟨1, List.map (encL rn 1 encInt) paths⟩)]) rfl (⟨_, _, rfl, rfl, _, _, rfl, rfl, _, _, rfl, rfl, _, _, rfl, rfl, _, _, rfl, rfl, _, _, rfl, rfl, _, _, rfl, rfl, _, _, rfl, rfl, _, _, rfl, rfl, _, _, rfl, rfl, _, _, rfl, rfl, _, _, rfl, rfl, _, _, rfl, rfl, _, _, rfl, rfl, rfl⟩) (⟨_, _, rfl, rfl, _, _, rfl, rfl, _, _, rfl, rfl, _, _, rfl, rfl, rfl⟩) rfl ?_
             replace hm4 := bindO hm4; rcases hm4 with ⟨y8, hh10, hm4⟩
             replace hm4 := asrt_some hm4; rcases hm4 with ⟨hh11, hm4⟩
             replace hm4 := asrt_some hm4; rcases hm4 with ⟨hh12, hm4⟩
             refine V.regionS [(b12, ⟨4, [encFormat ρ0 (list.getD (Int.toNat v0) default)]⟩)] 92 8 [⟨[(12, none)], false⟩, ⟨[(14, none)], false⟩, ⟨[(81, some 1)], true⟩, ⟨[(17, none)], false⟩, ⟨[(83, some 3)], false⟩, ⟨[(84, some 4)], false⟩, ⟨[(82, some 2), (85, some 5)], true⟩, ⟨[(86, some 6)], true⟩] [(0, none), (2, none), (3, none), (11, none), (14, none), (15, none), (37, none), (38, none), (39, none), (53, none), (54, none), (55, none), (80, some 0), (87, some 7)] 3 (⟨_, rfl, ⟨_, rfl, ⟨_, rfl, ⟨_, rfl, ⟨_, rfl, ⟨_, rfl, ⟨_, rfl, ⟨_, rfl, ⟨rfl, rfl⟩⟩⟩⟩⟩⟩⟩⟩⟩) mixed_orders rfl (by decide +kernel) ?_
             refine WalkP.step (p := ?pv38880) 0 rfl rfl rfl rfl rfl (⟨_, _, rfl, rfl, rfl⟩) ?hv38880 ?rest38880
             case hv38880 =>
              intro E1 H1 hI1
              refine (V1.move rfl rfl rfl lt0 ?_)
              exact rfl
             refine WalkP.step (p := ?pv38881) 1 rfl rfl rfl rfl rfl (⟨_, _, rfl, rfl, rfl⟩) ?hv38881 ?rest38881
             case hv38881 =>
              intro E1 H1 hI1
              refine (V1.move rfl rfl rfl lt0 ?_)
              exact rfl
             refine WalkP.step (p := ?pv38882) 3 rfl rfl rfl rfl rfl (⟨_, _, rfl, rfl, rfl⟩) ?hv38882 ?rest38882
             case hv38882 =>
              intro E1 H1 hI1
              refine (V1.fieldRef rfl rfl fo_34_0 rfl lt0 ?_)
              exact rfl
             refine WalkP.step (p := ?pv38883) 4 rfl rfl rfl rfl rfl (⟨_, _, rfl, rfl, rfl⟩) ?hv38883 ?rest38883
             case hv38883 =>
              intro E1 H1 hI1
              obtain ⟨k38884_, hk38884_⟩ := inGet 0 rfl hI1
              refine (V1.loadRef (k := k38884_) rfl rfl tyk_3 rfl hk38884_ rfl rfl rfl lt0 ?_)
              exact rfl
             refine WalkP.step (p := ?pv38885) 5 rfl rfl rfl rfl rfl (⟨_, _, rfl, rfl, rfl⟩) ?hv38885 ?rest38885
             case hv38885 =>
              intro E1 H1 hI1
              refine (V1.buildFrz (f := encInt) ([(list.getD (Int.toNat v0) default).Id] : List Int) (fun _ => rfl) iNil rfl rfl esz_27 zk_3 rfl rfl rfl rfl rfl rfl rfl lt0 ?_)
              exact rfl
             refine WalkP.nil ?_
             refine NodeS.branch [2] (inCons 1 rfl inNil) rfl rfl rfl ⟨?_, trivial⟩
             ·
              refine ⟨_, _, _, _, rfl, rfl, rfl, (⟨_, _, rfl, rfl, rfl⟩), fun E1 => ?_⟩
              refine (V1.permK (V1.call rfl rfl rfl cok_57 rfl (ok_slices_Clone_int_int hh10) rfl lt0 ?_))
              rintro _ _ ⟨ob4, hob4, rfl, rfl⟩
              refine ⟨_, ?_, Keeps.optBack (n := 1) (ob := ob4) (xs := List.map encInt y8) (H1 := []) (H2 := [(b14, ⟨1, List.map encInt (seen3 ++ ([(list.getD (Int.toNat v0) default).Id] : List Int))⟩), (b12, ⟨4, [encFormat ρ0 (list.getD (Int.toNat v0) default)]⟩), (b9, ⟨1, List.map (encL rn 1 encInt) next2⟩), (ob0, ⟨1, List.map (encL rn 1 encInt) paths⟩)]) rfl⟩
              refine ⟨_, _, rfl, ?_⟩
              refine WalkP.nil ?_
              refine NodeS.branch [6] (inCons 1 rfl inNil) rfl rfl rfl ⟨?_, trivial⟩
              ·
               refine ⟨_, _, _, _, rfl, rfl, rfl, (⟨_, _, rfl, rfl, _, _, rfl, rfl, rfl⟩), fun E1 => ?_⟩
               refine (V1.thenK (V1.appendOpt (f := encInt) (l := y8) (m := ([(list.getD (Int.toNat v0) default).Id] : List Int)) [(b14, ⟨1, List.map encInt (seen3 ++ ([(list.getD (Int.toNat v0) default).Id] : List Int))⟩), (b12, ⟨4, [encFormat ρ0 (list.getD (Int.toNat v0) default)]⟩), (b9, ⟨1, List.map (encL rn 1 encInt) next2⟩), (ob0, ⟨1, List.map (encL rn 1 encInt) paths⟩)] hob4 rfl rfl rfl rfl rfl esz_27 eby_27 zk_3 rfl rfl rfl rfl (.vl isl_27) rfl hh11 lt0 ?_))
               intro b20
               refine ⟨_, Keeps.frzTop (f := encInt) (l := (y8 ++ ([(list.getD (Int.toNat v0) default).Id] : List Int))) (fun _ => rfl) iNil, ?_⟩
               refine ⟨_, _, rfl, ?_⟩
               refine WalkP.nil ?_
               refine NodeS.branch [7] (inCons 1 rfl inNil) rfl rfl rfl ⟨?_, trivial⟩
               ·
                refine ⟨_, _, _, _, rfl, rfl, rfl, (⟨_, _, rfl, rfl, rfl⟩), fun E1 => ?_⟩
                refine (V1.buildSliceT (f := (encL rn 1 encInt)) ([(y8 ++ ([(list.getD (Int.toNat v0) default).Id] : List Int))] : List (List Int)) rfl rfl esz_47 zk_27 rfl rfl rfl rfl rfl rfl rfl lt0 ?_)
                intro b21
                refine ⟨_, _, rfl, ?_⟩
                refine WalkP.nil ?_
                refine NodeS.fin (inCons 2 rfl inNil) rfl rfl rfl (⟨_, _, rfl, rfl, _, _, rfl, rfl, _, _, rfl, rfl, _, _, rfl, rfl, _, _, rfl, rfl, _, _, rfl, rfl, _, _, rfl, rfl, _, _, rfl, rfl, _, _, rfl, rfl, _, _, rfl, rfl, _, _, rfl, rfl, _, _, rfl, rfl, _, _, rfl, rfl, _, _, rfl, rfl, rfl⟩) ?_
                refine VO.cons rfl (V1.appendMap (k := 3) (f := (encL rn 1 encInt)) (l := next2) (m := ([(y8 ++ ([(list.getD (Int.toNat v0) default).Id] : List Int))] : List (List Int))) rfl rfl rfl rfl rfl esz_47 eby_47 zk_27 rfl rfl rfl (SrcOf.srMap (k := 0) rfl isl_47) hh12 lt0 ?_)
                intro b22
                refine VO.cons rfl (V1.assign rfl rfl rfl lt0 ?_)
                refine VO.nil ?_
                exact ⟨(((seen3 ++ ([(list.getD (Int.toNat v0) default).Id] : List Int)), (next2 ++ ([(y8 ++ ([(list.getD (Int.toNat v0) default).Id] : List Int))] : List (List Int)))), (b14, b22)), Option.some.inj hm4, Keeps.mk (ks := [2, 0, 4]) rfl ⟨rfl, rfl, rfl, rfl, rfl, rfl, rfl, rfl, rfl, rfl, rfl, rfl, rfl, trivial⟩ (⟨_, _, rfl, rfl, _, _, rfl, rfl, _, _, rfl, rfl, rfl⟩) rfl⟩
            ·
             replace hm4 := cond_f hc5 hm4
             refine V.skip ?_
             exact ⟨((seen3, next2), (b8, b9)), Option.some.inj hm4, Keeps.mk (ks := [1, 2, 3]) rfl ⟨rfl, rfl, rfl, rfl, rfl, rfl, rfl, rfl, rfl, rfl, rfl, rfl, rfl, trivial⟩ (⟨_, _, rfl, rfl, _, _, rfl, rfl, _, _, rfl, rfl, rfl⟩) rfl⟩
           ·
            rintro ⟨⟨seen4, next3⟩, ⟨b10, b11⟩⟩ rfl
            try dsimp only at hm3
            refine V.region ?_
            refine VO.cons rfl (V1.int rfl rfl rfl rfl rfl lt0 ?_)
            refine VO.cons rfl (V1.move rfl rfl rfl lt0 ?_)
            refine VO.nil ?_
            exact ⟨(m2, (seen4, next3, (IntKind.i64.wrap (v0 + (1 : Int)))), (b10, b11)), hl3 _ (Option.some.inj hm3).symm, Nat.lt_succ_self _, Keeps.mk (ks := [0, 1, 2]) rfl ⟨rfl, rfl, rfl, rfl, rfl, rfl, rfl, rfl, rfl, rfl, rfl, rfl, rfl, trivial⟩ (⟨_, _, rfl, rfl, _, _, rfl, rfl, _, _, rfl, rfl, rfl⟩) rfl⟩
          ·
           replace hm3 := cond_f hc4 hm3
           refine V.exit ?_
           obtain rfl := hr3 _ (Option.some.inj hm3).symm
           exact ⟨((seen3, next2), (b8, b9)), rfl, Keeps.mk (ks := [0, 1, 2]) rfl ⟨rfl, rfl, rfl, rfl, rfl, rfl, rfl, rfl, trivial⟩ (⟨_, _, rfl, rfl, _, _, rfl, rfl, _, _, rfl, rfl, rfl⟩) rfl⟩
         ·
          rintro ⟨⟨seen2, next1⟩, ⟨b6, b7⟩⟩ rfl
          try dsimp only at hm2
          refine V.region ?_
          refine VO.cons rfl (V1.int rfl rfl rfl rfl rfl lt0 ?_)
          refine VO.cons rfl (V1.move rfl rfl rfl lt0 ?_)
          refine VO.nil ?_
          exact ⟨(m1, (seen2, next1, (IntKind.i64.wrap (v + (1 : Int)))), (b6, (some b7))), ⟨hl2 _ (Option.some.inj hm2).symm, (fun e => by cases e)⟩, Nat.lt_succ_self _, Keeps.mk (ks := [0, 1, 2]) rfl ⟨rfl, rfl, rfl, rfl, rfl, rfl, rfl, rfl, trivial⟩ (⟨_, _, rfl, rfl, _, _, rfl, rfl, _, _, rfl, rfl, rfl⟩) rfl⟩
       ·
        replace hm2 := cond_f hc2 hm2
        refine V.exit ?_
        obtain rfl := hr2 _ (Option.some.inj hm2).symm
        exact ⟨((seen1, next0), (b5, (some ob2))), ⟨rfl, (fun e => by cases e)⟩, Keeps.mk (ks := [0, 1]) rfl ⟨rfl, rfl, rfl, rfl, rfl, trivial⟩ (⟨_, _, rfl, rfl, _, _, rfl, rfl, rfl⟩) rfl⟩
     ·
      rintro ⟨⟨seen0, next⟩, ⟨b4, ob1⟩⟩ ⟨rfl, hob1⟩
      try dsimp only at hm1
      rcases ob1 with _ | ob1
      ·
       replace hob1 := hob1 rfl
       refine V.region ?_
       refine VO.cons rfl (V1.move rfl rfl rfl lt0 ?_)
       refine VO.cons rfl (V1.assign rfl rfl rfl lt0 ?_)
       refine VO.nil ?_
       exact ⟨(m0, (next, seen0), (none, b4)), ⟨hl1 _ (Option.some.inj hm1).symm, (fun _ => hob1)⟩, Nat.lt_succ_self _, Keeps.mk (ks := [0]) rfl ⟨rfl, rfl, rfl, rfl, rfl, trivial⟩ (⟨_, _, rfl, rfl, rfl⟩) rfl⟩
      ·
       refine V.region ?_
       refine VO.cons rfl (V1.move rfl rfl rfl lt0 ?_)
       refine VO.cons rfl (V1.assign rfl rfl rfl lt0 ?_)
       refine VO.nil ?_
       exact ⟨(m0, (next, seen0), ((some ob1), b4)), ⟨hl1 _ (Option.some.inj hm1).symm, (fun e => by cases e)⟩, Nat.lt_succ_self _, Keeps.mk (ks := [1, 0]) rfl ⟨rfl, rfl, rfl, rfl, rfl, trivial⟩ (⟨_, _, rfl, rfl, _, _, rfl, rfl, rfl⟩) rfl⟩
    ·
     replace hm1 := cond_f hc1 hm1
     refine V.exit ?_
     obtain rfl := hr1 _ (Option.some.inj hm1).symm
     exact ⟨((), ()), rfl, Keeps.mk (ks := []) rfl trivial (rfl) rfl⟩
  ·
   rintro ⟨_, _⟩ rfl
   try dsimp only at hm0
   refine V.seq ?_
   refine V.region ?_
   refine VO.cons rfl (V1.assign rfl rfl rfl lt0 ?_)
   refine VO.cons rfl (V1.assign rfl rfl rfl lt0 ?_)
   refine VO.nil ?_
   refine V.weakenK (Keeps.nilsE (l := ([] : List Int)) 8 rn 1 encInt rfl rfl rfl) ?_
   refine V.ret ?_
   obtain rfl := Option.some.inj hm0
   exact ⟨_, [], ⟨_, _, rfl, rfl, _, _, rfl, rfl, rfl⟩, List.nil_sublist _, rfl, rfl⟩

theorem ok_spec_l1In {rn : Nat} {x : Int} {a : Int} {b_ : Int} {r : Bool} (h : M.spec_l1In x a b_ = some r) : Does Tryd.prog 75 [.int .i64 x, .int .i64 a, .int .i64 b_] [] rn (fun x H => x = .bool r ∧ H = []) := by
 have hm0 := h; clear h; unfold M.spec_l1In at hm0
 try dsimp only at hm0
 refine Does.intro (N := 15) Tryd.func75 rfl rfl rfl rfl ?_
 intro w0 S0 L0
 refine V.seq ?_
 refine V.region ?_
 refine VO.cons rfl (V1.assign rfl rfl rfl lt0 ?_)
 refine VO.nil ?_
 refine V.seq ?_
 refine V.region ?_
 refine VO.cons rfl (V1.move rfl rfl rfl lt0 ?_)
 refine VO.cons rfl (V1.move rfl rfl rfl lt0 ?_)
 refine VO.cons rfl (V1.int rfl rfl rfl rfl rfl lt0 ?_)
 refine VO.cons rfl (V1.move rfl rfl rfl lt0 ?_)
 apply VO.and (n := 3) rfl rfl rfl rfl rfl rfl lt0 (.none rfl)
 ·
  intro hg0
  refine VO.step (.some rfl rfl rfl) (V1.move rfl rfl rfl lt0 ?_)
  refine VO.step (.some rfl rfl rfl) (V1.move rfl rfl rfl lt0 ?_)
  refine VO.step (.some rfl rfl rfl) (V1.int rfl rfl rfl rfl rfl lt0 ?_)
  exact VO.nil ⟨rfl, rfl, rfl, rfl, .inr ⟨rfl, .inr ⟨rfl, .inr ⟨rfl, .inr ⟨rfl, .inl rfl⟩⟩⟩⟩⟩
 refine VO.cons rfl (V1.assign rfl rfl rfl lt0 ?_)
 refine VO.nil ?_
 refine V.ret ?_
 obtain rfl := Option.some.inj hm0
 exact ⟨_, [], ⟨_, _, rfl, rfl, rfl⟩, List.nil_sublist _, rfl, rfl⟩

theorem ok_spec_l2Word {rn : Nat} {s : List UInt8} {r : Bool} (h : M.spec_l2Word s = some r) : Does Tryd.prog 102 [.str s] [] rn (fun x H => x = .bool r ∧ H = []) := by
 have hm0 := h; clear h; unfold M.spec_l2Word at hm0
 try dsimp only at hm0
 refine Does.intro (N := 23) Tryd.func102 rfl rfl rfl rfl ?_
 intro w0 S0 L0
 refine V.seq ?_
 refine V.region ?_
 refine VO.cons rfl (V1.assign rfl rfl rfl lt0 ?_)
 refine VO.nil ?_
 refine V.seq ?_
 refine V.seq ?_
 refine V.region ?_
 refine VO.cons rfl (V1.assign rfl rfl rfl lt0 ?_)
 refine VO.nil ?_
 replace hm0 := bindO hm0; rcases hm0 with ⟨e0, he1, hm0⟩
 refine V.cutT (D := (Unit) × (Unit)) (fun ⟨_, _⟩ => ⟨23, [(0, .str s)], []⟩) (fun ⟨_, _⟩ => (.inl () = e0)) ?_ ?_
 ·
  refine V.block ?_
  refine V.keep 23 [3, 0] [] (E0 := [(3, .int .i64 (0 : Int)), (0, .str s)]) (H0 := []) rfl (⟨_, _, rfl, rfl, _, _, rfl, rfl, rfl⟩) (rfl) rfl ?_
  refine V.loopE (D := Nat × (Int) × (Unit)) (fun ⟨n0, i, _⟩ => [(3, .int .i64 i)]) (fun ⟨n0, i, _⟩ => []) (fun ⟨n0, i, _⟩ => loopO (M.spec_l2Word_l0 s) n0 i = some e0) (fun ⟨n0, _, _⟩ => n0) (rounds, (0 : Int), ()) rfl he1 ?_
  rintro ⟨n0, i, _⟩ hP0
  obtain ⟨m0, y0, rfl, hm1, hl1, hr1⟩ := loop_head hP0
  unfold M.spec_l2Word_l0 at hm1; dsimp only at hm1
  show V _ _ _ ⟨23, [(3, .int .i64 i), (0, .str s)], []⟩
  refine V.seq ?_
  refine V.seq ?_
  refine V.region ?_
  refine VO.cons rfl (V1.move rfl rfl rfl lt0 ?_)
  refine VO.cons rfl (V1.move rfl rfl rfl lt0 ?_)
  refine VO.cons rfl (V1.lenStr rfl rfl rfl rfl rfl rfl istr_9 lt0 ?_)
  refine VO.cons rfl (V1.int rfl rfl rfl rfl rfl lt0 ?_)
  refine VO.nil ?_
  refine V.cond rfl (fun hc0 => ?_) (fun hc0 => ?_)
  ·
   replace hm1 := cond_t hc0 hm1
   refine V.skip ?_
   refine V.keep 23 [0, 3] [] (E0 := [(0, .str s), (3, .int .i64 i)]) (H0 := []) rfl (⟨_, _, rfl, rfl, _, _, rfl, rfl, rfl⟩) (rfl) rfl ?_
   refine V.seq ?_
   refine V.block ?_
   refine V.seq ?_
   replace hm1 := asrt_some hm1; rcases hm1 with ⟨hh0, hm1⟩
   replace hm1 := asrt_some hm1; rcases hm1 with ⟨hh1, hm1⟩
   refine V.region ?_
   refine VO.cons rfl (V1.move rfl rfl rfl lt0 ?_)
   refine VO.cons rfl (V1.move rfl rfl rfl lt0 ?_)
   refine VO.cons rfl (V1.indexStrI rfl rfl istr_9 rfl rfl hh0 lt0 ?_)
   refine VO.cons rfl (V1.int rfl rfl rfl rfl rfl lt0 ?_)
   refine VO.cons rfl (V1.move rfl rfl rfl lt0 ?_)
   apply VO.or (n := 4) rfl rfl rfl rfl rfl rfl lt0 (.none rfl)
   ·
    intro hg0
    refine VO.step (.some rfl rfl rfl) (V1.move rfl rfl rfl lt0 ?_)
    refine VO.step (.some rfl rfl rfl) (V1.move rfl rfl rfl lt0 ?_)
    refine VO.step (.some rfl rfl rfl) (V1.indexStrI rfl rfl istr_9 rfl rfl (hh1 hg0) lt0 ?_)
    refine VO.step (.some rfl rfl rfl) (V1.int rfl rfl rfl rfl rfl lt0 ?_)
    exact VO.nil ⟨rfl, rfl, rfl, rfl, .inr ⟨rfl, .inr ⟨rfl, .inr ⟨rfl, .inr ⟨rfl, .inr ⟨rfl, .inl rfl⟩⟩⟩⟩⟩⟩
   refine VO.nil ?_
   refine V.keep 23 [0, 3, 19] [] (E0 := [(0, .str s), (3, .int .i64 i), (19, .bool ((decide (((s.getD (Int.toNat i) 0).toNat : Int) < (97 : Int))) || (decide (((s.getD (Int.toNat i) 0).toNat : Int) > (122 : Int)))))]) (H0 := []) rfl (⟨_, _, rfl, rfl, _, _, rfl, rfl, _, _, rfl, rfl, rfl⟩) (rfl) rfl ?_
   refine V.cond rfl (fun hc1 => ?_) (fun hc1 => ?_)
   ·
    replace hm1 := cond_t hc1 hm1
    refine V.seq ?_
    refine V.region ?_
    refine VO.cons rfl (V1.assign rfl rfl rfl lt0 ?_)
    refine VO.nil ?_
    refine V.ret ?_
    obtain rfl := hr1 _ (Option.some.inj hm1).symm
    change some _ = some _ at hm0
    obtain rfl := Option.some.inj hm0
    exact ⟨_, [], ⟨_, _, rfl, rfl, rfl⟩, List.nil_sublist _, rfl, rfl⟩
   ·
    replace hm1 := cond_f hc1 hm1
    refine V.skip ?_
    refine V.region ?_
    refine VO.cons rfl (V1.move rfl rfl rfl lt0 ?_)
    refine VO.cons rfl (V1.int rfl rfl rfl rfl rfl lt0 ?_)
    refine VO.cons rfl (V1.assign rfl rfl rfl lt0 ?_)
    refine VO.nil ?_
    exact ⟨(m0, (IntKind.i64.wrap (i + (1 : Int))), ()), hl1 _ (Option.some.inj hm1).symm, Nat.lt_succ_self _, Keeps.mk (ks := []) rfl ⟨rfl, rfl, trivial⟩ (rfl) rfl⟩
  ·
   replace hm1 := cond_f hc0 hm1
   refine V.exit ?_
   obtain rfl := hr1 _ (Option.some.inj hm1).symm
   exact ⟨((), ()), rfl, Keeps.mk (ks := []) rfl ⟨rfl, trivial⟩ (rfl) rfl⟩
 ·
  rintro ⟨_, _⟩ rfl
  try dsimp only at hm0
  refine V.seq ?_
  replace hm0 := bindO hm0; rcases hm0 with ⟨y1, hh2, hm0⟩
  refine V.region ?_
  refine VO.cons rfl (V1.move rfl rfl rfl lt0 ?_)
  refine VO.cons rfl (V1.lenStr rfl rfl rfl rfl rfl rfl istr_9 lt0 ?_)
  refine VO.cons rfl (V1.call rfl rfl rfl cok_75 rfl (ok_spec_l1In hh2) rfl lt0 ?_)
  rintro _ _ ⟨rfl, rfl⟩
  refine VO.cons rfl (V1.assign rfl rfl rfl lt0 ?_)
  refine VO.nil ?_
  refine V.ret ?_
  obtain rfl := Option.some.inj hm0
  exact ⟨_, [], ⟨_, _, rfl, rfl, rfl⟩, List.nil_sublist _, rfl, rfl⟩

theorem ok_spec_l2Day {rn : Nat} {d : Int} {r : Bool} (h : M.spec_l2Day d = some r) : Does Tryd.prog 63 [.int .i64 d] [] rn (fun x H => x = .bool r ∧ H = []) := by
 have hm0 := h; clear h; unfold M.spec_l2Day at hm0
 try dsimp only at hm0
 refine Does.intro (N := 5) Tryd.func63 rfl rfl rfl rfl ?_
 intro w0 S0 L0
 refine V.seq ?_
 refine V.region ?_
 refine VO.cons rfl (V1.assign rfl rfl rfl lt0 ?_)
 refine VO.nil ?_
 refine V.seq ?_
 replace hm0 := bindO hm0; rcases hm0 with ⟨y0, hh0, hm0⟩
 refine V.region ?_
 refine VO.cons rfl (V1.move rfl rfl rfl lt0 ?_)
 refine VO.cons rfl (V1.call rfl rfl rfl cok_75 rfl (ok_spec_l1In hh0) rfl lt0 ?_)
 rintro _ _ ⟨rfl, rfl⟩
 refine VO.cons rfl (V1.assign rfl rfl rfl lt0 ?_)
 refine VO.nil ?_
 refine V.ret ?_
 obtain rfl := Option.some.inj hm0
 exact ⟨_, [], ⟨_, _, rfl, rfl, rfl⟩, List.nil_sublist _, rfl, rfl⟩

theorem ok_spec_l1Rising {ρ0 rn : Nat} {l : List Int} {lo : Int} {hi : Int} {r : Bool} (h : M.spec_l1Rising l lo hi = some r) : Does Tryd.prog 117 [.vl ρ0 1 (List.map encInt l), .int .i64 lo, .int .i64 hi] [] rn (fun x H => x = .bool r ∧ H = []) := by
 have hm0 := h; clear h; unfold M.spec_l1Rising at hm0
 try dsimp only at hm0
 refine Does.intro (N := 38) Tryd.func117 rfl rfl rfl rfl ?_
 intro w0 S0 L0
 refine V.seq ?_
 refine V.region ?_
 refine VO.cons rfl (V1.assign rfl rfl rfl lt0 ?_)
 refine VO.nil ?_
 refine V.seq ?_
 refine V.seq ?_
 refine V.region ?_
 refine VO.cons rfl (V1.assign rfl rfl rfl lt0 ?_)
 refine VO.nil ?_
 replace hm0 := bindO hm0; rcases hm0 with ⟨e0, he1, hm0⟩
 refine V.cutT (D := (Unit) × (Unit)) (fun ⟨_, _⟩ => ⟨38, [], []⟩) (fun ⟨_, _⟩ => (.inl () = e0)) ?_ ?_
 ·
  refine V.block ?_
  refine V.keep 38 [7, 0, 1, 2] [] (E0 := [(7, .int .i64 (0 : Int)), (0, .vl ρ0 1 (List.map encInt l)), (1, .int .i64 lo), (2, .int .i64 hi)]) (H0 := []) rfl (⟨_, _, rfl, rfl, _, _, rfl, rfl, _, _, rfl, rfl, _, _, rfl, rfl, rfl⟩) (rfl) rfl ?_
  refine V.loopE (D := Nat × (Int) × (Unit)) (fun ⟨n0, i, _⟩ => [(7, .int .i64 i)]) (fun ⟨n0, i, _⟩ => []) (fun ⟨n0, i, _⟩ => loopO (M.spec_l1Rising_l0 l lo hi) n0 i = some e0) (fun ⟨n0, _, _⟩ => n0) (rounds, (0 : Int), ()) rfl he1 ?_
  rintro ⟨n0, i, _⟩ hP0
  obtain ⟨m0, y0, rfl, hm1, hl1, hr1⟩ := loop_head hP0
  unfold M.spec_l1Rising_l0 at hm1; dsimp only at hm1
  show V _ _ _ ⟨38, [(7, .int .i64 i), (0, .vl ρ0 1 (List.map encInt l)), (1, .int .i64 lo), (2, .int .i64 hi)], []⟩
  refine V.seq ?_
  refine V.seq ?_
  refine V.region ?_
  refine VO.cons rfl (V1.move rfl rfl rfl lt0 ?_)
  refine VO.cons rfl (V1.move rfl rfl rfl lt0 ?_)
  refine VO.cons rfl (V1.lenMap rfl rfl rfl rfl rfl rfl isl_27 lt0 ?_)
  refine VO.cons rfl (V1.int rfl rfl rfl rfl rfl lt0 ?_)
  refine VO.nil ?_
  refine V.cond rfl (fun hc0 => ?_) (fun hc0 => ?_)
  ·
   replace hm1 := cond_t hc0 hm1
   refine V.skip ?_
   refine V.keep 38 [0, 1, 2, 7] [] (E0 := [(0, .vl ρ0 1 (List.map encInt l)), (1, .int .i64 lo), (2, .int .i64 hi), (7, .int .i64 i)]) (H0 := []) rfl (⟨_, _, rfl, rfl, _, _, rfl, rfl, _, _, rfl, rfl, _, _, rfl, rfl, rfl⟩) (rfl) rfl ?_
   refine V.seq ?_
   refine V.block ?_
   refine V.seq ?_
   replace hm1 := asrt_some hm1; rcases hm1 with ⟨hh0, hm1⟩
   replace hm1 := bindO hm1; rcases hm1 with ⟨y1, hh1, hm1⟩
   replace hm1 := asrt_some hm1; rcases hm1 with ⟨hh2, hm1⟩
   replace hm1 := asrt_some hm1; rcases hm1 with ⟨hh3, hm1⟩
   refine V.regionM 38 24 [⟨[(0, none)], [], none⟩, ⟨[(7, none)], [], none⟩, ⟨[(14, some 1), (15, some 0)], [], none⟩, ⟨[(16, some 0)], [], none⟩, ⟨[(1, none)], [], none⟩, ⟨[(2, none)], [], none⟩, ⟨[(17, some 2), (18, some 1), (19, some 0)], [], none⟩, ⟨[(20, some 0)], [], none⟩, ⟨[(21, some 0)], [], none⟩, ⟨[(7, none)], [(0, false)], none⟩, ⟨[(23, some 0)], [(1, false)], none⟩, ⟨[(24, some 0)], [(2, false)], none⟩, ⟨[(0, none)], [(0, true), (3, false)], none⟩, ⟨[(7, none)], [(1, true), (4, false)], none⟩, ⟨[(27, some 0)], [(2, true), (5, false)], none⟩, ⟨[(26, some 2), (28, some 0)], [(3, true), (6, false)], none⟩, ⟨[(29, some 0)], [(4, true), (7, false)], none⟩, ⟨[(0, none)], [(5, true), (8, false)], none⟩, ⟨[(7, none)], [(6, true), (9, false)], none⟩, ⟨[(31, some 1), (32, some 0)], [(7, true), (10, false)], none⟩, ⟨[(33, some 0)], [(8, true), (11, false)], none⟩, ⟨[(30, some 4), (34, some 0)], [(9, true), (12, false)], none⟩, ⟨[], [(13, false)], some (true, 25, 35, 10, 0)⟩, ⟨[], [], some (false, 22, 36, 14, 0)⟩] [(0, none), (1, none), (2, none), (7, none), (37, some 0)] (⟨_, rfl, ⟨_, rfl, ⟨_, rfl, ⟨_, rfl, ⟨_, rfl, ⟨_, rfl, ⟨_, rfl, ⟨_, rfl, ⟨_, rfl, ⟨_, rfl, ⟨_, rfl, ⟨_, rfl, ⟨_, rfl, ⟨_, rfl, ⟨_, rfl, ⟨_, rfl, ⟨_, rfl, ⟨_, rfl, ⟨_, rfl, ⟨_, rfl, ⟨_, rfl, ⟨_, rfl, ⟨_, rfl, ⟨_, rfl, ⟨rfl, rfl⟩⟩⟩⟩⟩⟩⟩⟩⟩⟩⟩⟩⟩⟩⟩⟩⟩⟩⟩⟩⟩⟩⟩⟩⟩) mixed_orders rfl (by decide +kernel) (fun hck4 => ?_)
   refine VP.step (p := ?pv194) rfl rfl rfl (⟨_, _, rfl, rfl, rfl⟩) ?hv194 ?rest194 hck4
   case hv194 =>
    intro E1
    refine (V1.move rfl rfl rfl lt0 ?_)
    exact rfl
   refine VP.step (p := ?pv195) rfl rfl rfl (⟨_, _, rfl, rfl, rfl⟩) ?hv195 ?rest195 hck4
   case hv195 =>
    intro E1
    refine (V1.move rfl rfl rfl lt0 ?_)
    exact rfl
   refine VP.step (p := ?pv196) rfl rfl rfl (⟨_, _, rfl, rfl, _, _, rfl, rfl, rfl⟩) ?hv196 ?rest196 hck4
   case hv196 =>
    intro E1
    refine (V1.indexI rfl rfl esz_27 rfl rfl hh0 lt0 ?_)
    exact rfl
   refine VP.step (p := ?pv197) rfl rfl rfl (⟨_, _, rfl, rfl, rfl⟩) ?hv197 ?rest197 hck4
   case hv197 =>
    intro E1
    refine (V1.loadPin rfl rfl tyk_3 rfl rfl lt0 ?_)
    exact rfl
   refine VP.step (p := ?pv198) rfl rfl rfl (⟨_, _, rfl, rfl, rfl⟩) ?hv198 ?rest198 hck4
   case hv198 =>
    intro E1
    refine (V1.move rfl rfl rfl lt0 ?_)
    exact rfl
   refine VP.step (p := ?pv199) rfl rfl rfl (⟨_, _, rfl, rfl, rfl⟩) ?hv199 ?rest199 hck4
   case hv199 =>
    intro E1
    refine (V1.move rfl rfl rfl lt0 ?_)
    exact rfl
   refine VP.step (p := ?pv200) rfl rfl rfl (⟨_, _, rfl, rfl, _, _, rfl, rfl, _, _, rfl, rfl, rfl⟩) ?hv200 ?rest200 hck4
   case hv200 =>
    intro E1
    refine (V1.call rfl rfl rfl cok_75 rfl (ok_spec_l1In hh1) rfl lt0 ?_)
    rintro _ _ ⟨rfl, rfl⟩
    exact rfl
   refine VP.step (p := ?pv202) rfl rfl rfl (⟨_, _, rfl, rfl, rfl⟩) ?hv202 ?rest202 hck4
   case hv202 =>
    intro E1
    refine (V1.not rfl rfl rfl lt0 ?_)
    exact rfl
   refine VP.step (p := ?pv203) rfl rfl rfl (⟨_, _, rfl, rfl, rfl⟩) ?hv203 ?rest203 hck4
   case hv203 =>
    intro E1
    refine (V1.move rfl rfl rfl lt0 ?_)
    exact rfl
   refine VP.step (p := ?pv204) rfl rfl rfl (⟨_, _, rfl, rfl, rfl⟩) ?hv204 ?rest204 hck4
   case hv204 =>
    refine ⟨_, rfl, fun hg0 => ?_⟩
    intro E1
    refine (V1.move rfl rfl rfl lt0 ?_)
    exact rfl
   refine VP.step (p := ?pv205) rfl rfl rfl (⟨_, _, rfl, rfl, rfl⟩) ?hv205 ?rest205 hck4
   case hv205 =>
    refine ⟨_, rfl, fun hg0 => ?_⟩
    intro E1
    refine (V1.int rfl rfl rfl rfl rfl lt0 ?_)
    exact rfl
   refine VP.step (p := ?pv206) rfl rfl rfl (⟨_, _, rfl, rfl, rfl⟩) ?hv206 ?rest206 hck4
   case hv206 =>
    refine ⟨_, rfl, fun hg0 => ?_⟩
    intro E1
    refine (V1.move rfl rfl rfl lt0 ?_)
    exact rfl
   refine VP.step (p := ?pv207) rfl rfl rfl (⟨_, _, rfl, rfl, rfl⟩) ?hv207 ?rest207 hck4
   case hv207 =>
    refine ⟨_, rfl, fun hg1 => ?_⟩
    refine ⟨_, rfl, fun hg0 => ?_⟩
    intro E1
    refine (V1.move rfl rfl rfl lt0 ?_)
    exact rfl
   refine VP.step (p := ?pv208) rfl rfl rfl (⟨_, _, rfl, rfl, rfl⟩) ?hv208 ?rest208 hck4
   case hv208 =>
    refine ⟨_, rfl, fun hg1 => ?_⟩
    refine ⟨_, rfl, fun hg0 => ?_⟩
    intro E1
    refine (V1.move rfl rfl rfl lt0 ?_)
    exact rfl
   refine VP.step (p := ?pv209) rfl rfl rfl (⟨_, _, rfl, rfl, rfl⟩) ?hv209 ?rest209 hck4
   case hv209 =>
    refine ⟨_, rfl, fun hg1 => ?_⟩
    refine ⟨_, rfl, fun hg0 => ?_⟩
    intro E1
    refine (V1.int rfl rfl rfl rfl rfl lt0 ?_)
    exact rfl
   refine VP.step (p := ?pv210) rfl rfl rfl (⟨_, _, rfl, rfl, _, _, rfl, rfl, rfl⟩) ?hv210 ?rest210 hck4
   case hv210 =>
    refine ⟨_, rfl, fun hg1 => ?_⟩
    refine ⟨_, rfl, fun hg0 => ?_⟩
    intro E1
    refine (V1.indexI rfl rfl esz_27 rfl rfl (hh2 hg0 hg1) lt0 ?_)
    exact rfl
   refine VP.step (p := ?pv211) rfl rfl rfl (⟨_, _, rfl, rfl, rfl⟩) ?hv211 ?rest211 hck4
   case hv211 =>
    refine ⟨_, rfl, fun hg1 => ?_⟩
    refine ⟨_, rfl, fun hg0 => ?_⟩
    intro E1
    refine (V1.loadPin rfl rfl tyk_3 rfl rfl lt0 ?_)
    exact rfl
   refine VP.step (p := ?pv212) rfl rfl rfl (⟨_, _, rfl, rfl, rfl⟩) ?hv212 ?rest212 hck4
   case hv212 =>
    refine ⟨_, rfl, fun hg1 => ?_⟩
    refine ⟨_, rfl, fun hg0 => ?_⟩
    intro E1
    refine (V1.move rfl rfl rfl lt0 ?_)
    exact rfl
   refine VP.step (p := ?pv213) rfl rfl rfl (⟨_, _, rfl, rfl, rfl⟩) ?hv213 ?rest213 hck4
   case hv213 =>
    refine ⟨_, rfl, fun hg1 => ?_⟩
    refine ⟨_, rfl, fun hg0 => ?_⟩
    intro E1
    refine (V1.move rfl rfl rfl lt0 ?_)
    exact rfl
   refine VP.step (p := ?pv214) rfl rfl rfl (⟨_, _, rfl, rfl, _, _, rfl, rfl, rfl⟩) ?hv214 ?rest214 hck4
   case hv214 =>
    refine ⟨_, rfl, fun hg1 => ?_⟩
    refine ⟨_, rfl, fun hg0 => ?_⟩
    intro E1
    refine (V1.indexI rfl rfl esz_27 rfl rfl (hh3 hg0 hg1) lt0 ?_)
    exact rfl
   refine VP.step (p := ?pv215) rfl rfl rfl (⟨_, _, rfl, rfl, rfl⟩) ?hv215 ?rest215 hck4
   case hv215 =>
    refine ⟨_, rfl, fun hg1 => ?_⟩
    refine ⟨_, rfl, fun hg0 => ?_⟩
    intro E1
    refine (V1.loadPin rfl rfl tyk_3 rfl rfl lt0 ?_)
    exact rfl
   refine VP.step (p := ?pv216) rfl rfl rfl (⟨_, _, rfl, rfl, _, _, rfl, rfl, rfl⟩) ?hv216 ?rest216 hck4
   case hv216 =>
    refine ⟨_, rfl, fun hg1 => ?_⟩
    refine ⟨_, rfl, fun hg0 => ?_⟩
    intro E1
    refine (V1.int rfl rfl rfl rfl rfl lt0 ?_)
    exact rfl
   refine VP.pickAnd rfl rfl rfl rfl rfl rfl (⟨_, rfl, fun _ => trivial⟩) ?_ hck4
   refine VP.pickOr rfl rfl rfl rfl rfl rfl (trivial) ?_ hck4
   refine VP.fin rfl (⟨_, _, rfl, rfl, _, _, rfl, rfl, _, _, rfl, rfl, _, _, rfl, rfl, _, _, rfl, rfl, rfl⟩) ?_
   refine VO.nil ?_
   refine V.cond rfl (fun hc1 => ?_) (fun hc1 => ?_)
   ·
    replace hm1 := cond_t hc1 hm1
    refine V.seq ?_
    refine V.region ?_
    refine VO.cons rfl (V1.assign rfl rfl rfl lt0 ?_)
    refine VO.nil ?_
    refine V.ret ?_
    obtain rfl := hr1 _ (Option.some.inj hm1).symm
    change some _ = some _ at hm0
    obtain rfl := Option.some.inj hm0
    exact ⟨_, [], ⟨_, _, rfl, rfl, rfl⟩, List.nil_sublist _, rfl, rfl⟩
   ·
    replace hm1 := cond_f hc1 hm1
    refine V.skip ?_
    refine V.region ?_
    refine VO.cons rfl (V1.move rfl rfl rfl lt0 ?_)
    refine VO.cons rfl (V1.int rfl rfl rfl rfl rfl lt0 ?_)
    refine VO.cons rfl (V1.assign rfl rfl rfl lt0 ?_)
    refine VO.nil ?_
    exact ⟨(m0, (IntKind.i64.wrap (i + (1 : Int))), ()), hl1 _ (Option.some.inj hm1).symm, Nat.lt_succ_self _, Keeps.mk (ks := []) rfl ⟨rfl, rfl, rfl, rfl, trivial⟩ (rfl) rfl⟩
  ·
   replace hm1 := cond_f hc0 hm1
   refine V.exit ?_
   obtain rfl := hr1 _ (Option.some.inj hm1).symm
   exact ⟨((), ()), rfl, Keeps.mk (ks := []) rfl trivial (rfl) rfl⟩
 ·
  rintro ⟨_, _⟩ rfl
  try dsimp only at hm0
  refine V.seq ?_
  refine V.region ?_
  refine VO.cons rfl (V1.assign rfl rfl rfl lt0 ?_)
  refine VO.nil ?_
  refine V.ret ?_
  obtain rfl := Option.some.inj hm0
  exact ⟨_, [], ⟨_, _, rfl, rfl, rfl⟩, List.nil_sublist _, rfl, rfl⟩

theorem ok_spec_l1Has {ρ0 rn : Nat} {l : List Int} {n : Int} {r : Bool} (h : M.spec_l1Has l n = some r) : Does Tryd.prog 58 [.vl ρ0 1 (List.map encInt l), .int .i64 n] [] rn (fun x H => x = .bool r ∧ H = []) := by
 have hm0 := h; clear h; unfold M.spec_l1Has at hm0
 try dsimp only at hm0
 refine Does.intro (N := 18) Tryd.func58 rfl rfl rfl rfl ?_
 intro w0 S0 L0
 refine V.seq ?_
 refine V.region ?_
 refine VO.cons rfl (V1.assign rfl rfl rfl lt0 ?_)
 refine VO.nil ?_
 refine V.seq ?_
 refine V.seq ?_
 refine V.region ?_
 refine VO.cons rfl (V1.assign rfl rfl rfl lt0 ?_)
 refine VO.nil ?_
 replace hm0 := bindO hm0; rcases hm0 with ⟨e0, he1, hm0⟩
 refine V.cutT (D := (Unit) × (Unit)) (fun ⟨_, _⟩ => ⟨18, [], []⟩) (fun ⟨_, _⟩ => (.inl () = e0)) ?_ ?_
 ·
  refine V.block ?_
  refine V.keep 18 [5, 0, 1] [] (E0 := [(5, .int .i64 (0 : Int)), (0, .vl ρ0 1 (List.map encInt l)), (1, .int .i64 n)]) (H0 := []) rfl (⟨_, _, rfl, rfl, _, _, rfl, rfl, _, _, rfl, rfl, rfl⟩) (rfl) rfl ?_
  refine V.loopE (D := Nat × (Int) × (Unit)) (fun ⟨n0, i, _⟩ => [(5, .int .i64 i)]) (fun ⟨n0, i, _⟩ => []) (fun ⟨n0, i, _⟩ => loopO (M.spec_l1Has_l0 l n) n0 i = some e0) (fun ⟨n0, _, _⟩ => n0) (rounds, (0 : Int), ()) rfl he1 ?_
  rintro ⟨n0, i, _⟩ hP0
  obtain ⟨m0, y0, rfl, hm1, hl1, hr1⟩ := loop_head hP0
  unfold M.spec_l1Has_l0 at hm1; dsimp only at hm1
  show V _ _ _ ⟨18, [(5, .int .i64 i), (0, .vl ρ0 1 (List.map encInt l)), (1, .int .i64 n)], []⟩
  refine V.seq ?_
  refine V.seq ?_
  refine V.region ?_
  refine VO.cons rfl (V1.move rfl rfl rfl lt0 ?_)
  refine VO.cons rfl (V1.move rfl rfl rfl lt0 ?_)
  refine VO.cons rfl (V1.lenMap rfl rfl rfl rfl rfl rfl isl_27 lt0 ?_)
  refine VO.cons rfl (V1.int rfl rfl rfl rfl rfl lt0 ?_)
  refine VO.nil ?_
  refine V.cond rfl (fun hc0 => ?_) (fun hc0 => ?_)
  ·
   replace hm1 := cond_t hc0 hm1
   refine V.skip ?_
   refine V.keep 18 [0, 1, 5] [] (E0 := [(0, .vl ρ0 1 (List.map encInt l)), (1, .int .i64 n), (5, .int .i64 i)]) (H0 := []) rfl (⟨_, _, rfl, rfl, _, _, rfl, rfl, _, _, rfl, rfl, rfl⟩) (rfl) rfl ?_
   refine V.seq ?_
   refine V.block ?_
   refine V.seq ?_
   replace hm1 := asrt_some hm1; rcases hm1 with ⟨hh0, hm1⟩
   refine V.region ?_
   refine VO.cons rfl (V1.move rfl rfl rfl lt0 ?_)
   refine VO.cons rfl (V1.move rfl rfl rfl lt0 ?_)
   refine VO.cons rfl (V1.indexI rfl rfl esz_27 rfl rfl hh0 lt0 ?_)
   refine VO.cons rfl (V1.loadPin rfl rfl tyk_3 rfl rfl lt0 ?_)
   refine VO.cons rfl (V1.move rfl rfl rfl lt0 ?_)
   refine VO.cons rfl (V1.int rfl rfl rfl rfl rfl lt0 ?_)
   refine VO.nil ?_
   refine V.keep 18 [0, 1, 5, 17] [] (E0 := [(0, .vl ρ0 1 (List.map encInt l)), (1, .int .i64 n), (5, .int .i64 i), (17, .bool ((l.getD (Int.toNat i) default) == n))]) (H0 := []) rfl (⟨_, _, rfl, rfl, _, _, rfl, rfl, _, _, rfl, rfl, _, _, rfl, rfl, rfl⟩) (rfl) rfl ?_
   refine V.cond rfl (fun hc1 => ?_) (fun hc1 => ?_)
   ·
    replace hm1 := cond_t hc1 hm1
    refine V.seq ?_
    refine V.region ?_
    refine VO.cons rfl (V1.assign rfl rfl rfl lt0 ?_)
    refine VO.nil ?_
    refine V.ret ?_
    obtain rfl := hr1 _ (Option.some.inj hm1).symm
    change some _ = some _ at hm0
    obtain rfl := Option.some.inj hm0
    exact ⟨_, [], ⟨_, _, rfl, rfl, rfl⟩, List.nil_sublist _, rfl, rfl⟩
   ·
    replace hm1 := cond_f hc1 hm1
    refine V.skip ?_
    refine V.region ?_
    refine VO.cons rfl (V1.move rfl rfl rfl lt0 ?_)
    refine VO.cons rfl (V1.int rfl rfl rfl rfl rfl lt0 ?_)
    refine VO.cons rfl (V1.assign rfl rfl rfl lt0 ?_)
    refine VO.nil ?_
    exact ⟨(m0, (IntKind.i64.wrap (i + (1 : Int))), ()), hl1 _ (Option.some.inj hm1).symm, Nat.lt_succ_self _, Keeps.mk (ks := []) rfl ⟨rfl, rfl, rfl, trivial⟩ (rfl) rfl⟩
  ·
   replace hm1 := cond_f hc0 hm1
   refine V.exit ?_
   obtain rfl := hr1 _ (Option.some.inj hm1).symm
   exact ⟨((), ()), rfl, Keeps.mk (ks := []) rfl trivial (rfl) rfl⟩
 ·
  rintro ⟨_, _⟩ rfl
  try dsimp only at hm0
  refine V.seq ?_
  refine V.region ?_
  refine VO.cons rfl (V1.assign rfl rfl rfl lt0 ?_)
  refine VO.nil ?_
  refine V.ret ?_
  obtain rfl := Option.some.inj hm0
  exact ⟨_, [], ⟨_, _, rfl, rfl, rfl⟩, List.nil_sublist _, rfl, rfl⟩

theorem ok_spec_l7Find {ρ0 σ0 rn : Nat} {list : List Format} {id_ : Int} {r : Int} (h : M.spec_l7Find list id_ = some r) : Does Tryd.prog 62 [.vl ρ0 4 (List.map (encFormat σ0) list), .int .i64 id_] [] rn (fun x H => x = .int .i64 r ∧ H = []) := by
 have hm0 := h; clear h; unfold M.spec_l7Find at hm0
 try dsimp only at hm0
 refine Does.intro (N := 20) Tryd.func62 rfl rfl rfl rfl ?_
 intro w0 S0 L0
 refine V.seq ?_
 refine V.region ?_
 refine VO.cons rfl (V1.assign rfl rfl rfl lt0 ?_)
 refine VO.nil ?_
 refine V.seq ?_
 refine V.seq ?_
 refine V.region ?_
 refine VO.cons rfl (V1.assign rfl rfl rfl lt0 ?_)
 refine VO.nil ?_
 replace hm0 := bindO hm0; rcases hm0 with ⟨e0, he1, hm0⟩
 refine V.cutT (D := (Unit) × (Unit)) (fun ⟨_, _⟩ => ⟨20, [], []⟩) (fun ⟨_, _⟩ => (.inl () = e0)) ?_ ?_
 ·
  refine V.block ?_
  refine V.keep 20 [5, 0, 1] [] (E0 := [(5, .int .i64 (0 : Int)), (0, .vl ρ0 4 (List.map (encFormat σ0) list)), (1, .int .i64 id_)]) (H0 := []) rfl (⟨_, _, rfl, rfl, _, _, rfl, rfl, _, _, rfl, rfl, rfl⟩) (rfl) rfl ?_
  refine V.loopE (D := Nat × (Int) × (Unit)) (fun ⟨n0, i, _⟩ => [(5, .int .i64 i)]) (fun ⟨n0, i, _⟩ => []) (fun ⟨n0, i, _⟩ => loopO (M.spec_l7Find_l0 list id_) n0 i = some e0) (fun ⟨n0, _, _⟩ => n0) (rounds, (0 : Int), ()) rfl he1 ?_
  rintro ⟨n0, i, _⟩ hP0
  obtain ⟨m0, y0, rfl, hm1, hl1, hr1⟩ := loop_head hP0
  unfold M.spec_l7Find_l0 at hm1; dsimp only at hm1
  show V _ _ _ ⟨20, [(5, .int .i64 i), (0, .vl ρ0 4 (List.map (encFormat σ0) list)), (1, .int .i64 id_)], []⟩
  refine V.seq ?_
  refine V.seq ?_
  refine V.region ?_
  refine VO.cons rfl (V1.move rfl rfl rfl lt0 ?_)
  refine VO.cons rfl (V1.move rfl rfl rfl lt0 ?_)
  refine VO.cons rfl (V1.lenMap rfl rfl rfl rfl rfl rfl isl_24 lt0 ?_)
  refine VO.cons rfl (V1.int rfl rfl rfl rfl rfl lt0 ?_)
  refine VO.nil ?_
  refine V.cond rfl (fun hc0 => ?_) (fun hc0 => ?_)
  ·
   replace hm1 := cond_t hc0 hm1
   refine V.skip ?_
   refine V.keep 20 [0, 1, 5] [] (E0 := [(0, .vl ρ0 4 (List.map (encFormat σ0) list)), (1, .int .i64 id_), (5, .int .i64 i)]) (H0 := []) rfl (⟨_, _, rfl, rfl, _, _, rfl, rfl, _, _, rfl, rfl, rfl⟩) (rfl) rfl ?_
   refine V.seq ?_
   refine V.block ?_
   refine V.seq ?_
   replace hm1 := asrt_some hm1; rcases hm1 with ⟨hh0, hm1⟩
   refine V.region ?_
   refine VO.cons rfl (V1.move rfl rfl rfl lt0 ?_)
   refine VO.cons rfl (V1.move rfl rfl rfl lt0 ?_)
   refine VO.cons rfl (V1.indexI rfl rfl esz_24 rfl rfl hh0 lt0 ?_)
   refine VO.cons rfl (V1.fieldPin rfl rfl fo_34_0 rfl lt0 ?_)
   refine VO.cons rfl (V1.loadPin rfl rfl tyk_3 rfl rfl lt0 ?_)
   refine VO.cons rfl (V1.move rfl rfl rfl lt0 ?_)
   refine VO.cons rfl (V1.int rfl rfl rfl rfl rfl lt0 ?_)
   refine VO.nil ?_
   refine V.keep 20 [0, 1, 5, 18] [] (E0 := [(0, .vl ρ0 4 (List.map (encFormat σ0) list)), (1, .int .i64 id_), (5, .int .i64 i), (18, .bool (((list.getD (Int.toNat i) default).Id) == id_))]) (H0 := []) rfl (⟨_, _, rfl, rfl, _, _, rfl, rfl, _, _, rfl, rfl, _, _, rfl, rfl, rfl⟩) (rfl) rfl ?_
   refine V.cond rfl (fun hc1 => ?_) (fun hc1 => ?_)
   ·
    replace hm1 := cond_t hc1 hm1
    refine V.seq ?_
    refine V.region ?_
    refine VO.cons rfl (V1.move rfl rfl rfl lt0 ?_)
    refine VO.cons rfl (V1.assign rfl rfl rfl lt0 ?_)
    refine VO.nil ?_
    refine V.ret ?_
    obtain rfl := hr1 _ (Option.some.inj hm1).symm
    change some _ = some _ at hm0
    obtain rfl := Option.some.inj hm0
    exact ⟨_, [], ⟨_, _, rfl, rfl, rfl⟩, List.nil_sublist _, rfl, rfl⟩
   ·
    replace hm1 := cond_f hc1 hm1
    refine V.skip ?_
    refine V.region ?_
    refine VO.cons rfl (V1.move rfl rfl rfl lt0 ?_)
    refine VO.cons rfl (V1.int rfl rfl rfl rfl rfl lt0 ?_)
    refine VO.cons rfl (V1.assign rfl rfl rfl lt0 ?_)
    refine VO.nil ?_
    exact ⟨(m0, (IntKind.i64.wrap (i + (1 : Int))), ()), hl1 _ (Option.some.inj hm1).symm, Nat.lt_succ_self _, Keeps.mk (ks := []) rfl ⟨rfl, rfl, rfl, trivial⟩ (rfl) rfl⟩
  ·
   replace hm1 := cond_f hc0 hm1
   refine V.exit ?_
   obtain rfl := hr1 _ (Option.some.inj hm1).symm
   exact ⟨((), ()), rfl, Keeps.mk (ks := []) rfl trivial (rfl) rfl⟩
 ·
  rintro ⟨_, _⟩ rfl
  try dsimp only at hm0
  refine V.seq ?_
  refine V.region ?_
  refine VO.cons rfl (V1.assign rfl rfl rfl lt0 ?_)
  refine VO.nil ?_
  refine V.ret ?_
  obtain rfl := Option.some.inj hm0
  exact ⟨_, [], ⟨_, _, rfl, rfl, rfl⟩, List.nil_sublist _, rfl, rfl⟩

theorem ok_spec_l7Good {ρ0 σ0 rn : Nat} {list : List Format} {r : Bool} (h : M.spec_l7Good list = some r) : Does Tryd.prog 61 [.vl ρ0 4 (List.map (encFormat σ0) list)] [] rn (fun x H => x = .bool r ∧ H = []) := by
 have hm0 := h; clear h; unfold M.spec_l7Good at hm0
 try dsimp only at hm0
 refine Does.intro (N := 100) Tryd.func61 rfl rfl rfl rfl ?_
 intro w0 S0 L0
 refine V.seq ?_
 refine V.region ?_
 refine VO.cons rfl (V1.assign rfl rfl rfl lt0 ?_)
 refine VO.nil ?_
 refine V.seq ?_
 refine V.seq ?_
 refine V.region ?_
 refine VO.cons rfl (V1.assign rfl rfl rfl lt0 ?_)
 refine VO.nil ?_
 replace hm0 := bindO hm0; rcases hm0 with ⟨e0, he1, hm0⟩
 refine V.cutT (D := (Unit) × (Unit)) (fun ⟨_, _⟩ => ⟨100, [(0, .vl ρ0 4 (List.map (encFormat σ0) list))], []⟩) (fun ⟨_, _⟩ => (.inl () = e0)) ?_ ?_
 ·
  refine V.block ?_
  refine V.keep 100 [3, 0] [] (E0 := [(3, .int .i64 (0 : Int)), (0, .vl ρ0 4 (List.map (encFormat σ0) list))]) (H0 := []) rfl (⟨_, _, rfl, rfl, _, _, rfl, rfl, rfl⟩) (rfl) rfl ?_
  refine V.loopE (D := Nat × (Int) × (Unit)) (fun ⟨n0, i, _⟩ => [(3, .int .i64 i)]) (fun ⟨n0, i, _⟩ => []) (fun ⟨n0, i, _⟩ => loopO (M.spec_l7Good_l0 list) n0 i = some e0) (fun ⟨n0, _, _⟩ => n0) (rounds, (0 : Int), ()) rfl he1 ?_
  rintro ⟨n0, i, _⟩ hP0
  obtain ⟨m0, y0, rfl, hm1, hl1, hr1⟩ := loop_head hP0
  unfold M.spec_l7Good_l0 at hm1; dsimp only at hm1
  show V _ _ _ ⟨100, [(3, .int .i64 i), (0, .vl ρ0 4 (List.map (encFormat σ0) list))], []⟩
  refine V.seq ?_
  refine V.seq ?_
  refine V.region ?_
  refine VO.cons rfl (V1.move rfl rfl rfl lt0 ?_)
  refine VO.cons rfl (V1.move rfl rfl rfl lt0 ?_)
  refine VO.cons rfl (V1.lenMap rfl rfl rfl rfl rfl rfl isl_24 lt0 ?_)
  refine VO.cons rfl (V1.int rfl rfl rfl rfl rfl lt0 ?_)
  refine VO.cons rfl (V1.move rfl rfl rfl lt0 ?_)
  apply VO.and (n := 2) rfl rfl rfl rfl rfl rfl lt0 (.none rfl)
  ·
   intro hg0
   refine VO.step (.some rfl rfl rfl) (V1.move rfl rfl rfl lt0 ?_)
   refine VO.step (.some rfl rfl rfl) (V1.int rfl rfl rfl rfl rfl lt0 ?_)
   exact VO.nil ⟨rfl, rfl, rfl, rfl, .inr ⟨rfl, .inr ⟨rfl, .inr ⟨rfl, .inl rfl⟩⟩⟩⟩
  refine VO.nil ?_
  refine V.keep 100 [0, 3, 14] [] (E0 := [(0, .vl ρ0 4 (List.map (encFormat σ0) list)), (3, .int .i64 i), (14, .bool ((decide (i < (list.length : Int))) && (decide (i ≤ (10 : Int)))))]) (H0 := []) rfl (⟨_, _, rfl, rfl, _, _, rfl, rfl, _, _, rfl, rfl, rfl⟩) (rfl) rfl ?_
  refine V.cond rfl (fun hc0 => ?_) (fun hc0 => ?_)
  ·
   replace hm1 := cond_t hc0 hm1
   refine V.skip ?_
   refine V.seq ?_
   refine V.block ?_
   refine V.seq ?_
   replace hm1 := asrt_some hm1; rcases hm1 with ⟨hh0, hm1⟩
   refine V.region ?_
   refine VO.cons rfl (V1.move rfl rfl rfl lt0 ?_)
   refine VO.cons rfl (V1.move rfl rfl rfl lt0 ?_)
   refine VO.cons rfl (V1.indexI rfl rfl esz_24 rfl rfl hh0 lt0 ?_)
   refine VO.cons rfl (V1.loadPinAll rfl rfl tyk_34 rfl rfl lt0 ?_)
   refine VO.cons rfl (V1.alloc rfl rfl zk_34 lt0 ?_)
   intro b0
   refine VO.cons rfl (V1.storeRefAll (k := 0) rfl rfl tyk_34 rfl rfl rfl rfl rfl rfl ?_)
   refine VO.nil ?_
   refine V.keep 100 [0, 3, 4] [0] (E0 := [(0, .vl ρ0 4 (List.map (encFormat σ0) list)), (3, .int .i64 i), (4, .ref b0 4 0 0)]) (H0 := [(b0, ⟨4, [encFormat σ0 (list.getD (Int.toNat i) default)]⟩)]) rfl (⟨_, _, rfl, rfl, _, _, rfl, rfl, _, _, rfl, rfl, rfl⟩) (⟨_, _, rfl, rfl, rfl⟩) rfl ?_
   refine V.seq ?_
   refine V.seq ?_
   replace hm1 := bindO hm1; rcases hm1 with ⟨y1, hh1, hm1⟩
   replace hm1 := bindO hm1; rcases hm1 with ⟨y2, hh2, hm1⟩
   replace hm1 := bindO hm1; rcases hm1 with ⟨y3, hh3, hm1⟩
   replace hm1 := bindO hm1; rcases hm1 with ⟨y4, hh4, hm1⟩
   refine V.region ?_
   refine VO.cons rfl (V1.fieldRef rfl rfl fo_34_0 rfl lt0 ?_)
   refine VO.cons rfl (V1.loadRef (k := 0) rfl rfl tyk_3 rfl rfl rfl rfl rfl lt0 ?_)
   refine VO.cons rfl (V1.call rfl rfl rfl cok_75 rfl (ok_spec_l1In hh1) rfl lt0 ?_)
   rintro _ _ ⟨rfl, rfl⟩
   refine VO.cons rfl (V1.not rfl rfl rfl lt0 ?_)
   refine VO.cons rfl (V1.move rfl rfl rfl lt0 ?_)
   apply VO.or (n := 4) rfl rfl rfl rfl rfl rfl lt0 (.none rfl)
   ·
    intro hg1
    refine VO.step (.some rfl rfl rfl) (V1.fieldRef rfl rfl fo_34_1 rfl lt0 ?_)
    refine VO.step (.some rfl rfl rfl) (V1.loadRef (k := 0) rfl rfl tyk_9 rfl rfl rfl rfl rfl lt0 ?_)
    refine VO.step (.some rfl rfl rfl) (V1.call rfl rfl rfl cok_102 rfl (ok_spec_l2Word (cond_f hg1 hh2)) rfl lt0 ?_)
    rintro _ _ ⟨rfl, rfl⟩
    refine VO.step (.some rfl rfl rfl) (V1.not rfl rfl rfl lt0 ?_)
    exact VO.nil ⟨rfl, rfl, rfl, rfl, .inr ⟨rfl, .inr ⟨rfl, .inr ⟨rfl, .inr ⟨rfl, .inr ⟨rfl, .inl rfl⟩⟩⟩⟩⟩⟩
   refine VO.cons rfl (V1.move rfl rfl rfl lt0 ?_)
   apply VO.or (n := 4) rfl rfl rfl rfl rfl rfl lt0 (.none rfl)
   ·
    intro hg2
    refine VO.step (.some rfl rfl rfl) (V1.fieldRef rfl rfl fo_34_2 rfl lt0 ?_)
    refine VO.step (.some rfl rfl rfl) (V1.loadRef (k := 0) rfl rfl tyk_3 rfl rfl rfl rfl rfl lt0 ?_)
    refine VO.step (.some rfl rfl rfl) (V1.call rfl rfl rfl cok_63 rfl (ok_spec_l2Day (cond_f hg2 hh3)) rfl lt0 ?_)
    rintro _ _ ⟨rfl, rfl⟩
    refine VO.step (.some rfl rfl rfl) (V1.not rfl rfl rfl lt0 ?_)
    exact VO.nil ⟨rfl, rfl, rfl, rfl, .inr ⟨rfl, .inr ⟨rfl, .inr ⟨rfl, .inr ⟨rfl, .inr ⟨rfl, .inl rfl⟩⟩⟩⟩⟩⟩
   refine VO.cons rfl (V1.move rfl rfl rfl lt0 ?_)
   apply VO.or (n := 4) rfl rfl rfl rfl rfl rfl lt0 (.none rfl)
   ·
    intro hg3
    refine VO.step (.some rfl rfl rfl) (V1.fieldRef rfl rfl fo_34_3 rfl lt0 ?_)
    refine VO.step (.some rfl rfl rfl) (V1.loadRef (k := 0) rfl rfl tyk_27 rfl rfl rfl rfl rfl lt0 ?_)
    refine VO.step (.some rfl rfl rfl) (V1.lenMap rfl rfl rfl rfl rfl rfl isl_27 lt0 ?_)
    refine VO.step (.some rfl rfl rfl) (V1.int rfl rfl rfl rfl rfl lt0 ?_)
    exact VO.nil ⟨rfl, rfl, rfl, rfl, .inr ⟨rfl, .inr ⟨rfl, .inr ⟨rfl, .inr ⟨rfl, .inr ⟨rfl, .inl rfl⟩⟩⟩⟩⟩⟩
   refine VO.cons rfl (V1.move rfl rfl rfl lt0 ?_)
   apply VO.or (n := 4) rfl rfl rfl rfl rfl rfl lt0 (.none rfl)
   ·
    intro hg4
    refine VO.step (.some rfl rfl rfl) (V1.fieldRef rfl rfl fo_34_3 rfl lt0 ?_)
    refine VO.step (.some rfl rfl rfl) (V1.loadRef (k := 0) rfl rfl tyk_27 rfl rfl rfl rfl rfl lt0 ?_)
    refine VO.step (.some rfl rfl rfl) (V1.call rfl rfl rfl cok_117 rfl (ok_spec_l1Rising (cond_f hg4 hh4)) rfl lt0 ?_)
    rintro _ _ ⟨rfl, rfl⟩
    refine VO.step (.some rfl rfl rfl) (V1.not rfl rfl rfl lt0 ?_)
    exact VO.nil ⟨rfl, rfl, rfl, rfl, .inr ⟨rfl, .inr ⟨rfl, .inr ⟨rfl, .inr ⟨rfl, .inr ⟨rfl, .inl rfl⟩⟩⟩⟩⟩⟩
   refine VO.nil ?_
   refine V.keep 100 [0, 3, 4, 48] [0] (E0 := [(0, .vl ρ0 4 (List.map (encFormat σ0) list)), (3, .int .i64 i), (4, .ref b0 4 0 0), (48, .bool (((((!y1) || (!y2)) || (!y3)) || (decide ((((list.getD (Int.toNat i) default).Reads).length : Int) > (10 : Int)))) || (!y4)))]) (H0 := [(b0, ⟨4, [encFormat σ0 (list.getD (Int.toNat i) default)]⟩)]) rfl (⟨_, _, rfl, rfl, _, _, rfl, rfl, _, _, rfl, rfl, _, _, rfl, rfl, rfl⟩) (⟨_, _, rfl, rfl, rfl⟩) rfl ?_
   refine V.cond rfl (fun hc1 => ?_) (fun hc1 => ?_)
   ·
    replace hm1 := cond_t hc1 hm1
    refine V.seq ?_
    refine V.region ?_
    refine VO.cons rfl (V1.assign rfl rfl rfl lt0 ?_)
    refine VO.nil ?_
    refine V.ret ?_
    obtain rfl := hr1 _ (Option.some.inj hm1).symm
    change some _ = some _ at hm0
    obtain rfl := Option.some.inj hm0
    exact ⟨_, [], ⟨_, _, rfl, rfl, rfl⟩, List.nil_sublist _, rfl, rfl⟩
   ·
    replace hm1 := cond_f hc1 hm1
    refine V.skip ?_
    refine V.seq ?_
    refine V.seq ?_
    replace hm1 := asrt_some hm1; rcases hm1 with ⟨hh5, hm1⟩
    replace hm1 := bindO hm1; rcases hm1 with ⟨y5, hh6, hm1⟩
    refine V.regionM 100 20 [⟨[(3, none)], [], none⟩, ⟨[(49, some 0)], [], none⟩, ⟨[(50, some 0)], [], none⟩, ⟨[(0, none)], [(0, true)], none⟩, ⟨[(3, none)], [(1, true)], none⟩, ⟨[(53, some 0)], [(2, true)], none⟩, ⟨[(52, some 2), (54, some 0)], [(3, true)], none⟩, ⟨[(55, some 0)], [(4, true)], none⟩, ⟨[(56, some 0)], [(5, true)], none⟩, ⟨[(4, none)], [(6, true)], none⟩, ⟨[(58, some 0)], [(7, true)], none⟩, ⟨[(57, some 2), (59, some 0)], [(8, true)], none⟩, ⟨[], [], some (true, 51, 60, 9, 0)⟩, ⟨[(61, some 0)], [], none⟩, ⟨[(4, none)], [(0, false)], none⟩, ⟨[(63, some 0)], [(1, false)], none⟩, ⟨[(4, none)], [(2, false)], none⟩, ⟨[(65, some 0)], [(3, false)], none⟩, ⟨[(64, some 2), (66, some 0)], [(4, false)], none⟩, ⟨[], [], some (false, 62, 67, 5, 0)⟩] [(0, none), (3, none), (4, none), (68, some 0)] (⟨_, rfl, ⟨_, rfl, ⟨_, rfl, ⟨_, rfl, ⟨_, rfl, ⟨_, rfl, ⟨_, rfl, ⟨_, rfl, ⟨_, rfl, ⟨_, rfl, ⟨_, rfl, ⟨_, rfl, ⟨_, rfl, ⟨_, rfl, ⟨_, rfl, ⟨_, rfl, ⟨_, rfl, ⟨_, rfl, ⟨_, rfl, ⟨_, rfl, ⟨rfl, rfl⟩⟩⟩⟩⟩⟩⟩⟩⟩⟩⟩⟩⟩⟩⟩⟩⟩⟩⟩⟩⟩) mixed_orders rfl (by decide +kernel) (fun hck7 => ?_)
    refine VP.step (p := ?pv381) rfl rfl rfl (⟨_, _, rfl, rfl, rfl⟩) ?hv381 ?rest381 hck7
    case hv381 =>
     intro E1
     refine (V1.move rfl rfl rfl lt0 ?_)
     exact rfl
    refine VP.step (p := ?pv382) rfl rfl rfl (⟨_, _, rfl, rfl, rfl⟩) ?hv382 ?rest382 hck7
    case hv382 =>
     intro E1
     refine (V1.int rfl rfl rfl rfl rfl lt0 ?_)
     exact rfl
    refine VP.step (p := ?pv383) rfl rfl rfl (⟨_, _, rfl, rfl, rfl⟩) ?hv383 ?rest383 hck7
    case hv383 =>
     intro E1
     refine (V1.move rfl rfl rfl lt0 ?_)
     exact rfl
    refine VP.step (p := ?pv384) rfl rfl rfl (⟨_, _, rfl, rfl, rfl⟩) ?hv384 ?rest384 hck7
    case hv384 =>
     refine ⟨_, rfl, fun hg5 => ?_⟩
     intro E1
     refine (V1.move rfl rfl rfl lt0 ?_)
     exact rfl
    refine VP.step (p := ?pv385) rfl rfl rfl (⟨_, _, rfl, rfl, rfl⟩) ?hv385 ?rest385 hck7
    case hv385 =>
     refine ⟨_, rfl, fun hg5 => ?_⟩
     intro E1
     refine (V1.move rfl rfl rfl lt0 ?_)
     exact rfl
    refine VP.step (p := ?pv386) rfl rfl rfl (⟨_, _, rfl, rfl, rfl⟩) ?hv386 ?rest386 hck7
    case hv386 =>
     refine ⟨_, rfl, fun hg5 => ?_⟩
     intro E1
     refine (V1.int rfl rfl rfl rfl rfl lt0 ?_)
     exact rfl
    refine VP.step (p := ?pv387) rfl rfl rfl (⟨_, _, rfl, rfl, _, _, rfl, rfl, rfl⟩) ?hv387 ?rest387 hck7
    case hv387 =>
     refine ⟨_, rfl, fun hg5 => ?_⟩
     intro E1
     refine (V1.indexI rfl rfl esz_24 rfl rfl (hh5 hg5) lt0 ?_)
     exact rfl
    refine VP.step (p := ?pv388) rfl rfl rfl (⟨_, _, rfl, rfl, rfl⟩) ?hv388 ?rest388 hck7
    case hv388 =>
     refine ⟨_, rfl, fun hg5 => ?_⟩
     intro E1
     refine (V1.fieldPin rfl rfl fo_34_0 rfl lt0 ?_)
     exact rfl
    refine VP.step (p := ?pv389) rfl rfl rfl (⟨_, _, rfl, rfl, rfl⟩) ?hv389 ?rest389 hck7
    case hv389 =>
     refine ⟨_, rfl, fun hg5 => ?_⟩
     intro E1
     refine (V1.loadPin rfl rfl tyk_3 rfl rfl lt0 ?_)
     exact rfl
    refine VP.step (p := ?pv390) rfl rfl rfl (⟨_, _, rfl, rfl, rfl⟩) ?hv390 ?rest390 hck7
    case hv390 =>
     refine ⟨_, rfl, fun hg5 => ?_⟩
     intro E1
     refine (V1.fieldRef rfl rfl fo_34_0 rfl lt0 ?_)
     exact rfl
    refine VP.step (p := ?pv391) rfl rfl rfl (⟨_, _, rfl, rfl, rfl⟩) ?hv391 ?rest391 hck7
    case hv391 =>
     refine ⟨_, rfl, fun hg5 => ?_⟩
     intro E1
     refine (V1.loadRef (k := 0) rfl rfl tyk_3 rfl rfl rfl rfl rfl lt0 ?_)
     exact rfl
    refine VP.step (p := ?pv392) rfl rfl rfl (⟨_, _, rfl, rfl, _, _, rfl, rfl, rfl⟩) ?hv392 ?rest392 hck7
    case hv392 =>
     refine ⟨_, rfl, fun hg5 => ?_⟩
     intro E1
     refine (V1.int rfl rfl rfl rfl rfl lt0 ?_)
     exact rfl
    refine VP.pickAnd rfl rfl rfl rfl rfl rfl (trivial) ?_ hck7
    refine VP.step (p := ?pv393) rfl rfl rfl (⟨_, _, rfl, rfl, rfl⟩) ?hv393 ?rest393 hck7
    case hv393 =>
     intro E1
     refine (V1.move rfl rfl rfl lt0 ?_)
     exact rfl
    refine VP.step (p := ?pv394) rfl rfl rfl (⟨_, _, rfl, rfl, rfl⟩) ?hv394 ?rest394 hck7
    case hv394 =>
     refine ⟨_, rfl, fun hg6 => ?_⟩
     intro E1
     refine (V1.fieldRef rfl rfl fo_34_3 rfl lt0 ?_)
     exact rfl
    refine VP.step (p := ?pv395) rfl rfl rfl (⟨_, _, rfl, rfl, rfl⟩) ?hv395 ?rest395 hck7
    case hv395 =>
     refine ⟨_, rfl, fun hg6 => ?_⟩
     intro E1
     refine (V1.loadRef (k := 0) rfl rfl tyk_27 rfl rfl rfl rfl rfl lt0 ?_)
     exact rfl
    refine VP.step (p := ?pv396) rfl rfl rfl (⟨_, _, rfl, rfl, rfl⟩) ?hv396 ?rest396 hck7
    case hv396 =>
     refine ⟨_, rfl, fun hg6 => ?_⟩
     intro E1
     refine (V1.fieldRef rfl rfl fo_34_0 rfl lt0 ?_)
     exact rfl
    refine VP.step (p := ?pv397) rfl rfl rfl (⟨_, _, rfl, rfl, rfl⟩) ?hv397 ?rest397 hck7
    case hv397 =>
     refine ⟨_, rfl, fun hg6 => ?_⟩
     intro E1
     refine (V1.loadRef (k := 0) rfl rfl tyk_3 rfl rfl rfl rfl rfl lt0 ?_)
     exact rfl
    refine VP.step (p := ?pv398) rfl rfl rfl (⟨_, _, rfl, rfl, _, _, rfl, rfl, rfl⟩) ?hv398 ?rest398 hck7
    case hv398 =>
     refine ⟨_, rfl, fun hg6 => ?_⟩
     intro E1
     refine (V1.call rfl rfl rfl cok_58 rfl (ok_spec_l1Has (cond_f hg6 hh6)) rfl lt0 ?_)
     rintro _ _ ⟨rfl, rfl⟩
     exact rfl
    refine VP.pickOr rfl rfl rfl rfl rfl rfl (trivial) ?_ hck7
    refine VP.fin rfl (⟨_, _, rfl, rfl, _, _, rfl, rfl, _, _, rfl, rfl, _, _, rfl, rfl, rfl⟩) ?_
    refine VO.nil ?_
    refine V.cond rfl (fun hc2 => ?_) (fun hc2 => ?_)
    ·
     replace hm1 := cond_t hc2 hm1
     refine V.seq ?_
     refine V.region ?_
     refine VO.cons rfl (V1.assign rfl rfl rfl lt0 ?_)
     refine VO.nil ?_
     refine V.ret ?_
     obtain rfl := hr1 _ (Option.some.inj hm1).symm
     change some _ = some _ at hm0
     obtain rfl := Option.some.inj hm0
     exact ⟨_, [], ⟨_, _, rfl, rfl, rfl⟩, List.nil_sublist _, rfl, rfl⟩
    ·
     replace hm1 := cond_f hc2 hm1
     refine V.skip ?_
     refine V.seq ?_
     refine V.seq ?_
     refine V.region ?_
     refine VO.cons rfl (V1.assign rfl rfl rfl lt0 ?_)
     refine VO.nil ?_
     replace hm1 := bindO hm1; rcases hm1 with ⟨e1, he2, hm1⟩
     refine V.cutT (D := (Unit) × (Unit)) (fun ⟨_, _⟩ => ⟨100, [(0, .vl ρ0 4 (List.map (encFormat σ0) list)), (3, .int .i64 i), (4, .ref b0 4 0 0)], [(b0, ⟨4, [encFormat σ0 (list.getD (Int.toNat i) default)]⟩)]⟩) (fun ⟨_, _⟩ => (.inl () = e1)) ?_ ?_
     ·
      refine V.block ?_
      refine V.keep 100 [5, 0, 3, 4] [0] (E0 := [(5, .int .i64 (0 : Int)), (0, .vl ρ0 4 (List.map (encFormat σ0) list)), (3, .int .i64 i), (4, .ref b0 4 0 0)]) (H0 := [(b0, ⟨4, [encFormat σ0 (list.getD (Int.toNat i) default)]⟩)]) rfl (⟨_, _, rfl, rfl, _, _, rfl, rfl, _, _, rfl, rfl, _, _, rfl, rfl, rfl⟩) (⟨_, _, rfl, rfl, rfl⟩) rfl ?_
      refine V.loopE (D := Nat × (Int) × (Unit)) (fun ⟨n1, k, _⟩ => [(5, .int .i64 k)]) (fun ⟨n1, k, _⟩ => []) (fun ⟨n1, k, _⟩ => loopO (M.spec_l7Good_l1 list i) n1 k = some e1) (fun ⟨n1, _, _⟩ => n1) (rounds, (0 : Int), ()) rfl he2 ?_
      rintro ⟨n1, k, _⟩ hP1
      obtain ⟨m1, y6, rfl, hm2, hl2, hr2⟩ := loop_head hP1
      unfold M.spec_l7Good_l1 at hm2; dsimp only at hm2
      show V _ _ _ ⟨100, [(5, .int .i64 k), (0, .vl ρ0 4 (List.map (encFormat σ0) list)), (3, .int .i64 i), (4, .ref b0 4 0 0)], [(b0, ⟨4, [encFormat σ0 (list.getD (Int.toNat i) default)]⟩)]⟩
      refine V.seq ?_
      refine V.seq ?_
      refine V.region ?_
      refine VO.cons rfl (V1.move rfl rfl rfl lt0 ?_)
      refine VO.cons rfl (V1.move rfl rfl rfl lt0 ?_)
      refine VO.cons rfl (V1.int rfl rfl rfl rfl rfl lt0 ?_)
      refine VO.nil ?_
      refine V.cond rfl (fun hc3 => ?_) (fun hc3 => ?_)
      ·
       replace hm2 := cond_t hc3 hm2
       refine V.skip ?_
       refine V.seq ?_
       refine V.block ?_
       refine V.seq ?_
       replace hm2 := asrt_some hm2; rcases hm2 with ⟨hh7, hm2⟩
       refine V.regionM 100 7 [⟨[(0, none)], [], none⟩, ⟨[(5, none)], [], none⟩, ⟨[(74, some 1), (75, some 0)], [], none⟩, ⟨[(76, some 0)], [], none⟩, ⟨[(77, some 0)], [], none⟩, ⟨[(4, none)], [], none⟩, ⟨[(79, some 0)], [], none⟩] [(0, none), (3, none), (4, none), (5, none), (78, some 2), (80, some 0)] (⟨_, rfl, ⟨_, rfl, ⟨_, rfl, ⟨_, rfl, ⟨_, rfl, ⟨_, rfl, ⟨_, rfl, ⟨rfl, rfl⟩⟩⟩⟩⟩⟩⟩⟩) mixed_orders rfl (by decide +kernel) (fun hck12 => ?_)
       refine VP.step (p := ?pv414) rfl rfl rfl (⟨_, _, rfl, rfl, rfl⟩) ?hv414 ?rest414 hck12
       case hv414 =>
        intro E1
        refine (V1.move rfl rfl rfl lt0 ?_)
        exact rfl
       refine VP.step (p := ?pv415) rfl rfl rfl (⟨_, _, rfl, rfl, rfl⟩) ?hv415 ?rest415 hck12
       case hv415 =>
        intro E1
        refine (V1.move rfl rfl rfl lt0 ?_)
        exact rfl
       refine VP.step (p := ?pv416) rfl rfl rfl (⟨_, _, rfl, rfl, _, _, rfl, rfl, rfl⟩) ?hv416 ?rest416 hck12
       case hv416 =>
        intro E1
        refine (V1.indexI rfl rfl esz_24 rfl rfl hh7 lt0 ?_)
        exact rfl
       refine VP.step (p := ?pv417) rfl rfl rfl (⟨_, _, rfl, rfl, rfl⟩) ?hv417 ?rest417 hck12
       case hv417 =>
        intro E1
        refine (V1.fieldPin rfl rfl fo_34_1 rfl lt0 ?_)
        exact rfl
       refine VP.step (p := ?pv418) rfl rfl rfl (⟨_, _, rfl, rfl, rfl⟩) ?hv418 ?rest418 hck12
       case hv418 =>
        intro E1
        refine (V1.loadPin rfl rfl tyk_9 rfl rfl lt0 ?_)
        exact rfl
       refine VP.step (p := ?pv419) rfl rfl rfl (⟨_, _, rfl, rfl, rfl⟩) ?hv419 ?rest419 hck12
       case hv419 =>
        intro E1
        refine (V1.fieldRef rfl rfl fo_34_1 rfl lt0 ?_)
        exact rfl
       refine VP.step (p := ?pv420) rfl rfl rfl (⟨_, _, rfl, rfl, rfl⟩) ?hv420 ?rest420 hck12
       case hv420 =>
        intro E1
        refine (V1.loadRef (k := 0) rfl rfl tyk_9 rfl rfl rfl rfl rfl lt0 ?_)
        exact rfl
       refine VP.fin rfl (⟨_, _, rfl, rfl, _, _, rfl, rfl, _, _, rfl, rfl, _, _, rfl, rfl, _, _, rfl, rfl, _, _, rfl, rfl, rfl⟩) ?_
       refine VO.cons rfl (V1.str rfl rfl rfl rfl rfl lt0 ?_)
       refine VO.nil ?_
       refine V.cond rfl (fun hc4 => ?_) (fun hc4 => ?_)
       ·
        replace hm2 := cond_t hc4 hm2
        refine V.seq ?_
        refine V.region ?_
        refine VO.cons rfl (V1.assign rfl rfl rfl lt0 ?_)
        refine VO.nil ?_
        refine V.ret ?_
        obtain rfl := hr2 _ (Option.some.inj hm2).symm
        change some _ = some _ at hm1
        obtain rfl := hr1 _ (Option.some.inj hm1).symm
        change some _ = some _ at hm0
        obtain rfl := Option.some.inj hm0
        exact ⟨_, [], ⟨_, _, rfl, rfl, rfl⟩, List.nil_sublist _, rfl, rfl⟩
       ·
        replace hm2 := cond_f hc4 hm2
        refine V.skip ?_
        refine V.region ?_
        refine VO.cons rfl (V1.move rfl rfl rfl lt0 ?_)
        refine VO.cons rfl (V1.int rfl rfl rfl rfl rfl lt0 ?_)
        refine VO.cons rfl (V1.assign rfl rfl rfl lt0 ?_)
        refine VO.nil ?_
        exact ⟨(m1, (IntKind.i64.wrap (k + (1 : Int))), ()), hl2 _ (Option.some.inj hm2).symm, Nat.lt_succ_self _, Keeps.mk (ks := [0]) rfl ⟨rfl, rfl, rfl, rfl, trivial⟩ (⟨_, _, rfl, rfl, rfl⟩) rfl⟩
      ·
       replace hm2 := cond_f hc3 hm2
       refine V.exit ?_
       obtain rfl := hr2 _ (Option.some.inj hm2).symm
       exact ⟨((), ()), rfl, Keeps.mk (ks := [0]) rfl ⟨rfl, rfl, rfl, trivial⟩ (⟨_, _, rfl, rfl, rfl⟩) rfl⟩
     ·
      rintro ⟨_, _⟩ rfl
      try dsimp only at hm1
      refine V.seq ?_
      refine V.region ?_
      refine VO.cons rfl (V1.assign rfl rfl rfl lt0 ?_)
      refine VO.nil ?_
      replace hm1 := bindO hm1; rcases hm1 with ⟨e2, he2, hm1⟩
      refine V.cutT (D := (Unit) × (Unit)) (fun ⟨_, _⟩ => ⟨100, [(0, .vl ρ0 4 (List.map (encFormat σ0) list)), (3, .int .i64 i)], []⟩) (fun ⟨_, _⟩ => (.inl () = e2)) ?_ ?_
      ·
       refine V.block ?_
       refine V.keep 100 [6, 0, 3, 4] [0] (E0 := [(6, .int .i64 (0 : Int)), (0, .vl ρ0 4 (List.map (encFormat σ0) list)), (3, .int .i64 i), (4, .ref b0 4 0 0)]) (H0 := [(b0, ⟨4, [encFormat σ0 (list.getD (Int.toNat i) default)]⟩)]) rfl (⟨_, _, rfl, rfl, _, _, rfl, rfl, _, _, rfl, rfl, _, _, rfl, rfl, rfl⟩) (⟨_, _, rfl, rfl, rfl⟩) rfl ?_
       refine V.loopE (D := Nat × (Int) × (Unit)) (fun ⟨n2, k0, _⟩ => [(6, .int .i64 k0)]) (fun ⟨n2, k0, _⟩ => []) (fun ⟨n2, k0, _⟩ => loopO (M.spec_l7Good_l2 list i) n2 k0 = some e2) (fun ⟨n2, _, _⟩ => n2) (rounds, (0 : Int), ()) rfl he2 ?_
       rintro ⟨n2, k0, _⟩ hP2
       obtain ⟨m2, y7, rfl, hm2, hl2, hr2⟩ := loop_head hP2
       unfold M.spec_l7Good_l2 at hm2; dsimp only at hm2
       show V _ _ _ ⟨100, [(6, .int .i64 k0), (0, .vl ρ0 4 (List.map (encFormat σ0) list)), (3, .int .i64 i), (4, .ref b0 4 0 0)], [(b0, ⟨4, [encFormat σ0 (list.getD (Int.toNat i) default)]⟩)]⟩
       refine V.seq ?_
       refine V.seq ?_
       refine V.region ?_
       refine VO.cons rfl (V1.move rfl rfl rfl lt0 ?_)
       refine VO.cons rfl (V1.fieldRef rfl rfl fo_34_3 rfl lt0 ?_)
       refine VO.cons rfl (V1.loadRef (k := 0) rfl rfl tyk_27 rfl rfl rfl rfl rfl lt0 ?_)
       refine VO.cons rfl (V1.lenMap rfl rfl rfl rfl rfl rfl isl_27 lt0 ?_)
       refine VO.cons rfl (V1.int rfl rfl rfl rfl rfl lt0 ?_)
       refine VO.nil ?_
       refine V.keep 100 [0, 3, 4, 6, 86] [0] (E0 := [(0, .vl ρ0 4 (List.map (encFormat σ0) list)), (3, .int .i64 i), (4, .ref b0 4 0 0), (6, .int .i64 k0), (86, .bool (decide (k0 < (((list.getD (Int.toNat i) default).Reads).length : Int))))]) (H0 := [(b0, ⟨4, [encFormat σ0 (list.getD (Int.toNat i) default)]⟩)]) rfl (⟨_, _, rfl, rfl, _, _, rfl, rfl, _, _, rfl, rfl, _, _, rfl, rfl, _, _, rfl, rfl, rfl⟩) (⟨_, _, rfl, rfl, rfl⟩) rfl ?_
       refine V.cond rfl (fun hc5 => ?_) (fun hc5 => ?_)
       ·
        replace hm2 := cond_t hc5 hm2
        refine V.skip ?_
        refine V.seq ?_
        refine V.block ?_
        refine V.seq ?_
        replace hm2 := asrt_some hm2; rcases hm2 with ⟨hh8, hm2⟩
        replace hm2 := bindO hm2; rcases hm2 with ⟨y8, hh9, hm2⟩
        refine V.region ?_
        refine VO.cons rfl (V1.move rfl rfl rfl lt0 ?_)
        refine VO.cons rfl (V1.fieldRef rfl rfl fo_34_3 rfl lt0 ?_)
        refine VO.cons rfl (V1.loadRef (k := 0) rfl rfl tyk_27 rfl rfl rfl rfl rfl lt0 ?_)
        refine VO.cons rfl (V1.move rfl rfl rfl lt0 ?_)
        refine VO.cons rfl (V1.indexI rfl rfl esz_27 rfl rfl hh8 lt0 ?_)
        refine VO.cons rfl (V1.loadPin rfl rfl tyk_3 rfl rfl lt0 ?_)
        refine VO.cons rfl (V1.call rfl rfl rfl cok_62 rfl (ok_spec_l7Find hh9) rfl lt0 ?_)
        rintro _ _ ⟨rfl, rfl⟩
        refine VO.cons rfl (V1.int rfl rfl rfl rfl rfl lt0 ?_)
        refine VO.nil ?_
        refine V.keep 100 [0, 3, 4, 6, 96] [0] (E0 := [(0, .vl ρ0 4 (List.map (encFormat σ0) list)), (3, .int .i64 i), (4, .ref b0 4 0 0), (6, .int .i64 k0), (96, .bool (decide (y8 < (0 : Int))))]) (H0 := [(b0, ⟨4, [encFormat σ0 (list.getD (Int.toNat i) default)]⟩)]) rfl (⟨_, _, rfl, rfl, _, _, rfl, rfl, _, _, rfl, rfl, _, _, rfl, rfl, _, _, rfl, rfl, rfl⟩) (⟨_, _, rfl, rfl, rfl⟩) rfl ?_
        refine V.cond rfl (fun hc6 => ?_) (fun hc6 => ?_)
        ·
         replace hm2 := cond_t hc6 hm2
         refine V.seq ?_
         refine V.region ?_
         refine VO.cons rfl (V1.assign rfl rfl rfl lt0 ?_)
         refine VO.nil ?_
         refine V.ret ?_
         obtain rfl := hr2 _ (Option.some.inj hm2).symm
         change some _ = some _ at hm1
         obtain rfl := hr1 _ (Option.some.inj hm1).symm
         change some _ = some _ at hm0
         obtain rfl := Option.some.inj hm0
         exact ⟨_, [], ⟨_, _, rfl, rfl, rfl⟩, List.nil_sublist _, rfl, rfl⟩
        ·
         replace hm2 := cond_f hc6 hm2
         refine V.skip ?_
         refine V.region ?_
         refine VO.cons rfl (V1.move rfl rfl rfl lt0 ?_)
         refine VO.cons rfl (V1.int rfl rfl rfl rfl rfl lt0 ?_)
         refine VO.cons rfl (V1.assign rfl rfl rfl lt0 ?_)
         refine VO.nil ?_
         exact ⟨(m2, (IntKind.i64.wrap (k0 + (1 : Int))), ()), hl2 _ (Option.some.inj hm2).symm, Nat.lt_succ_self _, Keeps.mk (ks := [0]) rfl ⟨rfl, rfl, rfl, rfl, trivial⟩ (⟨_, _, rfl, rfl, rfl⟩) rfl⟩
       ·
        replace hm2 := cond_f hc5 hm2
        refine V.exit ?_
        obtain rfl := hr2 _ (Option.some.inj hm2).symm
        exact ⟨((), ()), rfl, Keeps.mk (ks := []) rfl ⟨rfl, rfl, trivial⟩ (rfl) rfl⟩
      ·
       rintro ⟨_, _⟩ rfl
       try dsimp only at hm1
       refine V.region ?_
       refine VO.cons rfl (V1.move rfl rfl rfl lt0 ?_)
       refine VO.cons rfl (V1.int rfl rfl rfl rfl rfl lt0 ?_)
       refine VO.cons rfl (V1.assign rfl rfl rfl lt0 ?_)
       refine VO.nil ?_
       exact ⟨(m0, (IntKind.i64.wrap (i + (1 : Int))), ()), hl1 _ (Option.some.inj hm1).symm, Nat.lt_succ_self _, Keeps.mk (ks := []) rfl ⟨rfl, rfl, trivial⟩ (rfl) rfl⟩
  ·
   replace hm1 := cond_f hc0 hm1
   refine V.exit ?_
   obtain rfl := hr1 _ (Option.some.inj hm1).symm
   exact ⟨((), ()), rfl, Keeps.mk (ks := []) rfl ⟨rfl, trivial⟩ (rfl) rfl⟩
 ·
  rintro ⟨_, _⟩ rfl
  try dsimp only at hm0
  refine V.seq ?_
  refine V.region ?_
  refine VO.cons rfl (V1.move rfl rfl rfl lt0 ?_)
  refine VO.cons rfl (V1.lenMap rfl rfl rfl rfl rfl rfl isl_24 lt0 ?_)
  refine VO.cons rfl (V1.int rfl rfl rfl rfl rfl lt0 ?_)
  refine VO.cons rfl (V1.assign rfl rfl rfl lt0 ?_)
  refine VO.nil ?_
  refine V.ret ?_
  obtain rfl := Option.some.inj hm0
  exact ⟨_, [], ⟨_, _, rfl, rfl, rfl⟩, List.nil_sublist _, rfl, rfl⟩

theorem ok_spec_l1Put {rn : Nat} {l : List Int} {n : Int} {r : List Int} (h : M.spec_l1Put l n = some r) : Does Tryd.prog 118 [.vl rn 1 (List.map encInt l), .int .i64 n] [] rn (fun x H => x = .vl rn 1 (List.map encInt r) ∧ H = []) := by
 have hm0 := h; clear h; unfold M.spec_l1Put at hm0
 try dsimp only at hm0
 refine Does.intro (N := 45) Tryd.func118 rfl rfl rfl rfl ?_
 intro w0 S0 L0
 refine V.seq ?_
 refine V.region ?_
 refine VO.cons rfl (V1.assign rfl rfl rfl lt0 ?_)
 refine VO.nil ?_
 refine V.seq ?_
 refine V.region ?_
 refine VO.cons rfl (V1.assign rfl rfl rfl lt0 ?_)
 refine VO.nil ?_
 refine V.seq ?_
 replace hm0 := bindO hm0; rcases hm0 with ⟨e0, he1, hm0⟩
 refine V.cutT (D := (Int) × (Unit)) (fun ⟨k, _⟩ => ⟨45, [(5, .int .i64 k), (0, .vl rn 1 (List.map encInt l)), (1, .int .i64 n)], []⟩) (fun ⟨k, _⟩ => (k = e0)) ?_ ?_
 ·
  refine V.block ?_
  refine V.keep 45 [5, 0, 1] [] (E0 := [(5, .int .i64 (0 : Int)), (0, .vl rn 1 (List.map encInt l)), (1, .int .i64 n)]) (H0 := []) rfl (⟨_, _, rfl, rfl, _, _, rfl, rfl, _, _, rfl, rfl, rfl⟩) (rfl) rfl ?_
  refine V.loopE (D := Nat × (Int) × (Unit)) (fun ⟨n0, k0, _⟩ => [(5, .int .i64 k0)]) (fun ⟨n0, k0, _⟩ => []) (fun ⟨n0, k0, _⟩ => loopO (M.spec_l1Put_l0 l n) n0 k0 = some e0) (fun ⟨n0, _, _⟩ => n0) (rounds, (0 : Int), ()) rfl he1 ?_
  rintro ⟨n0, k0, _⟩ hP0
  obtain ⟨m0, y0, rfl, hm1, hl1, hr1⟩ := loop_head hP0
  unfold M.spec_l1Put_l0 at hm1; dsimp only at hm1
  show V _ _ _ ⟨45, [(5, .int .i64 k0), (0, .vl rn 1 (List.map encInt l)), (1, .int .i64 n)], []⟩
  refine V.seq ?_
  refine V.seq ?_
  replace hm1 := asrt_some hm1; rcases hm1 with ⟨hh0, hm1⟩
  refine V.region ?_
  refine VO.cons rfl (V1.move rfl rfl rfl lt0 ?_)
  refine VO.cons rfl (V1.move rfl rfl rfl lt0 ?_)
  refine VO.cons rfl (V1.lenMap rfl rfl rfl rfl rfl rfl isl_27 lt0 ?_)
  refine VO.cons rfl (V1.int rfl rfl rfl rfl rfl lt0 ?_)
  refine VO.cons rfl (V1.move rfl rfl rfl lt0 ?_)
  apply VO.and (n := 6) rfl rfl rfl rfl rfl rfl lt0 (.none rfl)
  ·
   intro hg0
   refine VO.step (.some rfl rfl rfl) (V1.move rfl rfl rfl lt0 ?_)
   refine VO.step (.some rfl rfl rfl) (V1.move rfl rfl rfl lt0 ?_)
   refine VO.step (.some rfl rfl rfl) (V1.indexI rfl rfl esz_27 rfl rfl (hh0 hg0) lt0 ?_)
   refine VO.step (.some rfl rfl rfl) (V1.loadPin rfl rfl tyk_3 rfl rfl lt0 ?_)
   refine VO.step (.some rfl rfl rfl) (V1.move rfl rfl rfl lt0 ?_)
   refine VO.step (.some rfl rfl rfl) (V1.int rfl rfl rfl rfl rfl lt0 ?_)
   exact VO.nil ⟨rfl, rfl, rfl, rfl, .inr ⟨rfl, .inr ⟨rfl, .inr ⟨rfl, .inr ⟨rfl, .inr ⟨rfl, .inr ⟨rfl, .inr ⟨rfl, .inl rfl⟩⟩⟩⟩⟩⟩⟩⟩
  refine VO.nil ?_
  refine V.keep 45 [0, 1, 5, 17] [] (E0 := [(0, .vl rn 1 (List.map encInt l)), (1, .int .i64 n), (5, .int .i64 k0), (17, .bool ((decide (k0 < (l.length : Int))) && (decide ((l.getD (Int.toNat k0) default) < n))))]) (H0 := []) rfl (⟨_, _, rfl, rfl, _, _, rfl, rfl, _, _, rfl, rfl, _, _, rfl, rfl, rfl⟩) (rfl) rfl ?_
  refine V.cond rfl (fun hc0 => ?_) (fun hc0 => ?_)
  ·
   replace hm1 := cond_t hc0 hm1
   refine V.skip ?_
   refine V.block ?_
   refine V.region ?_
   refine VO.cons rfl (V1.move rfl rfl rfl lt0 ?_)
   refine VO.cons rfl (V1.int rfl rfl rfl rfl rfl lt0 ?_)
   refine VO.cons rfl (V1.assign rfl rfl rfl lt0 ?_)
   refine VO.nil ?_
   exact ⟨(m0, (IntKind.i64.wrap (k0 + (1 : Int))), ()), hl1 _ (Option.some.inj hm1).symm, Nat.lt_succ_self _, Keeps.mk (ks := []) rfl ⟨rfl, rfl, rfl, trivial⟩ (rfl) rfl⟩
  ·
   replace hm1 := cond_f hc0 hm1
   refine V.exit ?_
   obtain rfl := hr1 _ (Option.some.inj hm1).symm
   exact ⟨(k0, ()), rfl, Keeps.mk (ks := []) rfl ⟨rfl, rfl, rfl, trivial⟩ (rfl) rfl⟩
 ·
  rintro ⟨k, _⟩ rfl
  try dsimp only at hm0
  refine V.seq ?_
  refine V.seq ?_
  replace hm0 := asrt_some hm0; rcases hm0 with ⟨hh1, hm0⟩
  refine V.region ?_
  refine VO.cons rfl (V1.move rfl rfl rfl lt0 ?_)
  refine VO.cons rfl (V1.move rfl rfl rfl lt0 ?_)
  refine VO.cons rfl (V1.lenMap rfl rfl rfl rfl rfl rfl isl_27 lt0 ?_)
  refine VO.cons rfl (V1.int rfl rfl rfl rfl rfl lt0 ?_)
  refine VO.cons rfl (V1.move rfl rfl rfl lt0 ?_)
  apply VO.and (n := 6) rfl rfl rfl rfl rfl rfl lt0 (.none rfl)
  ·
   intro hg1
   refine VO.step (.some rfl rfl rfl) (V1.move rfl rfl rfl lt0 ?_)
   refine VO.step (.some rfl rfl rfl) (V1.move rfl rfl rfl lt0 ?_)
   refine VO.step (.some rfl rfl rfl) (V1.indexI rfl rfl esz_27 rfl rfl (hh1 hg1) lt0 ?_)
   refine VO.step (.some rfl rfl rfl) (V1.loadPin rfl rfl tyk_3 rfl rfl lt0 ?_)
   refine VO.step (.some rfl rfl rfl) (V1.move rfl rfl rfl lt0 ?_)
   refine VO.step (.some rfl rfl rfl) (V1.int rfl rfl rfl rfl rfl lt0 ?_)
   exact VO.nil ⟨rfl, rfl, rfl, rfl, .inr ⟨rfl, .inr ⟨rfl, .inr ⟨rfl, .inr ⟨rfl, .inr ⟨rfl, .inr ⟨rfl, .inr ⟨rfl, .inl rfl⟩⟩⟩⟩⟩⟩⟩⟩
  refine VO.nil ?_
  refine V.keep 45 [0, 1, 5, 31] [] (E0 := [(0, .vl rn 1 (List.map encInt l)), (1, .int .i64 n), (5, .int .i64 k), (31, .bool ((decide (k < (l.length : Int))) && ((l.getD (Int.toNat k) default) == n)))]) (H0 := []) rfl (⟨_, _, rfl, rfl, _, _, rfl, rfl, _, _, rfl, rfl, _, _, rfl, rfl, rfl⟩) (rfl) rfl ?_
  refine V.cond rfl (fun hc1 => ?_) (fun hc1 => ?_)
  ·
   replace hm0 := cond_t hc1 hm0
   refine V.seq ?_
   refine V.region ?_
   refine VO.cons rfl (V1.move rfl rfl rfl lt0 ?_)
   refine VO.cons rfl (V1.assign rfl rfl rfl lt0 ?_)
   refine VO.nil ?_
   refine V.ret ?_
   obtain rfl := Option.some.inj hm0
   exact ⟨_, [], ⟨_, _, rfl, rfl, rfl⟩, List.nil_sublist _, rfl, rfl⟩
  ·
   replace hm0 := cond_f hc1 hm0
   refine V.skip ?_
   refine V.seq ?_
   replace hm0 := asrt_some hm0; rcases hm0 with ⟨hh2, hm0⟩
   replace hm0 := asrt_some hm0; rcases hm0 with ⟨hh3, hm0⟩
   replace hm0 := asrt_some hm0; rcases hm0 with ⟨hh4, hm0⟩
   replace hm0 := asrt_some hm0; rcases hm0 with ⟨hh5, hm0⟩
   replace hm0 := asrt_some hm0; rcases hm0 with ⟨hh6, hm0⟩
   refine V.regionS [] 45 11 [⟨[], true⟩, ⟨[(0, none)], false⟩, ⟨[(5, none)], false⟩, ⟨[(34, some 1), (35, some 2)], false⟩, ⟨[(33, some 0), (36, some 3)], true⟩, ⟨[(1, none)], false⟩, ⟨[(38, some 5)], false⟩, ⟨[(37, some 4), (39, some 6)], true⟩, ⟨[(0, none)], false⟩, ⟨[(5, none)], false⟩, ⟨[(41, some 8), (42, some 9)], false⟩] [(40, some 7), (43, some 10)] 3 (⟨_, rfl, ⟨_, rfl, ⟨_, rfl, ⟨_, rfl, ⟨_, rfl, ⟨_, rfl, ⟨_, rfl, ⟨_, rfl, ⟨_, rfl, ⟨_, rfl, ⟨_, rfl, ⟨rfl, rfl⟩⟩⟩⟩⟩⟩⟩⟩⟩⟩⟩⟩) mixed_orders rfl (by decide +kernel) ?_
   refine WalkP.step (p := ?pv17) 1 rfl rfl rfl rfl rfl (⟨_, _, rfl, rfl, rfl⟩) ?hv17 ?rest17
   case hv17 =>
    intro E1 H1 hI1
    refine (V1.move rfl rfl rfl lt0 ?_)
    exact rfl
   refine WalkP.step (p := ?pv18) 2 rfl rfl rfl rfl rfl (⟨_, _, rfl, rfl, rfl⟩) ?hv18 ?rest18
   case hv18 =>
    intro E1 H1 hI1
    refine (V1.move rfl rfl rfl lt0 ?_)
    exact rfl
   refine WalkP.step (p := ?pv19) 3 rfl rfl rfl rfl rfl (⟨_, _, rfl, rfl, _, _, rfl, rfl, rfl⟩) ?hv19 ?rest19
   case hv19 =>
    intro E1 H1 hI1
    refine (V1.sliceMap (a := (0 : Int)) (b := k) rfl rfl esz_27 rfl (Bnd.none _ _) (Bnd.some rfl (Int.le_trans hh2.1 hh2.2.1) _) hh2 lt0 ?_)
    exact rfl
   refine WalkP.step (p := ?pv20) 5 rfl rfl rfl rfl rfl (⟨_, _, rfl, rfl, rfl⟩) ?hv20 ?rest20
   case hv20 =>
    intro E1 H1 hI1
    refine (V1.move rfl rfl rfl lt0 ?_)
    exact rfl
   refine WalkP.step (p := ?pv21) 6 rfl rfl rfl rfl rfl (⟨_, _, rfl, rfl, rfl⟩) ?hv21 ?rest21
   case hv21 =>
    intro E1 H1 hI1
    refine (V1.buildFrz (f := encInt) ([n] : List Int) (fun _ => rfl) iNil rfl rfl esz_27 zk_3 rfl rfl rfl rfl rfl rfl rfl lt0 ?_)
    exact rfl
   refine WalkP.step (p := ?pv22) 8 rfl rfl rfl rfl rfl (⟨_, _, rfl, rfl, rfl⟩) ?hv22 ?rest22
   case hv22 =>
    intro E1 H1 hI1
    refine (V1.move rfl rfl rfl lt0 ?_)
    exact rfl
   refine WalkP.step (p := ?pv23) 9 rfl rfl rfl rfl rfl (⟨_, _, rfl, rfl, rfl⟩) ?hv23 ?rest23
   case hv23 =>
    intro E1 H1 hI1
    refine (V1.move rfl rfl rfl lt0 ?_)
    exact rfl
   refine WalkP.step (p := ?pv24) 10 rfl rfl rfl rfl rfl (⟨_, _, rfl, rfl, _, _, rfl, rfl, rfl⟩) ?hv24 ?rest24
   case hv24 =>
    intro E1 H1 hI1
    refine (V1.sliceMap (a := k) (b := (l.length : Int)) rfl rfl esz_27 rfl (Bnd.some rfl hh5.1 _) (Bnd.none _ _) hh5 lt0 ?_)
    exact rfl
   refine WalkP.nil ?_
   refine NodeS.branch [0] inNil rfl rfl rfl ⟨?_, trivial⟩
   ·
    refine ⟨_, _, _, _, rfl, rfl, rfl, (rfl), fun E1 => ?_⟩
    refine (V1.buildSliceT (f := encInt) ([] : List Int) rfl rfl esz_27 zk_3 rfl rfl rfl rfl rfl rfl rfl lt0 ?_)
    intro b6
    refine ⟨_, _, rfl, ?_⟩
    refine WalkP.nil ?_
    refine NodeS.branch [4] inNil rfl rfl rfl ⟨?_, trivial⟩
    ·
     refine ⟨_, _, _, _, rfl, rfl, rfl, (⟨_, _, rfl, rfl, _, _, rfl, rfl, rfl⟩), fun E1 => ?_⟩
     refine (V1.appendMap (k := 0) (f := encInt) (l := ([] : List Int)) (m := (slc l (0 : Int) k)) rfl rfl rfl rfl rfl esz_27 eby_27 zk_3 rfl rfl rfl (.vl isl_27) hh3 lt0 ?_)
     intro b7
     refine ⟨_, _, rfl, ?_⟩
     refine WalkP.nil ?_
     refine NodeS.branch [7] inNil rfl rfl rfl ⟨?_, trivial⟩
     ·
      refine ⟨_, _, _, _, rfl, rfl, rfl, (⟨_, _, rfl, rfl, _, _, rfl, rfl, rfl⟩), fun E1 => ?_⟩
      refine (V1.appendMap (k := 0) (f := encInt) (l := (([] : List Int) ++ (slc l (0 : Int) k))) (m := ([n] : List Int)) rfl rfl rfl rfl rfl esz_27 eby_27 zk_3 rfl rfl rfl (.vl isl_27) hh4 lt0 ?_)
      intro b8
      refine ⟨_, _, rfl, ?_⟩
      refine WalkP.nil ?_
      refine NodeS.fin inNil rfl rfl rfl (⟨_, _, rfl, rfl, _, _, rfl, rfl, rfl⟩) ?_
      refine VO.cons rfl (V1.appendMap (k := 0) (f := encInt) (l := ((([] : List Int) ++ (slc l (0 : Int) k)) ++ ([n] : List Int))) (m := (slc l k (l.length : Int))) rfl rfl rfl rfl rfl esz_27 eby_27 zk_3 rfl rfl rfl (.vl isl_27) hh6 lt0 ?_)
      intro b9
      refine VO.cons rfl (V1.assign rfl rfl rfl lt0 ?_)
      refine VO.nil ?_
      refine V.weakenK (Keeps.freezeG 0 rn [(44, .vl rn 1 (List.map encInt (((([] : List Int) ++ (slc l (0 : Int) k)) ++ ([n] : List Int)) ++ (slc l k (l.length : Int))))), (4, .vl rn 1 (List.map encInt (((([] : List Int) ++ (slc l (0 : Int) k)) ++ ([n] : List Int)) ++ (slc l k (l.length : Int)))))] ([]) (f := encInt) (l := (((([] : List Int) ++ (slc l (0 : Int) k)) ++ ([n] : List Int)) ++ (slc l k (l.length : Int)))) rfl (fun _ => rfl) ⟨⟨_, rfl, .here⟩, ⟨_, rfl, .here⟩, trivial⟩ rfl rfl iNil) ?_
      refine V.ret ?_
      obtain rfl := Option.some.inj hm0
      exact ⟨_, [], ⟨_, _, rfl, rfl, rfl⟩, List.nil_sublist _, rfl, rfl⟩
end Go.Proofs.YteocnbeefedbkaaDoor
