/- the functions do what their models say -/
import Derived.Test.YtjfpdbhjoofllaaDoorQf1
set_option linter.unusedSimpArgs false
set_option linter.unusedVariables false
set_option maxRecDepth 100000
set_option maxHeartbeats 4000000
namespace Go.Proofs.YtjfpdbhjoofllaaDoor
open Go.VS

theorem ok_slices_Index_int_int {ρ0 rn : Nat} {s : List Int} {v : Int} {r : Int} (h : M.slices_Index_int_int s v = some r) : Does Tryd.prog 85 [.vl ρ0 1 (List.map encInt s), .int .i64 v] [] rn (fun x H => x = .int .i64 r ∧ H = []) := by
 have hm0 := h; clear h; unfold M.slices_Index_int_int at hm0
 try dsimp only at hm0
 refine Does.intro (N := 19) Tryd.func85 rfl rfl rfl rfl ?_
 intro w0 S0
 refine V.seq ?_
 refine V.region ?_
 refine VO.cons rfl (V1.assign rfl rfl rfl lt0 ?_)
 refine VO.nil ?_
 refine V.seq ?_
 refine V.seq ?_
 refine V.region ?_
 refine VO.cons rfl (V1.move rfl rfl rfl lt0 ?_)
 refine VO.cons rfl (V1.lenMap rfl rfl rfl rfl rfl rfl isl_31 lt0 ?_)
 refine VO.cons rfl (V1.move rfl rfl rfl lt0 ?_)
 refine VO.nil ?_
 replace hm0 := bindO hm0; rcases hm0 with ⟨e0, he1, hm0⟩
 refine V.cutT (D := (Unit) × (Unit)) (fun ⟨_, _⟩ => ⟨19, [], []⟩) (fun ⟨_, _⟩ => (.inl () = e0)) ?_ ?_
 ·
  refine V.block ?_
  refine V.keep 19 [8, 0, 1, 7] [] (E0 := [(8, .int .i64 (0 : Int)), (0, .vl ρ0 1 (List.map encInt s)), (1, .int .i64 v), (7, .int .i64 (s.length : Int))]) (H0 := []) rfl (⟨_, _, rfl, rfl, ⟨_, _, rfl, rfl, ⟨_, _, rfl, rfl, ⟨_, _, rfl, rfl, rfl⟩⟩⟩⟩) (rfl) rfl ?_
  refine V.loopE (D := Nat × (Int) × (Unit)) (fun ⟨n0, v0, _⟩ => [(8, .int .i64 v0)]) (fun ⟨n0, v0, _⟩ => []) (fun ⟨n0, v0, _⟩ => loopO (M.slices_Index_int_int_l0 s v) n0 v0 = some e0) (fun ⟨n0, _, _⟩ => n0) (rounds, (0 : Int), ()) rfl he1 ?_
  rintro ⟨n0, v0, _⟩ hP0
  obtain ⟨m0, y0, rfl, hm1, hl1, hr1⟩ := loop_head hP0
  unfold M.slices_Index_int_int_l0 at hm1; dsimp only at hm1
  show V _ _ _ ⟨19, [(8, .int .i64 v0), (0, .vl ρ0 1 (List.map encInt s)), (1, .int .i64 v), (7, .int .i64 (s.length : Int))], []⟩
  refine V.seq ?_
  refine V.region ?_
  refine VO.cons rfl (V1.int rfl rfl rfl rfl rfl lt0 ?_)
  refine VO.nil ?_
  refine V.seq ?_
  refine V.cond rfl (fun hc0 => ?_) (fun hc0 => ?_)
  ·
   replace hm1 := cond_t hc0 hm1
   refine V.skip ?_
   refine V.seq ?_
   refine V.block ?_
   refine V.seq ?_
   refine V.region ?_
   refine VO.cons rfl (V1.move rfl rfl rfl lt0 ?_)
   refine VO.cons rfl (V1.assign rfl rfl rfl lt0 ?_)
   refine VO.nil ?_
   refine V.seq ?_
   replace hm1 := asrt_some hm1; rcases hm1 with ⟨hh0, hm1⟩
   refine V.region ?_
   refine VO.cons rfl (V1.move rfl rfl rfl lt0 ?_)
   refine VO.cons rfl (V1.move rfl rfl rfl lt0 ?_)
   refine VO.cons rfl (V1.move rfl rfl rfl lt0 ?_)
   refine VO.cons rfl (V1.indexI rfl rfl esz_31 rfl rfl hh0 lt0 ?_)
   refine VO.cons rfl (V1.loadPin rfl rfl tyk_3 rfl rfl lt0 ?_)
   refine VO.cons rfl (V1.int rfl rfl rfl rfl rfl lt0 ?_)
   refine VO.nil ?_
   refine V.keep 19 [0, 1, 5, 7, 8, 16] [] (E0 := [(0, .vl ρ0 1 (List.map encInt s)), (1, .int .i64 v), (5, .int .i64 v0), (7, .int .i64 (s.length : Int)), (8, .int .i64 v0), (16, .bool (v == (s.getD (Int.toNat v0) default)))]) (H0 := []) rfl (⟨_, _, rfl, rfl, ⟨_, _, rfl, rfl, ⟨_, _, rfl, rfl, ⟨_, _, rfl, rfl, ⟨_, _, rfl, rfl, ⟨_, _, rfl, rfl, rfl⟩⟩⟩⟩⟩⟩) (rfl) rfl ?_
   refine V.cond rfl (fun hc1 => ?_) (fun hc1 => ?_)
   ·
    replace hm1 := cond_t hc1 hm1
    refine V.seq ?_
    refine V.region ?_
    refine VO.cons rfl (V1.move rfl rfl rfl lt0 ?_)
    refine VO.cons rfl (V1.assign rfl rfl rfl lt0 ?_)
    refine VO.nil ?_
    refine V.ret ?_
    obtain rfl := hr1 _ (Option.some.inj hm1).symm
    change some _ = some _ at hm0
    obtain rfl := Option.some.inj hm0
    exact ⟨_, [], ⟨_, _, rfl, rfl, rfl⟩, List.nil_sublist _, rfl, rfl⟩
   ·
    replace hm1 := cond_f hc1 hm1
    refine V.skip ?_
    refine V.region ?_
    refine VO.cons rfl (V1.int rfl rfl rfl rfl rfl lt0 ?_)
    refine VO.cons rfl (V1.move rfl rfl rfl lt0 ?_)
    refine VO.nil ?_
    exact ⟨(m0, (IntKind.i64.wrap (v0 + (1 : Int))), ()), hl1 _ (Option.some.inj hm1).symm, Nat.lt_succ_self _, Keeps.mk (ks := []) rfl ⟨rfl, rfl, rfl, rfl, trivial⟩ (rfl) rfl⟩
  ·
   replace hm1 := cond_f hc0 hm1
   refine V.exit ?_
   obtain rfl := hr1 _ (Option.some.inj hm1).symm
   exact ⟨((), ()), rfl, Keeps.mk (ks := []) rfl trivial (rfl) rfl⟩
 ·
  rintro ⟨_, _⟩ rfl
  try dsimp only at hm0
  refine V.seq ?_
  refine V.region ?_
  refine VO.cons rfl (V1.assign rfl rfl rfl lt0 ?_)
  refine VO.nil ?_
  refine V.ret ?_
  obtain rfl := Option.some.inj hm0
  exact ⟨_, [], ⟨_, _, rfl, rfl, rfl⟩, List.nil_sublist _, rfl, rfl⟩

theorem ok_slices_Contains_int_int {ρ0 rn : Nat} {s : List Int} {v : Int} {r : Bool} (h : M.slices_Contains_int_int s v = some r) : Does Tryd.prog 45 [.vl ρ0 1 (List.map encInt s), .int .i64 v] [] rn (fun x H => x = .bool r ∧ H = []) := by
 have hm0 := h; clear h; unfold M.slices_Contains_int_int at hm0
 try dsimp only at hm0
 refine Does.intro (N := 9) Tryd.func45 rfl rfl rfl rfl ?_
 intro w0 S0
 refine V.seq ?_
 refine V.region ?_
 refine VO.cons rfl (V1.assign rfl rfl rfl lt0 ?_)
 refine VO.nil ?_
 refine V.seq ?_
 replace hm0 := bindO hm0; rcases hm0 with ⟨y0, hh0, hm0⟩
 refine V.region ?_
 refine VO.cons rfl (V1.move rfl rfl rfl lt0 ?_)
 refine VO.cons rfl (V1.move rfl rfl rfl lt0 ?_)
 refine VO.cons rfl (V1.call rfl rfl rfl cok_85 rfl (ok_slices_Index_int_int hh0) rfl lt0 ?_)
 rintro _ _ ⟨rfl, rfl⟩
 refine VO.cons rfl (V1.int rfl rfl rfl rfl rfl lt0 ?_)
 refine VO.cons rfl (V1.assign rfl rfl rfl lt0 ?_)
 refine VO.nil ?_
 refine V.ret ?_
 obtain rfl := Option.some.inj hm0
 exact ⟨_, [], ⟨_, _, rfl, rfl, rfl⟩, List.nil_sublist _, rfl, rfl⟩

theorem ok_impl_lastReadable {ρ0 σ0 rn : Nat} {list : List Format} {id_ : Int} {r : Int} (h : M.impl_lastReadable list id_ = some r) : Does Tryd.prog 59 [.vl ρ0 4 (List.map (encFormat σ0) list), .int .i64 id_] [] rn (fun x H => x = .int .i64 r ∧ H = []) := by
 have hm0 := h; clear h; unfold M.impl_lastReadable at hm0
 try dsimp only at hm0
 refine Does.intro (N := 31) Tryd.func59 rfl rfl rfl rfl ?_
 intro w0 S0
 refine V.seq ?_
 refine V.region ?_
 refine VO.cons rfl (V1.assign rfl rfl rfl lt0 ?_)
 refine VO.nil ?_
 refine V.seq ?_
 replace hm0 := bindO hm0; rcases hm0 with ⟨y0, hh0, hm0⟩
 replace hm0 := asrt_some hm0; rcases hm0 with ⟨hh1, hm0⟩
 refine V.region ?_
 refine VO.cons rfl (V1.move rfl rfl rfl lt0 ?_)
 refine VO.cons rfl (V1.move rfl rfl rfl lt0 ?_)
 refine VO.cons rfl (V1.move rfl rfl rfl lt0 ?_)
 refine VO.cons rfl (V1.call rfl rfl rfl cok_58 rfl (ok_impl_formatAt hh0) rfl lt0 ?_)
 rintro _ _ ⟨rfl, rfl⟩
 refine VO.cons rfl (V1.indexI rfl rfl esz_44 rfl rfl hh1 lt0 ?_)
 refine VO.cons rfl (V1.fieldPin rfl rfl fo_87_2 rfl lt0 ?_)
 refine VO.cons rfl (V1.loadPin rfl rfl tyk_3 rfl rfl lt0 ?_)
 refine VO.cons rfl (V1.assign rfl rfl rfl lt0 ?_)
 refine VO.nil ?_
 refine V.keep 31 [0, 1, 5] [] (E0 := [(0, .vl ρ0 4 (List.map (encFormat σ0) list)), (1, .int .i64 id_), (5, .int .i64 ((list.getD (Int.toNat y0) default).Until))]) (H0 := []) rfl (⟨_, _, rfl, rfl, ⟨_, _, rfl, rfl, ⟨_, _, rfl, rfl, rfl⟩⟩⟩) (rfl) rfl ?_
 refine V.seq ?_
 refine V.seq ?_
 refine V.region ?_
 refine VO.cons rfl (V1.move rfl rfl rfl lt0 ?_)
 refine VO.cons rfl (V1.lenMap rfl rfl rfl rfl rfl rfl isl_44 lt0 ?_)
 refine VO.cons rfl (V1.move rfl rfl rfl lt0 ?_)
 refine VO.nil ?_
 replace hm0 := bindO hm0; rcases hm0 with ⟨e0, he1, hm0⟩
 refine V.cutT (D := (Int) × (Unit)) (fun ⟨last, _⟩ => ⟨31, [(5, .int .i64 last)], []⟩) (fun ⟨last, _⟩ => (last = e0)) ?_ ?_
 ·
  refine V.block ?_
  refine V.keep 31 [5, 17, 1, 15, 16] [] (E0 := [(5, .int .i64 ((list.getD (Int.toNat y0) default).Until)), (17, .int .i64 (0 : Int)), (1, .int .i64 id_), (15, .vl ρ0 4 (List.map (encFormat σ0) list)), (16, .int .i64 (list.length : Int))]) (H0 := []) rfl (⟨_, _, rfl, rfl, ⟨_, _, rfl, rfl, ⟨_, _, rfl, rfl, ⟨_, _, rfl, rfl, ⟨_, _, rfl, rfl, rfl⟩⟩⟩⟩⟩) (rfl) rfl ?_
  refine V.loopE (D := Nat × (Int × Int) × (Unit)) (fun ⟨n0, ⟨last0, v⟩, _⟩ => [(5, .int .i64 last0), (17, .int .i64 v)]) (fun ⟨n0, ⟨last0, v⟩, _⟩ => []) (fun ⟨n0, ⟨last0, v⟩, _⟩ => loopO (M.impl_lastReadable_l0 list id_) n0 (last0, v) = some e0) (fun ⟨n0, _, _⟩ => n0) (rounds, ((list.getD (Int.toNat y0) default).Until, (0 : Int)), ()) rfl he1 ?_
  rintro ⟨n0, ⟨last0, v⟩, _⟩ hP0
  obtain ⟨m0, y1, rfl, hm1, hl1, hr1⟩ := loop_head hP0
  unfold M.impl_lastReadable_l0 at hm1; dsimp only at hm1
  show V _ _ _ ⟨31, [(5, .int .i64 last0), (17, .int .i64 v), (1, .int .i64 id_), (15, .vl ρ0 4 (List.map (encFormat σ0) list)), (16, .int .i64 (list.length : Int))], []⟩
  refine V.seq ?_
  refine V.region ?_
  refine VO.cons rfl (V1.int rfl rfl rfl rfl rfl lt0 ?_)
  refine VO.nil ?_
  refine V.seq ?_
  refine V.cond rfl (fun hc0 => ?_) (fun hc0 => ?_)
  ·
   replace hm1 := cond_t hc0 hm1
   refine V.skip ?_
   refine V.seq ?_
   replace hm1 := bindO hm1; rcases hm1 with ⟨j0, hm2, hm1⟩
   refine V.cutT (D := (Int) × (Unit)) (fun ⟨last1, _⟩ => ⟨31, [(5, .int .i64 last1), (1, .int .i64 id_), (15, .vl ρ0 4 (List.map (encFormat σ0) list)), (16, .int .i64 (list.length : Int)), (17, .int .i64 v)], []⟩) (fun ⟨last1, _⟩ => (last1 = j0)) ?_ ?_
   ·
    refine V.block ?_
    refine V.seq ?_
    replace hm2 := asrt_some hm2; rcases hm2 with ⟨hh2, hm2⟩
    refine V.region ?_
    refine VO.cons rfl (V1.indexI rfl rfl esz_44 rfl rfl hh2 lt0 ?_)
    refine VO.cons rfl (V1.loadPinAll rfl rfl tyk_87 rfl rfl lt0 ?_)
    refine VO.cons rfl (V1.alloc rfl rfl zk_87 lt0 ?_)
    intro b0
    refine VO.cons rfl (V1.storeRefAll (k := 0) rfl rfl tyk_87 rfl rfl rfl rfl rfl rfl ?_)
    refine VO.nil ?_
    refine V.seq ?_
    replace hm2 := bindO hm2; rcases hm2 with ⟨y2, hh3, hm2⟩
    refine V.region ?_
    refine VO.cons rfl (V1.fieldRef rfl rfl fo_87_3 rfl lt0 ?_)
    refine VO.cons rfl (V1.loadRef (k := 0) rfl rfl tyk_31 rfl rfl rfl rfl rfl lt0 ?_)
    refine VO.cons rfl (V1.move rfl rfl rfl lt0 ?_)
    refine VO.cons rfl (V1.call rfl rfl rfl cok_45 rfl (ok_slices_Contains_int_int hh3) rfl lt0 ?_)
    rintro _ _ ⟨rfl, rfl⟩
    refine VO.nil ?_
    refine V.keep 31 [1, 5, 7, 15, 16, 17, 24] [0] (E0 := [(1, .int .i64 id_), (5, .int .i64 last0), (7, .ref b0 4 0 0), (15, .vl ρ0 4 (List.map (encFormat σ0) list)), (16, .int .i64 (list.length : Int)), (17, .int .i64 v), (24, .bool y2)]) (H0 := [(b0, ⟨4, [encFormat σ0 (list.getD (Int.toNat v) default)]⟩)]) rfl (⟨_, _, rfl, rfl, ⟨_, _, rfl, rfl, ⟨_, _, rfl, rfl, ⟨_, _, rfl, rfl, ⟨_, _, rfl, rfl, ⟨_, _, rfl, rfl, ⟨_, _, rfl, rfl, rfl⟩⟩⟩⟩⟩⟩⟩) (⟨_, _, rfl, rfl, rfl⟩) rfl ?_
    refine V.cond rfl (fun hc1 => ?_) (fun hc1 => ?_)
    ·
     replace hm2 := cond_t hc1 hm2
     refine V.region ?_
     refine VO.cons rfl (V1.move rfl rfl rfl lt0 ?_)
     refine VO.cons rfl (V1.fieldRef rfl rfl fo_87_2 rfl lt0 ?_)
     refine VO.cons rfl (V1.loadRef (k := 0) rfl rfl tyk_3 rfl rfl rfl rfl rfl lt0 ?_)
     refine VO.cons rfl (V1.maxI rfl rfl rfl rfl rfl rfl lt0 ?_)
     refine VO.cons rfl (V1.assign rfl rfl rfl lt0 ?_)
     refine VO.nil ?_
     exact ⟨((bif decide (last0 < ((list.getD (Int.toNat v) default).Until)) then ((list.getD (Int.toNat v) default).Until) else last0), ()), Option.some.inj hm2, Keeps.mk (ks := []) rfl ⟨rfl, rfl, rfl, rfl, rfl, trivial⟩ (rfl) rfl⟩
    ·
     replace hm2 := cond_f hc1 hm2
     refine V.skip ?_
     exact ⟨(last0, ()), Option.some.inj hm2, Keeps.mk (ks := []) rfl ⟨rfl, rfl, rfl, rfl, rfl, trivial⟩ (rfl) rfl⟩
   ·
    rintro ⟨last1, _⟩ rfl
    try dsimp only at hm1
    refine V.region ?_
    refine VO.cons rfl (V1.int rfl rfl rfl rfl rfl lt0 ?_)
    refine VO.cons rfl (V1.move rfl rfl rfl lt0 ?_)
    refine VO.nil ?_
    exact ⟨(m0, (last1, (IntKind.i64.wrap (v + (1 : Int)))), ()), hl1 _ (Option.some.inj hm1).symm, Nat.lt_succ_self _, Keeps.mk (ks := []) rfl ⟨rfl, rfl, rfl, rfl, rfl, trivial⟩ (rfl) rfl⟩
  ·
   replace hm1 := cond_f hc0 hm1
   refine V.exit ?_
   obtain rfl := hr1 _ (Option.some.inj hm1).symm
   exact ⟨(last0, ()), rfl, Keeps.mk (ks := []) rfl ⟨rfl, trivial⟩ (rfl) rfl⟩
 ·
  rintro ⟨last, _⟩ rfl
  try dsimp only at hm0
  refine V.seq ?_
  refine V.region ?_
  refine VO.cons rfl (V1.move rfl rfl rfl lt0 ?_)
  refine VO.cons rfl (V1.assign rfl rfl rfl lt0 ?_)
  refine VO.nil ?_
  refine V.ret ?_
  obtain rfl := Option.some.inj hm0
  exact ⟨_, [], ⟨_, _, rfl, rfl, rfl⟩, List.nil_sublist _, rfl, rfl⟩

theorem ok_impl_LastReadable {ρ0 rn : Nat} {list : List Format} {id_ : Int} {r : Int × Bool} (h : M.impl_LastReadable list id_ = some r) : Does Tryd.prog 23 [.vl ρ0 4 (List.map (encFormat ρ0) list), .int .i64 id_] [] rn (fun x H => x = .tup [.int .i64 r.1, .bool r.2] ∧ H = []) := by
 have hm0 := h; clear h; unfold M.impl_LastReadable at hm0
 try dsimp only at hm0
 refine Does.intro (N := 18) Tryd.func23 rfl rfl rfl rfl ?_
 intro w0 S0
 refine V.seq ?_
 refine V.region ?_
 refine VO.cons rfl (V1.assign rfl rfl rfl lt0 ?_)
 refine VO.cons rfl (V1.assign rfl rfl rfl lt0 ?_)
 refine VO.nil ?_
 refine V.seq ?_
 refine V.seq ?_
 replace hm0 := bindO hm0; rcases hm0 with ⟨y0, hh0, hm0⟩
 replace hm0 := bindO hm0; rcases hm0 with ⟨y1, hh1, hm0⟩
 refine V.region ?_
 refine VO.cons rfl (V1.move rfl rfl rfl lt0 ?_)
 refine VO.cons rfl (V1.call rfl rfl rfl cok_37 rfl (ok_impl_AreFormats hh0) rfl lt0 ?_)
 rintro _ _ ⟨rfl, rfl⟩
 refine VO.cons rfl (V1.not rfl rfl rfl lt0 ?_)
 refine VO.cons rfl (V1.move rfl rfl rfl lt0 ?_)
 apply VO.or (n := 4) rfl rfl rfl rfl rfl rfl lt0 (.none rfl)
 ·
  intro hg0
  refine VO.step (.some rfl rfl rfl) (V1.move rfl rfl rfl lt0 ?_)
  refine VO.step (.some rfl rfl rfl) (V1.move rfl rfl rfl lt0 ?_)
  refine VO.step (.some rfl rfl rfl) (V1.call rfl rfl rfl cok_58 rfl (ok_impl_formatAt (cond_f hg0 hh1)) rfl lt0 ?_)
  rintro _ _ ⟨rfl, rfl⟩
  refine VO.step (.some rfl rfl rfl) (V1.int rfl rfl rfl rfl rfl lt0 ?_)
  exact VO.nil ⟨rfl, rfl, rfl, rfl, .inr ⟨rfl, .inr ⟨rfl, .inr ⟨rfl, .inr ⟨rfl, .inr ⟨rfl, .inl rfl⟩⟩⟩⟩⟩⟩
 refine VO.nil ?_
 refine V.keep 18 [0, 1, 14] [] (E0 := [(0, .vl ρ0 4 (List.map (encFormat ρ0) list)), (1, .int .i64 id_), (14, .bool ((!y0) || (decide (y1 < (0 : Int)))))]) (H0 := []) rfl (⟨_, _, rfl, rfl, ⟨_, _, rfl, rfl, ⟨_, _, rfl, rfl, rfl⟩⟩⟩) (rfl) rfl ?_
 refine V.cond rfl (fun hc0 => ?_) (fun hc0 => ?_)
 ·
  replace hm0 := cond_t hc0 hm0
  refine V.seq ?_
  refine V.region ?_
  refine VO.cons rfl (V1.assign rfl rfl rfl lt0 ?_)
  refine VO.cons rfl (V1.assign rfl rfl rfl lt0 ?_)
  refine VO.nil ?_
  refine V.ret ?_
  obtain rfl := Option.some.inj hm0
  exact ⟨_, [], ⟨_, _, rfl, rfl, ⟨_, _, rfl, rfl, rfl⟩⟩, List.nil_sublist _, rfl, rfl⟩
 ·
  replace hm0 := cond_f hc0 hm0
  refine V.skip ?_
  refine V.seq ?_
  replace hm0 := bindO hm0; rcases hm0 with ⟨y2, hh2, hm0⟩
  refine V.region ?_
  refine VO.cons rfl (V1.move rfl rfl rfl lt0 ?_)
  refine VO.cons rfl (V1.move rfl rfl rfl lt0 ?_)
  refine VO.cons rfl (V1.call rfl rfl rfl cok_59 rfl (ok_impl_lastReadable hh2) rfl lt0 ?_)
  rintro _ _ ⟨rfl, rfl⟩
  refine VO.cons rfl (V1.assign rfl rfl rfl lt0 ?_)
  refine VO.cons rfl (V1.assign rfl rfl rfl lt0 ?_)
  refine VO.nil ?_
  refine V.ret ?_
  obtain rfl := Option.some.inj hm0
  exact ⟨_, [], ⟨_, _, rfl, rfl, ⟨_, _, rfl, rfl, rfl⟩⟩, List.nil_sublist _, rfl, rfl⟩

theorem ok_spec_l1In {rn : Nat} {x : Int} {a : Int} {b_ : Int} {r : Bool} (h : M.spec_l1In x a b_ = some r) : Does Tryd.prog 91 [.int .i64 x, .int .i64 a, .int .i64 b_] [] rn (fun x H => x = .bool r ∧ H = []) := by
 have hm0 := h; clear h; unfold M.spec_l1In at hm0
 try dsimp only at hm0
 refine Does.intro (N := 15) Tryd.func91 rfl rfl rfl rfl ?_
 intro w0 S0
 refine V.seq ?_
 refine V.region ?_
 refine VO.cons rfl (V1.assign rfl rfl rfl lt0 ?_)
 refine VO.nil ?_
 refine V.seq ?_
 refine V.region ?_
 refine VO.cons rfl (V1.move rfl rfl rfl lt0 ?_)
 refine VO.cons rfl (V1.move rfl rfl rfl lt0 ?_)
 refine VO.cons rfl (V1.int rfl rfl rfl rfl rfl lt0 ?_)
 refine VO.cons rfl (V1.move rfl rfl rfl lt0 ?_)
 apply VO.and (n := 3) rfl rfl rfl rfl rfl rfl lt0 (.none rfl)
 ·
  intro hg0
  refine VO.step (.some rfl rfl rfl) (V1.move rfl rfl rfl lt0 ?_)
  refine VO.step (.some rfl rfl rfl) (V1.move rfl rfl rfl lt0 ?_)
  refine VO.step (.some rfl rfl rfl) (V1.int rfl rfl rfl rfl rfl lt0 ?_)
  exact VO.nil ⟨rfl, rfl, rfl, rfl, .inr ⟨rfl, .inr ⟨rfl, .inr ⟨rfl, .inr ⟨rfl, .inl rfl⟩⟩⟩⟩⟩
 refine VO.cons rfl (V1.assign rfl rfl rfl lt0 ?_)
 refine VO.nil ?_
 refine V.ret ?_
 obtain rfl := Option.some.inj hm0
 exact ⟨_, [], ⟨_, _, rfl, rfl, rfl⟩, List.nil_sublist _, rfl, rfl⟩

theorem ok_spec_l2Word {rn : Nat} {s : List UInt8} {r : Bool} (h : M.spec_l2Word s = some r) : Does Tryd.prog 92 [.str s] [] rn (fun x H => x = .bool r ∧ H = []) := by
 have hm0 := h; clear h; unfold M.spec_l2Word at hm0
 try dsimp only at hm0
 refine Does.intro (N := 23) Tryd.func92 rfl rfl rfl rfl ?_
 intro w0 S0
 refine V.seq ?_
 refine V.region ?_
 refine VO.cons rfl (V1.assign rfl rfl rfl lt0 ?_)
 refine VO.nil ?_
 refine V.seq ?_
 refine V.seq ?_
 refine V.region ?_
 refine VO.cons rfl (V1.assign rfl rfl rfl lt0 ?_)
 refine VO.nil ?_
 replace hm0 := bindO hm0; rcases hm0 with ⟨e0, he1, hm0⟩
 refine V.cutT (D := (Unit) × (Unit)) (fun ⟨_, _⟩ => ⟨23, [(0, .str s)], []⟩) (fun ⟨_, _⟩ => (.inl () = e0)) ?_ ?_
 ·
  refine V.block ?_
  refine V.keep 23 [3, 0] [] (E0 := [(3, .int .i64 (0 : Int)), (0, .str s)]) (H0 := []) rfl (⟨_, _, rfl, rfl, ⟨_, _, rfl, rfl, rfl⟩⟩) (rfl) rfl ?_
  refine V.loopE (D := Nat × (Int) × (Unit)) (fun ⟨n0, i, _⟩ => [(3, .int .i64 i)]) (fun ⟨n0, i, _⟩ => []) (fun ⟨n0, i, _⟩ => loopO (M.spec_l2Word_l0 s) n0 i = some e0) (fun ⟨n0, _, _⟩ => n0) (rounds, (0 : Int), ()) rfl he1 ?_
  rintro ⟨n0, i, _⟩ hP0
  obtain ⟨m0, y0, rfl, hm1, hl1, hr1⟩ := loop_head hP0
  unfold M.spec_l2Word_l0 at hm1; dsimp only at hm1
  show V _ _ _ ⟨23, [(3, .int .i64 i), (0, .str s)], []⟩
  refine V.seq ?_
  refine V.seq ?_
  refine V.region ?_
  refine VO.cons rfl (V1.move rfl rfl rfl lt0 ?_)
  refine VO.cons rfl (V1.move rfl rfl rfl lt0 ?_)
  refine VO.cons rfl (V1.lenStr rfl rfl rfl rfl rfl rfl istr_9 lt0 ?_)
  refine VO.cons rfl (V1.int rfl rfl rfl rfl rfl lt0 ?_)
  refine VO.nil ?_
  refine V.cond rfl (fun hc0 => ?_) (fun hc0 => ?_)
  ·
   replace hm1 := cond_t hc0 hm1
   refine V.skip ?_
   refine V.keep 23 [0, 3] [] (E0 := [(0, .str s), (3, .int .i64 i)]) (H0 := []) rfl (⟨_, _, rfl, rfl, ⟨_, _, rfl, rfl, rfl⟩⟩) (rfl) rfl ?_
   refine V.seq ?_
   refine V.block ?_
   refine V.seq ?_
   replace hm1 := asrt_some hm1; rcases hm1 with ⟨hh0, hm1⟩
   replace hm1 := asrt_some hm1; rcases hm1 with ⟨hh1, hm1⟩
   refine V.region ?_
   refine VO.cons rfl (V1.move rfl rfl rfl lt0 ?_)
   refine VO.cons rfl (V1.move rfl rfl rfl lt0 ?_)
   refine VO.cons rfl (V1.indexStrI rfl rfl istr_9 rfl rfl hh0 lt0 ?_)
   refine VO.cons rfl (V1.int rfl rfl rfl rfl rfl lt0 ?_)
   refine VO.cons rfl (V1.move rfl rfl rfl lt0 ?_)
   apply VO.or (n := 4) rfl rfl rfl rfl rfl rfl lt0 (.none rfl)
   ·
    intro hg0
    refine VO.step (.some rfl rfl rfl) (V1.move rfl rfl rfl lt0 ?_)
    refine VO.step (.some rfl rfl rfl) (V1.move rfl rfl rfl lt0 ?_)
    refine VO.step (.some rfl rfl rfl) (V1.indexStrI rfl rfl istr_9 rfl rfl (hh1 hg0) lt0 ?_)
    refine VO.step (.some rfl rfl rfl) (V1.int rfl rfl rfl rfl rfl lt0 ?_)
    exact VO.nil ⟨rfl, rfl, rfl, rfl, .inr ⟨rfl, .inr ⟨rfl, .inr ⟨rfl, .inr ⟨rfl, .inr ⟨rfl, .inl rfl⟩⟩⟩⟩⟩⟩
   refine VO.nil ?_
   refine V.keep 23 [0, 3, 19] [] (E0 := [(0, .str s), (3, .int .i64 i), (19, .bool ((decide (((s.getD (Int.toNat i) 0).toNat : Int) < (97 : Int))) || (decide (((s.getD (Int.toNat i) 0).toNat : Int) > (122 : Int)))))]) (H0 := []) rfl (⟨_, _, rfl, rfl, ⟨_, _, rfl, rfl, ⟨_, _, rfl, rfl, rfl⟩⟩⟩) (rfl) rfl ?_
   refine V.cond rfl (fun hc1 => ?_) (fun hc1 => ?_)
   ·
    replace hm1 := cond_t hc1 hm1
    refine V.seq ?_
    refine V.region ?_
    refine VO.cons rfl (V1.assign rfl rfl rfl lt0 ?_)
    refine VO.nil ?_
    refine V.ret ?_
    obtain rfl := hr1 _ (Option.some.inj hm1).symm
    change some _ = some _ at hm0
    obtain rfl := Option.some.inj hm0
    exact ⟨_, [], ⟨_, _, rfl, rfl, rfl⟩, List.nil_sublist _, rfl, rfl⟩
   ·
    replace hm1 := cond_f hc1 hm1
    refine V.skip ?_
    refine V.region ?_
    refine VO.cons rfl (V1.move rfl rfl rfl lt0 ?_)
    refine VO.cons rfl (V1.int rfl rfl rfl rfl rfl lt0 ?_)
    refine VO.cons rfl (V1.assign rfl rfl rfl lt0 ?_)
    refine VO.nil ?_
    exact ⟨(m0, (IntKind.i64.wrap (i + (1 : Int))), ()), hl1 _ (Option.some.inj hm1).symm, Nat.lt_succ_self _, Keeps.mk (ks := []) rfl ⟨rfl, rfl, trivial⟩ (rfl) rfl⟩
  ·
   replace hm1 := cond_f hc0 hm1
   refine V.exit ?_
   obtain rfl := hr1 _ (Option.some.inj hm1).symm
   exact ⟨((), ()), rfl, Keeps.mk (ks := []) rfl ⟨rfl, trivial⟩ (rfl) rfl⟩
 ·
  rintro ⟨_, _⟩ rfl
  try dsimp only at hm0
  refine V.seq ?_
  replace hm0 := bindO hm0; rcases hm0 with ⟨y1, hh2, hm0⟩
  refine V.region ?_
  refine VO.cons rfl (V1.move rfl rfl rfl lt0 ?_)
  refine VO.cons rfl (V1.lenStr rfl rfl rfl rfl rfl rfl istr_9 lt0 ?_)
  refine VO.cons rfl (V1.call rfl rfl rfl cok_91 rfl (ok_spec_l1In hh2) rfl lt0 ?_)
  rintro _ _ ⟨rfl, rfl⟩
  refine VO.cons rfl (V1.assign rfl rfl rfl lt0 ?_)
  refine VO.nil ?_
  refine V.ret ?_
  obtain rfl := Option.some.inj hm0
  exact ⟨_, [], ⟨_, _, rfl, rfl, rfl⟩, List.nil_sublist _, rfl, rfl⟩

theorem ok_spec_l2Day {rn : Nat} {d : Int} {r : Bool} (h : M.spec_l2Day d = some r) : Does Tryd.prog 70 [.int .i64 d] [] rn (fun x H => x = .bool r ∧ H = []) := by
 have hm0 := h; clear h; unfold M.spec_l2Day at hm0
 try dsimp only at hm0
 refine Does.intro (N := 5) Tryd.func70 rfl rfl rfl rfl ?_
 intro w0 S0
 refine V.seq ?_
 refine V.region ?_
 refine VO.cons rfl (V1.assign rfl rfl rfl lt0 ?_)
 refine VO.nil ?_
 refine V.seq ?_
 replace hm0 := bindO hm0; rcases hm0 with ⟨y0, hh0, hm0⟩
 refine V.region ?_
 refine VO.cons rfl (V1.move rfl rfl rfl lt0 ?_)
 refine VO.cons rfl (V1.call rfl rfl rfl cok_91 rfl (ok_spec_l1In hh0) rfl lt0 ?_)
 rintro _ _ ⟨rfl, rfl⟩
 refine VO.cons rfl (V1.assign rfl rfl rfl lt0 ?_)
 refine VO.nil ?_
 refine V.ret ?_
 obtain rfl := Option.some.inj hm0
 exact ⟨_, [], ⟨_, _, rfl, rfl, rfl⟩, List.nil_sublist _, rfl, rfl⟩

theorem ok_spec_l1Rising {ρ0 rn : Nat} {l : List Int} {lo : Int} {hi : Int} {r : Bool} (h : M.spec_l1Rising l lo hi = some r) : Does Tryd.prog 93 [.vl ρ0 1 (List.map encInt l), .int .i64 lo, .int .i64 hi] [] rn (fun x H => x = .bool r ∧ H = []) := by
 have hm0 := h; clear h; unfold M.spec_l1Rising at hm0
 try dsimp only at hm0
 refine Does.intro (N := 38) Tryd.func93 rfl rfl rfl rfl ?_
 intro w0 S0
 refine V.seq ?_
 refine V.region ?_
 refine VO.cons rfl (V1.assign rfl rfl rfl lt0 ?_)
 refine VO.nil ?_
 refine V.seq ?_
 refine V.seq ?_
 refine V.region ?_
 refine VO.cons rfl (V1.assign rfl rfl rfl lt0 ?_)
 refine VO.nil ?_
 replace hm0 := bindO hm0; rcases hm0 with ⟨e0, he1, hm0⟩
 refine V.cutT (D := (Unit) × (Unit)) (fun ⟨_, _⟩ => ⟨38, [], []⟩) (fun ⟨_, _⟩ => (.inl () = e0)) ?_ ?_
 ·
  refine V.block ?_
  refine V.keep 38 [7, 0, 1, 2] [] (E0 := [(7, .int .i64 (0 : Int)), (0, .vl ρ0 1 (List.map encInt l)), (1, .int .i64 lo), (2, .int .i64 hi)]) (H0 := []) rfl (⟨_, _, rfl, rfl, ⟨_, _, rfl, rfl, ⟨_, _, rfl, rfl, ⟨_, _, rfl, rfl, rfl⟩⟩⟩⟩) (rfl) rfl ?_
  refine V.loopE (D := Nat × (Int) × (Unit)) (fun ⟨n0, i, _⟩ => [(7, .int .i64 i)]) (fun ⟨n0, i, _⟩ => []) (fun ⟨n0, i, _⟩ => loopO (M.spec_l1Rising_l0 l lo hi) n0 i = some e0) (fun ⟨n0, _, _⟩ => n0) (rounds, (0 : Int), ()) rfl he1 ?_
  rintro ⟨n0, i, _⟩ hP0
  obtain ⟨m0, y0, rfl, hm1, hl1, hr1⟩ := loop_head hP0
  unfold M.spec_l1Rising_l0 at hm1; dsimp only at hm1
  show V _ _ _ ⟨38, [(7, .int .i64 i), (0, .vl ρ0 1 (List.map encInt l)), (1, .int .i64 lo), (2, .int .i64 hi)], []⟩
  refine V.seq ?_
  refine V.seq ?_
  refine V.region ?_
  refine VO.cons rfl (V1.move rfl rfl rfl lt0 ?_)
  refine VO.cons rfl (V1.move rfl rfl rfl lt0 ?_)
  refine VO.cons rfl (V1.lenMap rfl rfl rfl rfl rfl rfl isl_31 lt0 ?_)
  refine VO.cons rfl (V1.int rfl rfl rfl rfl rfl lt0 ?_)
  refine VO.nil ?_
  refine V.cond rfl (fun hc0 => ?_) (fun hc0 => ?_)
  ·
   replace hm1 := cond_t hc0 hm1
   refine V.skip ?_
   refine V.keep 38 [0, 1, 2, 7] [] (E0 := [(0, .vl ρ0 1 (List.map encInt l)), (1, .int .i64 lo), (2, .int .i64 hi), (7, .int .i64 i)]) (H0 := []) rfl (⟨_, _, rfl, rfl, ⟨_, _, rfl, rfl, ⟨_, _, rfl, rfl, ⟨_, _, rfl, rfl, rfl⟩⟩⟩⟩) (rfl) rfl ?_
   refine V.seq ?_
   refine V.block ?_
   refine V.seq ?_
   replace hm1 := asrt_some hm1; rcases hm1 with ⟨hh0, hm1⟩
   replace hm1 := bindO hm1; rcases hm1 with ⟨y1, hh1, hm1⟩
   replace hm1 := asrt_some hm1; rcases hm1 with ⟨hh2, hm1⟩
   replace hm1 := asrt_some hm1; rcases hm1 with ⟨hh3, hm1⟩
   refine V.regionM 38 24 [⟨[(0, none)], [], none⟩, ⟨[(7, none)], [], none⟩, ⟨[(14, some 1), (15, some 0)], [], none⟩, ⟨[(16, some 0)], [], none⟩, ⟨[(1, none)], [], none⟩, ⟨[(2, none)], [], none⟩, ⟨[(17, some 2), (18, some 1), (19, some 0)], [], none⟩, ⟨[(20, some 0)], [], none⟩, ⟨[(21, some 0)], [], none⟩, ⟨[(7, none)], [(0, false)], none⟩, ⟨[(23, some 0)], [(1, false)], none⟩, ⟨[(24, some 0)], [(2, false)], none⟩, ⟨[(0, none)], [(0, true), (3, false)], none⟩, ⟨[(7, none)], [(1, true), (4, false)], none⟩, ⟨[(27, some 0)], [(2, true), (5, false)], none⟩, ⟨[(26, some 2), (28, some 0)], [(3, true), (6, false)], none⟩, ⟨[(29, some 0)], [(4, true), (7, false)], none⟩, ⟨[(0, none)], [(5, true), (8, false)], none⟩, ⟨[(7, none)], [(6, true), (9, false)], none⟩, ⟨[(31, some 1), (32, some 0)], [(7, true), (10, false)], none⟩, ⟨[(33, some 0)], [(8, true), (11, false)], none⟩, ⟨[(30, some 4), (34, some 0)], [(9, true), (12, false)], none⟩, ⟨[], [(13, false)], some (true, 25, 35, 10, 0)⟩, ⟨[], [], some (false, 22, 36, 14, 0)⟩] [(0, none), (1, none), (2, none), (7, none), (37, some 0)] (⟨_, rfl, ⟨_, rfl, ⟨_, rfl, ⟨_, rfl, ⟨_, rfl, ⟨_, rfl, ⟨_, rfl, ⟨_, rfl, ⟨_, rfl, ⟨_, rfl, ⟨_, rfl, ⟨_, rfl, ⟨_, rfl, ⟨_, rfl, ⟨_, rfl, ⟨_, rfl, ⟨_, rfl, ⟨_, rfl, ⟨_, rfl, ⟨_, rfl, ⟨_, rfl, ⟨_, rfl, ⟨_, rfl, ⟨_, rfl, ⟨rfl, rfl⟩⟩⟩⟩⟩⟩⟩⟩⟩⟩⟩⟩⟩⟩⟩⟩⟩⟩⟩⟩⟩⟩⟩⟩⟩) mixed_orders rfl (by decide +kernel) (fun hck4 => ?_)
   refine VP.step (p := ?pv177) rfl rfl rfl (⟨_, _, rfl, rfl, rfl⟩) ?hv177 ?rest177 hck4
   case hv177 =>
    intro E1
    refine (V1.move rfl rfl rfl lt0 ?_)
    exact rfl
   refine VP.step (p := ?pv178) rfl rfl rfl (⟨_, _, rfl, rfl, rfl⟩) ?hv178 ?rest178 hck4
   case hv178 =>
    intro E1
    refine (V1.move rfl rfl rfl lt0 ?_)
    exact rfl
   refine VP.step (p := ?pv179) rfl rfl rfl (⟨_, _, rfl, rfl, ⟨_, _, rfl, rfl, rfl⟩⟩) ?hv179 ?rest179 hck4
   case hv179 =>
    intro E1
    refine (V1.indexI rfl rfl esz_31 rfl rfl hh0 lt0 ?_)
    exact rfl
   refine VP.step (p := ?pv180) rfl rfl rfl (⟨_, _, rfl, rfl, rfl⟩) ?hv180 ?rest180 hck4
   case hv180 =>
    intro E1
    refine (V1.loadPin rfl rfl tyk_3 rfl rfl lt0 ?_)
    exact rfl
   refine VP.step (p := ?pv181) rfl rfl rfl (⟨_, _, rfl, rfl, rfl⟩) ?hv181 ?rest181 hck4
   case hv181 =>
    intro E1
    refine (V1.move rfl rfl rfl lt0 ?_)
    exact rfl
   refine VP.step (p := ?pv182) rfl rfl rfl (⟨_, _, rfl, rfl, rfl⟩) ?hv182 ?rest182 hck4
   case hv182 =>
    intro E1
    refine (V1.move rfl rfl rfl lt0 ?_)
    exact rfl
   refine VP.step (p := ?pv183) rfl rfl rfl (⟨_, _, rfl, rfl, ⟨_, _, rfl, rfl, ⟨_, _, rfl, rfl, rfl⟩⟩⟩) ?hv183 ?rest183 hck4
   case hv183 =>
    intro E1
    refine (V1.call rfl rfl rfl cok_91 rfl (ok_spec_l1In hh1) rfl lt0 ?_)
    rintro _ _ ⟨rfl, rfl⟩
    exact rfl
   refine VP.step (p := ?pv184) rfl rfl rfl (⟨_, _, rfl, rfl, rfl⟩) ?hv184 ?rest184 hck4
   case hv184 =>
    intro E1
    refine (V1.not rfl rfl rfl lt0 ?_)
    exact rfl
   refine VP.step (p := ?pv185) rfl rfl rfl (⟨_, _, rfl, rfl, rfl⟩) ?hv185 ?rest185 hck4
   case hv185 =>
    intro E1
    refine (V1.move rfl rfl rfl lt0 ?_)
    exact rfl
   refine VP.step (p := ?pv186) rfl rfl rfl (⟨_, _, rfl, rfl, rfl⟩) ?hv186 ?rest186 hck4
   case hv186 =>
    refine ⟨_, rfl, fun hg0 => ?_⟩
    intro E1
    refine (V1.move rfl rfl rfl lt0 ?_)
    exact rfl
   refine VP.step (p := ?pv187) rfl rfl rfl (⟨_, _, rfl, rfl, rfl⟩) ?hv187 ?rest187 hck4
   case hv187 =>
    refine ⟨_, rfl, fun hg0 => ?_⟩
    intro E1
    refine (V1.int rfl rfl rfl rfl rfl lt0 ?_)
    exact rfl
   refine VP.step (p := ?pv188) rfl rfl rfl (⟨_, _, rfl, rfl, rfl⟩) ?hv188 ?rest188 hck4
   case hv188 =>
    refine ⟨_, rfl, fun hg0 => ?_⟩
    intro E1
    refine (V1.move rfl rfl rfl lt0 ?_)
    exact rfl
   refine VP.step (p := ?pv189) rfl rfl rfl (⟨_, _, rfl, rfl, rfl⟩) ?hv189 ?rest189 hck4
   case hv189 =>
    refine ⟨_, rfl, fun hg1 => ?_⟩
    refine ⟨_, rfl, fun hg0 => ?_⟩
    intro E1
    refine (V1.move rfl rfl rfl lt0 ?_)
    exact rfl
   refine VP.step (p := ?pv190) rfl rfl rfl (⟨_, _, rfl, rfl, rfl⟩) ?hv190 ?rest190 hck4
   case hv190 =>
    refine ⟨_, rfl, fun hg1 => ?_⟩
    refine ⟨_, rfl, fun hg0 => ?_⟩
    intro E1
    refine (V1.move rfl rfl rfl lt0 ?_)
    exact rfl
   refine VP.step (p := ?pv191) rfl rfl rfl (⟨_, _, rfl, rfl, rfl⟩) ?hv191 ?rest191 hck4
   case hv191 =>
    refine ⟨_, rfl, fun hg1 => ?_⟩
    refine ⟨_, rfl, fun hg0 => ?_⟩
    intro E1
    refine (V1.int rfl rfl rfl rfl rfl lt0 ?_)
    exact rfl
   refine VP.step (p := ?pv192) rfl rfl rfl (⟨_, _, rfl, rfl, ⟨_, _, rfl, rfl, rfl⟩⟩) ?hv192 ?rest192 hck4
   case hv192 =>
    refine ⟨_, rfl, fun hg1 => ?_⟩
    refine ⟨_, rfl, fun hg0 => ?_⟩
    intro E1
    refine (V1.indexI rfl rfl esz_31 rfl rfl (hh2 hg0 hg1) lt0 ?_)
    exact rfl
   refine VP.step (p := ?pv193) rfl rfl rfl (⟨_, _, rfl, rfl, rfl⟩) ?hv193 ?rest193 hck4
   case hv193 =>
    refine ⟨_, rfl, fun hg1 => ?_⟩
    refine ⟨_, rfl, fun hg0 => ?_⟩
    intro E1
    refine (V1.loadPin rfl rfl tyk_3 rfl rfl lt0 ?_)
    exact rfl
   refine VP.step (p := ?pv194) rfl rfl rfl (⟨_, _, rfl, rfl, rfl⟩) ?hv194 ?rest194 hck4
   case hv194 =>
    refine ⟨_, rfl, fun hg1 => ?_⟩
    refine ⟨_, rfl, fun hg0 => ?_⟩
    intro E1
    refine (V1.move rfl rfl rfl lt0 ?_)
    exact rfl
   refine VP.step (p := ?pv195) rfl rfl rfl (⟨_, _, rfl, rfl, rfl⟩) ?hv195 ?rest195 hck4
   case hv195 =>
    refine ⟨_, rfl, fun hg1 => ?_⟩
    refine ⟨_, rfl, fun hg0 => ?_⟩
    intro E1
    refine (V1.move rfl rfl rfl lt0 ?_)
    exact rfl
   refine VP.step (p := ?pv196) rfl rfl rfl (⟨_, _, rfl, rfl, ⟨_, _, rfl, rfl, rfl⟩⟩) ?hv196 ?rest196 hck4
   case hv196 =>
    refine ⟨_, rfl, fun hg1 => ?_⟩
    refine ⟨_, rfl, fun hg0 => ?_⟩
    intro E1
    refine (V1.indexI rfl rfl esz_31 rfl rfl (hh3 hg0 hg1) lt0 ?_)
    exact rfl
   refine VP.step (p := ?pv197) rfl rfl rfl (⟨_, _, rfl, rfl, rfl⟩) ?hv197 ?rest197 hck4
   case hv197 =>
    refine ⟨_, rfl, fun hg1 => ?_⟩
    refine ⟨_, rfl, fun hg0 => ?_⟩
    intro E1
    refine (V1.loadPin rfl rfl tyk_3 rfl rfl lt0 ?_)
    exact rfl
   refine VP.step (p := ?pv198) rfl rfl rfl (⟨_, _, rfl, rfl, ⟨_, _, rfl, rfl, rfl⟩⟩) ?hv198 ?rest198 hck4
   case hv198 =>
    refine ⟨_, rfl, fun hg1 => ?_⟩
    refine ⟨_, rfl, fun hg0 => ?_⟩
    intro E1
    refine (V1.int rfl rfl rfl rfl rfl lt0 ?_)
    exact rfl
   refine VP.pickAnd rfl rfl rfl rfl rfl rfl (⟨_, rfl, fun _ => trivial⟩) ?_ hck4
   refine VP.pickOr rfl rfl rfl rfl rfl rfl (trivial) ?_ hck4
   refine VP.fin rfl (⟨_, _, rfl, rfl, ⟨_, _, rfl, rfl, ⟨_, _, rfl, rfl, ⟨_, _, rfl, rfl, ⟨_, _, rfl, rfl, rfl⟩⟩⟩⟩⟩) ?_
   refine VO.nil ?_
   refine V.cond rfl (fun hc1 => ?_) (fun hc1 => ?_)
   ·
    replace hm1 := cond_t hc1 hm1
    refine V.seq ?_
    refine V.region ?_
    refine VO.cons rfl (V1.assign rfl rfl rfl lt0 ?_)
    refine VO.nil ?_
    refine V.ret ?_
    obtain rfl := hr1 _ (Option.some.inj hm1).symm
    change some _ = some _ at hm0
    obtain rfl := Option.some.inj hm0
    exact ⟨_, [], ⟨_, _, rfl, rfl, rfl⟩, List.nil_sublist _, rfl, rfl⟩
   ·
    replace hm1 := cond_f hc1 hm1
    refine V.skip ?_
    refine V.region ?_
    refine VO.cons rfl (V1.move rfl rfl rfl lt0 ?_)
    refine VO.cons rfl (V1.int rfl rfl rfl rfl rfl lt0 ?_)
    refine VO.cons rfl (V1.assign rfl rfl rfl lt0 ?_)
    refine VO.nil ?_
    exact ⟨(m0, (IntKind.i64.wrap (i + (1 : Int))), ()), hl1 _ (Option.some.inj hm1).symm, Nat.lt_succ_self _, Keeps.mk (ks := []) rfl ⟨rfl, rfl, rfl, rfl, trivial⟩ (rfl) rfl⟩
  ·
   replace hm1 := cond_f hc0 hm1
   refine V.exit ?_
   obtain rfl := hr1 _ (Option.some.inj hm1).symm
   exact ⟨((), ()), rfl, Keeps.mk (ks := []) rfl trivial (rfl) rfl⟩
 ·
  rintro ⟨_, _⟩ rfl
  try dsimp only at hm0
  refine V.seq ?_
  refine V.region ?_
  refine VO.cons rfl (V1.assign rfl rfl rfl lt0 ?_)
  refine VO.nil ?_
  refine V.ret ?_
  obtain rfl := Option.some.inj hm0
  exact ⟨_, [], ⟨_, _, rfl, rfl, rfl⟩, List.nil_sublist _, rfl, rfl⟩

theorem ok_spec_l1Has {ρ0 rn : Nat} {l : List Int} {n : Int} {r : Bool} (h : M.spec_l1Has l n = some r) : Does Tryd.prog 47 [.vl ρ0 1 (List.map encInt l), .int .i64 n] [] rn (fun x H => x = .bool r ∧ H = []) := by
 have hm0 := h; clear h; unfold M.spec_l1Has at hm0
 try dsimp only at hm0
 refine Does.intro (N := 18) Tryd.func47 rfl rfl rfl rfl ?_
 intro w0 S0
 refine V.seq ?_
 refine V.region ?_
 refine VO.cons rfl (V1.assign rfl rfl rfl lt0 ?_)
 refine VO.nil ?_
 refine V.seq ?_
 refine V.seq ?_
 refine V.region ?_
 refine VO.cons rfl (V1.assign rfl rfl rfl lt0 ?_)
 refine VO.nil ?_
 replace hm0 := bindO hm0; rcases hm0 with ⟨e0, he1, hm0⟩
 refine V.cutT (D := (Unit) × (Unit)) (fun ⟨_, _⟩ => ⟨18, [], []⟩) (fun ⟨_, _⟩ => (.inl () = e0)) ?_ ?_
 ·
  refine V.block ?_
  refine V.keep 18 [5, 0, 1] [] (E0 := [(5, .int .i64 (0 : Int)), (0, .vl ρ0 1 (List.map encInt l)), (1, .int .i64 n)]) (H0 := []) rfl (⟨_, _, rfl, rfl, ⟨_, _, rfl, rfl, ⟨_, _, rfl, rfl, rfl⟩⟩⟩) (rfl) rfl ?_
  refine V.loopE (D := Nat × (Int) × (Unit)) (fun ⟨n0, i, _⟩ => [(5, .int .i64 i)]) (fun ⟨n0, i, _⟩ => []) (fun ⟨n0, i, _⟩ => loopO (M.spec_l1Has_l0 l n) n0 i = some e0) (fun ⟨n0, _, _⟩ => n0) (rounds, (0 : Int), ()) rfl he1 ?_
  rintro ⟨n0, i, _⟩ hP0
  obtain ⟨m0, y0, rfl, hm1, hl1, hr1⟩ := loop_head hP0
  unfold M.spec_l1Has_l0 at hm1; dsimp only at hm1
  show V _ _ _ ⟨18, [(5, .int .i64 i), (0, .vl ρ0 1 (List.map encInt l)), (1, .int .i64 n)], []⟩
  refine V.seq ?_
  refine V.seq ?_
  refine V.region ?_
  refine VO.cons rfl (V1.move rfl rfl rfl lt0 ?_)
  refine VO.cons rfl (V1.move rfl rfl rfl lt0 ?_)
  refine VO.cons rfl (V1.lenMap rfl rfl rfl rfl rfl rfl isl_31 lt0 ?_)
  refine VO.cons rfl (V1.int rfl rfl rfl rfl rfl lt0 ?_)
  refine VO.nil ?_
  refine V.cond rfl (fun hc0 => ?_) (fun hc0 => ?_)
  ·
   replace hm1 := cond_t hc0 hm1
   refine V.skip ?_
   refine V.keep 18 [0, 1, 5] [] (E0 := [(0, .vl ρ0 1 (List.map encInt l)), (1, .int .i64 n), (5, .int .i64 i)]) (H0 := []) rfl (⟨_, _, rfl, rfl, ⟨_, _, rfl, rfl, ⟨_, _, rfl, rfl, rfl⟩⟩⟩) (rfl) rfl ?_
   refine V.seq ?_
   refine V.block ?_
   refine V.seq ?_
   replace hm1 := asrt_some hm1; rcases hm1 with ⟨hh0, hm1⟩
   refine V.region ?_
   refine VO.cons rfl (V1.move rfl rfl rfl lt0 ?_)
   refine VO.cons rfl (V1.move rfl rfl rfl lt0 ?_)
   refine VO.cons rfl (V1.indexI rfl rfl esz_31 rfl rfl hh0 lt0 ?_)
   refine VO.cons rfl (V1.loadPin rfl rfl tyk_3 rfl rfl lt0 ?_)
   refine VO.cons rfl (V1.move rfl rfl rfl lt0 ?_)
   refine VO.cons rfl (V1.int rfl rfl rfl rfl rfl lt0 ?_)
   refine VO.nil ?_
   refine V.keep 18 [0, 1, 5, 17] [] (E0 := [(0, .vl ρ0 1 (List.map encInt l)), (1, .int .i64 n), (5, .int .i64 i), (17, .bool ((l.getD (Int.toNat i) default) == n))]) (H0 := []) rfl (⟨_, _, rfl, rfl, ⟨_, _, rfl, rfl, ⟨_, _, rfl, rfl, ⟨_, _, rfl, rfl, rfl⟩⟩⟩⟩) (rfl) rfl ?_
   refine V.cond rfl (fun hc1 => ?_) (fun hc1 => ?_)
   ·
    replace hm1 := cond_t hc1 hm1
    refine V.seq ?_
    refine V.region ?_
    refine VO.cons rfl (V1.assign rfl rfl rfl lt0 ?_)
    refine VO.nil ?_
    refine V.ret ?_
    obtain rfl := hr1 _ (Option.some.inj hm1).symm
    change some _ = some _ at hm0
    obtain rfl := Option.some.inj hm0
    exact ⟨_, [], ⟨_, _, rfl, rfl, rfl⟩, List.nil_sublist _, rfl, rfl⟩
   ·
    replace hm1 := cond_f hc1 hm1
    refine V.skip ?_
    refine V.region ?_
    refine VO.cons rfl (V1.move rfl rfl rfl lt0 ?_)
    refine VO.cons rfl (V1.int rfl rfl rfl rfl rfl lt0 ?_)
    refine VO.cons rfl (V1.assign rfl rfl rfl lt0 ?_)
    refine VO.nil ?_
    exact ⟨(m0, (IntKind.i64.wrap (i + (1 : Int))), ()), hl1 _ (Option.some.inj hm1).symm, Nat.lt_succ_self _, Keeps.mk (ks := []) rfl ⟨rfl, rfl, rfl, trivial⟩ (rfl) rfl⟩
  ·
   replace hm1 := cond_f hc0 hm1
   refine V.exit ?_
   obtain rfl := hr1 _ (Option.some.inj hm1).symm
   exact ⟨((), ()), rfl, Keeps.mk (ks := []) rfl trivial (rfl) rfl⟩
 ·
  rintro ⟨_, _⟩ rfl
  try dsimp only at hm0
  refine V.seq ?_
  refine V.region ?_
  refine VO.cons rfl (V1.assign rfl rfl rfl lt0 ?_)
  refine VO.nil ?_
  refine V.ret ?_
  obtain rfl := Option.some.inj hm0
  exact ⟨_, [], ⟨_, _, rfl, rfl, rfl⟩, List.nil_sublist _, rfl, rfl⟩

theorem ok_spec_l7Find {ρ0 σ0 rn : Nat} {list : List Format} {id_ : Int} {r : Int} (h : M.spec_l7Find list id_ = some r) : Does Tryd.prog 61 [.vl ρ0 4 (List.map (encFormat σ0) list), .int .i64 id_] [] rn (fun x H => x = .int .i64 r ∧ H = []) := by
 have hm0 := h; clear h; unfold M.spec_l7Find at hm0
 try dsimp only at hm0
 refine Does.intro (N := 20) Tryd.func61 rfl rfl rfl rfl ?_
 intro w0 S0
 refine V.seq ?_
 refine V.region ?_
 refine VO.cons rfl (V1.assign rfl rfl rfl lt0 ?_)
 refine VO.nil ?_
 refine V.seq ?_
 refine V.seq ?_
 refine V.region ?_
 refine VO.cons rfl (V1.assign rfl rfl rfl lt0 ?_)
 refine VO.nil ?_
 replace hm0 := bindO hm0; rcases hm0 with ⟨e0, he1, hm0⟩
 refine V.cutT (D := (Unit) × (Unit)) (fun ⟨_, _⟩ => ⟨20, [], []⟩) (fun ⟨_, _⟩ => (.inl () = e0)) ?_ ?_
 ·
  refine V.block ?_
  refine V.keep 20 [5, 0, 1] [] (E0 := [(5, .int .i64 (0 : Int)), (0, .vl ρ0 4 (List.map (encFormat σ0) list)), (1, .int .i64 id_)]) (H0 := []) rfl (⟨_, _, rfl, rfl, ⟨_, _, rfl, rfl, ⟨_, _, rfl, rfl, rfl⟩⟩⟩) (rfl) rfl ?_
  refine V.loopE (D := Nat × (Int) × (Unit)) (fun ⟨n0, i, _⟩ => [(5, .int .i64 i)]) (fun ⟨n0, i, _⟩ => []) (fun ⟨n0, i, _⟩ => loopO (M.spec_l7Find_l0 list id_) n0 i = some e0) (fun ⟨n0, _, _⟩ => n0) (rounds, (0 : Int), ()) rfl he1 ?_
  rintro ⟨n0, i, _⟩ hP0
  obtain ⟨m0, y0, rfl, hm1, hl1, hr1⟩ := loop_head hP0
  unfold M.spec_l7Find_l0 at hm1; dsimp only at hm1
  show V _ _ _ ⟨20, [(5, .int .i64 i), (0, .vl ρ0 4 (List.map (encFormat σ0) list)), (1, .int .i64 id_)], []⟩
  refine V.seq ?_
  refine V.seq ?_
  refine V.region ?_
  refine VO.cons rfl (V1.move rfl rfl rfl lt0 ?_)
  refine VO.cons rfl (V1.move rfl rfl rfl lt0 ?_)
  refine VO.cons rfl (V1.lenMap rfl rfl rfl rfl rfl rfl isl_44 lt0 ?_)
  refine VO.cons rfl (V1.int rfl rfl rfl rfl rfl lt0 ?_)
  refine VO.nil ?_
  refine V.cond rfl (fun hc0 => ?_) (fun hc0 => ?_)
  ·
   replace hm1 := cond_t hc0 hm1
   refine V.skip ?_
   refine V.keep 20 [0, 1, 5] [] (E0 := [(0, .vl ρ0 4 (List.map (encFormat σ0) list)), (1, .int .i64 id_), (5, .int .i64 i)]) (H0 := []) rfl (⟨_, _, rfl, rfl, ⟨_, _, rfl, rfl, ⟨_, _, rfl, rfl, rfl⟩⟩⟩) (rfl) rfl ?_
   refine V.seq ?_
   refine V.block ?_
   refine V.seq ?_
   replace hm1 := asrt_some hm1; rcases hm1 with ⟨hh0, hm1⟩
   refine V.region ?_
   refine VO.cons rfl (V1.move rfl rfl rfl lt0 ?_)
   refine VO.cons rfl (V1.move rfl rfl rfl lt0 ?_)
   refine VO.cons rfl (V1.indexI rfl rfl esz_44 rfl rfl hh0 lt0 ?_)
   refine VO.cons rfl (V1.fieldPin rfl rfl fo_87_0 rfl lt0 ?_)
   refine VO.cons rfl (V1.loadPin rfl rfl tyk_3 rfl rfl lt0 ?_)
   refine VO.cons rfl (V1.move rfl rfl rfl lt0 ?_)
   refine VO.cons rfl (V1.int rfl rfl rfl rfl rfl lt0 ?_)
   refine VO.nil ?_
   refine V.keep 20 [0, 1, 5, 18] [] (E0 := [(0, .vl ρ0 4 (List.map (encFormat σ0) list)), (1, .int .i64 id_), (5, .int .i64 i), (18, .bool (((list.getD (Int.toNat i) default).Id) == id_))]) (H0 := []) rfl (⟨_, _, rfl, rfl, ⟨_, _, rfl, rfl, ⟨_, _, rfl, rfl, ⟨_, _, rfl, rfl, rfl⟩⟩⟩⟩) (rfl) rfl ?_
   refine V.cond rfl (fun hc1 => ?_) (fun hc1 => ?_)
   ·
    replace hm1 := cond_t hc1 hm1
    refine V.seq ?_
    refine V.region ?_
    refine VO.cons rfl (V1.move rfl rfl rfl lt0 ?_)
    refine VO.cons rfl (V1.assign rfl rfl rfl lt0 ?_)
    refine VO.nil ?_
    refine V.ret ?_
    obtain rfl := hr1 _ (Option.some.inj hm1).symm
    change some _ = some _ at hm0
    obtain rfl := Option.some.inj hm0
    exact ⟨_, [], ⟨_, _, rfl, rfl, rfl⟩, List.nil_sublist _, rfl, rfl⟩
   ·
    replace hm1 := cond_f hc1 hm1
    refine V.skip ?_
    refine V.region ?_
    refine VO.cons rfl (V1.move rfl rfl rfl lt0 ?_)
    refine VO.cons rfl (V1.int rfl rfl rfl rfl rfl lt0 ?_)
    refine VO.cons rfl (V1.assign rfl rfl rfl lt0 ?_)
    refine VO.nil ?_
    exact ⟨(m0, (IntKind.i64.wrap (i + (1 : Int))), ()), hl1 _ (Option.some.inj hm1).symm, Nat.lt_succ_self _, Keeps.mk (ks := []) rfl ⟨rfl, rfl, rfl, trivial⟩ (rfl) rfl⟩
  ·
   replace hm1 := cond_f hc0 hm1
   refine V.exit ?_
   obtain rfl := hr1 _ (Option.some.inj hm1).symm
   exact ⟨((), ()), rfl, Keeps.mk (ks := []) rfl trivial (rfl) rfl⟩
 ·
  rintro ⟨_, _⟩ rfl
  try dsimp only at hm0
  refine V.seq ?_
  refine V.region ?_
  refine VO.cons rfl (V1.assign rfl rfl rfl lt0 ?_)
  refine VO.nil ?_
  refine V.ret ?_
  obtain rfl := Option.some.inj hm0
  exact ⟨_, [], ⟨_, _, rfl, rfl, rfl⟩, List.nil_sublist _, rfl, rfl⟩

theorem ok_spec_l7Good {ρ0 σ0 rn : Nat} {list : List Format} {r : Bool} (h : M.spec_l7Good list = some r) : Does Tryd.prog 60 [.vl ρ0 4 (List.map (encFormat σ0) list)] [] rn (fun x H => x = .bool r ∧ H = []) := by
 have hm0 := h; clear h; unfold M.spec_l7Good at hm0
 try dsimp only at hm0
 refine Does.intro (N := 100) Tryd.func60 rfl rfl rfl rfl ?_
 intro w0 S0
 refine V.seq ?_
 refine V.region ?_
 refine VO.cons rfl (V1.assign rfl rfl rfl lt0 ?_)
 refine VO.nil ?_
 refine V.seq ?_
 refine V.seq ?_
 refine V.region ?_
 refine VO.cons rfl (V1.assign rfl rfl rfl lt0 ?_)
 refine VO.nil ?_
 replace hm0 := bindO hm0; rcases hm0 with ⟨e0, he1, hm0⟩
 refine V.cutT (D := (Unit) × (Unit)) (fun ⟨_, _⟩ => ⟨100, [(0, .vl ρ0 4 (List.map (encFormat σ0) list))], []⟩) (fun ⟨_, _⟩ => (.inl () = e0)) ?_ ?_
 ·
  refine V.block ?_
  refine V.keep 100 [3, 0] [] (E0 := [(3, .int .i64 (0 : Int)), (0, .vl ρ0 4 (List.map (encFormat σ0) list))]) (H0 := []) rfl (⟨_, _, rfl, rfl, ⟨_, _, rfl, rfl, rfl⟩⟩) (rfl) rfl ?_
  refine V.loopE (D := Nat × (Int) × (Unit)) (fun ⟨n0, i, _⟩ => [(3, .int .i64 i)]) (fun ⟨n0, i, _⟩ => []) (fun ⟨n0, i, _⟩ => loopO (M.spec_l7Good_l0 list) n0 i = some e0) (fun ⟨n0, _, _⟩ => n0) (rounds, (0 : Int), ()) rfl he1 ?_
  rintro ⟨n0, i, _⟩ hP0
  obtain ⟨m0, y0, rfl, hm1, hl1, hr1⟩ := loop_head hP0
  unfold M.spec_l7Good_l0 at hm1; dsimp only at hm1
  show V _ _ _ ⟨100, [(3, .int .i64 i), (0, .vl ρ0 4 (List.map (encFormat σ0) list))], []⟩
  refine V.seq ?_
  refine V.seq ?_
  refine V.region ?_
  refine VO.cons rfl (V1.move rfl rfl rfl lt0 ?_)
  refine VO.cons rfl (V1.move rfl rfl rfl lt0 ?_)
  refine VO.cons rfl (V1.lenMap rfl rfl rfl rfl rfl rfl isl_44 lt0 ?_)
  refine VO.cons rfl (V1.int rfl rfl rfl rfl rfl lt0 ?_)
  refine VO.cons rfl (V1.move rfl rfl rfl lt0 ?_)
  apply VO.and (n := 2) rfl rfl rfl rfl rfl rfl lt0 (.none rfl)
  ·
   intro hg0
   refine VO.step (.some rfl rfl rfl) (V1.move rfl rfl rfl lt0 ?_)
   refine VO.step (.some rfl rfl rfl) (V1.int rfl rfl rfl rfl rfl lt0 ?_)
   exact VO.nil ⟨rfl, rfl, rfl, rfl, .inr ⟨rfl, .inr ⟨rfl, .inr ⟨rfl, .inl rfl⟩⟩⟩⟩
  refine VO.nil ?_
  refine V.keep 100 [0, 3, 14] [] (E0 := [(0, .vl ρ0 4 (List.map (encFormat σ0) list)), (3, .int .i64 i), (14, .bool ((decide (i < (list.length : Int))) && (decide (i ≤ (10 : Int)))))]) (H0 := []) rfl (⟨_, _, rfl, rfl, ⟨_, _, rfl, rfl, ⟨_, _, rfl, rfl, rfl⟩⟩⟩) (rfl) rfl ?_
  refine V.cond rfl (fun hc0 => ?_) (fun hc0 => ?_)
  ·
   replace hm1 := cond_t hc0 hm1
   refine V.skip ?_
   refine V.seq ?_
   refine V.block ?_
   refine V.seq ?_
   replace hm1 := asrt_some hm1; rcases hm1 with ⟨hh0, hm1⟩
   refine V.region ?_
   refine VO.cons rfl (V1.move rfl rfl rfl lt0 ?_)
   refine VO.cons rfl (V1.move rfl rfl rfl lt0 ?_)
   refine VO.cons rfl (V1.indexI rfl rfl esz_44 rfl rfl hh0 lt0 ?_)
   refine VO.cons rfl (V1.loadPinAll rfl rfl tyk_87 rfl rfl lt0 ?_)
   refine VO.cons rfl (V1.alloc rfl rfl zk_87 lt0 ?_)
   intro b0
   refine VO.cons rfl (V1.storeRefAll (k := 0) rfl rfl tyk_87 rfl rfl rfl rfl rfl rfl ?_)
   refine VO.nil ?_
   refine V.keep 100 [0, 3, 4] [0] (E0 := [(0, .vl ρ0 4 (List.map (encFormat σ0) list)), (3, .int .i64 i), (4, .ref b0 4 0 0)]) (H0 := [(b0, ⟨4, [encFormat σ0 (list.getD (Int.toNat i) default)]⟩)]) rfl (⟨_, _, rfl, rfl, ⟨_, _, rfl, rfl, ⟨_, _, rfl, rfl, rfl⟩⟩⟩) (⟨_, _, rfl, rfl, rfl⟩) rfl ?_
   refine V.seq ?_
   refine V.seq ?_
   replace hm1 := bindO hm1; rcases hm1 with ⟨y1, hh1, hm1⟩
   replace hm1 := bindO hm1; rcases hm1 with ⟨y2, hh2, hm1⟩
   replace hm1 := bindO hm1; rcases hm1 with ⟨y3, hh3, hm1⟩
   replace hm1 := bindO hm1; rcases hm1 with ⟨y4, hh4, hm1⟩
   refine V.region ?_
   refine VO.cons rfl (V1.fieldRef rfl rfl fo_87_0 rfl lt0 ?_)
   refine VO.cons rfl (V1.loadRef (k := 0) rfl rfl tyk_3 rfl rfl rfl rfl rfl lt0 ?_)
   refine VO.cons rfl (V1.call rfl rfl rfl cok_91 rfl (ok_spec_l1In hh1) rfl lt0 ?_)
   rintro _ _ ⟨rfl, rfl⟩
   refine VO.cons rfl (V1.not rfl rfl rfl lt0 ?_)
   refine VO.cons rfl (V1.move rfl rfl rfl lt0 ?_)
   apply VO.or (n := 4) rfl rfl rfl rfl rfl rfl lt0 (.none rfl)
   ·
    intro hg1
    refine VO.step (.some rfl rfl rfl) (V1.fieldRef rfl rfl fo_87_1 rfl lt0 ?_)
    refine VO.step (.some rfl rfl rfl) (V1.loadRef (k := 0) rfl rfl tyk_9 rfl rfl rfl rfl rfl lt0 ?_)
    refine VO.step (.some rfl rfl rfl) (V1.call rfl rfl rfl cok_92 rfl (ok_spec_l2Word (cond_f hg1 hh2)) rfl lt0 ?_)
    rintro _ _ ⟨rfl, rfl⟩
    refine VO.step (.some rfl rfl rfl) (V1.not rfl rfl rfl lt0 ?_)
    exact VO.nil ⟨rfl, rfl, rfl, rfl, .inr ⟨rfl, .inr ⟨rfl, .inr ⟨rfl, .inr ⟨rfl, .inr ⟨rfl, .inl rfl⟩⟩⟩⟩⟩⟩
   refine VO.cons rfl (V1.move rfl rfl rfl lt0 ?_)
   apply VO.or (n := 4) rfl rfl rfl rfl rfl rfl lt0 (.none rfl)
   ·
    intro hg2
    refine VO.step (.some rfl rfl rfl) (V1.fieldRef rfl rfl fo_87_2 rfl lt0 ?_)
    refine VO.step (.some rfl rfl rfl) (V1.loadRef (k := 0) rfl rfl tyk_3 rfl rfl rfl rfl rfl lt0 ?_)
    refine VO.step (.some rfl rfl rfl) (V1.call rfl rfl rfl cok_70 rfl (ok_spec_l2Day (cond_f hg2 hh3)) rfl lt0 ?_)
    rintro _ _ ⟨rfl, rfl⟩
    refine VO.step (.some rfl rfl rfl) (V1.not rfl rfl rfl lt0 ?_)
    exact VO.nil ⟨rfl, rfl, rfl, rfl, .inr ⟨rfl, .inr ⟨rfl, .inr ⟨rfl, .inr ⟨rfl, .inr ⟨rfl, .inl rfl⟩⟩⟩⟩⟩⟩
   refine VO.cons rfl (V1.move rfl rfl rfl lt0 ?_)
   apply VO.or (n := 4) rfl rfl rfl rfl rfl rfl lt0 (.none rfl)
   ·
    intro hg3
    refine VO.step (.some rfl rfl rfl) (V1.fieldRef rfl rfl fo_87_3 rfl lt0 ?_)
    refine VO.step (.some rfl rfl rfl) (V1.loadRef (k := 0) rfl rfl tyk_31 rfl rfl rfl rfl rfl lt0 ?_)
    refine VO.step (.some rfl rfl rfl) (V1.lenMap rfl rfl rfl rfl rfl rfl isl_31 lt0 ?_)
    refine VO.step (.some rfl rfl rfl) (V1.int rfl rfl rfl rfl rfl lt0 ?_)
    exact VO.nil ⟨rfl, rfl, rfl, rfl, .inr ⟨rfl, .inr ⟨rfl, .inr ⟨rfl, .inr ⟨rfl, .inr ⟨rfl, .inl rfl⟩⟩⟩⟩⟩⟩
   refine VO.cons rfl (V1.move rfl rfl rfl lt0 ?_)
   apply VO.or (n := 4) rfl rfl rfl rfl rfl rfl lt0 (.none rfl)
   ·
    intro hg4
    refine VO.step (.some rfl rfl rfl) (V1.fieldRef rfl rfl fo_87_3 rfl lt0 ?_)
    refine VO.step (.some rfl rfl rfl) (V1.loadRef (k := 0) rfl rfl tyk_31 rfl rfl rfl rfl rfl lt0 ?_)
    refine VO.step (.some rfl rfl rfl) (V1.call rfl rfl rfl cok_93 rfl (ok_spec_l1Rising (cond_f hg4 hh4)) rfl lt0 ?_)
    rintro _ _ ⟨rfl, rfl⟩
    refine VO.step (.some rfl rfl rfl) (V1.not rfl rfl rfl lt0 ?_)
    exact VO.nil ⟨rfl, rfl, rfl, rfl, .inr ⟨rfl, .inr ⟨rfl, .inr ⟨rfl, .inr ⟨rfl, .inr ⟨rfl, .inl rfl⟩⟩⟩⟩⟩⟩
   refine VO.nil ?_
   refine V.keep 100 [0, 3, 4, 48] [0] (E0 := [(0, .vl ρ0 4 (List.map (encFormat σ0) list)), (3, .int .i64 i), (4, .ref b0 4 0 0), (48, .bool (((((!y1) || (!y2)) || (!y3)) || (decide ((((list.getD (Int.toNat i) default).Reads).length : Int) > (10 : Int)))) || (!y4)))]) (H0 := [(b0, ⟨4, [encFormat σ0 (list.getD (Int.toNat i) default)]⟩)]) rfl (⟨_, _, rfl, rfl, ⟨_, _, rfl, rfl, ⟨_, _, rfl, rfl, ⟨_, _, rfl, rfl, rfl⟩⟩⟩⟩) (⟨_, _, rfl, rfl, rfl⟩) rfl ?_
   refine V.cond rfl (fun hc1 => ?_) (fun hc1 => ?_)
   ·
    replace hm1 := cond_t hc1 hm1
    refine V.seq ?_
    refine V.region ?_
    refine VO.cons rfl (V1.assign rfl rfl rfl lt0 ?_)
    refine VO.nil ?_
    refine V.ret ?_
    obtain rfl := hr1 _ (Option.some.inj hm1).symm
    change some _ = some _ at hm0
    obtain rfl := Option.some.inj hm0
    exact ⟨_, [], ⟨_, _, rfl, rfl, rfl⟩, List.nil_sublist _, rfl, rfl⟩
   ·
    replace hm1 := cond_f hc1 hm1
    refine V.skip ?_
    refine V.seq ?_
    refine V.seq ?_
    replace hm1 := asrt_some hm1; rcases hm1 with ⟨hh5, hm1⟩
    replace hm1 := bindO hm1; rcases hm1 with ⟨y5, hh6, hm1⟩
    refine V.regionM 100 20 [⟨[(3, none)], [], none⟩, ⟨[(49, some 0)], [], none⟩, ⟨[(50, some 0)], [], none⟩, ⟨[(0, none)], [(0, true)], none⟩, ⟨[(3, none)], [(1, true)], none⟩, ⟨[(53, some 0)], [(2, true)], none⟩, ⟨[(52, some 2), (54, some 0)], [(3, true)], none⟩, ⟨[(55, some 0)], [(4, true)], none⟩, ⟨[(56, some 0)], [(5, true)], none⟩, ⟨[(4, none)], [(6, true)], none⟩, ⟨[(58, some 0)], [(7, true)], none⟩, ⟨[(57, some 2), (59, some 0)], [(8, true)], none⟩, ⟨[], [], some (true, 51, 60, 9, 0)⟩, ⟨[(61, some 0)], [], none⟩, ⟨[(4, none)], [(0, false)], none⟩, ⟨[(63, some 0)], [(1, false)], none⟩, ⟨[(4, none)], [(2, false)], none⟩, ⟨[(65, some 0)], [(3, false)], none⟩, ⟨[(64, some 2), (66, some 0)], [(4, false)], none⟩, ⟨[], [], some (false, 62, 67, 5, 0)⟩] [(0, none), (3, none), (4, none), (68, some 0)] (⟨_, rfl, ⟨_, rfl, ⟨_, rfl, ⟨_, rfl, ⟨_, rfl, ⟨_, rfl, ⟨_, rfl, ⟨_, rfl, ⟨_, rfl, ⟨_, rfl, ⟨_, rfl, ⟨_, rfl, ⟨_, rfl, ⟨_, rfl, ⟨_, rfl, ⟨_, rfl, ⟨_, rfl, ⟨_, rfl, ⟨_, rfl, ⟨_, rfl, ⟨rfl, rfl⟩⟩⟩⟩⟩⟩⟩⟩⟩⟩⟩⟩⟩⟩⟩⟩⟩⟩⟩⟩⟩) mixed_orders rfl (by decide +kernel) (fun hck7 => ?_)
    refine VP.step (p := ?pv313) rfl rfl rfl (⟨_, _, rfl, rfl, rfl⟩) ?hv313 ?rest313 hck7
    case hv313 =>
     intro E1
     refine (V1.move rfl rfl rfl lt0 ?_)
     exact rfl
    refine VP.step (p := ?pv314) rfl rfl rfl (⟨_, _, rfl, rfl, rfl⟩) ?hv314 ?rest314 hck7
    case hv314 =>
     intro E1
     refine (V1.int rfl rfl rfl rfl rfl lt0 ?_)
     exact rfl
    refine VP.step (p := ?pv315) rfl rfl rfl (⟨_, _, rfl, rfl, rfl⟩) ?hv315 ?rest315 hck7
    case hv315 =>
     intro E1
     refine (V1.move rfl rfl rfl lt0 ?_)
     exact rfl
    refine VP.step (p := ?pv316) rfl rfl rfl (⟨_, _, rfl, rfl, rfl⟩) ?hv316 ?rest316 hck7
    case hv316 =>
     refine ⟨_, rfl, fun hg5 => ?_⟩
     intro E1
     refine (V1.move rfl rfl rfl lt0 ?_)
     exact rfl
    refine VP.step (p := ?pv317) rfl rfl rfl (⟨_, _, rfl, rfl, rfl⟩) ?hv317 ?rest317 hck7
    case hv317 =>
     refine ⟨_, rfl, fun hg5 => ?_⟩
     intro E1
     refine (V1.move rfl rfl rfl lt0 ?_)
     exact rfl
    refine VP.step (p := ?pv318) rfl rfl rfl (⟨_, _, rfl, rfl, rfl⟩) ?hv318 ?rest318 hck7
    case hv318 =>
     refine ⟨_, rfl, fun hg5 => ?_⟩
     intro E1
     refine (V1.int rfl rfl rfl rfl rfl lt0 ?_)
     exact rfl
    refine VP.step (p := ?pv319) rfl rfl rfl (⟨_, _, rfl, rfl, ⟨_, _, rfl, rfl, rfl⟩⟩) ?hv319 ?rest319 hck7
    case hv319 =>
     refine ⟨_, rfl, fun hg5 => ?_⟩
     intro E1
     refine (V1.indexI rfl rfl esz_44 rfl rfl (hh5 hg5) lt0 ?_)
     exact rfl
    refine VP.step (p := ?pv320) rfl rfl rfl (⟨_, _, rfl, rfl, rfl⟩) ?hv320 ?rest320 hck7
    case hv320 =>
     refine ⟨_, rfl, fun hg5 => ?_⟩
     intro E1
     refine (V1.fieldPin rfl rfl fo_87_0 rfl lt0 ?_)
     exact rfl
    refine VP.step (p := ?pv321) rfl rfl rfl (⟨_, _, rfl, rfl, rfl⟩) ?hv321 ?rest321 hck7
    case hv321 =>
     refine ⟨_, rfl, fun hg5 => ?_⟩
     intro E1
     refine (V1.loadPin rfl rfl tyk_3 rfl rfl lt0 ?_)
     exact rfl
    refine VP.step (p := ?pv322) rfl rfl rfl (⟨_, _, rfl, rfl, rfl⟩) ?hv322 ?rest322 hck7
    case hv322 =>
     refine ⟨_, rfl, fun hg5 => ?_⟩
     intro E1
     refine (V1.fieldRef rfl rfl fo_87_0 rfl lt0 ?_)
     exact rfl
    refine VP.step (p := ?pv323) rfl rfl rfl (⟨_, _, rfl, rfl, rfl⟩) ?hv323 ?rest323 hck7
    case hv323 =>
     refine ⟨_, rfl, fun hg5 => ?_⟩
     intro E1
     refine (V1.loadRef (k := 0) rfl rfl tyk_3 rfl rfl rfl rfl rfl lt0 ?_)
     exact rfl
    refine VP.step (p := ?pv324) rfl rfl rfl (⟨_, _, rfl, rfl, ⟨_, _, rfl, rfl, rfl⟩⟩) ?hv324 ?rest324 hck7
    case hv324 =>
     refine ⟨_, rfl, fun hg5 => ?_⟩
     intro E1
     refine (V1.int rfl rfl rfl rfl rfl lt0 ?_)
     exact rfl
    refine VP.pickAnd rfl rfl rfl rfl rfl rfl (trivial) ?_ hck7
    refine VP.step (p := ?pv325) rfl rfl rfl (⟨_, _, rfl, rfl, rfl⟩) ?hv325 ?rest325 hck7
    case hv325 =>
     intro E1
     refine (V1.move rfl rfl rfl lt0 ?_)
     exact rfl
    refine VP.step (p := ?pv326) rfl rfl rfl (⟨_, _, rfl, rfl, rfl⟩) ?hv326 ?rest326 hck7
    case hv326 =>
     refine ⟨_, rfl, fun hg6 => ?_⟩
     intro E1
     refine (V1.fieldRef rfl rfl fo_87_3 rfl lt0 ?_)
     exact rfl
    refine VP.step (p := ?pv327) rfl rfl rfl (⟨_, _, rfl, rfl, rfl⟩) ?hv327 ?rest327 hck7
    case hv327 =>
     refine ⟨_, rfl, fun hg6 => ?_⟩
     intro E1
     refine (V1.loadRef (k := 0) rfl rfl tyk_31 rfl rfl rfl rfl rfl lt0 ?_)
     exact rfl
    refine VP.step (p := ?pv328) rfl rfl rfl (⟨_, _, rfl, rfl, rfl⟩) ?hv328 ?rest328 hck7
    case hv328 =>
     refine ⟨_, rfl, fun hg6 => ?_⟩
     intro E1
     refine (V1.fieldRef rfl rfl fo_87_0 rfl lt0 ?_)
     exact rfl
    refine VP.step (p := ?pv329) rfl rfl rfl (⟨_, _, rfl, rfl, rfl⟩) ?hv329 ?rest329 hck7
    case hv329 =>
     refine ⟨_, rfl, fun hg6 => ?_⟩
     intro E1
     refine (V1.loadRef (k := 0) rfl rfl tyk_3 rfl rfl rfl rfl rfl lt0 ?_)
     exact rfl
    refine VP.step (p := ?pv330) rfl rfl rfl (⟨_, _, rfl, rfl, ⟨_, _, rfl, rfl, rfl⟩⟩) ?hv330 ?rest330 hck7
    case hv330 =>
     refine ⟨_, rfl, fun hg6 => ?_⟩
     intro E1
     refine (V1.call rfl rfl rfl cok_47 rfl (ok_spec_l1Has (cond_f hg6 hh6)) rfl lt0 ?_)
     rintro _ _ ⟨rfl, rfl⟩
     exact rfl
    refine VP.pickOr rfl rfl rfl rfl rfl rfl (trivial) ?_ hck7
    refine VP.fin rfl (⟨_, _, rfl, rfl, ⟨_, _, rfl, rfl, ⟨_, _, rfl, rfl, ⟨_, _, rfl, rfl, rfl⟩⟩⟩⟩) ?_
    refine VO.nil ?_
    refine V.cond rfl (fun hc2 => ?_) (fun hc2 => ?_)
    ·
     replace hm1 := cond_t hc2 hm1
     refine V.seq ?_
     refine V.region ?_
     refine VO.cons rfl (V1.assign rfl rfl rfl lt0 ?_)
     refine VO.nil ?_
     refine V.ret ?_
     obtain rfl := hr1 _ (Option.some.inj hm1).symm
     change some _ = some _ at hm0
     obtain rfl := Option.some.inj hm0
     exact ⟨_, [], ⟨_, _, rfl, rfl, rfl⟩, List.nil_sublist _, rfl, rfl⟩
    ·
     replace hm1 := cond_f hc2 hm1
     refine V.skip ?_
     refine V.seq ?_
     refine V.seq ?_
     refine V.region ?_
     refine VO.cons rfl (V1.assign rfl rfl rfl lt0 ?_)
     refine VO.nil ?_
     replace hm1 := bindO hm1; rcases hm1 with ⟨e1, he2, hm1⟩
     refine V.cutT (D := (Unit) × (Unit)) (fun ⟨_, _⟩ => ⟨100, [(0, .vl ρ0 4 (List.map (encFormat σ0) list)), (3, .int .i64 i), (4, .ref b0 4 0 0)], [(b0, ⟨4, [encFormat σ0 (list.getD (Int.toNat i) default)]⟩)]⟩) (fun ⟨_, _⟩ => (.inl () = e1)) ?_ ?_
     ·
      refine V.block ?_
      refine V.keep 100 [5, 0, 3, 4] [0] (E0 := [(5, .int .i64 (0 : Int)), (0, .vl ρ0 4 (List.map (encFormat σ0) list)), (3, .int .i64 i), (4, .ref b0 4 0 0)]) (H0 := [(b0, ⟨4, [encFormat σ0 (list.getD (Int.toNat i) default)]⟩)]) rfl (⟨_, _, rfl, rfl, ⟨_, _, rfl, rfl, ⟨_, _, rfl, rfl, ⟨_, _, rfl, rfl, rfl⟩⟩⟩⟩) (⟨_, _, rfl, rfl, rfl⟩) rfl ?_
      refine V.loopE (D := Nat × (Int) × (Unit)) (fun ⟨n1, k, _⟩ => [(5, .int .i64 k)]) (fun ⟨n1, k, _⟩ => []) (fun ⟨n1, k, _⟩ => loopO (M.spec_l7Good_l1 list i) n1 k = some e1) (fun ⟨n1, _, _⟩ => n1) (rounds, (0 : Int), ()) rfl he2 ?_
      rintro ⟨n1, k, _⟩ hP1
      obtain ⟨m1, y6, rfl, hm2, hl2, hr2⟩ := loop_head hP1
      unfold M.spec_l7Good_l1 at hm2; dsimp only at hm2
      show V _ _ _ ⟨100, [(5, .int .i64 k), (0, .vl ρ0 4 (List.map (encFormat σ0) list)), (3, .int .i64 i), (4, .ref b0 4 0 0)], [(b0, ⟨4, [encFormat σ0 (list.getD (Int.toNat i) default)]⟩)]⟩
      refine V.seq ?_
      refine V.seq ?_
      refine V.region ?_
      refine VO.cons rfl (V1.move rfl rfl rfl lt0 ?_)
      refine VO.cons rfl (V1.move rfl rfl rfl lt0 ?_)
      refine VO.cons rfl (V1.int rfl rfl rfl rfl rfl lt0 ?_)
      refine VO.nil ?_
      refine V.cond rfl (fun hc3 => ?_) (fun hc3 => ?_)
      ·
       replace hm2 := cond_t hc3 hm2
       refine V.skip ?_
       refine V.seq ?_
       refine V.block ?_
       refine V.seq ?_
       replace hm2 := asrt_some hm2; rcases hm2 with ⟨hh7, hm2⟩
       refine V.regionM 100 7 [⟨[(0, none)], [], none⟩, ⟨[(5, none)], [], none⟩, ⟨[(74, some 1), (75, some 0)], [], none⟩, ⟨[(76, some 0)], [], none⟩, ⟨[(77, some 0)], [], none⟩, ⟨[(4, none)], [], none⟩, ⟨[(79, some 0)], [], none⟩] [(0, none), (3, none), (4, none), (5, none), (78, some 2), (80, some 0)] (⟨_, rfl, ⟨_, rfl, ⟨_, rfl, ⟨_, rfl, ⟨_, rfl, ⟨_, rfl, ⟨_, rfl, ⟨rfl, rfl⟩⟩⟩⟩⟩⟩⟩⟩) mixed_orders rfl (by decide +kernel) (fun hck12 => ?_)
       refine VP.step (p := ?pv345) rfl rfl rfl (⟨_, _, rfl, rfl, rfl⟩) ?hv345 ?rest345 hck12
       case hv345 =>
        intro E1
        refine (V1.move rfl rfl rfl lt0 ?_)
        exact rfl
       refine VP.step (p := ?pv346) rfl rfl rfl (⟨_, _, rfl, rfl, rfl⟩) ?hv346 ?rest346 hck12
       case hv346 =>
        intro E1
        refine (V1.move rfl rfl rfl lt0 ?_)
        exact rfl
       refine VP.step (p := ?pv347) rfl rfl rfl (⟨_, _, rfl, rfl, ⟨_, _, rfl, rfl, rfl⟩⟩) ?hv347 ?rest347 hck12
       case hv347 =>
        intro E1
        refine (V1.indexI rfl rfl esz_44 rfl rfl hh7 lt0 ?_)
        exact rfl
       refine VP.step (p := ?pv348) rfl rfl rfl (⟨_, _, rfl, rfl, rfl⟩) ?hv348 ?rest348 hck12
       case hv348 =>
        intro E1
        refine (V1.fieldPin rfl rfl fo_87_1 rfl lt0 ?_)
        exact rfl
       refine VP.step (p := ?pv349) rfl rfl rfl (⟨_, _, rfl, rfl, rfl⟩) ?hv349 ?rest349 hck12
       case hv349 =>
        intro E1
        refine (V1.loadPin rfl rfl tyk_9 rfl rfl lt0 ?_)
        exact rfl
       refine VP.step (p := ?pv350) rfl rfl rfl (⟨_, _, rfl, rfl, rfl⟩) ?hv350 ?rest350 hck12
       case hv350 =>
        intro E1
        refine (V1.fieldRef rfl rfl fo_87_1 rfl lt0 ?_)
        exact rfl
       refine VP.step (p := ?pv351) rfl rfl rfl (⟨_, _, rfl, rfl, rfl⟩) ?hv351 ?rest351 hck12
       case hv351 =>
        intro E1
        refine (V1.loadRef (k := 0) rfl rfl tyk_9 rfl rfl rfl rfl rfl lt0 ?_)
        exact rfl
       refine VP.fin rfl (⟨_, _, rfl, rfl, ⟨_, _, rfl, rfl, ⟨_, _, rfl, rfl, ⟨_, _, rfl, rfl, ⟨_, _, rfl, rfl, ⟨_, _, rfl, rfl, rfl⟩⟩⟩⟩⟩⟩) ?_
       refine VO.cons rfl (V1.str rfl rfl rfl rfl rfl lt0 ?_)
       refine VO.nil ?_
       refine V.cond rfl (fun hc4 => ?_) (fun hc4 => ?_)
       ·
        replace hm2 := cond_t hc4 hm2
        refine V.seq ?_
        refine V.region ?_
        refine VO.cons rfl (V1.assign rfl rfl rfl lt0 ?_)
        refine VO.nil ?_
        refine V.ret ?_
        obtain rfl := hr2 _ (Option.some.inj hm2).symm
        change some _ = some _ at hm1
        obtain rfl := hr1 _ (Option.some.inj hm1).symm
        change some _ = some _ at hm0
        obtain rfl := Option.some.inj hm0
        exact ⟨_, [], ⟨_, _, rfl, rfl, rfl⟩, List.nil_sublist _, rfl, rfl⟩
       ·
        replace hm2 := cond_f hc4 hm2
        refine V.skip ?_
        refine V.region ?_
        refine VO.cons rfl (V1.move rfl rfl rfl lt0 ?_)
        refine VO.cons rfl (V1.int rfl rfl rfl rfl rfl lt0 ?_)
        refine VO.cons rfl (V1.assign rfl rfl rfl lt0 ?_)
        refine VO.nil ?_
        exact ⟨(m1, (IntKind.i64.wrap (k + (1 : Int))), ()), hl2 _ (Option.some.inj hm2).symm, Nat.lt_succ_self _, Keeps.mk (ks := [0]) rfl ⟨rfl, rfl, rfl, rfl, trivial⟩ (⟨_, _, rfl, rfl, rfl⟩) rfl⟩
      ·
       replace hm2 := cond_f hc3 hm2
       refine V.exit ?_
       obtain rfl := hr2 _ (Option.some.inj hm2).symm
       exact ⟨((), ()), rfl, Keeps.mk (ks := [0]) rfl ⟨rfl, rfl, rfl, trivial⟩ (⟨_, _, rfl, rfl, rfl⟩) rfl⟩
     ·
      rintro ⟨_, _⟩ rfl
      try dsimp only at hm1
      refine V.seq ?_
      refine V.region ?_
      refine VO.cons rfl (V1.assign rfl rfl rfl lt0 ?_)
      refine VO.nil ?_
      replace hm1 := bindO hm1; rcases hm1 with ⟨e2, he2, hm1⟩
      refine V.cutT (D := (Unit) × (Unit)) (fun ⟨_, _⟩ => ⟨100, [(0, .vl ρ0 4 (List.map (encFormat σ0) list)), (3, .int .i64 i)], []⟩) (fun ⟨_, _⟩ => (.inl () = e2)) ?_ ?_
      ·
       refine V.block ?_
       refine V.keep 100 [6, 0, 3, 4] [0] (E0 := [(6, .int .i64 (0 : Int)), (0, .vl ρ0 4 (List.map (encFormat σ0) list)), (3, .int .i64 i), (4, .ref b0 4 0 0)]) (H0 := [(b0, ⟨4, [encFormat σ0 (list.getD (Int.toNat i) default)]⟩)]) rfl (⟨_, _, rfl, rfl, ⟨_, _, rfl, rfl, ⟨_, _, rfl, rfl, ⟨_, _, rfl, rfl, rfl⟩⟩⟩⟩) (⟨_, _, rfl, rfl, rfl⟩) rfl ?_
       refine V.loopE (D := Nat × (Int) × (Unit)) (fun ⟨n2, k0, _⟩ => [(6, .int .i64 k0)]) (fun ⟨n2, k0, _⟩ => []) (fun ⟨n2, k0, _⟩ => loopO (M.spec_l7Good_l2 list i) n2 k0 = some e2) (fun ⟨n2, _, _⟩ => n2) (rounds, (0 : Int), ()) rfl he2 ?_
       rintro ⟨n2, k0, _⟩ hP2
       obtain ⟨m2, y7, rfl, hm2, hl2, hr2⟩ := loop_head hP2
       unfold M.spec_l7Good_l2 at hm2; dsimp only at hm2
       show V _ _ _ ⟨100, [(6, .int .i64 k0), (0, .vl ρ0 4 (List.map (encFormat σ0) list)), (3, .int .i64 i), (4, .ref b0 4 0 0)], [(b0, ⟨4, [encFormat σ0 (list.getD (Int.toNat i) default)]⟩)]⟩
       refine V.seq ?_
       refine V.seq ?_
       refine V.region ?_
       refine VO.cons rfl (V1.move rfl rfl rfl lt0 ?_)
       refine VO.cons rfl (V1.fieldRef rfl rfl fo_87_3 rfl lt0 ?_)
       refine VO.cons rfl (V1.loadRef (k := 0) rfl rfl tyk_31 rfl rfl rfl rfl rfl lt0 ?_)
       refine VO.cons rfl (V1.lenMap rfl rfl rfl rfl rfl rfl isl_31 lt0 ?_)
       refine VO.cons rfl (V1.int rfl rfl rfl rfl rfl lt0 ?_)
       refine VO.nil ?_
       refine V.keep 100 [0, 3, 4, 6, 86] [0] (E0 := [(0, .vl ρ0 4 (List.map (encFormat σ0) list)), (3, .int .i64 i), (4, .ref b0 4 0 0), (6, .int .i64 k0), (86, .bool (decide (k0 < (((list.getD (Int.toNat i) default).Reads).length : Int))))]) (H0 := [(b0, ⟨4, [encFormat σ0 (list.getD (Int.toNat i) default)]⟩)]) rfl (⟨_, _, rfl, rfl, ⟨_, _, rfl, rfl, ⟨_, _, rfl, rfl, ⟨_, _, rfl, rfl, ⟨_, _, rfl, rfl, rfl⟩⟩⟩⟩⟩) (⟨_, _, rfl, rfl, rfl⟩) rfl ?_
       refine V.cond rfl (fun hc5 => ?_) (fun hc5 => ?_)
       ·
        replace hm2 := cond_t hc5 hm2
        refine V.skip ?_
        refine V.seq ?_
        refine V.block ?_
        refine V.seq ?_
        replace hm2 := asrt_some hm2; rcases hm2 with ⟨hh8, hm2⟩
        replace hm2 := bindO hm2; rcases hm2 with ⟨y8, hh9, hm2⟩
        refine V.region ?_
        refine VO.cons rfl (V1.move rfl rfl rfl lt0 ?_)
        refine VO.cons rfl (V1.fieldRef rfl rfl fo_87_3 rfl lt0 ?_)
        refine VO.cons rfl (V1.loadRef (k := 0) rfl rfl tyk_31 rfl rfl rfl rfl rfl lt0 ?_)
        refine VO.cons rfl (V1.move rfl rfl rfl lt0 ?_)
        refine VO.cons rfl (V1.indexI rfl rfl esz_31 rfl rfl hh8 lt0 ?_)
        refine VO.cons rfl (V1.loadPin rfl rfl tyk_3 rfl rfl lt0 ?_)
        refine VO.cons rfl (V1.call rfl rfl rfl cok_61 rfl (ok_spec_l7Find hh9) rfl lt0 ?_)
        rintro _ _ ⟨rfl, rfl⟩
        refine VO.cons rfl (V1.int rfl rfl rfl rfl rfl lt0 ?_)
        refine VO.nil ?_
        refine V.keep 100 [0, 3, 4, 6, 96] [0] (E0 := [(0, .vl ρ0 4 (List.map (encFormat σ0) list)), (3, .int .i64 i), (4, .ref b0 4 0 0), (6, .int .i64 k0), (96, .bool (decide (y8 < (0 : Int))))]) (H0 := [(b0, ⟨4, [encFormat σ0 (list.getD (Int.toNat i) default)]⟩)]) rfl (⟨_, _, rfl, rfl, ⟨_, _, rfl, rfl, ⟨_, _, rfl, rfl, ⟨_, _, rfl, rfl, ⟨_, _, rfl, rfl, rfl⟩⟩⟩⟩⟩) (⟨_, _, rfl, rfl, rfl⟩) rfl ?_
        refine V.cond rfl (fun hc6 => ?_) (fun hc6 => ?_)
        ·
         replace hm2 := cond_t hc6 hm2
         refine V.seq ?_
         refine V.region ?_
         refine VO.cons rfl (V1.assign rfl rfl rfl lt0 ?_)
         refine VO.nil ?_
         refine V.ret ?_
         obtain rfl := hr2 _ (Option.some.inj hm2).symm
         change some _ = some _ at hm1
         obtain rfl := hr1 _ (Option.some.inj hm1).symm
         change some _ = some _ at hm0
         obtain rfl := Option.some.inj hm0
         exact ⟨_, [], ⟨_, _, rfl, rfl, rfl⟩, List.nil_sublist _, rfl, rfl⟩
        ·
         replace hm2 := cond_f hc6 hm2
         refine V.skip ?_
         refine V.region ?_
         refine VO.cons rfl (V1.move rfl rfl rfl lt0 ?_)
         refine VO.cons rfl (V1.int rfl rfl rfl rfl rfl lt0 ?_)
         refine VO.cons rfl (V1.assign rfl rfl rfl lt0 ?_)
         refine VO.nil ?_
         exact ⟨(m2, (IntKind.i64.wrap (k0 + (1 : Int))), ()), hl2 _ (Option.some.inj hm2).symm, Nat.lt_succ_self _, Keeps.mk (ks := [0]) rfl ⟨rfl, rfl, rfl, rfl, trivial⟩ (⟨_, _, rfl, rfl, rfl⟩) rfl⟩
       ·
        replace hm2 := cond_f hc5 hm2
        refine V.exit ?_
        obtain rfl := hr2 _ (Option.some.inj hm2).symm
        exact ⟨((), ()), rfl, Keeps.mk (ks := []) rfl ⟨rfl, rfl, trivial⟩ (rfl) rfl⟩
      ·
       rintro ⟨_, _⟩ rfl
       try dsimp only at hm1
       refine V.region ?_
       refine VO.cons rfl (V1.move rfl rfl rfl lt0 ?_)
       refine VO.cons rfl (V1.int rfl rfl rfl rfl rfl lt0 ?_)
       refine VO.cons rfl (V1.assign rfl rfl rfl lt0 ?_)
       refine VO.nil ?_
       exact ⟨(m0, (IntKind.i64.wrap (i + (1 : Int))), ()), hl1 _ (Option.some.inj hm1).symm, Nat.lt_succ_self _, Keeps.mk (ks := []) rfl ⟨rfl, rfl, trivial⟩ (rfl) rfl⟩
  ·
   replace hm1 := cond_f hc0 hm1
   refine V.exit ?_
   obtain rfl := hr1 _ (Option.some.inj hm1).symm
   exact ⟨((), ()), rfl, Keeps.mk (ks := []) rfl ⟨rfl, trivial⟩ (rfl) rfl⟩
 ·
  rintro ⟨_, _⟩ rfl
  try dsimp only at hm0
  refine V.seq ?_
  refine V.region ?_
  refine VO.cons rfl (V1.move rfl rfl rfl lt0 ?_)
  refine VO.cons rfl (V1.lenMap rfl rfl rfl rfl rfl rfl isl_44 lt0 ?_)
  refine VO.cons rfl (V1.int rfl rfl rfl rfl rfl lt0 ?_)
  refine VO.cons rfl (V1.assign rfl rfl rfl lt0 ?_)
  refine VO.nil ?_
  refine V.ret ?_
  obtain rfl := Option.some.inj hm0
  exact ⟨_, [], ⟨_, _, rfl, rfl, rfl⟩, List.nil_sublist _, rfl, rfl⟩

theorem ok_spec_l1Most {rn : Nat} {a : Int} {b_ : Int} {r : Int} (h : M.spec_l1Most a b_ = some r) : Does Tryd.prog 94 [.int .i64 a, .int .i64 b_] [] rn (fun x H => x = .int .i64 r ∧ H = []) := by
 have hm0 := h; clear h; unfold M.spec_l1Most at hm0
 try dsimp only at hm0
 refine Does.intro (N := 10) Tryd.func94 rfl rfl rfl rfl ?_
 intro w0 S0
 refine V.seq ?_
 refine V.region ?_
 refine VO.cons rfl (V1.assign rfl rfl rfl lt0 ?_)
 refine VO.nil ?_
 refine V.seq ?_
 refine V.seq ?_
 refine V.region ?_
 refine VO.cons rfl (V1.move rfl rfl rfl lt0 ?_)
 refine VO.cons rfl (V1.move rfl rfl rfl lt0 ?_)
 refine VO.cons rfl (V1.int rfl rfl rfl rfl rfl lt0 ?_)
 refine VO.nil ?_
 refine V.cond rfl (fun hc0 => ?_) (fun hc0 => ?_)
 ·
  replace hm0 := cond_t hc0 hm0
  refine V.seq ?_
  refine V.region ?_
  refine VO.cons rfl (V1.move rfl rfl rfl lt0 ?_)
  refine VO.cons rfl (V1.assign rfl rfl rfl lt0 ?_)
  refine VO.nil ?_
  refine V.ret ?_
  obtain rfl := Option.some.inj hm0
  exact ⟨_, [], ⟨_, _, rfl, rfl, rfl⟩, List.nil_sublist _, rfl, rfl⟩
 ·
  replace hm0 := cond_f hc0 hm0
  refine V.skip ?_
  refine V.keep 10 [1] [] (E0 := [(1, .int .i64 b_)]) (H0 := []) rfl (⟨_, _, rfl, rfl, rfl⟩) (rfl) rfl ?_
  refine V.seq ?_
  refine V.region ?_
  refine VO.cons rfl (V1.move rfl rfl rfl lt0 ?_)
  refine VO.cons rfl (V1.assign rfl rfl rfl lt0 ?_)
  refine VO.nil ?_
  refine V.ret ?_
  obtain rfl := Option.some.inj hm0
  exact ⟨_, [], ⟨_, _, rfl, rfl, rfl⟩, List.nil_sublist _, rfl, rfl⟩

theorem ok_spec_l7Last {ρ0 σ0 rn : Nat} {list : List Format} {id_ : Int} {r : Int} (h : M.spec_l7Last list id_ = some r) : Does Tryd.prog 62 [.vl ρ0 4 (List.map (encFormat σ0) list), .int .i64 id_] [] rn (fun x H => x = .int .i64 r ∧ H = []) := by
 have hm0 := h; clear h; unfold M.spec_l7Last at hm0
 try dsimp only at hm0
 refine Does.intro (N := 35) Tryd.func62 rfl rfl rfl rfl ?_
 intro w0 S0
 refine V.seq ?_
 refine V.region ?_
 refine VO.cons rfl (V1.assign rfl rfl rfl lt0 ?_)
 refine VO.nil ?_
 refine V.seq ?_
 replace hm0 := bindO hm0; rcases hm0 with ⟨y0, hh0, hm0⟩
 replace hm0 := asrt_some hm0; rcases hm0 with ⟨hh1, hm0⟩
 refine V.region ?_
 refine VO.cons rfl (V1.move rfl rfl rfl lt0 ?_)
 refine VO.cons rfl (V1.move rfl rfl rfl lt0 ?_)
 refine VO.cons rfl (V1.move rfl rfl rfl lt0 ?_)
 refine VO.cons rfl (V1.call rfl rfl rfl cok_61 rfl (ok_spec_l7Find hh0) rfl lt0 ?_)
 rintro _ _ ⟨rfl, rfl⟩
 refine VO.cons rfl (V1.indexI rfl rfl esz_44 rfl rfl hh1 lt0 ?_)
 refine VO.cons rfl (V1.fieldPin rfl rfl fo_87_2 rfl lt0 ?_)
 refine VO.cons rfl (V1.loadPin rfl rfl tyk_3 rfl rfl lt0 ?_)
 refine VO.cons rfl (V1.assign rfl rfl rfl lt0 ?_)
 refine VO.nil ?_
 refine V.keep 35 [0, 1, 5] [] (E0 := [(0, .vl ρ0 4 (List.map (encFormat σ0) list)), (1, .int .i64 id_), (5, .int .i64 ((list.getD (Int.toNat y0) default).Until))]) (H0 := []) rfl (⟨_, _, rfl, rfl, ⟨_, _, rfl, rfl, ⟨_, _, rfl, rfl, rfl⟩⟩⟩) (rfl) rfl ?_
 refine V.seq ?_
 refine V.seq ?_
 refine V.region ?_
 refine VO.cons rfl (V1.assign rfl rfl rfl lt0 ?_)
 refine VO.nil ?_
 replace hm0 := bindO hm0; rcases hm0 with ⟨e0, he1, hm0⟩
 refine V.cutT (D := (Int) × (Unit)) (fun ⟨last, _⟩ => ⟨35, [(5, .int .i64 last)], []⟩) (fun ⟨last, _⟩ => (last = e0)) ?_ ?_
 ·
  refine V.block ?_
  refine V.keep 35 [5, 6, 0, 1] [] (E0 := [(5, .int .i64 ((list.getD (Int.toNat y0) default).Until)), (6, .int .i64 (0 : Int)), (0, .vl ρ0 4 (List.map (encFormat σ0) list)), (1, .int .i64 id_)]) (H0 := []) rfl (⟨_, _, rfl, rfl, ⟨_, _, rfl, rfl, ⟨_, _, rfl, rfl, ⟨_, _, rfl, rfl, rfl⟩⟩⟩⟩) (rfl) rfl ?_
  refine V.loopE (D := Nat × (Int × Int) × (Unit)) (fun ⟨n0, ⟨last0, i⟩, _⟩ => [(5, .int .i64 last0), (6, .int .i64 i)]) (fun ⟨n0, ⟨last0, i⟩, _⟩ => []) (fun ⟨n0, ⟨last0, i⟩, _⟩ => loopO (M.spec_l7Last_l0 list id_) n0 (last0, i) = some e0) (fun ⟨n0, _, _⟩ => n0) (rounds, ((list.getD (Int.toNat y0) default).Until, (0 : Int)), ()) rfl he1 ?_
  rintro ⟨n0, ⟨last0, i⟩, _⟩ hP0
  obtain ⟨m0, y1, rfl, hm1, hl1, hr1⟩ := loop_head hP0
  unfold M.spec_l7Last_l0 at hm1; dsimp only at hm1
  show V _ _ _ ⟨35, [(5, .int .i64 last0), (6, .int .i64 i), (0, .vl ρ0 4 (List.map (encFormat σ0) list)), (1, .int .i64 id_)], []⟩
  refine V.seq ?_
  refine V.seq ?_
  refine V.region ?_
  refine VO.cons rfl (V1.move rfl rfl rfl lt0 ?_)
  refine VO.cons rfl (V1.move rfl rfl rfl lt0 ?_)
  refine VO.cons rfl (V1.lenMap rfl rfl rfl rfl rfl rfl isl_44 lt0 ?_)
  refine VO.cons rfl (V1.int rfl rfl rfl rfl rfl lt0 ?_)
  refine VO.nil ?_
  refine V.cond rfl (fun hc0 => ?_) (fun hc0 => ?_)
  ·
   replace hm1 := cond_t hc0 hm1
   refine V.skip ?_
   refine V.keep 35 [0, 1, 5, 6] [] (E0 := [(0, .vl ρ0 4 (List.map (encFormat σ0) list)), (1, .int .i64 id_), (5, .int .i64 last0), (6, .int .i64 i)]) (H0 := []) rfl (⟨_, _, rfl, rfl, ⟨_, _, rfl, rfl, ⟨_, _, rfl, rfl, ⟨_, _, rfl, rfl, rfl⟩⟩⟩⟩) (rfl) rfl ?_
   refine V.seq ?_
   replace hm1 := bindO hm1; rcases hm1 with ⟨j0, hm2, hm1⟩
   refine V.cutT (D := (Int) × (Unit)) (fun ⟨last1, _⟩ => ⟨35, [(5, .int .i64 last1), (0, .vl ρ0 4 (List.map (encFormat σ0) list)), (1, .int .i64 id_), (6, .int .i64 i)], []⟩) (fun ⟨last1, _⟩ => (last1 = j0)) ?_ ?_
   ·
    refine V.block ?_
    refine V.seq ?_
    replace hm2 := asrt_some hm2; rcases hm2 with ⟨hh2, hm2⟩
    replace hm2 := bindO hm2; rcases hm2 with ⟨y2, hh3, hm2⟩
    refine V.region ?_
    refine VO.cons rfl (V1.move rfl rfl rfl lt0 ?_)
    refine VO.cons rfl (V1.move rfl rfl rfl lt0 ?_)
    refine VO.cons rfl (V1.indexI rfl rfl esz_44 rfl rfl hh2 lt0 ?_)
    refine VO.cons rfl (V1.fieldPin rfl rfl fo_87_3 rfl lt0 ?_)
    refine VO.cons rfl (V1.loadPin rfl rfl tyk_31 rfl rfl lt0 ?_)
    refine VO.cons rfl (V1.move rfl rfl rfl lt0 ?_)
    refine VO.cons rfl (V1.call rfl rfl rfl cok_47 rfl (ok_spec_l1Has hh3) rfl lt0 ?_)
    rintro _ _ ⟨rfl, rfl⟩
    refine VO.nil ?_
    refine V.keep 35 [0, 1, 5, 6, 26] [] (E0 := [(0, .vl ρ0 4 (List.map (encFormat σ0) list)), (1, .int .i64 id_), (5, .int .i64 last0), (6, .int .i64 i), (26, .bool y2)]) (H0 := []) rfl (⟨_, _, rfl, rfl, ⟨_, _, rfl, rfl, ⟨_, _, rfl, rfl, ⟨_, _, rfl, rfl, ⟨_, _, rfl, rfl, rfl⟩⟩⟩⟩⟩) (rfl) rfl ?_
    refine V.cond rfl (fun hc1 => ?_) (fun hc1 => ?_)
    ·
     replace hm2 := cond_t hc1 hm2
     replace hm2 := asrt_some hm2; rcases hm2 with ⟨hh4, hm2⟩
     replace hm2 := bindO hm2; rcases hm2 with ⟨y3, hh5, hm2⟩
     refine V.region ?_
     refine VO.cons rfl (V1.move rfl rfl rfl lt0 ?_)
     refine VO.cons rfl (V1.move rfl rfl rfl lt0 ?_)
     refine VO.cons rfl (V1.move rfl rfl rfl lt0 ?_)
     refine VO.cons rfl (V1.indexI rfl rfl esz_44 rfl rfl hh4 lt0 ?_)
     refine VO.cons rfl (V1.fieldPin rfl rfl fo_87_2 rfl lt0 ?_)
     refine VO.cons rfl (V1.loadPin rfl rfl tyk_3 rfl rfl lt0 ?_)
     refine VO.cons rfl (V1.call rfl rfl rfl cok_94 rfl (ok_spec_l1Most hh5) rfl lt0 ?_)
     rintro _ _ ⟨rfl, rfl⟩
     refine VO.cons rfl (V1.assign rfl rfl rfl lt0 ?_)
     refine VO.nil ?_
     exact ⟨(y3, ()), Option.some.inj hm2, Keeps.mk (ks := []) rfl ⟨rfl, rfl, rfl, rfl, trivial⟩ (rfl) rfl⟩
    ·
     replace hm2 := cond_f hc1 hm2
     refine V.skip ?_
     exact ⟨(last0, ()), Option.some.inj hm2, Keeps.mk (ks := []) rfl ⟨rfl, rfl, rfl, rfl, trivial⟩ (rfl) rfl⟩
   ·
    rintro ⟨last1, _⟩ rfl
    try dsimp only at hm1
    refine V.region ?_
    refine VO.cons rfl (V1.move rfl rfl rfl lt0 ?_)
    refine VO.cons rfl (V1.int rfl rfl rfl rfl rfl lt0 ?_)
    refine VO.cons rfl (V1.assign rfl rfl rfl lt0 ?_)
    refine VO.nil ?_
    exact ⟨(m0, (last1, (IntKind.i64.wrap (i + (1 : Int)))), ()), hl1 _ (Option.some.inj hm1).symm, Nat.lt_succ_self _, Keeps.mk (ks := []) rfl ⟨rfl, rfl, rfl, rfl, trivial⟩ (rfl) rfl⟩
  ·
   replace hm1 := cond_f hc0 hm1
   refine V.exit ?_
   obtain rfl := hr1 _ (Option.some.inj hm1).symm
   exact ⟨(last0, ()), rfl, Keeps.mk (ks := []) rfl ⟨rfl, trivial⟩ (rfl) rfl⟩
 ·
  rintro ⟨last, _⟩ rfl
  try dsimp only at hm0
  refine V.seq ?_
  refine V.region ?_
  refine VO.cons rfl (V1.move rfl rfl rfl lt0 ?_)
  refine VO.cons rfl (V1.assign rfl rfl rfl lt0 ?_)
  refine VO.nil ?_
  refine V.ret ?_
  obtain rfl := Option.some.inj hm0
  exact ⟨_, [], ⟨_, _, rfl, rfl, rfl⟩, List.nil_sublist _, rfl, rfl⟩

theorem ok_spec_LastReadable {ρ0 σ0 rn : Nat} {list : List Format} {id_ : Int} {r : Int × Bool} (h : M.spec_LastReadable list id_ = some r) : Does Tryd.prog 24 [.vl ρ0 4 (List.map (encFormat σ0) list), .int .i64 id_] [] rn (fun x H => x = .tup [.int .i64 r.1, .bool r.2] ∧ H = []) := by
 have hm0 := h; clear h; unfold M.spec_LastReadable at hm0
 try dsimp only at hm0
 refine Does.intro (N := 18) Tryd.func24 rfl rfl rfl rfl ?_
 intro w0 S0
 refine V.seq ?_
 refine V.region ?_
 refine VO.cons rfl (V1.assign rfl rfl rfl lt0 ?_)
 refine VO.cons rfl (V1.assign rfl rfl rfl lt0 ?_)
 refine VO.nil ?_
 refine V.seq ?_
 refine V.seq ?_
 replace hm0 := bindO hm0; rcases hm0 with ⟨y0, hh0, hm0⟩
 replace hm0 := bindO hm0; rcases hm0 with ⟨y1, hh1, hm0⟩
 refine V.region ?_
 refine VO.cons rfl (V1.move rfl rfl rfl lt0 ?_)
 refine VO.cons rfl (V1.call rfl rfl rfl cok_60 rfl (ok_spec_l7Good hh0) rfl lt0 ?_)
 rintro _ _ ⟨rfl, rfl⟩
 refine VO.cons rfl (V1.not rfl rfl rfl lt0 ?_)
 refine VO.cons rfl (V1.move rfl rfl rfl lt0 ?_)
 apply VO.or (n := 4) rfl rfl rfl rfl rfl rfl lt0 (.none rfl)
 ·
  intro hg0
  refine VO.step (.some rfl rfl rfl) (V1.move rfl rfl rfl lt0 ?_)
  refine VO.step (.some rfl rfl rfl) (V1.move rfl rfl rfl lt0 ?_)
  refine VO.step (.some rfl rfl rfl) (V1.call rfl rfl rfl cok_61 rfl (ok_spec_l7Find (cond_f hg0 hh1)) rfl lt0 ?_)
  rintro _ _ ⟨rfl, rfl⟩
  refine VO.step (.some rfl rfl rfl) (V1.int rfl rfl rfl rfl rfl lt0 ?_)
  exact VO.nil ⟨rfl, rfl, rfl, rfl, .inr ⟨rfl, .inr ⟨rfl, .inr ⟨rfl, .inr ⟨rfl, .inr ⟨rfl, .inl rfl⟩⟩⟩⟩⟩⟩
 refine VO.nil ?_
 refine V.keep 18 [0, 1, 14] [] (E0 := [(0, .vl ρ0 4 (List.map (encFormat σ0) list)), (1, .int .i64 id_), (14, .bool ((!y0) || (decide (y1 < (0 : Int)))))]) (H0 := []) rfl (⟨_, _, rfl, rfl, ⟨_, _, rfl, rfl, ⟨_, _, rfl, rfl, rfl⟩⟩⟩) (rfl) rfl ?_
 refine V.cond rfl (fun hc0 => ?_) (fun hc0 => ?_)
 ·
  replace hm0 := cond_t hc0 hm0
  refine V.seq ?_
  refine V.region ?_
  refine VO.cons rfl (V1.assign rfl rfl rfl lt0 ?_)
  refine VO.cons rfl (V1.assign rfl rfl rfl lt0 ?_)
  refine VO.nil ?_
  refine V.ret ?_
  obtain rfl := Option.some.inj hm0
  exact ⟨_, [], ⟨_, _, rfl, rfl, ⟨_, _, rfl, rfl, rfl⟩⟩, List.nil_sublist _, rfl, rfl⟩
 ·
  replace hm0 := cond_f hc0 hm0
  refine V.skip ?_
  refine V.seq ?_
  replace hm0 := bindO hm0; rcases hm0 with ⟨y2, hh2, hm0⟩
  refine V.region ?_
  refine VO.cons rfl (V1.move rfl rfl rfl lt0 ?_)
  refine VO.cons rfl (V1.move rfl rfl rfl lt0 ?_)
  refine VO.cons rfl (V1.call rfl rfl rfl cok_62 rfl (ok_spec_l7Last hh2) rfl lt0 ?_)
  rintro _ _ ⟨rfl, rfl⟩
  refine VO.cons rfl (V1.assign rfl rfl rfl lt0 ?_)
  refine VO.cons rfl (V1.assign rfl rfl rfl lt0 ?_)
  refine VO.nil ?_
  refine V.ret ?_
  obtain rfl := Option.some.inj hm0
  exact ⟨_, [], ⟨_, _, rfl, rfl, ⟨_, _, rfl, rfl, rfl⟩⟩, List.nil_sublist _, rfl, rfl⟩

theorem ok_impl_isOnDay {ρ0 rn : Nat} {list : List Format} {id_ : Int} {day : Int} {r : Bool} (h : M.impl_isOnDay list id_ day = some r) : Does Tryd.prog 63 [.vl ρ0 4 (List.map (encFormat ρ0) list), .int .i64 id_, .int .i64 day] [] rn (fun x H => x = .bool r ∧ H = []) := by
 have hm0 := h; clear h; unfold M.impl_isOnDay at hm0
 try dsimp only at hm0
 refine Does.intro (N := 19) Tryd.func63 rfl rfl rfl rfl ?_
 intro w0 S0
 refine V.seq ?_
 refine V.region ?_
 refine VO.cons rfl (V1.assign rfl rfl rfl lt0 ?_)
 refine VO.nil ?_
 refine V.seq ?_
 replace hm0 := bindO hm0; rcases hm0 with ⟨y0, hh0, hm0⟩
 replace hm0 := bindO hm0; rcases hm0 with ⟨y1, hh1, hm0⟩
 replace hm0 := bindO hm0; rcases hm0 with ⟨y2, hh2, hm0⟩
 refine V.region ?_
 refine VO.cons rfl (V1.move rfl rfl rfl lt0 ?_)
 refine VO.cons rfl (V1.call rfl rfl rfl cok_37 rfl (ok_impl_AreFormats hh0) rfl lt0 ?_)
 rintro _ _ ⟨rfl, rfl⟩
 refine VO.cons rfl (V1.move rfl rfl rfl lt0 ?_)
 apply VO.and (n := 4) rfl rfl rfl rfl rfl rfl lt0 (.none rfl)
 ·
  intro hg0
  refine VO.step (.some rfl rfl rfl) (V1.move rfl rfl rfl lt0 ?_)
  refine VO.step (.some rfl rfl rfl) (V1.move rfl rfl rfl lt0 ?_)
  refine VO.step (.some rfl rfl rfl) (V1.call rfl rfl rfl cok_58 rfl (ok_impl_formatAt (cond_t hg0 hh1)) rfl lt0 ?_)
  rintro _ _ ⟨rfl, rfl⟩
  refine VO.step (.some rfl rfl rfl) (V1.int rfl rfl rfl rfl rfl lt0 ?_)
  exact VO.nil ⟨rfl, rfl, rfl, rfl, .inr ⟨rfl, .inr ⟨rfl, .inr ⟨rfl, .inr ⟨rfl, .inr ⟨rfl, .inl rfl⟩⟩⟩⟩⟩⟩
 refine VO.cons rfl (V1.move rfl rfl rfl lt0 ?_)
 apply VO.and (n := 2) rfl rfl rfl rfl rfl rfl lt0 (.none rfl)
 ·
  intro hg1
  refine VO.step (.some rfl rfl rfl) (V1.move rfl rfl rfl lt0 ?_)
  refine VO.step (.some rfl rfl rfl) (V1.call rfl rfl rfl cok_66 rfl (ok_impl_isDay (cond_t hg1 hh2)) rfl lt0 ?_)
  rintro _ _ ⟨rfl, rfl⟩
  exact VO.nil ⟨rfl, rfl, rfl, rfl, .inr ⟨rfl, .inr ⟨rfl, .inr ⟨rfl, .inl rfl⟩⟩⟩⟩
 refine VO.cons rfl (V1.assign rfl rfl rfl lt0 ?_)
 refine VO.nil ?_
 refine V.ret ?_
 obtain rfl := Option.some.inj hm0
 exact ⟨_, [], ⟨_, _, rfl, rfl, rfl⟩, List.nil_sublist _, rfl, rfl⟩

theorem ok_impl_IsReadable {ρ0 rn : Nat} {list : List Format} {id_ : Int} {day : Int} {r : Bool × Bool} (h : M.impl_IsReadable list id_ day = some r) : Does Tryd.prog 25 [.vl ρ0 4 (List.map (encFormat ρ0) list), .int .i64 id_, .int .i64 day] [] rn (fun x H => x = .tup [.bool r.1, .bool r.2] ∧ H = []) := by
 have hm0 := h; clear h; unfold M.impl_IsReadable at hm0
 try dsimp only at hm0
 refine Does.intro (N := 18) Tryd.func25 rfl rfl rfl rfl ?_
 intro w0 S0
 refine V.seq ?_
 refine V.region ?_
 refine VO.cons rfl (V1.assign rfl rfl rfl lt0 ?_)
 refine VO.cons rfl (V1.assign rfl rfl rfl lt0 ?_)
 refine VO.nil ?_
 refine V.seq ?_
 refine V.seq ?_
 replace hm0 := bindO hm0; rcases hm0 with ⟨y0, hh0, hm0⟩
 refine V.region ?_
 refine VO.cons rfl (V1.move rfl rfl rfl lt0 ?_)
 refine VO.cons rfl (V1.move rfl rfl rfl lt0 ?_)
 refine VO.cons rfl (V1.move rfl rfl rfl lt0 ?_)
 refine VO.cons rfl (V1.call rfl rfl rfl cok_63 rfl (ok_impl_isOnDay hh0) rfl lt0 ?_)
 rintro _ _ ⟨rfl, rfl⟩
 refine VO.cons rfl (V1.not rfl rfl rfl lt0 ?_)
 refine VO.nil ?_
 refine V.keep 18 [0, 1, 2, 12] [] (E0 := [(0, .vl ρ0 4 (List.map (encFormat ρ0) list)), (1, .int .i64 id_), (2, .int .i64 day), (12, .bool (!y0))]) (H0 := []) rfl (⟨_, _, rfl, rfl, ⟨_, _, rfl, rfl, ⟨_, _, rfl, rfl, ⟨_, _, rfl, rfl, rfl⟩⟩⟩⟩) (rfl) rfl ?_
 refine V.cond rfl (fun hc0 => ?_) (fun hc0 => ?_)
 ·
  replace hm0 := cond_t hc0 hm0
  refine V.seq ?_
  refine V.region ?_
  refine VO.cons rfl (V1.assign rfl rfl rfl lt0 ?_)
  refine VO.cons rfl (V1.assign rfl rfl rfl lt0 ?_)
  refine VO.nil ?_
  refine V.ret ?_
  obtain rfl := Option.some.inj hm0
  exact ⟨_, [], ⟨_, _, rfl, rfl, ⟨_, _, rfl, rfl, rfl⟩⟩, List.nil_sublist _, rfl, rfl⟩
 ·
  replace hm0 := cond_f hc0 hm0
  refine V.skip ?_
  refine V.seq ?_
  replace hm0 := bindO hm0; rcases hm0 with ⟨y1, hh1, hm0⟩
  refine V.region ?_
  refine VO.cons rfl (V1.move rfl rfl rfl lt0 ?_)
  refine VO.cons rfl (V1.move rfl rfl rfl lt0 ?_)
  refine VO.cons rfl (V1.call rfl rfl rfl cok_59 rfl (ok_impl_lastReadable hh1) rfl lt0 ?_)
  rintro _ _ ⟨rfl, rfl⟩
  refine VO.cons rfl (V1.move rfl rfl rfl lt0 ?_)
  refine VO.cons rfl (V1.int rfl rfl rfl rfl rfl lt0 ?_)
  refine VO.cons rfl (V1.assign rfl rfl rfl lt0 ?_)
  refine VO.cons rfl (V1.assign rfl rfl rfl lt0 ?_)
  refine VO.nil ?_
  refine V.ret ?_
  obtain rfl := Option.some.inj hm0
  exact ⟨_, [], ⟨_, _, rfl, rfl, ⟨_, _, rfl, rfl, rfl⟩⟩, List.nil_sublist _, rfl, rfl⟩

theorem ok_spec_l7Copies {ρ0 σ0 ρ1 rn : Nat} {list : List Format} {copies : List Copy} {r : Bool} (h : M.spec_l7Copies list copies = some r) : Does Tryd.prog 69 [.vl ρ0 4 (List.map (encFormat σ0) list), .vl ρ1 4 (List.map encCopy copies)] [] rn (fun x H => x = .bool r ∧ H = []) := by
 have hm0 := h; clear h; unfold M.spec_l7Copies at hm0
 try dsimp only at hm0
 refine Does.intro (N := 82) Tryd.func69 rfl rfl rfl rfl ?_
 intro w0 S0
 refine V.seq ?_
 refine V.region ?_
 refine VO.cons rfl (V1.assign rfl rfl rfl lt0 ?_)
 refine VO.nil ?_
 refine V.seq ?_
 refine V.seq ?_
 refine V.region ?_
 refine VO.cons rfl (V1.assign rfl rfl rfl lt0 ?_)
 refine VO.nil ?_
 replace hm0 := bindO hm0; rcases hm0 with ⟨e0, he1, hm0⟩
 refine V.cutT (D := (Unit) × (Unit)) (fun ⟨_, _⟩ => ⟨82, [(0, .vl ρ0 4 (List.map (encFormat σ0) list)), (1, .vl ρ1 4 (List.map encCopy copies))], []⟩) (fun ⟨_, _⟩ => (.inl () = e0)) ?_ ?_
 ·
  refine V.block ?_
  refine V.keep 82 [5, 0, 1] [] (E0 := [(5, .int .i64 (0 : Int)), (0, .vl ρ0 4 (List.map (encFormat σ0) list)), (1, .vl ρ1 4 (List.map encCopy copies))]) (H0 := []) rfl (⟨_, _, rfl, rfl, ⟨_, _, rfl, rfl, ⟨_, _, rfl, rfl, rfl⟩⟩⟩) (rfl) rfl ?_
  refine V.loopE (D := Nat × (Int) × (Unit)) (fun ⟨n0, i, _⟩ => [(5, .int .i64 i)]) (fun ⟨n0, i, _⟩ => []) (fun ⟨n0, i, _⟩ => loopO (M.spec_l7Copies_l0 list copies) n0 i = some e0) (fun ⟨n0, _, _⟩ => n0) (rounds, (0 : Int), ()) rfl he1 ?_
  rintro ⟨n0, i, _⟩ hP0
  obtain ⟨m0, y0, rfl, hm1, hl1, hr1⟩ := loop_head hP0
  unfold M.spec_l7Copies_l0 at hm1; dsimp only at hm1
  show V _ _ _ ⟨82, [(5, .int .i64 i), (0, .vl ρ0 4 (List.map (encFormat σ0) list)), (1, .vl ρ1 4 (List.map encCopy copies))], []⟩
  refine V.seq ?_
  refine V.seq ?_
  refine V.region ?_
  refine VO.cons rfl (V1.move rfl rfl rfl lt0 ?_)
  refine VO.cons rfl (V1.move rfl rfl rfl lt0 ?_)
  refine VO.cons rfl (V1.lenMap rfl rfl rfl rfl rfl rfl isl_50 lt0 ?_)
  refine VO.cons rfl (V1.int rfl rfl rfl rfl rfl lt0 ?_)
  refine VO.nil ?_
  refine V.cond rfl (fun hc0 => ?_) (fun hc0 => ?_)
  ·
   replace hm1 := cond_t hc0 hm1
   refine V.skip ?_
   refine V.keep 82 [0, 1, 5] [] (E0 := [(0, .vl ρ0 4 (List.map (encFormat σ0) list)), (1, .vl ρ1 4 (List.map encCopy copies)), (5, .int .i64 i)]) (H0 := []) rfl (⟨_, _, rfl, rfl, ⟨_, _, rfl, rfl, ⟨_, _, rfl, rfl, rfl⟩⟩⟩) (rfl) rfl ?_
   refine V.seq ?_
   refine V.block ?_
   refine V.seq ?_
   replace hm1 := asrt_some hm1; rcases hm1 with ⟨hh0, hm1⟩
   refine V.region ?_
   refine VO.cons rfl (V1.move rfl rfl rfl lt0 ?_)
   refine VO.cons rfl (V1.move rfl rfl rfl lt0 ?_)
   refine VO.cons rfl (V1.indexI rfl rfl esz_50 rfl rfl hh0 lt0 ?_)
   refine VO.cons rfl (V1.loadPinAll rfl rfl tyk_59 rfl rfl lt0 ?_)
   refine VO.cons rfl (V1.alloc rfl rfl zk_59 lt0 ?_)
   intro b0
   refine VO.cons rfl (V1.storeRefAll (k := 0) rfl rfl tyk_59 rfl rfl rfl rfl rfl rfl ?_)
   refine VO.nil ?_
   refine V.keep 82 [0, 1, 5, 6] [0] (E0 := [(0, .vl ρ0 4 (List.map (encFormat σ0) list)), (1, .vl ρ1 4 (List.map encCopy copies)), (5, .int .i64 i), (6, .ref b0 4 0 0)]) (H0 := [(b0, ⟨4, [encCopy (copies.getD (Int.toNat i) default)]⟩)]) rfl (⟨_, _, rfl, rfl, ⟨_, _, rfl, rfl, ⟨_, _, rfl, rfl, ⟨_, _, rfl, rfl, rfl⟩⟩⟩⟩) (⟨_, _, rfl, rfl, rfl⟩) rfl ?_
   refine V.seq ?_
   refine V.seq ?_
   replace hm1 := bindO hm1; rcases hm1 with ⟨y1, hh1, hm1⟩
   replace hm1 := bindO hm1; rcases hm1 with ⟨y2, hh2, hm1⟩
   replace hm1 := bindO hm1; rcases hm1 with ⟨y3, hh3, hm1⟩
   replace hm1 := bindO hm1; rcases hm1 with ⟨y4, hh4, hm1⟩
   refine V.region ?_
   refine VO.cons rfl (V1.fieldRef rfl rfl fo_59_0 rfl lt0 ?_)
   refine VO.cons rfl (V1.loadRef (k := 0) rfl rfl tyk_3 rfl rfl rfl rfl rfl lt0 ?_)
   refine VO.cons rfl (V1.call rfl rfl rfl cok_91 rfl (ok_spec_l1In hh1) rfl lt0 ?_)
   rintro _ _ ⟨rfl, rfl⟩
   refine VO.cons rfl (V1.not rfl rfl rfl lt0 ?_)
   refine VO.cons rfl (V1.move rfl rfl rfl lt0 ?_)
   apply VO.or (n := 5) rfl rfl rfl rfl rfl rfl lt0 (.none rfl)
   ·
    intro hg0
    refine VO.step (.some rfl rfl rfl) (V1.move rfl rfl rfl lt0 ?_)
    refine VO.step (.some rfl rfl rfl) (V1.fieldRef rfl rfl fo_59_1 rfl lt0 ?_)
    refine VO.step (.some rfl rfl rfl) (V1.loadRef (k := 0) rfl rfl tyk_3 rfl rfl rfl rfl rfl lt0 ?_)
    refine VO.step (.some rfl rfl rfl) (V1.call rfl rfl rfl cok_61 rfl (ok_spec_l7Find (cond_f hg0 hh2)) rfl lt0 ?_)
    rintro _ _ ⟨rfl, rfl⟩
    refine VO.step (.some rfl rfl rfl) (V1.int rfl rfl rfl rfl rfl lt0 ?_)
    exact VO.nil ⟨rfl, rfl, rfl, rfl, .inr ⟨rfl, .inr ⟨rfl, .inr ⟨rfl, .inr ⟨rfl, .inr ⟨rfl, .inr ⟨rfl, .inl rfl⟩⟩⟩⟩⟩⟩⟩
   refine VO.cons rfl (V1.move rfl rfl rfl lt0 ?_)
   apply VO.or (n := 4) rfl rfl rfl rfl rfl rfl lt0 (.none rfl)
   ·
    intro hg1
    refine VO.step (.some rfl rfl rfl) (V1.fieldRef rfl rfl fo_59_2 rfl lt0 ?_)
    refine VO.step (.some rfl rfl rfl) (V1.loadRef (k := 0) rfl rfl tyk_3 rfl rfl rfl rfl rfl lt0 ?_)
    refine VO.step (.some rfl rfl rfl) (V1.call rfl rfl rfl cok_91 rfl (ok_spec_l1In (cond_f hg1 hh3)) rfl lt0 ?_)
    rintro _ _ ⟨rfl, rfl⟩
    refine VO.step (.some rfl rfl rfl) (V1.not rfl rfl rfl lt0 ?_)
    exact VO.nil ⟨rfl, rfl, rfl, rfl, .inr ⟨rfl, .inr ⟨rfl, .inr ⟨rfl, .inr ⟨rfl, .inr ⟨rfl, .inl rfl⟩⟩⟩⟩⟩⟩
   refine VO.cons rfl (V1.move rfl rfl rfl lt0 ?_)
   apply VO.or (n := 4) rfl rfl rfl rfl rfl rfl lt0 (.none rfl)
   ·
    intro hg2
    refine VO.step (.some rfl rfl rfl) (V1.fieldRef rfl rfl fo_59_3 rfl lt0 ?_)
    refine VO.step (.some rfl rfl rfl) (V1.loadRef (k := 0) rfl rfl tyk_3 rfl rfl rfl rfl rfl lt0 ?_)
    refine VO.step (.some rfl rfl rfl) (V1.call rfl rfl rfl cok_70 rfl (ok_spec_l2Day (cond_f hg2 hh4)) rfl lt0 ?_)
    rintro _ _ ⟨rfl, rfl⟩
    refine VO.step (.some rfl rfl rfl) (V1.not rfl rfl rfl lt0 ?_)
    exact VO.nil ⟨rfl, rfl, rfl, rfl, .inr ⟨rfl, .inr ⟨rfl, .inr ⟨rfl, .inr ⟨rfl, .inr ⟨rfl, .inl rfl⟩⟩⟩⟩⟩⟩
   refine VO.nil ?_
   refine V.keep 82 [0, 1, 5, 6, 39] [0] (E0 := [(0, .vl ρ0 4 (List.map (encFormat σ0) list)), (1, .vl ρ1 4 (List.map encCopy copies)), (5, .int .i64 i), (6, .ref b0 4 0 0), (39, .bool ((((!y1) || (decide (y2 < (0 : Int)))) || (!y3)) || (!y4)))]) (H0 := [(b0, ⟨4, [encCopy (copies.getD (Int.toNat i) default)]⟩)]) rfl (⟨_, _, rfl, rfl, ⟨_, _, rfl, rfl, ⟨_, _, rfl, rfl, ⟨_, _, rfl, rfl, ⟨_, _, rfl, rfl, rfl⟩⟩⟩⟩⟩) (⟨_, _, rfl, rfl, rfl⟩) rfl ?_
   refine V.cond rfl (fun hc1 => ?_) (fun hc1 => ?_)
   ·
    replace hm1 := cond_t hc1 hm1
    refine V.seq ?_
    refine V.region ?_
    refine VO.cons rfl (V1.assign rfl rfl rfl lt0 ?_)
    refine VO.nil ?_
    refine V.ret ?_
    obtain rfl := hr1 _ (Option.some.inj hm1).symm
    change some _ = some _ at hm0
    obtain rfl := Option.some.inj hm0
    exact ⟨_, [], ⟨_, _, rfl, rfl, rfl⟩, List.nil_sublist _, rfl, rfl⟩
   ·
    replace hm1 := cond_f hc1 hm1
    refine V.skip ?_
    refine V.seq ?_
    replace hm1 := asrt_some hm1; rcases hm1 with ⟨hh5, hm1⟩
    replace hm1 := asrt_some hm1; rcases hm1 with ⟨hh6, hm1⟩
    replace hm1 := asrt_some hm1; rcases hm1 with ⟨hh7, hm1⟩
    refine V.regionM 82 35 [⟨[(5, none)], [], none⟩, ⟨[(40, some 0)], [], none⟩, ⟨[(41, some 0)], [], none⟩, ⟨[(1, none)], [(0, true)], none⟩, ⟨[(5, none)], [(1, true)], none⟩, ⟨[(44, some 0)], [(2, true)], none⟩, ⟨[(43, some 2), (45, some 0)], [(3, true)], none⟩, ⟨[(46, some 0)], [(4, true)], none⟩, ⟨[(47, some 0)], [(5, true)], none⟩, ⟨[(6, none)], [(6, true)], none⟩, ⟨[(49, some 0)], [(7, true)], none⟩, ⟨[(48, some 2), (50, some 0)], [(8, true)], none⟩, ⟨[(51, some 0)], [(9, true)], none⟩, ⟨[(1, none)], [(0, false), (10, true)], none⟩, ⟨[(5, none)], [(1, false), (11, true)], none⟩, ⟨[(54, some 0)], [(2, false), (12, true)], none⟩, ⟨[(53, some 2), (55, some 0)], [(3, false), (13, true)], none⟩, ⟨[(56, some 0)], [(4, false), (14, true)], none⟩, ⟨[(57, some 0)], [(5, false), (15, true)], none⟩, ⟨[(6, none)], [(6, false), (16, true)], none⟩, ⟨[(59, some 0)], [(7, false), (17, true)], none⟩, ⟨[(58, some 2), (60, some 0)], [(8, false), (18, true)], none⟩, ⟨[(61, some 0)], [(9, false), (19, true)], none⟩, ⟨[(1, none)], [(0, true), (10, false), (20, true)], none⟩, ⟨[(5, none)], [(1, true), (11, false), (21, true)], none⟩, ⟨[(64, some 0)], [(2, true), (12, false), (22, true)], none⟩, ⟨[(63, some 2), (65, some 0)], [(3, true), (13, false), (23, true)], none⟩, ⟨[(66, some 0)], [(4, true), (14, false), (24, true)], none⟩, ⟨[(67, some 0)], [(5, true), (15, false), (25, true)], none⟩, ⟨[(6, none)], [(6, true), (16, false), (26, true)], none⟩, ⟨[(69, some 0)], [(7, true), (17, false), (27, true)], none⟩, ⟨[(68, some 2), (70, some 0)], [(8, true), (18, false), (28, true)], none⟩, ⟨[], [(19, false), (29, true)], some (true, 62, 71, 9, 0)⟩, ⟨[], [(30, true)], some (false, 52, 72, 20, 0)⟩, ⟨[], [], some (true, 42, 73, 31, 0)⟩] [(0, none), (1, none), (5, none), (74, some 0)] (⟨_, rfl, ⟨_, rfl, ⟨_, rfl, ⟨_, rfl, ⟨_, rfl, ⟨_, rfl, ⟨_, rfl, ⟨_, rfl, ⟨_, rfl, ⟨_, rfl, ⟨_, rfl, ⟨_, rfl, ⟨_, rfl, ⟨_, rfl, ⟨_, rfl, ⟨_, rfl, ⟨_, rfl, ⟨_, rfl, ⟨_, rfl, ⟨_, rfl, ⟨_, rfl, ⟨_, rfl, ⟨_, rfl, ⟨_, rfl, ⟨_, rfl, ⟨_, rfl, ⟨_, rfl, ⟨_, rfl, ⟨_, rfl, ⟨_, rfl, ⟨_, rfl, ⟨_, rfl, ⟨_, rfl, ⟨_, rfl, ⟨_, rfl, ⟨rfl, rfl⟩⟩⟩⟩⟩⟩⟩⟩⟩⟩⟩⟩⟩⟩⟩⟩⟩⟩⟩⟩⟩⟩⟩⟩⟩⟩⟩⟩⟩⟩⟩⟩⟩⟩⟩⟩) mixed_orders rfl (by decide +kernel) (fun hck7 => ?_)
    refine VP.step (p := ?pv257) rfl rfl rfl (⟨_, _, rfl, rfl, rfl⟩) ?hv257 ?rest257 hck7
    case hv257 =>
     intro E1
     refine (V1.move rfl rfl rfl lt0 ?_)
     exact rfl
    refine VP.step (p := ?pv258) rfl rfl rfl (⟨_, _, rfl, rfl, rfl⟩) ?hv258 ?rest258 hck7
    case hv258 =>
     intro E1
     refine (V1.int rfl rfl rfl rfl rfl lt0 ?_)
     exact rfl
    refine VP.step (p := ?pv259) rfl rfl rfl (⟨_, _, rfl, rfl, rfl⟩) ?hv259 ?rest259 hck7
    case hv259 =>
     intro E1
     refine (V1.move rfl rfl rfl lt0 ?_)
     exact rfl
    refine VP.step (p := ?pv260) rfl rfl rfl (⟨_, _, rfl, rfl, rfl⟩) ?hv260 ?rest260 hck7
    case hv260 =>
     refine ⟨_, rfl, fun hg3 => ?_⟩
     intro E1
     refine (V1.move rfl rfl rfl lt0 ?_)
     exact rfl
    refine VP.step (p := ?pv261) rfl rfl rfl (⟨_, _, rfl, rfl, rfl⟩) ?hv261 ?rest261 hck7
    case hv261 =>
     refine ⟨_, rfl, fun hg3 => ?_⟩
     intro E1
     refine (V1.move rfl rfl rfl lt0 ?_)
     exact rfl
    refine VP.step (p := ?pv262) rfl rfl rfl (⟨_, _, rfl, rfl, rfl⟩) ?hv262 ?rest262 hck7
    case hv262 =>
     refine ⟨_, rfl, fun hg3 => ?_⟩
     intro E1
     refine (V1.int rfl rfl rfl rfl rfl lt0 ?_)
     exact rfl
    refine VP.step (p := ?pv263) rfl rfl rfl (⟨_, _, rfl, rfl, ⟨_, _, rfl, rfl, rfl⟩⟩) ?hv263 ?rest263 hck7
    case hv263 =>
     refine ⟨_, rfl, fun hg3 => ?_⟩
     intro E1
     refine (V1.indexI rfl rfl esz_50 rfl rfl (hh5 hg3) lt0 ?_)
     exact rfl
    refine VP.step (p := ?pv264) rfl rfl rfl (⟨_, _, rfl, rfl, rfl⟩) ?hv264 ?rest264 hck7
    case hv264 =>
     refine ⟨_, rfl, fun hg3 => ?_⟩
     intro E1
     refine (V1.fieldPin rfl rfl fo_59_0 rfl lt0 ?_)
     exact rfl
    refine VP.step (p := ?pv265) rfl rfl rfl (⟨_, _, rfl, rfl, rfl⟩) ?hv265 ?rest265 hck7
    case hv265 =>
     refine ⟨_, rfl, fun hg3 => ?_⟩
     intro E1
     refine (V1.loadPin rfl rfl tyk_3 rfl rfl lt0 ?_)
     exact rfl
    refine VP.step (p := ?pv266) rfl rfl rfl (⟨_, _, rfl, rfl, rfl⟩) ?hv266 ?rest266 hck7
    case hv266 =>
     refine ⟨_, rfl, fun hg3 => ?_⟩
     intro E1
     refine (V1.fieldRef rfl rfl fo_59_0 rfl lt0 ?_)
     exact rfl
    refine VP.step (p := ?pv267) rfl rfl rfl (⟨_, _, rfl, rfl, rfl⟩) ?hv267 ?rest267 hck7
    case hv267 =>
     refine ⟨_, rfl, fun hg3 => ?_⟩
     intro E1
     refine (V1.loadRef (k := 0) rfl rfl tyk_3 rfl rfl rfl rfl rfl lt0 ?_)
     exact rfl
    refine VP.step (p := ?pv268) rfl rfl rfl (⟨_, _, rfl, rfl, ⟨_, _, rfl, rfl, rfl⟩⟩) ?hv268 ?rest268 hck7
    case hv268 =>
     refine ⟨_, rfl, fun hg3 => ?_⟩
     intro E1
     refine (V1.int rfl rfl rfl rfl rfl lt0 ?_)
     exact rfl
    refine VP.step (p := ?pv269) rfl rfl rfl (⟨_, _, rfl, rfl, rfl⟩) ?hv269 ?rest269 hck7
    case hv269 =>
     refine ⟨_, rfl, fun hg3 => ?_⟩
     intro E1
     refine (V1.move rfl rfl rfl lt0 ?_)
     exact rfl
    refine VP.step (p := ?pv270) rfl rfl rfl (⟨_, _, rfl, rfl, rfl⟩) ?hv270 ?rest270 hck7
    case hv270 =>
     refine ⟨_, rfl, fun hg4 => ?_⟩
     refine ⟨_, rfl, fun hg3 => ?_⟩
     intro E1
     refine (V1.move rfl rfl rfl lt0 ?_)
     exact rfl
    refine VP.step (p := ?pv271) rfl rfl rfl (⟨_, _, rfl, rfl, rfl⟩) ?hv271 ?rest271 hck7
    case hv271 =>
     refine ⟨_, rfl, fun hg4 => ?_⟩
     refine ⟨_, rfl, fun hg3 => ?_⟩
     intro E1
     refine (V1.move rfl rfl rfl lt0 ?_)
     exact rfl
    refine VP.step (p := ?pv272) rfl rfl rfl (⟨_, _, rfl, rfl, rfl⟩) ?hv272 ?rest272 hck7
    case hv272 =>
     refine ⟨_, rfl, fun hg4 => ?_⟩
     refine ⟨_, rfl, fun hg3 => ?_⟩
     intro E1
     refine (V1.int rfl rfl rfl rfl rfl lt0 ?_)
     exact rfl
    refine VP.step (p := ?pv273) rfl rfl rfl (⟨_, _, rfl, rfl, ⟨_, _, rfl, rfl, rfl⟩⟩) ?hv273 ?rest273 hck7
    case hv273 =>
     refine ⟨_, rfl, fun hg4 => ?_⟩
     refine ⟨_, rfl, fun hg3 => ?_⟩
     intro E1
     refine (V1.indexI rfl rfl esz_50 rfl rfl (hh6 hg3 hg4) lt0 ?_)
     exact rfl
    refine VP.step (p := ?pv274) rfl rfl rfl (⟨_, _, rfl, rfl, rfl⟩) ?hv274 ?rest274 hck7
    case hv274 =>
     refine ⟨_, rfl, fun hg4 => ?_⟩
     refine ⟨_, rfl, fun hg3 => ?_⟩
     intro E1
     refine (V1.fieldPin rfl rfl fo_59_0 rfl lt0 ?_)
     exact rfl
    refine VP.step (p := ?pv275) rfl rfl rfl (⟨_, _, rfl, rfl, rfl⟩) ?hv275 ?rest275 hck7
    case hv275 =>
     refine ⟨_, rfl, fun hg4 => ?_⟩
     refine ⟨_, rfl, fun hg3 => ?_⟩
     intro E1
     refine (V1.loadPin rfl rfl tyk_3 rfl rfl lt0 ?_)
     exact rfl
    refine VP.step (p := ?pv276) rfl rfl rfl (⟨_, _, rfl, rfl, rfl⟩) ?hv276 ?rest276 hck7
    case hv276 =>
     refine ⟨_, rfl, fun hg4 => ?_⟩
     refine ⟨_, rfl, fun hg3 => ?_⟩
     intro E1
     refine (V1.fieldRef rfl rfl fo_59_0 rfl lt0 ?_)
     exact rfl
    refine VP.step (p := ?pv277) rfl rfl rfl (⟨_, _, rfl, rfl, rfl⟩) ?hv277 ?rest277 hck7
    case hv277 =>
     refine ⟨_, rfl, fun hg4 => ?_⟩
     refine ⟨_, rfl, fun hg3 => ?_⟩
     intro E1
     refine (V1.loadRef (k := 0) rfl rfl tyk_3 rfl rfl rfl rfl rfl lt0 ?_)
     exact rfl
    refine VP.step (p := ?pv278) rfl rfl rfl (⟨_, _, rfl, rfl, ⟨_, _, rfl, rfl, rfl⟩⟩) ?hv278 ?rest278 hck7
    case hv278 =>
     refine ⟨_, rfl, fun hg4 => ?_⟩
     refine ⟨_, rfl, fun hg3 => ?_⟩
     intro E1
     refine (V1.int rfl rfl rfl rfl rfl lt0 ?_)
     exact rfl
    refine VP.step (p := ?pv279) rfl rfl rfl (⟨_, _, rfl, rfl, rfl⟩) ?hv279 ?rest279 hck7
    case hv279 =>
     refine ⟨_, rfl, fun hg4 => ?_⟩
     refine ⟨_, rfl, fun hg3 => ?_⟩
     intro E1
     refine (V1.move rfl rfl rfl lt0 ?_)
     exact rfl
    refine VP.step (p := ?pv280) rfl rfl rfl (⟨_, _, rfl, rfl, rfl⟩) ?hv280 ?rest280 hck7
    case hv280 =>
     refine ⟨_, rfl, fun hg5 => ?_⟩
     refine ⟨_, rfl, fun hg4 => ?_⟩
     refine ⟨_, rfl, fun hg3 => ?_⟩
     intro E1
     refine (V1.move rfl rfl rfl lt0 ?_)
     exact rfl
    refine VP.step (p := ?pv281) rfl rfl rfl (⟨_, _, rfl, rfl, rfl⟩) ?hv281 ?rest281 hck7
    case hv281 =>
     refine ⟨_, rfl, fun hg5 => ?_⟩
     refine ⟨_, rfl, fun hg4 => ?_⟩
     refine ⟨_, rfl, fun hg3 => ?_⟩
     intro E1
     refine (V1.move rfl rfl rfl lt0 ?_)
     exact rfl
    refine VP.step (p := ?pv282) rfl rfl rfl (⟨_, _, rfl, rfl, rfl⟩) ?hv282 ?rest282 hck7
    case hv282 =>
     refine ⟨_, rfl, fun hg5 => ?_⟩
     refine ⟨_, rfl, fun hg4 => ?_⟩
     refine ⟨_, rfl, fun hg3 => ?_⟩
     intro E1
     refine (V1.int rfl rfl rfl rfl rfl lt0 ?_)
     exact rfl
    refine VP.step (p := ?pv283) rfl rfl rfl (⟨_, _, rfl, rfl, ⟨_, _, rfl, rfl, rfl⟩⟩) ?hv283 ?rest283 hck7
    case hv283 =>
     refine ⟨_, rfl, fun hg5 => ?_⟩
     refine ⟨_, rfl, fun hg4 => ?_⟩
     refine ⟨_, rfl, fun hg3 => ?_⟩
     intro E1
     refine (V1.indexI rfl rfl esz_50 rfl rfl (hh7 hg3 hg4 hg5) lt0 ?_)
     exact rfl
    refine VP.step (p := ?pv284) rfl rfl rfl (⟨_, _, rfl, rfl, rfl⟩) ?hv284 ?rest284 hck7
    case hv284 =>
     refine ⟨_, rfl, fun hg5 => ?_⟩
     refine ⟨_, rfl, fun hg4 => ?_⟩
     refine ⟨_, rfl, fun hg3 => ?_⟩
     intro E1
     refine (V1.fieldPin rfl rfl fo_59_1 rfl lt0 ?_)
     exact rfl
    refine VP.step (p := ?pv285) rfl rfl rfl (⟨_, _, rfl, rfl, rfl⟩) ?hv285 ?rest285 hck7
    case hv285 =>
     refine ⟨_, rfl, fun hg5 => ?_⟩
     refine ⟨_, rfl, fun hg4 => ?_⟩
     refine ⟨_, rfl, fun hg3 => ?_⟩
     intro E1
     refine (V1.loadPin rfl rfl tyk_3 rfl rfl lt0 ?_)
     exact rfl
    refine VP.step (p := ?pv286) rfl rfl rfl (⟨_, _, rfl, rfl, rfl⟩) ?hv286 ?rest286 hck7
    case hv286 =>
     refine ⟨_, rfl, fun hg5 => ?_⟩
     refine ⟨_, rfl, fun hg4 => ?_⟩
     refine ⟨_, rfl, fun hg3 => ?_⟩
     intro E1
     refine (V1.fieldRef rfl rfl fo_59_1 rfl lt0 ?_)
     exact rfl
    refine VP.step (p := ?pv287) rfl rfl rfl (⟨_, _, rfl, rfl, rfl⟩) ?hv287 ?rest287 hck7
    case hv287 =>
     refine ⟨_, rfl, fun hg5 => ?_⟩
     refine ⟨_, rfl, fun hg4 => ?_⟩
     refine ⟨_, rfl, fun hg3 => ?_⟩
     intro E1
     refine (V1.loadRef (k := 0) rfl rfl tyk_3 rfl rfl rfl rfl rfl lt0 ?_)
     exact rfl
    refine VP.step (p := ?pv288) rfl rfl rfl (⟨_, _, rfl, rfl, ⟨_, _, rfl, rfl, rfl⟩⟩) ?hv288 ?rest288 hck7
    case hv288 =>
     refine ⟨_, rfl, fun hg5 => ?_⟩
     refine ⟨_, rfl, fun hg4 => ?_⟩
     refine ⟨_, rfl, fun hg3 => ?_⟩
     intro E1
     refine (V1.int rfl rfl rfl rfl rfl lt0 ?_)
     exact rfl
    refine VP.pickAnd rfl rfl rfl rfl rfl rfl (⟨_, rfl, fun _ => ⟨_, rfl, fun _ => trivial⟩⟩) ?_ hck7
    refine VP.pickOr rfl rfl rfl rfl rfl rfl (⟨_, rfl, fun _ => trivial⟩) ?_ hck7
    refine VP.pickAnd rfl rfl rfl rfl rfl rfl (trivial) ?_ hck7
    refine VP.fin rfl (⟨_, _, rfl, rfl, ⟨_, _, rfl, rfl, ⟨_, _, rfl, rfl, ⟨_, _, rfl, rfl, rfl⟩⟩⟩⟩) ?_
    refine VO.nil ?_
    refine V.cond rfl (fun hc2 => ?_) (fun hc2 => ?_)
    ·
     replace hm1 := cond_t hc2 hm1
     refine V.seq ?_
     refine V.region ?_
     refine VO.cons rfl (V1.assign rfl rfl rfl lt0 ?_)
     refine VO.nil ?_
     refine V.ret ?_
     obtain rfl := hr1 _ (Option.some.inj hm1).symm
     change some _ = some _ at hm0
     obtain rfl := Option.some.inj hm0
     exact ⟨_, [], ⟨_, _, rfl, rfl, rfl⟩, List.nil_sublist _, rfl, rfl⟩
    ·
     replace hm1 := cond_f hc2 hm1
     refine V.skip ?_
     refine V.region ?_
     refine VO.cons rfl (V1.move rfl rfl rfl lt0 ?_)
     refine VO.cons rfl (V1.int rfl rfl rfl rfl rfl lt0 ?_)
     refine VO.cons rfl (V1.assign rfl rfl rfl lt0 ?_)
     refine VO.nil ?_
     exact ⟨(m0, (IntKind.i64.wrap (i + (1 : Int))), ()), hl1 _ (Option.some.inj hm1).symm, Nat.lt_succ_self _, Keeps.mk (ks := []) rfl ⟨rfl, rfl, rfl, trivial⟩ (rfl) rfl⟩
  ·
   replace hm1 := cond_f hc0 hm1
   refine V.exit ?_
   obtain rfl := hr1 _ (Option.some.inj hm1).symm
   exact ⟨((), ()), rfl, Keeps.mk (ks := []) rfl ⟨rfl, rfl, trivial⟩ (rfl) rfl⟩
 ·
  rintro ⟨_, _⟩ rfl
  try dsimp only at hm0
  refine V.seq ?_
  replace hm0 := bindO hm0; rcases hm0 with ⟨y5, hh8, hm0⟩
  refine V.region ?_
  refine VO.cons rfl (V1.move rfl rfl rfl lt0 ?_)
  refine VO.cons rfl (V1.call rfl rfl rfl cok_60 rfl (ok_spec_l7Good hh8) rfl lt0 ?_)
  rintro _ _ ⟨rfl, rfl⟩
  refine VO.cons rfl (V1.move rfl rfl rfl lt0 ?_)
  apply VO.and (n := 3) rfl rfl rfl rfl rfl rfl lt0 (.none rfl)
  ·
   intro hg6
   refine VO.step (.some rfl rfl rfl) (V1.move rfl rfl rfl lt0 ?_)
   refine VO.step (.some rfl rfl rfl) (V1.lenMap rfl rfl rfl rfl rfl rfl isl_50 lt0 ?_)
   refine VO.step (.some rfl rfl rfl) (V1.int rfl rfl rfl rfl rfl lt0 ?_)
   exact VO.nil ⟨rfl, rfl, rfl, rfl, .inr ⟨rfl, .inr ⟨rfl, .inr ⟨rfl, .inr ⟨rfl, .inl rfl⟩⟩⟩⟩⟩
  refine VO.cons rfl (V1.assign rfl rfl rfl lt0 ?_)
  refine VO.nil ?_
  refine V.ret ?_
  obtain rfl := Option.some.inj hm0
  exact ⟨_, [], ⟨_, _, rfl, rfl, rfl⟩, List.nil_sublist _, rfl, rfl⟩

theorem ok_spec_l1Cur_copies7 {ρ0 ρ1 σ1 rn bp : Nat} {c : Cur} {list : List Format} {r : List Copy × Cur} (h : M.spec_l1Cur_copies7 c list = some r) : Does Tryd.prog 64 [.ref bp 3 0 0, .vl ρ1 4 (List.map (encFormat σ1) list)] [(bp, ⟨3, [encCur ρ0 c]⟩)] rn (fun x H => ∃ (ob0_ : Nat), x = PV.sref ob0_ 4 0 (List.length r.1) ∧ H = [(ob0_, ⟨4, List.map encCopy r.1⟩)] ++ [(bp, ⟨3, [encCur ρ0 r.2]⟩)]) := by
 have hm0 := h; clear h; unfold M.spec_l1Cur_copies7 at hm0
 try dsimp only at hm0
 refine Does.intro (N := 93) Tryd.func64 rfl rfl rfl rfl ?_
 intro w0 S0
 refine V.seq ?_
 refine V.region ?_
 refine VO.cons rfl (V1.assign rfl rfl rfl lt0 ?_)
 refine VO.nil ?_
 refine V.seq ?_
 refine V.region ?_
 refine VO.cons rfl (V1.buildSliceT (f := encCopy) ([] : List Copy) rfl rfl esz_50 zk_59 rfl rfl rfl rfl rfl rfl rfl lt0 ?_)
 intro b0
 refine VO.cons rfl (V1.assign rfl rfl rfl lt0 ?_)
 refine VO.nil ?_
 refine V.seq ?_
 refine V.region ?_
 refine VO.cons rfl (V1.assign rfl rfl rfl lt0 ?_)
 refine VO.nil ?_
 refine V.seq ?_
 refine V.seq ?_
 replace hm0 := bindO hm0; rcases hm0 with ⟨y0, hh0, hm0⟩
 refine V.region ?_
 refine VO.cons rfl (V1.move rfl rfl rfl lt0 ?_)
 refine VO.cons rfl (V1.callM 1 (rn + ρ0 + 1) [] [.ref bp 3 0 0, .int .i64 (9 : Int)] (p := (bp, ⟨3, [encCur ρ0 c]⟩)) rfl rfl rfl cok_76 rfl rfl ⟨_, _, rfl, .same _, ⟨_, _, rfl, .same _, rfl⟩⟩ bwNil (ok_spec_l1Cur_pick hh0) rfl (.inl rfl) lt0 ?_)
 rintro _ _ ⟨rfl, rfl⟩
 refine VO.cons rfl (V1.assign rfl rfl rfl lt0 ?_)
 refine VO.nil ?_
 refine V.keep 93 [0, 1, 5, 6, 7] [0, 1] (E0 := [(0, .ref bp 3 0 0), (1, .vl ρ1 4 (List.map (encFormat σ1) list)), (5, .sref b0 4 0 (List.length ([] : List Copy))), (6, .int .i64 (1 : Int)), (7, .int .i64 y0.1)]) (H0 := [(bp, ⟨3, [encCur ρ0 y0.2]⟩), (b0, ⟨4, List.map encCopy ([] : List Copy)⟩)]) rfl (⟨_, _, rfl, rfl, ⟨_, _, rfl, rfl, ⟨_, _, rfl, rfl, ⟨_, _, rfl, rfl, ⟨_, _, rfl, rfl, rfl⟩⟩⟩⟩⟩) (⟨_, _, rfl, rfl, ⟨_, _, rfl, rfl, rfl⟩⟩) rfl ?_
 replace hm0 := bindO hm0; rcases hm0 with ⟨e0, he1, hm0⟩
 refine V.cutT (D := (List Copy × Cur) × (Nat)) (fun ⟨⟨out_, c_⟩, b1⟩ => ⟨93, [(5, .sref b1 4 0 (List.length out_)), (0, .ref bp 3 0 0), (1, .vl ρ1 4 (List.map (encFormat σ1) list))], [(b1, ⟨4, List.map encCopy out_⟩), (bp, ⟨3, [encCur ρ0 c_]⟩)]⟩) (fun ⟨⟨out_, c_⟩, b1⟩ => ((out_, c_) = e0)) ?_ ?_
 ·
  refine V.block ?_
  refine V.keep 93 [5, 6, 7, 0, 1] [1, 0] (E0 := [(5, .sref b0 4 0 (List.length ([] : List Copy))), (6, .int .i64 (1 : Int)), (7, .int .i64 y0.1), (0, .ref bp 3 0 0), (1, .vl ρ1 4 (List.map (encFormat σ1) list))]) (H0 := [(b0, ⟨4, List.map encCopy ([] : List Copy)⟩), (bp, ⟨3, [encCur ρ0 y0.2]⟩)]) rfl (⟨_, _, rfl, rfl, ⟨_, _, rfl, rfl, ⟨_, _, rfl, rfl, ⟨_, _, rfl, rfl, ⟨_, _, rfl, rfl, rfl⟩⟩⟩⟩⟩) (⟨_, _, rfl, rfl, ⟨_, _, rfl, rfl, rfl⟩⟩) rfl ?_
  refine V.loopE (D := Nat × (List Copy × Int × Int × Cur) × (Nat)) (fun ⟨n0, ⟨out_0, record, n_, c_0⟩, b2⟩ => [(5, .sref b2 4 0 (List.length out_0)), (6, .int .i64 record), (7, .int .i64 n_)]) (fun ⟨n0, ⟨out_0, record, n_, c_0⟩, b2⟩ => [(b2, ⟨4, List.map encCopy out_0⟩), (bp, ⟨3, [encCur ρ0 c_0]⟩)]) (fun ⟨n0, ⟨out_0, record, n_, c_0⟩, b2⟩ => loopO (M.spec_l1Cur_copies7_l0 list) n0 (out_0, record, n_, c_0) = some e0) (fun ⟨n0, _, _⟩ => n0) (rounds, (([] : List Copy), (1 : Int), y0.1, y0.2), b0) rfl he1 ?_
  rintro ⟨n0, ⟨out_0, record, n_, c_0⟩, b2⟩ hP0
  obtain ⟨m0, y1, rfl, hm1, hl1, hr1⟩ := loop_head hP0
  unfold M.spec_l1Cur_copies7_l0 at hm1; dsimp only at hm1
  show V _ _ _ ⟨93, [(5, .sref b2 4 0 (List.length out_0)), (6, .int .i64 record), (7, .int .i64 n_), (0, .ref bp 3 0 0), (1, .vl ρ1 4 (List.map (encFormat σ1) list))], [(b2, ⟨4, List.map encCopy out_0⟩), (bp, ⟨3, [encCur ρ0 c_0]⟩)]⟩
  refine V.seq ?_
  refine V.seq ?_
  refine V.region ?_
  refine VO.cons rfl (V1.move rfl rfl rfl lt0 ?_)
  refine VO.cons rfl (V1.int rfl rfl rfl rfl rfl lt0 ?_)
  refine VO.nil ?_
  refine V.cond rfl (fun hc0 => ?_) (fun hc0 => ?_)
  ·
   replace hm1 := cond_t hc0 hm1
   refine V.skip ?_
   refine V.seq ?_
   replace hm1 := bindO hm1; rcases hm1 with ⟨j0, hm2, hm1⟩
   refine V.cutT (D := (List Copy × Int × Cur) × (Nat)) (fun ⟨⟨out_1, record0, c_1⟩, b3⟩ => ⟨93, [(5, .sref b3 4 0 (List.length out_1)), (6, .int .i64 record0), (0, .ref bp 3 0 0), (1, .vl ρ1 4 (List.map (encFormat σ1) list)), (7, .int .i64 n_)], [(b3, ⟨4, List.map encCopy out_1⟩), (bp, ⟨3, [encCur ρ0 c_1]⟩)]⟩) (fun ⟨⟨out_1, record0, c_1⟩, b3⟩ => ((out_1, record0, c_1) = j0)) ?_ ?_
   ·
    refine V.block ?_
    refine V.seq ?_
    replace hm2 := bindO hm2; rcases hm2 with ⟨y2, hh1, hm2⟩
    replace hm2 := bindO hm2; rcases hm2 with ⟨y3, hh2, hm2⟩
    replace hm2 := bindO hm2; rcases hm2 with ⟨y4, hh3, hm2⟩
    refine V.region ?_
    refine VO.cons rfl (V1.move rfl rfl rfl lt0 ?_)
    refine VO.cons rfl (V1.move rfl rfl rfl lt0 ?_)
    refine VO.cons rfl (V1.move rfl rfl rfl lt0 ?_)
    refine VO.cons rfl (V1.callM 1 (rn + ρ0 + 1) [] [.ref bp 3 0 0, .vl ρ1 4 (List.map (encFormat σ1) list)] (p := (bp, ⟨3, [encCur ρ0 c_0]⟩)) rfl rfl rfl cok_57 rfl rfl ⟨_, _, rfl, .same _, ⟨_, _, rfl, .same _, rfl⟩⟩ bwNil (ok_spec_l1Cur_formatId hh1) rfl (.inl rfl) lt0 ?_)
    rintro _ _ ⟨rfl, rfl⟩
    refine VO.cons rfl (V1.move rfl rfl rfl lt0 ?_)
    refine VO.cons rfl (V1.buildSliceT (f := encInt) ([(1 : Int), (500 : Int), (1000000 : Int)] : List Int) rfl rfl esz_31 zk_3 rfl rfl rfl rfl rfl rfl rfl lt0 ?_)
    intro b4
    refine VO.cons rfl (V1.callM 1 (rn + ρ0 + 1) [b4] [.ref bp 3 0 0, .vl (rn + ρ0 + 1) 1 (List.map encInt ([(1 : Int), (500 : Int), (1000000 : Int)] : List Int))] (p := (bp, ⟨3, [encCur ρ0 y2.2]⟩)) rfl rfl rfl cok_75 rfl rfl ⟨_, _, rfl, .same _, ⟨_, _, rfl, Lend.srMap 0 rfl (fun _ => rfl) (.head _), rfl⟩⟩ (bwCons (k := 0) rfl bwNil) (ok_spec_l1Cur_among hh2) rfl (.inr ⟨(by first | omega | (dsimp only; omega)), by rintro _ _ ⟨rfl, rfl⟩; exact ⟨by simp [PV.no, PV.noL, optS_no, noL_iff, nbeq] <;> omega, by intro b ob h; first | exact optH_no (noL_map (fun _ => by simp [PV.no, PV.noL, noL_iff, nbeq]) _) b ob h | (simp only [List.append_assoc, List.mem_append, List.mem_cons, List.mem_singleton, List.not_mem_nil, or_false, Prod.mk.injEq] at h; rcases h with ⟨rfl, rfl⟩ | ⟨rfl, rfl⟩ <;> first | exact noL_map (fun _ => by simp [PV.no, PV.noL, noL_iff, nbeq]) _ | (simp [PV.no, PV.noL, optS_no, noL_iff, nbeq] <;> omega)) | (simp at h; obtain ⟨rfl, rfl⟩ := h; exact noL_map (fun _ => by simp [PV.no, PV.noL, noL_iff, nbeq]) _) | (simp at h; obtain ⟨rfl, rfl⟩ := h; simp [PV.no, PV.noL, optS_no, noL_iff, nbeq] <;> omega)⟩⟩) lt0 ?_)
    rintro _ _ ⟨rfl, rfl⟩
    refine VO.cons rfl (V1.move rfl rfl rfl lt0 ?_)
    refine VO.cons rfl (V1.buildSliceT (f := encInt) ([(0 : Int), (90 : Int), (100 : Int), (20000 : Int)] : List Int) rfl rfl esz_31 zk_3 rfl rfl rfl rfl rfl rfl rfl lt0 ?_)
    intro b5
    refine VO.cons rfl (V1.callM 1 (rn + ρ0 + 1) [b5] [.ref bp 3 0 0, .vl (rn + ρ0 + 1) 1 (List.map encInt ([(0 : Int), (90 : Int), (100 : Int), (20000 : Int)] : List Int))] (p := (bp, ⟨3, [encCur ρ0 y3.2]⟩)) rfl rfl rfl cok_75 rfl rfl ⟨_, _, rfl, .same _, ⟨_, _, rfl, Lend.srMap 0 rfl (fun _ => rfl) (.head _), rfl⟩⟩ (bwCons (k := 0) rfl bwNil) (ok_spec_l1Cur_among hh3) rfl (.inr ⟨(by first | omega | (dsimp only; omega)), by rintro _ _ ⟨rfl, rfl⟩; exact ⟨by simp [PV.no, PV.noL, optS_no, noL_iff, nbeq] <;> omega, by intro b ob h; first | exact optH_no (noL_map (fun _ => by simp [PV.no, PV.noL, noL_iff, nbeq]) _) b ob h | (simp only [List.append_assoc, List.mem_append, List.mem_cons, List.mem_singleton, List.not_mem_nil, or_false, Prod.mk.injEq] at h; rcases h with ⟨rfl, rfl⟩ | ⟨rfl, rfl⟩ <;> first | exact noL_map (fun _ => by simp [PV.no, PV.noL, noL_iff, nbeq]) _ | (simp [PV.no, PV.noL, optS_no, noL_iff, nbeq] <;> omega)) | (simp at h; obtain ⟨rfl, rfl⟩ := h; exact noL_map (fun _ => by simp [PV.no, PV.noL, noL_iff, nbeq]) _) | (simp at h; obtain ⟨rfl, rfl⟩ := h; simp [PV.no, PV.noL, optS_no, noL_iff, nbeq] <;> omega)⟩⟩) lt0 ?_)
    rintro _ _ ⟨rfl, rfl⟩
    refine VO.cons rfl (V1.build rfl rfl zk_59 pl_59 rfl rfl lt0 ?_)
    refine VO.cons rfl (V1.alloc rfl rfl zk_59 lt0 ?_)
    intro b6
    refine VO.cons rfl (V1.storeRefAll (k := 0) rfl rfl tyk_59 rfl rfl rfl rfl rfl rfl ?_)
    refine VO.nil ?_
    refine V.keep 93 [0, 1, 5, 6, 7, 8] [0, 1, 4] (E0 := [(0, .ref bp 3 0 0), (1, .vl ρ1 4 (List.map (encFormat σ1) list)), (5, .sref b2 4 0 (List.length out_0)), (6, .int .i64 record), (7, .int .i64 n_), (8, .ref b6 4 0 0)]) (H0 := [(b6, ⟨4, [.agg [.int .i64 record, .int .i64 y2.1, .int .i64 y3.1, .int .i64 y4.1]]⟩), (bp, ⟨3, [encCur ρ0 y4.2]⟩), (b2, ⟨4, List.map encCopy out_0⟩)]) rfl (⟨_, _, rfl, rfl, ⟨_, _, rfl, rfl, ⟨_, _, rfl, rfl, ⟨_, _, rfl, rfl, ⟨_, _, rfl, rfl, ⟨_, _, rfl, rfl, rfl⟩⟩⟩⟩⟩⟩) (⟨_, _, rfl, rfl, ⟨_, _, rfl, rfl, ⟨_, _, rfl, rfl, rfl⟩⟩⟩) rfl ?_
    refine V.seq ?_
    replace hm2 := bindO hm2; rcases hm2 with ⟨j1, hm3, hm2⟩
    refine V.cutT (D := (Cur × Copy) × (Unit)) (fun ⟨⟨c_2, x⟩, _⟩ => ⟨93, [(0, .ref bp 3 0 0), (1, .vl ρ1 4 (List.map (encFormat σ1) list)), (5, .sref b2 4 0 (List.length out_0)), (6, .int .i64 record), (7, .int .i64 n_), (8, .ref b6 4 0 0)], [(bp, ⟨3, [encCur ρ0 c_2]⟩), (b6, ⟨4, [encCopy x]⟩), (b2, ⟨4, List.map encCopy out_0⟩)]⟩) (fun ⟨⟨c_2, x⟩, _⟩ => ((c_2, x) = j1)) ?_ ?_
    ·
     refine V.seq ?_
     replace hm3 := bindO hm3; rcases hm3 with ⟨y5, hh4, hm3⟩
     refine V.region ?_
     refine VO.cons rfl (V1.move rfl rfl rfl lt0 ?_)
     refine VO.cons rfl (V1.callM 1 (rn + ρ0 + 1) [] [.ref bp 3 0 0, .int .i64 (120 : Int)] (p := (bp, ⟨3, [encCur ρ0 y4.2]⟩)) rfl rfl rfl cok_76 rfl rfl ⟨_, _, rfl, .same _, ⟨_, _, rfl, .same _, rfl⟩⟩ bwNil (ok_spec_l1Cur_pick hh4) rfl (.inl rfl) lt0 ?_)
     rintro _ _ ⟨rfl, rfl⟩
     refine VO.nil ?_
     replace hm3 := bindO hm3; rcases hm3 with ⟨j2, hm4, hm3⟩
     refine V.cutT (D := (Cur × Copy) × (Unit)) (fun ⟨⟨c_3, x0⟩, _⟩ => ⟨93, [(0, .ref bp 3 0 0), (1, .vl ρ1 4 (List.map (encFormat σ1) list)), (5, .sref b2 4 0 (List.length out_0)), (6, .int .i64 record), (7, .int .i64 n_), (8, .ref b6 4 0 0)], [(bp, ⟨3, [encCur ρ0 c_3]⟩), (b6, ⟨4, [encCopy x0]⟩), (b2, ⟨4, List.map encCopy out_0⟩)]⟩) (fun ⟨⟨c_3, x0⟩, _⟩ => ((c_3, x0) = j2)) ?_ ?_
     ·
      refine V.block ?_
      refine V.seq ?_
      refine V.region ?_
      refine VO.cons rfl (V1.int rfl rfl rfl rfl rfl lt0 ?_)
      refine VO.cons rfl (V1.assign rfl rfl rfl lt0 ?_)
      refine VO.nil ?_
      refine V.cond rfl (fun hc1 => ?_) (fun hc1 => ?_)
      ·
       replace hm4 := cond_t hc1 hm4
       replace hm4 := bindO hm4; rcases hm4 with ⟨y6, hh5, hm4⟩
       refine V.region ?_
       refine VO.cons rfl (V1.move rfl rfl rfl lt0 ?_)
       refine VO.cons rfl (V1.buildSliceT (f := encInt) ([(0 : Int), (1000 : Int)] : List Int) rfl rfl esz_31 zk_3 rfl rfl rfl rfl rfl rfl rfl lt0 ?_)
       intro b7
       refine VO.cons rfl (V1.callM 1 (rn + ρ0 + 1) [b7] [.ref bp 3 0 0, .vl (rn + ρ0 + 1) 1 (List.map encInt ([(0 : Int), (1000 : Int)] : List Int))] (p := (bp, ⟨3, [encCur ρ0 y5.2]⟩)) rfl rfl rfl cok_75 rfl rfl ⟨_, _, rfl, .same _, ⟨_, _, rfl, Lend.srMap 0 rfl (fun _ => rfl) (.head _), rfl⟩⟩ (bwCons (k := 0) rfl bwNil) (ok_spec_l1Cur_among hh5) rfl (.inr ⟨(by first | omega | (dsimp only; omega)), by rintro _ _ ⟨rfl, rfl⟩; exact ⟨by simp [PV.no, PV.noL, optS_no, noL_iff, nbeq] <;> omega, by intro b ob h; first | exact optH_no (noL_map (fun _ => by simp [PV.no, PV.noL, noL_iff, nbeq]) _) b ob h | (simp only [List.append_assoc, List.mem_append, List.mem_cons, List.mem_singleton, List.not_mem_nil, or_false, Prod.mk.injEq] at h; rcases h with ⟨rfl, rfl⟩ | ⟨rfl, rfl⟩ <;> first | exact noL_map (fun _ => by simp [PV.no, PV.noL, noL_iff, nbeq]) _ | (simp [PV.no, PV.noL, optS_no, noL_iff, nbeq] <;> omega)) | (simp at h; obtain ⟨rfl, rfl⟩ := h; exact noL_map (fun _ => by simp [PV.no, PV.noL, noL_iff, nbeq]) _) | (simp at h; obtain ⟨rfl, rfl⟩ := h; simp [PV.no, PV.noL, optS_no, noL_iff, nbeq] <;> omega)⟩⟩) lt0 ?_)
       rintro _ _ ⟨rfl, rfl⟩
       refine VO.cons rfl (V1.fieldRef rfl rfl fo_59_0 rfl lt0 ?_)
       refine VO.cons rfl (V1.storeRef (k := 2) rfl rfl tyk_3 rfl rfl rfl rfl rfl rfl rfl rfl rfl ?_)
       refine VO.nil ?_
       exact ⟨((y6.2, (⟨y6.1, y2.1, y3.1, y4.1⟩ : Copy)), ()), Option.some.inj hm4, Keeps.mk (ks := [0, 2, 3]) rfl ⟨rfl, rfl, rfl, rfl, rfl, rfl, trivial⟩ (⟨_, _, rfl, rfl, ⟨_, _, rfl, rfl, ⟨_, _, rfl, rfl, rfl⟩⟩⟩) rfl⟩
      ·
       replace hm4 := cond_f hc1 hm4
       refine V.seq ?_
       refine V.region ?_
       refine VO.cons rfl (V1.int rfl rfl rfl rfl rfl lt0 ?_)
       refine VO.cons rfl (V1.assign rfl rfl rfl lt0 ?_)
       refine VO.nil ?_
       refine V.keep 93 [0, 1, 5, 6, 7, 8, 30, 37] [0, 1, 2] (E0 := [(0, .ref bp 3 0 0), (1, .vl ρ1 4 (List.map (encFormat σ1) list)), (5, .sref b2 4 0 (List.length out_0)), (6, .int .i64 record), (7, .int .i64 n_), (8, .ref b6 4 0 0), (30, .int .i64 y5.1), (37, .bool (y5.1 == (1 : Int)))]) (H0 := [(bp, ⟨3, [encCur ρ0 y5.2]⟩), (b6, ⟨4, [.agg [.int .i64 record, .int .i64 y2.1, .int .i64 y3.1, .int .i64 y4.1]]⟩), (b2, ⟨4, List.map encCopy out_0⟩)]) rfl (⟨_, _, rfl, rfl, ⟨_, _, rfl, rfl, ⟨_, _, rfl, rfl, ⟨_, _, rfl, rfl, ⟨_, _, rfl, rfl, ⟨_, _, rfl, rfl, ⟨_, _, rfl, rfl, ⟨_, _, rfl, rfl, rfl⟩⟩⟩⟩⟩⟩⟩⟩) (⟨_, _, rfl, rfl, ⟨_, _, rfl, rfl, ⟨_, _, rfl, rfl, rfl⟩⟩⟩) rfl ?_
       refine V.cond rfl (fun hc2 => ?_) (fun hc2 => ?_)
       ·
        replace hm4 := cond_t hc2 hm4
        replace hm4 := bindO hm4; rcases hm4 with ⟨y7, hh6, hm4⟩
        refine V.region ?_
        refine VO.cons rfl (V1.move rfl rfl rfl lt0 ?_)
        refine VO.cons rfl (V1.buildSliceT (f := encInt) ([(0 : Int), (1000001 : Int)] : List Int) rfl rfl esz_31 zk_3 rfl rfl rfl rfl rfl rfl rfl lt0 ?_)
        intro b8
        refine VO.cons rfl (V1.callM 1 (rn + ρ0 + 1) [b8] [.ref bp 3 0 0, .vl (rn + ρ0 + 1) 1 (List.map encInt ([(0 : Int), (1000001 : Int)] : List Int))] (p := (bp, ⟨3, [encCur ρ0 y5.2]⟩)) rfl rfl rfl cok_75 rfl rfl ⟨_, _, rfl, .same _, ⟨_, _, rfl, Lend.srMap 0 rfl (fun _ => rfl) (.head _), rfl⟩⟩ (bwCons (k := 0) rfl bwNil) (ok_spec_l1Cur_among hh6) rfl (.inr ⟨(by first | omega | (dsimp only; omega)), by rintro _ _ ⟨rfl, rfl⟩; exact ⟨by simp [PV.no, PV.noL, optS_no, noL_iff, nbeq] <;> omega, by intro b ob h; first | exact optH_no (noL_map (fun _ => by simp [PV.no, PV.noL, noL_iff, nbeq]) _) b ob h | (simp only [List.append_assoc, List.mem_append, List.mem_cons, List.mem_singleton, List.not_mem_nil, or_false, Prod.mk.injEq] at h; rcases h with ⟨rfl, rfl⟩ | ⟨rfl, rfl⟩ <;> first | exact noL_map (fun _ => by simp [PV.no, PV.noL, noL_iff, nbeq]) _ | (simp [PV.no, PV.noL, optS_no, noL_iff, nbeq] <;> omega)) | (simp at h; obtain ⟨rfl, rfl⟩ := h; exact noL_map (fun _ => by simp [PV.no, PV.noL, noL_iff, nbeq]) _) | (simp at h; obtain ⟨rfl, rfl⟩ := h; simp [PV.no, PV.noL, optS_no, noL_iff, nbeq] <;> omega)⟩⟩) lt0 ?_)
        rintro _ _ ⟨rfl, rfl⟩
        refine VO.cons rfl (V1.fieldRef rfl rfl fo_59_2 rfl lt0 ?_)
        refine VO.cons rfl (V1.storeRef (k := 2) rfl rfl tyk_3 rfl rfl rfl rfl rfl rfl rfl rfl rfl ?_)
        refine VO.nil ?_
        exact ⟨((y7.2, (⟨record, y2.1, y7.1, y4.1⟩ : Copy)), ()), Option.some.inj hm4, Keeps.mk (ks := [0, 2, 3]) rfl ⟨rfl, rfl, rfl, rfl, rfl, rfl, trivial⟩ (⟨_, _, rfl, rfl, ⟨_, _, rfl, rfl, ⟨_, _, rfl, rfl, rfl⟩⟩⟩) rfl⟩
       ·
        replace hm4 := cond_f hc2 hm4
        refine V.seq ?_
        refine V.region ?_
        refine VO.cons rfl (V1.int rfl rfl rfl rfl rfl lt0 ?_)
        refine VO.cons rfl (V1.assign rfl rfl rfl lt0 ?_)
        refine VO.nil ?_
        refine V.cond rfl (fun hc3 => ?_) (fun hc3 => ?_)
        ·
         replace hm4 := cond_t hc3 hm4
         replace hm4 := bindO hm4; rcases hm4 with ⟨y8, hh7, hm4⟩
         refine V.region ?_
         refine VO.cons rfl (V1.move rfl rfl rfl lt0 ?_)
         refine VO.cons rfl (V1.buildSliceT (f := encInt) ([(-1 : Int), (20001 : Int)] : List Int) rfl rfl esz_31 zk_3 rfl rfl rfl rfl rfl rfl rfl lt0 ?_)
         intro b9
         refine VO.cons rfl (V1.callM 1 (rn + ρ0 + 1) [b9] [.ref bp 3 0 0, .vl (rn + ρ0 + 1) 1 (List.map encInt ([(-1 : Int), (20001 : Int)] : List Int))] (p := (bp, ⟨3, [encCur ρ0 y5.2]⟩)) rfl rfl rfl cok_75 rfl rfl ⟨_, _, rfl, .same _, ⟨_, _, rfl, Lend.srMap 0 rfl (fun _ => rfl) (.head _), rfl⟩⟩ (bwCons (k := 0) rfl bwNil) (ok_spec_l1Cur_among hh7) rfl (.inr ⟨(by first | omega | (dsimp only; omega)), by rintro _ _ ⟨rfl, rfl⟩; exact ⟨by simp [PV.no, PV.noL, optS_no, noL_iff, nbeq] <;> omega, by intro b ob h; first | exact optH_no (noL_map (fun _ => by simp [PV.no, PV.noL, noL_iff, nbeq]) _) b ob h | (simp only [List.append_assoc, List.mem_append, List.mem_cons, List.mem_singleton, List.not_mem_nil, or_false, Prod.mk.injEq] at h; rcases h with ⟨rfl, rfl⟩ | ⟨rfl, rfl⟩ <;> first | exact noL_map (fun _ => by simp [PV.no, PV.noL, noL_iff, nbeq]) _ | (simp [PV.no, PV.noL, optS_no, noL_iff, nbeq] <;> omega)) | (simp at h; obtain ⟨rfl, rfl⟩ := h; exact noL_map (fun _ => by simp [PV.no, PV.noL, noL_iff, nbeq]) _) | (simp at h; obtain ⟨rfl, rfl⟩ := h; simp [PV.no, PV.noL, optS_no, noL_iff, nbeq] <;> omega)⟩⟩) lt0 ?_)
         rintro _ _ ⟨rfl, rfl⟩
         refine VO.cons rfl (V1.fieldRef rfl rfl fo_59_3 rfl lt0 ?_)
         refine VO.cons rfl (V1.storeRef (k := 2) rfl rfl tyk_3 rfl rfl rfl rfl rfl rfl rfl rfl rfl ?_)
         refine VO.nil ?_
         exact ⟨((y8.2, (⟨record, y2.1, y3.1, y8.1⟩ : Copy)), ()), Option.some.inj hm4, Keeps.mk (ks := [0, 2, 3]) rfl ⟨rfl, rfl, rfl, rfl, rfl, rfl, trivial⟩ (⟨_, _, rfl, rfl, ⟨_, _, rfl, rfl, ⟨_, _, rfl, rfl, rfl⟩⟩⟩) rfl⟩
        ·
         replace hm4 := cond_f hc3 hm4
         refine V.skip ?_
         exact ⟨((y5.2, (⟨record, y2.1, y3.1, y4.1⟩ : Copy)), ()), Option.some.inj hm4, Keeps.mk (ks := [0, 1, 2]) rfl ⟨rfl, rfl, rfl, rfl, rfl, rfl, trivial⟩ (⟨_, _, rfl, rfl, ⟨_, _, rfl, rfl, ⟨_, _, rfl, rfl, rfl⟩⟩⟩) rfl⟩
     ·
      rintro ⟨⟨c_3, x0⟩, _⟩ rfl
      try dsimp only at hm3
      exact ⟨((c_3, x0), ()), Option.some.inj hm3, Keeps.mk (ks := [0, 1, 2]) rfl ⟨rfl, rfl, rfl, rfl, rfl, rfl, trivial⟩ (⟨_, _, rfl, rfl, ⟨_, _, rfl, rfl, ⟨_, _, rfl, rfl, rfl⟩⟩⟩) rfl⟩
    ·
     rintro ⟨⟨c_2, x⟩, _⟩ rfl
     try dsimp only at hm2
     refine V.seq ?_
     replace hm2 := bindO hm2; rcases hm2 with ⟨j3, hm3, hm2⟩
     refine V.cutT (D := (List Copy × Cur) × (Nat)) (fun ⟨⟨out_2, c_4⟩, b10⟩ => ⟨93, [(5, .sref b10 4 0 (List.length out_2)), (0, .ref bp 3 0 0), (1, .vl ρ1 4 (List.map (encFormat σ1) list)), (6, .int .i64 record), (7, .int .i64 n_)], [(b10, ⟨4, List.map encCopy out_2⟩), (bp, ⟨3, [encCur ρ0 c_4]⟩)]⟩) (fun ⟨⟨out_2, c_4⟩, b10⟩ => ((out_2, c_4) = j3)) ?_ ?_
     ·
      refine V.seq ?_
      replace hm3 := asrt_some hm3; rcases hm3 with ⟨hh8, hm3⟩
      replace hm3 := asrt_some hm3; rcases hm3 with ⟨hh9, hm3⟩
      replace hm3 := bindO hm3; rcases hm3 with ⟨j4, hm4, hm3⟩
      refine V.cutT (D := (List Copy) × (Nat)) (fun ⟨next, b15⟩ => ⟨93, [(9, .sref b15 4 0 (List.length next)), (0, .ref bp 3 0 0), (1, .vl ρ1 4 (List.map (encFormat σ1) list)), (5, .sref b2 4 0 (List.length out_0)), (6, .int .i64 record), (7, .int .i64 n_)], [(b15, ⟨4, List.map encCopy next⟩), (bp, ⟨3, [encCur ρ0 c_2]⟩), (b2, ⟨4, List.map encCopy out_0⟩)]⟩) (fun ⟨next, b15⟩ => (next = j4)) ?_ ?_
      ·
       refine V.regionS [(b6, ⟨4, [encCopy x]⟩)] 93 5 [⟨[], true⟩, ⟨[(5, none)], false⟩, ⟨[(49, some 0), (50, some 1)], true⟩, ⟨[(8, none)], false⟩, ⟨[(52, some 3)], true⟩] [(0, none), (1, none), (5, none), (6, none), (7, none), (51, some 2), (53, some 4)] 3 (⟨_, rfl, ⟨_, rfl, ⟨_, rfl, ⟨_, rfl, ⟨_, rfl, ⟨rfl, rfl⟩⟩⟩⟩⟩⟩) mixed_orders rfl (by decide +kernel) ?_
       refine WalkP.step (p := ?pv286) 1 rfl rfl rfl rfl rfl (⟨_, _, rfl, rfl, rfl⟩) ?hv286 ?rest286
       case hv286 =>
        intro E1 H1 hI1
        refine (V1.move rfl rfl rfl lt0 ?_)
        exact rfl
       refine WalkP.step (p := ?pv287) 3 rfl rfl rfl rfl rfl (⟨_, _, rfl, rfl, rfl⟩) ?hv287 ?rest287
       case hv287 =>
        intro E1 H1 hI1
        obtain ⟨k288_, hk288_⟩ := inGet 0 rfl hI1
        refine (V1.loadRefAll (k := k288_) rfl rfl tyk_59 rfl hk288_ rfl rfl rfl lt0 ?_)
        exact rfl
       refine WalkP.nil ?_
       refine NodeS.branch [0, 4] (inCons 1 rfl inNil) rfl rfl rfl ⟨?_, ?_, trivial⟩
       ·
        refine ⟨_, _, _, _, rfl, rfl, rfl, (rfl), fun E1 => ?_⟩
        refine (V1.buildSliceT (f := encCopy) ([] : List Copy) rfl rfl esz_50 zk_59 rfl rfl rfl rfl rfl rfl rfl lt0 ?_)
        intro b16
        refine ⟨_, _, rfl, ?_⟩
        refine WalkP.nil ?_
        refine NodeS.branch [2, 4] (inCons 2 rfl inNil) rfl rfl rfl ⟨?_, ?_, trivial⟩
        ·
         refine ⟨_, _, _, _, rfl, rfl, rfl, (⟨_, _, rfl, rfl, ⟨_, _, rfl, rfl, rfl⟩⟩), fun E1 => ?_⟩
         refine (V1.appendMap (k := 0) (f := encCopy) (l := ([] : List Copy)) (m := out_0) rfl rfl rfl rfl rfl esz_50 eby_50 zk_59 rfl rfl rfl (SrcOf.srMap (k := 3) rfl isl_50) hh8 lt0 ?_)
         intro b17
         refine ⟨_, _, rfl, ?_⟩
         refine WalkP.nil ?_
         refine NodeS.branch [4] (inCons 2 rfl inNil) rfl rfl rfl ⟨?_, trivial⟩
         ·
          refine ⟨_, _, _, _, rfl, rfl, rfl, (⟨_, _, rfl, rfl, rfl⟩), fun E1 => ?_⟩
          refine (V1.buildSliceT (f := encCopy) ([x] : List Copy) rfl rfl esz_50 zk_59 rfl rfl rfl rfl rfl rfl rfl lt0 ?_)
          intro b18
          refine ⟨_, _, rfl, ?_⟩
          refine WalkP.nil ?_
          refine NodeS.fin (inCons 3 rfl inNil) rfl rfl rfl (⟨_, _, rfl, rfl, ⟨_, _, rfl, rfl, ⟨_, _, rfl, rfl, ⟨_, _, rfl, rfl, ⟨_, _, rfl, rfl, ⟨_, _, rfl, rfl, ⟨_, _, rfl, rfl, rfl⟩⟩⟩⟩⟩⟩⟩) ?_
          refine VO.cons rfl (V1.appendMap (k := 1) (f := encCopy) (l := (([] : List Copy) ++ out_0)) (m := ([x] : List Copy)) rfl rfl rfl rfl rfl esz_50 eby_50 zk_59 rfl rfl rfl (SrcOf.srMap (k := 0) rfl isl_50) hh9 lt0 ?_)
          intro b19
          refine VO.cons rfl (V1.assign rfl rfl rfl lt0 ?_)
          refine VO.nil ?_
          exact ⟨(((([] : List Copy) ++ out_0) ++ ([x] : List Copy)), b19), Option.some.inj hm4, Keeps.mk (ks := [0, 2, 4]) rfl ⟨rfl, rfl, rfl, rfl, rfl, rfl, trivial⟩ (⟨_, _, rfl, rfl, ⟨_, _, rfl, rfl, ⟨_, _, rfl, rfl, rfl⟩⟩⟩) rfl⟩
        ·
         refine ⟨_, _, _, _, rfl, rfl, rfl, (⟨_, _, rfl, rfl, rfl⟩), fun E1 => ?_⟩
         refine (V1.buildSliceT (f := encCopy) ([x] : List Copy) rfl rfl esz_50 zk_59 rfl rfl rfl rfl rfl rfl rfl lt0 ?_)
         intro b20
         refine ⟨_, _, rfl, ?_⟩
         refine WalkP.nil ?_
         refine NodeS.branch [2] (inCons 3 rfl inNil) rfl rfl rfl ⟨?_, trivial⟩
         ·
          refine ⟨_, _, _, _, rfl, rfl, rfl, (⟨_, _, rfl, rfl, ⟨_, _, rfl, rfl, rfl⟩⟩), fun E1 => ?_⟩
          refine (V1.appendMap (k := 1) (f := encCopy) (l := ([] : List Copy)) (m := out_0) rfl rfl rfl rfl rfl esz_50 eby_50 zk_59 rfl rfl rfl (SrcOf.srMap (k := 4) rfl isl_50) hh8 lt0 ?_)
          intro b21
          refine ⟨_, _, rfl, ?_⟩
          refine WalkP.nil ?_
          refine NodeS.fin (inCons 3 rfl inNil) rfl rfl rfl (⟨_, _, rfl, rfl, ⟨_, _, rfl, rfl, ⟨_, _, rfl, rfl, ⟨_, _, rfl, rfl, ⟨_, _, rfl, rfl, ⟨_, _, rfl, rfl, ⟨_, _, rfl, rfl, rfl⟩⟩⟩⟩⟩⟩⟩) ?_
          refine VO.cons rfl (V1.appendMap (k := 0) (f := encCopy) (l := (([] : List Copy) ++ out_0)) (m := ([x] : List Copy)) rfl rfl rfl rfl rfl esz_50 eby_50 zk_59 rfl rfl rfl (SrcOf.srMap (k := 1) rfl isl_50) hh9 lt0 ?_)
          intro b22
          refine VO.cons rfl (V1.assign rfl rfl rfl lt0 ?_)
          refine VO.nil ?_
          exact ⟨(((([] : List Copy) ++ out_0) ++ ([x] : List Copy)), b22), Option.some.inj hm4, Keeps.mk (ks := [0, 2, 4]) rfl ⟨rfl, rfl, rfl, rfl, rfl, rfl, trivial⟩ (⟨_, _, rfl, rfl, ⟨_, _, rfl, rfl, ⟨_, _, rfl, rfl, rfl⟩⟩⟩) rfl⟩
       ·
        refine ⟨_, _, _, _, rfl, rfl, rfl, (⟨_, _, rfl, rfl, rfl⟩), fun E1 => ?_⟩
        refine (V1.buildSliceT (f := encCopy) ([x] : List Copy) rfl rfl esz_50 zk_59 rfl rfl rfl rfl rfl rfl rfl lt0 ?_)
        intro b23
        refine ⟨_, _, rfl, ?_⟩
        refine WalkP.nil ?_
        refine NodeS.branch [0] (inCons 2 rfl inNil) rfl rfl rfl ⟨?_, trivial⟩
        ·
         refine ⟨_, _, _, _, rfl, rfl, rfl, (rfl), fun E1 => ?_⟩
         refine (V1.buildSliceT (f := encCopy) ([] : List Copy) rfl rfl esz_50 zk_59 rfl rfl rfl rfl rfl rfl rfl lt0 ?_)
         intro b24
         refine ⟨_, _, rfl, ?_⟩
         refine WalkP.nil ?_
         refine NodeS.branch [2] (inCons 3 rfl inNil) rfl rfl rfl ⟨?_, trivial⟩
         ·
          refine ⟨_, _, _, _, rfl, rfl, rfl, (⟨_, _, rfl, rfl, ⟨_, _, rfl, rfl, rfl⟩⟩), fun E1 => ?_⟩
          refine (V1.appendMap (k := 0) (f := encCopy) (l := ([] : List Copy)) (m := out_0) rfl rfl rfl rfl rfl esz_50 eby_50 zk_59 rfl rfl rfl (SrcOf.srMap (k := 4) rfl isl_50) hh8 lt0 ?_)
          intro b25
          refine ⟨_, _, rfl, ?_⟩
          refine WalkP.nil ?_
          refine NodeS.fin (inCons 3 rfl inNil) rfl rfl rfl (⟨_, _, rfl, rfl, ⟨_, _, rfl, rfl, ⟨_, _, rfl, rfl, ⟨_, _, rfl, rfl, ⟨_, _, rfl, rfl, ⟨_, _, rfl, rfl, ⟨_, _, rfl, rfl, rfl⟩⟩⟩⟩⟩⟩⟩) ?_
          refine VO.cons rfl (V1.appendMap (k := 0) (f := encCopy) (l := (([] : List Copy) ++ out_0)) (m := ([x] : List Copy)) rfl rfl rfl rfl rfl esz_50 eby_50 zk_59 rfl rfl rfl (SrcOf.srMap (k := 1) rfl isl_50) hh9 lt0 ?_)
          intro b26
          refine VO.cons rfl (V1.assign rfl rfl rfl lt0 ?_)
          refine VO.nil ?_
          exact ⟨(((([] : List Copy) ++ out_0) ++ ([x] : List Copy)), b26), Option.some.inj hm4, Keeps.mk (ks := [0, 2, 4]) rfl ⟨rfl, rfl, rfl, rfl, rfl, rfl, trivial⟩ (⟨_, _, rfl, rfl, ⟨_, _, rfl, rfl, ⟨_, _, rfl, rfl, rfl⟩⟩⟩) rfl⟩
      ·
       rintro ⟨next, b15⟩ rfl
       try dsimp only at hm3
       refine V.seq ?_
       replace hm3 := bindO hm3; rcases hm3 with ⟨y9, hh10, hm3⟩
       replace hm3 := bindO hm3; rcases hm3 with ⟨y10, hh11, hm3⟩
       refine V.region ?_
       refine VO.cons rfl (V1.move rfl rfl rfl lt0 ?_)
       refine VO.cons rfl (V1.move rfl rfl rfl lt0 ?_)
       refine VO.cons rfl (V1.callL (rn + 1) [b15] [.vl ρ1 4 (List.map (encFormat σ1) list), .vl (rn + 1) 4 (List.map encCopy next)] rfl rfl rfl cok_69 rfl ⟨_, _, rfl, .same _, ⟨_, _, rfl, Lend.srMap 0 rfl (fun _ => rfl) (.head _), rfl⟩⟩ (bwCons (k := 0) rfl bwNil) (ok_spec_l7Copies hh10) rfl (⟨(by first | omega | (dsimp only; omega)), by rintro _ _ ⟨rfl, rfl⟩; exact ⟨rfl, by simp⟩⟩) lt0 ?_)
       rintro _ _ ⟨rfl, rfl⟩
       refine VO.cons rfl (V1.move rfl rfl rfl lt0 ?_)
       apply VO.orH (n := 2) [(b15, ⟨4, List.map encCopy next⟩), (bp, ⟨3, [encCur ρ0 (bif y9 then c_2 else y10.2)]⟩), (b2, ⟨4, List.map encCopy out_0⟩)] rfl rfl rfl rfl rfl rfl lt0 (.none rfl) (fun h => by rw [h]; rfl)
       ·
        intro hg0
        refine VO.step (.some rfl rfl rfl) (V1.move rfl rfl rfl lt0 ?_)
        refine VO.step (.some rfl rfl rfl) (V1.callM 1 (rn + ρ0 + 1) [] [.ref bp 3 0 0, .int .i64 (40 : Int)] (p := (bp, ⟨3, [encCur ρ0 c_2]⟩)) rfl rfl rfl cok_51 rfl rfl ⟨_, _, rfl, .same _, ⟨_, _, rfl, .same _, rfl⟩⟩ bwNil (ok_spec_l1Cur_one (cond_f hg0 hh11)) rfl (.inl rfl) lt0 ?_)
        rintro _ _ ⟨rfl, rfl⟩
        refine VO.weakenK (Keeps.setAt (H := [(b15, ⟨4, List.map encCopy next⟩), (bp, ⟨3, [encCur ρ0 c_2]⟩), (b2, ⟨4, List.map encCopy out_0⟩)]) 1 lt0) ?_
        exact VO.nil ⟨rfl, rfl, rfl, (by rw [hg0]; rfl), .inr ⟨rfl, .inr ⟨rfl, .inr ⟨rfl, .inl rfl⟩⟩⟩⟩
       refine VO.nil ?_
       refine V.keep 93 [0, 1, 5, 6, 7, 9, 61] [0, 1, 2] (E0 := [(0, .ref bp 3 0 0), (1, .vl ρ1 4 (List.map (encFormat σ1) list)), (5, .sref b2 4 0 (List.length out_0)), (6, .int .i64 record), (7, .int .i64 n_), (9, .sref b15 4 0 (List.length next)), (61, .bool (y9 || y10.1))]) (H0 := [(b15, ⟨4, List.map encCopy next⟩), (bp, ⟨3, [encCur ρ0 (bif y9 then c_2 else y10.2)]⟩), (b2, ⟨4, List.map encCopy out_0⟩)]) rfl (⟨_, _, rfl, rfl, ⟨_, _, rfl, rfl, ⟨_, _, rfl, rfl, ⟨_, _, rfl, rfl, ⟨_, _, rfl, rfl, ⟨_, _, rfl, rfl, ⟨_, _, rfl, rfl, rfl⟩⟩⟩⟩⟩⟩⟩) (⟨_, _, rfl, rfl, ⟨_, _, rfl, rfl, ⟨_, _, rfl, rfl, rfl⟩⟩⟩) rfl ?_
       refine V.cond rfl (fun hc4 => ?_) (fun hc4 => ?_)
       ·
        replace hm3 := cond_t hc4 hm3
        refine V.region ?_
        refine VO.cons rfl (V1.move rfl rfl rfl lt0 ?_)
        refine VO.cons rfl (V1.assign rfl rfl rfl lt0 ?_)
        refine VO.nil ?_
        exact ⟨((next, (bif y9 then c_2 else y10.2)), b15), Option.some.inj hm3, Keeps.mk (ks := [0, 1]) rfl ⟨rfl, rfl, rfl, rfl, rfl, trivial⟩ (⟨_, _, rfl, rfl, ⟨_, _, rfl, rfl, rfl⟩⟩) rfl⟩
       ·
        replace hm3 := cond_f hc4 hm3
        refine V.skip ?_
        exact ⟨((out_0, (bif y9 then c_2 else y10.2)), b2), Option.some.inj hm3, Keeps.mk (ks := [2, 1]) rfl ⟨rfl, rfl, rfl, rfl, rfl, trivial⟩ (⟨_, _, rfl, rfl, ⟨_, _, rfl, rfl, rfl⟩⟩) rfl⟩
     ·
      rintro ⟨⟨out_2, c_4⟩, b10⟩ rfl
      try dsimp only at hm2
      replace hm2 := bindO hm2; rcases hm2 with ⟨y11, hh12, hm2⟩
      refine V.region ?_
      refine VO.cons rfl (V1.move rfl rfl rfl lt0 ?_)
      refine VO.cons rfl (V1.move rfl rfl rfl lt0 ?_)
      refine VO.cons rfl (V1.callM 1 (rn + ρ0 + 1) [] [.ref bp 3 0 0, .int .i64 (2 : Int)] (p := (bp, ⟨3, [encCur ρ0 c_4]⟩)) rfl rfl rfl cok_76 rfl rfl ⟨_, _, rfl, .same _, ⟨_, _, rfl, .same _, rfl⟩⟩ bwNil (ok_spec_l1Cur_pick hh12) rfl (.inl rfl) lt0 ?_)
      rintro _ _ ⟨rfl, rfl⟩
      refine VO.cons rfl (V1.int rfl rfl rfl rfl rfl lt0 ?_)
      refine VO.cons rfl (V1.assign rfl rfl rfl lt0 ?_)
      refine VO.nil ?_
      exact ⟨((out_2, (IntKind.i64.wrap (record + y11.1)), y11.2), b10), Option.some.inj hm2, Keeps.mk (ks := [1, 0]) rfl ⟨rfl, rfl, rfl, rfl, rfl, trivial⟩ (⟨_, _, rfl, rfl, ⟨_, _, rfl, rfl, rfl⟩⟩) rfl⟩
   ·
    rintro ⟨⟨out_1, record0, c_1⟩, b3⟩ rfl
    try dsimp only at hm1
    refine V.region ?_
    refine VO.cons rfl (V1.move rfl rfl rfl lt0 ?_)
    refine VO.cons rfl (V1.int rfl rfl rfl rfl rfl lt0 ?_)
    refine VO.cons rfl (V1.assign rfl rfl rfl lt0 ?_)
    refine VO.nil ?_
    exact ⟨(m0, (out_1, record0, (IntKind.i64.wrap (n_ - (1 : Int))), c_1), b3), hl1 _ (Option.some.inj hm1).symm, Nat.lt_succ_self _, Keeps.mk (ks := [0, 1]) rfl ⟨rfl, rfl, rfl, rfl, rfl, trivial⟩ (⟨_, _, rfl, rfl, ⟨_, _, rfl, rfl, rfl⟩⟩) rfl⟩
  ·
   replace hm1 := cond_f hc0 hm1
   refine V.exit ?_
   obtain rfl := hr1 _ (Option.some.inj hm1).symm
   exact ⟨((out_0, c_0), b2), rfl, Keeps.mk (ks := [0, 1]) rfl ⟨rfl, rfl, rfl, trivial⟩ (⟨_, _, rfl, rfl, ⟨_, _, rfl, rfl, rfl⟩⟩) rfl⟩
 ·
  rintro ⟨⟨out_, c_⟩, b1⟩ rfl
  try dsimp only at hm0
  refine V.seq ?_
  refine V.seq ?_
  replace hm0 := bindO hm0; rcases hm0 with ⟨y12, hh13, hm0⟩
  refine V.region ?_
  refine VO.cons rfl (V1.move rfl rfl rfl lt0 ?_)
  refine VO.cons rfl (V1.callM 1 (rn + ρ0 + 1) [] [.ref bp 3 0 0, .int .i64 (24 : Int)] (p := (bp, ⟨3, [encCur ρ0 c_]⟩)) rfl rfl rfl cok_51 rfl rfl ⟨_, _, rfl, .same _, ⟨_, _, rfl, .same _, rfl⟩⟩ bwNil (ok_spec_l1Cur_one hh13) rfl (.inl rfl) lt0 ?_)
  rintro _ _ ⟨rfl, rfl⟩
  refine VO.cons rfl (V1.move rfl rfl rfl lt0 ?_)
  apply VO.and (n := 3) rfl rfl rfl rfl rfl rfl lt0 (.none rfl)
  ·
   intro hg1
   refine VO.step (.some rfl rfl rfl) (V1.move rfl rfl rfl lt0 ?_)
   refine VO.step (.some rfl rfl rfl) (V1.lenMap rfl rfl rfl rfl rfl rfl isl_44 lt0 ?_)
   refine VO.step (.some rfl rfl rfl) (V1.int rfl rfl rfl rfl rfl lt0 ?_)
   exact VO.nil ⟨rfl, rfl, rfl, rfl, .inr ⟨rfl, .inr ⟨rfl, .inr ⟨rfl, .inr ⟨rfl, .inl rfl⟩⟩⟩⟩⟩
  refine VO.nil ?_
  refine V.cond rfl (fun hc5 => ?_) (fun hc5 => ?_)
  ·
   replace hm0 := cond_t hc5 hm0
   refine V.seq ?_
   refine V.region ?_
   refine VO.cons rfl (V1.buildSliceT (f := encCopy) ([] : List Copy) rfl rfl esz_50 zk_59 rfl rfl rfl rfl rfl rfl rfl lt0 ?_)
   intro b27
   refine VO.cons rfl (V1.assign rfl rfl rfl lt0 ?_)
   refine VO.nil ?_
   refine V.keep 93 [0, 1, 5] [0, 1] (E0 := [(0, .ref bp 3 0 0), (1, .vl ρ1 4 (List.map (encFormat σ1) list)), (5, .sref b27 4 0 (List.length ([] : List Copy)))]) (H0 := [(b27, ⟨4, List.map encCopy ([] : List Copy)⟩), (bp, ⟨3, [encCur ρ0 y12.2]⟩)]) rfl (⟨_, _, rfl, rfl, ⟨_, _, rfl, rfl, ⟨_, _, rfl, rfl, rfl⟩⟩⟩) (⟨_, _, rfl, rfl, ⟨_, _, rfl, rfl, rfl⟩⟩) rfl ?_
   refine V.seq ?_
   refine V.region ?_
   refine VO.cons rfl (V1.assign rfl rfl rfl lt0 ?_)
   refine VO.nil ?_
   replace hm0 := bindO hm0; rcases hm0 with ⟨e1, he1, hm0⟩
   refine V.cutT (D := (List Copy × Cur) × (Nat)) (fun ⟨⟨out_3, c_5⟩, b28⟩ => ⟨93, [(5, .sref b28 4 0 (List.length out_3))], [(b28, ⟨4, List.map encCopy out_3⟩), (bp, ⟨3, [encCur ρ0 c_5]⟩)]⟩) (fun ⟨⟨out_3, c_5⟩, b28⟩ => ((out_3, c_5) = e1)) ?_ ?_
   ·
    refine V.block ?_
    refine V.keep 93 [5, 10, 0, 1] [0, 1] (E0 := [(5, .sref b27 4 0 (List.length ([] : List Copy))), (10, .int .i64 (0 : Int)), (0, .ref bp 3 0 0), (1, .vl ρ1 4 (List.map (encFormat σ1) list))]) (H0 := [(b27, ⟨4, List.map encCopy ([] : List Copy)⟩), (bp, ⟨3, [encCur ρ0 y12.2]⟩)]) rfl (⟨_, _, rfl, rfl, ⟨_, _, rfl, rfl, ⟨_, _, rfl, rfl, ⟨_, _, rfl, rfl, rfl⟩⟩⟩⟩) (⟨_, _, rfl, rfl, ⟨_, _, rfl, rfl, rfl⟩⟩) rfl ?_
    refine V.loopE (D := Nat × (List Copy × Int × Cur) × (Nat)) (fun ⟨n1, ⟨out_4, n_0, c_6⟩, b29⟩ => [(5, .sref b29 4 0 (List.length out_4)), (10, .int .i64 n_0)]) (fun ⟨n1, ⟨out_4, n_0, c_6⟩, b29⟩ => [(b29, ⟨4, List.map encCopy out_4⟩), (bp, ⟨3, [encCur ρ0 c_6]⟩)]) (fun ⟨n1, ⟨out_4, n_0, c_6⟩, b29⟩ => loopO (M.spec_l1Cur_copies7_l1 list) n1 (out_4, n_0, c_6) = some e1) (fun ⟨n1, _, _⟩ => n1) (rounds, (([] : List Copy), (0 : Int), y12.2), b27) rfl he1 ?_
    rintro ⟨n1, ⟨out_4, n_0, c_6⟩, b29⟩ hP1
    obtain ⟨m1, y13, rfl, hm1, hl1, hr1⟩ := loop_head hP1
    unfold M.spec_l1Cur_copies7_l1 at hm1; dsimp only at hm1
    show V _ _ _ ⟨93, [(5, .sref b29 4 0 (List.length out_4)), (10, .int .i64 n_0), (0, .ref bp 3 0 0), (1, .vl ρ1 4 (List.map (encFormat σ1) list))], [(b29, ⟨4, List.map encCopy out_4⟩), (bp, ⟨3, [encCur ρ0 c_6]⟩)]⟩
    refine V.seq ?_
    refine V.seq ?_
    replace hm1 := bindO hm1; rcases hm1 with ⟨y14, hh14, hm1⟩
    refine V.region ?_
    refine VO.cons rfl (V1.move rfl rfl rfl lt0 ?_)
    refine VO.cons rfl (V1.move rfl rfl rfl lt0 ?_)
    refine VO.cons rfl (V1.callM 1 (rn + ρ0 + 1) [] [.ref bp 3 0 0, .int .i64 (2 : Int)] (p := (bp, ⟨3, [encCur ρ0 c_6]⟩)) rfl rfl rfl cok_76 rfl rfl ⟨_, _, rfl, .same _, ⟨_, _, rfl, .same _, rfl⟩⟩ bwNil (ok_spec_l1Cur_pick hh14) rfl (.inl rfl) lt0 ?_)
    rintro _ _ ⟨rfl, rfl⟩
    refine VO.cons rfl (V1.int rfl rfl rfl rfl rfl lt0 ?_)
    refine VO.cons rfl (V1.int rfl rfl rfl rfl rfl lt0 ?_)
    refine VO.nil ?_
    refine V.keep 93 [0, 1, 5, 10, 79] [0, 1] (E0 := [(0, .ref bp 3 0 0), (1, .vl ρ1 4 (List.map (encFormat σ1) list)), (5, .sref b29 4 0 (List.length out_4)), (10, .int .i64 n_0), (79, .bool (decide (n_0 < (IntKind.i64.wrap ((15 : Int) + y14.1)))))]) (H0 := [(bp, ⟨3, [encCur ρ0 y14.2]⟩), (b29, ⟨4, List.map encCopy out_4⟩)]) rfl (⟨_, _, rfl, rfl, ⟨_, _, rfl, rfl, ⟨_, _, rfl, rfl, ⟨_, _, rfl, rfl, ⟨_, _, rfl, rfl, rfl⟩⟩⟩⟩⟩) (⟨_, _, rfl, rfl, ⟨_, _, rfl, rfl, rfl⟩⟩) rfl ?_
    refine V.cond rfl (fun hc6 => ?_) (fun hc6 => ?_)
    ·
     replace hm1 := cond_t hc6 hm1
     refine V.skip ?_
     refine V.seq ?_
     refine V.block ?_
     replace hm1 := asrt_some hm1; rcases hm1 with ⟨hh15, hm1⟩
     replace hm1 := asrt_some hm1; rcases hm1 with ⟨hh16, hm1⟩
     refine V.region ?_
     refine VO.cons rfl (V1.move rfl rfl rfl lt0 ?_)
     refine VO.cons rfl (V1.move rfl rfl rfl lt0 ?_)
     refine VO.cons rfl (V1.int rfl rfl rfl rfl rfl lt0 ?_)
     refine VO.cons rfl (V1.move rfl rfl rfl lt0 ?_)
     refine VO.cons rfl (V1.indexI rfl rfl esz_44 rfl rfl hh15 lt0 ?_)
     refine VO.cons rfl (V1.fieldPin rfl rfl fo_87_0 rfl lt0 ?_)
     refine VO.cons rfl (V1.loadPin rfl rfl tyk_3 rfl rfl lt0 ?_)
     refine VO.cons rfl (V1.build rfl rfl zk_59 pl_59 rfl rfl lt0 ?_)
     refine VO.cons rfl (V1.buildSliceT (f := encCopy) ([(⟨(IntKind.i64.wrap (n_0 + (1 : Int))), (list.getD (Int.toNat (0 : Int)) default).Id, (5 : Int), (0 : Int)⟩ : Copy)] : List Copy) rfl rfl esz_50 zk_59 rfl rfl rfl rfl rfl rfl rfl lt0 ?_)
     intro b30
     refine VO.cons rfl (V1.appendMap (k := 2) (f := encCopy) (l := out_4) (m := ([(⟨(IntKind.i64.wrap (n_0 + (1 : Int))), (list.getD (Int.toNat (0 : Int)) default).Id, (5 : Int), (0 : Int)⟩ : Copy)] : List Copy)) rfl rfl rfl rfl rfl esz_50 eby_50 zk_59 rfl rfl rfl (SrcOf.srMap (k := 0) rfl isl_50) hh16 lt0 ?_)
     intro b31
     refine VO.cons rfl (V1.assign rfl rfl rfl lt0 ?_)
     refine VO.nil ?_
     refine V.keep 93 [0, 1, 5, 10] [0, 2] (E0 := [(0, .ref bp 3 0 0), (1, .vl ρ1 4 (List.map (encFormat σ1) list)), (5, .sref b31 4 0 (List.length (out_4 ++ ([(⟨(IntKind.i64.wrap (n_0 + (1 : Int))), (list.getD (Int.toNat (0 : Int)) default).Id, (5 : Int), (0 : Int)⟩ : Copy)] : List Copy)))), (10, .int .i64 n_0)]) (H0 := [(b31, ⟨4, List.map encCopy (out_4 ++ ([(⟨(IntKind.i64.wrap (n_0 + (1 : Int))), (list.getD (Int.toNat (0 : Int)) default).Id, (5 : Int), (0 : Int)⟩ : Copy)] : List Copy))⟩), (bp, ⟨3, [encCur ρ0 y14.2]⟩)]) rfl (⟨_, _, rfl, rfl, ⟨_, _, rfl, rfl, ⟨_, _, rfl, rfl, ⟨_, _, rfl, rfl, rfl⟩⟩⟩⟩) (⟨_, _, rfl, rfl, ⟨_, _, rfl, rfl, rfl⟩⟩) rfl ?_
     refine V.region ?_
     refine VO.cons rfl (V1.move rfl rfl rfl lt0 ?_)
     refine VO.cons rfl (V1.int rfl rfl rfl rfl rfl lt0 ?_)
     refine VO.cons rfl (V1.assign rfl rfl rfl lt0 ?_)
     refine VO.nil ?_
     exact ⟨(m1, ((out_4 ++ ([(⟨(IntKind.i64.wrap (n_0 + (1 : Int))), (list.getD (Int.toNat (0 : Int)) default).Id, (5 : Int), (0 : Int)⟩ : Copy)] : List Copy)), (IntKind.i64.wrap (n_0 + (1 : Int))), y14.2), b31), hl1 _ (Option.some.inj hm1).symm, Nat.lt_succ_self _, Keeps.mk (ks := [0, 1]) rfl ⟨rfl, rfl, rfl, rfl, trivial⟩ (⟨_, _, rfl, rfl, ⟨_, _, rfl, rfl, rfl⟩⟩) rfl⟩
    ·
     replace hm1 := cond_f hc6 hm1
     refine V.exit ?_
     obtain rfl := hr1 _ (Option.some.inj hm1).symm
     exact ⟨((out_4, y14.2), b29), rfl, Keeps.mk (ks := [1, 0]) rfl ⟨rfl, trivial⟩ (⟨_, _, rfl, rfl, ⟨_, _, rfl, rfl, rfl⟩⟩) rfl⟩
   ·
    rintro ⟨⟨out_3, c_5⟩, b28⟩ rfl
    try dsimp only at hm0
    refine V.seq ?_
    refine V.region ?_
    refine VO.cons rfl (V1.move rfl rfl rfl lt0 ?_)
    refine VO.cons rfl (V1.assign rfl rfl rfl lt0 ?_)
    refine VO.nil ?_
    refine V.keep 93 [4] [0, 1] (E0 := [(4, .sref b28 4 0 (List.length out_3))]) (H0 := [(b28, ⟨4, List.map encCopy out_3⟩), (bp, ⟨3, [encCur ρ0 c_5]⟩)]) rfl (⟨_, _, rfl, rfl, rfl⟩) (⟨_, _, rfl, rfl, ⟨_, _, rfl, rfl, rfl⟩⟩) rfl ?_
    refine V.ret ?_
    obtain rfl := Option.some.inj hm0
    exact ⟨_, _, ⟨_, _, rfl, rfl, rfl⟩, List.Sublist.refl _, b28, rfl, rfl⟩
  ·
   replace hm0 := cond_f hc5 hm0
   refine V.skip ?_
   refine V.keep 93 [5] [0, 1] (E0 := [(5, .sref b1 4 0 (List.length out_))]) (H0 := [(bp, ⟨3, [encCur ρ0 y12.2]⟩), (b1, ⟨4, List.map encCopy out_⟩)]) rfl (⟨_, _, rfl, rfl, rfl⟩) (⟨_, _, rfl, rfl, ⟨_, _, rfl, rfl, rfl⟩⟩) rfl ?_
   refine V.seq ?_
   refine V.region ?_
   refine VO.cons rfl (V1.move rfl rfl rfl lt0 ?_)
   refine VO.cons rfl (V1.assign rfl rfl rfl lt0 ?_)
   refine VO.nil ?_
   refine V.keep 93 [4] [1, 0] (E0 := [(4, .sref b1 4 0 (List.length out_))]) (H0 := [(b1, ⟨4, List.map encCopy out_⟩), (bp, ⟨3, [encCur ρ0 y12.2]⟩)]) rfl (⟨_, _, rfl, rfl, rfl⟩) (⟨_, _, rfl, rfl, ⟨_, _, rfl, rfl, rfl⟩⟩) rfl ?_
   refine V.ret ?_
   obtain rfl := Option.some.inj hm0
   exact ⟨_, _, ⟨_, _, rfl, rfl, rfl⟩, List.Sublist.refl _, b1, rfl, rfl⟩

theorem ok_spec_l1Cur_day7 {ρ0 rn bp : Nat} {c : Cur} {r : Int × Cur} (h : M.spec_l1Cur_day7 c = some r) : Does Tryd.prog 65 [.ref bp 3 0 0] [(bp, ⟨3, [encCur ρ0 c]⟩)] rn (fun x H => x = .int .i64 r.1 ∧ H = [(bp, ⟨3, [encCur ρ0 r.2]⟩)]) := by
 have hm0 := h; clear h; unfold M.spec_l1Cur_day7 at hm0
 try dsimp only at hm0
 refine Does.intro (N := 11) Tryd.func65 rfl rfl rfl rfl ?_
 intro w0 S0
 refine V.seq ?_
 refine V.region ?_
 refine VO.cons rfl (V1.assign rfl rfl rfl lt0 ?_)
 refine VO.nil ?_
 refine V.seq ?_
 replace hm0 := bindO hm0; rcases hm0 with ⟨y0, hh0, hm0⟩
 replace hm0 := asrt_some hm0; rcases hm0 with ⟨hh1, hm0⟩
 replace hm0 := bindO hm0; rcases hm0 with ⟨y1, hh2, hm0⟩
 refine V.region ?_
 refine VO.cons rfl (V1.move rfl rfl rfl lt0 ?_)
 refine VO.cons rfl (V1.buildSliceT (f := encInt) ([(0 : Int), (99 : Int), (100 : Int), (101 : Int), (901 : Int), (20000 : Int), (-1 : Int), (20001 : Int)] : List Int) rfl rfl esz_31 zk_3 rfl rfl rfl rfl rfl rfl rfl lt0 ?_)
 intro b0
 refine VO.cons rfl (V1.move rfl rfl rfl lt0 ?_)
 refine VO.cons rfl (V1.callM 1 (rn + ρ0 + 1) [] [.ref bp 3 0 0, .int .i64 (24 : Int)] (p := (bp, ⟨3, [encCur ρ0 c]⟩)) rfl rfl rfl cok_76 rfl rfl ⟨_, _, rfl, .same _, ⟨_, _, rfl, .same _, rfl⟩⟩ bwNil (ok_spec_l1Cur_pick hh0) rfl (.inl rfl) lt0 ?_)
 rintro _ _ ⟨rfl, rfl⟩
 refine VO.cons rfl (V1.quo rfl rfl rfl rfl (by decide) lt0 ?_)
 refine VO.cons rfl (V1.int rfl rfl rfl rfl rfl lt0 ?_)
 refine VO.weakenK (Keeps.freezeG 1 rn [(4, .vl rn 1 (List.map encInt ([(0 : Int), (99 : Int), (100 : Int), (101 : Int), (901 : Int), (20000 : Int), (-1 : Int), (20001 : Int)] : List Int)))] [(bp, ⟨3, [encCur ρ0 y0.2]⟩)] (f := encInt) (l := ([(0 : Int), (99 : Int), (100 : Int), (101 : Int), (901 : Int), (20000 : Int), (-1 : Int), (20001 : Int)] : List Int)) rfl (fun _ => rfl) ⟨⟨_, rfl, .here⟩, trivial⟩ ⟨_, _, rfl, rfl, .inl rfl, rfl⟩ rfl (iOne (b := bp) 0 rfl)) ?_
 refine VO.cons rfl (V1.sliceMap (a := (0 : Int)) (b := (IntKind.i64.wrap ((6 : Int) + (IntKind.i64.wrap (Int.tdiv y0.1 (11 : Int)))))) rfl rfl esz_31 rfl (Bnd.none _ _) (Bnd.some rfl (Int.le_trans hh1.1 hh1.2.1) _) hh1 lt0 ?_)
 refine VO.cons rfl (V1.callM 0 (rn + ρ0 + 1) [] [.ref bp 3 0 0, .vl rn 1 (List.map encInt (slc ([(0 : Int), (99 : Int), (100 : Int), (101 : Int), (901 : Int), (20000 : Int), (-1 : Int), (20001 : Int)] : List Int) (0 : Int) (IntKind.i64.wrap ((6 : Int) + (IntKind.i64.wrap (Int.tdiv y0.1 (11 : Int)))))))] (p := (bp, ⟨3, [encCur ρ0 y0.2]⟩)) rfl rfl rfl cok_75 rfl rfl ⟨_, _, rfl, .same _, ⟨_, _, rfl, .same _, rfl⟩⟩ bwNil (ok_spec_l1Cur_among hh2) rfl (.inl rfl) lt0 ?_)
 rintro _ _ ⟨rfl, rfl⟩
 refine VO.cons rfl (V1.assign rfl rfl rfl lt0 ?_)
 refine VO.nil ?_
 refine V.ret ?_
 obtain rfl := Option.some.inj hm0
 exact ⟨_, _, ⟨_, _, rfl, rfl, rfl⟩, (sub1 (k := 0) rfl), rfl, rfl⟩

theorem ok_spec_DrawLostRecords {ρ0 rn : Nat} {code : List Int} {r : List Format × List Copy × Int} (h : M.spec_DrawLostRecords code = some r) : Does Tryd.prog 26 [.vl ρ0 1 (List.map encU8 code)] [] rn (fun x H => ∃ (ob0_ : Nat) (ob1_ : Nat), x = .tup [PV.sref ob0_ 4 0 (List.length r.1), PV.sref ob1_ 4 0 (List.length r.2.1), .int .i64 r.2.2] ∧ H = [(ob0_, ⟨4, List.map (encFormat rn) r.1⟩)] ++ [(ob1_, ⟨4, List.map encCopy r.2.1⟩)]) := by
 have hm0 := h; clear h; unfold M.spec_DrawLostRecords at hm0
 try dsimp only at hm0
 refine Does.intro (N := 20) Tryd.func26 rfl rfl rfl rfl ?_
 intro w0 S0
 refine V.seq ?_
 refine V.region ?_
 refine VO.cons rfl (V1.assign rfl rfl rfl lt0 ?_)
 refine VO.cons rfl (V1.assign rfl rfl rfl lt0 ?_)
 refine VO.cons rfl (V1.assign rfl rfl rfl lt0 ?_)
 refine VO.nil ?_
 refine V.seq ?_
 refine V.region ?_
 refine VO.cons rfl (V1.move rfl rfl rfl lt0 ?_)
 refine VO.cons rfl (V1.build rfl rfl zk_71 pl_71 rfl rfl lt0 ?_)
 refine VO.cons rfl (V1.boxN (n := 3) rfl rfl rfl rfl rfl lt0 ?_)
 intro b0
 refine VO.cons rfl (V1.assign rfl rfl rfl lt0 ?_)
 refine VO.nil ?_
 refine V.keep 20 [5] [0] (E0 := [(5, .ref b0 3 0 0)]) (H0 := [(b0, ⟨3, [.agg [.vl ρ0 1 (List.map encU8 code), .int .i64 (0 : Int), .int .u64 (0 : Int)]]⟩)]) rfl (⟨_, _, rfl, rfl, rfl⟩) (⟨_, _, rfl, rfl, rfl⟩) rfl ?_
 refine V.seq ?_
 replace hm0 := bindO hm0; rcases hm0 with ⟨y0, hh0, hm0⟩
 refine V.region ?_
 refine VO.cons rfl (V1.move rfl rfl rfl lt0 ?_)
 refine VO.cons rfl (V1.callM 0 (rn + ρ0 + 1) [] [.ref b0 3 0 0] (p := (b0, ⟨3, [.agg [.vl ρ0 1 (List.map encU8 code), .int .i64 (0 : Int), .int .u64 (0 : Int)]]⟩)) rfl rfl rfl cok_56 rfl rfl ⟨_, _, rfl, .same _, rfl⟩ bwNil (ok_spec_l1Cur_formats hh0) rfl (.inl rfl) lt0 ?_)
 rintro _ _ ⟨b1, rfl, rfl⟩
 refine VO.cons rfl (V1.assign rfl rfl rfl lt0 ?_)
 refine VO.nil ?_
 refine V.seq ?_
 replace hm0 := bindO hm0; rcases hm0 with ⟨y1, hh1, hm0⟩
 refine V.region ?_
 refine VO.cons rfl (V1.move rfl rfl rfl lt0 ?_)
 refine VO.cons rfl (V1.move rfl rfl rfl lt0 ?_)
 refine VO.cons rfl (V1.callM 1 (rn + ρ0 + 1) [b1] [.ref b0 3 0 0, .vl (rn + ρ0 + 1) 4 (List.map (encFormat rn) y0.1)] (p := (b0, ⟨3, [encCur ρ0 y0.2]⟩)) rfl rfl rfl cok_64 rfl rfl ⟨_, _, rfl, .same _, ⟨_, _, rfl, Lend.srMap 0 rfl (fun _ => rfl) (.head _), rfl⟩⟩ (bwCons (k := 0) rfl bwNil) (ok_spec_l1Cur_copies7 hh1) rfl (.inr ⟨(by first | omega | (dsimp only; omega)), by rintro _ _ ⟨b2, rfl, rfl⟩; exact ⟨by simp [PV.no, PV.noL, optS_no, noL_iff, nbeq] <;> omega, by intro b ob h; first | exact optH_no (noL_map (fun _ => by simp [PV.no, PV.noL, noL_iff, nbeq]) _) b ob h | (simp only [List.append_assoc, List.mem_append, List.mem_cons, List.mem_singleton, List.not_mem_nil, or_false, Prod.mk.injEq] at h; rcases h with ⟨rfl, rfl⟩ | ⟨rfl, rfl⟩ <;> first | exact noL_map (fun _ => by simp [PV.no, PV.noL, noL_iff, nbeq]) _ | (simp [PV.no, PV.noL, optS_no, noL_iff, nbeq] <;> omega)) | (simp at h; obtain ⟨rfl, rfl⟩ := h; exact noL_map (fun _ => by simp [PV.no, PV.noL, noL_iff, nbeq]) _) | (simp at h; obtain ⟨rfl, rfl⟩ := h; simp [PV.no, PV.noL, optS_no, noL_iff, nbeq] <;> omega)⟩⟩) lt0 ?_)
 rintro _ _ ⟨b2, rfl, rfl⟩
 refine VO.cons rfl (V1.assign rfl rfl rfl lt0 ?_)
 refine VO.nil ?_
 refine V.keep 20 [5, 6, 7] [0, 1, 2] (E0 := [(5, .ref b0 3 0 0), (6, .sref b1 4 0 (List.length y0.1)), (7, .sref b2 4 0 (List.length y1.1))]) (H0 := [(b2, ⟨4, List.map encCopy y1.1⟩), (b0, ⟨3, [encCur ρ0 y1.2]⟩), (b1, ⟨4, List.map (encFormat rn) y0.1⟩)]) rfl (⟨_, _, rfl, rfl, ⟨_, _, rfl, rfl, ⟨_, _, rfl, rfl, rfl⟩⟩⟩) (⟨_, _, rfl, rfl, ⟨_, _, rfl, rfl, ⟨_, _, rfl, rfl, rfl⟩⟩⟩) rfl ?_
 refine V.seq ?_
 replace hm0 := bindO hm0; rcases hm0 with ⟨y2, hh2, hm0⟩
 refine V.region ?_
 refine VO.cons rfl (V1.move rfl rfl rfl lt0 ?_)
 refine VO.cons rfl (V1.move rfl rfl rfl lt0 ?_)
 refine VO.cons rfl (V1.move rfl rfl rfl lt0 ?_)
 refine VO.cons rfl (V1.callM 1 (rn + ρ0 + 1) [] [.ref b0 3 0 0] (p := (b0, ⟨3, [encCur ρ0 y1.2]⟩)) rfl rfl rfl cok_65 rfl rfl ⟨_, _, rfl, .same _, rfl⟩ bwNil (ok_spec_l1Cur_day7 hh2) rfl (.inl rfl) lt0 ?_)
 rintro _ _ ⟨rfl, rfl⟩
 refine VO.cons rfl (V1.assign rfl rfl rfl lt0 ?_)
 refine VO.cons rfl (V1.assign rfl rfl rfl lt0 ?_)
 refine VO.cons rfl (V1.assign rfl rfl rfl lt0 ?_)
 refine VO.nil ?_
 refine V.keep 20 [2, 3, 4] [2, 1] (E0 := [(2, .sref b1 4 0 (List.length y0.1)), (3, .sref b2 4 0 (List.length y1.1)), (4, .int .i64 y2.1)]) (H0 := [(b1, ⟨4, List.map (encFormat rn) y0.1⟩), (b2, ⟨4, List.map encCopy y1.1⟩)]) rfl (⟨_, _, rfl, rfl, ⟨_, _, rfl, rfl, ⟨_, _, rfl, rfl, rfl⟩⟩⟩) (⟨_, _, rfl, rfl, ⟨_, _, rfl, rfl, rfl⟩⟩) rfl ?_
 refine V.ret ?_
 obtain rfl := Option.some.inj hm0
 exact ⟨_, _, ⟨_, _, rfl, rfl, ⟨_, _, rfl, rfl, ⟨_, _, rfl, rfl, rfl⟩⟩⟩, List.Sublist.refl _, b1, b2, rfl, rfl⟩

theorem ok_cmp_isNaN_int {rn : Nat} {x : Int} {r : Bool} (h : M.cmp_isNaN_int x = some r) : Does Tryd.prog 96 [.int .i64 x] [] rn (fun x H => x = .bool r ∧ H = []) := by
 have hm0 := h; clear h; unfold M.cmp_isNaN_int at hm0
 try dsimp only at hm0
 refine Does.intro (N := 6) Tryd.func96 rfl rfl rfl rfl ?_
 intro w0 S0
 refine V.seq ?_
 refine V.region ?_
 refine VO.cons rfl (V1.assign rfl rfl rfl lt0 ?_)
 refine VO.nil ?_
 refine V.seq ?_
 refine V.region ?_
 refine VO.cons rfl (V1.move rfl rfl rfl lt0 ?_)
 refine VO.cons rfl (V1.move rfl rfl rfl lt0 ?_)
 refine VO.cons rfl (V1.int rfl rfl rfl rfl rfl lt0 ?_)
 refine VO.cons rfl (V1.assign rfl rfl rfl lt0 ?_)
 refine VO.nil ?_
 refine V.ret ?_
 obtain rfl := Option.some.inj hm0
 exact ⟨_, [], ⟨_, _, rfl, rfl, rfl⟩, List.nil_sublist _, rfl, rfl⟩

theorem ok_cmp_Compare_int {rn : Nat} {x : Int} {y : Int} {r : Int} (h : M.cmp_Compare_int x y = some r) : Does Tryd.prog 74 [.int .i64 x, .int .i64 y] [] rn (fun x H => x = .int .i64 r ∧ H = []) := by
 have hm0 := h; clear h; unfold M.cmp_Compare_int at hm0
 try dsimp only at hm0
 refine Does.intro (N := 20) Tryd.func74 rfl rfl rfl rfl ?_
 intro w0 S0
 refine V.seq ?_
 refine V.region ?_
 refine VO.cons rfl (V1.assign rfl rfl rfl lt0 ?_)
 refine VO.nil ?_
 refine V.seq ?_
 replace hm0 := bindO hm0; rcases hm0 with ⟨y0, hh0, hm0⟩
 refine V.region ?_
 refine VO.cons rfl (V1.move rfl rfl rfl lt0 ?_)
 refine VO.cons rfl (V1.call rfl rfl rfl cok_96 rfl (ok_cmp_isNaN_int hh0) rfl lt0 ?_)
 rintro _ _ ⟨rfl, rfl⟩
 refine VO.cons rfl (V1.assign rfl rfl rfl lt0 ?_)
 refine VO.nil ?_
 refine V.seq ?_
 replace hm0 := bindO hm0; rcases hm0 with ⟨y1, hh1, hm0⟩
 refine V.region ?_
 refine VO.cons rfl (V1.move rfl rfl rfl lt0 ?_)
 refine VO.cons rfl (V1.call rfl rfl rfl cok_96 rfl (ok_cmp_isNaN_int hh1) rfl lt0 ?_)
 rintro _ _ ⟨rfl, rfl⟩
 refine VO.cons rfl (V1.assign rfl rfl rfl lt0 ?_)
 refine VO.nil ?_
 refine V.keep 20 [0, 1, 5, 6] [] (E0 := [(0, .int .i64 x), (1, .int .i64 y), (5, .bool y0), (6, .bool y1)]) (H0 := []) rfl (⟨_, _, rfl, rfl, ⟨_, _, rfl, rfl, ⟨_, _, rfl, rfl, ⟨_, _, rfl, rfl, rfl⟩⟩⟩⟩) (rfl) rfl ?_
 refine V.seq ?_
 refine V.seq ?_
 refine V.region ?_
 refine VO.cons rfl (V1.move rfl rfl rfl lt0 ?_)
 refine VO.nil ?_
 refine V.cond rfl (fun hc0 => ?_) (fun hc0 => ?_)
 ·
  replace hm0 := cond_t hc0 hm0
  refine V.seq ?_
  refine V.seq ?_
  refine V.region ?_
  refine VO.cons rfl (V1.move rfl rfl rfl lt0 ?_)
  refine VO.nil ?_
  refine V.keep 20 [12] [] (E0 := [(12, .bool y1)]) (H0 := []) rfl (⟨_, _, rfl, rfl, rfl⟩) (rfl) rfl ?_
  refine V.cond rfl (fun hc1 => ?_) (fun hc1 => ?_)
  ·
   replace hm0 := cond_t hc1 hm0
   refine V.seq ?_
   refine V.region ?_
   refine VO.cons rfl (V1.assign rfl rfl rfl lt0 ?_)
   refine VO.nil ?_
   refine V.ret ?_
   obtain rfl := Option.some.inj hm0
   exact ⟨_, [], ⟨_, _, rfl, rfl, rfl⟩, List.nil_sublist _, rfl, rfl⟩
  ·
   replace hm0 := cond_f hc1 hm0
   refine V.skip ?_
   refine V.seq ?_
   refine V.region ?_
   refine VO.cons rfl (V1.assign rfl rfl rfl lt0 ?_)
   refine VO.nil ?_
   refine V.ret ?_
   obtain rfl := Option.some.inj hm0
   exact ⟨_, [], ⟨_, _, rfl, rfl, rfl⟩, List.nil_sublist _, rfl, rfl⟩
 ·
  replace hm0 := cond_f hc0 hm0
  refine V.skip ?_
  refine V.seq ?_
  refine V.seq ?_
  refine V.region ?_
  refine VO.cons rfl (V1.move rfl rfl rfl lt0 ?_)
  refine VO.nil ?_
  refine V.cond rfl (fun hc2 => ?_) (fun hc2 => ?_)
  ·
   replace hm0 := cond_t hc2 hm0
   refine V.seq ?_
   refine V.region ?_
   refine VO.cons rfl (V1.assign rfl rfl rfl lt0 ?_)
   refine VO.nil ?_
   refine V.ret ?_
   obtain rfl := Option.some.inj hm0
   exact ⟨_, [], ⟨_, _, rfl, rfl, rfl⟩, List.nil_sublist _, rfl, rfl⟩
  ·
   replace hm0 := cond_f hc2 hm0
   refine V.skip ?_
   refine V.keep 20 [0, 1] [] (E0 := [(0, .int .i64 x), (1, .int .i64 y)]) (H0 := []) rfl (⟨_, _, rfl, rfl, ⟨_, _, rfl, rfl, rfl⟩⟩) (rfl) rfl ?_
   refine V.seq ?_
   refine V.seq ?_
   refine V.region ?_
   refine VO.cons rfl (V1.move rfl rfl rfl lt0 ?_)
   refine VO.cons rfl (V1.move rfl rfl rfl lt0 ?_)
   refine VO.cons rfl (V1.int rfl rfl rfl rfl rfl lt0 ?_)
   refine VO.nil ?_
   refine V.cond rfl (fun hc3 => ?_) (fun hc3 => ?_)
   ·
    replace hm0 := cond_t hc3 hm0
    refine V.seq ?_
    refine V.region ?_
    refine VO.cons rfl (V1.assign rfl rfl rfl lt0 ?_)
    refine VO.nil ?_
    refine V.ret ?_
    obtain rfl := Option.some.inj hm0
    exact ⟨_, [], ⟨_, _, rfl, rfl, rfl⟩, List.nil_sublist _, rfl, rfl⟩
   ·
    replace hm0 := cond_f hc3 hm0
    refine V.skip ?_
    refine V.seq ?_
    refine V.seq ?_
    refine V.region ?_
    refine VO.cons rfl (V1.move rfl rfl rfl lt0 ?_)
    refine VO.cons rfl (V1.move rfl rfl rfl lt0 ?_)
    refine VO.cons rfl (V1.int rfl rfl rfl rfl rfl lt0 ?_)
    refine VO.nil ?_
    refine V.keep 20 [19] [] (E0 := [(19, .bool (decide (x > y)))]) (H0 := []) rfl (⟨_, _, rfl, rfl, rfl⟩) (rfl) rfl ?_
    refine V.cond rfl (fun hc4 => ?_) (fun hc4 => ?_)
    ·
     replace hm0 := cond_t hc4 hm0
     refine V.seq ?_
     refine V.region ?_
     refine VO.cons rfl (V1.assign rfl rfl rfl lt0 ?_)
     refine VO.nil ?_
     refine V.ret ?_
     obtain rfl := Option.some.inj hm0
     exact ⟨_, [], ⟨_, _, rfl, rfl, rfl⟩, List.nil_sublist _, rfl, rfl⟩
    ·
     replace hm0 := cond_f hc4 hm0
     refine V.skip ?_
     refine V.seq ?_
     refine V.region ?_
     refine VO.cons rfl (V1.assign rfl rfl rfl lt0 ?_)
     refine VO.nil ?_
     refine V.ret ?_
     obtain rfl := Option.some.inj hm0
     exact ⟨_, [], ⟨_, _, rfl, rfl, rfl⟩, List.nil_sublist _, rfl, rfl⟩

theorem ok_cmp_Or_int {ρ0 rn : Nat} {vals : List Int} {r : Int} (h : M.cmp_Or_int vals = some r) : Does Tryd.prog 73 [.vl ρ0 1 (List.map encInt vals)] [] rn (fun x H => x = .int .i64 r ∧ H = []) := by
 have hm0 := h; clear h; unfold M.cmp_Or_int at hm0
 try dsimp only at hm0
 refine Does.intro (N := 18) Tryd.func73 rfl rfl rfl rfl ?_
 intro w0 S0
 refine V.seq ?_
 refine V.region ?_
 refine VO.cons rfl (V1.assign rfl rfl rfl lt0 ?_)
 refine VO.nil ?_
 refine V.seq ?_
 refine V.region ?_
 refine VO.cons rfl (V1.assign rfl rfl rfl lt0 ?_)
 refine VO.nil ?_
 refine V.seq ?_
 refine V.seq ?_
 refine V.region ?_
 refine VO.cons rfl (V1.move rfl rfl rfl lt0 ?_)
 refine VO.cons rfl (V1.lenMap rfl rfl rfl rfl rfl rfl isl_31 lt0 ?_)
 refine VO.cons rfl (V1.move rfl rfl rfl lt0 ?_)
 refine VO.nil ?_
 replace hm0 := bindO hm0; rcases hm0 with ⟨e0, he1, hm0⟩
 refine V.cutT (D := (Unit) × (Unit)) (fun ⟨_, _⟩ => ⟨18, [(3, .int .i64 (0 : Int))], []⟩) (fun ⟨_, _⟩ => (.inl () = e0)) ?_ ?_
 ·
  refine V.block ?_
  refine V.keep 18 [8, 3, 6, 7] [] (E0 := [(8, .int .i64 (0 : Int)), (3, .int .i64 (0 : Int)), (6, .vl ρ0 1 (List.map encInt vals)), (7, .int .i64 (vals.length : Int))]) (H0 := []) rfl (⟨_, _, rfl, rfl, ⟨_, _, rfl, rfl, ⟨_, _, rfl, rfl, ⟨_, _, rfl, rfl, rfl⟩⟩⟩⟩) (rfl) rfl ?_
  refine V.loopE (D := Nat × (Int) × (Unit)) (fun ⟨n0, v, _⟩ => [(8, .int .i64 v)]) (fun ⟨n0, v, _⟩ => []) (fun ⟨n0, v, _⟩ => loopO (M.cmp_Or_int_l0 vals) n0 v = some e0) (fun ⟨n0, _, _⟩ => n0) (rounds, (0 : Int), ()) rfl he1 ?_
  rintro ⟨n0, v, _⟩ hP0
  obtain ⟨m0, y0, rfl, hm1, hl1, hr1⟩ := loop_head hP0
  unfold M.cmp_Or_int_l0 at hm1; dsimp only at hm1
  show V _ _ _ ⟨18, [(8, .int .i64 v), (3, .int .i64 (0 : Int)), (6, .vl ρ0 1 (List.map encInt vals)), (7, .int .i64 (vals.length : Int))], []⟩
  refine V.seq ?_
  refine V.region ?_
  refine VO.cons rfl (V1.int rfl rfl rfl rfl rfl lt0 ?_)
  refine VO.nil ?_
  refine V.seq ?_
  refine V.cond rfl (fun hc0 => ?_) (fun hc0 => ?_)
  ·
   replace hm1 := cond_t hc0 hm1
   refine V.skip ?_
   refine V.seq ?_
   refine V.block ?_
   refine V.seq ?_
   replace hm1 := asrt_some hm1; rcases hm1 with ⟨hh0, hm1⟩
   refine V.region ?_
   refine VO.cons rfl (V1.indexI rfl rfl esz_31 rfl rfl hh0 lt0 ?_)
   refine VO.cons rfl (V1.loadPin rfl rfl tyk_3 rfl rfl lt0 ?_)
   refine VO.cons rfl (V1.assign rfl rfl rfl lt0 ?_)
   refine VO.nil ?_
   refine V.seq ?_
   refine V.region ?_
   refine VO.cons rfl (V1.move rfl rfl rfl lt0 ?_)
   refine VO.cons rfl (V1.move rfl rfl rfl lt0 ?_)
   refine VO.cons rfl (V1.int rfl rfl rfl rfl rfl lt0 ?_)
   refine VO.nil ?_
   refine V.keep 18 [3, 5, 6, 7, 8, 14] [] (E0 := [(3, .int .i64 (0 : Int)), (5, .int .i64 (vals.getD (Int.toNat v) default)), (6, .vl ρ0 1 (List.map encInt vals)), (7, .int .i64 (vals.length : Int)), (8, .int .i64 v), (14, .bool ((vals.getD (Int.toNat v) default) != (0 : Int)))]) (H0 := []) rfl (⟨_, _, rfl, rfl, ⟨_, _, rfl, rfl, ⟨_, _, rfl, rfl, ⟨_, _, rfl, rfl, ⟨_, _, rfl, rfl, ⟨_, _, rfl, rfl, rfl⟩⟩⟩⟩⟩⟩) (rfl) rfl ?_
   refine V.cond rfl (fun hc1 => ?_) (fun hc1 => ?_)
   ·
    replace hm1 := cond_t hc1 hm1
    refine V.seq ?_
    refine V.region ?_
    refine VO.cons rfl (V1.move rfl rfl rfl lt0 ?_)
    refine VO.cons rfl (V1.assign rfl rfl rfl lt0 ?_)
    refine VO.nil ?_
    refine V.ret ?_
    obtain rfl := hr1 _ (Option.some.inj hm1).symm
    change some _ = some _ at hm0
    obtain rfl := Option.some.inj hm0
    exact ⟨_, [], ⟨_, _, rfl, rfl, rfl⟩, List.nil_sublist _, rfl, rfl⟩
   ·
    replace hm1 := cond_f hc1 hm1
    refine V.skip ?_
    refine V.region ?_
    refine VO.cons rfl (V1.int rfl rfl rfl rfl rfl lt0 ?_)
    refine VO.cons rfl (V1.move rfl rfl rfl lt0 ?_)
    refine VO.nil ?_
    exact ⟨(m0, (IntKind.i64.wrap (v + (1 : Int))), ()), hl1 _ (Option.some.inj hm1).symm, Nat.lt_succ_self _, Keeps.mk (ks := []) rfl ⟨rfl, rfl, rfl, rfl, trivial⟩ (rfl) rfl⟩
  ·
   replace hm1 := cond_f hc0 hm1
   refine V.exit ?_
   obtain rfl := hr1 _ (Option.some.inj hm1).symm
   exact ⟨((), ()), rfl, Keeps.mk (ks := []) rfl ⟨rfl, trivial⟩ (rfl) rfl⟩
 ·
  rintro ⟨_, _⟩ rfl
  try dsimp only at hm0
  refine V.seq ?_
  refine V.region ?_
  refine VO.cons rfl (V1.move rfl rfl rfl lt0 ?_)
  refine VO.cons rfl (V1.assign rfl rfl rfl lt0 ?_)
  refine VO.nil ?_
  refine V.ret ?_
  obtain rfl := Option.some.inj hm0
  exact ⟨_, [], ⟨_, _, rfl, rfl, rfl⟩, List.nil_sublist _, rfl, rfl⟩

theorem ok_impl_AreCopies {ρ0 ρ1 rn : Nat} {list : List Format} {copies : List Copy} {r : Bool} (h : M.impl_AreCopies list copies = some r) : Does Tryd.prog 32 [.vl ρ0 4 (List.map (encFormat ρ0) list), .vl ρ1 4 (List.map encCopy copies)] [] rn (fun x H => x = .bool r ∧ H = []) := by
 have hm0 := h; clear h; unfold M.impl_AreCopies at hm0
 try dsimp only at hm0
 refine Does.intro (N := 71) Tryd.func32 rfl rfl rfl rfl ?_
 intro w0 S0
 refine V.seq ?_
 refine V.region ?_
 refine VO.cons rfl (V1.assign rfl rfl rfl lt0 ?_)
 refine VO.nil ?_
 refine V.seq ?_
 refine V.seq ?_
 replace hm0 := bindO hm0; rcases hm0 with ⟨y0, hh0, hm0⟩
 refine V.region ?_
 refine VO.cons rfl (V1.move rfl rfl rfl lt0 ?_)
 refine VO.cons rfl (V1.call rfl rfl rfl cok_37 rfl (ok_impl_AreFormats hh0) rfl lt0 ?_)
 rintro _ _ ⟨rfl, rfl⟩
 refine VO.cons rfl (V1.not rfl rfl rfl lt0 ?_)
 refine VO.cons rfl (V1.move rfl rfl rfl lt0 ?_)
 apply VO.or (n := 3) rfl rfl rfl rfl rfl rfl lt0 (.none rfl)
 ·
  intro hg0
  refine VO.step (.some rfl rfl rfl) (V1.move rfl rfl rfl lt0 ?_)
  refine VO.step (.some rfl rfl rfl) (V1.lenMap rfl rfl rfl rfl rfl rfl isl_50 lt0 ?_)
  refine VO.step (.some rfl rfl rfl) (V1.int rfl rfl rfl rfl rfl lt0 ?_)
  exact VO.nil ⟨rfl, rfl, rfl, rfl, .inr ⟨rfl, .inr ⟨rfl, .inr ⟨rfl, .inr ⟨rfl, .inl rfl⟩⟩⟩⟩⟩
 refine VO.nil ?_
 refine V.keep 71 [0, 1, 14] [] (E0 := [(0, .vl ρ0 4 (List.map (encFormat ρ0) list)), (1, .vl ρ1 4 (List.map encCopy copies)), (14, .bool ((!y0) || (decide ((copies.length : Int) > (15 : Int)))))]) (H0 := []) rfl (⟨_, _, rfl, rfl, ⟨_, _, rfl, rfl, ⟨_, _, rfl, rfl, rfl⟩⟩⟩) (rfl) rfl ?_
 refine V.cond rfl (fun hc0 => ?_) (fun hc0 => ?_)
 ·
  replace hm0 := cond_t hc0 hm0
  refine V.seq ?_
  refine V.region ?_
  refine VO.cons rfl (V1.assign rfl rfl rfl lt0 ?_)
  refine VO.nil ?_
  refine V.ret ?_
  obtain rfl := Option.some.inj hm0
  exact ⟨_, [], ⟨_, _, rfl, rfl, rfl⟩, List.nil_sublist _, rfl, rfl⟩
 ·
  replace hm0 := cond_f hc0 hm0
  refine V.skip ?_
  refine V.seq ?_
  refine V.seq ?_
  refine V.region ?_
  refine VO.cons rfl (V1.move rfl rfl rfl lt0 ?_)
  refine VO.cons rfl (V1.lenMap rfl rfl rfl rfl rfl rfl isl_50 lt0 ?_)
  refine VO.cons rfl (V1.move rfl rfl rfl lt0 ?_)
  refine VO.nil ?_
  replace hm0 := bindO hm0; rcases hm0 with ⟨e0, he1, hm0⟩
  refine V.cutT (D := (Unit) × (Unit)) (fun ⟨_, _⟩ => ⟨71, [], []⟩) (fun ⟨_, _⟩ => (.inl () = e0)) ?_ ?_
  ·
   refine V.block ?_
   refine V.keep 71 [17, 0, 1, 15, 16] [] (E0 := [(17, .int .i64 (0 : Int)), (0, .vl ρ0 4 (List.map (encFormat ρ0) list)), (1, .vl ρ1 4 (List.map encCopy copies)), (15, .vl ρ1 4 (List.map encCopy copies)), (16, .int .i64 (copies.length : Int))]) (H0 := []) rfl (⟨_, _, rfl, rfl, ⟨_, _, rfl, rfl, ⟨_, _, rfl, rfl, ⟨_, _, rfl, rfl, ⟨_, _, rfl, rfl, rfl⟩⟩⟩⟩⟩) (rfl) rfl ?_
   refine V.loopE (D := Nat × (Int) × (Unit)) (fun ⟨n0, v, _⟩ => [(17, .int .i64 v)]) (fun ⟨n0, v, _⟩ => []) (fun ⟨n0, v, _⟩ => loopO (M.impl_AreCopies_l0 list copies) n0 v = some e0) (fun ⟨n0, _, _⟩ => n0) (rounds, (0 : Int), ()) rfl he1 ?_
   rintro ⟨n0, v, _⟩ hP0
   obtain ⟨m0, y1, rfl, hm1, hl1, hr1⟩ := loop_head hP0
   unfold M.impl_AreCopies_l0 at hm1; dsimp only at hm1
   show V _ _ _ ⟨71, [(17, .int .i64 v), (0, .vl ρ0 4 (List.map (encFormat ρ0) list)), (1, .vl ρ1 4 (List.map encCopy copies)), (15, .vl ρ1 4 (List.map encCopy copies)), (16, .int .i64 (copies.length : Int))], []⟩
   refine V.seq ?_
   refine V.region ?_
   refine VO.cons rfl (V1.int rfl rfl rfl rfl rfl lt0 ?_)
   refine VO.nil ?_
   refine V.seq ?_
   refine V.cond rfl (fun hc1 => ?_) (fun hc1 => ?_)
   ·
    replace hm1 := cond_t hc1 hm1
    refine V.skip ?_
    refine V.seq ?_
    refine V.block ?_
    refine V.seq ?_
    replace hm1 := asrt_some hm1; rcases hm1 with ⟨hh1, hm1⟩
    refine V.region ?_
    refine VO.cons rfl (V1.move rfl rfl rfl lt0 ?_)
    refine VO.cons rfl (V1.indexI rfl rfl esz_50 rfl rfl hh1 lt0 ?_)
    refine VO.cons rfl (V1.loadPinAll rfl rfl tyk_59 rfl rfl lt0 ?_)
    refine VO.cons rfl (V1.alloc rfl rfl zk_59 lt0 ?_)
    intro b0
    refine VO.cons rfl (V1.assign rfl rfl rfl lt0 ?_)
    refine VO.cons rfl (V1.storeRefAll (k := 0) rfl rfl tyk_59 rfl rfl rfl rfl rfl rfl ?_)
    refine VO.nil ?_
    refine V.keep 71 [0, 1, 5, 6, 15, 16, 17] [0] (E0 := [(0, .vl ρ0 4 (List.map (encFormat ρ0) list)), (1, .vl ρ1 4 (List.map encCopy copies)), (5, .int .i64 v), (6, .ref b0 4 0 0), (15, .vl ρ1 4 (List.map encCopy copies)), (16, .int .i64 (copies.length : Int)), (17, .int .i64 v)]) (H0 := [(b0, ⟨4, [encCopy (copies.getD (Int.toNat v) default)]⟩)]) rfl (⟨_, _, rfl, rfl, ⟨_, _, rfl, rfl, ⟨_, _, rfl, rfl, ⟨_, _, rfl, rfl, ⟨_, _, rfl, rfl, ⟨_, _, rfl, rfl, ⟨_, _, rfl, rfl, rfl⟩⟩⟩⟩⟩⟩⟩) (⟨_, _, rfl, rfl, rfl⟩) rfl ?_
    refine V.seq ?_
    refine V.seq ?_
    replace hm1 := bindO hm1; rcases hm1 with ⟨y2, hh2, hm1⟩
    replace hm1 := bindO hm1; rcases hm1 with ⟨y3, hh3, hm1⟩
    replace hm1 := bindO hm1; rcases hm1 with ⟨y4, hh4, hm1⟩
    replace hm1 := bindO hm1; rcases hm1 with ⟨y5, hh5, hm1⟩
    refine V.region ?_
    refine VO.cons rfl (V1.fieldRef rfl rfl fo_59_0 rfl lt0 ?_)
    refine VO.cons rfl (V1.loadRef (k := 0) rfl rfl tyk_3 rfl rfl rfl rfl rfl lt0 ?_)
    refine VO.cons rfl (V1.call rfl rfl rfl cok_72 rfl (ok_impl_within hh2) rfl lt0 ?_)
    rintro _ _ ⟨rfl, rfl⟩
    refine VO.cons rfl (V1.not rfl rfl rfl lt0 ?_)
    refine VO.cons rfl (V1.move rfl rfl rfl lt0 ?_)
    apply VO.or (n := 5) rfl rfl rfl rfl rfl rfl lt0 (.none rfl)
    ·
     intro hg1
     refine VO.step (.some rfl rfl rfl) (V1.move rfl rfl rfl lt0 ?_)
     refine VO.step (.some rfl rfl rfl) (V1.fieldRef rfl rfl fo_59_1 rfl lt0 ?_)
     refine VO.step (.some rfl rfl rfl) (V1.loadRef (k := 0) rfl rfl tyk_3 rfl rfl rfl rfl rfl lt0 ?_)
     refine VO.step (.some rfl rfl rfl) (V1.call rfl rfl rfl cok_58 rfl (ok_impl_formatAt (cond_f hg1 hh3)) rfl lt0 ?_)
     rintro _ _ ⟨rfl, rfl⟩
     refine VO.step (.some rfl rfl rfl) (V1.int rfl rfl rfl rfl rfl lt0 ?_)
     exact VO.nil ⟨rfl, rfl, rfl, rfl, .inr ⟨rfl, .inr ⟨rfl, .inr ⟨rfl, .inr ⟨rfl, .inr ⟨rfl, .inr ⟨rfl, .inl rfl⟩⟩⟩⟩⟩⟩⟩
    refine VO.cons rfl (V1.move rfl rfl rfl lt0 ?_)
    apply VO.or (n := 4) rfl rfl rfl rfl rfl rfl lt0 (.none rfl)
    ·
     intro hg2
     refine VO.step (.some rfl rfl rfl) (V1.fieldRef rfl rfl fo_59_2 rfl lt0 ?_)
     refine VO.step (.some rfl rfl rfl) (V1.loadRef (k := 0) rfl rfl tyk_3 rfl rfl rfl rfl rfl lt0 ?_)
     refine VO.step (.some rfl rfl rfl) (V1.call rfl rfl rfl cok_72 rfl (ok_impl_within (cond_f hg2 hh4)) rfl lt0 ?_)
     rintro _ _ ⟨rfl, rfl⟩
     refine VO.step (.some rfl rfl rfl) (V1.not rfl rfl rfl lt0 ?_)
     exact VO.nil ⟨rfl, rfl, rfl, rfl, .inr ⟨rfl, .inr ⟨rfl, .inr ⟨rfl, .inr ⟨rfl, .inr ⟨rfl, .inl rfl⟩⟩⟩⟩⟩⟩
    refine VO.cons rfl (V1.move rfl rfl rfl lt0 ?_)
    apply VO.or (n := 4) rfl rfl rfl rfl rfl rfl lt0 (.none rfl)
    ·
     intro hg3
     refine VO.step (.some rfl rfl rfl) (V1.fieldRef rfl rfl fo_59_3 rfl lt0 ?_)
     refine VO.step (.some rfl rfl rfl) (V1.loadRef (k := 0) rfl rfl tyk_3 rfl rfl rfl rfl rfl lt0 ?_)
     refine VO.step (.some rfl rfl rfl) (V1.call rfl rfl rfl cok_66 rfl (ok_impl_isDay (cond_f hg3 hh5)) rfl lt0 ?_)
     rintro _ _ ⟨rfl, rfl⟩
     refine VO.step (.some rfl rfl rfl) (V1.not rfl rfl rfl lt0 ?_)
     exact VO.nil ⟨rfl, rfl, rfl, rfl, .inr ⟨rfl, .inr ⟨rfl, .inr ⟨rfl, .inr ⟨rfl, .inr ⟨rfl, .inl rfl⟩⟩⟩⟩⟩⟩
    refine VO.nil ?_
    refine V.keep 71 [0, 1, 5, 6, 15, 16, 17, 44] [0] (E0 := [(0, .vl ρ0 4 (List.map (encFormat ρ0) list)), (1, .vl ρ1 4 (List.map encCopy copies)), (5, .int .i64 v), (6, .ref b0 4 0 0), (15, .vl ρ1 4 (List.map encCopy copies)), (16, .int .i64 (copies.length : Int)), (17, .int .i64 v), (44, .bool ((((!y2) || (decide (y3 < (0 : Int)))) || (!y4)) || (!y5)))]) (H0 := [(b0, ⟨4, [encCopy (copies.getD (Int.toNat v) default)]⟩)]) rfl (⟨_, _, rfl, rfl, ⟨_, _, rfl, rfl, ⟨_, _, rfl, rfl, ⟨_, _, rfl, rfl, ⟨_, _, rfl, rfl, ⟨_, _, rfl, rfl, ⟨_, _, rfl, rfl, ⟨_, _, rfl, rfl, rfl⟩⟩⟩⟩⟩⟩⟩⟩) (⟨_, _, rfl, rfl, rfl⟩) rfl ?_
    refine V.cond rfl (fun hc2 => ?_) (fun hc2 => ?_)
    ·
     replace hm1 := cond_t hc2 hm1
     refine V.seq ?_
     refine V.region ?_
     refine VO.cons rfl (V1.assign rfl rfl rfl lt0 ?_)
     refine VO.nil ?_
     refine V.ret ?_
     obtain rfl := hr1 _ (Option.some.inj hm1).symm
     change some _ = some _ at hm0
     obtain rfl := Option.some.inj hm0
     exact ⟨_, [], ⟨_, _, rfl, rfl, rfl⟩, List.nil_sublist _, rfl, rfl⟩
    ·
     replace hm1 := cond_f hc2 hm1
     refine V.skip ?_
     refine V.seq ?_
     replace hm1 := asrt_some hm1; rcases hm1 with ⟨hh6, hm1⟩
     replace hm1 := bindO hm1; rcases hm1 with ⟨y6, hh7, hm1⟩
     replace hm1 := asrt_some hm1; rcases hm1 with ⟨hh8, hm1⟩
     replace hm1 := bindO hm1; rcases hm1 with ⟨y7, hh9, hm1⟩
     replace hm1 := bindO hm1; rcases hm1 with ⟨y8, hh10, hm1⟩
     refine V.regionM 71 25 [⟨[(5, none)], [], none⟩, ⟨[(45, some 0)], [], none⟩, ⟨[(46, some 0)], [], none⟩, ⟨[(1, none)], [(0, true)], none⟩, ⟨[(5, none)], [(1, true)], none⟩, ⟨[(49, some 0)], [(2, true)], none⟩, ⟨[(48, some 2), (50, some 0)], [(3, true)], none⟩, ⟨[(51, some 0)], [(4, true)], none⟩, ⟨[(52, some 0)], [(5, true)], none⟩, ⟨[(6, none)], [(6, true)], none⟩, ⟨[(54, some 0)], [(7, true)], none⟩, ⟨[(53, some 2), (55, some 0)], [(8, true)], none⟩, ⟨[(1, none)], [(9, true)], none⟩, ⟨[(5, none)], [(10, true)], none⟩, ⟨[(58, some 0)], [(11, true)], none⟩, ⟨[(57, some 2), (59, some 0)], [(12, true)], none⟩, ⟨[(60, some 0)], [(13, true)], none⟩, ⟨[(61, some 0)], [(14, true)], none⟩, ⟨[(6, none)], [(15, true)], none⟩, ⟨[(63, some 0)], [(16, true)], none⟩, ⟨[(62, some 2), (64, some 0)], [(17, true)], none⟩, ⟨[(56, some 9), (65, some 0)], [(18, true)], none⟩, ⟨[(66, some 0)], [(19, true)], none⟩, ⟨[(67, some 0)], [(20, true)], none⟩, ⟨[], [], some (true, 47, 68, 21, 0)⟩] [(0, none), (1, none), (15, none), (16, none), (17, none), (69, some 0)] (⟨_, rfl, ⟨_, rfl, ⟨_, rfl, ⟨_, rfl, ⟨_, rfl, ⟨_, rfl, ⟨_, rfl, ⟨_, rfl, ⟨_, rfl, ⟨_, rfl, ⟨_, rfl, ⟨_, rfl, ⟨_, rfl, ⟨_, rfl, ⟨_, rfl, ⟨_, rfl, ⟨_, rfl, ⟨_, rfl, ⟨_, rfl, ⟨_, rfl, ⟨_, rfl, ⟨_, rfl, ⟨_, rfl, ⟨_, rfl, ⟨_, rfl, ⟨rfl, rfl⟩⟩⟩⟩⟩⟩⟩⟩⟩⟩⟩⟩⟩⟩⟩⟩⟩⟩⟩⟩⟩⟩⟩⟩⟩⟩) mixed_orders rfl (by decide +kernel) (fun hck8 => ?_)
     refine VP.step (p := ?pv193) rfl rfl rfl (⟨_, _, rfl, rfl, rfl⟩) ?hv193 ?rest193 hck8
     case hv193 =>
      intro E1
      refine (V1.move rfl rfl rfl lt0 ?_)
      exact rfl
     refine VP.step (p := ?pv194) rfl rfl rfl (⟨_, _, rfl, rfl, rfl⟩) ?hv194 ?rest194 hck8
     case hv194 =>
      intro E1
      refine (V1.int rfl rfl rfl rfl rfl lt0 ?_)
      exact rfl
     refine VP.step (p := ?pv195) rfl rfl rfl (⟨_, _, rfl, rfl, rfl⟩) ?hv195 ?rest195 hck8
     case hv195 =>
      intro E1
      refine (V1.move rfl rfl rfl lt0 ?_)
      exact rfl
     refine VP.step (p := ?pv196) rfl rfl rfl (⟨_, _, rfl, rfl, rfl⟩) ?hv196 ?rest196 hck8
     case hv196 =>
      refine ⟨_, rfl, fun hg4 => ?_⟩
      intro E1
      refine (V1.move rfl rfl rfl lt0 ?_)
      exact rfl
     refine VP.step (p := ?pv197) rfl rfl rfl (⟨_, _, rfl, rfl, rfl⟩) ?hv197 ?rest197 hck8
     case hv197 =>
      refine ⟨_, rfl, fun hg4 => ?_⟩
      intro E1
      refine (V1.move rfl rfl rfl lt0 ?_)
      exact rfl
     refine VP.step (p := ?pv198) rfl rfl rfl (⟨_, _, rfl, rfl, rfl⟩) ?hv198 ?rest198 hck8
     case hv198 =>
      refine ⟨_, rfl, fun hg4 => ?_⟩
      intro E1
      refine (V1.int rfl rfl rfl rfl rfl lt0 ?_)
      exact rfl
     refine VP.step (p := ?pv199) rfl rfl rfl (⟨_, _, rfl, rfl, ⟨_, _, rfl, rfl, rfl⟩⟩) ?hv199 ?rest199 hck8
     case hv199 =>
      refine ⟨_, rfl, fun hg4 => ?_⟩
      intro E1
      refine (V1.indexI rfl rfl esz_50 rfl rfl (hh6 hg4) lt0 ?_)
      exact rfl
     refine VP.step (p := ?pv200) rfl rfl rfl (⟨_, _, rfl, rfl, rfl⟩) ?hv200 ?rest200 hck8
     case hv200 =>
      refine ⟨_, rfl, fun hg4 => ?_⟩
      intro E1
      refine (V1.fieldPin rfl rfl fo_59_0 rfl lt0 ?_)
      exact rfl
     refine VP.step (p := ?pv201) rfl rfl rfl (⟨_, _, rfl, rfl, rfl⟩) ?hv201 ?rest201 hck8
     case hv201 =>
      refine ⟨_, rfl, fun hg4 => ?_⟩
      intro E1
      refine (V1.loadPin rfl rfl tyk_3 rfl rfl lt0 ?_)
      exact rfl
     refine VP.step (p := ?pv202) rfl rfl rfl (⟨_, _, rfl, rfl, rfl⟩) ?hv202 ?rest202 hck8
     case hv202 =>
      refine ⟨_, rfl, fun hg4 => ?_⟩
      intro E1
      refine (V1.fieldRef rfl rfl fo_59_0 rfl lt0 ?_)
      exact rfl
     refine VP.step (p := ?pv203) rfl rfl rfl (⟨_, _, rfl, rfl, rfl⟩) ?hv203 ?rest203 hck8
     case hv203 =>
      refine ⟨_, rfl, fun hg4 => ?_⟩
      intro E1
      refine (V1.loadRef (k := 0) rfl rfl tyk_3 rfl rfl rfl rfl rfl lt0 ?_)
      exact rfl
     refine VP.step (p := ?pv204) rfl rfl rfl (⟨_, _, rfl, rfl, ⟨_, _, rfl, rfl, rfl⟩⟩) ?hv204 ?rest204 hck8
     case hv204 =>
      refine ⟨_, rfl, fun hg4 => ?_⟩
      intro E1
      refine (V1.call rfl rfl rfl cok_74 rfl (ok_cmp_Compare_int (cond_t hg4 hh7)) rfl lt0 ?_)
      rintro _ _ ⟨rfl, rfl⟩
      exact rfl
     refine VP.step (p := ?pv205) rfl rfl rfl (⟨_, _, rfl, rfl, rfl⟩) ?hv205 ?rest205 hck8
     case hv205 =>
      refine ⟨_, rfl, fun hg4 => ?_⟩
      intro E1
      refine (V1.move rfl rfl rfl lt0 ?_)
      exact rfl
     refine VP.step (p := ?pv206) rfl rfl rfl (⟨_, _, rfl, rfl, rfl⟩) ?hv206 ?rest206 hck8
     case hv206 =>
      refine ⟨_, rfl, fun hg4 => ?_⟩
      intro E1
      refine (V1.move rfl rfl rfl lt0 ?_)
      exact rfl
     refine VP.step (p := ?pv207) rfl rfl rfl (⟨_, _, rfl, rfl, rfl⟩) ?hv207 ?rest207 hck8
     case hv207 =>
      refine ⟨_, rfl, fun hg4 => ?_⟩
      intro E1
      refine (V1.int rfl rfl rfl rfl rfl lt0 ?_)
      exact rfl
     refine VP.step (p := ?pv208) rfl rfl rfl (⟨_, _, rfl, rfl, ⟨_, _, rfl, rfl, rfl⟩⟩) ?hv208 ?rest208 hck8
     case hv208 =>
      refine ⟨_, rfl, fun hg4 => ?_⟩
      intro E1
      refine (V1.indexI rfl rfl esz_50 rfl rfl (hh8 hg4) lt0 ?_)
      exact rfl
     refine VP.step (p := ?pv209) rfl rfl rfl (⟨_, _, rfl, rfl, rfl⟩) ?hv209 ?rest209 hck8
     case hv209 =>
      refine ⟨_, rfl, fun hg4 => ?_⟩
      intro E1
      refine (V1.fieldPin rfl rfl fo_59_1 rfl lt0 ?_)
      exact rfl
     refine VP.step (p := ?pv210) rfl rfl rfl (⟨_, _, rfl, rfl, rfl⟩) ?hv210 ?rest210 hck8
     case hv210 =>
      refine ⟨_, rfl, fun hg4 => ?_⟩
      intro E1
      refine (V1.loadPin rfl rfl tyk_3 rfl rfl lt0 ?_)
      exact rfl
     refine VP.step (p := ?pv211) rfl rfl rfl (⟨_, _, rfl, rfl, rfl⟩) ?hv211 ?rest211 hck8
     case hv211 =>
      refine ⟨_, rfl, fun hg4 => ?_⟩
      intro E1
      refine (V1.fieldRef rfl rfl fo_59_1 rfl lt0 ?_)
      exact rfl
     refine VP.step (p := ?pv212) rfl rfl rfl (⟨_, _, rfl, rfl, rfl⟩) ?hv212 ?rest212 hck8
     case hv212 =>
      refine ⟨_, rfl, fun hg4 => ?_⟩
      intro E1
      refine (V1.loadRef (k := 0) rfl rfl tyk_3 rfl rfl rfl rfl rfl lt0 ?_)
      exact rfl
     refine VP.step (p := ?pv213) rfl rfl rfl (⟨_, _, rfl, rfl, ⟨_, _, rfl, rfl, rfl⟩⟩) ?hv213 ?rest213 hck8
     case hv213 =>
      refine ⟨_, rfl, fun hg4 => ?_⟩
      intro E1
      refine (V1.call rfl rfl rfl cok_74 rfl (ok_cmp_Compare_int (cond_t hg4 hh9)) rfl lt0 ?_)
      rintro _ _ ⟨rfl, rfl⟩
      exact rfl
     refine VP.step (p := ?pv214) rfl rfl rfl (⟨_, _, rfl, rfl, ⟨_, _, rfl, rfl, rfl⟩⟩) ?hv214 ?rest214 hck8
     case hv214 =>
      refine ⟨_, rfl, fun hg4 => ?_⟩
      intro E1
      refine (V1.buildFrz (f := encInt) ([y6, y7] : List Int) (fun _ => rfl) iNil rfl rfl esz_31 zk_3 rfl rfl rfl rfl rfl rfl rfl lt0 ?_)
      exact rfl
     refine VP.step (p := ?pv215) rfl rfl rfl (⟨_, _, rfl, rfl, rfl⟩) ?hv215 ?rest215 hck8
     case hv215 =>
      refine ⟨_, rfl, fun hg4 => ?_⟩
      intro E1
      refine (V1.call rfl rfl rfl cok_73 rfl (ok_cmp_Or_int (cond_t hg4 hh10)) rfl lt0 ?_)
      rintro _ _ ⟨rfl, rfl⟩
      exact rfl
     refine VP.step (p := ?pv216) rfl rfl rfl (⟨_, _, rfl, rfl, rfl⟩) ?hv216 ?rest216 hck8
     case hv216 =>
      refine ⟨_, rfl, fun hg4 => ?_⟩
      intro E1
      refine (V1.int rfl rfl rfl rfl rfl lt0 ?_)
      exact rfl
     refine VP.pickAnd rfl rfl rfl rfl rfl rfl (trivial) ?_ hck8
     refine VP.fin rfl (⟨_, _, rfl, rfl, ⟨_, _, rfl, rfl, ⟨_, _, rfl, rfl, ⟨_, _, rfl, rfl, ⟨_, _, rfl, rfl, ⟨_, _, rfl, rfl, rfl⟩⟩⟩⟩⟩⟩) ?_
     refine VO.nil ?_
     refine V.cond rfl (fun hc3 => ?_) (fun hc3 => ?_)
     ·
      replace hm1 := cond_t hc3 hm1
      refine V.seq ?_
      refine V.region ?_
      refine VO.cons rfl (V1.assign rfl rfl rfl lt0 ?_)
      refine VO.nil ?_
      refine V.ret ?_
      obtain rfl := hr1 _ (Option.some.inj hm1).symm
      change some _ = some _ at hm0
      obtain rfl := Option.some.inj hm0
      exact ⟨_, [], ⟨_, _, rfl, rfl, rfl⟩, List.nil_sublist _, rfl, rfl⟩
     ·
      replace hm1 := cond_f hc3 hm1
      refine V.skip ?_
      refine V.region ?_
      refine VO.cons rfl (V1.int rfl rfl rfl rfl rfl lt0 ?_)
      refine VO.cons rfl (V1.move rfl rfl rfl lt0 ?_)
      refine VO.nil ?_
      exact ⟨(m0, (IntKind.i64.wrap (v + (1 : Int))), ()), hl1 _ (Option.some.inj hm1).symm, Nat.lt_succ_self _, Keeps.mk (ks := []) rfl ⟨rfl, rfl, rfl, rfl, rfl, trivial⟩ (rfl) rfl⟩
   ·
    replace hm1 := cond_f hc1 hm1
    refine V.exit ?_
    obtain rfl := hr1 _ (Option.some.inj hm1).symm
    exact ⟨((), ()), rfl, Keeps.mk (ks := []) rfl trivial (rfl) rfl⟩
  ·
   rintro ⟨_, _⟩ rfl
   try dsimp only at hm0
   refine V.seq ?_
   refine V.region ?_
   refine VO.cons rfl (V1.assign rfl rfl rfl lt0 ?_)
   refine VO.nil ?_
   refine V.ret ?_
   obtain rfl := Option.some.inj hm0
   exact ⟨_, [], ⟨_, _, rfl, rfl, rfl⟩, List.nil_sublist _, rfl, rfl⟩

theorem ok_impl_LostRecords_1 {τ1 ρ2 τ2 τ3 rn : Nat} {d : Copy} {c_c : Copy} {list : List Format} {day : Int} {r : Bool} (h : M.impl_LostRecords_1 d c_c list day = some r) : Does Tryd.prog 68 [encCopy d, .pin τ1 (encCopy c_c) 0, .pin τ2 (.vl ρ2 4 (List.map (encFormat ρ2) list)) 0, .pin τ3 (.int .i64 day) 0] [] rn (fun x H => x = .bool r ∧ H = []) := by
 have hm0 := h; clear h; unfold M.impl_LostRecords_1 at hm0
 try dsimp only at hm0
 refine Does.intro (N := 19) Tryd.func68 rfl rfl rfl rfl ?_
 intro w0 S0
 refine V.seq ?_
 refine V.region ?_
 refine VO.cons rfl (V1.boxN (n := 4) rfl rfl rfl rfl rfl lt0 ?_)
 intro b0
 refine VO.cons rfl (V1.assign rfl rfl rfl lt0 ?_)
 refine VO.nil ?_
 refine V.seq ?_
 replace hm0 := bindO hm0; rcases hm0 with ⟨y0, hh0, hm0⟩
 refine V.regionM 19 13 [⟨[(4, none)], [], none⟩, ⟨[(6, some 0)], [], none⟩, ⟨[(1, none)], [], none⟩, ⟨[(8, some 0)], [], none⟩, ⟨[(7, some 2), (9, some 0)], [], none⟩, ⟨[(10, some 0)], [], none⟩, ⟨[(2, none)], [(0, true)], none⟩, ⟨[(4, none)], [(1, true)], none⟩, ⟨[(13, some 0)], [(2, true)], none⟩, ⟨[(12, some 2), (14, some 0)], [(3, true)], none⟩, ⟨[(3, none)], [(4, true)], none⟩, ⟨[(15, some 1), (16, some 0)], [(5, true)], none⟩, ⟨[], [], some (true, 11, 17, 6, 0)⟩] [(18, some 0)] (⟨_, rfl, ⟨_, rfl, ⟨_, rfl, ⟨_, rfl, ⟨_, rfl, ⟨_, rfl, ⟨_, rfl, ⟨_, rfl, ⟨_, rfl, ⟨_, rfl, ⟨_, rfl, ⟨_, rfl, ⟨_, rfl, ⟨rfl, rfl⟩⟩⟩⟩⟩⟩⟩⟩⟩⟩⟩⟩⟩⟩) mixed_orders rfl (by decide +kernel) (fun hck1 => ?_)
 refine VP.step (p := ?pv25) rfl rfl rfl (⟨_, _, rfl, rfl, rfl⟩) ?hv25 ?rest25 hck1
 case hv25 =>
  intro E1
  refine (V1.fieldRef rfl rfl fo_59_0 rfl lt0 ?_)
  exact rfl
 refine VP.step (p := ?pv26) rfl rfl rfl (⟨_, _, rfl, rfl, rfl⟩) ?hv26 ?rest26 hck1
 case hv26 =>
  intro E1
  refine (V1.loadRef (k := 0) rfl rfl tyk_3 rfl rfl rfl rfl rfl lt0 ?_)
  exact rfl
 refine VP.step (p := ?pv27) rfl rfl rfl (⟨_, _, rfl, rfl, rfl⟩) ?hv27 ?rest27 hck1
 case hv27 =>
  intro E1
  refine (V1.fieldPin rfl rfl fo_59_0 rfl lt0 ?_)
  exact rfl
 refine VP.step (p := ?pv28) rfl rfl rfl (⟨_, _, rfl, rfl, rfl⟩) ?hv28 ?rest28 hck1
 case hv28 =>
  intro E1
  refine (V1.loadPin rfl rfl tyk_3 rfl rfl lt0 ?_)
  exact rfl
 refine VP.step (p := ?pv29) rfl rfl rfl (⟨_, _, rfl, rfl, ⟨_, _, rfl, rfl, rfl⟩⟩) ?hv29 ?rest29 hck1
 case hv29 =>
  intro E1
  refine (V1.int rfl rfl rfl rfl rfl lt0 ?_)
  exact rfl
 refine VP.step (p := ?pv30) rfl rfl rfl (⟨_, _, rfl, rfl, rfl⟩) ?hv30 ?rest30 hck1
 case hv30 =>
  intro E1
  refine (V1.move rfl rfl rfl lt0 ?_)
  exact rfl
 refine VP.step (p := ?pv31) rfl rfl rfl (⟨_, _, rfl, rfl, rfl⟩) ?hv31 ?rest31 hck1
 case hv31 =>
  refine ⟨_, rfl, fun hg0 => ?_⟩
  intro E1
  refine (V1.loadPin rfl rfl tyk_44 rfl rfl lt0 ?_)
  exact rfl
 refine VP.step (p := ?pv32) rfl rfl rfl (⟨_, _, rfl, rfl, rfl⟩) ?hv32 ?rest32 hck1
 case hv32 =>
  refine ⟨_, rfl, fun hg0 => ?_⟩
  intro E1
  refine (V1.fieldRef rfl rfl fo_59_1 rfl lt0 ?_)
  exact rfl
 refine VP.step (p := ?pv33) rfl rfl rfl (⟨_, _, rfl, rfl, rfl⟩) ?hv33 ?rest33 hck1
 case hv33 =>
  refine ⟨_, rfl, fun hg0 => ?_⟩
  intro E1
  refine (V1.loadRef (k := 0) rfl rfl tyk_3 rfl rfl rfl rfl rfl lt0 ?_)
  exact rfl
 refine VP.step (p := ?pv34) rfl rfl rfl (⟨_, _, rfl, rfl, ⟨_, _, rfl, rfl, rfl⟩⟩) ?hv34 ?rest34 hck1
 case hv34 =>
  refine ⟨_, rfl, fun hg0 => ?_⟩
  intro E1
  refine (V1.call rfl rfl rfl cok_59 rfl (ok_impl_lastReadable (cond_t hg0 hh0)) rfl lt0 ?_)
  rintro _ _ ⟨rfl, rfl⟩
  exact rfl
 refine VP.step (p := ?pv35) rfl rfl rfl (⟨_, _, rfl, rfl, rfl⟩) ?hv35 ?rest35 hck1
 case hv35 =>
  refine ⟨_, rfl, fun hg0 => ?_⟩
  intro E1
  refine (V1.loadPin rfl rfl tyk_3 rfl rfl lt0 ?_)
  exact rfl
 refine VP.step (p := ?pv36) rfl rfl rfl (⟨_, _, rfl, rfl, ⟨_, _, rfl, rfl, rfl⟩⟩) ?hv36 ?rest36 hck1
 case hv36 =>
  refine ⟨_, rfl, fun hg0 => ?_⟩
  intro E1
  refine (V1.int rfl rfl rfl rfl rfl lt0 ?_)
  exact rfl
 refine VP.pickAnd rfl rfl rfl rfl rfl rfl (trivial) ?_ hck1
 refine VP.fin rfl (⟨_, _, rfl, rfl, rfl⟩) ?_
 refine VO.cons rfl (V1.assign rfl rfl rfl lt0 ?_)
 refine VO.nil ?_
 refine V.ret ?_
 obtain rfl := Option.some.inj hm0
 exact ⟨_, [], ⟨_, _, rfl, rfl, rfl⟩, List.nil_sublist _, rfl, rfl⟩

theorem ok_slices_IndexFunc_impl_Copy_impl_Copy {ρ0 rn : Nat} {s : List Copy} {f1 : Nat} {cs1 : List PV} {r : Int} {fm : Copy → Option Bool} (h : M.slices_IndexFunc_impl_Copy_impl_Copy s fm = some r) (hok1 : callOK Tryd.prog f1 = true) (hf1 : ∀ x0 r, fm x0 = some r → Does Tryd.prog f1 (encCopy x0 :: cs1) [] rn (fun x H => x = .bool r ∧ H = [])) : Does Tryd.prog 95 [.vl ρ0 4 (List.map encCopy s), .fn f1 cs1] [] rn (fun x H => x = .int .i64 r ∧ H = []) := by
 have hm0 := h; clear h; unfold M.slices_IndexFunc_impl_Copy_impl_Copy at hm0
 try dsimp only at hm0
 refine Does.intro (N := 19) Tryd.func95 rfl rfl rfl rfl ?_
 intro w0 S0
 refine V.seq ?_
 refine V.region ?_
 refine VO.cons rfl (V1.assign rfl rfl rfl lt0 ?_)
 refine VO.nil ?_
 refine V.seq ?_
 refine V.seq ?_
 refine V.region ?_
 refine VO.cons rfl (V1.move rfl rfl rfl lt0 ?_)
 refine VO.cons rfl (V1.lenMap rfl rfl rfl rfl rfl rfl isl_50 lt0 ?_)
 refine VO.cons rfl (V1.move rfl rfl rfl lt0 ?_)
 refine VO.nil ?_
 replace hm0 := bindO hm0; rcases hm0 with ⟨e0, he1, hm0⟩
 refine V.cutT (D := (Unit) × (Unit)) (fun ⟨_, _⟩ => ⟨19, [], []⟩) (fun ⟨_, _⟩ => (.inl () = e0)) ?_ ?_
 ·
  refine V.block ?_
  refine V.keep 19 [8, 0, 1, 7] [] (E0 := [(8, .int .i64 (0 : Int)), (0, .vl ρ0 4 (List.map encCopy s)), (1, .fn f1 cs1), (7, .int .i64 (s.length : Int))]) (H0 := []) rfl (⟨_, _, rfl, rfl, ⟨_, _, rfl, rfl, ⟨_, _, rfl, rfl, ⟨_, _, rfl, rfl, rfl⟩⟩⟩⟩) (rfl) rfl ?_
  refine V.loopE (D := Nat × (Int) × (Unit)) (fun ⟨n0, v, _⟩ => [(8, .int .i64 v)]) (fun ⟨n0, v, _⟩ => []) (fun ⟨n0, v, _⟩ => loopO (M.slices_IndexFunc_impl_Copy_impl_Copy_l0 s fm) n0 v = some e0) (fun ⟨n0, _, _⟩ => n0) (rounds, (0 : Int), ()) rfl he1 ?_
  rintro ⟨n0, v, _⟩ hP0
  obtain ⟨m0, y0, rfl, hm1, hl1, hr1⟩ := loop_head hP0
  unfold M.slices_IndexFunc_impl_Copy_impl_Copy_l0 at hm1; dsimp only at hm1
  show V _ _ _ ⟨19, [(8, .int .i64 v), (0, .vl ρ0 4 (List.map encCopy s)), (1, .fn f1 cs1), (7, .int .i64 (s.length : Int))], []⟩
  refine V.seq ?_
  refine V.region ?_
  refine VO.cons rfl (V1.int rfl rfl rfl rfl rfl lt0 ?_)
  refine VO.nil ?_
  refine V.seq ?_
  refine V.cond rfl (fun hc0 => ?_) (fun hc0 => ?_)
  ·
   replace hm1 := cond_t hc0 hm1
   refine V.skip ?_
   refine V.seq ?_
   refine V.block ?_
   refine V.seq ?_
   refine V.region ?_
   refine VO.cons rfl (V1.move rfl rfl rfl lt0 ?_)
   refine VO.cons rfl (V1.assign rfl rfl rfl lt0 ?_)
   refine VO.nil ?_
   refine V.seq ?_
   replace hm1 := asrt_some hm1; rcases hm1 with ⟨hh0, hm1⟩
   replace hm1 := bindO hm1; rcases hm1 with ⟨y1, hh1, hm1⟩
   refine V.region ?_
   refine VO.cons rfl (V1.move rfl rfl rfl lt0 ?_)
   refine VO.cons rfl (V1.move rfl rfl rfl lt0 ?_)
   refine VO.cons rfl (V1.move rfl rfl rfl lt0 ?_)
   refine VO.cons rfl (V1.indexI rfl rfl esz_50 rfl rfl hh0 lt0 ?_)
   refine VO.cons rfl (V1.loadPinAll rfl rfl tyk_59 rfl rfl lt0 ?_)
   refine VO.cons rfl (V1.callG (τ := 0) (Bw := []) rfl lt0 (run_callFn rfl rfl rfl hok1 rfl) (.refl _) (Lends.same _) (fun _ h => by cases h) ((hf1 _  _) hh1) (.inl rfl) (.inl rfl) ?_)
   rintro _ _ ⟨rfl, rfl⟩
   refine VO.nil ?_
   refine V.keep 19 [0, 1, 5, 7, 8, 16] [] (E0 := [(0, .vl ρ0 4 (List.map encCopy s)), (1, .fn f1 cs1), (5, .int .i64 v), (7, .int .i64 (s.length : Int)), (8, .int .i64 v), (16, .bool y1)]) (H0 := []) rfl (⟨_, _, rfl, rfl, ⟨_, _, rfl, rfl, ⟨_, _, rfl, rfl, ⟨_, _, rfl, rfl, ⟨_, _, rfl, rfl, ⟨_, _, rfl, rfl, rfl⟩⟩⟩⟩⟩⟩) (rfl) rfl ?_
   refine V.cond rfl (fun hc1 => ?_) (fun hc1 => ?_)
   ·
    replace hm1 := cond_t hc1 hm1
    refine V.seq ?_
    refine V.region ?_
    refine VO.cons rfl (V1.move rfl rfl rfl lt0 ?_)
    refine VO.cons rfl (V1.assign rfl rfl rfl lt0 ?_)
    refine VO.nil ?_
    refine V.ret ?_
    obtain rfl := hr1 _ (Option.some.inj hm1).symm
    change some _ = some _ at hm0
    obtain rfl := Option.some.inj hm0
    exact ⟨_, [], ⟨_, _, rfl, rfl, rfl⟩, List.nil_sublist _, rfl, rfl⟩
   ·
    replace hm1 := cond_f hc1 hm1
    refine V.skip ?_
    refine V.region ?_
    refine VO.cons rfl (V1.int rfl rfl rfl rfl rfl lt0 ?_)
    refine VO.cons rfl (V1.move rfl rfl rfl lt0 ?_)
    refine VO.nil ?_
    exact ⟨(m0, (IntKind.i64.wrap (v + (1 : Int))), ()), hl1 _ (Option.some.inj hm1).symm, Nat.lt_succ_self _, Keeps.mk (ks := []) rfl ⟨rfl, rfl, rfl, rfl, trivial⟩ (rfl) rfl⟩
  ·
   replace hm1 := cond_f hc0 hm1
   refine V.exit ?_
   obtain rfl := hr1 _ (Option.some.inj hm1).symm
   exact ⟨((), ()), rfl, Keeps.mk (ks := []) rfl trivial (rfl) rfl⟩
 ·
  rintro ⟨_, _⟩ rfl
  try dsimp only at hm0
  refine V.seq ?_
  refine V.region ?_
  refine VO.cons rfl (V1.assign rfl rfl rfl lt0 ?_)
  refine VO.nil ?_
  refine V.ret ?_
  obtain rfl := Option.some.inj hm0
  exact ⟨_, [], ⟨_, _, rfl, rfl, rfl⟩, List.nil_sublist _, rfl, rfl⟩

theorem ok_slices_ContainsFunc_impl_Copy_impl_Copy {ρ0 rn : Nat} {s : List Copy} {f1 : Nat} {cs1 : List PV} {r : Bool} {fm : Copy → Option Bool} (h : M.slices_ContainsFunc_impl_Copy_impl_Copy s fm = some r) (hok1 : callOK Tryd.prog f1 = true) (hf1 : ∀ x0 r, fm x0 = some r → Does Tryd.prog f1 (encCopy x0 :: cs1) [] rn (fun x H => x = .bool r ∧ H = [])) : Does Tryd.prog 67 [.vl ρ0 4 (List.map encCopy s), .fn f1 cs1] [] rn (fun x H => x = .bool r ∧ H = []) := by
 have hm0 := h; clear h; unfold M.slices_ContainsFunc_impl_Copy_impl_Copy at hm0
 try dsimp only at hm0
 refine Does.intro (N := 9) Tryd.func67 rfl rfl rfl rfl ?_
 intro w0 S0
 refine V.seq ?_
 refine V.region ?_
 refine VO.cons rfl (V1.assign rfl rfl rfl lt0 ?_)
 refine VO.nil ?_
 refine V.seq ?_
 replace hm0 := bindO hm0; rcases hm0 with ⟨y0, hh0, hm0⟩
 refine V.region ?_
 refine VO.cons rfl (V1.move rfl rfl rfl lt0 ?_)
 refine VO.cons rfl (V1.move rfl rfl rfl lt0 ?_)
 refine VO.cons rfl (V1.call rfl rfl rfl cok_95 rfl (ok_slices_IndexFunc_impl_Copy_impl_Copy hh0 (fm := fm) hok1 hf1) rfl lt0 ?_)
 rintro _ _ ⟨rfl, rfl⟩
 refine VO.cons rfl (V1.int rfl rfl rfl rfl rfl lt0 ?_)
 refine VO.cons rfl (V1.assign rfl rfl rfl lt0 ?_)
 refine VO.nil ?_
 refine V.ret ?_
 obtain rfl := Option.some.inj hm0
 exact ⟨_, [], ⟨_, _, rfl, rfl, rfl⟩, List.nil_sublist _, rfl, rfl⟩

theorem ok_impl_LostRecords {ρ0 ρ1 rn : Nat} {list : List Format} {copies : List Copy} {day : Int} {r : List Int × Bool} (h : M.impl_LostRecords list copies day = some r) : Does Tryd.prog 27 [.vl ρ0 4 (List.map (encFormat ρ0) list), .vl ρ1 4 (List.map encCopy copies), .int .i64 day] [] rn (fun x H => ∃ (ob0_ : Option Nat), (ob0_ = none → r.1 = []) ∧ x = .tup [optS 1 ob0_ (List.length r.1), .bool r.2] ∧ H = optH 1 ob0_ (List.map encInt r.1)) := by
 have hm0 := h; clear h; unfold M.impl_LostRecords at hm0
 try dsimp only at hm0
 refine Does.intro (N := 51) Tryd.func27 rfl rfl rfl rfl ?_
 intro w0 S0
 refine V.seq ?_
 refine V.region ?_
 refine VO.cons rfl (V1.boxN (n := 1) rfl rfl rfl rfl rfl lt0 ?_)
 intro b0
 refine VO.cons rfl (V1.boxN (n := 1) rfl rfl rfl rfl rfl lt0 ?_)
 intro b1
 refine VO.cons rfl (V1.assign rfl rfl rfl lt0 ?_)
 refine VO.cons rfl (V1.assign rfl rfl rfl lt0 ?_)
 refine VO.nil ?_
 refine V.keep 51 [1, 3, 5] [0, 1] (E0 := [(1, .vl ρ1 4 (List.map encCopy copies)), (3, .ref b0 1 0 0), (5, .ref b1 1 0 0)]) (H0 := [(b1, ⟨1, [.int .i64 day]⟩), (b0, ⟨1, [.vl ρ0 4 (List.map (encFormat ρ0) list)]⟩)]) rfl (⟨_, _, rfl, rfl, ⟨_, _, rfl, rfl, ⟨_, _, rfl, rfl, rfl⟩⟩⟩) (⟨_, _, rfl, rfl, ⟨_, _, rfl, rfl, rfl⟩⟩) rfl ?_
 refine V.seq ?_
 refine V.seq ?_
 replace hm0 := bindO hm0; rcases hm0 with ⟨y0, hh0, hm0⟩
 replace hm0 := bindO hm0; rcases hm0 with ⟨y1, hh1, hm0⟩
 refine V.region ?_
 refine VO.cons rfl (V1.loadRef (k := 1) rfl rfl tyk_44 rfl rfl rfl rfl rfl lt0 ?_)
 refine VO.cons rfl (V1.move rfl rfl rfl lt0 ?_)
 refine VO.cons rfl (V1.call rfl rfl rfl cok_32 rfl (ok_impl_AreCopies hh0) rfl lt0 ?_)
 rintro _ _ ⟨rfl, rfl⟩
 refine VO.cons rfl (V1.not rfl rfl rfl lt0 ?_)
 refine VO.cons rfl (V1.move rfl rfl rfl lt0 ?_)
 apply VO.or (n := 3) rfl rfl rfl rfl rfl rfl lt0 (.none rfl)
 ·
  intro hg0
  refine VO.step (.some rfl rfl rfl) (V1.loadRef (k := 0) rfl rfl tyk_3 rfl rfl rfl rfl rfl lt0 ?_)
  refine VO.step (.some rfl rfl rfl) (V1.call rfl rfl rfl cok_66 rfl (ok_impl_isDay (cond_f hg0 hh1)) rfl lt0 ?_)
  rintro _ _ ⟨rfl, rfl⟩
  refine VO.step (.some rfl rfl rfl) (V1.not rfl rfl rfl lt0 ?_)
  exact VO.nil ⟨rfl, rfl, rfl, rfl, .inr ⟨rfl, .inr ⟨rfl, .inr ⟨rfl, .inr ⟨rfl, .inl rfl⟩⟩⟩⟩⟩
 refine VO.nil ?_
 refine V.keep 51 [1, 3, 5, 19] [0, 1] (E0 := [(1, .vl ρ1 4 (List.map encCopy copies)), (3, .ref b0 1 0 0), (5, .ref b1 1 0 0), (19, .bool ((!y0) || (!y1)))]) (H0 := [(b1, ⟨1, [.int .i64 day]⟩), (b0, ⟨1, [.vl ρ0 4 (List.map (encFormat ρ0) list)]⟩)]) rfl (⟨_, _, rfl, rfl, ⟨_, _, rfl, rfl, ⟨_, _, rfl, rfl, ⟨_, _, rfl, rfl, rfl⟩⟩⟩⟩) (⟨_, _, rfl, rfl, ⟨_, _, rfl, rfl, rfl⟩⟩) rfl ?_
 refine V.cond rfl (fun hc0 => ?_) (fun hc0 => ?_)
 ·
  replace hm0 := cond_t hc0 hm0
  refine V.seq ?_
  refine V.region ?_
  refine VO.cons rfl (V1.assign rfl rfl rfl lt0 ?_)
  refine VO.cons rfl (V1.assign rfl rfl rfl lt0 ?_)
  refine VO.nil ?_
  refine V.keep 51 [6, 7] [] (E0 := [(6, .nils), (7, .bool false)]) (H0 := []) rfl (⟨_, _, rfl, rfl, ⟨_, _, rfl, rfl, rfl⟩⟩) (rfl) rfl ?_
  refine V.ret ?_
  obtain rfl := Option.some.inj hm0
  exact ⟨_, _, ⟨_, _, rfl, rfl, ⟨_, _, rfl, rfl, rfl⟩⟩, List.Sublist.refl _, none, (fun _ => rfl), rfl, rfl⟩
 ·
  replace hm0 := cond_f hc0 hm0
  refine V.skip ?_
  refine V.seq ?_
  refine V.region ?_
  refine VO.cons rfl (V1.assign rfl rfl rfl lt0 ?_)
  refine VO.nil ?_
  refine V.seq ?_
  refine V.seq ?_
  refine V.region ?_
  refine VO.cons rfl (V1.move rfl rfl rfl lt0 ?_)
  refine VO.cons rfl (V1.lenMap rfl rfl rfl rfl rfl rfl isl_50 lt0 ?_)
  refine VO.cons rfl (V1.move rfl rfl rfl lt0 ?_)
  refine VO.nil ?_
  replace hm0 := bindO hm0; rcases hm0 with ⟨e0, he1, hm0⟩
  refine V.cutT (D := (List Int) × (Option Nat)) (fun ⟨lost, ob0⟩ => ⟨51, [(8, optS 1 ob0 (List.length lost))], optH 1 ob0 (List.map encInt lost)⟩) (fun ⟨lost, ob0⟩ => (lost = e0) ∧ (ob0 = none → lost = [])) ?_ ?_
  ·
   refine V.block ?_
   refine V.keep 51 [8, 22, 1, 3, 5, 20, 21] [0, 1] (E0 := [(8, .nils), (22, .int .i64 (0 : Int)), (1, .vl ρ1 4 (List.map encCopy copies)), (3, .ref b0 1 0 0), (5, .ref b1 1 0 0), (20, .vl ρ1 4 (List.map encCopy copies)), (21, .int .i64 (copies.length : Int))]) (H0 := [(b1, ⟨1, [.int .i64 day]⟩), (b0, ⟨1, [.vl ρ0 4 (List.map (encFormat ρ0) list)]⟩)]) rfl (⟨_, _, rfl, rfl, ⟨_, _, rfl, rfl, ⟨_, _, rfl, rfl, ⟨_, _, rfl, rfl, ⟨_, _, rfl, rfl, ⟨_, _, rfl, rfl, ⟨_, _, rfl, rfl, rfl⟩⟩⟩⟩⟩⟩⟩) (⟨_, _, rfl, rfl, ⟨_, _, rfl, rfl, rfl⟩⟩) rfl ?_
   refine V.loopE (D := Nat × (List Int × Int) × (Option Nat)) (fun ⟨n0, ⟨lost0, v⟩, ob1⟩ => [(8, optS 1 ob1 (List.length lost0)), (22, .int .i64 v)]) (fun ⟨n0, ⟨lost0, v⟩, ob1⟩ => optH 1 ob1 (List.map encInt lost0)) (fun ⟨n0, ⟨lost0, v⟩, ob1⟩ => loopO (M.impl_LostRecords_l0 list copies day) n0 (lost0, v) = some e0 ∧ (ob1 = none → lost0 = [])) (fun ⟨n0, _, _⟩ => n0) (rounds, (([] : List Int), (0 : Int)), none) rfl ⟨he1, (fun _ => rfl)⟩ ?_
   rintro ⟨n0, ⟨lost0, v⟩, ob1⟩ ⟨hP0, hob1⟩
   obtain ⟨m0, y2, rfl, hm1, hl1, hr1⟩ := loop_head hP0
   unfold M.impl_LostRecords_l0 at hm1; dsimp only at hm1
   rcases ob1 with _ | ob1
   ·
    replace hob1 := hob1 rfl
    show V _ _ _ ⟨51, [(8, .nils), (22, .int .i64 v), (1, .vl ρ1 4 (List.map encCopy copies)), (3, .ref b0 1 0 0), (5, .ref b1 1 0 0), (20, .vl ρ1 4 (List.map encCopy copies)), (21, .int .i64 (copies.length : Int))], [(b1, ⟨1, [.int .i64 day]⟩), (b0, ⟨1, [.vl ρ0 4 (List.map (encFormat ρ0) list)]⟩)]⟩
    refine V.seq ?_
    refine V.region ?_
    refine VO.cons rfl (V1.int rfl rfl rfl rfl rfl lt0 ?_)
    refine VO.nil ?_
    refine V.seq ?_
    refine V.cond rfl (fun hc1 => ?_) (fun hc1 => ?_)
    ·
     replace hm1 := cond_t hc1 hm1
     refine V.skip ?_
     refine V.seq ?_
     replace hm1 := bindO hm1; rcases hm1 with ⟨j0, hm2, hm1⟩
     refine V.cutT (D := (List Int) × (Option Nat)) (fun ⟨lost1, ob2⟩ => ⟨51, [(8, optS 1 ob2 (List.length lost1)), (1, .vl ρ1 4 (List.map encCopy copies)), (3, .ref b0 1 0 0), (5, .ref b1 1 0 0), (20, .vl ρ1 4 (List.map encCopy copies)), (21, .int .i64 (copies.length : Int)), (22, .int .i64 v)], optH 1 ob2 (List.map encInt lost1) ++ [(b1, ⟨1, [.int .i64 day]⟩)] ++ [(b0, ⟨1, [.vl ρ0 4 (List.map (encFormat ρ0) list)]⟩)]⟩) (fun ⟨lost1, ob2⟩ => (lost1 = j0) ∧ (ob2 = none → lost1 = [])) ?_ ?_
     ·
      refine V.block ?_
      refine V.seq ?_
      replace hm2 := asrt_some hm2; rcases hm2 with ⟨hh2, hm2⟩
      refine V.region ?_
      refine VO.cons rfl (V1.move rfl rfl rfl lt0 ?_)
      refine VO.cons rfl (V1.indexI rfl rfl esz_50 rfl rfl hh2 lt0 ?_)
      refine VO.cons rfl (V1.loadPinAll rfl rfl tyk_59 rfl rfl lt0 ?_)
      refine VO.cons rfl (V1.alloc rfl rfl zk_59 lt0 ?_)
      intro b2
      refine VO.cons rfl (V1.assign rfl rfl rfl lt0 ?_)
      refine VO.cons rfl (V1.storeRefAll (k := 0) rfl rfl tyk_59 rfl rfl rfl rfl rfl rfl ?_)
      refine VO.nil ?_
      refine V.keep 51 [1, 3, 5, 8, 9, 10, 20, 21, 22] [0, 1, 2] (E0 := [(1, .vl ρ1 4 (List.map encCopy copies)), (3, .ref b0 1 0 0), (5, .ref b1 1 0 0), (8, .nils), (9, .int .i64 v), (10, .ref b2 4 0 0), (20, .vl ρ1 4 (List.map encCopy copies)), (21, .int .i64 (copies.length : Int)), (22, .int .i64 v)]) (H0 := [(b2, ⟨4, [encCopy (copies.getD (Int.toNat v) default)]⟩), (b1, ⟨1, [.int .i64 day]⟩), (b0, ⟨1, [.vl ρ0 4 (List.map (encFormat ρ0) list)]⟩)]) rfl (⟨_, _, rfl, rfl, ⟨_, _, rfl, rfl, ⟨_, _, rfl, rfl, ⟨_, _, rfl, rfl, ⟨_, _, rfl, rfl, ⟨_, _, rfl, rfl, ⟨_, _, rfl, rfl, ⟨_, _, rfl, rfl, ⟨_, _, rfl, rfl, rfl⟩⟩⟩⟩⟩⟩⟩⟩⟩) (⟨_, _, rfl, rfl, ⟨_, _, rfl, rfl, ⟨_, _, rfl, rfl, rfl⟩⟩⟩) rfl ?_
      refine V.seq ?_
      refine V.seq ?_
      replace hm2 := asrt_some hm2; rcases hm2 with ⟨hh3, hm2⟩
      refine V.regionM 51 13 [⟨[(9, none)], [], none⟩, ⟨[(27, some 0)], [], none⟩, ⟨[(28, some 0)], [], none⟩, ⟨[(1, none)], [(0, true)], none⟩, ⟨[(9, none)], [(1, true)], none⟩, ⟨[(31, some 0)], [(2, true)], none⟩, ⟨[(30, some 2), (32, some 0)], [(3, true)], none⟩, ⟨[(33, some 0)], [(4, true)], none⟩, ⟨[(34, some 0)], [(5, true)], none⟩, ⟨[(10, none)], [(6, true)], none⟩, ⟨[(36, some 0)], [(7, true)], none⟩, ⟨[(35, some 2), (37, some 0)], [(8, true)], none⟩, ⟨[], [], some (true, 29, 38, 9, 0)⟩] [(1, none), (3, none), (5, none), (8, none), (10, none), (20, none), (21, none), (22, none), (39, some 0)] (⟨_, rfl, ⟨_, rfl, ⟨_, rfl, ⟨_, rfl, ⟨_, rfl, ⟨_, rfl, ⟨_, rfl, ⟨_, rfl, ⟨_, rfl, ⟨_, rfl, ⟨_, rfl, ⟨_, rfl, ⟨_, rfl, ⟨rfl, rfl⟩⟩⟩⟩⟩⟩⟩⟩⟩⟩⟩⟩⟩⟩) mixed_orders rfl (by decide +kernel) (fun hck7 => ?_)
      refine VP.step (p := ?pv397) rfl rfl rfl (⟨_, _, rfl, rfl, rfl⟩) ?hv397 ?rest397 hck7
      case hv397 =>
       intro E1
       refine (V1.move rfl rfl rfl lt0 ?_)
       exact rfl
      refine VP.step (p := ?pv398) rfl rfl rfl (⟨_, _, rfl, rfl, rfl⟩) ?hv398 ?rest398 hck7
      case hv398 =>
       intro E1
       refine (V1.int rfl rfl rfl rfl rfl lt0 ?_)
       exact rfl
      refine VP.step (p := ?pv399) rfl rfl rfl (⟨_, _, rfl, rfl, rfl⟩) ?hv399 ?rest399 hck7
      case hv399 =>
       intro E1
       refine (V1.move rfl rfl rfl lt0 ?_)
       exact rfl
      refine VP.step (p := ?pv400) rfl rfl rfl (⟨_, _, rfl, rfl, rfl⟩) ?hv400 ?rest400 hck7
      case hv400 =>
       refine ⟨_, rfl, fun hg1 => ?_⟩
       intro E1
       refine (V1.move rfl rfl rfl lt0 ?_)
       exact rfl
      refine VP.step (p := ?pv401) rfl rfl rfl (⟨_, _, rfl, rfl, rfl⟩) ?hv401 ?rest401 hck7
      case hv401 =>
       refine ⟨_, rfl, fun hg1 => ?_⟩
       intro E1
       refine (V1.move rfl rfl rfl lt0 ?_)
       exact rfl
      refine VP.step (p := ?pv402) rfl rfl rfl (⟨_, _, rfl, rfl, rfl⟩) ?hv402 ?rest402 hck7
      case hv402 =>
       refine ⟨_, rfl, fun hg1 => ?_⟩
       intro E1
       refine (V1.int rfl rfl rfl rfl rfl lt0 ?_)
       exact rfl
      refine VP.step (p := ?pv403) rfl rfl rfl (⟨_, _, rfl, rfl, ⟨_, _, rfl, rfl, rfl⟩⟩) ?hv403 ?rest403 hck7
      case hv403 =>
       refine ⟨_, rfl, fun hg1 => ?_⟩
       intro E1
       refine (V1.indexI rfl rfl esz_50 rfl rfl (hh3 hg1) lt0 ?_)
       exact rfl
      refine VP.step (p := ?pv404) rfl rfl rfl (⟨_, _, rfl, rfl, rfl⟩) ?hv404 ?rest404 hck7
      case hv404 =>
       refine ⟨_, rfl, fun hg1 => ?_⟩
       intro E1
       refine (V1.fieldPin rfl rfl fo_59_0 rfl lt0 ?_)
       exact rfl
      refine VP.step (p := ?pv405) rfl rfl rfl (⟨_, _, rfl, rfl, rfl⟩) ?hv405 ?rest405 hck7
      case hv405 =>
       refine ⟨_, rfl, fun hg1 => ?_⟩
       intro E1
       refine (V1.loadPin rfl rfl tyk_3 rfl rfl lt0 ?_)
       exact rfl
      refine VP.step (p := ?pv406) rfl rfl rfl (⟨_, _, rfl, rfl, rfl⟩) ?hv406 ?rest406 hck7
      case hv406 =>
       refine ⟨_, rfl, fun hg1 => ?_⟩
       intro E1
       refine (V1.fieldRef rfl rfl fo_59_0 rfl lt0 ?_)
       exact rfl
      refine VP.step (p := ?pv407) rfl rfl rfl (⟨_, _, rfl, rfl, rfl⟩) ?hv407 ?rest407 hck7
      case hv407 =>
       refine ⟨_, rfl, fun hg1 => ?_⟩
       intro E1
       refine (V1.loadRef (k := 0) rfl rfl tyk_3 rfl rfl rfl rfl rfl lt0 ?_)
       exact rfl
      refine VP.step (p := ?pv408) rfl rfl rfl (⟨_, _, rfl, rfl, ⟨_, _, rfl, rfl, rfl⟩⟩) ?hv408 ?rest408 hck7
      case hv408 =>
       refine ⟨_, rfl, fun hg1 => ?_⟩
       intro E1
       refine (V1.int rfl rfl rfl rfl rfl lt0 ?_)
       exact rfl
      refine VP.pickAnd rfl rfl rfl rfl rfl rfl (trivial) ?_ hck7
      refine VP.fin rfl (⟨_, _, rfl, rfl, ⟨_, _, rfl, rfl, ⟨_, _, rfl, rfl, ⟨_, _, rfl, rfl, ⟨_, _, rfl, rfl, ⟨_, _, rfl, rfl, ⟨_, _, rfl, rfl, ⟨_, _, rfl, rfl, ⟨_, _, rfl, rfl, rfl⟩⟩⟩⟩⟩⟩⟩⟩⟩) ?_
      refine VO.nil ?_
      refine V.cond rfl (fun hc2 => ?_) (fun hc2 => ?_)
      ·
       replace hm2 := cond_t hc2 hm2
       refine V.exit ?_
       exact ⟨(lost0, none), ⟨Option.some.inj hm2, (fun _ => hob1)⟩, Keeps.mk (ks := [1, 2]) rfl ⟨rfl, rfl, rfl, rfl, rfl, rfl, rfl, trivial⟩ (⟨_, _, rfl, rfl, ⟨_, _, rfl, rfl, rfl⟩⟩) rfl⟩
      ·
       replace hm2 := cond_f hc2 hm2
       refine V.skip ?_
       refine V.seq ?_
       replace hm2 := bindO hm2; rcases hm2 with ⟨y3, hh4, hm2⟩
       refine V.region ?_
       refine VO.cons rfl (V1.move rfl rfl rfl lt0 ?_)
       refine VO.cons rfl (V1.makeFunc rfl rfl rfl lt0 ?_)
       refine VO.cons rfl (V1.callL (rn + 1) [b2, b0, b1] [.vl ρ1 4 (List.map encCopy copies), .fn 68 [.pin (rn + 1) (encCopy (copies.getD (Int.toNat v) default)) 0, .pin (rn + 1) (.vl ρ0 4 (List.map (encFormat ρ0) list)) 0, .pin (rn + 1) (.int .i64 day) 0]] rfl rfl rfl cok_67 rfl ⟨_, _, rfl, .same _, ⟨_, _, rfl, Lend.fn ⟨_, _, rfl, Lend.ref 0 rfl rfl rfl rfl (.head _), ⟨_, _, rfl, Lend.ref 2 rfl rfl rfl rfl (.tail _ (.head _)), ⟨_, _, rfl, Lend.ref 1 rfl rfl rfl rfl (.tail _ (.tail _ (.head _))), rfl⟩⟩⟩, rfl⟩⟩ (bwCons (k := 0) rfl (bwCons (k := 2) rfl (bwCons (k := 1) rfl bwNil))) (ok_slices_ContainsFunc_impl_Copy_impl_Copy hh4 (fm := (fun x0 => M.impl_LostRecords_1 x0 (copies.getD (Int.toNat v) default) list day)) cok_68 (fun _ _ h => ok_impl_LostRecords_1 h)) rfl (⟨(by first | omega | (dsimp only; omega)), by rintro _ _ ⟨rfl, rfl⟩; exact ⟨rfl, by simp⟩⟩) lt0 ?_)
       rintro _ _ ⟨rfl, rfl⟩
       refine VO.cons rfl (V1.not rfl rfl rfl lt0 ?_)
       refine VO.nil ?_
       refine V.keep 51 [1, 3, 5, 8, 10, 20, 21, 22, 43] [0, 1, 2] (E0 := [(1, .vl ρ1 4 (List.map encCopy copies)), (3, .ref b0 1 0 0), (5, .ref b1 1 0 0), (8, .nils), (10, .ref b2 4 0 0), (20, .vl ρ1 4 (List.map encCopy copies)), (21, .int .i64 (copies.length : Int)), (22, .int .i64 v), (43, .bool (!y3))]) (H0 := [(b2, ⟨4, [encCopy (copies.getD (Int.toNat v) default)]⟩), (b1, ⟨1, [.int .i64 day]⟩), (b0, ⟨1, [.vl ρ0 4 (List.map (encFormat ρ0) list)]⟩)]) rfl (⟨_, _, rfl, rfl, ⟨_, _, rfl, rfl, ⟨_, _, rfl, rfl, ⟨_, _, rfl, rfl, ⟨_, _, rfl, rfl, ⟨_, _, rfl, rfl, ⟨_, _, rfl, rfl, ⟨_, _, rfl, rfl, ⟨_, _, rfl, rfl, rfl⟩⟩⟩⟩⟩⟩⟩⟩⟩) (⟨_, _, rfl, rfl, ⟨_, _, rfl, rfl, ⟨_, _, rfl, rfl, rfl⟩⟩⟩) rfl ?_
       refine V.cond rfl (fun hc3 => ?_) (fun hc3 => ?_)
       ·
        replace hm2 := cond_t hc3 hm2
        replace hm2 := asrt_some hm2; rcases hm2 with ⟨hh5, hm2⟩
        refine V.region ?_
        refine VO.cons rfl (V1.move rfl rfl rfl lt0 ?_)
        refine VO.cons rfl (V1.fieldRef rfl rfl fo_59_0 rfl lt0 ?_)
        refine VO.cons rfl (V1.loadRef (k := 0) rfl rfl tyk_3 rfl rfl rfl rfl rfl lt0 ?_)
        refine VO.cons rfl (V1.buildSliceT (f := encInt) ([(copies.getD (Int.toNat v) default).Record] : List Int) rfl rfl esz_31 zk_3 rfl rfl rfl rfl rfl rfl rfl lt0 ?_)
        intro b3
        refine VO.cons rfl (V1.appendNilE (f := encInt) (l := lost0) (m := ([(copies.getD (Int.toNat v) default).Record] : List Int)) hob1 rfl rfl rfl rfl rfl esz_31 eby_31 zk_3 rfl rfl rfl (SrcOf.srMap (k := 0) rfl isl_31) rfl hh5 lt0 ?_)
        intro b4
        refine VO.cons rfl (V1.assign rfl rfl rfl lt0 ?_)
        refine VO.nil ?_
        exact ⟨((lost0 ++ ([(copies.getD (Int.toNat v) default).Record] : List Int)), (some b4)), ⟨Option.some.inj hm2, (fun e => by cases e)⟩, Keeps.mk (ks := [0, 3, 4]) rfl ⟨rfl, rfl, rfl, rfl, rfl, rfl, rfl, trivial⟩ (⟨_, _, rfl, rfl, ⟨_, _, rfl, rfl, ⟨_, _, rfl, rfl, rfl⟩⟩⟩) rfl⟩
       ·
        replace hm2 := cond_f hc3 hm2
        refine V.skip ?_
        exact ⟨(lost0, none), ⟨Option.some.inj hm2, (fun _ => hob1)⟩, Keeps.mk (ks := [1, 2]) rfl ⟨rfl, rfl, rfl, rfl, rfl, rfl, rfl, trivial⟩ (⟨_, _, rfl, rfl, ⟨_, _, rfl, rfl, rfl⟩⟩) rfl⟩
     ·
      rintro ⟨lost1, ob2⟩ ⟨rfl, hob2⟩
      try dsimp only at hm1
      rcases ob2 with _ | ob2
      ·
       replace hob2 := hob2 rfl
       refine V.region ?_
       refine VO.cons rfl (V1.int rfl rfl rfl rfl rfl lt0 ?_)
       refine VO.cons rfl (V1.move rfl rfl rfl lt0 ?_)
       refine VO.nil ?_
       exact ⟨(m0, (lost1, (IntKind.i64.wrap (v + (1 : Int)))), none), ⟨hl1 _ (Option.some.inj hm1).symm, (fun _ => hob2)⟩, Nat.lt_succ_self _, Keeps.mk (ks := [0, 1]) rfl ⟨rfl, rfl, rfl, rfl, rfl, rfl, rfl, trivial⟩ (⟨_, _, rfl, rfl, ⟨_, _, rfl, rfl, rfl⟩⟩) rfl⟩
      ·
       refine V.region ?_
       refine VO.cons rfl (V1.int rfl rfl rfl rfl rfl lt0 ?_)
       refine VO.cons rfl (V1.move rfl rfl rfl lt0 ?_)
       refine VO.nil ?_
       exact ⟨(m0, (lost1, (IntKind.i64.wrap (v + (1 : Int)))), (some ob2)), ⟨hl1 _ (Option.some.inj hm1).symm, (fun e => by cases e)⟩, Nat.lt_succ_self _, Keeps.mk (ks := [0, 1, 2]) rfl ⟨rfl, rfl, rfl, rfl, rfl, rfl, rfl, trivial⟩ (⟨_, _, rfl, rfl, ⟨_, _, rfl, rfl, ⟨_, _, rfl, rfl, rfl⟩⟩⟩) rfl⟩
    ·
     replace hm1 := cond_f hc1 hm1
     refine V.exit ?_
     obtain rfl := hr1 _ (Option.some.inj hm1).symm
     exact ⟨(lost0, none), ⟨rfl, (fun _ => hob1)⟩, Keeps.mk (ks := []) rfl ⟨rfl, trivial⟩ (rfl) rfl⟩
   ·
    show V _ _ _ ⟨51, [(8, .sref ob1 1 0 (List.length lost0)), (22, .int .i64 v), (1, .vl ρ1 4 (List.map encCopy copies)), (3, .ref b0 1 0 0), (5, .ref b1 1 0 0), (20, .vl ρ1 4 (List.map encCopy copies)), (21, .int .i64 (copies.length : Int))], [(ob1, ⟨1, List.map encInt lost0⟩), (b1, ⟨1, [.int .i64 day]⟩), (b0, ⟨1, [.vl ρ0 4 (List.map (encFormat ρ0) list)]⟩)]⟩
    refine V.seq ?_
    refine V.region ?_
    refine VO.cons rfl (V1.int rfl rfl rfl rfl rfl lt0 ?_)
    refine VO.nil ?_
    refine V.seq ?_
    refine V.cond rfl (fun hc1 => ?_) (fun hc1 => ?_)
    ·
     replace hm1 := cond_t hc1 hm1
     refine V.skip ?_
     refine V.seq ?_
     replace hm1 := bindO hm1; rcases hm1 with ⟨j0, hm2, hm1⟩
     refine V.cutT (D := (List Int) × (Nat)) (fun ⟨lost1, b2⟩ => ⟨51, [(8, .sref b2 1 0 (List.length lost1)), (1, .vl ρ1 4 (List.map encCopy copies)), (3, .ref b0 1 0 0), (5, .ref b1 1 0 0), (20, .vl ρ1 4 (List.map encCopy copies)), (21, .int .i64 (copies.length : Int)), (22, .int .i64 v)], [(b2, ⟨1, List.map encInt lost1⟩), (b1, ⟨1, [.int .i64 day]⟩), (b0, ⟨1, [.vl ρ0 4 (List.map (encFormat ρ0) list)]⟩)]⟩) (fun ⟨lost1, b2⟩ => (lost1 = j0)) ?_ ?_
     ·
      refine V.block ?_
      refine V.seq ?_
      replace hm2 := asrt_some hm2; rcases hm2 with ⟨hh2, hm2⟩
      refine V.region ?_
      refine VO.cons rfl (V1.move rfl rfl rfl lt0 ?_)
      refine VO.cons rfl (V1.indexI rfl rfl esz_50 rfl rfl hh2 lt0 ?_)
      refine VO.cons rfl (V1.loadPinAll rfl rfl tyk_59 rfl rfl lt0 ?_)
      refine VO.cons rfl (V1.alloc rfl rfl zk_59 lt0 ?_)
      intro b3
      refine VO.cons rfl (V1.assign rfl rfl rfl lt0 ?_)
      refine VO.cons rfl (V1.storeRefAll (k := 0) rfl rfl tyk_59 rfl rfl rfl rfl rfl rfl ?_)
      refine VO.nil ?_
      refine V.keep 51 [1, 3, 5, 8, 9, 10, 20, 21, 22] [0, 1, 2, 3] (E0 := [(1, .vl ρ1 4 (List.map encCopy copies)), (3, .ref b0 1 0 0), (5, .ref b1 1 0 0), (8, .sref ob1 1 0 (List.length lost0)), (9, .int .i64 v), (10, .ref b3 4 0 0), (20, .vl ρ1 4 (List.map encCopy copies)), (21, .int .i64 (copies.length : Int)), (22, .int .i64 v)]) (H0 := [(b3, ⟨4, [encCopy (copies.getD (Int.toNat v) default)]⟩), (ob1, ⟨1, List.map encInt lost0⟩), (b1, ⟨1, [.int .i64 day]⟩), (b0, ⟨1, [.vl ρ0 4 (List.map (encFormat ρ0) list)]⟩)]) rfl (⟨_, _, rfl, rfl, ⟨_, _, rfl, rfl, ⟨_, _, rfl, rfl, ⟨_, _, rfl, rfl, ⟨_, _, rfl, rfl, ⟨_, _, rfl, rfl, ⟨_, _, rfl, rfl, ⟨_, _, rfl, rfl, ⟨_, _, rfl, rfl, rfl⟩⟩⟩⟩⟩⟩⟩⟩⟩) (⟨_, _, rfl, rfl, ⟨_, _, rfl, rfl, ⟨_, _, rfl, rfl, ⟨_, _, rfl, rfl, rfl⟩⟩⟩⟩) rfl ?_
      refine V.seq ?_
      refine V.seq ?_
      replace hm2 := asrt_some hm2; rcases hm2 with ⟨hh3, hm2⟩
      refine V.regionM 51 13 [⟨[(9, none)], [], none⟩, ⟨[(27, some 0)], [], none⟩, ⟨[(28, some 0)], [], none⟩, ⟨[(1, none)], [(0, true)], none⟩, ⟨[(9, none)], [(1, true)], none⟩, ⟨[(31, some 0)], [(2, true)], none⟩, ⟨[(30, some 2), (32, some 0)], [(3, true)], none⟩, ⟨[(33, some 0)], [(4, true)], none⟩, ⟨[(34, some 0)], [(5, true)], none⟩, ⟨[(10, none)], [(6, true)], none⟩, ⟨[(36, some 0)], [(7, true)], none⟩, ⟨[(35, some 2), (37, some 0)], [(8, true)], none⟩, ⟨[], [], some (true, 29, 38, 9, 0)⟩] [(1, none), (3, none), (5, none), (8, none), (10, none), (20, none), (21, none), (22, none), (39, some 0)] (⟨_, rfl, ⟨_, rfl, ⟨_, rfl, ⟨_, rfl, ⟨_, rfl, ⟨_, rfl, ⟨_, rfl, ⟨_, rfl, ⟨_, rfl, ⟨_, rfl, ⟨_, rfl, ⟨_, rfl, ⟨_, rfl, ⟨rfl, rfl⟩⟩⟩⟩⟩⟩⟩⟩⟩⟩⟩⟩⟩⟩) mixed_orders rfl (by decide +kernel) (fun hck7 => ?_)
      refine VP.step (p := ?pv421) rfl rfl rfl (⟨_, _, rfl, rfl, rfl⟩) ?hv421 ?rest421 hck7
      case hv421 =>
       intro E1
       refine (V1.move rfl rfl rfl lt0 ?_)
       exact rfl
      refine VP.step (p := ?pv422) rfl rfl rfl (⟨_, _, rfl, rfl, rfl⟩) ?hv422 ?rest422 hck7
      case hv422 =>
       intro E1
       refine (V1.int rfl rfl rfl rfl rfl lt0 ?_)
       exact rfl
      refine VP.step (p := ?pv423) rfl rfl rfl (⟨_, _, rfl, rfl, rfl⟩) ?hv423 ?rest423 hck7
      case hv423 =>
       intro E1
       refine (V1.move rfl rfl rfl lt0 ?_)
       exact rfl
      refine VP.step (p := ?pv424) rfl rfl rfl (⟨_, _, rfl, rfl, rfl⟩) ?hv424 ?rest424 hck7
      case hv424 =>
       refine ⟨_, rfl, fun hg1 => ?_⟩
       intro E1
       refine (V1.move rfl rfl rfl lt0 ?_)
       exact rfl
      refine VP.step (p := ?pv425) rfl rfl rfl (⟨_, _, rfl, rfl, rfl⟩) ?hv425 ?rest425 hck7
      case hv425 =>
       refine ⟨_, rfl, fun hg1 => ?_⟩
       intro E1
       refine (V1.move rfl rfl rfl lt0 ?_)
       exact rfl
      refine VP.step (p := ?pv426) rfl rfl rfl (⟨_, _, rfl, rfl, rfl⟩) ?hv426 ?rest426 hck7
      case hv426 =>
       refine ⟨_, rfl, fun hg1 => ?_⟩
       intro E1
       refine (V1.int rfl rfl rfl rfl rfl lt0 ?_)
       exact rfl
      refine VP.step (p := ?pv427) rfl rfl rfl (⟨_, _, rfl, rfl, ⟨_, _, rfl, rfl, rfl⟩⟩) ?hv427 ?rest427 hck7
      case hv427 =>
       refine ⟨_, rfl, fun hg1 => ?_⟩
       intro E1
       refine (V1.indexI rfl rfl esz_50 rfl rfl (hh3 hg1) lt0 ?_)
       exact rfl
      refine VP.step (p := ?pv428) rfl rfl rfl (⟨_, _, rfl, rfl, rfl⟩) ?hv428 ?rest428 hck7
      case hv428 =>
       refine ⟨_, rfl, fun hg1 => ?_⟩
       intro E1
       refine (V1.fieldPin rfl rfl fo_59_0 rfl lt0 ?_)
       exact rfl
      refine VP.step (p := ?pv429) rfl rfl rfl (⟨_, _, rfl, rfl, rfl⟩) ?hv429 ?rest429 hck7
      case hv429 =>
       refine ⟨_, rfl, fun hg1 => ?_⟩
       intro E1
       refine (V1.loadPin rfl rfl tyk_3 rfl rfl lt0 ?_)
       exact rfl
      refine VP.step (p := ?pv430) rfl rfl rfl (⟨_, _, rfl, rfl, rfl⟩) ?hv430 ?rest430 hck7
      case hv430 =>
       refine ⟨_, rfl, fun hg1 => ?_⟩
       intro E1
       refine (V1.fieldRef rfl rfl fo_59_0 rfl lt0 ?_)
       exact rfl
      refine VP.step (p := ?pv431) rfl rfl rfl (⟨_, _, rfl, rfl, rfl⟩) ?hv431 ?rest431 hck7
      case hv431 =>
       refine ⟨_, rfl, fun hg1 => ?_⟩
       intro E1
       refine (V1.loadRef (k := 0) rfl rfl tyk_3 rfl rfl rfl rfl rfl lt0 ?_)
       exact rfl
      refine VP.step (p := ?pv432) rfl rfl rfl (⟨_, _, rfl, rfl, ⟨_, _, rfl, rfl, rfl⟩⟩) ?hv432 ?rest432 hck7
      case hv432 =>
       refine ⟨_, rfl, fun hg1 => ?_⟩
       intro E1
       refine (V1.int rfl rfl rfl rfl rfl lt0 ?_)
       exact rfl
      refine VP.pickAnd rfl rfl rfl rfl rfl rfl (trivial) ?_ hck7
      refine VP.fin rfl (⟨_, _, rfl, rfl, ⟨_, _, rfl, rfl, ⟨_, _, rfl, rfl, ⟨_, _, rfl, rfl, ⟨_, _, rfl, rfl, ⟨_, _, rfl, rfl, ⟨_, _, rfl, rfl, ⟨_, _, rfl, rfl, ⟨_, _, rfl, rfl, rfl⟩⟩⟩⟩⟩⟩⟩⟩⟩) ?_
      refine VO.nil ?_
      refine V.cond rfl (fun hc2 => ?_) (fun hc2 => ?_)
      ·
       replace hm2 := cond_t hc2 hm2
       refine V.exit ?_
       exact ⟨(lost0, ob1), Option.some.inj hm2, Keeps.mk (ks := [1, 2, 3]) rfl ⟨rfl, rfl, rfl, rfl, rfl, rfl, rfl, trivial⟩ (⟨_, _, rfl, rfl, ⟨_, _, rfl, rfl, ⟨_, _, rfl, rfl, rfl⟩⟩⟩) rfl⟩
      ·
       replace hm2 := cond_f hc2 hm2
       refine V.skip ?_
       refine V.seq ?_
       replace hm2 := bindO hm2; rcases hm2 with ⟨y3, hh4, hm2⟩
       refine V.region ?_
       refine VO.cons rfl (V1.move rfl rfl rfl lt0 ?_)
       refine VO.cons rfl (V1.makeFunc rfl rfl rfl lt0 ?_)
       refine VO.cons rfl (V1.callL (rn + 1) [b3, b0, b1] [.vl ρ1 4 (List.map encCopy copies), .fn 68 [.pin (rn + 1) (encCopy (copies.getD (Int.toNat v) default)) 0, .pin (rn + 1) (.vl ρ0 4 (List.map (encFormat ρ0) list)) 0, .pin (rn + 1) (.int .i64 day) 0]] rfl rfl rfl cok_67 rfl ⟨_, _, rfl, .same _, ⟨_, _, rfl, Lend.fn ⟨_, _, rfl, Lend.ref 0 rfl rfl rfl rfl (.head _), ⟨_, _, rfl, Lend.ref 3 rfl rfl rfl rfl (.tail _ (.head _)), ⟨_, _, rfl, Lend.ref 2 rfl rfl rfl rfl (.tail _ (.tail _ (.head _))), rfl⟩⟩⟩, rfl⟩⟩ (bwCons (k := 0) rfl (bwCons (k := 3) rfl (bwCons (k := 2) rfl bwNil))) (ok_slices_ContainsFunc_impl_Copy_impl_Copy hh4 (fm := (fun x0 => M.impl_LostRecords_1 x0 (copies.getD (Int.toNat v) default) list day)) cok_68 (fun _ _ h => ok_impl_LostRecords_1 h)) rfl (⟨(by first | omega | (dsimp only; omega)), by rintro _ _ ⟨rfl, rfl⟩; exact ⟨rfl, by simp⟩⟩) lt0 ?_)
       rintro _ _ ⟨rfl, rfl⟩
       refine VO.cons rfl (V1.not rfl rfl rfl lt0 ?_)
       refine VO.nil ?_
       refine V.keep 51 [1, 3, 5, 8, 10, 20, 21, 22, 43] [0, 1, 2, 3] (E0 := [(1, .vl ρ1 4 (List.map encCopy copies)), (3, .ref b0 1 0 0), (5, .ref b1 1 0 0), (8, .sref ob1 1 0 (List.length lost0)), (10, .ref b3 4 0 0), (20, .vl ρ1 4 (List.map encCopy copies)), (21, .int .i64 (copies.length : Int)), (22, .int .i64 v), (43, .bool (!y3))]) (H0 := [(b3, ⟨4, [encCopy (copies.getD (Int.toNat v) default)]⟩), (ob1, ⟨1, List.map encInt lost0⟩), (b1, ⟨1, [.int .i64 day]⟩), (b0, ⟨1, [.vl ρ0 4 (List.map (encFormat ρ0) list)]⟩)]) rfl (⟨_, _, rfl, rfl, ⟨_, _, rfl, rfl, ⟨_, _, rfl, rfl, ⟨_, _, rfl, rfl, ⟨_, _, rfl, rfl, ⟨_, _, rfl, rfl, ⟨_, _, rfl, rfl, ⟨_, _, rfl, rfl, ⟨_, _, rfl, rfl, rfl⟩⟩⟩⟩⟩⟩⟩⟩⟩) (⟨_, _, rfl, rfl, ⟨_, _, rfl, rfl, ⟨_, _, rfl, rfl, ⟨_, _, rfl, rfl, rfl⟩⟩⟩⟩) rfl ?_
       refine V.cond rfl (fun hc3 => ?_) (fun hc3 => ?_)
       ·
        replace hm2 := cond_t hc3 hm2
        replace hm2 := asrt_some hm2; rcases hm2 with ⟨hh5, hm2⟩
        refine V.region ?_
        refine VO.cons rfl (V1.move rfl rfl rfl lt0 ?_)
        refine VO.cons rfl (V1.fieldRef rfl rfl fo_59_0 rfl lt0 ?_)
        refine VO.cons rfl (V1.loadRef (k := 0) rfl rfl tyk_3 rfl rfl rfl rfl rfl lt0 ?_)
        refine VO.cons rfl (V1.buildSliceT (f := encInt) ([(copies.getD (Int.toNat v) default).Record] : List Int) rfl rfl esz_31 zk_3 rfl rfl rfl rfl rfl rfl rfl lt0 ?_)
        intro b4
        refine VO.cons rfl (V1.appendMap (k := 2) (f := encInt) (l := lost0) (m := ([(copies.getD (Int.toNat v) default).Record] : List Int)) rfl rfl rfl rfl rfl esz_31 eby_31 zk_3 rfl rfl rfl (SrcOf.srMap (k := 0) rfl isl_31) hh5 lt0 ?_)
        intro b5
        refine VO.cons rfl (V1.assign rfl rfl rfl lt0 ?_)
        refine VO.nil ?_
        exact ⟨((lost0 ++ ([(copies.getD (Int.toNat v) default).Record] : List Int)), b5), Option.some.inj hm2, Keeps.mk (ks := [0, 3, 4]) rfl ⟨rfl, rfl, rfl, rfl, rfl, rfl, rfl, trivial⟩ (⟨_, _, rfl, rfl, ⟨_, _, rfl, rfl, ⟨_, _, rfl, rfl, rfl⟩⟩⟩) rfl⟩
       ·
        replace hm2 := cond_f hc3 hm2
        refine V.skip ?_
        exact ⟨(lost0, ob1), Option.some.inj hm2, Keeps.mk (ks := [1, 2, 3]) rfl ⟨rfl, rfl, rfl, rfl, rfl, rfl, rfl, trivial⟩ (⟨_, _, rfl, rfl, ⟨_, _, rfl, rfl, ⟨_, _, rfl, rfl, rfl⟩⟩⟩) rfl⟩
     ·
      rintro ⟨lost1, b2⟩ rfl
      try dsimp only at hm1
      refine V.region ?_
      refine VO.cons rfl (V1.int rfl rfl rfl rfl rfl lt0 ?_)
      refine VO.cons rfl (V1.move rfl rfl rfl lt0 ?_)
      refine VO.nil ?_
      exact ⟨(m0, (lost1, (IntKind.i64.wrap (v + (1 : Int)))), (some b2)), ⟨hl1 _ (Option.some.inj hm1).symm, (fun e => by cases e)⟩, Nat.lt_succ_self _, Keeps.mk (ks := [0, 1, 2]) rfl ⟨rfl, rfl, rfl, rfl, rfl, rfl, rfl, trivial⟩ (⟨_, _, rfl, rfl, ⟨_, _, rfl, rfl, ⟨_, _, rfl, rfl, rfl⟩⟩⟩) rfl⟩
    ·
     replace hm1 := cond_f hc1 hm1
     refine V.exit ?_
     obtain rfl := hr1 _ (Option.some.inj hm1).symm
     exact ⟨(lost0, (some ob1)), ⟨rfl, (fun e => by cases e)⟩, Keeps.mk (ks := [0]) rfl ⟨rfl, trivial⟩ (⟨_, _, rfl, rfl, rfl⟩) rfl⟩
  ·
   rintro ⟨lost, ob0⟩ ⟨rfl, hob0⟩
   try dsimp only at hm0
   rcases ob0 with _ | ob0
   ·
    replace hob0 := hob0 rfl
    refine V.seq ?_
    refine V.region ?_
    refine VO.cons rfl (V1.move rfl rfl rfl lt0 ?_)
    refine VO.cons rfl (V1.assign rfl rfl rfl lt0 ?_)
    refine VO.cons rfl (V1.assign rfl rfl rfl lt0 ?_)
    refine VO.nil ?_
    refine V.keep 51 [6, 7] [] (E0 := [(6, .nils), (7, .bool true)]) (H0 := []) rfl (⟨_, _, rfl, rfl, ⟨_, _, rfl, rfl, rfl⟩⟩) (rfl) rfl ?_
    refine V.ret ?_
    obtain rfl := Option.some.inj hm0
    exact ⟨_, _, ⟨_, _, rfl, rfl, ⟨_, _, rfl, rfl, rfl⟩⟩, List.Sublist.refl _, none, (fun _ => hob0), rfl, rfl⟩
   ·
    refine V.seq ?_
    refine V.region ?_
    refine VO.cons rfl (V1.move rfl rfl rfl lt0 ?_)
    refine VO.cons rfl (V1.assign rfl rfl rfl lt0 ?_)
    refine VO.cons rfl (V1.assign rfl rfl rfl lt0 ?_)
    refine VO.nil ?_
    refine V.keep 51 [6, 7] [0] (E0 := [(6, .sref ob0 1 0 (List.length lost)), (7, .bool true)]) (H0 := [(ob0, ⟨1, List.map encInt lost⟩)]) rfl (⟨_, _, rfl, rfl, ⟨_, _, rfl, rfl, rfl⟩⟩) (⟨_, _, rfl, rfl, rfl⟩) rfl ?_
    refine V.ret ?_
    obtain rfl := Option.some.inj hm0
    exact ⟨_, _, ⟨_, _, rfl, rfl, ⟨_, _, rfl, rfl, rfl⟩⟩, List.Sublist.refl _, some ob0, (fun e => by cases e), rfl, rfl⟩
end Go.Proofs.YtjfpdbhjoofllaaDoor
