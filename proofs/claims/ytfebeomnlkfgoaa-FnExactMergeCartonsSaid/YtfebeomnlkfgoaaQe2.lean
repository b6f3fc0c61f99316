/- the functions do what their models say -/
import Derived.Test.YtfebeomnlkfgoaaQe1
set_option linter.unusedSimpArgs false
set_option linter.unusedVariables false
set_option maxRecDepth 100000
set_option maxHeartbeats 4000000
namespace Go.Proofs.Ytfebeomnlkfgoaa
open Go.VS

theorem okv_slices_Clone_impl_Carton_impl_Carton {ρ0 σ0 rn : Nat} {s : List Carton} {r : List Carton} (h : M.slices_Clone_impl_Carton_impl_Carton s = some r) : Does Try.prog 108 [.vl ρ0 5 (List.map (encCarton σ0) s)] [] rn (fun x H => ∃ ob0_ : Option Nat, (ob0_ = none → r = []) ∧ x = optS 5 ob0_ (List.length r) ∧ H = optH 5 ob0_ (List.map (encCarton σ0) r)) := by
 have hm0 := h; clear h; unfold M.slices_Clone_impl_Carton_impl_Carton at hm0
 replace hm0 := asrt_some hm0; rcases hm0 with ⟨hh0, hm0⟩
 obtain rfl := Option.some.inj hm0
 refine Does.intro (N := 8) Try.func108 rfl rfl rfl rfl ?_
 intro w0 S0
 refine V.seq ?_
 refine V.region ?_
 refine VO.cons rfl (V1.assign rfl rfl rfl lt0 ?_)
 refine VO.nil ?_
 refine V.seq ?_
 first | refine V.region ?_ | (refine V.seq ?_; refine V.region ?_)
 refine VO.cons rfl (V1.move rfl rfl rfl lt0 ?_)
 refine VO.cons rfl (V1.eqNil rfl rfl usl_39 rfl rfl lt0 ?_)
 intro c hc
 refine VO.nil ?_
 first | refine V.cond rfl (fun hc0 => ?_) (fun hc0 => ?_) | (refine V.seq ?_; refine V.cond rfl (fun hc0 => ?_) (fun hc0 => ?_))
 ·
  have hs : s = [] := List.map_eq_nil_iff.1 (hc hc0)
  refine V.seq ?_
  refine V.region ?_
  refine VO.cons rfl (V1.assign rfl rfl rfl lt0 ?_)
  refine VO.nil ?_
  refine V.ret ?_
  exact ⟨_, [], ⟨_, _, rfl, rfl, rfl⟩, List.nil_sublist _, none, fun _ => hs, rfl, rfl⟩
 ·
  refine V.skip ?_
  refine V.seq ?_
  refine V.region ?_
  refine VO.cons rfl (V1.buildSliceT (f := (encCarton σ0)) ([] : List Carton) rfl rfl esz_39 zk_67 rfl rfl rfl rfl rfl rfl rfl lt0 ?_)
  intro b0
  refine VO.cons rfl (V1.move rfl rfl rfl lt0 ?_)
  refine VO.cons rfl (V1.appendMap (k := 0) (f := (encCarton σ0)) (l := []) (m := s) rfl rfl rfl rfl rfl esz_39 eby_39 zk_67 rfl rfl rfl (.vl isl_39) (by simpa using hh0) lt0 ?_)
  intro b1
  refine VO.cons rfl (V1.assign rfl rfl rfl lt0 ?_)
  refine VO.nil ?_
  refine V.keep 8 [2] [0] (E0 := [(2, .sref b1 5 0 (List.length s))]) (H0 := [(b1, ⟨5, List.map (encCarton σ0) s⟩)]) rfl (⟨_, _, rfl, rfl, rfl⟩) (⟨_, _, rfl, rfl, rfl⟩) rfl ?_
  refine V.ret ?_
  exact ⟨_, _, ⟨_, _, rfl, rfl, rfl⟩, List.Sublist.refl _, some b1, (fun e => by cases e), rfl, rfl⟩

theorem ok_impl_copyCartons {ρ0 σ0 rn : Nat} {list : List Carton} {r : List Carton} (h : M.impl_copyCartons list = some r) : Does Try.prog 66 [.vl ρ0 5 (List.map (encCarton σ0) list)] [] rn (fun x H => ∃ (ob0_ : Option Nat) (ts_ : List PV) (os_ : List (Nat × Obj')), (ob0_ = none → r = []) ∧ (Deep 1 (fun c_ : Carton => List.map encInt c_.Files) ts_ os_ r) ∧ x = optS 5 ob0_ (List.length r) ∧ H = (optH 5 ob0_ (deepC cellCarton ts_ r) ++ os_)) := by
 have hm0 := h; clear h; unfold M.impl_copyCartons at hm0
 try dsimp only at hm0
 refine Does.intro (N := 24) Try.func66 rfl rfl rfl rfl ?_
 intro w0 S0
 refine V.seq ?_
 refine V.region ?_
 refine VO.cons rfl (V1.assign rfl rfl rfl lt0 ?_)
 refine VO.nil ?_
 refine V.seq ?_
 replace hm0 := bindO hm0; rcases hm0 with ⟨y0, hh0, hm0⟩
 have hlen0 : (y0.length : Int) ≤ 2147483648 := by
  have := hh0; unfold M.slices_Clone_impl_Carton_impl_Carton at this; obtain ⟨q1, q2⟩ := asrt_some this; obtain rfl := Option.some.inj q2; exact q1
 refine V.region ?_
 refine VO.cons rfl (V1.move rfl rfl rfl lt0 ?_)
 refine VO.cons rfl (V1.permK (V1.call rfl rfl rfl cok_108 rfl (okv_slices_Clone_impl_Carton_impl_Carton hh0) rfl lt0 ?_))
 rintro _ _ ⟨ob0, hob0, rfl, rfl⟩
 refine ⟨_, ?_, Keeps.optBack (n := 5) (ob := ob0) (xs := List.map (encCarton σ0) y0) (H1 := []) (H2 := []) rfl⟩
 refine VO.cons rfl (V1.assign rfl rfl rfl lt0 ?_)
 refine VO.nil ?_
 rcases ob0 with _ | ob0
 ·
  have hn0 : y0 = [] := hob0 rfl
  refine V.seq ?_
  refine V.seq ?_
  refine V.region ?_
  refine VO.cons rfl (V1.move rfl rfl rfl lt0 ?_)
  refine VO.cons rfl (V1.lenNilsE (l := y0) hn0 rfl rfl rfl rfl rfl rfl isl_39 lt0 ?_)
  refine VO.cons rfl (V1.move rfl rfl rfl lt0 ?_)
  refine VO.nil ?_
  refine V.keep 24 [3, 8, 9] [] (E0 := [(3, .nils), (8, .int .i64 (y0.length : Int)), (9, .int .i64 (0 : Int))]) (H0 := []) rfl (⟨_, _, rfl, rfl, ⟨_, _, rfl, rfl, ⟨_, _, rfl, rfl, rfl⟩⟩⟩) (rfl) rfl ?_
  replace hm0 := bindO hm0; rcases hm0 with ⟨e0, he1, hm0⟩
  refine V.cutT (D := List Carton × Unit) (fun ⟨out_, _⟩ => ⟨24, [(3, .nils)], []⟩) (fun ⟨out_, _⟩ => (out_ = e0) ∧ out_ = []) ?_ ?_
  ·
   refine V.block ?_
   refine V.keep 24 [3, 9, 8] [] (E0 := [(3, .nils), (9, .int .i64 (0 : Int)), (8, .int .i64 (y0.length : Int))]) (H0 := []) rfl (⟨_, _, rfl, rfl, ⟨_, _, rfl, rfl, ⟨_, _, rfl, rfl, rfl⟩⟩⟩) (rfl) rfl ?_
   refine V.loopE (D := Nat × (List Carton × Int) × (Unit)) (fun ⟨n0, ⟨out_0, v⟩, _⟩ => [(3, .nils), (9, .int .i64 v)]) (fun ⟨n0, ⟨out_0, v⟩, _⟩ => []) (fun ⟨n0, ⟨out_0, v⟩, _⟩ => loopO (M.impl_copyCartons_l0 y0) n0 (out_0, v) = some e0 ∧ out_0 = []) (fun ⟨n0, _, _⟩ => n0) (rounds, (y0, (0 : Int)), ()) rfl ⟨he1, hn0⟩ ?_
   rintro ⟨n0, ⟨out_0, v⟩, _⟩ ⟨hP0, hn_out_0⟩
   obtain ⟨m0, y1, rfl, hm1, hl1, hr1⟩ := loop_head hP0
   unfold M.impl_copyCartons_l0 at hm1; dsimp only at hm1
   show V _ _ _ ⟨24, [(3, .nils), (9, .int .i64 v), (8, .int .i64 (y0.length : Int))], []⟩
   refine V.seq ?_
   refine V.region ?_
   refine VO.cons rfl (V1.int rfl rfl rfl rfl rfl lt0 ?_)
   refine VO.nil ?_
   refine V.seq ?_
   refine V.cond rfl (fun hc0 => ?_) (fun hc0 => ?_)
   ·
    replace hm1 := cond_t hc0 hm1
    replace hm1 := asrt_some hm1; rcases hm1 with ⟨hh1, hm1⟩
    exact (nilsNo hn_out_0 hh1).elim
   ·
    replace hm1 := cond_f hc0 hm1
    refine V.exit ?_
    obtain rfl := hr1 _ (Option.some.inj hm1).symm
    exact ⟨(out_0, ()), ⟨rfl, hn_out_0⟩, Keeps.mk (ks := []) rfl ⟨rfl, trivial⟩ (rfl) rfl⟩
  ·
   rintro ⟨out_, _⟩ ⟨rfl, hob1⟩
   try dsimp only at hm0
   refine V.seq ?_
   refine V.region ?_
   refine VO.cons rfl (V1.move rfl rfl rfl lt0 ?_)
   refine VO.cons rfl (V1.assign rfl rfl rfl lt0 ?_)
   refine VO.nil ?_
   refine V.keep 24 [2] [] (E0 := [(2, .nils)]) (H0 := []) rfl (⟨_, _, rfl, rfl, rfl⟩) (rfl) rfl ?_
   refine V.ret ?_
   obtain rfl := Option.some.inj hm0
   exact ⟨_, _, ⟨_, _, rfl, rfl, rfl⟩, List.Sublist.refl _, none, [], [], (fun _ => hob1), Deep.ofNil hob1, rfl, rfl⟩
 ·
  refine V.seq ?_
  refine V.seq ?_
  refine V.region ?_
  refine VO.cons rfl (V1.move rfl rfl rfl lt0 ?_)
  refine VO.cons rfl (V1.lenSref rfl rfl rfl rfl rfl rfl isl_39 lt0 ?_)
  refine VO.cons rfl (V1.move rfl rfl rfl lt0 ?_)
  refine VO.nil ?_
  refine V.weakenK (Keeps.sayObj 0 (ys := deepC cellCarton (List.map (fun c_ : Carton => PV.vl σ0 1 (List.map encInt c_.Files)) y0) y0) rfl (deepC_map (f := encCarton σ0) (cell := cellCarton) (frz := fun c_ : Carton => PV.vl σ0 1 (List.map encInt c_.Files)) (fun _ => rfl))) ?_
  refine V.keep 24 [3, 8, 9] [0] (E0 := [(3, .sref ob0 5 0 (List.length y0)), (8, .int .i64 (y0.length : Int)), (9, .int .i64 (0 : Int))]) (H0 := [(ob0, ⟨5, deepC cellCarton (List.map (fun c_ : Carton => PV.vl σ0 1 (List.map encInt c_.Files)) y0) y0⟩)]) rfl (⟨_, _, rfl, rfl, ⟨_, _, rfl, rfl, ⟨_, _, rfl, rfl, rfl⟩⟩⟩) (⟨_, _, rfl, rfl, rfl⟩) rfl ?_
  replace hm0 := bindO hm0; rcases hm0 with ⟨e0, he1, hm0⟩
  refine V.cutT (D := (List Carton) × (List PV × List (Nat × Obj'))) (fun ⟨out_, ⟨ts_, os_⟩⟩ => ⟨24, [(3, .sref ob0 5 0 (List.length out_))], ([(ob0, ⟨5, deepC cellCarton ts_ out_⟩)]) ++ os_⟩) (fun ⟨out_, ⟨ts_, os_⟩⟩ => (out_ = e0) ∧ Deep 1 (fun c_ : Carton => List.map encInt c_.Files) ts_ os_ out_) ?_ ?_
  ·
   refine V.block ?_
   refine V.keep 24 [3, 9, 8] [0] (E0 := [(3, .sref ob0 5 0 (List.length y0)), (9, .int .i64 (0 : Int)), (8, .int .i64 (y0.length : Int))]) (H0 := [(ob0, ⟨5, deepC cellCarton (List.map (fun c_ : Carton => PV.vl σ0 1 (List.map encInt c_.Files)) y0) y0⟩)]) rfl (⟨_, _, rfl, rfl, ⟨_, _, rfl, rfl, ⟨_, _, rfl, rfl, rfl⟩⟩⟩) (⟨_, _, rfl, rfl, rfl⟩) rfl ?_
   refine V.loopT (D := Nat × (List Carton × Int) × (List PV × List (Nat × Obj'))) (fun ⟨n0, ⟨out_0, v⟩, ⟨ts_, os_⟩⟩ => [(3, .sref ob0 5 0 (List.length out_0)), (9, .int .i64 v)]) (fun ⟨n0, ⟨out_0, v⟩, ⟨ts_, os_⟩⟩ => ([(ob0, ⟨5, deepC cellCarton ts_ out_0⟩)]) ++ os_) (fun ⟨n0, ⟨out_0, v⟩, ⟨ts_, os_⟩⟩ => loopO (M.impl_copyCartons_l0 y0) n0 (out_0, v) = some e0 ∧ out_0.length = y0.length ∧ 0 ≤ v ∧ Mix 1 (fun c_ : Carton => List.map encInt c_.Files) (fun c_ : Carton => PV.vl σ0 1 (List.map encInt c_.Files)) (Int.toNat v) ts_ os_ out_0) (fun ⟨n0, _, _⟩ => n0) (rounds, (y0, (0 : Int)), ((List.map (fun c_ : Carton => PV.vl σ0 1 (List.map encInt c_.Files)) y0), [])) rfl ⟨he1, rfl, Int.le_refl _, Mix.init⟩ ?_
   rintro ⟨n0, ⟨out_0, v⟩, ⟨ts_, os_⟩⟩ ⟨hP0, hlen, hv0, hmix⟩
   obtain ⟨m0, y1, rfl, hm1, hl1, hr1⟩ := loop_head hP0
   unfold M.impl_copyCartons_l0 at hm1; dsimp only at hm1
   show V _ _ _ ⟨24, [(3, .sref ob0 5 0 (List.length out_0)), (9, .int .i64 v), (8, .int .i64 (y0.length : Int))], (([(ob0, ⟨5, deepC cellCarton ts_ out_0⟩)] : List (Nat × Obj')) ++ os_)⟩
   refine V.seq ?_
   refine V.region ?_
   refine VO.cons rfl (V1.int rfl rfl rfl rfl rfl lt0 ?_)
   refine VO.nil ?_
   refine V.seq ?_
   refine V.cond rfl (fun hc0 => ?_) (fun hc0 => ?_)
   ·
    replace hm1 := cond_t hc0 hm1
    refine V.skip ?_
    refine V.seq ?_
    refine V.block ?_
    refine V.seq ?_
    refine V.region ?_
    refine VO.cons rfl (V1.move rfl rfl rfl lt0 ?_)
    refine VO.cons rfl (V1.assign rfl rfl rfl lt0 ?_)
    refine VO.nil ?_
    replace hm1 := asrt_some hm1; rcases hm1 with ⟨hh1, hm1⟩
    replace hm1 := bindO hm1; rcases hm1 with ⟨y2, hh2, hm1⟩
    replace hm1 := asrt_some hm1; rcases hm1 with ⟨hh3, hm1⟩
    have hi : Int.toNat v < out_0.length := natLt hh1.1 hh1.2
    have hget := hmix.get hi
    refine V.region ?_
    refine VO.cons rfl (V1.move rfl rfl rfl lt0 ?_)
    refine VO.cons rfl (V1.move rfl rfl rfl lt0 ?_)
    refine VO.cons rfl (V1.move rfl rfl rfl lt0 ?_)
    refine VO.cons rfl (V1.move rfl rfl rfl lt0 ?_)
    refine VO.cons rfl (V1.indexSr rfl rfl esz_39 rfl rfl hh1 lt0 ?_)
    refine VO.cons rfl (V1.fieldRef rfl rfl fo_67_3 rfl lt0 ?_)
    refine VO.cons rfl (V1.loadRef (k := 0) rfl rfl tyk_36 rfl rfl rfl ((deepC_get hmix.length hi).trans (congrArg (fun t_ => some (cellCarton t_ (out_0.getD (Int.toNat v) default))) hget)) rfl lt0 ?_)
    refine VO.cons rfl (V1.permK (V1.call rfl rfl rfl cok_109 rfl (ok_slices_Clone_int_int hh2) rfl lt0 ?_))
    rintro _ _ ⟨ob1, hob1, rfl, rfl⟩
    refine ⟨_, ?_, Keeps.optBack (n := 1) (ob := ob1) (xs := List.map encInt y2) (H1 := []) (H2 := (([(ob0, ⟨5, deepC cellCarton ts_ out_0⟩)] : List (Nat × Obj')) ++ os_)) rfl⟩
    refine VO.cons rfl (V1.indexSr rfl rfl esz_39 rfl rfl hh3 lt0 ?_)
    refine VO.cons rfl (V1.fieldRef rfl rfl fo_67_3 rfl lt0 ?_)
    refine VO.cons rfl (V1.storeDeepIn (inn := (fun c_ : Carton => List.map encInt c_.Files)) (cell := cellCarton) (ts := ts_) (xs := out_0) (k := 0) cokCarton (⟨(out_0.getD (Int.toNat v) default).Id, (out_0.getD (Int.toNat v) default).Shelf, (out_0.getD (Int.toNat v) default).Room, y2, (out_0.getD (Int.toNat v) default).Thick⟩ : Carton) rfl rfl tyk_36 rfl rfl hmix.length (by rw [hget]; exact ⟨rfl, rfl⟩) hi rfl (by cases ob1 <;> rfl) (by cases ob1 <;> rfl) rfl rfl ?_)
    refine VO.weakenK (Keeps.say 3 (y := .sref ob0 5 0 (List.length (out_0.set (Int.toNat v) (⟨(out_0.getD (Int.toNat v) default).Id, (out_0.getD (Int.toNat v) default).Shelf, (out_0.getD (Int.toNat v) default).Room, y2, (out_0.getD (Int.toNat v) default).Thick⟩ : Carton)))) rfl (by simp)) ?_
    refine VO.nil ?_
    have hmix2 := hmix.step (x' := (⟨(out_0.getD (Int.toNat v) default).Id, (out_0.getD (Int.toNat v) default).Shelf, (out_0.getD (Int.toNat v) default).Room, y2, (out_0.getD (Int.toNat v) default).Thick⟩ : Carton)) hi (Deep1.opt (m := 1) (q := List.length y2) (l := List.map encInt y2) (ob := ob1) (by simp) (fun e_ => by rw [hob1 e_]; rfl))
    obtain ⟨hv1, hv2⟩ := Mix.round (i := v) (n := y0.length) hv0 (by rw [← hlen]; exact hh1.2) hlen0
    rw [← hv2] at hmix2
    refine V.keepT 24 [3, 8, 9] [0] (E0 := [(3, .sref ob0 5 0 (List.length (out_0.set (Int.toNat v) (⟨(out_0.getD (Int.toNat v) default).Id, (out_0.getD (Int.toNat v) default).Shelf, (out_0.getD (Int.toNat v) default).Room, y2, (out_0.getD (Int.toNat v) default).Thick⟩ : Carton)))), (8, .int .i64 (y0.length : Int)), (9, .int .i64 v)]) (A := [(ob0, ⟨5, deepC cellCarton (List.set ts_ (Int.toNat v) (optS 1 ob1 (List.length y2))) (out_0.set (Int.toNat v) (⟨(out_0.getD (Int.toNat v) default).Id, (out_0.getD (Int.toNat v) default).Shelf, (out_0.getD (Int.toNat v) default).Room, y2, (out_0.getD (Int.toNat v) default).Thick⟩ : Carton))⟩)]) (T := os_ ++ optH 1 ob1 (List.map encInt y2)) (H0 := [(ob0, ⟨5, deepC cellCarton (List.set ts_ (Int.toNat v) (optS 1 ob1 (List.length y2))) (out_0.set (Int.toNat v) (⟨(out_0.getD (Int.toNat v) default).Id, (out_0.getD (Int.toNat v) default).Shelf, (out_0.getD (Int.toNat v) default).Room, y2, (out_0.getD (Int.toNat v) default).Thick⟩ : Carton))⟩)]) (T' := os_ ++ optH 1 ob1 (List.map encInt y2)) rfl (⟨_, _, rfl, rfl, ⟨_, _, rfl, rfl, ⟨_, _, rfl, rfl, rfl⟩⟩⟩) rfl (⟨_, _, rfl, rfl, rfl⟩) rfl (List.Sublist.refl _) ?_
    refine V.region ?_
    refine VO.cons rfl (V1.int rfl rfl rfl rfl rfl lt0 ?_)
    refine VO.cons rfl (V1.move rfl rfl rfl lt0 ?_)
    refine VO.nil ?_
    exact ⟨(m0, ((out_0.set (Int.toNat v) (⟨(out_0.getD (Int.toNat v) default).Id, (out_0.getD (Int.toNat v) default).Shelf, (out_0.getD (Int.toNat v) default).Room, y2, (out_0.getD (Int.toNat v) default).Thick⟩ : Carton)), (IntKind.i64.wrap (v + (1 : Int)))), ((List.set ts_ (Int.toNat v) (optS 1 ob1 (List.length y2))), os_ ++ optH 1 ob1 (List.map encInt y2))), ⟨hl1 _ (Option.some.inj hm1).symm, by rw [List.length_set]; exact hlen, hv1, hmix2⟩, Nat.lt_succ_self _, Keeps.mkT (A := [(ob0, ⟨5, deepC cellCarton (List.set ts_ (Int.toNat v) (optS 1 ob1 (List.length y2))) (out_0.set (Int.toNat v) (⟨(out_0.getD (Int.toNat v) default).Id, (out_0.getD (Int.toNat v) default).Shelf, (out_0.getD (Int.toNat v) default).Room, y2, (out_0.getD (Int.toNat v) default).Thick⟩ : Carton))⟩)]) (T := os_ ++ optH 1 ob1 (List.map encInt y2)) (T' := os_ ++ optH 1 ob1 (List.map encInt y2)) (H := [(ob0, ⟨5, deepC cellCarton (List.set ts_ (Int.toNat v) (optS 1 ob1 (List.length y2))) (out_0.set (Int.toNat v) (⟨(out_0.getD (Int.toNat v) default).Id, (out_0.getD (Int.toNat v) default).Shelf, (out_0.getD (Int.toNat v) default).Room, y2, (out_0.getD (Int.toNat v) default).Thick⟩ : Carton))⟩)]) (ks := [0]) rfl (by exact ⟨(someSref (by simp)), rfl, rfl, trivial⟩) rfl (by exact (⟨_, _, rfl, rfl, rfl⟩)) rfl (List.Sublist.refl _)⟩
   ·
    replace hm1 := cond_f hc0 hm1
    refine V.exit ?_
    obtain rfl := hr1 _ (Option.some.inj hm1).symm
    have hdone := hmix.done (by have := of_decide_eq_false hc0; omega)
    exact ⟨(out_0, (ts_, os_)), ⟨rfl, hdone⟩, Keeps.mkT (A := [(ob0, ⟨5, deepC cellCarton ts_ out_0⟩)]) (T := os_) (T' := os_) (H := [(ob0, ⟨5, deepC cellCarton ts_ out_0⟩)]) (ks := [0]) rfl (by exact ⟨(someSref (by simp)), trivial⟩) rfl (by exact (⟨_, _, rfl, rfl, rfl⟩)) rfl (List.Sublist.refl _)⟩
  ·
   rintro ⟨out_, ⟨ts_, os_⟩⟩ ⟨rfl, hd_⟩
   try dsimp only at hm0
   refine V.seq ?_
   refine V.region ?_
   refine VO.cons rfl (V1.move rfl rfl rfl lt0 ?_)
   refine VO.cons rfl (V1.assign rfl rfl rfl lt0 ?_)
   refine VO.nil ?_
   refine V.keepT 24 [2] [0] (E0 := [(2, .sref ob0 5 0 (List.length out_))]) (A := [(ob0, ⟨5, deepC cellCarton ts_ out_⟩)]) (T := os_) (H0 := [(ob0, ⟨5, deepC cellCarton ts_ out_⟩)]) (T' := os_) rfl (⟨_, _, rfl, rfl, rfl⟩) rfl (⟨_, _, rfl, rfl, rfl⟩) rfl (List.Sublist.refl _) ?_
   refine V.ret ?_
   obtain rfl := Option.some.inj hm0
   exact ⟨_, _, ⟨_, _, rfl, rfl, rfl⟩, List.Sublist.refl _, some ob0, ts_, os_, (fun e => by cases e), hd_, rfl, rfl⟩

theorem ok_slices_Sort_int_int {rn : Nat} {oq : Option Nat} {s r : List Int} (h : M.slices_Sort_int_int s = some r) (hoq : oq = none → s = []) : Does Try.prog 79 [optS 1 oq (List.length s)] (optH 1 oq (List.map encInt s)) rn (fun x H => x = .tup [] ∧ H = optH 1 oq (List.map encInt r)) := by
 unfold M.slices_Sort_int_int at h
 obtain ⟨h1, h⟩ := asrt_some h
 obtain rfl := Option.some.inj h; clear h
 exact Does.sortI hoq (fun blk off cap zs w h1 h2 h3 => Go.Proofs.Any.slices_Sort_int Go.Proofs.Try.lays189 blk off cap zs w h1 h2 h3) (fun p cap w => Go.Proofs.Any.slices_Sort_int_none Go.Proofs.Try.lays189 p cap w) h1

theorem okr_slices_Delete_impl_Carton_impl_Carton {rn : Nat} {oq : Option Nat} {s : List PV} {i : Int} {j_ : Int} {r : List PV} (h : delM (PV.agg [.int .i64 (0 : Int), .int .i64 (0 : Int), .int .i64 (0 : Int), .nils, .int .i64 (0 : Int)]) s i j_ = some r) (hoq : oq = none → s = []) : Does Try.prog 80 [optS 5 oq (List.length s), .int .i64 i, .int .i64 j_] (optH 5 oq (List.map (fun t_ : PV => t_) s)) rn (fun x H => ∃ (ob0_ : Option Nat), (ob0_ = none → r = []) ∧ x = optS 5 ob0_ (List.length r) ∧ H = optH 5 ob0_ (List.map (fun t_ : PV => t_) r)) := by
 have hm0 := h; clear h; unfold delM at hm0
 try dsimp only at hm0
 refine Does.intro (N := 33) Try.func80 rfl rfl rfl rfl ?_
 intro w0 S0
 rcases oq with _ | oq
 ·
  refine V.seq ?_
  refine V.region ?_
  refine VO.cons rfl (V1.assign rfl rfl rfl lt0 ?_)
  refine VO.nil ?_
  refine V.seq ?_
  replace hm0 := asrt_some hm0; rcases hm0 with ⟨hh0, hm0⟩
  refine V.region ?_
  refine VO.cons rfl (V1.move rfl rfl rfl lt0 ?_)
  refine VO.cons rfl (V1.move rfl rfl rfl lt0 ?_)
  refine VO.cons rfl (V1.move rfl rfl rfl lt0 ?_)
  refine VO.cons rfl (V1.move rfl rfl rfl lt0 ?_)
  refine VO.cons rfl (V1.lenNilsE (l := s) (hoq rfl) rfl rfl rfl rfl rfl rfl isl_39 lt0 ?_)
  refine VO.cons rfl (V1.slice3N (l := s) (hoq rfl) rfl rfl esz_39 rfl rfl rfl rfl hh0 lt0 ?_)
  refine VO.nil ?_
  refine V.keep 33 [0, 1, 2] [] (E0 := [(0, .nils), (1, .int .i64 i), (2, .int .i64 j_)]) (H0 := []) rfl (⟨_, _, rfl, rfl, ⟨_, _, rfl, rfl, ⟨_, _, rfl, rfl, rfl⟩⟩⟩) (rfl) rfl ?_
  refine V.seq ?_
  refine V.seq ?_
  refine V.region ?_
  refine VO.cons rfl (V1.move rfl rfl rfl lt0 ?_)
  refine VO.cons rfl (V1.move rfl rfl rfl lt0 ?_)
  refine VO.cons rfl (V1.int rfl rfl rfl rfl rfl lt0 ?_)
  refine VO.nil ?_
  refine V.cond rfl (fun hc0 => ?_) (fun hc0 => ?_)
  ·
   replace hm0 := cond_t hc0 hm0
   refine V.seq ?_
   refine V.region ?_
   refine VO.cons rfl (V1.move rfl rfl rfl lt0 ?_)
   refine VO.cons rfl (V1.assign rfl rfl rfl lt0 ?_)
   refine VO.nil ?_
   refine V.keep 33 [6] [] (E0 := [(6, .nils)]) (H0 := []) rfl (⟨_, _, rfl, rfl, rfl⟩) (rfl) rfl ?_
   refine V.ret ?_
   obtain rfl := Option.some.inj hm0
   exact ⟨_, _, ⟨_, _, rfl, rfl, rfl⟩, List.Sublist.refl _, none, (fun _ => (hoq rfl)), rfl, rfl⟩
  ·
   replace hm0 := cond_f hc0 hm0
   exfalso
   obtain rfl := hoq rfl; simp only [beq_eq_false_iff_ne, ne_eq, List.length_nil] at *; omega
 ·
  refine V.seq ?_
  refine V.region ?_
  refine VO.cons rfl (V1.assign rfl rfl rfl lt0 ?_)
  refine VO.nil ?_
  refine V.seq ?_
  replace hm0 := asrt_some hm0; rcases hm0 with ⟨hh0, hm0⟩
  refine V.region ?_
  refine VO.cons rfl (V1.move rfl rfl rfl lt0 ?_)
  refine VO.cons rfl (V1.move rfl rfl rfl lt0 ?_)
  refine VO.cons rfl (V1.move rfl rfl rfl lt0 ?_)
  refine VO.cons rfl (V1.move rfl rfl rfl lt0 ?_)
  refine VO.cons rfl (V1.lenSref rfl rfl rfl rfl rfl rfl isl_39 lt0 ?_)
  refine VO.cons rfl (V1.slice3 rfl rfl esz_39 rfl rfl rfl rfl hh0 lt0 ?_)
  refine VO.nil ?_
  refine V.keep 33 [0, 1, 2] [0] (E0 := [(0, .sref oq 5 0 (List.length s)), (1, .int .i64 i), (2, .int .i64 j_)]) (H0 := [(oq, ⟨5, List.map (fun t_ : PV => t_) s⟩)]) rfl (⟨_, _, rfl, rfl, ⟨_, _, rfl, rfl, ⟨_, _, rfl, rfl, rfl⟩⟩⟩) (⟨_, _, rfl, rfl, rfl⟩) rfl ?_
  refine V.seq ?_
  refine V.seq ?_
  refine V.region ?_
  refine VO.cons rfl (V1.move rfl rfl rfl lt0 ?_)
  refine VO.cons rfl (V1.move rfl rfl rfl lt0 ?_)
  refine VO.cons rfl (V1.int rfl rfl rfl rfl rfl lt0 ?_)
  refine VO.nil ?_
  refine V.cond rfl (fun hc0 => ?_) (fun hc0 => ?_)
  ·
   replace hm0 := cond_t hc0 hm0
   refine V.seq ?_
   refine V.region ?_
   refine VO.cons rfl (V1.move rfl rfl rfl lt0 ?_)
   refine VO.cons rfl (V1.assign rfl rfl rfl lt0 ?_)
   refine VO.nil ?_
   refine V.keep 33 [6] [0] (E0 := [(6, .sref oq 5 0 (List.length s))]) (H0 := [(oq, ⟨5, List.map (fun t_ : PV => t_) s⟩)]) rfl (⟨_, _, rfl, rfl, rfl⟩) (⟨_, _, rfl, rfl, rfl⟩) rfl ?_
   refine V.ret ?_
   obtain rfl := Option.some.inj hm0
   exact ⟨_, _, ⟨_, _, rfl, rfl, rfl⟩, List.Sublist.refl _, some oq, (fun e => by cases e), rfl, rfl⟩
  ·
   replace hm0 := cond_f hc0 hm0
   refine V.skip ?_
   refine V.seq ?_
   refine V.region ?_
   refine VO.cons rfl (V1.move rfl rfl rfl lt0 ?_)
   refine VO.cons rfl (V1.lenSref rfl rfl rfl rfl rfl rfl isl_39 lt0 ?_)
   refine VO.cons rfl (V1.assign rfl rfl rfl lt0 ?_)
   refine VO.nil ?_
   refine V.keep 33 [0, 1, 2, 7] [0] (E0 := [(0, .sref oq 5 0 (List.length s)), (1, .int .i64 i), (2, .int .i64 j_), (7, .int .i64 (s.length : Int))]) (H0 := [(oq, ⟨5, List.map (fun t_ : PV => t_) s⟩)]) rfl (⟨_, _, rfl, rfl, ⟨_, _, rfl, rfl, ⟨_, _, rfl, rfl, ⟨_, _, rfl, rfl, rfl⟩⟩⟩⟩) (⟨_, _, rfl, rfl, rfl⟩) rfl ?_
   refine V.seq ?_
   replace hm0 := asrt_some hm0; rcases hm0 with ⟨hh1, hm0⟩
   replace hm0 := asrt_some hm0; rcases hm0 with ⟨hh2, hm0⟩
   replace hm0 := asrt_some hm0; rcases hm0 with ⟨hh3, hm0⟩
   replace hm0 := asrt_some hm0; rcases hm0 with ⟨hh4, hm0⟩
   refine V.regionS [] 33 6 [⟨[(0, none)], false⟩, ⟨[(1, none)], false⟩, ⟨[(20, some 0), (21, some 1)], false⟩, ⟨[(0, none)], false⟩, ⟨[(2, none)], false⟩, ⟨[(23, some 3), (24, some 4)], false⟩] [(7, none), (22, some 2), (25, some 5)] 0 (⟨_, rfl, ⟨_, rfl, ⟨_, rfl, ⟨_, rfl, ⟨_, rfl, ⟨_, rfl, ⟨rfl, rfl⟩⟩⟩⟩⟩⟩⟩) mixed_orders rfl (by decide +kernel) ?_
   refine WalkP.step (p := ?pv13) 0 rfl rfl rfl rfl rfl (⟨_, _, rfl, rfl, rfl⟩) ?hv13 ?rest13
   case hv13 =>
    intro E1 H1 hI1
    refine (V1.move rfl rfl rfl lt0 ?_)
    exact rfl
   refine WalkP.step (p := ?pv14) 1 rfl rfl rfl rfl rfl (⟨_, _, rfl, rfl, rfl⟩) ?hv14 ?rest14
   case hv14 =>
    intro E1 H1 hI1
    refine (V1.move rfl rfl rfl lt0 ?_)
    exact rfl
   refine WalkP.step (p := ?pv15) 2 rfl rfl rfl rfl rfl (⟨_, _, rfl, rfl, ⟨_, _, rfl, rfl, rfl⟩⟩) ?hv15 ?rest15
   case hv15 =>
    intro E1 H1 hI1
    refine (V1.sliceSw (a := (0 : Int)) (c := i) rfl rfl esz_39 rfl (Bnd.none _ _) (Bnd.some rfl (Int.le_trans hh1.1 hh1.2.1) _) hh1 lt0 ?_)
    exact rfl
   refine WalkP.step (p := ?pv16) 3 rfl rfl rfl rfl rfl (⟨_, _, rfl, rfl, rfl⟩) ?hv16 ?rest16
   case hv16 =>
    intro E1 H1 hI1
    refine (V1.move rfl rfl rfl lt0 ?_)
    exact rfl
   refine WalkP.step (p := ?pv17) 4 rfl rfl rfl rfl rfl (⟨_, _, rfl, rfl, rfl⟩) ?hv17 ?rest17
   case hv17 =>
    intro E1 H1 hI1
    refine (V1.move rfl rfl rfl lt0 ?_)
    exact rfl
   refine WalkP.step (p := ?pv18) 5 rfl rfl rfl rfl rfl (⟨_, _, rfl, rfl, ⟨_, _, rfl, rfl, rfl⟩⟩) ?hv18 ?rest18
   case hv18 =>
    intro E1 H1 hI1
    refine (V1.sliceSw (a := j_) (c := (((List.length s) : Nat) : Int)) rfl rfl esz_39 rfl (Bnd.some rfl hh2.1 _) (Bnd.none _ _) hh2 lt0 ?_)
    exact rfl
   refine WalkP.nil ?_
   refine NodeS.fin inNil rfl rfl rfl (⟨_, _, rfl, rfl, ⟨_, _, rfl, rfl, ⟨_, _, rfl, rfl, rfl⟩⟩⟩) ?_
   refine VO.cons rfl (V1.appendIn (k := 0) (f := (fun t_ : PV => t_)) (l := s) (m := (List.take (Int.toNat (((List.length s) : Nat) : Int) - Int.toNat j_) (List.drop (0 + Int.toNat j_) s))) (i := (Int.toNat i - Int.toNat (0 : Int))) rfl rfl rfl rfl rfl esz_39 rfl rfl rfl (SrcOf.swMap (k := 0) (l := s) rfl hh3 isl_39) hh4 lt0 ?_)
   refine VO.cons rfl (V1.assign rfl rfl rfl lt0 ?_)
   refine VO.nil ?_
   refine V.seq ?_
   replace hm0 := asrt_some hm0; rcases hm0 with ⟨hh5, hm0⟩
   replace hm0 := asrt_some hm0; rcases hm0 with ⟨hh6, hm0⟩
   refine V.region ?_
   refine VO.cons rfl (V1.move rfl rfl rfl lt0 ?_)
   refine VO.cons rfl (V1.move rfl rfl rfl lt0 ?_)
   refine VO.cons rfl (V1.lenSref rfl rfl rfl rfl rfl rfl isl_39 lt0 ?_)
   refine VO.cons rfl (V1.move rfl rfl rfl lt0 ?_)
   refine VO.cons rfl (V1.sliceSwX (k := 0) (f := (fun t_ : PV => t_)) (l := (List.take (Int.toNat i - Int.toNat (0 : Int)) s ++ (List.take (Int.toNat (((List.length s) : Nat) : Int) - Int.toNat j_) (List.drop (0 + Int.toNat j_) s)) ++ List.drop ((Int.toNat i - Int.toNat (0 : Int)) + List.length (List.take (Int.toNat (((List.length s) : Nat) : Int) - Int.toNat j_) (List.drop (0 + Int.toNat j_) s))) s)) (a := ((((Int.toNat i - Int.toNat (0 : Int)) + List.length (List.take (Int.toNat (((List.length s) : Nat) : Int) - Int.toNat j_) (List.drop (0 + Int.toNat j_) s))) : Nat) : Int)) (c := (s.length : Int)) rfl rfl esz_39 rfl rfl (Bnd.some rfl hh5.1 _) rfl hh5 lt0 ?_)
   refine VO.cons rfl (V1.clearSw (k := 0) (f := (fun t_ : PV => t_)) (l := (List.take (Int.toNat i - Int.toNat (0 : Int)) s ++ (List.take (Int.toNat (((List.length s) : Nat) : Int) - Int.toNat j_) (List.drop (0 + Int.toNat j_) s)) ++ List.drop ((Int.toNat i - Int.toNat (0 : Int)) + List.length (List.take (Int.toNat (((List.length s) : Nat) : Int) - Int.toNat j_) (List.drop (0 + Int.toNat j_) s))) s)) (z := (PV.agg [.int .i64 (0 : Int), .int .i64 (0 : Int), .int .i64 (0 : Int), .nils, .int .i64 (0 : Int)])) rfl rfl rfl rfl rfl esz_39 zk_67 .same rfl rfl hh6 ?_)
   refine VO.nil ?_
   refine V.keep 33 [0] [0] (E0 := [(0, .sref oq 5 0 ((Int.toNat i - Int.toNat (0 : Int)) + List.length (List.take (Int.toNat (((List.length s) : Nat) : Int) - Int.toNat j_) (List.drop (0 + Int.toNat j_) s))))]) (H0 := [(oq, ⟨5, List.map (fun t_ : PV => t_) (List.take (0 + Int.toNat ((((Int.toNat i - Int.toNat (0 : Int)) + List.length (List.take (Int.toNat (((List.length s) : Nat) : Int) - Int.toNat j_) (List.drop (0 + Int.toNat j_) s))) : Nat) : Int)) (List.take (Int.toNat i - Int.toNat (0 : Int)) s ++ (List.take (Int.toNat (((List.length s) : Nat) : Int) - Int.toNat j_) (List.drop (0 + Int.toNat j_) s)) ++ List.drop ((Int.toNat i - Int.toNat (0 : Int)) + List.length (List.take (Int.toNat (((List.length s) : Nat) : Int) - Int.toNat j_) (List.drop (0 + Int.toNat j_) s))) s) ++ List.replicate (Int.toNat (s.length : Int) - Int.toNat ((((Int.toNat i - Int.toNat (0 : Int)) + List.length (List.take (Int.toNat (((List.length s) : Nat) : Int) - Int.toNat j_) (List.drop (0 + Int.toNat j_) s))) : Nat) : Int)) (PV.agg [.int .i64 (0 : Int), .int .i64 (0 : Int), .int .i64 (0 : Int), .nils, .int .i64 (0 : Int)]) ++ List.drop ((0 + Int.toNat ((((Int.toNat i - Int.toNat (0 : Int)) + List.length (List.take (Int.toNat (((List.length s) : Nat) : Int) - Int.toNat j_) (List.drop (0 + Int.toNat j_) s))) : Nat) : Int)) + (Int.toNat (s.length : Int) - Int.toNat ((((Int.toNat i - Int.toNat (0 : Int)) + List.length (List.take (Int.toNat (((List.length s) : Nat) : Int) - Int.toNat j_) (List.drop (0 + Int.toNat j_) s))) : Nat) : Int))) (List.take (Int.toNat i - Int.toNat (0 : Int)) s ++ (List.take (Int.toNat (((List.length s) : Nat) : Int) - Int.toNat j_) (List.drop (0 + Int.toNat j_) s)) ++ List.drop ((Int.toNat i - Int.toNat (0 : Int)) + List.length (List.take (Int.toNat (((List.length s) : Nat) : Int) - Int.toNat j_) (List.drop (0 + Int.toNat j_) s))) s))⟩)]) rfl (⟨_, _, rfl, rfl, rfl⟩) (⟨_, _, rfl, rfl, rfl⟩) rfl ?_
   refine V.seq ?_
   refine V.region ?_
   refine VO.cons rfl (V1.move rfl rfl rfl lt0 ?_)
   refine VO.cons rfl (V1.assign rfl rfl rfl lt0 ?_)
   refine VO.nil ?_
   replace hm0 := asrt_some hm0; rcases hm0 with ⟨hh7, hm0⟩
   refine V.weakenK (Keeps.cut 6 0 ((Int.toNat i - Int.toNat (0 : Int)) + List.length (List.take (Int.toNat (((List.length s) : Nat) : Int) - Int.toNat j_) (List.drop (0 + Int.toNat j_) s))) (f := (fun t_ : PV => t_)) (l := (List.take (0 + Int.toNat ((((Int.toNat i - Int.toNat (0 : Int)) + List.length (List.take (Int.toNat (((List.length s) : Nat) : Int) - Int.toNat j_) (List.drop (0 + Int.toNat j_) s))) : Nat) : Int)) (List.take (Int.toNat i - Int.toNat (0 : Int)) s ++ (List.take (Int.toNat (((List.length s) : Nat) : Int) - Int.toNat j_) (List.drop (0 + Int.toNat j_) s)) ++ List.drop ((Int.toNat i - Int.toNat (0 : Int)) + List.length (List.take (Int.toNat (((List.length s) : Nat) : Int) - Int.toNat j_) (List.drop (0 + Int.toNat j_) s))) s) ++ List.replicate (Int.toNat (s.length : Int) - Int.toNat ((((Int.toNat i - Int.toNat (0 : Int)) + List.length (List.take (Int.toNat (((List.length s) : Nat) : Int) - Int.toNat j_) (List.drop (0 + Int.toNat j_) s))) : Nat) : Int)) (PV.agg [.int .i64 (0 : Int), .int .i64 (0 : Int), .int .i64 (0 : Int), .nils, .int .i64 (0 : Int)]) ++ List.drop ((0 + Int.toNat ((((Int.toNat i - Int.toNat (0 : Int)) + List.length (List.take (Int.toNat (((List.length s) : Nat) : Int) - Int.toNat j_) (List.drop (0 + Int.toNat j_) s))) : Nat) : Int)) + (Int.toNat (s.length : Int) - Int.toNat ((((Int.toNat i - Int.toNat (0 : Int)) + List.length (List.take (Int.toNat (((List.length s) : Nat) : Int) - Int.toNat j_) (List.drop (0 + Int.toNat j_) s))) : Nat) : Int))) (List.take (Int.toNat i - Int.toNat (0 : Int)) s ++ (List.take (Int.toNat (((List.length s) : Nat) : Int) - Int.toNat j_) (List.drop (0 + Int.toNat j_) s)) ++ List.drop ((Int.toNat i - Int.toNat (0 : Int)) + List.length (List.take (Int.toNat (((List.length s) : Nat) : Int) - Int.toNat j_) (List.drop (0 + Int.toNat j_) s))) s))) rfl rfl hh7) ?_
   refine V.keep 33 [6] [0] (E0 := [(6, .sref oq 5 0 (List.length (List.take ((Int.toNat i - Int.toNat (0 : Int)) + List.length (List.take (Int.toNat (((List.length s) : Nat) : Int) - Int.toNat j_) (List.drop (0 + Int.toNat j_) s))) (List.take (0 + Int.toNat ((((Int.toNat i - Int.toNat (0 : Int)) + List.length (List.take (Int.toNat (((List.length s) : Nat) : Int) - Int.toNat j_) (List.drop (0 + Int.toNat j_) s))) : Nat) : Int)) (List.take (Int.toNat i - Int.toNat (0 : Int)) s ++ (List.take (Int.toNat (((List.length s) : Nat) : Int) - Int.toNat j_) (List.drop (0 + Int.toNat j_) s)) ++ List.drop ((Int.toNat i - Int.toNat (0 : Int)) + List.length (List.take (Int.toNat (((List.length s) : Nat) : Int) - Int.toNat j_) (List.drop (0 + Int.toNat j_) s))) s) ++ List.replicate (Int.toNat (s.length : Int) - Int.toNat ((((Int.toNat i - Int.toNat (0 : Int)) + List.length (List.take (Int.toNat (((List.length s) : Nat) : Int) - Int.toNat j_) (List.drop (0 + Int.toNat j_) s))) : Nat) : Int)) (PV.agg [.int .i64 (0 : Int), .int .i64 (0 : Int), .int .i64 (0 : Int), .nils, .int .i64 (0 : Int)]) ++ List.drop ((0 + Int.toNat ((((Int.toNat i - Int.toNat (0 : Int)) + List.length (List.take (Int.toNat (((List.length s) : Nat) : Int) - Int.toNat j_) (List.drop (0 + Int.toNat j_) s))) : Nat) : Int)) + (Int.toNat (s.length : Int) - Int.toNat ((((Int.toNat i - Int.toNat (0 : Int)) + List.length (List.take (Int.toNat (((List.length s) : Nat) : Int) - Int.toNat j_) (List.drop (0 + Int.toNat j_) s))) : Nat) : Int))) (List.take (Int.toNat i - Int.toNat (0 : Int)) s ++ (List.take (Int.toNat (((List.length s) : Nat) : Int) - Int.toNat j_) (List.drop (0 + Int.toNat j_) s)) ++ List.drop ((Int.toNat i - Int.toNat (0 : Int)) + List.length (List.take (Int.toNat (((List.length s) : Nat) : Int) - Int.toNat j_) (List.drop (0 + Int.toNat j_) s))) s)))))]) (H0 := [(oq, ⟨5, List.map (fun t_ : PV => t_) (List.take ((Int.toNat i - Int.toNat (0 : Int)) + List.length (List.take (Int.toNat (((List.length s) : Nat) : Int) - Int.toNat j_) (List.drop (0 + Int.toNat j_) s))) (List.take (0 + Int.toNat ((((Int.toNat i - Int.toNat (0 : Int)) + List.length (List.take (Int.toNat (((List.length s) : Nat) : Int) - Int.toNat j_) (List.drop (0 + Int.toNat j_) s))) : Nat) : Int)) (List.take (Int.toNat i - Int.toNat (0 : Int)) s ++ (List.take (Int.toNat (((List.length s) : Nat) : Int) - Int.toNat j_) (List.drop (0 + Int.toNat j_) s)) ++ List.drop ((Int.toNat i - Int.toNat (0 : Int)) + List.length (List.take (Int.toNat (((List.length s) : Nat) : Int) - Int.toNat j_) (List.drop (0 + Int.toNat j_) s))) s) ++ List.replicate (Int.toNat (s.length : Int) - Int.toNat ((((Int.toNat i - Int.toNat (0 : Int)) + List.length (List.take (Int.toNat (((List.length s) : Nat) : Int) - Int.toNat j_) (List.drop (0 + Int.toNat j_) s))) : Nat) : Int)) (PV.agg [.int .i64 (0 : Int), .int .i64 (0 : Int), .int .i64 (0 : Int), .nils, .int .i64 (0 : Int)]) ++ List.drop ((0 + Int.toNat ((((Int.toNat i - Int.toNat (0 : Int)) + List.length (List.take (Int.toNat (((List.length s) : Nat) : Int) - Int.toNat j_) (List.drop (0 + Int.toNat j_) s))) : Nat) : Int)) + (Int.toNat (s.length : Int) - Int.toNat ((((Int.toNat i - Int.toNat (0 : Int)) + List.length (List.take (Int.toNat (((List.length s) : Nat) : Int) - Int.toNat j_) (List.drop (0 + Int.toNat j_) s))) : Nat) : Int))) (List.take (Int.toNat i - Int.toNat (0 : Int)) s ++ (List.take (Int.toNat (((List.length s) : Nat) : Int) - Int.toNat j_) (List.drop (0 + Int.toNat j_) s)) ++ List.drop ((Int.toNat i - Int.toNat (0 : Int)) + List.length (List.take (Int.toNat (((List.length s) : Nat) : Int) - Int.toNat j_) (List.drop (0 + Int.toNat j_) s))) s)))⟩)]) rfl (⟨_, _, rfl, rfl, rfl⟩) (⟨_, _, rfl, rfl, rfl⟩) rfl ?_
   refine V.ret ?_
   obtain rfl := Option.some.inj hm0
   exact ⟨_, _, ⟨_, _, rfl, rfl, rfl⟩, List.Sublist.refl _, some oq, (fun e => by cases e), rfl, rfl⟩

theorem ok_slices_Delete_impl_Carton_impl_Carton {rn : Nat} {oq : Option Nat} {s : List PV} {i : Int} {j_ : Int} {r : List PV} (h : delM (PV.agg [.int .i64 (0 : Int), .int .i64 (0 : Int), .int .i64 (0 : Int), .nils, .int .i64 (0 : Int)]) s i j_ = some r) (hoq : oq = none → s = []) : Does Try.prog 80 [optS 5 oq (List.length s), .int .i64 i, .int .i64 j_] (optH 5 oq s) rn (fun x H => ∃ (ob0_ : Option Nat), (ob0_ = none → r = []) ∧ x = optS 5 ob0_ (List.length r) ∧ H = optH 5 ob0_ r) := by
 have q := okr_slices_Delete_impl_Carton_impl_Carton h hoq (rn := rn)
 simp only [List.map_id'] at q
 exact q

theorem ok_impl_MergeCartons {ρ0 rn : Nat} {list : List Carton} {a : Int} {b_ : Int} {r : List Carton × Bool} (h : M.impl_MergeCartons list a b_ = some r) : Does Try.prog 38 [.vl ρ0 5 (List.map (encCarton ρ0) list), .int .i64 a, .int .i64 b_] [] rn (fun x H => ∃ (ob0_ : Option Nat) (ts_ : List PV) (os_ : List (Nat × Obj')), (ob0_ = none → r.1 = []) ∧ (Deep 1 (fun c_ : Carton => List.map encInt c_.Files) ts_ os_ r.1) ∧ x = .tup [optS 5 ob0_ (List.length r.1), .bool r.2] ∧ H = (optH 5 ob0_ (deepC cellCarton ts_ r.1) ++ os_)) := by
 have hm0 := h; clear h; unfold M.impl_MergeCartons at hm0
 try dsimp only at hm0
 refine Does.intro (N := 78) Try.func38 rfl rfl rfl rfl ?_
 intro w0 S0
 refine V.seq ?_
 refine V.region ?_
 refine VO.cons rfl (V1.assign rfl rfl rfl lt0 ?_)
 refine VO.cons rfl (V1.assign rfl rfl rfl lt0 ?_)
 refine VO.nil ?_
 refine V.seq ?_
 replace hm0 := bindO hm0; rcases hm0 with ⟨y0, hh0, hm0⟩
 replace hm0 := bindO hm0; rcases hm0 with ⟨y1, hh1, hm0⟩
 refine V.region ?_
 refine VO.cons rfl (V1.move rfl rfl rfl lt0 ?_)
 refine VO.cons rfl (V1.move rfl rfl rfl lt0 ?_)
 refine VO.cons rfl (V1.call rfl rfl rfl cok_65 rfl (ok_impl_cartonAt hh0) rfl lt0 ?_)
 rintro _ _ ⟨rfl, rfl⟩
 refine VO.cons rfl (V1.move rfl rfl rfl lt0 ?_)
 refine VO.cons rfl (V1.move rfl rfl rfl lt0 ?_)
 refine VO.cons rfl (V1.call rfl rfl rfl cok_65 rfl (ok_impl_cartonAt hh1) rfl lt0 ?_)
 rintro _ _ ⟨rfl, rfl⟩
 refine VO.cons rfl (V1.assign rfl rfl rfl lt0 ?_)
 refine VO.cons rfl (V1.assign rfl rfl rfl lt0 ?_)
 refine VO.nil ?_
 refine V.keep 78 [0, 8, 9] [] (E0 := [(0, .vl ρ0 5 (List.map (encCarton ρ0) list)), (8, .int .i64 y0), (9, .int .i64 y1)]) (H0 := []) rfl (⟨_, _, rfl, rfl, ⟨_, _, rfl, rfl, ⟨_, _, rfl, rfl, rfl⟩⟩⟩) (rfl) rfl ?_
 refine V.seq ?_
 refine V.seq ?_
 replace hm0 := bindO hm0; rcases hm0 with ⟨y2, hh2, hm0⟩
 refine V.region ?_
 refine VO.cons rfl (V1.move rfl rfl rfl lt0 ?_)
 refine VO.cons rfl (V1.call rfl rfl rfl cok_45 rfl (ok_impl_AreCartons hh2) rfl lt0 ?_)
 rintro _ _ ⟨rfl, rfl⟩
 refine VO.cons rfl (V1.not rfl rfl rfl lt0 ?_)
 refine VO.cons rfl (V1.move rfl rfl rfl lt0 ?_)
 apply VO.or (n := 2) rfl rfl rfl rfl rfl rfl lt0 (.none rfl)
 ·
  intro hg0
  refine VO.step (.some rfl rfl rfl) (V1.move rfl rfl rfl lt0 ?_)
  refine VO.step (.some rfl rfl rfl) (V1.int rfl rfl rfl rfl rfl lt0 ?_)
  exact VO.nil ⟨rfl, rfl, rfl, rfl, .inr ⟨rfl, .inr ⟨rfl, .inr ⟨rfl, .inl rfl⟩⟩⟩⟩
 refine VO.cons rfl (V1.move rfl rfl rfl lt0 ?_)
 apply VO.or (n := 2) rfl rfl rfl rfl rfl rfl lt0 (.none rfl)
 ·
  intro hg1
  refine VO.step (.some rfl rfl rfl) (V1.move rfl rfl rfl lt0 ?_)
  refine VO.step (.some rfl rfl rfl) (V1.int rfl rfl rfl rfl rfl lt0 ?_)
  exact VO.nil ⟨rfl, rfl, rfl, rfl, .inr ⟨rfl, .inr ⟨rfl, .inr ⟨rfl, .inl rfl⟩⟩⟩⟩
 refine VO.cons rfl (V1.move rfl rfl rfl lt0 ?_)
 apply VO.or (n := 3) rfl rfl rfl rfl rfl rfl lt0 (.none rfl)
 ·
  intro hg2
  refine VO.step (.some rfl rfl rfl) (V1.move rfl rfl rfl lt0 ?_)
  refine VO.step (.some rfl rfl rfl) (V1.move rfl rfl rfl lt0 ?_)
  refine VO.step (.some rfl rfl rfl) (V1.int rfl rfl rfl rfl rfl lt0 ?_)
  exact VO.nil ⟨rfl, rfl, rfl, rfl, .inr ⟨rfl, .inr ⟨rfl, .inr ⟨rfl, .inr ⟨rfl, .inl rfl⟩⟩⟩⟩⟩
 refine VO.nil ?_
 refine V.keep 78 [0, 8, 9, 32] [] (E0 := [(0, .vl ρ0 5 (List.map (encCarton ρ0) list)), (8, .int .i64 y0), (9, .int .i64 y1), (32, .bool ((((!y2) || (decide (y0 < (0 : Int)))) || (decide (y1 < (0 : Int)))) || (y0 == y1)))]) (H0 := []) rfl (⟨_, _, rfl, rfl, ⟨_, _, rfl, rfl, ⟨_, _, rfl, rfl, ⟨_, _, rfl, rfl, rfl⟩⟩⟩⟩) (rfl) rfl ?_
 refine V.cond rfl (fun hc0 => ?_) (fun hc0 => ?_)
 ·
  replace hm0 := cond_t hc0 hm0
  refine V.seq ?_
  refine V.region ?_
  refine VO.cons rfl (V1.assign rfl rfl rfl lt0 ?_)
  refine VO.cons rfl (V1.assign rfl rfl rfl lt0 ?_)
  refine VO.nil ?_
  refine V.keep 78 [6, 7] [] (E0 := [(6, .nils), (7, .bool false)]) (H0 := []) rfl (⟨_, _, rfl, rfl, ⟨_, _, rfl, rfl, rfl⟩⟩) (rfl) rfl ?_
  refine V.ret ?_
  obtain rfl := Option.some.inj hm0
  exact ⟨_, _, ⟨_, _, rfl, rfl, ⟨_, _, rfl, rfl, rfl⟩⟩, List.Sublist.refl _, none, [], [], (fun _ => rfl), (Deep.ofNil rfl), rfl, rfl⟩
 ·
  replace hm0 := cond_f hc0 hm0
  refine V.skip ?_
  refine V.seq ?_
  replace hm0 := bindO hm0; rcases hm0 with ⟨y3, hh3, hm0⟩
  refine V.region ?_
  refine VO.cons rfl (V1.move rfl rfl rfl lt0 ?_)
  refine VO.cons rfl (V1.permK (V1.call rfl rfl rfl cok_66 rfl (ok_impl_copyCartons hh3) rfl lt0 ?_))
  rintro _ _ ⟨ob0, ts_105, os_105, hob0, hd_105, rfl, rfl⟩
  refine ⟨_, ?_, Keeps.perm (optH 5 ob0 (deepC cellCarton ts_105 y3) ++ (([] : List (Nat × Obj')) ++ os_105)) (permDeepO1 (o := optH 5 ob0 (deepC cellCarton ts_105 y3)) (os := os_105) (A := []))⟩
  refine VO.cons rfl (V1.assign rfl rfl rfl lt0 ?_)
  refine VO.nil ?_
  rcases ob0 with _ | ob0
  ·
   obtain ⟨rfl, rfl⟩ := Deep.nil (hob0 rfl) hd_105
   refine V.seq ?_
   replace hm0 := asrt_some hm0; rcases hm0 with ⟨hh4, hm0⟩
   exact (nilsNo (hob0 rfl) hh4).elim
  ·
   refine V.seq ?_
   replace hm0 := asrt_some hm0; rcases hm0 with ⟨hh4, hm0⟩
   replace hm0 := asrt_some hm0; rcases hm0 with ⟨hh5, hm0⟩
   replace hm0 := asrt_some hm0; rcases hm0 with ⟨hh6, hm0⟩
   obtain ⟨ob_153, os1_153, os2_153, hob_153, ht_153, hos_153, hp_153, hs_153⟩ := Deep.focusM (f := encInt) (g := (fun c_ : Carton => c_.Files)) (Int.toNat y0) hd_105 (by simpa using natLt hh4.1 hh4.2)
   refine V.weakenK (Keeps.holeBack (A := [(ob0, ⟨5, deepC cellCarton ts_105 y3⟩)]) (os1 := os1_153) (os2 := os2_153) (X := optH 1 ob_153 (List.map encInt ((y3.getD (Int.toNat y0) default).Files))) (appEq (A := [(ob0, ⟨5, deepC cellCarton ts_105 y3⟩)]) hos_153)) ?_
   obtain ⟨ob_154, hob_154, ht_154, hm_154⟩ := Deep.other (f := encInt) (g := (fun c_ : Carton => c_.Files)) (k := Int.toNat y1) rfl hp_153 hh6 (by simpa using natLt hh5.1 hh5.2)
   replace hm0 := asrt_some hm0; rcases hm0 with ⟨hh7, hm0⟩
   replace hm0 := asrt_some hm0; rcases hm0 with ⟨hh8, hm0⟩
   replace hm0 := asrt_some hm0; rcases hm0 with ⟨hh9, hm0⟩
   replace hm0 := asrt_some hm0; rcases hm0 with ⟨hh10, hm0⟩
   replace hm0 := bindO hm0; rcases hm0 with ⟨j0, hm1, hm0⟩
   refine V.cutT (D := (List Carton) × (List PV × (List (Nat × Obj')))) (fun ⟨out_, ⟨ts_170, os_170⟩⟩ => ⟨78, [(10, .sref ob0 5 0 (List.length out_)), (8, .int .i64 y0), (9, .int .i64 y1)], ([(ob0, ⟨5, deepC cellCarton ts_170 out_⟩)]) ++ os_170⟩) (fun ⟨out_, ⟨ts_170, os_170⟩⟩ => (out_ = j0) ∧ Deep 1 (fun c_ : Carton => List.map encInt c_.Files) ts_170 os_170 out_) ?_ ?_
   ·
    refine V.regionS [] 78 13 [⟨[(10, none)], false⟩, ⟨[(8, none)], false⟩, ⟨[(10, none)], false⟩, ⟨[(8, none)], false⟩, ⟨[(37, some 2), (38, some 3)], false⟩, ⟨[(39, some 4)], false⟩, ⟨[(40, some 5)], true⟩, ⟨[(10, none)], false⟩, ⟨[(9, none)], false⟩, ⟨[(42, some 7), (43, some 8)], false⟩, ⟨[(44, some 9)], false⟩, ⟨[(45, some 10)], true⟩, ⟨[(41, some 6), (46, some 11)], true⟩] [(8, none), (9, none), (10, none), (35, some 0), (36, some 1), (47, some 12)] 3 (⟨_, rfl, ⟨_, rfl, ⟨_, rfl, ⟨_, rfl, ⟨_, rfl, ⟨_, rfl, ⟨_, rfl, ⟨_, rfl, ⟨_, rfl, ⟨_, rfl, ⟨_, rfl, ⟨_, rfl, ⟨_, rfl, ⟨rfl, rfl⟩⟩⟩⟩⟩⟩⟩⟩⟩⟩⟩⟩⟩⟩) mixed_orders rfl (by decide +kernel) ?_
    refine WalkP.step (p := ?pv172) 0 rfl rfl rfl rfl rfl (⟨_, _, rfl, rfl, rfl⟩) ?hv172 ?rest172
    case hv172 =>
     intro E1 H1 hI1
     refine (V1.move rfl rfl rfl lt0 ?_)
     exact rfl
    refine WalkP.step (p := ?pv173) 1 rfl rfl rfl rfl rfl (⟨_, _, rfl, rfl, rfl⟩) ?hv173 ?rest173
    case hv173 =>
     intro E1 H1 hI1
     refine (V1.move rfl rfl rfl lt0 ?_)
     exact rfl
    refine WalkP.step (p := ?pv174) 2 rfl rfl rfl rfl rfl (⟨_, _, rfl, rfl, rfl⟩) ?hv174 ?rest174
    case hv174 =>
     intro E1 H1 hI1
     refine (V1.move rfl rfl rfl lt0 ?_)
     exact rfl
    refine WalkP.step (p := ?pv175) 3 rfl rfl rfl rfl rfl (⟨_, _, rfl, rfl, rfl⟩) ?hv175 ?rest175
    case hv175 =>
     intro E1 H1 hI1
     refine (V1.move rfl rfl rfl lt0 ?_)
     exact rfl
    refine WalkP.step (p := ?pv176) 4 rfl rfl rfl rfl rfl (⟨_, _, rfl, rfl, ⟨_, _, rfl, rfl, rfl⟩⟩) ?hv176 ?rest176
    case hv176 =>
     intro E1 H1 hI1
     refine (V1.indexSr rfl rfl esz_39 rfl rfl hh7 lt0 ?_)
     exact rfl
    refine WalkP.step (p := ?pv177) 5 rfl rfl rfl rfl rfl (⟨_, _, rfl, rfl, rfl⟩) ?hv177 ?rest177
    case hv177 =>
     intro E1 H1 hI1
     refine (V1.fieldRef rfl rfl fo_67_3 rfl lt0 ?_)
     exact rfl
    refine WalkP.step (p := ?pv178) 7 rfl rfl rfl rfl rfl (⟨_, _, rfl, rfl, rfl⟩) ?hv178 ?rest178
    case hv178 =>
     intro E1 H1 hI1
     refine (V1.move rfl rfl rfl lt0 ?_)
     exact rfl
    refine WalkP.step (p := ?pv179) 8 rfl rfl rfl rfl rfl (⟨_, _, rfl, rfl, rfl⟩) ?hv179 ?rest179
    case hv179 =>
     intro E1 H1 hI1
     refine (V1.move rfl rfl rfl lt0 ?_)
     exact rfl
    refine WalkP.step (p := ?pv180) 9 rfl rfl rfl rfl rfl (⟨_, _, rfl, rfl, ⟨_, _, rfl, rfl, rfl⟩⟩) ?hv180 ?rest180
    case hv180 =>
     intro E1 H1 hI1
     refine (V1.indexSr rfl rfl esz_39 rfl rfl hh8 lt0 ?_)
     exact rfl
    refine WalkP.step (p := ?pv181) 10 rfl rfl rfl rfl rfl (⟨_, _, rfl, rfl, rfl⟩) ?hv181 ?rest181
    case hv181 =>
     intro E1 H1 hI1
     refine (V1.fieldRef rfl rfl fo_67_3 rfl lt0 ?_)
     exact rfl
    refine WalkP.nil ?_
    refine NodeS.branch [6, 11] inNil rfl rfl rfl ⟨?_, ?_, trivial⟩
    ·
     refine ⟨_, _, _, _, rfl, rfl, rfl, (⟨_, _, rfl, rfl, rfl⟩), fun E1 => ?_⟩
     refine (V1.loadKnown (inn := (fun c_ : Carton => List.map encInt c_.Files)) (cell := cellCarton) (ts := ts_105) (xs := y3) (k := 0) cokCarton rfl rfl tyk_36 rfl rfl (Deep.length hd_105) (by simpa using natLt hh7.1 hh7.2) ht_153 optS_cells lt0 ?_)
     refine ⟨_, _, rfl, ?_⟩
     refine WalkP.nil ?_
     refine NodeS.branch [11] inNil rfl rfl rfl ⟨?_, trivial⟩
     ·
      refine ⟨_, _, _, _, rfl, rfl, rfl, (⟨_, _, rfl, rfl, rfl⟩), fun E1 => ?_⟩
      refine (V1.loadKnown (inn := (fun c_ : Carton => List.map encInt c_.Files)) (cell := cellCarton) (ts := ts_105) (xs := y3) (k := 0) cokCarton rfl rfl tyk_36 rfl rfl (Deep.length hd_105) (by simpa using natLt hh8.1 hh8.2) ht_154 optS_cells lt0 ?_)
      refine ⟨_, _, rfl, ?_⟩
      refine WalkP.nil ?_
      refine NodeS.branch [12] inNil rfl rfl rfl ⟨?_, trivial⟩
      ·
       refine ⟨_, _, _, _, rfl, rfl, rfl, (⟨_, _, rfl, rfl, ⟨_, _, rfl, rfl, rfl⟩⟩), fun E1 => ?_⟩
       refine (V1.permK (V1.appendOO (f := encInt) (l := (y3.getD (Int.toNat y0) default).Files) (m := (y3.getD (Int.toNat y1) default).Files) (([(ob0, ⟨5, deepC cellCarton ts_105 y3⟩)] : List (Nat × Obj')) ++ (os1_153 ++ os2_153)) hob_153 rfl rfl rfl rfl rfl esz_36 eby_36 zk_3 rfl rfl rfl rfl (SrcOf.optMem (f := encInt) (l := (y3.getD (Int.toNat y1) default).Files) hob_154 (fun p hp => memMid (A := [(ob0, ⟨5, deepC cellCarton ts_105 y3⟩)]) (T := (os1_153 ++ os2_153)) (X := optH 1 ob_153 (List.map encInt ((y3.getD (Int.toNat y0) default).Files))) (hm_154 p hp) rfl) isl_36) hh9 lt0 ?_))
       intro ob2 hob2
       refine ⟨_, ?_, Keeps.optBack (n := 1) (ob := ob2) (xs := List.map encInt (((y3.getD (Int.toNat y0) default).Files) ++ ((y3.getD (Int.toNat y1) default).Files))) (H1 := []) (H2 := (([(ob0, ⟨5, deepC cellCarton ts_105 y3⟩)] : List (Nat × Obj')) ++ (os1_153 ++ os2_153))) rfl⟩
       refine ⟨_, _, rfl, ?_⟩
       refine WalkP.nil ?_
       refine NodeS.fin inNil rfl rfl rfl (⟨_, _, rfl, rfl, ⟨_, _, rfl, rfl, ⟨_, _, rfl, rfl, ⟨_, _, rfl, rfl, ⟨_, _, rfl, rfl, ⟨_, _, rfl, rfl, rfl⟩⟩⟩⟩⟩⟩) ?_
       refine VO.cons rfl (V1.indexSr rfl rfl esz_39 rfl rfl hh10 lt0 ?_)
       refine VO.cons rfl (V1.fieldRef rfl rfl fo_67_3 rfl lt0 ?_)
       refine VO.cons rfl (V1.storeDeepIn (inn := (fun c_ : Carton => List.map encInt c_.Files)) (cell := cellCarton) (ts := ts_105) (xs := y3) (k := 0) cokCarton (⟨(y3.getD (Int.toNat y0) default).Id, (y3.getD (Int.toNat y0) default).Shelf, (y3.getD (Int.toNat y0) default).Room, (((y3.getD (Int.toNat y0) default).Files) ++ ((y3.getD (Int.toNat y1) default).Files)), (y3.getD (Int.toNat y0) default).Thick⟩ : Carton) rfl rfl tyk_36 rfl rfl (Deep.length hd_105) (by rw [ht_153]; cases ob_153 <;> exact ⟨rfl, rfl⟩) (by simpa using natLt hh10.1 hh10.2) rfl (by cases ob2 <;> rfl) (by cases ob2 <;> rfl) rfl rfl ?_)
       refine VO.weakenK (Keeps.fillDeep (A := [(ob0, ⟨5, deepC cellCarton (List.set ts_105 (Int.toNat y0) (optS 1 ob2 (List.length (((y3.getD (Int.toNat y0) default).Files) ++ ((y3.getD (Int.toNat y1) default).Files))))) (y3.set (Int.toNat y0) (⟨(y3.getD (Int.toNat y0) default).Id, (y3.getD (Int.toNat y0) default).Shelf, (y3.getD (Int.toNat y0) default).Room, (((y3.getD (Int.toNat y0) default).Files) ++ ((y3.getD (Int.toNat y1) default).Files)), (y3.getD (Int.toNat y0) default).Thick⟩ : Carton))⟩)]) (os1 := os1_153) (os2 := os2_153) (X := optH 1 ob2 (List.map encInt (((y3.getD (Int.toNat y0) default).Files) ++ ((y3.getD (Int.toNat y1) default).Files)))) rfl) ?_
       have hd_153n := hp_153 (optS 1 ob2 (List.length (((y3.getD (Int.toNat y0) default).Files) ++ ((y3.getD (Int.toNat y1) default).Files)))) (optH 1 ob2 (List.map encInt (((y3.getD (Int.toNat y0) default).Files) ++ ((y3.getD (Int.toNat y1) default).Files)))) (⟨(y3.getD (Int.toNat y0) default).Id, (y3.getD (Int.toNat y0) default).Shelf, (y3.getD (Int.toNat y0) default).Room, (((y3.getD (Int.toNat y0) default).Files) ++ ((y3.getD (Int.toNat y1) default).Files)), (y3.getD (Int.toNat y0) default).Thick⟩ : Carton) (Deep1.opt (by simp) (fun e_ => by rw [hob2 e_]; rfl))
       refine VO.weakenK (Keeps.say 10 (y := .sref ob0 5 0 (List.length (y3.set (Int.toNat y0) (⟨(y3.getD (Int.toNat y0) default).Id, (y3.getD (Int.toNat y0) default).Shelf, (y3.getD (Int.toNat y0) default).Room, (((y3.getD (Int.toNat y0) default).Files) ++ ((y3.getD (Int.toNat y1) default).Files)), (y3.getD (Int.toNat y0) default).Thick⟩ : Carton)))) rfl (by simp [optS])) ?_
       refine VO.nil ?_
       exact ⟨((y3.set (Int.toNat y0) (⟨(y3.getD (Int.toNat y0) default).Id, (y3.getD (Int.toNat y0) default).Shelf, (y3.getD (Int.toNat y0) default).Room, (((y3.getD (Int.toNat y0) default).Files) ++ ((y3.getD (Int.toNat y1) default).Files)), (y3.getD (Int.toNat y0) default).Thick⟩ : Carton)), ((List.set ts_105 (Int.toNat y0) (optS 1 ob2 (List.length (((y3.getD (Int.toNat y0) default).Files) ++ ((y3.getD (Int.toNat y1) default).Files))))), (os1_153 ++ (optH 1 ob2 (List.map encInt (((y3.getD (Int.toNat y0) default).Files) ++ ((y3.getD (Int.toNat y1) default).Files))) ++ os2_153)))), ⟨Option.some.inj hm1, hd_153n⟩, Keeps.mkT (A := [(ob0, ⟨5, deepC cellCarton (List.set ts_105 (Int.toNat y0) (optS 1 ob2 (List.length (((y3.getD (Int.toNat y0) default).Files) ++ ((y3.getD (Int.toNat y1) default).Files))))) (y3.set (Int.toNat y0) (⟨(y3.getD (Int.toNat y0) default).Id, (y3.getD (Int.toNat y0) default).Shelf, (y3.getD (Int.toNat y0) default).Room, (((y3.getD (Int.toNat y0) default).Files) ++ ((y3.getD (Int.toNat y1) default).Files)), (y3.getD (Int.toNat y0) default).Thick⟩ : Carton))⟩)]) (T := (os1_153 ++ (optH 1 ob2 (List.map encInt (((y3.getD (Int.toNat y0) default).Files) ++ ((y3.getD (Int.toNat y1) default).Files))) ++ os2_153))) (T' := (os1_153 ++ (optH 1 ob2 (List.map encInt (((y3.getD (Int.toNat y0) default).Files) ++ ((y3.getD (Int.toNat y1) default).Files))) ++ os2_153))) (H := [(ob0, ⟨5, deepC cellCarton (List.set ts_105 (Int.toNat y0) (optS 1 ob2 (List.length (((y3.getD (Int.toNat y0) default).Files) ++ ((y3.getD (Int.toNat y1) default).Files))))) (y3.set (Int.toNat y0) (⟨(y3.getD (Int.toNat y0) default).Id, (y3.getD (Int.toNat y0) default).Shelf, (y3.getD (Int.toNat y0) default).Room, (((y3.getD (Int.toNat y0) default).Files) ++ ((y3.getD (Int.toNat y1) default).Files)), (y3.getD (Int.toNat y0) default).Thick⟩ : Carton))⟩)]) (ks := [0]) rfl (by exact ⟨(someSref (by simp)), rfl, rfl, trivial⟩) rfl (by exact (⟨_, _, rfl, rfl, rfl⟩)) rfl (List.Sublist.refl _)⟩
    ·
     refine ⟨_, _, _, _, rfl, rfl, rfl, (⟨_, _, rfl, rfl, rfl⟩), fun E1 => ?_⟩
     refine (V1.loadKnown (inn := (fun c_ : Carton => List.map encInt c_.Files)) (cell := cellCarton) (ts := ts_105) (xs := y3) (k := 0) cokCarton rfl rfl tyk_36 rfl rfl (Deep.length hd_105) (by simpa using natLt hh8.1 hh8.2) ht_154 optS_cells lt0 ?_)
     refine ⟨_, _, rfl, ?_⟩
     refine WalkP.nil ?_
     refine NodeS.branch [6] inNil rfl rfl rfl ⟨?_, trivial⟩
     ·
      refine ⟨_, _, _, _, rfl, rfl, rfl, (⟨_, _, rfl, rfl, rfl⟩), fun E1 => ?_⟩
      refine (V1.loadKnown (inn := (fun c_ : Carton => List.map encInt c_.Files)) (cell := cellCarton) (ts := ts_105) (xs := y3) (k := 0) cokCarton rfl rfl tyk_36 rfl rfl (Deep.length hd_105) (by simpa using natLt hh7.1 hh7.2) ht_153 optS_cells lt0 ?_)
      refine ⟨_, _, rfl, ?_⟩
      refine WalkP.nil ?_
      refine NodeS.branch [12] inNil rfl rfl rfl ⟨?_, trivial⟩
      ·
       refine ⟨_, _, _, _, rfl, rfl, rfl, (⟨_, _, rfl, rfl, ⟨_, _, rfl, rfl, rfl⟩⟩), fun E1 => ?_⟩
       refine (V1.permK (V1.appendOO (f := encInt) (l := (y3.getD (Int.toNat y0) default).Files) (m := (y3.getD (Int.toNat y1) default).Files) (([(ob0, ⟨5, deepC cellCarton ts_105 y3⟩)] : List (Nat × Obj')) ++ (os1_153 ++ os2_153)) hob_153 rfl rfl rfl rfl rfl esz_36 eby_36 zk_3 rfl rfl rfl rfl (SrcOf.optMem (f := encInt) (l := (y3.getD (Int.toNat y1) default).Files) hob_154 (fun p hp => memMid (A := [(ob0, ⟨5, deepC cellCarton ts_105 y3⟩)]) (T := (os1_153 ++ os2_153)) (X := optH 1 ob_153 (List.map encInt ((y3.getD (Int.toNat y0) default).Files))) (hm_154 p hp) rfl) isl_36) hh9 lt0 ?_))
       intro ob3 hob3
       refine ⟨_, ?_, Keeps.optBack (n := 1) (ob := ob3) (xs := List.map encInt (((y3.getD (Int.toNat y0) default).Files) ++ ((y3.getD (Int.toNat y1) default).Files))) (H1 := []) (H2 := (([(ob0, ⟨5, deepC cellCarton ts_105 y3⟩)] : List (Nat × Obj')) ++ (os1_153 ++ os2_153))) rfl⟩
       refine ⟨_, _, rfl, ?_⟩
       refine WalkP.nil ?_
       refine NodeS.fin inNil rfl rfl rfl (⟨_, _, rfl, rfl, ⟨_, _, rfl, rfl, ⟨_, _, rfl, rfl, ⟨_, _, rfl, rfl, ⟨_, _, rfl, rfl, ⟨_, _, rfl, rfl, rfl⟩⟩⟩⟩⟩⟩) ?_
       refine VO.cons rfl (V1.indexSr rfl rfl esz_39 rfl rfl hh10 lt0 ?_)
       refine VO.cons rfl (V1.fieldRef rfl rfl fo_67_3 rfl lt0 ?_)
       refine VO.cons rfl (V1.storeDeepIn (inn := (fun c_ : Carton => List.map encInt c_.Files)) (cell := cellCarton) (ts := ts_105) (xs := y3) (k := 0) cokCarton (⟨(y3.getD (Int.toNat y0) default).Id, (y3.getD (Int.toNat y0) default).Shelf, (y3.getD (Int.toNat y0) default).Room, (((y3.getD (Int.toNat y0) default).Files) ++ ((y3.getD (Int.toNat y1) default).Files)), (y3.getD (Int.toNat y0) default).Thick⟩ : Carton) rfl rfl tyk_36 rfl rfl (Deep.length hd_105) (by rw [ht_153]; cases ob_153 <;> exact ⟨rfl, rfl⟩) (by simpa using natLt hh10.1 hh10.2) rfl (by cases ob3 <;> rfl) (by cases ob3 <;> rfl) rfl rfl ?_)
       refine VO.weakenK (Keeps.fillDeep (A := [(ob0, ⟨5, deepC cellCarton (List.set ts_105 (Int.toNat y0) (optS 1 ob3 (List.length (((y3.getD (Int.toNat y0) default).Files) ++ ((y3.getD (Int.toNat y1) default).Files))))) (y3.set (Int.toNat y0) (⟨(y3.getD (Int.toNat y0) default).Id, (y3.getD (Int.toNat y0) default).Shelf, (y3.getD (Int.toNat y0) default).Room, (((y3.getD (Int.toNat y0) default).Files) ++ ((y3.getD (Int.toNat y1) default).Files)), (y3.getD (Int.toNat y0) default).Thick⟩ : Carton))⟩)]) (os1 := os1_153) (os2 := os2_153) (X := optH 1 ob3 (List.map encInt (((y3.getD (Int.toNat y0) default).Files) ++ ((y3.getD (Int.toNat y1) default).Files)))) rfl) ?_
       have hd_153n := hp_153 (optS 1 ob3 (List.length (((y3.getD (Int.toNat y0) default).Files) ++ ((y3.getD (Int.toNat y1) default).Files)))) (optH 1 ob3 (List.map encInt (((y3.getD (Int.toNat y0) default).Files) ++ ((y3.getD (Int.toNat y1) default).Files)))) (⟨(y3.getD (Int.toNat y0) default).Id, (y3.getD (Int.toNat y0) default).Shelf, (y3.getD (Int.toNat y0) default).Room, (((y3.getD (Int.toNat y0) default).Files) ++ ((y3.getD (Int.toNat y1) default).Files)), (y3.getD (Int.toNat y0) default).Thick⟩ : Carton) (Deep1.opt (by simp) (fun e_ => by rw [hob3 e_]; rfl))
       refine VO.weakenK (Keeps.say 10 (y := .sref ob0 5 0 (List.length (y3.set (Int.toNat y0) (⟨(y3.getD (Int.toNat y0) default).Id, (y3.getD (Int.toNat y0) default).Shelf, (y3.getD (Int.toNat y0) default).Room, (((y3.getD (Int.toNat y0) default).Files) ++ ((y3.getD (Int.toNat y1) default).Files)), (y3.getD (Int.toNat y0) default).Thick⟩ : Carton)))) rfl (by simp [optS])) ?_
       refine VO.nil ?_
       exact ⟨((y3.set (Int.toNat y0) (⟨(y3.getD (Int.toNat y0) default).Id, (y3.getD (Int.toNat y0) default).Shelf, (y3.getD (Int.toNat y0) default).Room, (((y3.getD (Int.toNat y0) default).Files) ++ ((y3.getD (Int.toNat y1) default).Files)), (y3.getD (Int.toNat y0) default).Thick⟩ : Carton)), ((List.set ts_105 (Int.toNat y0) (optS 1 ob3 (List.length (((y3.getD (Int.toNat y0) default).Files) ++ ((y3.getD (Int.toNat y1) default).Files))))), (os1_153 ++ (optH 1 ob3 (List.map encInt (((y3.getD (Int.toNat y0) default).Files) ++ ((y3.getD (Int.toNat y1) default).Files))) ++ os2_153)))), ⟨Option.some.inj hm1, hd_153n⟩, Keeps.mkT (A := [(ob0, ⟨5, deepC cellCarton (List.set ts_105 (Int.toNat y0) (optS 1 ob3 (List.length (((y3.getD (Int.toNat y0) default).Files) ++ ((y3.getD (Int.toNat y1) default).Files))))) (y3.set (Int.toNat y0) (⟨(y3.getD (Int.toNat y0) default).Id, (y3.getD (Int.toNat y0) default).Shelf, (y3.getD (Int.toNat y0) default).Room, (((y3.getD (Int.toNat y0) default).Files) ++ ((y3.getD (Int.toNat y1) default).Files)), (y3.getD (Int.toNat y0) default).Thick⟩ : Carton))⟩)]) (T := (os1_153 ++ (optH 1 ob3 (List.map encInt (((y3.getD (Int.toNat y0) default).Files) ++ ((y3.getD (Int.toNat y1) default).Files))) ++ os2_153))) (T' := (os1_153 ++ (optH 1 ob3 (List.map encInt (((y3.getD (Int.toNat y0) default).Files) ++ ((y3.getD (Int.toNat y1) default).Files))) ++ os2_153))) (H := [(ob0, ⟨5, deepC cellCarton (List.set ts_105 (Int.toNat y0) (optS 1 ob3 (List.length (((y3.getD (Int.toNat y0) default).Files) ++ ((y3.getD (Int.toNat y1) default).Files))))) (y3.set (Int.toNat y0) (⟨(y3.getD (Int.toNat y0) default).Id, (y3.getD (Int.toNat y0) default).Shelf, (y3.getD (Int.toNat y0) default).Room, (((y3.getD (Int.toNat y0) default).Files) ++ ((y3.getD (Int.toNat y1) default).Files)), (y3.getD (Int.toNat y0) default).Thick⟩ : Carton))⟩)]) (ks := [0]) rfl (by exact ⟨(someSref (by simp)), rfl, rfl, trivial⟩) rfl (by exact (⟨_, _, rfl, rfl, rfl⟩)) rfl (List.Sublist.refl _)⟩
   ·
    rintro ⟨out_, ⟨ts_170, os_170⟩⟩ ⟨rfl, hd_170⟩
    try dsimp only at hm0
    refine V.seq ?_
    replace hm0 := asrt_some hm0; rcases hm0 with ⟨hh11, hm0⟩
    replace hm0 := bindO hm0; rcases hm0 with ⟨y4, hh12, hm0⟩
    replace hm0 := asrt_some hm0; rcases hm0 with ⟨hh13, hm0⟩
    refine V.region ?_
    refine VO.cons rfl (V1.move rfl rfl rfl lt0 ?_)
    refine VO.cons rfl (V1.move rfl rfl rfl lt0 ?_)
    refine VO.cons rfl (V1.indexSr rfl rfl esz_39 rfl rfl hh11 lt0 ?_)
    refine VO.cons rfl (V1.fieldRef rfl rfl fo_67_3 rfl lt0 ?_)
    refine VO.cons rfl (V1.loadDeepIn (inn := (fun c_ : Carton => List.map encInt c_.Files)) (cell := cellCarton) (ts := ts_170) (xs := out_) (k := 0) cokCarton rfl rfl tyk_36 rfl rfl hd_170 (by simpa using natLt hh11.1 hh11.2) lt0 ?_)
    obtain ⟨ob_183, os1_183, os2_183, hob_183, ht_183, hos_183, hp_183, hs_183⟩ := Deep.focusM (f := encInt) (g := (fun c_ : Carton => c_.Files)) (Int.toNat y0) hd_170 (by simpa using natLt hh11.1 hh11.2)
    refine VO.weakenK (Keeps.say 54 (y := optS 1 ob_183 (List.length ((out_.getD (Int.toNat y0) default).Files))) rfl ht_183) ?_
    refine VO.cons rfl (V1.callD (A := [(ob0, ⟨5, deepC cellCarton ts_170 out_⟩)]) (os1 := os1_183) (os2 := os2_183) (Hc := optH 1 ob_183 (List.map encInt ((out_.getD (Int.toNat y0) default).Files))) rfl rfl rfl cok_79 rfl (appEq (A := [(ob0, ⟨5, deepC cellCarton ts_170 out_⟩)]) hos_183) (rn + 1) [] [optS 1 ob_183 (List.length ((out_.getD (Int.toNat y0) default).Files))] ⟨_, _, rfl, .same _, rfl⟩ bwNil (ok_slices_Sort_int_int hh12 (oq := ob_183) hob_183) rfl (.inl rfl) lt0 ?_)
    rintro _ _ ⟨rfl, rfl⟩
    have hd_183 := hs_183 (⟨(out_.getD (Int.toNat y0) default).Id, (out_.getD (Int.toNat y0) default).Shelf, (out_.getD (Int.toNat y0) default).Room, y4, (out_.getD (Int.toNat y0) default).Thick⟩ : Carton) hh13
    refine VO.weakenK (Keeps.sayObj 0 (ys := deepC cellCarton ts_170 (out_.set (Int.toNat y0) (⟨(out_.getD (Int.toNat y0) default).Id, (out_.getD (Int.toNat y0) default).Shelf, (out_.getD (Int.toNat y0) default).Room, y4, (out_.getD (Int.toNat y0) default).Thick⟩ : Carton))) rfl (deepC_same (Deep.length hd_170) (fun _ => rfl))) ?_
    refine VO.weakenK (Keeps.say 10 (y := .sref ob0 5 0 (List.length (out_.set (Int.toNat y0) (⟨(out_.getD (Int.toNat y0) default).Id, (out_.getD (Int.toNat y0) default).Shelf, (out_.getD (Int.toNat y0) default).Room, y4, (out_.getD (Int.toNat y0) default).Thick⟩ : Carton)))) rfl (by simp [optS])) ?_
    refine VO.nil ?_
    refine V.seq ?_
    replace hm0 := asrt_some hm0; rcases hm0 with ⟨hh14, hm0⟩
    replace hm0 := asrt_some hm0; rcases hm0 with ⟨hh15, hm0⟩
    replace hm0 := asrt_some hm0; rcases hm0 with ⟨hh16, hm0⟩
    refine V.regionM 78 10 [⟨[(10, none)], [], none⟩, ⟨[(8, none)], [], none⟩, ⟨[(56, some 1), (57, some 0)], [], none⟩, ⟨[(58, some 0)], [], none⟩, ⟨[(59, some 0)], [], none⟩, ⟨[(10, none)], [], none⟩, ⟨[(9, none)], [], none⟩, ⟨[(61, some 1), (62, some 0)], [], none⟩, ⟨[(63, some 0)], [], none⟩, ⟨[(64, some 0)], [], none⟩] [(9, none), (10, none), (56, some 9), (57, some 8), (60, some 5), (65, some 0)] (⟨_, rfl, ⟨_, rfl, ⟨_, rfl, ⟨_, rfl, ⟨_, rfl, ⟨_, rfl, ⟨_, rfl, ⟨_, rfl, ⟨_, rfl, ⟨_, rfl, ⟨rfl, rfl⟩⟩⟩⟩⟩⟩⟩⟩⟩⟩⟩) mixed_orders rfl (by decide +kernel) (fun hck7 => ?_)
    refine VP.step (p := ?pv187) rfl rfl rfl (⟨_, _, rfl, rfl, rfl⟩) ?hv187 ?rest187 hck7
    case hv187 =>
     intro E1
     refine (V1.move rfl rfl rfl lt0 ?_)
     exact rfl
    refine VP.step (p := ?pv188) rfl rfl rfl (⟨_, _, rfl, rfl, rfl⟩) ?hv188 ?rest188 hck7
    case hv188 =>
     intro E1
     refine (V1.move rfl rfl rfl lt0 ?_)
     exact rfl
    refine VP.step (p := ?pv189) rfl rfl rfl (⟨_, _, rfl, rfl, ⟨_, _, rfl, rfl, rfl⟩⟩) ?hv189 ?rest189 hck7
    case hv189 =>
     intro E1
     refine (V1.indexSr rfl rfl esz_39 rfl rfl hh14 lt0 ?_)
     exact rfl
    refine VP.step (p := ?pv190) rfl rfl rfl (⟨_, _, rfl, rfl, rfl⟩) ?hv190 ?rest190 hck7
    case hv190 =>
     intro E1
     refine (V1.fieldRef rfl rfl fo_67_4 rfl lt0 ?_)
     exact rfl
    refine VP.step (p := ?pv191) rfl rfl rfl (⟨_, _, rfl, rfl, rfl⟩) ?hv191 ?rest191 hck7
    case hv191 =>
     intro E1
     refine (V1.loadDeep (inn := (fun c_ : Carton => List.map encInt c_.Files)) (cell := cellCarton) (ts := ts_170) (xs := (out_.set (Int.toNat y0) (⟨(out_.getD (Int.toNat y0) default).Id, (out_.getD (Int.toNat y0) default).Shelf, (out_.getD (Int.toNat y0) default).Room, y4, (out_.getD (Int.toNat y0) default).Thick⟩ : Carton))) (k := 0) rfl rfl tyk_3 rfl rfl hd_183 (by simpa using natLt hh14.1 hh14.2) rfl lt0 ?_)
     exact rfl
    refine VP.step (p := ?pv192) rfl rfl rfl (⟨_, _, rfl, rfl, rfl⟩) ?hv192 ?rest192 hck7
    case hv192 =>
     intro E1
     refine (V1.move rfl rfl rfl lt0 ?_)
     exact rfl
    refine VP.step (p := ?pv193) rfl rfl rfl (⟨_, _, rfl, rfl, rfl⟩) ?hv193 ?rest193 hck7
    case hv193 =>
     intro E1
     refine (V1.move rfl rfl rfl lt0 ?_)
     exact rfl
    refine VP.step (p := ?pv194) rfl rfl rfl (⟨_, _, rfl, rfl, ⟨_, _, rfl, rfl, rfl⟩⟩) ?hv194 ?rest194 hck7
    case hv194 =>
     intro E1
     refine (V1.indexSr rfl rfl esz_39 rfl rfl hh15 lt0 ?_)
     exact rfl
    refine VP.step (p := ?pv195) rfl rfl rfl (⟨_, _, rfl, rfl, rfl⟩) ?hv195 ?rest195 hck7
    case hv195 =>
     intro E1
     refine (V1.fieldRef rfl rfl fo_67_4 rfl lt0 ?_)
     exact rfl
    refine VP.step (p := ?pv196) rfl rfl rfl (⟨_, _, rfl, rfl, rfl⟩) ?hv196 ?rest196 hck7
    case hv196 =>
     intro E1
     refine (V1.loadDeep (inn := (fun c_ : Carton => List.map encInt c_.Files)) (cell := cellCarton) (ts := ts_170) (xs := (out_.set (Int.toNat y0) (⟨(out_.getD (Int.toNat y0) default).Id, (out_.getD (Int.toNat y0) default).Shelf, (out_.getD (Int.toNat y0) default).Room, y4, (out_.getD (Int.toNat y0) default).Thick⟩ : Carton))) (k := 0) rfl rfl tyk_3 rfl rfl hd_183 (by simpa using natLt hh15.1 hh15.2) rfl lt0 ?_)
     exact rfl
    refine VP.fin rfl (⟨_, _, rfl, rfl, ⟨_, _, rfl, rfl, ⟨_, _, rfl, rfl, ⟨_, _, rfl, rfl, ⟨_, _, rfl, rfl, ⟨_, _, rfl, rfl, rfl⟩⟩⟩⟩⟩⟩) ?_
    refine VO.cons rfl (V1.int rfl rfl rfl rfl rfl lt0 ?_)
    refine VO.cons rfl (V1.indexSr rfl rfl esz_39 rfl rfl hh16 lt0 ?_)
    refine VO.cons rfl (V1.fieldRef rfl rfl fo_67_4 rfl lt0 ?_)
    refine VO.cons rfl (V1.storeDeepCell (inn := (fun c_ : Carton => List.map encInt c_.Files)) (cell := cellCarton) (ts := ts_170) (xs := (out_.set (Int.toNat y0) (⟨(out_.getD (Int.toNat y0) default).Id, (out_.getD (Int.toNat y0) default).Shelf, (out_.getD (Int.toNat y0) default).Room, y4, (out_.getD (Int.toNat y0) default).Thick⟩ : Carton))) (k := 0) cokCarton (⟨((out_.set (Int.toNat y0) (⟨(out_.getD (Int.toNat y0) default).Id, (out_.getD (Int.toNat y0) default).Shelf, (out_.getD (Int.toNat y0) default).Room, y4, (out_.getD (Int.toNat y0) default).Thick⟩ : Carton)).getD (Int.toNat y0) default).Id, ((out_.set (Int.toNat y0) (⟨(out_.getD (Int.toNat y0) default).Id, (out_.getD (Int.toNat y0) default).Shelf, (out_.getD (Int.toNat y0) default).Room, y4, (out_.getD (Int.toNat y0) default).Thick⟩ : Carton)).getD (Int.toNat y0) default).Shelf, ((out_.set (Int.toNat y0) (⟨(out_.getD (Int.toNat y0) default).Id, (out_.getD (Int.toNat y0) default).Shelf, (out_.getD (Int.toNat y0) default).Room, y4, (out_.getD (Int.toNat y0) default).Thick⟩ : Carton)).getD (Int.toNat y0) default).Room, ((out_.set (Int.toNat y0) (⟨(out_.getD (Int.toNat y0) default).Id, (out_.getD (Int.toNat y0) default).Shelf, (out_.getD (Int.toNat y0) default).Room, y4, (out_.getD (Int.toNat y0) default).Thick⟩ : Carton)).getD (Int.toNat y0) default).Files, (IntKind.i64.wrap ((((out_.set (Int.toNat y0) (⟨(out_.getD (Int.toNat y0) default).Id, (out_.getD (Int.toNat y0) default).Shelf, (out_.getD (Int.toNat y0) default).Room, y4, (out_.getD (Int.toNat y0) default).Thick⟩ : Carton)).getD (Int.toNat y0) default).Thick) + (((out_.set (Int.toNat y0) (⟨(out_.getD (Int.toNat y0) default).Id, (out_.getD (Int.toNat y0) default).Shelf, (out_.getD (Int.toNat y0) default).Room, y4, (out_.getD (Int.toNat y0) default).Thick⟩ : Carton)).getD (Int.toNat y1) default).Thick)))⟩ : Carton) rfl rfl tyk_3 rfl rfl hd_183 (by simpa using natLt hh16.1 hh16.2) rfl rfl rfl rfl (fun _ => rfl) ?_)
    have hd_196 := Deep.setSame (i := (Int.toNat y0)) (⟨((out_.set (Int.toNat y0) (⟨(out_.getD (Int.toNat y0) default).Id, (out_.getD (Int.toNat y0) default).Shelf, (out_.getD (Int.toNat y0) default).Room, y4, (out_.getD (Int.toNat y0) default).Thick⟩ : Carton)).getD (Int.toNat y0) default).Id, ((out_.set (Int.toNat y0) (⟨(out_.getD (Int.toNat y0) default).Id, (out_.getD (Int.toNat y0) default).Shelf, (out_.getD (Int.toNat y0) default).Room, y4, (out_.getD (Int.toNat y0) default).Thick⟩ : Carton)).getD (Int.toNat y0) default).Shelf, ((out_.set (Int.toNat y0) (⟨(out_.getD (Int.toNat y0) default).Id, (out_.getD (Int.toNat y0) default).Shelf, (out_.getD (Int.toNat y0) default).Room, y4, (out_.getD (Int.toNat y0) default).Thick⟩ : Carton)).getD (Int.toNat y0) default).Room, ((out_.set (Int.toNat y0) (⟨(out_.getD (Int.toNat y0) default).Id, (out_.getD (Int.toNat y0) default).Shelf, (out_.getD (Int.toNat y0) default).Room, y4, (out_.getD (Int.toNat y0) default).Thick⟩ : Carton)).getD (Int.toNat y0) default).Files, (IntKind.i64.wrap ((((out_.set (Int.toNat y0) (⟨(out_.getD (Int.toNat y0) default).Id, (out_.getD (Int.toNat y0) default).Shelf, (out_.getD (Int.toNat y0) default).Room, y4, (out_.getD (Int.toNat y0) default).Thick⟩ : Carton)).getD (Int.toNat y0) default).Thick) + (((out_.set (Int.toNat y0) (⟨(out_.getD (Int.toNat y0) default).Id, (out_.getD (Int.toNat y0) default).Shelf, (out_.getD (Int.toNat y0) default).Room, y4, (out_.getD (Int.toNat y0) default).Thick⟩ : Carton)).getD (Int.toNat y1) default).Thick)))⟩ : Carton) rfl hd_183
    refine VO.weakenK (Keeps.say 10 (y := .sref ob0 5 0 (List.length ((out_.set (Int.toNat y0) (⟨(out_.getD (Int.toNat y0) default).Id, (out_.getD (Int.toNat y0) default).Shelf, (out_.getD (Int.toNat y0) default).Room, y4, (out_.getD (Int.toNat y0) default).Thick⟩ : Carton)).set (Int.toNat y0) (⟨((out_.set (Int.toNat y0) (⟨(out_.getD (Int.toNat y0) default).Id, (out_.getD (Int.toNat y0) default).Shelf, (out_.getD (Int.toNat y0) default).Room, y4, (out_.getD (Int.toNat y0) default).Thick⟩ : Carton)).getD (Int.toNat y0) default).Id, ((out_.set (Int.toNat y0) (⟨(out_.getD (Int.toNat y0) default).Id, (out_.getD (Int.toNat y0) default).Shelf, (out_.getD (Int.toNat y0) default).Room, y4, (out_.getD (Int.toNat y0) default).Thick⟩ : Carton)).getD (Int.toNat y0) default).Shelf, ((out_.set (Int.toNat y0) (⟨(out_.getD (Int.toNat y0) default).Id, (out_.getD (Int.toNat y0) default).Shelf, (out_.getD (Int.toNat y0) default).Room, y4, (out_.getD (Int.toNat y0) default).Thick⟩ : Carton)).getD (Int.toNat y0) default).Room, ((out_.set (Int.toNat y0) (⟨(out_.getD (Int.toNat y0) default).Id, (out_.getD (Int.toNat y0) default).Shelf, (out_.getD (Int.toNat y0) default).Room, y4, (out_.getD (Int.toNat y0) default).Thick⟩ : Carton)).getD (Int.toNat y0) default).Files, (IntKind.i64.wrap ((((out_.set (Int.toNat y0) (⟨(out_.getD (Int.toNat y0) default).Id, (out_.getD (Int.toNat y0) default).Shelf, (out_.getD (Int.toNat y0) default).Room, y4, (out_.getD (Int.toNat y0) default).Thick⟩ : Carton)).getD (Int.toNat y0) default).Thick) + (((out_.set (Int.toNat y0) (⟨(out_.getD (Int.toNat y0) default).Id, (out_.getD (Int.toNat y0) default).Shelf, (out_.getD (Int.toNat y0) default).Room, y4, (out_.getD (Int.toNat y0) default).Thick⟩ : Carton)).getD (Int.toNat y1) default).Thick)))⟩ : Carton)))) rfl (by simp [optS])) ?_
    refine VO.nil ?_
    refine V.keepT 78 [9, 10] [0] (E0 := [(9, .int .i64 y1), (10, .sref ob0 5 0 (List.length ((out_.set (Int.toNat y0) (⟨(out_.getD (Int.toNat y0) default).Id, (out_.getD (Int.toNat y0) default).Shelf, (out_.getD (Int.toNat y0) default).Room, y4, (out_.getD (Int.toNat y0) default).Thick⟩ : Carton)).set (Int.toNat y0) (⟨((out_.set (Int.toNat y0) (⟨(out_.getD (Int.toNat y0) default).Id, (out_.getD (Int.toNat y0) default).Shelf, (out_.getD (Int.toNat y0) default).Room, y4, (out_.getD (Int.toNat y0) default).Thick⟩ : Carton)).getD (Int.toNat y0) default).Id, ((out_.set (Int.toNat y0) (⟨(out_.getD (Int.toNat y0) default).Id, (out_.getD (Int.toNat y0) default).Shelf, (out_.getD (Int.toNat y0) default).Room, y4, (out_.getD (Int.toNat y0) default).Thick⟩ : Carton)).getD (Int.toNat y0) default).Shelf, ((out_.set (Int.toNat y0) (⟨(out_.getD (Int.toNat y0) default).Id, (out_.getD (Int.toNat y0) default).Shelf, (out_.getD (Int.toNat y0) default).Room, y4, (out_.getD (Int.toNat y0) default).Thick⟩ : Carton)).getD (Int.toNat y0) default).Room, ((out_.set (Int.toNat y0) (⟨(out_.getD (Int.toNat y0) default).Id, (out_.getD (Int.toNat y0) default).Shelf, (out_.getD (Int.toNat y0) default).Room, y4, (out_.getD (Int.toNat y0) default).Thick⟩ : Carton)).getD (Int.toNat y0) default).Files, (IntKind.i64.wrap ((((out_.set (Int.toNat y0) (⟨(out_.getD (Int.toNat y0) default).Id, (out_.getD (Int.toNat y0) default).Shelf, (out_.getD (Int.toNat y0) default).Room, y4, (out_.getD (Int.toNat y0) default).Thick⟩ : Carton)).getD (Int.toNat y0) default).Thick) + (((out_.set (Int.toNat y0) (⟨(out_.getD (Int.toNat y0) default).Id, (out_.getD (Int.toNat y0) default).Shelf, (out_.getD (Int.toNat y0) default).Room, y4, (out_.getD (Int.toNat y0) default).Thick⟩ : Carton)).getD (Int.toNat y1) default).Thick)))⟩ : Carton))))]) (A := [(ob0, ⟨5, deepC cellCarton ts_170 ((out_.set (Int.toNat y0) (⟨(out_.getD (Int.toNat y0) default).Id, (out_.getD (Int.toNat y0) default).Shelf, (out_.getD (Int.toNat y0) default).Room, y4, (out_.getD (Int.toNat y0) default).Thick⟩ : Carton)).set (Int.toNat y0) (⟨((out_.set (Int.toNat y0) (⟨(out_.getD (Int.toNat y0) default).Id, (out_.getD (Int.toNat y0) default).Shelf, (out_.getD (Int.toNat y0) default).Room, y4, (out_.getD (Int.toNat y0) default).Thick⟩ : Carton)).getD (Int.toNat y0) default).Id, ((out_.set (Int.toNat y0) (⟨(out_.getD (Int.toNat y0) default).Id, (out_.getD (Int.toNat y0) default).Shelf, (out_.getD (Int.toNat y0) default).Room, y4, (out_.getD (Int.toNat y0) default).Thick⟩ : Carton)).getD (Int.toNat y0) default).Shelf, ((out_.set (Int.toNat y0) (⟨(out_.getD (Int.toNat y0) default).Id, (out_.getD (Int.toNat y0) default).Shelf, (out_.getD (Int.toNat y0) default).Room, y4, (out_.getD (Int.toNat y0) default).Thick⟩ : Carton)).getD (Int.toNat y0) default).Room, ((out_.set (Int.toNat y0) (⟨(out_.getD (Int.toNat y0) default).Id, (out_.getD (Int.toNat y0) default).Shelf, (out_.getD (Int.toNat y0) default).Room, y4, (out_.getD (Int.toNat y0) default).Thick⟩ : Carton)).getD (Int.toNat y0) default).Files, (IntKind.i64.wrap ((((out_.set (Int.toNat y0) (⟨(out_.getD (Int.toNat y0) default).Id, (out_.getD (Int.toNat y0) default).Shelf, (out_.getD (Int.toNat y0) default).Room, y4, (out_.getD (Int.toNat y0) default).Thick⟩ : Carton)).getD (Int.toNat y0) default).Thick) + (((out_.set (Int.toNat y0) (⟨(out_.getD (Int.toNat y0) default).Id, (out_.getD (Int.toNat y0) default).Shelf, (out_.getD (Int.toNat y0) default).Room, y4, (out_.getD (Int.toNat y0) default).Thick⟩ : Carton)).getD (Int.toNat y1) default).Thick)))⟩ : Carton))⟩)]) (T := (os1_183 ++ (optH 1 ob_183 (List.map encInt y4) ++ os2_183))) (H0 := [(ob0, ⟨5, deepC cellCarton ts_170 ((out_.set (Int.toNat y0) (⟨(out_.getD (Int.toNat y0) default).Id, (out_.getD (Int.toNat y0) default).Shelf, (out_.getD (Int.toNat y0) default).Room, y4, (out_.getD (Int.toNat y0) default).Thick⟩ : Carton)).set (Int.toNat y0) (⟨((out_.set (Int.toNat y0) (⟨(out_.getD (Int.toNat y0) default).Id, (out_.getD (Int.toNat y0) default).Shelf, (out_.getD (Int.toNat y0) default).Room, y4, (out_.getD (Int.toNat y0) default).Thick⟩ : Carton)).getD (Int.toNat y0) default).Id, ((out_.set (Int.toNat y0) (⟨(out_.getD (Int.toNat y0) default).Id, (out_.getD (Int.toNat y0) default).Shelf, (out_.getD (Int.toNat y0) default).Room, y4, (out_.getD (Int.toNat y0) default).Thick⟩ : Carton)).getD (Int.toNat y0) default).Shelf, ((out_.set (Int.toNat y0) (⟨(out_.getD (Int.toNat y0) default).Id, (out_.getD (Int.toNat y0) default).Shelf, (out_.getD (Int.toNat y0) default).Room, y4, (out_.getD (Int.toNat y0) default).Thick⟩ : Carton)).getD (Int.toNat y0) default).Room, ((out_.set (Int.toNat y0) (⟨(out_.getD (Int.toNat y0) default).Id, (out_.getD (Int.toNat y0) default).Shelf, (out_.getD (Int.toNat y0) default).Room, y4, (out_.getD (Int.toNat y0) default).Thick⟩ : Carton)).getD (Int.toNat y0) default).Files, (IntKind.i64.wrap ((((out_.set (Int.toNat y0) (⟨(out_.getD (Int.toNat y0) default).Id, (out_.getD (Int.toNat y0) default).Shelf, (out_.getD (Int.toNat y0) default).Room, y4, (out_.getD (Int.toNat y0) default).Thick⟩ : Carton)).getD (Int.toNat y0) default).Thick) + (((out_.set (Int.toNat y0) (⟨(out_.getD (Int.toNat y0) default).Id, (out_.getD (Int.toNat y0) default).Shelf, (out_.getD (Int.toNat y0) default).Room, y4, (out_.getD (Int.toNat y0) default).Thick⟩ : Carton)).getD (Int.toNat y1) default).Thick)))⟩ : Carton))⟩)]) (T' := (os1_183 ++ (optH 1 ob_183 (List.map encInt y4) ++ os2_183))) rfl (⟨_, _, rfl, rfl, ⟨_, _, rfl, rfl, rfl⟩⟩) rfl (⟨_, _, rfl, rfl, rfl⟩) rfl (List.Sublist.refl _) ?_
    refine V.seq ?_
    replace hm0 := bindO hm0; rcases hm0 with ⟨y5, hh17, hm0⟩
    refine V.region ?_
    refine VO.cons rfl (V1.move rfl rfl rfl lt0 ?_)
    refine VO.cons rfl (V1.move rfl rfl rfl lt0 ?_)
    refine VO.cons rfl (V1.move rfl rfl rfl lt0 ?_)
    refine VO.cons rfl (V1.int rfl rfl rfl rfl rfl lt0 ?_)
    refine VO.cons rfl (V1.callDel (m := 1) (inn := (fun c_ : Carton => List.map encInt c_.Files)) (cell := cellCarton) (ts := ts_170) (os := (os1_183 ++ (optH 1 ob_183 (List.map encInt y4) ++ os2_183))) (xs := ((out_.set (Int.toNat y0) (⟨(out_.getD (Int.toNat y0) default).Id, (out_.getD (Int.toNat y0) default).Shelf, (out_.getD (Int.toNat y0) default).Room, y4, (out_.getD (Int.toNat y0) default).Thick⟩ : Carton)).set (Int.toNat y0) (⟨((out_.set (Int.toNat y0) (⟨(out_.getD (Int.toNat y0) default).Id, (out_.getD (Int.toNat y0) default).Shelf, (out_.getD (Int.toNat y0) default).Room, y4, (out_.getD (Int.toNat y0) default).Thick⟩ : Carton)).getD (Int.toNat y0) default).Id, ((out_.set (Int.toNat y0) (⟨(out_.getD (Int.toNat y0) default).Id, (out_.getD (Int.toNat y0) default).Shelf, (out_.getD (Int.toNat y0) default).Room, y4, (out_.getD (Int.toNat y0) default).Thick⟩ : Carton)).getD (Int.toNat y0) default).Shelf, ((out_.set (Int.toNat y0) (⟨(out_.getD (Int.toNat y0) default).Id, (out_.getD (Int.toNat y0) default).Shelf, (out_.getD (Int.toNat y0) default).Room, y4, (out_.getD (Int.toNat y0) default).Thick⟩ : Carton)).getD (Int.toNat y0) default).Room, ((out_.set (Int.toNat y0) (⟨(out_.getD (Int.toNat y0) default).Id, (out_.getD (Int.toNat y0) default).Shelf, (out_.getD (Int.toNat y0) default).Room, y4, (out_.getD (Int.toNat y0) default).Thick⟩ : Carton)).getD (Int.toNat y0) default).Files, (IntKind.i64.wrap ((((out_.set (Int.toNat y0) (⟨(out_.getD (Int.toNat y0) default).Id, (out_.getD (Int.toNat y0) default).Shelf, (out_.getD (Int.toNat y0) default).Room, y4, (out_.getD (Int.toNat y0) default).Thick⟩ : Carton)).getD (Int.toNat y0) default).Thick) + (((out_.set (Int.toNat y0) (⟨(out_.getD (Int.toNat y0) default).Id, (out_.getD (Int.toNat y0) default).Shelf, (out_.getD (Int.toNat y0) default).Room, y4, (out_.getD (Int.toNat y0) default).Thick⟩ : Carton)).getD (Int.toNat y1) default).Thick)))⟩ : Carton))) (r := y5) (z := (⟨(0 : Int), (0 : Int), (0 : Int), ([] : List Int), (0 : Int)⟩ : Carton)) (zr := (PV.agg [.int .i64 (0 : Int), .int .i64 (0 : Int), .int .i64 (0 : Int), .nils, .int .i64 (0 : Int)])) 0 (A := [(ob0, ⟨5, deepC cellCarton ts_170 ((out_.set (Int.toNat y0) (⟨(out_.getD (Int.toNat y0) default).Id, (out_.getD (Int.toNat y0) default).Shelf, (out_.getD (Int.toNat y0) default).Room, y4, (out_.getD (Int.toNat y0) default).Thick⟩ : Carton)).set (Int.toNat y0) (⟨((out_.set (Int.toNat y0) (⟨(out_.getD (Int.toNat y0) default).Id, (out_.getD (Int.toNat y0) default).Shelf, (out_.getD (Int.toNat y0) default).Room, y4, (out_.getD (Int.toNat y0) default).Thick⟩ : Carton)).getD (Int.toNat y0) default).Id, ((out_.set (Int.toNat y0) (⟨(out_.getD (Int.toNat y0) default).Id, (out_.getD (Int.toNat y0) default).Shelf, (out_.getD (Int.toNat y0) default).Room, y4, (out_.getD (Int.toNat y0) default).Thick⟩ : Carton)).getD (Int.toNat y0) default).Shelf, ((out_.set (Int.toNat y0) (⟨(out_.getD (Int.toNat y0) default).Id, (out_.getD (Int.toNat y0) default).Shelf, (out_.getD (Int.toNat y0) default).Room, y4, (out_.getD (Int.toNat y0) default).Thick⟩ : Carton)).getD (Int.toNat y0) default).Room, ((out_.set (Int.toNat y0) (⟨(out_.getD (Int.toNat y0) default).Id, (out_.getD (Int.toNat y0) default).Shelf, (out_.getD (Int.toNat y0) default).Room, y4, (out_.getD (Int.toNat y0) default).Thick⟩ : Carton)).getD (Int.toNat y0) default).Files, (IntKind.i64.wrap ((((out_.set (Int.toNat y0) (⟨(out_.getD (Int.toNat y0) default).Id, (out_.getD (Int.toNat y0) default).Shelf, (out_.getD (Int.toNat y0) default).Room, y4, (out_.getD (Int.toNat y0) default).Thick⟩ : Carton)).getD (Int.toNat y0) default).Thick) + (((out_.set (Int.toNat y0) (⟨(out_.getD (Int.toNat y0) default).Id, (out_.getD (Int.toNat y0) default).Shelf, (out_.getD (Int.toNat y0) default).Room, y4, (out_.getD (Int.toNat y0) default).Thick⟩ : Carton)).getD (Int.toNat y1) default).Thick)))⟩ : Carton))⟩)]) (A' := []) rfl rfl rfl cok_80 rfl rfl rfl rfl hd_196 hh17 (fun rL hL => ok_slices_Delete_impl_Carton_impl_Carton (oq := some ob0) hL (fun e => by cases e)) rfl lt0 ?_)
    intro ob4 ts_197 os_197 hob4 hd_197
    refine VO.cons rfl (V1.assign rfl rfl rfl lt0 ?_)
    refine VO.nil ?_
    rcases ob4 with _ | ob4
    ·
     obtain ⟨rfl, rfl⟩ := Deep.nil (hob4 rfl) hd_197
     refine V.keep 78 [10] [] (E0 := [(10, .nils)]) (H0 := []) rfl (⟨_, _, rfl, rfl, rfl⟩) (rfl) rfl ?_
     refine V.seq ?_
     refine V.seq ?_
     replace hm0 := bindO hm0; rcases hm0 with ⟨y6, hh18, hm0⟩
     refine V.region ?_
     refine VO.cons rfl (V1.move rfl rfl rfl lt0 ?_)
     refine VO.weakenK (Keeps.nilsE (l := y5) 74 rn 5 (encCarton rn) (hob4 rfl) rfl rfl) ?_
     refine VO.cons rfl (V1.call rfl rfl rfl cok_45 rfl (ok_impl_AreCartons hh18) rfl lt0 ?_)
     rintro _ _ ⟨rfl, rfl⟩
     refine VO.cons rfl (V1.not rfl rfl rfl lt0 ?_)
     refine VO.nil ?_
     refine V.cond rfl (fun hc1 => ?_) (fun hc1 => ?_)
     ·
      replace hm0 := cond_t hc1 hm0
      refine V.seq ?_
      refine V.region ?_
      refine VO.cons rfl (V1.assign rfl rfl rfl lt0 ?_)
      refine VO.cons rfl (V1.assign rfl rfl rfl lt0 ?_)
      refine VO.nil ?_
      refine V.keep 78 [6, 7] [] (E0 := [(6, .nils), (7, .bool false)]) (H0 := []) rfl (⟨_, _, rfl, rfl, ⟨_, _, rfl, rfl, rfl⟩⟩) (rfl) rfl ?_
      refine V.ret ?_
      obtain rfl := Option.some.inj hm0
      exact ⟨_, _, ⟨_, _, rfl, rfl, ⟨_, _, rfl, rfl, rfl⟩⟩, List.Sublist.refl _, none, [], [], (fun _ => rfl), (Deep.ofNil rfl), rfl, rfl⟩
     ·
      replace hm0 := cond_f hc1 hm0
      refine V.skip ?_
      refine V.seq ?_
      refine V.region ?_
      refine VO.cons rfl (V1.move rfl rfl rfl lt0 ?_)
      refine VO.cons rfl (V1.assign rfl rfl rfl lt0 ?_)
      refine VO.cons rfl (V1.assign rfl rfl rfl lt0 ?_)
      refine VO.nil ?_
      refine V.keep 78 [6, 7] [] (E0 := [(6, .nils), (7, .bool true)]) (H0 := []) rfl (⟨_, _, rfl, rfl, ⟨_, _, rfl, rfl, rfl⟩⟩) (rfl) rfl ?_
      refine V.ret ?_
      obtain rfl := Option.some.inj hm0
      exact ⟨_, _, ⟨_, _, rfl, rfl, ⟨_, _, rfl, rfl, rfl⟩⟩, List.Sublist.refl _, none, [], [], (fun _ => (hob4 rfl)), (Deep.ofNil (hob4 rfl)), rfl, rfl⟩
    ·
     refine V.keepT 78 [10] [0] (E0 := [(10, .sref ob4 5 0 (List.length y5))]) (A := [(ob4, ⟨5, deepC cellCarton ts_197 y5⟩)]) (T := os_197) (H0 := [(ob4, ⟨5, deepC cellCarton ts_197 y5⟩)]) (T' := os_197) rfl (⟨_, _, rfl, rfl, rfl⟩) rfl (⟨_, _, rfl, rfl, rfl⟩) rfl (List.Sublist.refl _) ?_
     refine V.seq ?_
     refine V.seq ?_
     replace hm0 := bindO hm0; rcases hm0 with ⟨y6, hh18, hm0⟩
     refine V.region ?_
     refine VO.cons rfl (V1.move rfl rfl rfl lt0 ?_)
     refine VO.cons rfl (V1.callL (rn + 1) ([ob4] ++ List.map Prod.fst os_197) [.vl (rn + 1) 5 (List.map (encCarton (rn + 1)) y5)] rfl rfl rfl cok_45 rfl ⟨_, _, rfl, Lend.deep (m := 1) (inn := (fun c_ : Carton => List.map encInt c_.Files)) (cell := cellCarton) cokCarton (ts := ts_197) (os := os_197) (xs := y5) 0 hd_197 rfl (fun _ => roL_map (fun _ => rfl) _) rfl (fun p hp => memTail (A := [(ob4, ⟨5, deepC cellCarton ts_197 y5⟩)]) (T := os_197) hp rfl) (List.mem_append_left _ (.head _)) (fun p hp => List.mem_append_right _ (List.mem_map.2 ⟨p, hp, rfl⟩)), rfl⟩ (bwTail (A := [(ob4, ⟨5, deepC cellCarton ts_197 y5⟩)]) (T := os_197) rfl (bwCons (k := 0) rfl bwNil) (fun p hp => hp)) (ok_impl_AreCartons hh18) rfl (⟨(by first | omega | (dsimp only; omega)), by rintro _ _ ⟨rfl, rfl⟩; exact ⟨rfl, by simp⟩⟩) lt0 ?_)
     rintro _ _ ⟨rfl, rfl⟩
     refine VO.cons rfl (V1.not rfl rfl rfl lt0 ?_)
     refine VO.nil ?_
     refine V.cond rfl (fun hc1 => ?_) (fun hc1 => ?_)
     ·
      replace hm0 := cond_t hc1 hm0
      refine V.seq ?_
      refine V.region ?_
      refine VO.cons rfl (V1.assign rfl rfl rfl lt0 ?_)
      refine VO.cons rfl (V1.assign rfl rfl rfl lt0 ?_)
      refine VO.nil ?_
      refine V.keepT 78 [6, 7] [] (E0 := [(6, .nils), (7, .bool false)]) (A := [(ob4, ⟨5, deepC cellCarton ts_197 y5⟩)]) (T := os_197) (H0 := []) (T' := []) rfl (⟨_, _, rfl, rfl, ⟨_, _, rfl, rfl, rfl⟩⟩) rfl (rfl) rfl (List.nil_sublist _) ?_
      refine V.ret ?_
      obtain rfl := Option.some.inj hm0
      exact ⟨_, _, ⟨_, _, rfl, rfl, ⟨_, _, rfl, rfl, rfl⟩⟩, List.Sublist.refl _, none, [], [], (fun _ => rfl), (Deep.ofNil rfl), rfl, rfl⟩
     ·
      replace hm0 := cond_f hc1 hm0
      refine V.skip ?_
      refine V.seq ?_
      refine V.region ?_
      refine VO.cons rfl (V1.move rfl rfl rfl lt0 ?_)
      refine VO.cons rfl (V1.assign rfl rfl rfl lt0 ?_)
      refine VO.cons rfl (V1.assign rfl rfl rfl lt0 ?_)
      refine VO.nil ?_
      refine V.keepT 78 [6, 7] [0] (E0 := [(6, .sref ob4 5 0 (List.length y5)), (7, .bool true)]) (A := [(ob4, ⟨5, deepC cellCarton ts_197 y5⟩)]) (T := os_197) (H0 := [(ob4, ⟨5, deepC cellCarton ts_197 y5⟩)]) (T' := os_197) rfl (⟨_, _, rfl, rfl, ⟨_, _, rfl, rfl, rfl⟩⟩) rfl (⟨_, _, rfl, rfl, rfl⟩) rfl (List.Sublist.refl _) ?_
      refine V.ret ?_
      obtain rfl := Option.some.inj hm0
      exact ⟨_, _, ⟨_, _, rfl, rfl, ⟨_, _, rfl, rfl, rfl⟩⟩, List.Sublist.refl _, some ob4, ts_197, os_197, (fun e => by cases e), hd_197, rfl, rfl⟩

theorem ok_laws_eqIntS {ρ0 ρ1 rn : Nat} {a : List Int} {b_ : List Int} {r : Bool} (h : M.laws_eqIntS a b_ = some r) : Does Try.prog 24 [.vl ρ0 1 (List.map encInt a), .vl ρ1 1 (List.map encInt b_)] [] rn (fun x H => x = .bool r ∧ H = []) := by
 have hm0 := h; clear h; unfold M.laws_eqIntS at hm0
 try dsimp only at hm0
 refine Does.intro (N := 26) Try.func24 rfl rfl rfl rfl ?_
 intro w0 S0
 refine V.seq ?_
 refine V.region ?_
 refine VO.cons rfl (V1.assign rfl rfl rfl lt0 ?_)
 refine VO.nil ?_
 refine V.seq ?_
 refine V.seq ?_
 refine V.region ?_
 refine VO.cons rfl (V1.move rfl rfl rfl lt0 ?_)
 refine VO.cons rfl (V1.lenMap rfl rfl rfl rfl rfl rfl isl_36 lt0 ?_)
 refine VO.cons rfl (V1.move rfl rfl rfl lt0 ?_)
 refine VO.cons rfl (V1.lenMap rfl rfl rfl rfl rfl rfl isl_36 lt0 ?_)
 refine VO.cons rfl (V1.int rfl rfl rfl rfl rfl lt0 ?_)
 refine VO.nil ?_
 refine V.keep 26 [0, 1, 10] [] (E0 := [(0, .vl ρ0 1 (List.map encInt a)), (1, .vl ρ1 1 (List.map encInt b_)), (10, .bool ((a.length : Int) != (b_.length : Int)))]) (H0 := []) rfl (⟨_, _, rfl, rfl, ⟨_, _, rfl, rfl, ⟨_, _, rfl, rfl, rfl⟩⟩⟩) (rfl) rfl ?_
 refine V.cond rfl (fun hc0 => ?_) (fun hc0 => ?_)
 ·
  replace hm0 := cond_t hc0 hm0
  refine V.seq ?_
  refine V.region ?_
  refine VO.cons rfl (V1.assign rfl rfl rfl lt0 ?_)
  refine VO.nil ?_
  refine V.ret ?_
  obtain rfl := Option.some.inj hm0
  exact ⟨_, [], ⟨_, _, rfl, rfl, rfl⟩, List.nil_sublist _, rfl, rfl⟩
 ·
  replace hm0 := cond_f hc0 hm0
  refine V.skip ?_
  refine V.seq ?_
  refine V.seq ?_
  refine V.region ?_
  refine VO.cons rfl (V1.assign rfl rfl rfl lt0 ?_)
  refine VO.nil ?_
  replace hm0 := bindO hm0; rcases hm0 with ⟨e0, he1, hm0⟩
  refine V.cutT (D := (Unit) × (Unit)) (fun ⟨_, _⟩ => ⟨26, [], []⟩) (fun ⟨_, _⟩ => (.inl () = e0)) ?_ ?_
  ·
   refine V.block ?_
   refine V.keep 26 [5, 0, 1] [] (E0 := [(5, .int .i64 (0 : Int)), (0, .vl ρ0 1 (List.map encInt a)), (1, .vl ρ1 1 (List.map encInt b_))]) (H0 := []) rfl (⟨_, _, rfl, rfl, ⟨_, _, rfl, rfl, ⟨_, _, rfl, rfl, rfl⟩⟩⟩) (rfl) rfl ?_
   refine V.loopE (D := Nat × (Int) × (Unit)) (fun ⟨n0, i, _⟩ => [(5, .int .i64 i)]) (fun ⟨n0, i, _⟩ => []) (fun ⟨n0, i, _⟩ => loopO (M.laws_eqIntS_l0 a b_) n0 i = some e0) (fun ⟨n0, _, _⟩ => n0) (rounds, (0 : Int), ()) rfl he1 ?_
   rintro ⟨n0, i, _⟩ hP0
   obtain ⟨m0, y0, rfl, hm1, hl1, hr1⟩ := loop_head hP0
   unfold M.laws_eqIntS_l0 at hm1; dsimp only at hm1
   show V _ _ _ ⟨26, [(5, .int .i64 i), (0, .vl ρ0 1 (List.map encInt a)), (1, .vl ρ1 1 (List.map encInt b_))], []⟩
   refine V.seq ?_
   refine V.seq ?_
   refine V.region ?_
   refine VO.cons rfl (V1.move rfl rfl rfl lt0 ?_)
   refine VO.cons rfl (V1.move rfl rfl rfl lt0 ?_)
   refine VO.cons rfl (V1.lenMap rfl rfl rfl rfl rfl rfl isl_36 lt0 ?_)
   refine VO.cons rfl (V1.int rfl rfl rfl rfl rfl lt0 ?_)
   refine VO.nil ?_
   refine V.cond rfl (fun hc1 => ?_) (fun hc1 => ?_)
   ·
    replace hm1 := cond_t hc1 hm1
    refine V.skip ?_
    refine V.keep 26 [0, 1, 5] [] (E0 := [(0, .vl ρ0 1 (List.map encInt a)), (1, .vl ρ1 1 (List.map encInt b_)), (5, .int .i64 i)]) (H0 := []) rfl (⟨_, _, rfl, rfl, ⟨_, _, rfl, rfl, ⟨_, _, rfl, rfl, rfl⟩⟩⟩) (rfl) rfl ?_
    refine V.seq ?_
    refine V.block ?_
    refine V.seq ?_
    replace hm1 := asrt_some hm1; rcases hm1 with ⟨hh0, hm1⟩
    replace hm1 := asrt_some hm1; rcases hm1 with ⟨hh1, hm1⟩
    refine V.regionM 26 8 [⟨[(0, none)], [], none⟩, ⟨[(5, none)], [], none⟩, ⟨[(17, some 1), (18, some 0)], [], none⟩, ⟨[(19, some 0)], [], none⟩, ⟨[(1, none)], [], none⟩, ⟨[(5, none)], [], none⟩, ⟨[(21, some 1), (22, some 0)], [], none⟩, ⟨[(23, some 0)], [], none⟩] [(0, none), (1, none), (5, none), (20, some 4), (24, some 0)] (⟨_, rfl, ⟨_, rfl, ⟨_, rfl, ⟨_, rfl, ⟨_, rfl, ⟨_, rfl, ⟨_, rfl, ⟨_, rfl, ⟨rfl, rfl⟩⟩⟩⟩⟩⟩⟩⟩⟩) mixed_orders rfl (by decide +kernel) (fun hck6 => ?_)
    refine VP.step (p := ?pv65) rfl rfl rfl (⟨_, _, rfl, rfl, rfl⟩) ?hv65 ?rest65 hck6
    case hv65 =>
     intro E1
     refine (V1.move rfl rfl rfl lt0 ?_)
     exact rfl
    refine VP.step (p := ?pv66) rfl rfl rfl (⟨_, _, rfl, rfl, rfl⟩) ?hv66 ?rest66 hck6
    case hv66 =>
     intro E1
     refine (V1.move rfl rfl rfl lt0 ?_)
     exact rfl
    refine VP.step (p := ?pv67) rfl rfl rfl (⟨_, _, rfl, rfl, ⟨_, _, rfl, rfl, rfl⟩⟩) ?hv67 ?rest67 hck6
    case hv67 =>
     intro E1
     refine (V1.indexI rfl rfl esz_36 rfl rfl hh0 lt0 ?_)
     exact rfl
    refine VP.step (p := ?pv68) rfl rfl rfl (⟨_, _, rfl, rfl, rfl⟩) ?hv68 ?rest68 hck6
    case hv68 =>
     intro E1
     refine (V1.loadPin rfl rfl tyk_3 rfl rfl lt0 ?_)
     exact rfl
    refine VP.step (p := ?pv69) rfl rfl rfl (⟨_, _, rfl, rfl, rfl⟩) ?hv69 ?rest69 hck6
    case hv69 =>
     intro E1
     refine (V1.move rfl rfl rfl lt0 ?_)
     exact rfl
    refine VP.step (p := ?pv70) rfl rfl rfl (⟨_, _, rfl, rfl, rfl⟩) ?hv70 ?rest70 hck6
    case hv70 =>
     intro E1
     refine (V1.move rfl rfl rfl lt0 ?_)
     exact rfl
    refine VP.step (p := ?pv71) rfl rfl rfl (⟨_, _, rfl, rfl, ⟨_, _, rfl, rfl, rfl⟩⟩) ?hv71 ?rest71 hck6
    case hv71 =>
     intro E1
     refine (V1.indexI rfl rfl esz_36 rfl rfl hh1 lt0 ?_)
     exact rfl
    refine VP.step (p := ?pv72) rfl rfl rfl (⟨_, _, rfl, rfl, rfl⟩) ?hv72 ?rest72 hck6
    case hv72 =>
     intro E1
     refine (V1.loadPin rfl rfl tyk_3 rfl rfl lt0 ?_)
     exact rfl
    refine VP.fin rfl (⟨_, _, rfl, rfl, ⟨_, _, rfl, rfl, ⟨_, _, rfl, rfl, ⟨_, _, rfl, rfl, ⟨_, _, rfl, rfl, rfl⟩⟩⟩⟩⟩) ?_
    refine VO.cons rfl (V1.int rfl rfl rfl rfl rfl lt0 ?_)
    refine VO.nil ?_
    refine V.cond rfl (fun hc2 => ?_) (fun hc2 => ?_)
    ·
     replace hm1 := cond_t hc2 hm1
     refine V.seq ?_
     refine V.region ?_
     refine VO.cons rfl (V1.assign rfl rfl rfl lt0 ?_)
     refine VO.nil ?_
     refine V.ret ?_
     obtain rfl := hr1 _ (Option.some.inj hm1).symm
     change some _ = some _ at hm0
     obtain rfl := Option.some.inj hm0
     exact ⟨_, [], ⟨_, _, rfl, rfl, rfl⟩, List.nil_sublist _, rfl, rfl⟩
    ·
     replace hm1 := cond_f hc2 hm1
     refine V.skip ?_
     refine V.region ?_
     refine VO.cons rfl (V1.move rfl rfl rfl lt0 ?_)
     refine VO.cons rfl (V1.int rfl rfl rfl rfl rfl lt0 ?_)
     refine VO.cons rfl (V1.assign rfl rfl rfl lt0 ?_)
     refine VO.nil ?_
     exact ⟨(m0, (IntKind.i64.wrap (i + (1 : Int))), ()), hl1 _ (Option.some.inj hm1).symm, Nat.lt_succ_self _, Keeps.mk (ks := []) rfl ⟨rfl, rfl, rfl, trivial⟩ (rfl) rfl⟩
   ·
    replace hm1 := cond_f hc1 hm1
    refine V.exit ?_
    obtain rfl := hr1 _ (Option.some.inj hm1).symm
    exact ⟨((), ()), rfl, Keeps.mk (ks := []) rfl trivial (rfl) rfl⟩
  ·
   rintro ⟨_, _⟩ rfl
   try dsimp only at hm0
   refine V.seq ?_
   refine V.region ?_
   refine VO.cons rfl (V1.assign rfl rfl rfl lt0 ?_)
   refine VO.nil ?_
   refine V.ret ?_
   obtain rfl := Option.some.inj hm0
   exact ⟨_, [], ⟨_, _, rfl, rfl, rfl⟩, List.nil_sublist _, rfl, rfl⟩

theorem ok_laws_eqCarton {ρ0 ρ1 rn : Nat} {a : Carton} {b_ : Carton} {r : Bool} (h : M.laws_eqCarton a b_ = some r) : Does Try.prog 62 [encCarton ρ0 a, encCarton ρ1 b_] [] rn (fun x H => x = .bool r ∧ H = []) := by
 have hm0 := h; clear h; unfold M.laws_eqCarton at hm0
 try dsimp only at hm0
 refine Does.intro (N := 31) Try.func62 rfl rfl rfl rfl ?_
 intro w0 S0
 refine V.seq ?_
 refine V.region ?_
 refine VO.cons rfl (V1.boxN (n := 5) rfl rfl rfl rfl rfl lt0 ?_)
 intro b0
 refine VO.cons rfl (V1.boxN (n := 5) rfl rfl rfl rfl rfl lt0 ?_)
 intro b1
 refine VO.cons rfl (V1.assign rfl rfl rfl lt0 ?_)
 refine VO.nil ?_
 refine V.seq ?_
 refine V.seq ?_
 refine V.region ?_
 refine VO.cons rfl (V1.fieldRef rfl rfl fo_67_0 rfl lt0 ?_)
 refine VO.cons rfl (V1.loadRef (k := 1) rfl rfl tyk_3 rfl rfl rfl rfl rfl lt0 ?_)
 refine VO.cons rfl (V1.fieldRef rfl rfl fo_67_0 rfl lt0 ?_)
 refine VO.cons rfl (V1.loadRef (k := 0) rfl rfl tyk_3 rfl rfl rfl rfl rfl lt0 ?_)
 refine VO.cons rfl (V1.int rfl rfl rfl rfl rfl lt0 ?_)
 refine VO.nil ?_
 refine V.keep 31 [2, 3, 9] [0, 1] (E0 := [(2, .ref b0 5 0 0), (3, .ref b1 5 0 0), (9, .bool (a.Id != b_.Id))]) (H0 := [(b1, ⟨5, [encCarton ρ1 b_]⟩), (b0, ⟨5, [encCarton ρ0 a]⟩)]) rfl (⟨_, _, rfl, rfl, ⟨_, _, rfl, rfl, ⟨_, _, rfl, rfl, rfl⟩⟩⟩) (⟨_, _, rfl, rfl, ⟨_, _, rfl, rfl, rfl⟩⟩) rfl ?_
 refine V.cond rfl (fun hc0 => ?_) (fun hc0 => ?_)
 ·
  replace hm0 := cond_t hc0 hm0
  refine V.seq ?_
  refine V.region ?_
  refine VO.cons rfl (V1.assign rfl rfl rfl lt0 ?_)
  refine VO.nil ?_
  refine V.ret ?_
  obtain rfl := Option.some.inj hm0
  exact ⟨_, [], ⟨_, _, rfl, rfl, rfl⟩, List.nil_sublist _, rfl, rfl⟩
 ·
  replace hm0 := cond_f hc0 hm0
  refine V.skip ?_
  refine V.seq ?_
  refine V.seq ?_
  refine V.region ?_
  refine VO.cons rfl (V1.fieldRef rfl rfl fo_67_1 rfl lt0 ?_)
  refine VO.cons rfl (V1.loadRef (k := 1) rfl rfl tyk_3 rfl rfl rfl rfl rfl lt0 ?_)
  refine VO.cons rfl (V1.fieldRef rfl rfl fo_67_1 rfl lt0 ?_)
  refine VO.cons rfl (V1.loadRef (k := 0) rfl rfl tyk_3 rfl rfl rfl rfl rfl lt0 ?_)
  refine VO.cons rfl (V1.int rfl rfl rfl rfl rfl lt0 ?_)
  refine VO.nil ?_
  refine V.keep 31 [2, 3, 14] [0, 1] (E0 := [(2, .ref b0 5 0 0), (3, .ref b1 5 0 0), (14, .bool (a.Shelf != b_.Shelf))]) (H0 := [(b1, ⟨5, [encCarton ρ1 b_]⟩), (b0, ⟨5, [encCarton ρ0 a]⟩)]) rfl (⟨_, _, rfl, rfl, ⟨_, _, rfl, rfl, ⟨_, _, rfl, rfl, rfl⟩⟩⟩) (⟨_, _, rfl, rfl, ⟨_, _, rfl, rfl, rfl⟩⟩) rfl ?_
  refine V.cond rfl (fun hc1 => ?_) (fun hc1 => ?_)
  ·
   replace hm0 := cond_t hc1 hm0
   refine V.seq ?_
   refine V.region ?_
   refine VO.cons rfl (V1.assign rfl rfl rfl lt0 ?_)
   refine VO.nil ?_
   refine V.ret ?_
   obtain rfl := Option.some.inj hm0
   exact ⟨_, [], ⟨_, _, rfl, rfl, rfl⟩, List.nil_sublist _, rfl, rfl⟩
  ·
   replace hm0 := cond_f hc1 hm0
   refine V.skip ?_
   refine V.seq ?_
   refine V.seq ?_
   refine V.region ?_
   refine VO.cons rfl (V1.fieldRef rfl rfl fo_67_2 rfl lt0 ?_)
   refine VO.cons rfl (V1.loadRef (k := 1) rfl rfl tyk_3 rfl rfl rfl rfl rfl lt0 ?_)
   refine VO.cons rfl (V1.fieldRef rfl rfl fo_67_2 rfl lt0 ?_)
   refine VO.cons rfl (V1.loadRef (k := 0) rfl rfl tyk_3 rfl rfl rfl rfl rfl lt0 ?_)
   refine VO.cons rfl (V1.int rfl rfl rfl rfl rfl lt0 ?_)
   refine VO.nil ?_
   refine V.keep 31 [2, 3, 19] [0, 1] (E0 := [(2, .ref b0 5 0 0), (3, .ref b1 5 0 0), (19, .bool (a.Room != b_.Room))]) (H0 := [(b1, ⟨5, [encCarton ρ1 b_]⟩), (b0, ⟨5, [encCarton ρ0 a]⟩)]) rfl (⟨_, _, rfl, rfl, ⟨_, _, rfl, rfl, ⟨_, _, rfl, rfl, rfl⟩⟩⟩) (⟨_, _, rfl, rfl, ⟨_, _, rfl, rfl, rfl⟩⟩) rfl ?_
   refine V.cond rfl (fun hc2 => ?_) (fun hc2 => ?_)
   ·
    replace hm0 := cond_t hc2 hm0
    refine V.seq ?_
    refine V.region ?_
    refine VO.cons rfl (V1.assign rfl rfl rfl lt0 ?_)
    refine VO.nil ?_
    refine V.ret ?_
    obtain rfl := Option.some.inj hm0
    exact ⟨_, [], ⟨_, _, rfl, rfl, rfl⟩, List.nil_sublist _, rfl, rfl⟩
   ·
    replace hm0 := cond_f hc2 hm0
    refine V.skip ?_
    refine V.seq ?_
    refine V.seq ?_
    replace hm0 := bindO hm0; rcases hm0 with ⟨y0, hh0, hm0⟩
    refine V.region ?_
    refine VO.cons rfl (V1.fieldRef rfl rfl fo_67_3 rfl lt0 ?_)
    refine VO.cons rfl (V1.loadRef (k := 1) rfl rfl tyk_36 rfl rfl rfl rfl rfl lt0 ?_)
    refine VO.cons rfl (V1.fieldRef rfl rfl fo_67_3 rfl lt0 ?_)
    refine VO.cons rfl (V1.loadRef (k := 0) rfl rfl tyk_36 rfl rfl rfl rfl rfl lt0 ?_)
    refine VO.cons rfl (V1.call rfl rfl rfl cok_24 rfl (ok_laws_eqIntS hh0) rfl lt0 ?_)
    rintro _ _ ⟨rfl, rfl⟩
    refine VO.cons rfl (V1.not rfl rfl rfl lt0 ?_)
    refine VO.nil ?_
    refine V.keep 31 [2, 3, 25] [0, 1] (E0 := [(2, .ref b0 5 0 0), (3, .ref b1 5 0 0), (25, .bool (!y0))]) (H0 := [(b1, ⟨5, [encCarton ρ1 b_]⟩), (b0, ⟨5, [encCarton ρ0 a]⟩)]) rfl (⟨_, _, rfl, rfl, ⟨_, _, rfl, rfl, ⟨_, _, rfl, rfl, rfl⟩⟩⟩) (⟨_, _, rfl, rfl, ⟨_, _, rfl, rfl, rfl⟩⟩) rfl ?_
    refine V.cond rfl (fun hc3 => ?_) (fun hc3 => ?_)
    ·
     replace hm0 := cond_t hc3 hm0
     refine V.seq ?_
     refine V.region ?_
     refine VO.cons rfl (V1.assign rfl rfl rfl lt0 ?_)
     refine VO.nil ?_
     refine V.ret ?_
     obtain rfl := Option.some.inj hm0
     exact ⟨_, [], ⟨_, _, rfl, rfl, rfl⟩, List.nil_sublist _, rfl, rfl⟩
    ·
     replace hm0 := cond_f hc3 hm0
     refine V.skip ?_
     refine V.seq ?_
     refine V.seq ?_
     refine V.region ?_
     refine VO.cons rfl (V1.fieldRef rfl rfl fo_67_4 rfl lt0 ?_)
     refine VO.cons rfl (V1.loadRef (k := 1) rfl rfl tyk_3 rfl rfl rfl rfl rfl lt0 ?_)
     refine VO.cons rfl (V1.fieldRef rfl rfl fo_67_4 rfl lt0 ?_)
     refine VO.cons rfl (V1.loadRef (k := 0) rfl rfl tyk_3 rfl rfl rfl rfl rfl lt0 ?_)
     refine VO.cons rfl (V1.int rfl rfl rfl rfl rfl lt0 ?_)
     refine VO.nil ?_
     refine V.keep 31 [30] [] (E0 := [(30, .bool (a.Thick != b_.Thick))]) (H0 := []) rfl (⟨_, _, rfl, rfl, rfl⟩) (rfl) rfl ?_
     refine V.cond rfl (fun hc4 => ?_) (fun hc4 => ?_)
     ·
      replace hm0 := cond_t hc4 hm0
      refine V.seq ?_
      refine V.region ?_
      refine VO.cons rfl (V1.assign rfl rfl rfl lt0 ?_)
      refine VO.nil ?_
      refine V.ret ?_
      obtain rfl := Option.some.inj hm0
      exact ⟨_, [], ⟨_, _, rfl, rfl, rfl⟩, List.nil_sublist _, rfl, rfl⟩
     ·
      replace hm0 := cond_f hc4 hm0
      refine V.skip ?_
      refine V.seq ?_
      refine V.region ?_
      refine VO.cons rfl (V1.assign rfl rfl rfl lt0 ?_)
      refine VO.nil ?_
      refine V.ret ?_
      obtain rfl := Option.some.inj hm0
      exact ⟨_, [], ⟨_, _, rfl, rfl, rfl⟩, List.nil_sublist _, rfl, rfl⟩

theorem ok_laws_eqCartonS {ρ0 σ0 ρ1 σ1 rn : Nat} {a : List Carton} {b_ : List Carton} {r : Bool} (h : M.laws_eqCartonS a b_ = some r) : Does Try.prog 25 [.vl ρ0 5 (List.map (encCarton σ0) a), .vl ρ1 5 (List.map (encCarton σ1) b_)] [] rn (fun x H => x = .bool r ∧ H = []) := by
 have hm0 := h; clear h; unfold M.laws_eqCartonS at hm0
 try dsimp only at hm0
 refine Does.intro (N := 27) Try.func25 rfl rfl rfl rfl ?_
 intro w0 S0
 refine V.seq ?_
 refine V.region ?_
 refine VO.cons rfl (V1.assign rfl rfl rfl lt0 ?_)
 refine VO.nil ?_
 refine V.seq ?_
 refine V.seq ?_
 refine V.region ?_
 refine VO.cons rfl (V1.move rfl rfl rfl lt0 ?_)
 refine VO.cons rfl (V1.lenMap rfl rfl rfl rfl rfl rfl isl_39 lt0 ?_)
 refine VO.cons rfl (V1.move rfl rfl rfl lt0 ?_)
 refine VO.cons rfl (V1.lenMap rfl rfl rfl rfl rfl rfl isl_39 lt0 ?_)
 refine VO.cons rfl (V1.int rfl rfl rfl rfl rfl lt0 ?_)
 refine VO.nil ?_
 refine V.keep 27 [0, 1, 10] [] (E0 := [(0, .vl ρ0 5 (List.map (encCarton σ0) a)), (1, .vl ρ1 5 (List.map (encCarton σ1) b_)), (10, .bool ((a.length : Int) != (b_.length : Int)))]) (H0 := []) rfl (⟨_, _, rfl, rfl, ⟨_, _, rfl, rfl, ⟨_, _, rfl, rfl, rfl⟩⟩⟩) (rfl) rfl ?_
 refine V.cond rfl (fun hc0 => ?_) (fun hc0 => ?_)
 ·
  replace hm0 := cond_t hc0 hm0
  refine V.seq ?_
  refine V.region ?_
  refine VO.cons rfl (V1.assign rfl rfl rfl lt0 ?_)
  refine VO.nil ?_
  refine V.ret ?_
  obtain rfl := Option.some.inj hm0
  exact ⟨_, [], ⟨_, _, rfl, rfl, rfl⟩, List.nil_sublist _, rfl, rfl⟩
 ·
  replace hm0 := cond_f hc0 hm0
  refine V.skip ?_
  refine V.seq ?_
  refine V.seq ?_
  refine V.region ?_
  refine VO.cons rfl (V1.assign rfl rfl rfl lt0 ?_)
  refine VO.nil ?_
  replace hm0 := bindO hm0; rcases hm0 with ⟨e0, he1, hm0⟩
  refine V.cutT (D := (Unit) × (Unit)) (fun ⟨_, _⟩ => ⟨27, [], []⟩) (fun ⟨_, _⟩ => (.inl () = e0)) ?_ ?_
  ·
   refine V.block ?_
   refine V.keep 27 [5, 0, 1] [] (E0 := [(5, .int .i64 (0 : Int)), (0, .vl ρ0 5 (List.map (encCarton σ0) a)), (1, .vl ρ1 5 (List.map (encCarton σ1) b_))]) (H0 := []) rfl (⟨_, _, rfl, rfl, ⟨_, _, rfl, rfl, ⟨_, _, rfl, rfl, rfl⟩⟩⟩) (rfl) rfl ?_
   refine V.loopE (D := Nat × (Int) × (Unit)) (fun ⟨n0, i, _⟩ => [(5, .int .i64 i)]) (fun ⟨n0, i, _⟩ => []) (fun ⟨n0, i, _⟩ => loopO (M.laws_eqCartonS_l0 a b_) n0 i = some e0) (fun ⟨n0, _, _⟩ => n0) (rounds, (0 : Int), ()) rfl he1 ?_
   rintro ⟨n0, i, _⟩ hP0
   obtain ⟨m0, y0, rfl, hm1, hl1, hr1⟩ := loop_head hP0
   unfold M.laws_eqCartonS_l0 at hm1; dsimp only at hm1
   show V _ _ _ ⟨27, [(5, .int .i64 i), (0, .vl ρ0 5 (List.map (encCarton σ0) a)), (1, .vl ρ1 5 (List.map (encCarton σ1) b_))], []⟩
   refine V.seq ?_
   refine V.seq ?_
   refine V.region ?_
   refine VO.cons rfl (V1.move rfl rfl rfl lt0 ?_)
   refine VO.cons rfl (V1.move rfl rfl rfl lt0 ?_)
   refine VO.cons rfl (V1.lenMap rfl rfl rfl rfl rfl rfl isl_39 lt0 ?_)
   refine VO.cons rfl (V1.int rfl rfl rfl rfl rfl lt0 ?_)
   refine VO.nil ?_
   refine V.cond rfl (fun hc1 => ?_) (fun hc1 => ?_)
   ·
    replace hm1 := cond_t hc1 hm1
    refine V.skip ?_
    refine V.keep 27 [0, 1, 5] [] (E0 := [(0, .vl ρ0 5 (List.map (encCarton σ0) a)), (1, .vl ρ1 5 (List.map (encCarton σ1) b_)), (5, .int .i64 i)]) (H0 := []) rfl (⟨_, _, rfl, rfl, ⟨_, _, rfl, rfl, ⟨_, _, rfl, rfl, rfl⟩⟩⟩) (rfl) rfl ?_
    refine V.seq ?_
    refine V.block ?_
    refine V.seq ?_
    replace hm1 := asrt_some hm1; rcases hm1 with ⟨hh0, hm1⟩
    replace hm1 := asrt_some hm1; rcases hm1 with ⟨hh1, hm1⟩
    replace hm1 := bindO hm1; rcases hm1 with ⟨y1, hh2, hm1⟩
    refine V.regionM 27 8 [⟨[(0, none)], [], none⟩, ⟨[(5, none)], [], none⟩, ⟨[(17, some 1), (18, some 0)], [], none⟩, ⟨[(19, some 0)], [], none⟩, ⟨[(1, none)], [], none⟩, ⟨[(5, none)], [], none⟩, ⟨[(21, some 1), (22, some 0)], [], none⟩, ⟨[(23, some 0)], [], none⟩] [(0, none), (1, none), (5, none), (20, some 4), (24, some 0)] (⟨_, rfl, ⟨_, rfl, ⟨_, rfl, ⟨_, rfl, ⟨_, rfl, ⟨_, rfl, ⟨_, rfl, ⟨_, rfl, ⟨rfl, rfl⟩⟩⟩⟩⟩⟩⟩⟩⟩) mixed_orders rfl (by decide +kernel) (fun hck6 => ?_)
    refine VP.step (p := ?pv82) rfl rfl rfl (⟨_, _, rfl, rfl, rfl⟩) ?hv82 ?rest82 hck6
    case hv82 =>
     intro E1
     refine (V1.move rfl rfl rfl lt0 ?_)
     exact rfl
    refine VP.step (p := ?pv83) rfl rfl rfl (⟨_, _, rfl, rfl, rfl⟩) ?hv83 ?rest83 hck6
    case hv83 =>
     intro E1
     refine (V1.move rfl rfl rfl lt0 ?_)
     exact rfl
    refine VP.step (p := ?pv84) rfl rfl rfl (⟨_, _, rfl, rfl, ⟨_, _, rfl, rfl, rfl⟩⟩) ?hv84 ?rest84 hck6
    case hv84 =>
     intro E1
     refine (V1.indexI rfl rfl esz_39 rfl rfl hh0 lt0 ?_)
     exact rfl
    refine VP.step (p := ?pv85) rfl rfl rfl (⟨_, _, rfl, rfl, rfl⟩) ?hv85 ?rest85 hck6
    case hv85 =>
     intro E1
     refine (V1.loadPinAll rfl rfl tyk_67 rfl rfl lt0 ?_)
     exact rfl
    refine VP.step (p := ?pv86) rfl rfl rfl (⟨_, _, rfl, rfl, rfl⟩) ?hv86 ?rest86 hck6
    case hv86 =>
     intro E1
     refine (V1.move rfl rfl rfl lt0 ?_)
     exact rfl
    refine VP.step (p := ?pv87) rfl rfl rfl (⟨_, _, rfl, rfl, rfl⟩) ?hv87 ?rest87 hck6
    case hv87 =>
     intro E1
     refine (V1.move rfl rfl rfl lt0 ?_)
     exact rfl
    refine VP.step (p := ?pv88) rfl rfl rfl (⟨_, _, rfl, rfl, ⟨_, _, rfl, rfl, rfl⟩⟩) ?hv88 ?rest88 hck6
    case hv88 =>
     intro E1
     refine (V1.indexI rfl rfl esz_39 rfl rfl hh1 lt0 ?_)
     exact rfl
    refine VP.step (p := ?pv89) rfl rfl rfl (⟨_, _, rfl, rfl, rfl⟩) ?hv89 ?rest89 hck6
    case hv89 =>
     intro E1
     refine (V1.loadPinAll rfl rfl tyk_67 rfl rfl lt0 ?_)
     exact rfl
    refine VP.fin rfl (⟨_, _, rfl, rfl, ⟨_, _, rfl, rfl, ⟨_, _, rfl, rfl, ⟨_, _, rfl, rfl, ⟨_, _, rfl, rfl, rfl⟩⟩⟩⟩⟩) ?_
    refine VO.cons rfl (V1.call rfl rfl rfl cok_62 rfl (ok_laws_eqCarton hh2) rfl lt0 ?_)
    rintro _ _ ⟨rfl, rfl⟩
    refine VO.cons rfl (V1.not rfl rfl rfl lt0 ?_)
    refine VO.nil ?_
    refine V.cond rfl (fun hc2 => ?_) (fun hc2 => ?_)
    ·
     replace hm1 := cond_t hc2 hm1
     refine V.seq ?_
     refine V.region ?_
     refine VO.cons rfl (V1.assign rfl rfl rfl lt0 ?_)
     refine VO.nil ?_
     refine V.ret ?_
     obtain rfl := hr1 _ (Option.some.inj hm1).symm
     change some _ = some _ at hm0
     obtain rfl := Option.some.inj hm0
     exact ⟨_, [], ⟨_, _, rfl, rfl, rfl⟩, List.nil_sublist _, rfl, rfl⟩
    ·
     replace hm1 := cond_f hc2 hm1
     refine V.skip ?_
     refine V.keep 27 [0, 1, 5] [] (E0 := [(0, .vl ρ0 5 (List.map (encCarton σ0) a)), (1, .vl ρ1 5 (List.map (encCarton σ1) b_)), (5, .int .i64 i)]) (H0 := []) rfl (⟨_, _, rfl, rfl, ⟨_, _, rfl, rfl, ⟨_, _, rfl, rfl, rfl⟩⟩⟩) (rfl) rfl ?_
     refine V.region ?_
     refine VO.cons rfl (V1.move rfl rfl rfl lt0 ?_)
     refine VO.cons rfl (V1.int rfl rfl rfl rfl rfl lt0 ?_)
     refine VO.cons rfl (V1.assign rfl rfl rfl lt0 ?_)
     refine VO.nil ?_
     exact ⟨(m0, (IntKind.i64.wrap (i + (1 : Int))), ()), hl1 _ (Option.some.inj hm1).symm, Nat.lt_succ_self _, Keeps.mk (ks := []) rfl ⟨rfl, rfl, rfl, trivial⟩ (rfl) rfl⟩
   ·
    replace hm1 := cond_f hc1 hm1
    refine V.exit ?_
    obtain rfl := hr1 _ (Option.some.inj hm1).symm
    exact ⟨((), ()), rfl, Keeps.mk (ks := []) rfl trivial (rfl) rfl⟩
  ·
   rintro ⟨_, _⟩ rfl
   try dsimp only at hm0
   refine V.seq ?_
   refine V.region ?_
   refine VO.cons rfl (V1.assign rfl rfl rfl lt0 ?_)
   refine VO.nil ?_
   refine V.ret ?_
   obtain rfl := Option.some.inj hm0
   exact ⟨_, [], ⟨_, _, rfl, rfl, rfl⟩, List.nil_sublist _, rfl, rfl⟩

theorem ok_laws_markIntS {rn : Nat} {oq : Option Nat} {a : List Int} {k : Int} {r : Int × List Int} (h : M.laws_markIntS a k = some r) (hoq : oq = none → a = []) : Does Try.prog 27 [optS 1 oq (List.length a), .int .i64 k] (optH 1 oq (List.map encInt a)) rn (fun x H => x = .int .i64 r.1 ∧ H = optH 1 oq (List.map encInt r.2)) := by
 have hm0 := h; clear h; unfold M.laws_markIntS at hm0
 try dsimp only at hm0
 refine Does.intro (N := 19) Try.func27 rfl rfl rfl rfl ?_
 intro w0 S0
 rcases oq with _ | oq
 ·
  refine V.seq ?_
  refine V.region ?_
  refine VO.cons rfl (V1.assign rfl rfl rfl lt0 ?_)
  refine VO.nil ?_
  refine V.seq ?_
  refine V.seq ?_
  refine V.region ?_
  refine VO.cons rfl (V1.assign rfl rfl rfl lt0 ?_)
  refine VO.nil ?_
  replace hm0 := bindO hm0; rcases hm0 with ⟨e0, he1, hm0⟩
  refine V.cutT (D := (List Int × Int) × (Unit)) (fun ⟨⟨a0, k0⟩, _⟩ => ⟨19, [(0, .vl rn 1 (List.map encInt a0)), (1, .int .i64 k0)], []⟩) (fun ⟨⟨a0, k0⟩, _⟩ => ((a0, k0) = e0)) ?_ ?_
  ·
   refine V.block ?_
   refine V.keep 19 [0, 1, 5] [] (E0 := [(0, .nils), (1, .int .i64 k), (5, .int .i64 (0 : Int))]) (H0 := []) rfl (⟨_, _, rfl, rfl, ⟨_, _, rfl, rfl, ⟨_, _, rfl, rfl, rfl⟩⟩⟩) (rfl) rfl ?_
   refine V.loopE (D := Nat × (List Int × Int × Int) × (Unit)) (fun ⟨n0, ⟨a1, k1, i⟩, _⟩ => [(0, .nils), (1, .int .i64 k1), (5, .int .i64 i)]) (fun ⟨n0, ⟨a1, k1, i⟩, _⟩ => []) (fun ⟨n0, ⟨a1, k1, i⟩, _⟩ => loopO (M.laws_markIntS_l0) n0 (a1, k1, i) = some e0 ∧ a1 = []) (fun ⟨n0, _, _⟩ => n0) (rounds, (a, k, (0 : Int)), ()) rfl ⟨he1, (hoq rfl)⟩ ?_
   rintro ⟨n0, ⟨a1, k1, i⟩, _⟩ ⟨hP0, hn_a1⟩
   obtain ⟨m0, y0, rfl, hm1, hl1, hr1⟩ := loop_head hP0
   unfold M.laws_markIntS_l0 at hm1; dsimp only at hm1
   show V _ _ _ ⟨19, [(0, .nils), (1, .int .i64 k1), (5, .int .i64 i)], []⟩
   refine V.seq ?_
   refine V.seq ?_
   refine V.region ?_
   refine VO.cons rfl (V1.move rfl rfl rfl lt0 ?_)
   refine VO.cons rfl (V1.move rfl rfl rfl lt0 ?_)
   refine VO.cons rfl (V1.lenNilsE (l := a1) hn_a1 rfl rfl rfl rfl rfl rfl isl_36 lt0 ?_)
   refine VO.cons rfl (V1.int rfl rfl rfl rfl rfl lt0 ?_)
   refine VO.nil ?_
   refine V.cond rfl (fun hc0 => ?_) (fun hc0 => ?_)
   ·
    replace hm1 := cond_t hc0 hm1
    refine V.skip ?_
    refine V.keep 19 [0, 1, 5] [] (E0 := [(0, .nils), (1, .int .i64 k1), (5, .int .i64 i)]) (H0 := []) rfl (⟨_, _, rfl, rfl, ⟨_, _, rfl, rfl, ⟨_, _, rfl, rfl, rfl⟩⟩⟩) (rfl) rfl ?_
    refine V.seq ?_
    refine V.block ?_
    refine V.seq ?_
    replace hm1 := asrt_some hm1; rcases hm1 with ⟨hh0, hm1⟩
    refine V.region ?_
    refine VO.cons rfl (V1.move rfl rfl rfl lt0 ?_)
    refine VO.cons rfl (V1.move rfl rfl rfl lt0 ?_)
    refine VO.cons rfl (V1.move rfl rfl rfl lt0 ?_)
    refine VO.weakenK (Keeps.nilsE (l := a1) 12 rn 1 encInt hn_a1 rfl rfl) ?_
    refine VO.cons rfl (V1.indexI rfl rfl esz_36 rfl rfl hh0 lt0 ?_)
    exact (nilsNo hn_a1 hh0).elim
   ·
    replace hm1 := cond_f hc0 hm1
    refine V.exit ?_
    obtain rfl := hr1 _ (Option.some.inj hm1).symm
    exact ⟨((a1, k1), ()), rfl, Keeps.trans (Keeps.nilsE (l := a1) 0 rn 1 encInt hn_a1 rfl rfl) (Keeps.mk (ks := []) rfl ⟨rfl, rfl, trivial⟩ (rfl) rfl)⟩
  ·
   rintro ⟨⟨a0, k0⟩, _⟩ rfl
   try dsimp only at hm0
   refine V.seq ?_
   refine V.region ?_
   refine VO.cons rfl (V1.move rfl rfl rfl lt0 ?_)
   refine VO.cons rfl (V1.assign rfl rfl rfl lt0 ?_)
   refine VO.nil ?_
   refine V.keep 19 [4] [] (E0 := [(4, .int .i64 k0)]) (H0 := []) rfl (⟨_, _, rfl, rfl, rfl⟩) (rfl) rfl ?_
   refine V.ret ?_
   obtain rfl := Option.some.inj hm0
   exact ⟨_, _, ⟨_, _, rfl, rfl, rfl⟩, List.Sublist.refl _, rfl, rfl⟩
 ·
  refine V.seq ?_
  refine V.region ?_
  refine VO.cons rfl (V1.assign rfl rfl rfl lt0 ?_)
  refine VO.nil ?_
  refine V.seq ?_
  refine V.seq ?_
  refine V.region ?_
  refine VO.cons rfl (V1.assign rfl rfl rfl lt0 ?_)
  refine VO.nil ?_
  replace hm0 := bindO hm0; rcases hm0 with ⟨e0, he1, hm0⟩
  refine V.cutT (D := (List Int × Int) × (Unit)) (fun ⟨⟨a0, k0⟩, _⟩ => ⟨19, [(0, .sref oq 1 0 (List.length a0)), (1, .int .i64 k0)], [(oq, ⟨1, List.map encInt a0⟩)]⟩) (fun ⟨⟨a0, k0⟩, _⟩ => ((a0, k0) = e0)) ?_ ?_
  ·
   refine V.block ?_
   refine V.keep 19 [0, 1, 5] [0] (E0 := [(0, .sref oq 1 0 (List.length a)), (1, .int .i64 k), (5, .int .i64 (0 : Int))]) (H0 := [(oq, ⟨1, List.map encInt a⟩)]) rfl (⟨_, _, rfl, rfl, ⟨_, _, rfl, rfl, ⟨_, _, rfl, rfl, rfl⟩⟩⟩) (⟨_, _, rfl, rfl, rfl⟩) rfl ?_
   refine V.loopE (D := Nat × (List Int × Int × Int) × (Unit)) (fun ⟨n0, ⟨a1, k1, i⟩, _⟩ => [(0, .sref oq 1 0 (List.length a1)), (1, .int .i64 k1), (5, .int .i64 i)]) (fun ⟨n0, ⟨a1, k1, i⟩, _⟩ => [(oq, ⟨1, List.map encInt a1⟩)]) (fun ⟨n0, ⟨a1, k1, i⟩, _⟩ => loopO (M.laws_markIntS_l0) n0 (a1, k1, i) = some e0) (fun ⟨n0, _, _⟩ => n0) (rounds, (a, k, (0 : Int)), ()) rfl he1 ?_
   rintro ⟨n0, ⟨a1, k1, i⟩, _⟩ hP0
   obtain ⟨m0, y0, rfl, hm1, hl1, hr1⟩ := loop_head hP0
   unfold M.laws_markIntS_l0 at hm1; dsimp only at hm1
   show V _ _ _ ⟨19, [(0, .sref oq 1 0 (List.length a1)), (1, .int .i64 k1), (5, .int .i64 i)], [(oq, ⟨1, List.map encInt a1⟩)]⟩
   refine V.seq ?_
   refine V.seq ?_
   refine V.region ?_
   refine VO.cons rfl (V1.move rfl rfl rfl lt0 ?_)
   refine VO.cons rfl (V1.move rfl rfl rfl lt0 ?_)
   refine VO.cons rfl (V1.lenSref rfl rfl rfl rfl rfl rfl isl_36 lt0 ?_)
   refine VO.cons rfl (V1.int rfl rfl rfl rfl rfl lt0 ?_)
   refine VO.nil ?_
   refine V.cond rfl (fun hc0 => ?_) (fun hc0 => ?_)
   ·
    replace hm1 := cond_t hc0 hm1
    refine V.skip ?_
    refine V.keep 19 [0, 1, 5] [0] (E0 := [(0, .sref oq 1 0 (List.length a1)), (1, .int .i64 k1), (5, .int .i64 i)]) (H0 := [(oq, ⟨1, List.map encInt a1⟩)]) rfl (⟨_, _, rfl, rfl, ⟨_, _, rfl, rfl, ⟨_, _, rfl, rfl, rfl⟩⟩⟩) (⟨_, _, rfl, rfl, rfl⟩) rfl ?_
    refine V.seq ?_
    refine V.block ?_
    refine V.seq ?_
    replace hm1 := asrt_some hm1; rcases hm1 with ⟨hh0, hm1⟩
    refine V.region ?_
    refine VO.cons rfl (V1.move rfl rfl rfl lt0 ?_)
    refine VO.cons rfl (V1.move rfl rfl rfl lt0 ?_)
    refine VO.cons rfl (V1.move rfl rfl rfl lt0 ?_)
    refine VO.cons rfl (V1.indexSr rfl rfl esz_36 rfl rfl hh0 lt0 ?_)
    refine VO.cons rfl (V1.storeMap (k := 0) (f := encInt) (x := k1) rfl rfl tyk_3 rfl rfl (by simpa using natLt hh0.1 hh0.2) rfl rfl ?_)
    refine VO.weakenK (Keeps.say 0 (y := .sref oq 1 0 (List.length (a1.set (Int.toNat i) k1))) rfl (by simp [optS])) ?_
    refine VO.nil ?_
    refine V.region ?_
    refine VO.cons rfl (V1.move rfl rfl rfl lt0 ?_)
    refine VO.cons rfl (V1.int rfl rfl rfl rfl rfl lt0 ?_)
    refine VO.cons rfl (V1.assign rfl rfl rfl lt0 ?_)
    refine VO.nil ?_
    refine V.keep 19 [0, 1, 5] [0] (E0 := [(0, .sref oq 1 0 (List.length (a1.set (Int.toNat i) k1))), (1, .int .i64 (IntKind.i64.wrap (k1 + (1 : Int)))), (5, .int .i64 i)]) (H0 := [(oq, ⟨1, List.map encInt (a1.set (Int.toNat i) k1)⟩)]) rfl (⟨_, _, rfl, rfl, ⟨_, _, rfl, rfl, ⟨_, _, rfl, rfl, rfl⟩⟩⟩) (⟨_, _, rfl, rfl, rfl⟩) rfl ?_
    refine V.region ?_
    refine VO.cons rfl (V1.move rfl rfl rfl lt0 ?_)
    refine VO.cons rfl (V1.int rfl rfl rfl rfl rfl lt0 ?_)
    refine VO.cons rfl (V1.assign rfl rfl rfl lt0 ?_)
    refine VO.nil ?_
    exact ⟨(m0, ((a1.set (Int.toNat i) k1), (IntKind.i64.wrap (k1 + (1 : Int))), (IntKind.i64.wrap (i + (1 : Int)))), ()), hl1 _ (Option.some.inj hm1).symm, Nat.lt_succ_self _, Keeps.mk (ks := [0]) rfl ⟨(someSref (by simp)), rfl, rfl, trivial⟩ (⟨_, _, rfl, rfl, rfl⟩) rfl⟩
   ·
    replace hm1 := cond_f hc0 hm1
    refine V.exit ?_
    obtain rfl := hr1 _ (Option.some.inj hm1).symm
    exact ⟨((a1, k1), ()), rfl, Keeps.mk (ks := [0]) rfl ⟨(someSref (by simp)), rfl, trivial⟩ (⟨_, _, rfl, rfl, rfl⟩) rfl⟩
  ·
   rintro ⟨⟨a0, k0⟩, _⟩ rfl
   try dsimp only at hm0
   refine V.seq ?_
   refine V.region ?_
   refine VO.cons rfl (V1.move rfl rfl rfl lt0 ?_)
   refine VO.cons rfl (V1.assign rfl rfl rfl lt0 ?_)
   refine VO.nil ?_
   refine V.keep 19 [4] [0] (E0 := [(4, .int .i64 k0)]) (H0 := [(oq, ⟨1, List.map encInt a0⟩)]) rfl (⟨_, _, rfl, rfl, rfl⟩) (⟨_, _, rfl, rfl, rfl⟩) rfl ?_
   refine V.ret ?_
   obtain rfl := Option.some.inj hm0
   exact ⟨_, _, ⟨_, _, rfl, rfl, rfl⟩, List.Sublist.refl _, rfl, rfl⟩

theorem ok_laws_markCartonS {rn : Nat} {oq : Option Nat} {tq : List PV} {oz : List (Nat × Obj')} {a : List Carton} {k : Int} {r : Int × List Carton} (h : M.laws_markCartonS a k = some r) (hoq : oq = none → a = []) (hdq : Deep 1 (fun c_ : Carton => List.map encInt c_.Files) tq oz a) : Does Try.prog 26 [optS 5 oq (List.length a), .int .i64 k] (optH 5 oq (deepC cellCarton tq a) ++ oz) rn (fun x H => ∃ (tr_ : List PV) (or_ : List (Nat × Obj')), Deep 1 (fun c_ : Carton => List.map encInt c_.Files) tr_ or_ r.2 ∧ x = .int .i64 r.1 ∧ H = (optH 5 oq (deepC cellCarton tr_ r.2) ++ or_)) := by
 have hm0 := h; clear h; unfold M.laws_markCartonS at hm0
 try dsimp only at hm0
 refine Does.intro (N := 48) Try.func26 rfl rfl rfl rfl ?_
 intro w0 S0
 rcases oq with _ | oq
 ·
  obtain ⟨rfl, rfl⟩ := Deep.nil (hoq rfl) hdq
  refine V.seq ?_
  refine V.region ?_
  refine VO.cons rfl (V1.assign rfl rfl rfl lt0 ?_)
  refine VO.nil ?_
  refine V.seq ?_
  refine V.seq ?_
  refine V.region ?_
  refine VO.cons rfl (V1.assign rfl rfl rfl lt0 ?_)
  refine VO.nil ?_
  replace hm0 := bindO hm0; rcases hm0 with ⟨e0, he1, hm0⟩
  refine V.cutT (D := (List Carton × Int) × (Unit)) (fun ⟨⟨a0, k0⟩, _⟩ => ⟨48, [(0, .nils), (1, .int .i64 k0)], []⟩) (fun ⟨⟨a0, k0⟩, _⟩ => ((a0, k0) = e0) ∧ a0 = []) ?_ ?_
  ·
   refine V.block ?_
   refine V.keep 48 [0, 1, 5] [] (E0 := [(0, .nils), (1, .int .i64 k), (5, .int .i64 (0 : Int))]) (H0 := []) rfl (⟨_, _, rfl, rfl, ⟨_, _, rfl, rfl, ⟨_, _, rfl, rfl, rfl⟩⟩⟩) (rfl) rfl ?_
   refine V.loopE (D := Nat × (List Carton × Int × Int) × (Unit)) (fun ⟨n0, ⟨a1, k1, i⟩, _⟩ => [(0, .nils), (1, .int .i64 k1), (5, .int .i64 i)]) (fun ⟨n0, ⟨a1, k1, i⟩, _⟩ => []) (fun ⟨n0, ⟨a1, k1, i⟩, _⟩ => loopO (M.laws_markCartonS_l0) n0 (a1, k1, i) = some e0 ∧ a1 = []) (fun ⟨n0, _, _⟩ => n0) (rounds, (a, k, (0 : Int)), ()) rfl ⟨he1, (hoq rfl)⟩ ?_
   rintro ⟨n0, ⟨a1, k1, i⟩, _⟩ ⟨hP0, hn_a1⟩
   obtain ⟨m0, y0, rfl, hm1, hl1, hr1⟩ := loop_head hP0
   unfold M.laws_markCartonS_l0 at hm1; dsimp only at hm1
   show V _ _ _ ⟨48, [(0, .nils), (1, .int .i64 k1), (5, .int .i64 i)], []⟩
   refine V.seq ?_
   refine V.seq ?_
   refine V.region ?_
   refine VO.cons rfl (V1.move rfl rfl rfl lt0 ?_)
   refine VO.cons rfl (V1.move rfl rfl rfl lt0 ?_)
   refine VO.cons rfl (V1.lenNilsE (l := a1) hn_a1 rfl rfl rfl rfl rfl rfl isl_39 lt0 ?_)
   refine VO.cons rfl (V1.int rfl rfl rfl rfl rfl lt0 ?_)
   refine VO.nil ?_
   refine V.cond rfl (fun hc0 => ?_) (fun hc0 => ?_)
   ·
    replace hm1 := cond_t hc0 hm1
    refine V.skip ?_
    refine V.keep 48 [0, 1, 5] [] (E0 := [(0, .nils), (1, .int .i64 k1), (5, .int .i64 i)]) (H0 := []) rfl (⟨_, _, rfl, rfl, ⟨_, _, rfl, rfl, ⟨_, _, rfl, rfl, rfl⟩⟩⟩) (rfl) rfl ?_
    refine V.seq ?_
    refine V.block ?_
    refine V.seq ?_
    replace hm1 := asrt_some hm1; rcases hm1 with ⟨hh0, hm1⟩
    refine V.region ?_
    refine VO.cons rfl (V1.move rfl rfl rfl lt0 ?_)
    refine VO.cons rfl (V1.move rfl rfl rfl lt0 ?_)
    refine VO.cons rfl (V1.move rfl rfl rfl lt0 ?_)
    refine VO.weakenK (Keeps.nilsE (l := a1) 12 rn 5 (encCarton rn) hn_a1 rfl rfl) ?_
    refine VO.cons rfl (V1.indexI rfl rfl esz_39 rfl rfl hh0 lt0 ?_)
    refine VO.cons rfl (V1.fieldPin rfl rfl fo_67_0 rfl lt0 ?_)
    exact (nilsNo hn_a1 hh0).elim
   ·
    replace hm1 := cond_f hc0 hm1
    refine V.exit ?_
    obtain rfl := hr1 _ (Option.some.inj hm1).symm
    exact ⟨((a1, k1), ()), ⟨rfl, hn_a1⟩, Keeps.mk (ks := []) rfl ⟨rfl, rfl, trivial⟩ (rfl) rfl⟩
  ·
   rintro ⟨⟨a0, k0⟩, _⟩ ⟨rfl, hn_a0⟩
   try dsimp only at hm0
   refine V.seq ?_
   refine V.region ?_
   refine VO.cons rfl (V1.move rfl rfl rfl lt0 ?_)
   refine VO.cons rfl (V1.assign rfl rfl rfl lt0 ?_)
   refine VO.nil ?_
   refine V.keep 48 [4] [] (E0 := [(4, .int .i64 k0)]) (H0 := []) rfl (⟨_, _, rfl, rfl, rfl⟩) (rfl) rfl ?_
   refine V.ret ?_
   obtain rfl := Option.some.inj hm0
   exact ⟨_, _, ⟨_, _, rfl, rfl, rfl⟩, List.Sublist.refl _, [], [], (Deep.ofNil hn_a0), rfl, rfl⟩
 ·
  refine V.seq ?_
  refine V.region ?_
  refine VO.cons rfl (V1.assign rfl rfl rfl lt0 ?_)
  refine VO.nil ?_
  refine V.seq ?_
  refine V.seq ?_
  refine V.region ?_
  refine VO.cons rfl (V1.assign rfl rfl rfl lt0 ?_)
  refine VO.nil ?_
  replace hm0 := bindO hm0; rcases hm0 with ⟨e0, he1, hm0⟩
  refine V.cutT (D := (List Carton × Int) × (List PV × (List (Nat × Obj')))) (fun ⟨⟨a0, k0⟩, ⟨ts_76, os_76⟩⟩ => ⟨48, [(0, .sref oq 5 0 (List.length a0)), (1, .int .i64 k0)], ([(oq, ⟨5, deepC cellCarton ts_76 a0⟩)]) ++ os_76⟩) (fun ⟨⟨a0, k0⟩, ⟨ts_76, os_76⟩⟩ => ((a0, k0) = e0) ∧ Deep 1 (fun c_ : Carton => List.map encInt c_.Files) ts_76 os_76 a0) ?_ ?_
  ·
   refine V.block ?_
   refine V.keepT 48 [0, 1, 5] [0] (E0 := [(0, .sref oq 5 0 (List.length a)), (1, .int .i64 k), (5, .int .i64 (0 : Int))]) (A := [(oq, ⟨5, deepC cellCarton tq a⟩)]) (T := oz) (H0 := [(oq, ⟨5, deepC cellCarton tq a⟩)]) (T' := oz) rfl (⟨_, _, rfl, rfl, ⟨_, _, rfl, rfl, ⟨_, _, rfl, rfl, rfl⟩⟩⟩) rfl (⟨_, _, rfl, rfl, rfl⟩) rfl (List.Sublist.refl _) ?_
   refine V.loopT (D := Nat × (List Carton × Int × Int) × (List PV × (List (Nat × Obj')))) (fun ⟨n0, ⟨a1, k1, i⟩, ⟨ts_77, os_77⟩⟩ => [(0, .sref oq 5 0 (List.length a1)), (1, .int .i64 k1), (5, .int .i64 i)]) (fun ⟨n0, ⟨a1, k1, i⟩, ⟨ts_77, os_77⟩⟩ => ([(oq, ⟨5, deepC cellCarton ts_77 a1⟩)]) ++ os_77) (fun ⟨n0, ⟨a1, k1, i⟩, ⟨ts_77, os_77⟩⟩ => loopO (M.laws_markCartonS_l0) n0 (a1, k1, i) = some e0 ∧ Deep 1 (fun c_ : Carton => List.map encInt c_.Files) ts_77 os_77 a1) (fun ⟨n0, _, _⟩ => n0) (rounds, (a, k, (0 : Int)), (tq, oz)) rfl ⟨he1, hdq⟩ ?_
   rintro ⟨n0, ⟨a1, k1, i⟩, ⟨ts_77, os_77⟩⟩ ⟨hP0, hd_77⟩
   obtain ⟨m0, y0, rfl, hm1, hl1, hr1⟩ := loop_head hP0
   unfold M.laws_markCartonS_l0 at hm1; dsimp only at hm1
   show V _ _ _ ⟨48, [(0, .sref oq 5 0 (List.length a1)), (1, .int .i64 k1), (5, .int .i64 i)], (([(oq, ⟨5, deepC cellCarton ts_77 a1⟩)] : List (Nat × Obj')) ++ os_77)⟩
   refine V.seq ?_
   refine V.seq ?_
   refine V.region ?_
   refine VO.cons rfl (V1.move rfl rfl rfl lt0 ?_)
   refine VO.cons rfl (V1.move rfl rfl rfl lt0 ?_)
   refine VO.cons rfl (V1.lenSref rfl rfl rfl rfl rfl rfl isl_39 lt0 ?_)
   refine VO.cons rfl (V1.int rfl rfl rfl rfl rfl lt0 ?_)
   refine VO.nil ?_
   refine V.cond rfl (fun hc0 => ?_) (fun hc0 => ?_)
   ·
    replace hm1 := cond_t hc0 hm1
    refine V.skip ?_
    refine V.keepT 48 [0, 1, 5] [0] (E0 := [(0, .sref oq 5 0 (List.length a1)), (1, .int .i64 k1), (5, .int .i64 i)]) (A := [(oq, ⟨5, deepC cellCarton ts_77 a1⟩)]) (T := os_77) (H0 := [(oq, ⟨5, deepC cellCarton ts_77 a1⟩)]) (T' := os_77) rfl (⟨_, _, rfl, rfl, ⟨_, _, rfl, rfl, ⟨_, _, rfl, rfl, rfl⟩⟩⟩) rfl (⟨_, _, rfl, rfl, rfl⟩) rfl (List.Sublist.refl _) ?_
    refine V.seq ?_
    refine V.block ?_
    refine V.seq ?_
    replace hm1 := asrt_some hm1; rcases hm1 with ⟨hh0, hm1⟩
    refine V.region ?_
    refine VO.cons rfl (V1.move rfl rfl rfl lt0 ?_)
    refine VO.cons rfl (V1.move rfl rfl rfl lt0 ?_)
    refine VO.cons rfl (V1.move rfl rfl rfl lt0 ?_)
    refine VO.cons rfl (V1.indexSr rfl rfl esz_39 rfl rfl hh0 lt0 ?_)
    refine VO.cons rfl (V1.fieldRef rfl rfl fo_67_0 rfl lt0 ?_)
    refine VO.cons rfl (V1.storeDeepCell (inn := (fun c_ : Carton => List.map encInt c_.Files)) (cell := cellCarton) (ts := ts_77) (xs := a1) (k := 0) cokCarton (⟨k1, (a1.getD (Int.toNat i) default).Shelf, (a1.getD (Int.toNat i) default).Room, (a1.getD (Int.toNat i) default).Files, (a1.getD (Int.toNat i) default).Thick⟩ : Carton) rfl rfl tyk_3 rfl rfl hd_77 (by simpa using natLt hh0.1 hh0.2) rfl rfl rfl rfl (fun _ => rfl) ?_)
    have hd_78 := Deep.setSame (i := (Int.toNat i)) (⟨k1, (a1.getD (Int.toNat i) default).Shelf, (a1.getD (Int.toNat i) default).Room, (a1.getD (Int.toNat i) default).Files, (a1.getD (Int.toNat i) default).Thick⟩ : Carton) rfl hd_77
    refine VO.weakenK (Keeps.say 0 (y := .sref oq 5 0 (List.length (a1.set (Int.toNat i) (⟨k1, (a1.getD (Int.toNat i) default).Shelf, (a1.getD (Int.toNat i) default).Room, (a1.getD (Int.toNat i) default).Files, (a1.getD (Int.toNat i) default).Thick⟩ : Carton)))) rfl (by simp [optS])) ?_
    refine VO.nil ?_
    refine V.keepT 48 [0, 1, 5] [0] (E0 := [(0, .sref oq 5 0 (List.length (a1.set (Int.toNat i) (⟨k1, (a1.getD (Int.toNat i) default).Shelf, (a1.getD (Int.toNat i) default).Room, (a1.getD (Int.toNat i) default).Files, (a1.getD (Int.toNat i) default).Thick⟩ : Carton)))), (1, .int .i64 k1), (5, .int .i64 i)]) (A := [(oq, ⟨5, deepC cellCarton ts_77 (a1.set (Int.toNat i) (⟨k1, (a1.getD (Int.toNat i) default).Shelf, (a1.getD (Int.toNat i) default).Room, (a1.getD (Int.toNat i) default).Files, (a1.getD (Int.toNat i) default).Thick⟩ : Carton))⟩)]) (T := os_77) (H0 := [(oq, ⟨5, deepC cellCarton ts_77 (a1.set (Int.toNat i) (⟨k1, (a1.getD (Int.toNat i) default).Shelf, (a1.getD (Int.toNat i) default).Room, (a1.getD (Int.toNat i) default).Files, (a1.getD (Int.toNat i) default).Thick⟩ : Carton))⟩)]) (T' := os_77) rfl (⟨_, _, rfl, rfl, ⟨_, _, rfl, rfl, ⟨_, _, rfl, rfl, rfl⟩⟩⟩) rfl (⟨_, _, rfl, rfl, rfl⟩) rfl (List.Sublist.refl _) ?_
    refine V.seq ?_
    refine V.region ?_
    refine VO.cons rfl (V1.move rfl rfl rfl lt0 ?_)
    refine VO.cons rfl (V1.int rfl rfl rfl rfl rfl lt0 ?_)
    refine VO.cons rfl (V1.assign rfl rfl rfl lt0 ?_)
    refine VO.nil ?_
    refine V.seq ?_
    replace hm1 := asrt_some hm1; rcases hm1 with ⟨hh1, hm1⟩
    refine V.region ?_
    refine VO.cons rfl (V1.move rfl rfl rfl lt0 ?_)
    refine VO.cons rfl (V1.move rfl rfl rfl lt0 ?_)
    refine VO.cons rfl (V1.move rfl rfl rfl lt0 ?_)
    refine VO.cons rfl (V1.indexSr rfl rfl esz_39 rfl rfl hh1 lt0 ?_)
    refine VO.cons rfl (V1.fieldRef rfl rfl fo_67_1 rfl lt0 ?_)
    refine VO.cons rfl (V1.storeDeepCell (inn := (fun c_ : Carton => List.map encInt c_.Files)) (cell := cellCarton) (ts := ts_77) (xs := (a1.set (Int.toNat i) (⟨k1, (a1.getD (Int.toNat i) default).Shelf, (a1.getD (Int.toNat i) default).Room, (a1.getD (Int.toNat i) default).Files, (a1.getD (Int.toNat i) default).Thick⟩ : Carton))) (k := 0) cokCarton (⟨((a1.set (Int.toNat i) (⟨k1, (a1.getD (Int.toNat i) default).Shelf, (a1.getD (Int.toNat i) default).Room, (a1.getD (Int.toNat i) default).Files, (a1.getD (Int.toNat i) default).Thick⟩ : Carton)).getD (Int.toNat i) default).Id, (IntKind.i64.wrap (k1 + (1 : Int))), ((a1.set (Int.toNat i) (⟨k1, (a1.getD (Int.toNat i) default).Shelf, (a1.getD (Int.toNat i) default).Room, (a1.getD (Int.toNat i) default).Files, (a1.getD (Int.toNat i) default).Thick⟩ : Carton)).getD (Int.toNat i) default).Room, ((a1.set (Int.toNat i) (⟨k1, (a1.getD (Int.toNat i) default).Shelf, (a1.getD (Int.toNat i) default).Room, (a1.getD (Int.toNat i) default).Files, (a1.getD (Int.toNat i) default).Thick⟩ : Carton)).getD (Int.toNat i) default).Files, ((a1.set (Int.toNat i) (⟨k1, (a1.getD (Int.toNat i) default).Shelf, (a1.getD (Int.toNat i) default).Room, (a1.getD (Int.toNat i) default).Files, (a1.getD (Int.toNat i) default).Thick⟩ : Carton)).getD (Int.toNat i) default).Thick⟩ : Carton) rfl rfl tyk_3 rfl rfl hd_78 (by simpa using natLt hh1.1 hh1.2) rfl rfl rfl rfl (fun _ => rfl) ?_)
    have hd_79 := Deep.setSame (i := (Int.toNat i)) (⟨((a1.set (Int.toNat i) (⟨k1, (a1.getD (Int.toNat i) default).Shelf, (a1.getD (Int.toNat i) default).Room, (a1.getD (Int.toNat i) default).Files, (a1.getD (Int.toNat i) default).Thick⟩ : Carton)).getD (Int.toNat i) default).Id, (IntKind.i64.wrap (k1 + (1 : Int))), ((a1.set (Int.toNat i) (⟨k1, (a1.getD (Int.toNat i) default).Shelf, (a1.getD (Int.toNat i) default).Room, (a1.getD (Int.toNat i) default).Files, (a1.getD (Int.toNat i) default).Thick⟩ : Carton)).getD (Int.toNat i) default).Room, ((a1.set (Int.toNat i) (⟨k1, (a1.getD (Int.toNat i) default).Shelf, (a1.getD (Int.toNat i) default).Room, (a1.getD (Int.toNat i) default).Files, (a1.getD (Int.toNat i) default).Thick⟩ : Carton)).getD (Int.toNat i) default).Files, ((a1.set (Int.toNat i) (⟨k1, (a1.getD (Int.toNat i) default).Shelf, (a1.getD (Int.toNat i) default).Room, (a1.getD (Int.toNat i) default).Files, (a1.getD (Int.toNat i) default).Thick⟩ : Carton)).getD (Int.toNat i) default).Thick⟩ : Carton) rfl hd_78
    have hu_79 : ((a1.set (Int.toNat i) (⟨k1, (a1.getD (Int.toNat i) default).Shelf, (a1.getD (Int.toNat i) default).Room, (a1.getD (Int.toNat i) default).Files, (a1.getD (Int.toNat i) default).Thick⟩ : Carton)).set (Int.toNat i) (⟨((a1.set (Int.toNat i) (⟨k1, (a1.getD (Int.toNat i) default).Shelf, (a1.getD (Int.toNat i) default).Room, (a1.getD (Int.toNat i) default).Files, (a1.getD (Int.toNat i) default).Thick⟩ : Carton)).getD (Int.toNat i) default).Id, (IntKind.i64.wrap (k1 + (1 : Int))), ((a1.set (Int.toNat i) (⟨k1, (a1.getD (Int.toNat i) default).Shelf, (a1.getD (Int.toNat i) default).Room, (a1.getD (Int.toNat i) default).Files, (a1.getD (Int.toNat i) default).Thick⟩ : Carton)).getD (Int.toNat i) default).Room, ((a1.set (Int.toNat i) (⟨k1, (a1.getD (Int.toNat i) default).Shelf, (a1.getD (Int.toNat i) default).Room, (a1.getD (Int.toNat i) default).Files, (a1.getD (Int.toNat i) default).Thick⟩ : Carton)).getD (Int.toNat i) default).Files, ((a1.set (Int.toNat i) (⟨k1, (a1.getD (Int.toNat i) default).Shelf, (a1.getD (Int.toNat i) default).Room, (a1.getD (Int.toNat i) default).Files, (a1.getD (Int.toNat i) default).Thick⟩ : Carton)).getD (Int.toNat i) default).Thick⟩ : Carton)) = (a1.set (Int.toNat i) (⟨k1, (IntKind.i64.wrap (k1 + (1 : Int))), (a1.getD (Int.toNat i) default).Room, (a1.getD (Int.toNat i) default).Files, (a1.getD (Int.toNat i) default).Thick⟩ : Carton)) := set_upd (fun y_ => (⟨y_.Id, (IntKind.i64.wrap (k1 + (1 : Int))), y_.Room, y_.Files, y_.Thick⟩ : Carton)) (by simpa using natLt hh0.1 hh0.2) rfl
    refine VO.weakenK (Keeps.sayObj 0 (ys := deepC cellCarton ts_77 (a1.set (Int.toNat i) (⟨k1, (IntKind.i64.wrap (k1 + (1 : Int))), (a1.getD (Int.toNat i) default).Room, (a1.getD (Int.toNat i) default).Files, (a1.getD (Int.toNat i) default).Thick⟩ : Carton))) rfl (congrArg (deepC cellCarton ts_77) hu_79)) ?_
    rw [hu_79] at hd_79
    refine VO.weakenK (Keeps.say 0 (y := .sref oq 5 0 (List.length (a1.set (Int.toNat i) (⟨k1, (IntKind.i64.wrap (k1 + (1 : Int))), (a1.getD (Int.toNat i) default).Room, (a1.getD (Int.toNat i) default).Files, (a1.getD (Int.toNat i) default).Thick⟩ : Carton)))) rfl (by simp [optS])) ?_
    refine VO.nil ?_
    refine V.keepT 48 [0, 1, 5] [0] (E0 := [(0, .sref oq 5 0 (List.length (a1.set (Int.toNat i) (⟨k1, (IntKind.i64.wrap (k1 + (1 : Int))), (a1.getD (Int.toNat i) default).Room, (a1.getD (Int.toNat i) default).Files, (a1.getD (Int.toNat i) default).Thick⟩ : Carton)))), (1, .int .i64 (IntKind.i64.wrap (k1 + (1 : Int)))), (5, .int .i64 i)]) (A := [(oq, ⟨5, deepC cellCarton ts_77 (a1.set (Int.toNat i) (⟨k1, (IntKind.i64.wrap (k1 + (1 : Int))), (a1.getD (Int.toNat i) default).Room, (a1.getD (Int.toNat i) default).Files, (a1.getD (Int.toNat i) default).Thick⟩ : Carton))⟩)]) (T := os_77) (H0 := [(oq, ⟨5, deepC cellCarton ts_77 (a1.set (Int.toNat i) (⟨k1, (IntKind.i64.wrap (k1 + (1 : Int))), (a1.getD (Int.toNat i) default).Room, (a1.getD (Int.toNat i) default).Files, (a1.getD (Int.toNat i) default).Thick⟩ : Carton))⟩)]) (T' := os_77) rfl (⟨_, _, rfl, rfl, ⟨_, _, rfl, rfl, ⟨_, _, rfl, rfl, rfl⟩⟩⟩) rfl (⟨_, _, rfl, rfl, rfl⟩) rfl (List.Sublist.refl _) ?_
    refine V.seq ?_
    refine V.region ?_
    refine VO.cons rfl (V1.move rfl rfl rfl lt0 ?_)
    refine VO.cons rfl (V1.int rfl rfl rfl rfl rfl lt0 ?_)
    refine VO.cons rfl (V1.assign rfl rfl rfl lt0 ?_)
    refine VO.nil ?_
    refine V.seq ?_
    replace hm1 := asrt_some hm1; rcases hm1 with ⟨hh2, hm1⟩
    refine V.region ?_
    refine VO.cons rfl (V1.move rfl rfl rfl lt0 ?_)
    refine VO.cons rfl (V1.move rfl rfl rfl lt0 ?_)
    refine VO.cons rfl (V1.move rfl rfl rfl lt0 ?_)
    refine VO.cons rfl (V1.indexSr rfl rfl esz_39 rfl rfl hh2 lt0 ?_)
    refine VO.cons rfl (V1.fieldRef rfl rfl fo_67_2 rfl lt0 ?_)
    refine VO.cons rfl (V1.storeDeepCell (inn := (fun c_ : Carton => List.map encInt c_.Files)) (cell := cellCarton) (ts := ts_77) (xs := (a1.set (Int.toNat i) (⟨k1, (IntKind.i64.wrap (k1 + (1 : Int))), (a1.getD (Int.toNat i) default).Room, (a1.getD (Int.toNat i) default).Files, (a1.getD (Int.toNat i) default).Thick⟩ : Carton))) (k := 0) cokCarton (⟨((a1.set (Int.toNat i) (⟨k1, (IntKind.i64.wrap (k1 + (1 : Int))), (a1.getD (Int.toNat i) default).Room, (a1.getD (Int.toNat i) default).Files, (a1.getD (Int.toNat i) default).Thick⟩ : Carton)).getD (Int.toNat i) default).Id, ((a1.set (Int.toNat i) (⟨k1, (IntKind.i64.wrap (k1 + (1 : Int))), (a1.getD (Int.toNat i) default).Room, (a1.getD (Int.toNat i) default).Files, (a1.getD (Int.toNat i) default).Thick⟩ : Carton)).getD (Int.toNat i) default).Shelf, (IntKind.i64.wrap ((IntKind.i64.wrap (k1 + (1 : Int))) + (1 : Int))), ((a1.set (Int.toNat i) (⟨k1, (IntKind.i64.wrap (k1 + (1 : Int))), (a1.getD (Int.toNat i) default).Room, (a1.getD (Int.toNat i) default).Files, (a1.getD (Int.toNat i) default).Thick⟩ : Carton)).getD (Int.toNat i) default).Files, ((a1.set (Int.toNat i) (⟨k1, (IntKind.i64.wrap (k1 + (1 : Int))), (a1.getD (Int.toNat i) default).Room, (a1.getD (Int.toNat i) default).Files, (a1.getD (Int.toNat i) default).Thick⟩ : Carton)).getD (Int.toNat i) default).Thick⟩ : Carton) rfl rfl tyk_3 rfl rfl hd_79 (by simpa using natLt hh2.1 hh2.2) rfl rfl rfl rfl (fun _ => rfl) ?_)
    have hd_80 := Deep.setSame (i := (Int.toNat i)) (⟨((a1.set (Int.toNat i) (⟨k1, (IntKind.i64.wrap (k1 + (1 : Int))), (a1.getD (Int.toNat i) default).Room, (a1.getD (Int.toNat i) default).Files, (a1.getD (Int.toNat i) default).Thick⟩ : Carton)).getD (Int.toNat i) default).Id, ((a1.set (Int.toNat i) (⟨k1, (IntKind.i64.wrap (k1 + (1 : Int))), (a1.getD (Int.toNat i) default).Room, (a1.getD (Int.toNat i) default).Files, (a1.getD (Int.toNat i) default).Thick⟩ : Carton)).getD (Int.toNat i) default).Shelf, (IntKind.i64.wrap ((IntKind.i64.wrap (k1 + (1 : Int))) + (1 : Int))), ((a1.set (Int.toNat i) (⟨k1, (IntKind.i64.wrap (k1 + (1 : Int))), (a1.getD (Int.toNat i) default).Room, (a1.getD (Int.toNat i) default).Files, (a1.getD (Int.toNat i) default).Thick⟩ : Carton)).getD (Int.toNat i) default).Files, ((a1.set (Int.toNat i) (⟨k1, (IntKind.i64.wrap (k1 + (1 : Int))), (a1.getD (Int.toNat i) default).Room, (a1.getD (Int.toNat i) default).Files, (a1.getD (Int.toNat i) default).Thick⟩ : Carton)).getD (Int.toNat i) default).Thick⟩ : Carton) rfl hd_79
    have hu_80 : ((a1.set (Int.toNat i) (⟨k1, (IntKind.i64.wrap (k1 + (1 : Int))), (a1.getD (Int.toNat i) default).Room, (a1.getD (Int.toNat i) default).Files, (a1.getD (Int.toNat i) default).Thick⟩ : Carton)).set (Int.toNat i) (⟨((a1.set (Int.toNat i) (⟨k1, (IntKind.i64.wrap (k1 + (1 : Int))), (a1.getD (Int.toNat i) default).Room, (a1.getD (Int.toNat i) default).Files, (a1.getD (Int.toNat i) default).Thick⟩ : Carton)).getD (Int.toNat i) default).Id, ((a1.set (Int.toNat i) (⟨k1, (IntKind.i64.wrap (k1 + (1 : Int))), (a1.getD (Int.toNat i) default).Room, (a1.getD (Int.toNat i) default).Files, (a1.getD (Int.toNat i) default).Thick⟩ : Carton)).getD (Int.toNat i) default).Shelf, (IntKind.i64.wrap ((IntKind.i64.wrap (k1 + (1 : Int))) + (1 : Int))), ((a1.set (Int.toNat i) (⟨k1, (IntKind.i64.wrap (k1 + (1 : Int))), (a1.getD (Int.toNat i) default).Room, (a1.getD (Int.toNat i) default).Files, (a1.getD (Int.toNat i) default).Thick⟩ : Carton)).getD (Int.toNat i) default).Files, ((a1.set (Int.toNat i) (⟨k1, (IntKind.i64.wrap (k1 + (1 : Int))), (a1.getD (Int.toNat i) default).Room, (a1.getD (Int.toNat i) default).Files, (a1.getD (Int.toNat i) default).Thick⟩ : Carton)).getD (Int.toNat i) default).Thick⟩ : Carton)) = (a1.set (Int.toNat i) (⟨k1, (IntKind.i64.wrap (k1 + (1 : Int))), (IntKind.i64.wrap ((IntKind.i64.wrap (k1 + (1 : Int))) + (1 : Int))), (a1.getD (Int.toNat i) default).Files, (a1.getD (Int.toNat i) default).Thick⟩ : Carton)) := set_upd (fun y_ => (⟨y_.Id, y_.Shelf, (IntKind.i64.wrap ((IntKind.i64.wrap (k1 + (1 : Int))) + (1 : Int))), y_.Files, y_.Thick⟩ : Carton)) (by simpa using natLt hh0.1 hh0.2) rfl
    refine VO.weakenK (Keeps.sayObj 0 (ys := deepC cellCarton ts_77 (a1.set (Int.toNat i) (⟨k1, (IntKind.i64.wrap (k1 + (1 : Int))), (IntKind.i64.wrap ((IntKind.i64.wrap (k1 + (1 : Int))) + (1 : Int))), (a1.getD (Int.toNat i) default).Files, (a1.getD (Int.toNat i) default).Thick⟩ : Carton))) rfl (congrArg (deepC cellCarton ts_77) hu_80)) ?_
    rw [hu_80] at hd_80
    refine VO.weakenK (Keeps.say 0 (y := .sref oq 5 0 (List.length (a1.set (Int.toNat i) (⟨k1, (IntKind.i64.wrap (k1 + (1 : Int))), (IntKind.i64.wrap ((IntKind.i64.wrap (k1 + (1 : Int))) + (1 : Int))), (a1.getD (Int.toNat i) default).Files, (a1.getD (Int.toNat i) default).Thick⟩ : Carton)))) rfl (by simp [optS])) ?_
    refine VO.nil ?_
    refine V.keepT 48 [0, 1, 5] [0] (E0 := [(0, .sref oq 5 0 (List.length (a1.set (Int.toNat i) (⟨k1, (IntKind.i64.wrap (k1 + (1 : Int))), (IntKind.i64.wrap ((IntKind.i64.wrap (k1 + (1 : Int))) + (1 : Int))), (a1.getD (Int.toNat i) default).Files, (a1.getD (Int.toNat i) default).Thick⟩ : Carton)))), (1, .int .i64 (IntKind.i64.wrap ((IntKind.i64.wrap (k1 + (1 : Int))) + (1 : Int)))), (5, .int .i64 i)]) (A := [(oq, ⟨5, deepC cellCarton ts_77 (a1.set (Int.toNat i) (⟨k1, (IntKind.i64.wrap (k1 + (1 : Int))), (IntKind.i64.wrap ((IntKind.i64.wrap (k1 + (1 : Int))) + (1 : Int))), (a1.getD (Int.toNat i) default).Files, (a1.getD (Int.toNat i) default).Thick⟩ : Carton))⟩)]) (T := os_77) (H0 := [(oq, ⟨5, deepC cellCarton ts_77 (a1.set (Int.toNat i) (⟨k1, (IntKind.i64.wrap (k1 + (1 : Int))), (IntKind.i64.wrap ((IntKind.i64.wrap (k1 + (1 : Int))) + (1 : Int))), (a1.getD (Int.toNat i) default).Files, (a1.getD (Int.toNat i) default).Thick⟩ : Carton))⟩)]) (T' := os_77) rfl (⟨_, _, rfl, rfl, ⟨_, _, rfl, rfl, ⟨_, _, rfl, rfl, rfl⟩⟩⟩) rfl (⟨_, _, rfl, rfl, rfl⟩) rfl (List.Sublist.refl _) ?_
    refine V.seq ?_
    refine V.region ?_
    refine VO.cons rfl (V1.move rfl rfl rfl lt0 ?_)
    refine VO.cons rfl (V1.int rfl rfl rfl rfl rfl lt0 ?_)
    refine VO.cons rfl (V1.assign rfl rfl rfl lt0 ?_)
    refine VO.nil ?_
    refine V.seq ?_
    replace hm1 := asrt_some hm1; rcases hm1 with ⟨hh3, hm1⟩
    replace hm1 := bindO hm1; rcases hm1 with ⟨y1, hh4, hm1⟩
    replace hm1 := asrt_some hm1; rcases hm1 with ⟨hh5, hm1⟩
    refine V.region ?_
    refine VO.cons rfl (V1.move rfl rfl rfl lt0 ?_)
    refine VO.cons rfl (V1.move rfl rfl rfl lt0 ?_)
    refine VO.cons rfl (V1.indexSr rfl rfl esz_39 rfl rfl hh3 lt0 ?_)
    refine VO.cons rfl (V1.fieldRef rfl rfl fo_67_3 rfl lt0 ?_)
    refine VO.cons rfl (V1.loadDeepIn (inn := (fun c_ : Carton => List.map encInt c_.Files)) (cell := cellCarton) (ts := ts_77) (xs := (a1.set (Int.toNat i) (⟨k1, (IntKind.i64.wrap (k1 + (1 : Int))), (IntKind.i64.wrap ((IntKind.i64.wrap (k1 + (1 : Int))) + (1 : Int))), (a1.getD (Int.toNat i) default).Files, (a1.getD (Int.toNat i) default).Thick⟩ : Carton))) (k := 0) cokCarton rfl rfl tyk_36 rfl rfl hd_80 (by simpa using natLt hh3.1 hh3.2) lt0 ?_)
    refine VO.cons rfl (V1.move rfl rfl rfl lt0 ?_)
    obtain ⟨ob_81, os1_81, os2_81, hob_81, ht_81, hos_81, hp_81, hs_81⟩ := Deep.focusM (f := encInt) (g := (fun c_ : Carton => c_.Files)) (Int.toNat i) hd_80 (by simpa using natLt hh3.1 hh3.2)
    refine VO.weakenK (Keeps.say 37 (y := optS 1 ob_81 (List.length (((a1.set (Int.toNat i) (⟨k1, (IntKind.i64.wrap (k1 + (1 : Int))), (IntKind.i64.wrap ((IntKind.i64.wrap (k1 + (1 : Int))) + (1 : Int))), (a1.getD (Int.toNat i) default).Files, (a1.getD (Int.toNat i) default).Thick⟩ : Carton)).getD (Int.toNat i) default).Files))) rfl ht_81) ?_
    refine VO.cons rfl (V1.callD (A := [(oq, ⟨5, deepC cellCarton ts_77 (a1.set (Int.toNat i) (⟨k1, (IntKind.i64.wrap (k1 + (1 : Int))), (IntKind.i64.wrap ((IntKind.i64.wrap (k1 + (1 : Int))) + (1 : Int))), (a1.getD (Int.toNat i) default).Files, (a1.getD (Int.toNat i) default).Thick⟩ : Carton))⟩)]) (os1 := os1_81) (os2 := os2_81) (Hc := optH 1 ob_81 (List.map encInt (((a1.set (Int.toNat i) (⟨k1, (IntKind.i64.wrap (k1 + (1 : Int))), (IntKind.i64.wrap ((IntKind.i64.wrap (k1 + (1 : Int))) + (1 : Int))), (a1.getD (Int.toNat i) default).Files, (a1.getD (Int.toNat i) default).Thick⟩ : Carton)).getD (Int.toNat i) default).Files))) rfl rfl rfl cok_27 rfl (appEq (A := [(oq, ⟨5, deepC cellCarton ts_77 (a1.set (Int.toNat i) (⟨k1, (IntKind.i64.wrap (k1 + (1 : Int))), (IntKind.i64.wrap ((IntKind.i64.wrap (k1 + (1 : Int))) + (1 : Int))), (a1.getD (Int.toNat i) default).Files, (a1.getD (Int.toNat i) default).Thick⟩ : Carton))⟩)]) hos_81) (rn + 1) [] [optS 1 ob_81 (List.length (((a1.set (Int.toNat i) (⟨k1, (IntKind.i64.wrap (k1 + (1 : Int))), (IntKind.i64.wrap ((IntKind.i64.wrap (k1 + (1 : Int))) + (1 : Int))), (a1.getD (Int.toNat i) default).Files, (a1.getD (Int.toNat i) default).Thick⟩ : Carton)).getD (Int.toNat i) default).Files)), .int .i64 (IntKind.i64.wrap ((IntKind.i64.wrap ((IntKind.i64.wrap (k1 + (1 : Int))) + (1 : Int))) + (1 : Int)))] ⟨_, _, rfl, .same _, ⟨_, _, rfl, .same _, rfl⟩⟩ bwNil (ok_laws_markIntS hh4 (oq := ob_81) hob_81) rfl (.inl rfl) lt0 ?_)
    rintro _ _ ⟨rfl, rfl⟩
    have hd_81 := hs_81 (⟨((a1.set (Int.toNat i) (⟨k1, (IntKind.i64.wrap (k1 + (1 : Int))), (IntKind.i64.wrap ((IntKind.i64.wrap (k1 + (1 : Int))) + (1 : Int))), (a1.getD (Int.toNat i) default).Files, (a1.getD (Int.toNat i) default).Thick⟩ : Carton)).getD (Int.toNat i) default).Id, ((a1.set (Int.toNat i) (⟨k1, (IntKind.i64.wrap (k1 + (1 : Int))), (IntKind.i64.wrap ((IntKind.i64.wrap (k1 + (1 : Int))) + (1 : Int))), (a1.getD (Int.toNat i) default).Files, (a1.getD (Int.toNat i) default).Thick⟩ : Carton)).getD (Int.toNat i) default).Shelf, ((a1.set (Int.toNat i) (⟨k1, (IntKind.i64.wrap (k1 + (1 : Int))), (IntKind.i64.wrap ((IntKind.i64.wrap (k1 + (1 : Int))) + (1 : Int))), (a1.getD (Int.toNat i) default).Files, (a1.getD (Int.toNat i) default).Thick⟩ : Carton)).getD (Int.toNat i) default).Room, y1.2, ((a1.set (Int.toNat i) (⟨k1, (IntKind.i64.wrap (k1 + (1 : Int))), (IntKind.i64.wrap ((IntKind.i64.wrap (k1 + (1 : Int))) + (1 : Int))), (a1.getD (Int.toNat i) default).Files, (a1.getD (Int.toNat i) default).Thick⟩ : Carton)).getD (Int.toNat i) default).Thick⟩ : Carton) hh5
    refine VO.weakenK (Keeps.sayObj 0 (ys := deepC cellCarton ts_77 ((a1.set (Int.toNat i) (⟨k1, (IntKind.i64.wrap (k1 + (1 : Int))), (IntKind.i64.wrap ((IntKind.i64.wrap (k1 + (1 : Int))) + (1 : Int))), (a1.getD (Int.toNat i) default).Files, (a1.getD (Int.toNat i) default).Thick⟩ : Carton)).set (Int.toNat i) (⟨((a1.set (Int.toNat i) (⟨k1, (IntKind.i64.wrap (k1 + (1 : Int))), (IntKind.i64.wrap ((IntKind.i64.wrap (k1 + (1 : Int))) + (1 : Int))), (a1.getD (Int.toNat i) default).Files, (a1.getD (Int.toNat i) default).Thick⟩ : Carton)).getD (Int.toNat i) default).Id, ((a1.set (Int.toNat i) (⟨k1, (IntKind.i64.wrap (k1 + (1 : Int))), (IntKind.i64.wrap ((IntKind.i64.wrap (k1 + (1 : Int))) + (1 : Int))), (a1.getD (Int.toNat i) default).Files, (a1.getD (Int.toNat i) default).Thick⟩ : Carton)).getD (Int.toNat i) default).Shelf, ((a1.set (Int.toNat i) (⟨k1, (IntKind.i64.wrap (k1 + (1 : Int))), (IntKind.i64.wrap ((IntKind.i64.wrap (k1 + (1 : Int))) + (1 : Int))), (a1.getD (Int.toNat i) default).Files, (a1.getD (Int.toNat i) default).Thick⟩ : Carton)).getD (Int.toNat i) default).Room, y1.2, ((a1.set (Int.toNat i) (⟨k1, (IntKind.i64.wrap (k1 + (1 : Int))), (IntKind.i64.wrap ((IntKind.i64.wrap (k1 + (1 : Int))) + (1 : Int))), (a1.getD (Int.toNat i) default).Files, (a1.getD (Int.toNat i) default).Thick⟩ : Carton)).getD (Int.toNat i) default).Thick⟩ : Carton))) rfl (deepC_same (Deep.length hd_80) (fun _ => rfl))) ?_
    have hu_81 : ((a1.set (Int.toNat i) (⟨k1, (IntKind.i64.wrap (k1 + (1 : Int))), (IntKind.i64.wrap ((IntKind.i64.wrap (k1 + (1 : Int))) + (1 : Int))), (a1.getD (Int.toNat i) default).Files, (a1.getD (Int.toNat i) default).Thick⟩ : Carton)).set (Int.toNat i) (⟨((a1.set (Int.toNat i) (⟨k1, (IntKind.i64.wrap (k1 + (1 : Int))), (IntKind.i64.wrap ((IntKind.i64.wrap (k1 + (1 : Int))) + (1 : Int))), (a1.getD (Int.toNat i) default).Files, (a1.getD (Int.toNat i) default).Thick⟩ : Carton)).getD (Int.toNat i) default).Id, ((a1.set (Int.toNat i) (⟨k1, (IntKind.i64.wrap (k1 + (1 : Int))), (IntKind.i64.wrap ((IntKind.i64.wrap (k1 + (1 : Int))) + (1 : Int))), (a1.getD (Int.toNat i) default).Files, (a1.getD (Int.toNat i) default).Thick⟩ : Carton)).getD (Int.toNat i) default).Shelf, ((a1.set (Int.toNat i) (⟨k1, (IntKind.i64.wrap (k1 + (1 : Int))), (IntKind.i64.wrap ((IntKind.i64.wrap (k1 + (1 : Int))) + (1 : Int))), (a1.getD (Int.toNat i) default).Files, (a1.getD (Int.toNat i) default).Thick⟩ : Carton)).getD (Int.toNat i) default).Room, y1.2, ((a1.set (Int.toNat i) (⟨k1, (IntKind.i64.wrap (k1 + (1 : Int))), (IntKind.i64.wrap ((IntKind.i64.wrap (k1 + (1 : Int))) + (1 : Int))), (a1.getD (Int.toNat i) default).Files, (a1.getD (Int.toNat i) default).Thick⟩ : Carton)).getD (Int.toNat i) default).Thick⟩ : Carton)) = (a1.set (Int.toNat i) (⟨k1, (IntKind.i64.wrap (k1 + (1 : Int))), (IntKind.i64.wrap ((IntKind.i64.wrap (k1 + (1 : Int))) + (1 : Int))), y1.2, (a1.getD (Int.toNat i) default).Thick⟩ : Carton)) := set_upd (fun y_ => (⟨y_.Id, y_.Shelf, y_.Room, y1.2, y_.Thick⟩ : Carton)) (by simpa using natLt hh0.1 hh0.2) rfl
    refine VO.weakenK (Keeps.sayObj 0 (ys := deepC cellCarton ts_77 (a1.set (Int.toNat i) (⟨k1, (IntKind.i64.wrap (k1 + (1 : Int))), (IntKind.i64.wrap ((IntKind.i64.wrap (k1 + (1 : Int))) + (1 : Int))), y1.2, (a1.getD (Int.toNat i) default).Thick⟩ : Carton))) rfl (congrArg (deepC cellCarton ts_77) hu_81)) ?_
    rw [hu_81] at hd_81
    refine VO.weakenK (Keeps.say 0 (y := .sref oq 5 0 (List.length (a1.set (Int.toNat i) (⟨k1, (IntKind.i64.wrap (k1 + (1 : Int))), (IntKind.i64.wrap ((IntKind.i64.wrap (k1 + (1 : Int))) + (1 : Int))), y1.2, (a1.getD (Int.toNat i) default).Thick⟩ : Carton)))) rfl (by simp [optS])) ?_
    refine VO.cons rfl (V1.assign rfl rfl rfl lt0 ?_)
    refine VO.nil ?_
    refine V.keepT 48 [0, 1, 5] [0] (E0 := [(0, .sref oq 5 0 (List.length (a1.set (Int.toNat i) (⟨k1, (IntKind.i64.wrap (k1 + (1 : Int))), (IntKind.i64.wrap ((IntKind.i64.wrap (k1 + (1 : Int))) + (1 : Int))), y1.2, (a1.getD (Int.toNat i) default).Thick⟩ : Carton)))), (1, .int .i64 y1.1), (5, .int .i64 i)]) (A := [(oq, ⟨5, deepC cellCarton ts_77 (a1.set (Int.toNat i) (⟨k1, (IntKind.i64.wrap (k1 + (1 : Int))), (IntKind.i64.wrap ((IntKind.i64.wrap (k1 + (1 : Int))) + (1 : Int))), y1.2, (a1.getD (Int.toNat i) default).Thick⟩ : Carton))⟩)]) (T := (os1_81 ++ (optH 1 ob_81 (List.map encInt y1.2) ++ os2_81))) (H0 := [(oq, ⟨5, deepC cellCarton ts_77 (a1.set (Int.toNat i) (⟨k1, (IntKind.i64.wrap (k1 + (1 : Int))), (IntKind.i64.wrap ((IntKind.i64.wrap (k1 + (1 : Int))) + (1 : Int))), y1.2, (a1.getD (Int.toNat i) default).Thick⟩ : Carton))⟩)]) (T' := (os1_81 ++ (optH 1 ob_81 (List.map encInt y1.2) ++ os2_81))) rfl (⟨_, _, rfl, rfl, ⟨_, _, rfl, rfl, ⟨_, _, rfl, rfl, rfl⟩⟩⟩) rfl (⟨_, _, rfl, rfl, rfl⟩) rfl (List.Sublist.refl _) ?_
    refine V.seq ?_
    replace hm1 := asrt_some hm1; rcases hm1 with ⟨hh6, hm1⟩
    refine V.region ?_
    refine VO.cons rfl (V1.move rfl rfl rfl lt0 ?_)
    refine VO.cons rfl (V1.move rfl rfl rfl lt0 ?_)
    refine VO.cons rfl (V1.move rfl rfl rfl lt0 ?_)
    refine VO.cons rfl (V1.indexSr rfl rfl esz_39 rfl rfl hh6 lt0 ?_)
    refine VO.cons rfl (V1.fieldRef rfl rfl fo_67_4 rfl lt0 ?_)
    refine VO.cons rfl (V1.storeDeepCell (inn := (fun c_ : Carton => List.map encInt c_.Files)) (cell := cellCarton) (ts := ts_77) (xs := (a1.set (Int.toNat i) (⟨k1, (IntKind.i64.wrap (k1 + (1 : Int))), (IntKind.i64.wrap ((IntKind.i64.wrap (k1 + (1 : Int))) + (1 : Int))), y1.2, (a1.getD (Int.toNat i) default).Thick⟩ : Carton))) (k := 0) cokCarton (⟨((a1.set (Int.toNat i) (⟨k1, (IntKind.i64.wrap (k1 + (1 : Int))), (IntKind.i64.wrap ((IntKind.i64.wrap (k1 + (1 : Int))) + (1 : Int))), y1.2, (a1.getD (Int.toNat i) default).Thick⟩ : Carton)).getD (Int.toNat i) default).Id, ((a1.set (Int.toNat i) (⟨k1, (IntKind.i64.wrap (k1 + (1 : Int))), (IntKind.i64.wrap ((IntKind.i64.wrap (k1 + (1 : Int))) + (1 : Int))), y1.2, (a1.getD (Int.toNat i) default).Thick⟩ : Carton)).getD (Int.toNat i) default).Shelf, ((a1.set (Int.toNat i) (⟨k1, (IntKind.i64.wrap (k1 + (1 : Int))), (IntKind.i64.wrap ((IntKind.i64.wrap (k1 + (1 : Int))) + (1 : Int))), y1.2, (a1.getD (Int.toNat i) default).Thick⟩ : Carton)).getD (Int.toNat i) default).Room, ((a1.set (Int.toNat i) (⟨k1, (IntKind.i64.wrap (k1 + (1 : Int))), (IntKind.i64.wrap ((IntKind.i64.wrap (k1 + (1 : Int))) + (1 : Int))), y1.2, (a1.getD (Int.toNat i) default).Thick⟩ : Carton)).getD (Int.toNat i) default).Files, y1.1⟩ : Carton) rfl rfl tyk_3 rfl rfl hd_81 (by simpa using natLt hh6.1 hh6.2) rfl rfl rfl rfl (fun _ => rfl) ?_)
    have hd_83 := Deep.setSame (i := (Int.toNat i)) (⟨((a1.set (Int.toNat i) (⟨k1, (IntKind.i64.wrap (k1 + (1 : Int))), (IntKind.i64.wrap ((IntKind.i64.wrap (k1 + (1 : Int))) + (1 : Int))), y1.2, (a1.getD (Int.toNat i) default).Thick⟩ : Carton)).getD (Int.toNat i) default).Id, ((a1.set (Int.toNat i) (⟨k1, (IntKind.i64.wrap (k1 + (1 : Int))), (IntKind.i64.wrap ((IntKind.i64.wrap (k1 + (1 : Int))) + (1 : Int))), y1.2, (a1.getD (Int.toNat i) default).Thick⟩ : Carton)).getD (Int.toNat i) default).Shelf, ((a1.set (Int.toNat i) (⟨k1, (IntKind.i64.wrap (k1 + (1 : Int))), (IntKind.i64.wrap ((IntKind.i64.wrap (k1 + (1 : Int))) + (1 : Int))), y1.2, (a1.getD (Int.toNat i) default).Thick⟩ : Carton)).getD (Int.toNat i) default).Room, ((a1.set (Int.toNat i) (⟨k1, (IntKind.i64.wrap (k1 + (1 : Int))), (IntKind.i64.wrap ((IntKind.i64.wrap (k1 + (1 : Int))) + (1 : Int))), y1.2, (a1.getD (Int.toNat i) default).Thick⟩ : Carton)).getD (Int.toNat i) default).Files, y1.1⟩ : Carton) rfl hd_81
    have hu_83 : ((a1.set (Int.toNat i) (⟨k1, (IntKind.i64.wrap (k1 + (1 : Int))), (IntKind.i64.wrap ((IntKind.i64.wrap (k1 + (1 : Int))) + (1 : Int))), y1.2, (a1.getD (Int.toNat i) default).Thick⟩ : Carton)).set (Int.toNat i) (⟨((a1.set (Int.toNat i) (⟨k1, (IntKind.i64.wrap (k1 + (1 : Int))), (IntKind.i64.wrap ((IntKind.i64.wrap (k1 + (1 : Int))) + (1 : Int))), y1.2, (a1.getD (Int.toNat i) default).Thick⟩ : Carton)).getD (Int.toNat i) default).Id, ((a1.set (Int.toNat i) (⟨k1, (IntKind.i64.wrap (k1 + (1 : Int))), (IntKind.i64.wrap ((IntKind.i64.wrap (k1 + (1 : Int))) + (1 : Int))), y1.2, (a1.getD (Int.toNat i) default).Thick⟩ : Carton)).getD (Int.toNat i) default).Shelf, ((a1.set (Int.toNat i) (⟨k1, (IntKind.i64.wrap (k1 + (1 : Int))), (IntKind.i64.wrap ((IntKind.i64.wrap (k1 + (1 : Int))) + (1 : Int))), y1.2, (a1.getD (Int.toNat i) default).Thick⟩ : Carton)).getD (Int.toNat i) default).Room, ((a1.set (Int.toNat i) (⟨k1, (IntKind.i64.wrap (k1 + (1 : Int))), (IntKind.i64.wrap ((IntKind.i64.wrap (k1 + (1 : Int))) + (1 : Int))), y1.2, (a1.getD (Int.toNat i) default).Thick⟩ : Carton)).getD (Int.toNat i) default).Files, y1.1⟩ : Carton)) = (a1.set (Int.toNat i) (⟨k1, (IntKind.i64.wrap (k1 + (1 : Int))), (IntKind.i64.wrap ((IntKind.i64.wrap (k1 + (1 : Int))) + (1 : Int))), y1.2, y1.1⟩ : Carton)) := set_upd (fun y_ => (⟨y_.Id, y_.Shelf, y_.Room, y_.Files, y1.1⟩ : Carton)) (by simpa using natLt hh0.1 hh0.2) rfl
    refine VO.weakenK (Keeps.sayObj 0 (ys := deepC cellCarton ts_77 (a1.set (Int.toNat i) (⟨k1, (IntKind.i64.wrap (k1 + (1 : Int))), (IntKind.i64.wrap ((IntKind.i64.wrap (k1 + (1 : Int))) + (1 : Int))), y1.2, y1.1⟩ : Carton))) rfl (congrArg (deepC cellCarton ts_77) hu_83)) ?_
    rw [hu_83] at hd_83
    refine VO.weakenK (Keeps.say 0 (y := .sref oq 5 0 (List.length (a1.set (Int.toNat i) (⟨k1, (IntKind.i64.wrap (k1 + (1 : Int))), (IntKind.i64.wrap ((IntKind.i64.wrap (k1 + (1 : Int))) + (1 : Int))), y1.2, y1.1⟩ : Carton)))) rfl (by simp [optS])) ?_
    refine VO.nil ?_
    refine V.keepT 48 [0, 1, 5] [0] (E0 := [(0, .sref oq 5 0 (List.length (a1.set (Int.toNat i) (⟨k1, (IntKind.i64.wrap (k1 + (1 : Int))), (IntKind.i64.wrap ((IntKind.i64.wrap (k1 + (1 : Int))) + (1 : Int))), y1.2, y1.1⟩ : Carton)))), (1, .int .i64 y1.1), (5, .int .i64 i)]) (A := [(oq, ⟨5, deepC cellCarton ts_77 (a1.set (Int.toNat i) (⟨k1, (IntKind.i64.wrap (k1 + (1 : Int))), (IntKind.i64.wrap ((IntKind.i64.wrap (k1 + (1 : Int))) + (1 : Int))), y1.2, y1.1⟩ : Carton))⟩)]) (T := (os1_81 ++ (optH 1 ob_81 (List.map encInt y1.2) ++ os2_81))) (H0 := [(oq, ⟨5, deepC cellCarton ts_77 (a1.set (Int.toNat i) (⟨k1, (IntKind.i64.wrap (k1 + (1 : Int))), (IntKind.i64.wrap ((IntKind.i64.wrap (k1 + (1 : Int))) + (1 : Int))), y1.2, y1.1⟩ : Carton))⟩)]) (T' := (os1_81 ++ (optH 1 ob_81 (List.map encInt y1.2) ++ os2_81))) rfl (⟨_, _, rfl, rfl, ⟨_, _, rfl, rfl, ⟨_, _, rfl, rfl, rfl⟩⟩⟩) rfl (⟨_, _, rfl, rfl, rfl⟩) rfl (List.Sublist.refl _) ?_
    refine V.region ?_
    refine VO.cons rfl (V1.move rfl rfl rfl lt0 ?_)
    refine VO.cons rfl (V1.int rfl rfl rfl rfl rfl lt0 ?_)
    refine VO.cons rfl (V1.assign rfl rfl rfl lt0 ?_)
    refine VO.nil ?_
    refine V.region ?_
    refine VO.cons rfl (V1.move rfl rfl rfl lt0 ?_)
    refine VO.cons rfl (V1.int rfl rfl rfl rfl rfl lt0 ?_)
    refine VO.cons rfl (V1.assign rfl rfl rfl lt0 ?_)
    refine VO.nil ?_
    exact ⟨(m0, ((a1.set (Int.toNat i) (⟨k1, (IntKind.i64.wrap (k1 + (1 : Int))), (IntKind.i64.wrap ((IntKind.i64.wrap (k1 + (1 : Int))) + (1 : Int))), y1.2, y1.1⟩ : Carton)), (IntKind.i64.wrap (y1.1 + (1 : Int))), (IntKind.i64.wrap (i + (1 : Int)))), (ts_77, (os1_81 ++ (optH 1 ob_81 (List.map encInt y1.2) ++ os2_81)))), ⟨hl1 _ (Option.some.inj hm1).symm, hd_83⟩, Nat.lt_succ_self _, Keeps.mkT (A := [(oq, ⟨5, deepC cellCarton ts_77 (a1.set (Int.toNat i) (⟨k1, (IntKind.i64.wrap (k1 + (1 : Int))), (IntKind.i64.wrap ((IntKind.i64.wrap (k1 + (1 : Int))) + (1 : Int))), y1.2, y1.1⟩ : Carton))⟩)]) (T := (os1_81 ++ (optH 1 ob_81 (List.map encInt y1.2) ++ os2_81))) (T' := (os1_81 ++ (optH 1 ob_81 (List.map encInt y1.2) ++ os2_81))) (H := [(oq, ⟨5, deepC cellCarton ts_77 (a1.set (Int.toNat i) (⟨k1, (IntKind.i64.wrap (k1 + (1 : Int))), (IntKind.i64.wrap ((IntKind.i64.wrap (k1 + (1 : Int))) + (1 : Int))), y1.2, y1.1⟩ : Carton))⟩)]) (ks := [0]) rfl (by exact ⟨(someSref (by simp)), rfl, rfl, trivial⟩) rfl (by exact (⟨_, _, rfl, rfl, rfl⟩)) rfl (List.Sublist.refl _)⟩
   ·
    replace hm1 := cond_f hc0 hm1
    refine V.exit ?_
    obtain rfl := hr1 _ (Option.some.inj hm1).symm
    exact ⟨((a1, k1), (ts_77, os_77)), ⟨rfl, hd_77⟩, Keeps.mkT (A := [(oq, ⟨5, deepC cellCarton ts_77 a1⟩)]) (T := os_77) (T' := os_77) (H := [(oq, ⟨5, deepC cellCarton ts_77 a1⟩)]) (ks := [0]) rfl (by exact ⟨(someSref (by simp)), rfl, trivial⟩) rfl (by exact (⟨_, _, rfl, rfl, rfl⟩)) rfl (List.Sublist.refl _)⟩
  ·
   rintro ⟨⟨a0, k0⟩, ⟨ts_76, os_76⟩⟩ ⟨rfl, hd_76⟩
   try dsimp only at hm0
   refine V.seq ?_
   refine V.region ?_
   refine VO.cons rfl (V1.move rfl rfl rfl lt0 ?_)
   refine VO.cons rfl (V1.assign rfl rfl rfl lt0 ?_)
   refine VO.nil ?_
   refine V.keepT 48 [4] [0] (E0 := [(4, .int .i64 k0)]) (A := [(oq, ⟨5, deepC cellCarton ts_76 a0⟩)]) (T := os_76) (H0 := [(oq, ⟨5, deepC cellCarton ts_76 a0⟩)]) (T' := os_76) rfl (⟨_, _, rfl, rfl, rfl⟩) rfl (⟨_, _, rfl, rfl, rfl⟩) rfl (List.Sublist.refl _) ?_
   refine V.ret ?_
   obtain rfl := Option.some.inj hm0
   exact ⟨_, _, ⟨_, _, rfl, rfl, rfl⟩, List.Sublist.refl _, ts_76, os_76, hd_76, rfl, rfl⟩

theorem ok_laws_heldIntS {ρ0 rn : Nat} {a : List Int} {k : Int} {r : Int} (h : M.laws_heldIntS a k = some r) : Does Try.prog 28 [.vl ρ0 1 (List.map encInt a), .int .i64 k] [] rn (fun x H => x = .int .i64 r ∧ H = []) := by
 have hm0 := h; clear h; unfold M.laws_heldIntS at hm0
 try dsimp only at hm0
 refine Does.intro (N := 21) Try.func28 rfl rfl rfl rfl ?_
 intro w0 S0
 refine V.seq ?_
 refine V.region ?_
 refine VO.cons rfl (V1.assign rfl rfl rfl lt0 ?_)
 refine VO.nil ?_
 refine V.seq ?_
 refine V.seq ?_
 refine V.region ?_
 refine VO.cons rfl (V1.assign rfl rfl rfl lt0 ?_)
 refine VO.nil ?_
 replace hm0 := bindO hm0; rcases hm0 with ⟨e0, he1, hm0⟩
 refine V.cutT (D := (Int) × (Unit)) (fun ⟨k0, _⟩ => ⟨21, [(1, .int .i64 k0)], []⟩) (fun ⟨k0, _⟩ => (.inl k0 = e0)) ?_ ?_
 ·
  refine V.block ?_
  refine V.keep 21 [1, 5, 0] [] (E0 := [(1, .int .i64 k), (5, .int .i64 (0 : Int)), (0, .vl ρ0 1 (List.map encInt a))]) (H0 := []) rfl (⟨_, _, rfl, rfl, ⟨_, _, rfl, rfl, ⟨_, _, rfl, rfl, rfl⟩⟩⟩) (rfl) rfl ?_
  refine V.loopE (D := Nat × (Int × Int) × (Unit)) (fun ⟨n0, ⟨k1, i⟩, _⟩ => [(1, .int .i64 k1), (5, .int .i64 i)]) (fun ⟨n0, ⟨k1, i⟩, _⟩ => []) (fun ⟨n0, ⟨k1, i⟩, _⟩ => loopO (M.laws_heldIntS_l0 a) n0 (k1, i) = some e0) (fun ⟨n0, _, _⟩ => n0) (rounds, (k, (0 : Int)), ()) rfl he1 ?_
  rintro ⟨n0, ⟨k1, i⟩, _⟩ hP0
  obtain ⟨m0, y0, rfl, hm1, hl1, hr1⟩ := loop_head hP0
  unfold M.laws_heldIntS_l0 at hm1; dsimp only at hm1
  show V _ _ _ ⟨21, [(1, .int .i64 k1), (5, .int .i64 i), (0, .vl ρ0 1 (List.map encInt a))], []⟩
  refine V.seq ?_
  refine V.seq ?_
  refine V.region ?_
  refine VO.cons rfl (V1.move rfl rfl rfl lt0 ?_)
  refine VO.cons rfl (V1.move rfl rfl rfl lt0 ?_)
  refine VO.cons rfl (V1.lenMap rfl rfl rfl rfl rfl rfl isl_36 lt0 ?_)
  refine VO.cons rfl (V1.int rfl rfl rfl rfl rfl lt0 ?_)
  refine VO.nil ?_
  refine V.cond rfl (fun hc0 => ?_) (fun hc0 => ?_)
  ·
   replace hm1 := cond_t hc0 hm1
   refine V.skip ?_
   refine V.keep 21 [0, 1, 5] [] (E0 := [(0, .vl ρ0 1 (List.map encInt a)), (1, .int .i64 k1), (5, .int .i64 i)]) (H0 := []) rfl (⟨_, _, rfl, rfl, ⟨_, _, rfl, rfl, ⟨_, _, rfl, rfl, rfl⟩⟩⟩) (rfl) rfl ?_
   refine V.seq ?_
   refine V.block ?_
   refine V.seq ?_
   refine V.seq ?_
   replace hm1 := asrt_some hm1; rcases hm1 with ⟨hh0, hm1⟩
   refine V.region ?_
   refine VO.cons rfl (V1.move rfl rfl rfl lt0 ?_)
   refine VO.cons rfl (V1.move rfl rfl rfl lt0 ?_)
   refine VO.cons rfl (V1.indexI rfl rfl esz_36 rfl rfl hh0 lt0 ?_)
   refine VO.cons rfl (V1.loadPin rfl rfl tyk_3 rfl rfl lt0 ?_)
   refine VO.cons rfl (V1.move rfl rfl rfl lt0 ?_)
   refine VO.cons rfl (V1.int rfl rfl rfl rfl rfl lt0 ?_)
   refine VO.nil ?_
   refine V.keep 21 [0, 1, 5, 17] [] (E0 := [(0, .vl ρ0 1 (List.map encInt a)), (1, .int .i64 k1), (5, .int .i64 i), (17, .bool ((a.getD (Int.toNat i) default) != k1))]) (H0 := []) rfl (⟨_, _, rfl, rfl, ⟨_, _, rfl, rfl, ⟨_, _, rfl, rfl, ⟨_, _, rfl, rfl, rfl⟩⟩⟩⟩) (rfl) rfl ?_
   refine V.cond rfl (fun hc1 => ?_) (fun hc1 => ?_)
   ·
    replace hm1 := cond_t hc1 hm1
    refine V.seq ?_
    refine V.region ?_
    refine VO.cons rfl (V1.assign rfl rfl rfl lt0 ?_)
    refine VO.nil ?_
    refine V.ret ?_
    obtain rfl := hr1 _ (Option.some.inj hm1).symm
    change some _ = some _ at hm0
    obtain rfl := Option.some.inj hm0
    exact ⟨_, [], ⟨_, _, rfl, rfl, rfl⟩, List.nil_sublist _, rfl, rfl⟩
   ·
    replace hm1 := cond_f hc1 hm1
    refine V.skip ?_
    refine V.region ?_
    refine VO.cons rfl (V1.move rfl rfl rfl lt0 ?_)
    refine VO.cons rfl (V1.int rfl rfl rfl rfl rfl lt0 ?_)
    refine VO.cons rfl (V1.assign rfl rfl rfl lt0 ?_)
    refine VO.nil ?_
    refine V.region ?_
    refine VO.cons rfl (V1.move rfl rfl rfl lt0 ?_)
    refine VO.cons rfl (V1.int rfl rfl rfl rfl rfl lt0 ?_)
    refine VO.cons rfl (V1.assign rfl rfl rfl lt0 ?_)
    refine VO.nil ?_
    exact ⟨(m0, ((IntKind.i64.wrap (k1 + (1 : Int))), (IntKind.i64.wrap (i + (1 : Int)))), ()), hl1 _ (Option.some.inj hm1).symm, Nat.lt_succ_self _, Keeps.mk (ks := []) rfl ⟨rfl, rfl, rfl, trivial⟩ (rfl) rfl⟩
  ·
   replace hm1 := cond_f hc0 hm1
   refine V.exit ?_
   obtain rfl := hr1 _ (Option.some.inj hm1).symm
   exact ⟨(k1, ()), rfl, Keeps.mk (ks := []) rfl ⟨rfl, trivial⟩ (rfl) rfl⟩
 ·
  rintro ⟨k0, _⟩ rfl
  try dsimp only at hm0
  refine V.seq ?_
  refine V.region ?_
  refine VO.cons rfl (V1.move rfl rfl rfl lt0 ?_)
  refine VO.cons rfl (V1.assign rfl rfl rfl lt0 ?_)
  refine VO.nil ?_
  refine V.ret ?_
  obtain rfl := Option.some.inj hm0
  exact ⟨_, [], ⟨_, _, rfl, rfl, rfl⟩, List.nil_sublist _, rfl, rfl⟩

theorem ok_laws_heldCartonS {ρ0 σ0 rn : Nat} {a : List Carton} {k : Int} {r : Int} (h : M.laws_heldCartonS a k = some r) : Does Try.prog 33 [.vl ρ0 5 (List.map (encCarton σ0) a), .int .i64 k] [] rn (fun x H => x = .int .i64 r ∧ H = []) := by
 have hm0 := h; clear h; unfold M.laws_heldCartonS at hm0
 try dsimp only at hm0
 refine Does.intro (N := 58) Try.func33 rfl rfl rfl rfl ?_
 intro w0 S0
 refine V.seq ?_
 refine V.region ?_
 refine VO.cons rfl (V1.assign rfl rfl rfl lt0 ?_)
 refine VO.nil ?_
 refine V.seq ?_
 refine V.seq ?_
 refine V.region ?_
 refine VO.cons rfl (V1.assign rfl rfl rfl lt0 ?_)
 refine VO.nil ?_
 replace hm0 := bindO hm0; rcases hm0 with ⟨e0, he1, hm0⟩
 refine V.cutT (D := (Int) × (Unit)) (fun ⟨k0, _⟩ => ⟨58, [(1, .int .i64 k0)], []⟩) (fun ⟨k0, _⟩ => (.inl k0 = e0)) ?_ ?_
 ·
  refine V.block ?_
  refine V.keep 58 [1, 5, 0] [] (E0 := [(1, .int .i64 k), (5, .int .i64 (0 : Int)), (0, .vl ρ0 5 (List.map (encCarton σ0) a))]) (H0 := []) rfl (⟨_, _, rfl, rfl, ⟨_, _, rfl, rfl, ⟨_, _, rfl, rfl, rfl⟩⟩⟩) (rfl) rfl ?_
  refine V.loopE (D := Nat × (Int × Int) × (Unit)) (fun ⟨n0, ⟨k1, i⟩, _⟩ => [(1, .int .i64 k1), (5, .int .i64 i)]) (fun ⟨n0, ⟨k1, i⟩, _⟩ => []) (fun ⟨n0, ⟨k1, i⟩, _⟩ => loopO (M.laws_heldCartonS_l0 a) n0 (k1, i) = some e0) (fun ⟨n0, _, _⟩ => n0) (rounds, (k, (0 : Int)), ()) rfl he1 ?_
  rintro ⟨n0, ⟨k1, i⟩, _⟩ hP0
  obtain ⟨m0, y0, rfl, hm1, hl1, hr1⟩ := loop_head hP0
  unfold M.laws_heldCartonS_l0 at hm1; dsimp only at hm1
  show V _ _ _ ⟨58, [(1, .int .i64 k1), (5, .int .i64 i), (0, .vl ρ0 5 (List.map (encCarton σ0) a))], []⟩
  refine V.seq ?_
  refine V.seq ?_
  refine V.region ?_
  refine VO.cons rfl (V1.move rfl rfl rfl lt0 ?_)
  refine VO.cons rfl (V1.move rfl rfl rfl lt0 ?_)
  refine VO.cons rfl (V1.lenMap rfl rfl rfl rfl rfl rfl isl_39 lt0 ?_)
  refine VO.cons rfl (V1.int rfl rfl rfl rfl rfl lt0 ?_)
  refine VO.nil ?_
  refine V.cond rfl (fun hc0 => ?_) (fun hc0 => ?_)
  ·
   replace hm1 := cond_t hc0 hm1
   refine V.skip ?_
   refine V.keep 58 [0, 1, 5] [] (E0 := [(0, .vl ρ0 5 (List.map (encCarton σ0) a)), (1, .int .i64 k1), (5, .int .i64 i)]) (H0 := []) rfl (⟨_, _, rfl, rfl, ⟨_, _, rfl, rfl, ⟨_, _, rfl, rfl, rfl⟩⟩⟩) (rfl) rfl ?_
   refine V.seq ?_
   refine V.block ?_
   refine V.seq ?_
   refine V.seq ?_
   replace hm1 := asrt_some hm1; rcases hm1 with ⟨hh0, hm1⟩
   refine V.region ?_
   refine VO.cons rfl (V1.move rfl rfl rfl lt0 ?_)
   refine VO.cons rfl (V1.move rfl rfl rfl lt0 ?_)
   refine VO.cons rfl (V1.indexI rfl rfl esz_39 rfl rfl hh0 lt0 ?_)
   refine VO.cons rfl (V1.fieldPin rfl rfl fo_67_0 rfl lt0 ?_)
   refine VO.cons rfl (V1.loadPin rfl rfl tyk_3 rfl rfl lt0 ?_)
   refine VO.cons rfl (V1.move rfl rfl rfl lt0 ?_)
   refine VO.cons rfl (V1.int rfl rfl rfl rfl rfl lt0 ?_)
   refine VO.nil ?_
   refine V.keep 58 [0, 1, 5, 18] [] (E0 := [(0, .vl ρ0 5 (List.map (encCarton σ0) a)), (1, .int .i64 k1), (5, .int .i64 i), (18, .bool (((a.getD (Int.toNat i) default).Id) != k1))]) (H0 := []) rfl (⟨_, _, rfl, rfl, ⟨_, _, rfl, rfl, ⟨_, _, rfl, rfl, ⟨_, _, rfl, rfl, rfl⟩⟩⟩⟩) (rfl) rfl ?_
   refine V.cond rfl (fun hc1 => ?_) (fun hc1 => ?_)
   ·
    replace hm1 := cond_t hc1 hm1
    refine V.seq ?_
    refine V.region ?_
    refine VO.cons rfl (V1.assign rfl rfl rfl lt0 ?_)
    refine VO.nil ?_
    refine V.ret ?_
    obtain rfl := hr1 _ (Option.some.inj hm1).symm
    change some _ = some _ at hm0
    obtain rfl := Option.some.inj hm0
    exact ⟨_, [], ⟨_, _, rfl, rfl, rfl⟩, List.nil_sublist _, rfl, rfl⟩
   ·
    replace hm1 := cond_f hc1 hm1
    refine V.skip ?_
    refine V.seq ?_
    refine V.region ?_
    refine VO.cons rfl (V1.move rfl rfl rfl lt0 ?_)
    refine VO.cons rfl (V1.int rfl rfl rfl rfl rfl lt0 ?_)
    refine VO.cons rfl (V1.assign rfl rfl rfl lt0 ?_)
    refine VO.nil ?_
    refine V.seq ?_
    refine V.seq ?_
    replace hm1 := asrt_some hm1; rcases hm1 with ⟨hh1, hm1⟩
    refine V.region ?_
    refine VO.cons rfl (V1.move rfl rfl rfl lt0 ?_)
    refine VO.cons rfl (V1.move rfl rfl rfl lt0 ?_)
    refine VO.cons rfl (V1.indexI rfl rfl esz_39 rfl rfl hh1 lt0 ?_)
    refine VO.cons rfl (V1.fieldPin rfl rfl fo_67_1 rfl lt0 ?_)
    refine VO.cons rfl (V1.loadPin rfl rfl tyk_3 rfl rfl lt0 ?_)
    refine VO.cons rfl (V1.move rfl rfl rfl lt0 ?_)
    refine VO.cons rfl (V1.int rfl rfl rfl rfl rfl lt0 ?_)
    refine VO.nil ?_
    refine V.keep 58 [0, 1, 5, 27] [] (E0 := [(0, .vl ρ0 5 (List.map (encCarton σ0) a)), (1, .int .i64 (IntKind.i64.wrap (k1 + (1 : Int)))), (5, .int .i64 i), (27, .bool (((a.getD (Int.toNat i) default).Shelf) != (IntKind.i64.wrap (k1 + (1 : Int)))))]) (H0 := []) rfl (⟨_, _, rfl, rfl, ⟨_, _, rfl, rfl, ⟨_, _, rfl, rfl, ⟨_, _, rfl, rfl, rfl⟩⟩⟩⟩) (rfl) rfl ?_
    refine V.cond rfl (fun hc2 => ?_) (fun hc2 => ?_)
    ·
     replace hm1 := cond_t hc2 hm1
     refine V.seq ?_
     refine V.region ?_
     refine VO.cons rfl (V1.assign rfl rfl rfl lt0 ?_)
     refine VO.nil ?_
     refine V.ret ?_
     obtain rfl := hr1 _ (Option.some.inj hm1).symm
     change some _ = some _ at hm0
     obtain rfl := Option.some.inj hm0
     exact ⟨_, [], ⟨_, _, rfl, rfl, rfl⟩, List.nil_sublist _, rfl, rfl⟩
    ·
     replace hm1 := cond_f hc2 hm1
     refine V.skip ?_
     refine V.seq ?_
     refine V.region ?_
     refine VO.cons rfl (V1.move rfl rfl rfl lt0 ?_)
     refine VO.cons rfl (V1.int rfl rfl rfl rfl rfl lt0 ?_)
     refine VO.cons rfl (V1.assign rfl rfl rfl lt0 ?_)
     refine VO.nil ?_
     refine V.seq ?_
     refine V.seq ?_
     replace hm1 := asrt_some hm1; rcases hm1 with ⟨hh2, hm1⟩
     refine V.region ?_
     refine VO.cons rfl (V1.move rfl rfl rfl lt0 ?_)
     refine VO.cons rfl (V1.move rfl rfl rfl lt0 ?_)
     refine VO.cons rfl (V1.indexI rfl rfl esz_39 rfl rfl hh2 lt0 ?_)
     refine VO.cons rfl (V1.fieldPin rfl rfl fo_67_2 rfl lt0 ?_)
     refine VO.cons rfl (V1.loadPin rfl rfl tyk_3 rfl rfl lt0 ?_)
     refine VO.cons rfl (V1.move rfl rfl rfl lt0 ?_)
     refine VO.cons rfl (V1.int rfl rfl rfl rfl rfl lt0 ?_)
     refine VO.nil ?_
     refine V.keep 58 [0, 1, 5, 36] [] (E0 := [(0, .vl ρ0 5 (List.map (encCarton σ0) a)), (1, .int .i64 (IntKind.i64.wrap ((IntKind.i64.wrap (k1 + (1 : Int))) + (1 : Int)))), (5, .int .i64 i), (36, .bool (((a.getD (Int.toNat i) default).Room) != (IntKind.i64.wrap ((IntKind.i64.wrap (k1 + (1 : Int))) + (1 : Int)))))]) (H0 := []) rfl (⟨_, _, rfl, rfl, ⟨_, _, rfl, rfl, ⟨_, _, rfl, rfl, ⟨_, _, rfl, rfl, rfl⟩⟩⟩⟩) (rfl) rfl ?_
     refine V.cond rfl (fun hc3 => ?_) (fun hc3 => ?_)
     ·
      replace hm1 := cond_t hc3 hm1
      refine V.seq ?_
      refine V.region ?_
      refine VO.cons rfl (V1.assign rfl rfl rfl lt0 ?_)
      refine VO.nil ?_
      refine V.ret ?_
      obtain rfl := hr1 _ (Option.some.inj hm1).symm
      change some _ = some _ at hm0
      obtain rfl := Option.some.inj hm0
      exact ⟨_, [], ⟨_, _, rfl, rfl, rfl⟩, List.nil_sublist _, rfl, rfl⟩
     ·
      replace hm1 := cond_f hc3 hm1
      refine V.skip ?_
      refine V.seq ?_
      refine V.region ?_
      refine VO.cons rfl (V1.move rfl rfl rfl lt0 ?_)
      refine VO.cons rfl (V1.int rfl rfl rfl rfl rfl lt0 ?_)
      refine VO.cons rfl (V1.assign rfl rfl rfl lt0 ?_)
      refine VO.nil ?_
      refine V.seq ?_
      replace hm1 := asrt_some hm1; rcases hm1 with ⟨hh3, hm1⟩
      replace hm1 := bindO hm1; rcases hm1 with ⟨y1, hh4, hm1⟩
      refine V.region ?_
      refine VO.cons rfl (V1.move rfl rfl rfl lt0 ?_)
      refine VO.cons rfl (V1.move rfl rfl rfl lt0 ?_)
      refine VO.cons rfl (V1.indexI rfl rfl esz_39 rfl rfl hh3 lt0 ?_)
      refine VO.cons rfl (V1.fieldPin rfl rfl fo_67_3 rfl lt0 ?_)
      refine VO.cons rfl (V1.loadPin rfl rfl tyk_36 rfl rfl lt0 ?_)
      refine VO.cons rfl (V1.move rfl rfl rfl lt0 ?_)
      refine VO.cons rfl (V1.call rfl rfl rfl cok_28 rfl (ok_laws_heldIntS hh4) rfl lt0 ?_)
      rintro _ _ ⟨rfl, rfl⟩
      refine VO.cons rfl (V1.assign rfl rfl rfl lt0 ?_)
      refine VO.nil ?_
      refine V.keep 58 [0, 1, 5] [] (E0 := [(0, .vl ρ0 5 (List.map (encCarton σ0) a)), (1, .int .i64 y1), (5, .int .i64 i)]) (H0 := []) rfl (⟨_, _, rfl, rfl, ⟨_, _, rfl, rfl, ⟨_, _, rfl, rfl, rfl⟩⟩⟩) (rfl) rfl ?_
      refine V.seq ?_
      refine V.seq ?_
      refine V.region ?_
      refine VO.cons rfl (V1.move rfl rfl rfl lt0 ?_)
      refine VO.cons rfl (V1.int rfl rfl rfl rfl rfl lt0 ?_)
      refine VO.nil ?_
      refine V.cond rfl (fun hc4 => ?_) (fun hc4 => ?_)
      ·
       replace hm1 := cond_t hc4 hm1
       refine V.seq ?_
       refine V.region ?_
       refine VO.cons rfl (V1.assign rfl rfl rfl lt0 ?_)
       refine VO.nil ?_
       refine V.ret ?_
       obtain rfl := hr1 _ (Option.some.inj hm1).symm
       change some _ = some _ at hm0
       obtain rfl := Option.some.inj hm0
       exact ⟨_, [], ⟨_, _, rfl, rfl, rfl⟩, List.nil_sublist _, rfl, rfl⟩
      ·
       replace hm1 := cond_f hc4 hm1
       refine V.skip ?_
       refine V.seq ?_
       refine V.seq ?_
       replace hm1 := asrt_some hm1; rcases hm1 with ⟨hh5, hm1⟩
       refine V.region ?_
       refine VO.cons rfl (V1.move rfl rfl rfl lt0 ?_)
       refine VO.cons rfl (V1.move rfl rfl rfl lt0 ?_)
       refine VO.cons rfl (V1.indexI rfl rfl esz_39 rfl rfl hh5 lt0 ?_)
       refine VO.cons rfl (V1.fieldPin rfl rfl fo_67_4 rfl lt0 ?_)
       refine VO.cons rfl (V1.loadPin rfl rfl tyk_3 rfl rfl lt0 ?_)
       refine VO.cons rfl (V1.move rfl rfl rfl lt0 ?_)
       refine VO.cons rfl (V1.int rfl rfl rfl rfl rfl lt0 ?_)
       refine VO.nil ?_
       refine V.keep 58 [0, 1, 5, 54] [] (E0 := [(0, .vl ρ0 5 (List.map (encCarton σ0) a)), (1, .int .i64 y1), (5, .int .i64 i), (54, .bool (((a.getD (Int.toNat i) default).Thick) != y1))]) (H0 := []) rfl (⟨_, _, rfl, rfl, ⟨_, _, rfl, rfl, ⟨_, _, rfl, rfl, ⟨_, _, rfl, rfl, rfl⟩⟩⟩⟩) (rfl) rfl ?_
       refine V.cond rfl (fun hc5 => ?_) (fun hc5 => ?_)
       ·
        replace hm1 := cond_t hc5 hm1
        refine V.seq ?_
        refine V.region ?_
        refine VO.cons rfl (V1.assign rfl rfl rfl lt0 ?_)
        refine VO.nil ?_
        refine V.ret ?_
        obtain rfl := hr1 _ (Option.some.inj hm1).symm
        change some _ = some _ at hm0
        obtain rfl := Option.some.inj hm0
        exact ⟨_, [], ⟨_, _, rfl, rfl, rfl⟩, List.nil_sublist _, rfl, rfl⟩
       ·
        replace hm1 := cond_f hc5 hm1
        refine V.skip ?_
        refine V.region ?_
        refine VO.cons rfl (V1.move rfl rfl rfl lt0 ?_)
        refine VO.cons rfl (V1.int rfl rfl rfl rfl rfl lt0 ?_)
        refine VO.cons rfl (V1.assign rfl rfl rfl lt0 ?_)
        refine VO.nil ?_
        refine V.region ?_
        refine VO.cons rfl (V1.move rfl rfl rfl lt0 ?_)
        refine VO.cons rfl (V1.int rfl rfl rfl rfl rfl lt0 ?_)
        refine VO.cons rfl (V1.assign rfl rfl rfl lt0 ?_)
        refine VO.nil ?_
        exact ⟨(m0, ((IntKind.i64.wrap (y1 + (1 : Int))), (IntKind.i64.wrap (i + (1 : Int)))), ()), hl1 _ (Option.some.inj hm1).symm, Nat.lt_succ_self _, Keeps.mk (ks := []) rfl ⟨rfl, rfl, rfl, trivial⟩ (rfl) rfl⟩
  ·
   replace hm1 := cond_f hc0 hm1
   refine V.exit ?_
   obtain rfl := hr1 _ (Option.some.inj hm1).symm
   exact ⟨(k1, ()), rfl, Keeps.mk (ks := []) rfl ⟨rfl, trivial⟩ (rfl) rfl⟩
 ·
  rintro ⟨k0, _⟩ rfl
  try dsimp only at hm0
  refine V.seq ?_
  refine V.region ?_
  refine VO.cons rfl (V1.move rfl rfl rfl lt0 ?_)
  refine VO.cons rfl (V1.assign rfl rfl rfl lt0 ?_)
  refine VO.nil ?_
  refine V.ret ?_
  obtain rfl := Option.some.inj hm0
  exact ⟨_, [], ⟨_, _, rfl, rfl, rfl⟩, List.nil_sublist _, rfl, rfl⟩

theorem ok_laws_FnExactMergeCartons {ρ0 σ0 rn : Nat} {aList : List Carton} {aA : Int} {aB : Int} {r : Bool} (h : M.laws_FnExactMergeCartons aList aA aB = some r) : Does Try.prog 8 [.vl ρ0 5 (List.map (encCarton σ0) aList), .int .i64 aA, .int .i64 aB] [] rn (fun x H => x = .bool r ∧ H = []) := by
 have hm0 := h; clear h; unfold M.laws_FnExactMergeCartons at hm0
 try dsimp only at hm0
 refine Does.intro (N := 106) Try.func8 rfl rfl rfl rfl ?_
 intro w0 S0
 refine V.seq ?_
 refine V.region ?_
 refine VO.cons rfl (V1.assign rfl rfl rfl lt0 ?_)
 refine VO.nil ?_
 refine V.seq ?_
 refine V.region ?_
 refine VO.cons rfl (V1.assign rfl rfl rfl lt0 ?_)
 refine VO.nil ?_
 refine V.seq ?_
 replace hm0 := bindO hm0; rcases hm0 with ⟨y0, hh0, hm0⟩
 refine V.region ?_
 refine VO.cons rfl (V1.move rfl rfl rfl lt0 ?_)
 refine VO.cons rfl (V1.move rfl rfl rfl lt0 ?_)
 refine VO.cons rfl (V1.call rfl rfl rfl cok_20 rfl (ok_laws_szCartonS hh0) rfl lt0 ?_)
 rintro _ _ ⟨rfl, rfl⟩
 refine VO.cons rfl (V1.assign rfl rfl rfl lt0 ?_)
 refine VO.nil ?_
 refine V.keep 106 [0, 1, 2, 7] [] (E0 := [(0, .vl ρ0 5 (List.map (encCarton σ0) aList)), (1, .int .i64 aA), (2, .int .i64 aB), (7, .int .i64 y0)]) (H0 := []) rfl (⟨_, _, rfl, rfl, ⟨_, _, rfl, rfl, ⟨_, _, rfl, rfl, ⟨_, _, rfl, rfl, rfl⟩⟩⟩⟩) (rfl) rfl ?_
 refine V.seq ?_
 refine V.seq ?_
 refine V.region ?_
 refine VO.cons rfl (V1.move rfl rfl rfl lt0 ?_)
 refine VO.cons rfl (V1.int rfl rfl rfl rfl rfl lt0 ?_)
 refine VO.nil ?_
 refine V.cond rfl (fun hc0 => ?_) (fun hc0 => ?_)
 ·
  replace hm0 := cond_t hc0 hm0
  refine V.seq ?_
  refine V.region ?_
  refine VO.cons rfl (V1.assign rfl rfl rfl lt0 ?_)
  refine VO.nil ?_
  refine V.ret ?_
  obtain rfl := Option.some.inj hm0
  exact ⟨_, [], ⟨_, _, rfl, rfl, rfl⟩, List.nil_sublist _, rfl, rfl⟩
 ·
  replace hm0 := cond_f hc0 hm0
  refine V.skip ?_
  refine V.seq ?_
  replace hm0 := bindO hm0; rcases hm0 with ⟨y1, hh1, hm0⟩
  replace hm0 := bindO hm0; rcases hm0 with ⟨y2, hh2, hm0⟩
  refine V.region ?_
  refine VO.cons rfl (V1.move rfl rfl rfl lt0 ?_)
  refine VO.cons rfl (V1.call rfl rfl rfl cok_22 rfl (ok_laws_toCartonS hh1) rfl lt0 ?_)
  rintro _ _ ⟨b0, rfl, rfl⟩
  refine VO.weakenK (Keeps.freezeG 0 rn [(25, .vl rn 5 (List.map (encCarton rn) y1))] ([]) (f := (encCarton rn)) (l := y1) rfl (fun _ => rfl) ⟨⟨_, rfl, .here⟩, trivial⟩ rfl rfl iNil) ?_
  refine VO.cons rfl (V1.move rfl rfl rfl lt0 ?_)
  refine VO.cons rfl (V1.move rfl rfl rfl lt0 ?_)
  refine VO.cons rfl (V1.call rfl rfl rfl cok_37 rfl (ok_spec_MergeCartons hh2) rfl lt0 ?_)
  rintro _ _ ⟨b1, rfl, rfl⟩
  refine VO.cons rfl (V1.move rfl rfl rfl lt0 ?_)
  refine VO.cons rfl (V1.extract rfl rfl rfl rfl lt0 ?_)
  refine VO.weakenK (Keeps.freezeG 0 rn [(29, .vl rn 5 (List.map (encCarton rn) y2.1))] ([]) (f := (encCarton rn)) (l := y2.1) rfl (fun _ => rfl) ⟨⟨_, rfl, .here⟩, trivial⟩ rfl rfl iNil) ?_
  refine VO.cons rfl (V1.extract rfl rfl rfl rfl lt0 ?_)
  refine VO.cons rfl (V1.assign rfl rfl rfl lt0 ?_)
  refine VO.cons rfl (V1.assign rfl rfl rfl lt0 ?_)
  refine VO.nil ?_
  refine V.keep 106 [0, 1, 2, 8, 9] [] (E0 := [(0, .vl ρ0 5 (List.map (encCarton σ0) aList)), (1, .int .i64 aA), (2, .int .i64 aB), (8, .vl rn 5 (List.map (encCarton rn) y2.1)), (9, .bool y2.2)]) (H0 := []) rfl (⟨_, _, rfl, rfl, ⟨_, _, rfl, rfl, ⟨_, _, rfl, rfl, ⟨_, _, rfl, rfl, ⟨_, _, rfl, rfl, rfl⟩⟩⟩⟩⟩) (rfl) rfl ?_
  refine V.seq ?_
  replace hm0 := bindO hm0; rcases hm0 with ⟨y3, hh3, hm0⟩
  refine V.region ?_
  refine VO.cons rfl (V1.move rfl rfl rfl lt0 ?_)
  refine VO.cons rfl (V1.permK (V1.call rfl rfl rfl cok_22 rfl (okd_laws_toCartonS hh3) rfl lt0 ?_))
  rintro _ _ ⟨b2, ts_65, os_65, hd_65, rfl, rfl⟩
  refine ⟨_, ?_, Keeps.perm (([(b2, ⟨5, deepC cellCarton ts_65 y3⟩)] : List (Nat × Obj')) ++ os_65) (permDeep1 (p := (b2, ⟨5, deepC cellCarton ts_65 y3⟩)) (os := os_65) (A := []))⟩
  refine VO.cons rfl (V1.assign rfl rfl rfl lt0 ?_)
  refine VO.nil ?_
  refine V.seq ?_
  replace hm0 := bindO hm0; rcases hm0 with ⟨y4, hh4, hm0⟩
  refine V.region ?_
  refine VO.cons rfl (V1.move rfl rfl rfl lt0 ?_)
  refine VO.cons rfl (V1.move rfl rfl rfl lt0 ?_)
  refine VO.cons rfl (V1.move rfl rfl rfl lt0 ?_)
  refine VO.cons rfl (V1.permK (V1.callL (rn + 1) ([b2] ++ List.map Prod.fst os_65) [.vl (rn + 1) 5 (List.map (encCarton (rn + 1)) y3), .int .i64 aA, .int .i64 aB] rfl rfl rfl cok_38 rfl ⟨_, _, rfl, Lend.deep (m := 1) (inn := (fun c_ : Carton => List.map encInt c_.Files)) (cell := cellCarton) cokCarton (ts := ts_65) (os := os_65) (xs := y3) 0 hd_65 rfl (fun _ => roL_map (fun _ => rfl) _) rfl (fun p hp => memTail (A := [(b2, ⟨5, deepC cellCarton ts_65 y3⟩)]) (T := os_65) hp rfl) (List.mem_append_left _ (.head _)) (fun p hp => List.mem_append_right _ (List.mem_map.2 ⟨p, hp, rfl⟩)), ⟨_, _, rfl, .same _, ⟨_, _, rfl, .same _, rfl⟩⟩⟩ (bwTail (A := [(b2, ⟨5, deepC cellCarton ts_65 y3⟩)]) (T := os_65) rfl (bwCons (k := 0) rfl bwNil) (fun p hp => hp)) (ok_impl_MergeCartons hh4) rfl (⟨(by first | omega | (dsimp only; omega)), by rintro _ _ ⟨ob0, ts_66, os_66, hob0, hd_66, rfl, rfl⟩; refine ⟨by simp [PV.no, PV.noL, optS_no, noL_iff, nbeq] <;> omega, ?_⟩; intro b ob h; obtain ⟨q1_, q2_⟩ := deepNo cokCarton (fun _ => noL_map (fun _ => rfl) _) hd_66; exact (List.mem_append.1 h).elim (fun h => optH_no q1_ b ob h) (fun h => q2_ b ob h)⟩) lt0 ?_))
  rintro _ _ ⟨ob0, ts_66, os_66, hob0, hd_66, rfl, rfl⟩
  refine ⟨_, ?_, Keeps.perm (optH 5 ob0 (deepC cellCarton ts_66 y4.1) ++ (([(b2, ⟨5, deepC cellCarton ts_65 y3⟩)] : List (Nat × Obj')) ++ (os_66 ++ os_65))) (permDeepO (o := optH 5 ob0 (deepC cellCarton ts_66 y4.1)) (os := os_66) (A := [(b2, ⟨5, deepC cellCarton ts_65 y3⟩)]) (T := os_65))⟩
  refine VO.cons rfl (V1.move rfl rfl rfl lt0 ?_)
  refine VO.cons rfl (V1.extract rfl rfl rfl rfl lt0 ?_)
  refine VO.cons rfl (V1.extract rfl rfl rfl rfl lt0 ?_)
  refine VO.cons rfl (V1.assign rfl rfl rfl lt0 ?_)
  refine VO.cons rfl (V1.assign rfl rfl rfl lt0 ?_)
  refine VO.nil ?_
  rcases ob0 with _ | ob0
  ·
   obtain ⟨rfl, rfl⟩ := Deep.nil (hob0 rfl) hd_66
   refine V.keepT 106 [0, 1, 2, 8, 9, 10, 11, 12] [0] (E0 := [(0, .vl ρ0 5 (List.map (encCarton σ0) aList)), (1, .int .i64 aA), (2, .int .i64 aB), (8, .vl rn 5 (List.map (encCarton rn) y2.1)), (9, .bool y2.2), (10, .sref b2 5 0 (List.length y3)), (11, .nils), (12, .bool y4.2)]) (A := [(b2, ⟨5, deepC cellCarton ts_65 y3⟩)]) (T := os_65) (H0 := [(b2, ⟨5, deepC cellCarton ts_65 y3⟩)]) (T' := os_65) rfl (⟨_, _, rfl, rfl, ⟨_, _, rfl, rfl, ⟨_, _, rfl, rfl, ⟨_, _, rfl, rfl, ⟨_, _, rfl, rfl, ⟨_, _, rfl, rfl, ⟨_, _, rfl, rfl, ⟨_, _, rfl, rfl, rfl⟩⟩⟩⟩⟩⟩⟩⟩) rfl (⟨_, _, rfl, rfl, rfl⟩) rfl (List.Sublist.refl _) ?_
   refine V.seq ?_
   refine V.seq ?_
   replace hm0 := bindO hm0; rcases hm0 with ⟨y5, hh5, hm0⟩
   refine V.region ?_
   refine VO.cons rfl (V1.move rfl rfl rfl lt0 ?_)
   refine VO.cons rfl (V1.move rfl rfl rfl lt0 ?_)
   refine VO.weakenK (Keeps.nilsE (l := y4.1) 40 rn 5 (encCarton rn) (hob0 rfl) rfl rfl) ?_
   refine VO.cons rfl (V1.call rfl rfl rfl cok_25 rfl (ok_laws_eqCartonS hh5) rfl lt0 ?_)
   rintro _ _ ⟨rfl, rfl⟩
   refine VO.cons rfl (V1.not rfl rfl rfl lt0 ?_)
   refine VO.cons rfl (V1.move rfl rfl rfl lt0 ?_)
   apply VO.or (n := 3) rfl rfl rfl rfl rfl rfl lt0 (.none rfl)
   ·
    intro hg0
    refine VO.step (.some rfl rfl rfl) (V1.move rfl rfl rfl lt0 ?_)
    refine VO.step (.some rfl rfl rfl) (V1.move rfl rfl rfl lt0 ?_)
    refine VO.step (.some rfl rfl rfl) (V1.boolNeq rfl rfl und_4 rfl rfl lt0 ?_)
    exact VO.nil ⟨rfl, rfl, rfl, rfl, .inr ⟨rfl, .inr ⟨rfl, .inr ⟨rfl, .inr ⟨rfl, .inl rfl⟩⟩⟩⟩⟩
   refine VO.nil ?_
   refine V.keepT 106 [0, 1, 2, 8, 9, 10, 11, 12, 48] [0] (E0 := [(0, .vl ρ0 5 (List.map (encCarton σ0) aList)), (1, .int .i64 aA), (2, .int .i64 aB), (8, .vl rn 5 (List.map (encCarton rn) y2.1)), (9, .bool y2.2), (10, .sref b2 5 0 (List.length y3)), (11, .nils), (12, .bool y4.2), (48, .bool ((!y5) || (!(y4.2 == y2.2))))]) (A := [(b2, ⟨5, deepC cellCarton ts_65 y3⟩)]) (T := os_65) (H0 := [(b2, ⟨5, deepC cellCarton ts_65 y3⟩)]) (T' := os_65) rfl (⟨_, _, rfl, rfl, ⟨_, _, rfl, rfl, ⟨_, _, rfl, rfl, ⟨_, _, rfl, rfl, ⟨_, _, rfl, rfl, ⟨_, _, rfl, rfl, ⟨_, _, rfl, rfl, ⟨_, _, rfl, rfl, ⟨_, _, rfl, rfl, rfl⟩⟩⟩⟩⟩⟩⟩⟩⟩) rfl (⟨_, _, rfl, rfl, rfl⟩) rfl (List.Sublist.refl _) ?_
   refine V.cond rfl (fun hc1 => ?_) (fun hc1 => ?_)
   ·
    replace hm0 := cond_t hc1 hm0
    refine V.seq ?_
    refine V.region ?_
    refine VO.cons rfl (V1.assign rfl rfl rfl lt0 ?_)
    refine VO.nil ?_
    refine V.ret ?_
    obtain rfl := Option.some.inj hm0
    exact ⟨_, [], ⟨_, _, rfl, rfl, rfl⟩, List.nil_sublist _, rfl, rfl⟩
   ·
    replace hm0 := cond_f hc1 hm0
    refine V.skip ?_
    refine V.seq ?_
    refine V.seq ?_
    replace hm0 := bindO hm0; rcases hm0 with ⟨y6, hh6, hm0⟩
    replace hm0 := bindO hm0; rcases hm0 with ⟨y7, hh7, hm0⟩
    refine V.region ?_
    refine VO.cons rfl (V1.move rfl rfl rfl lt0 ?_)
    refine VO.cons rfl (V1.move rfl rfl rfl lt0 ?_)
    refine VO.cons rfl (V1.call rfl rfl rfl cok_22 rfl (ok_laws_toCartonS hh6) rfl lt0 ?_)
    rintro _ _ ⟨b3, rfl, rfl⟩
    refine VO.weakenK (Keeps.freezeG 0 rn [(51, .vl rn 5 (List.map (encCarton rn) y6))] ((b2, ⟨5, deepC cellCarton ts_65 y3⟩) :: os_65) (f := (encCarton rn)) (l := y6) rfl (fun _ => rfl) ⟨⟨_, rfl, .here⟩, trivial⟩ ⟨_, _, rfl, rfl, .inl rfl, FrzH.same⟩ rfl iNil) ?_
    refine VO.cons rfl (V1.callL (rn + 1) ([b2] ++ List.map Prod.fst os_65) [.vl (rn + 1) 5 (List.map (encCarton (rn + 1)) y3), .vl rn 5 (List.map (encCarton rn) y6)] rfl rfl rfl cok_25 rfl ⟨_, _, rfl, Lend.deep (m := 1) (inn := (fun c_ : Carton => List.map encInt c_.Files)) (cell := cellCarton) cokCarton (ts := ts_65) (os := os_65) (xs := y3) 0 hd_65 rfl (fun _ => roL_map (fun _ => rfl) _) rfl (fun p hp => memTail (A := [(b2, ⟨5, deepC cellCarton ts_65 y3⟩)]) (T := os_65) hp rfl) (List.mem_append_left _ (.head _)) (fun p hp => List.mem_append_right _ (List.mem_map.2 ⟨p, hp, rfl⟩)), ⟨_, _, rfl, .same _, rfl⟩⟩ (bwTail (A := [(b2, ⟨5, deepC cellCarton ts_65 y3⟩)]) (T := os_65) rfl (bwCons (k := 0) rfl bwNil) (fun p hp => hp)) (ok_laws_eqCartonS hh7) rfl (⟨(by first | omega | (dsimp only; omega)), by rintro _ _ ⟨rfl, rfl⟩; exact ⟨rfl, by simp⟩⟩) lt0 ?_)
    rintro _ _ ⟨rfl, rfl⟩
    refine VO.cons rfl (V1.not rfl rfl rfl lt0 ?_)
    refine VO.nil ?_
    refine V.keepT 106 [0, 1, 2, 8, 9, 10, 11, 12, 53] [0] (E0 := [(0, .vl ρ0 5 (List.map (encCarton σ0) aList)), (1, .int .i64 aA), (2, .int .i64 aB), (8, .vl rn 5 (List.map (encCarton rn) y2.1)), (9, .bool y2.2), (10, .sref b2 5 0 (List.length y3)), (11, .nils), (12, .bool y4.2), (53, .bool (!y7))]) (A := [(b2, ⟨5, deepC cellCarton ts_65 y3⟩)]) (T := os_65) (H0 := [(b2, ⟨5, deepC cellCarton ts_65 y3⟩)]) (T' := os_65) rfl (⟨_, _, rfl, rfl, ⟨_, _, rfl, rfl, ⟨_, _, rfl, rfl, ⟨_, _, rfl, rfl, ⟨_, _, rfl, rfl, ⟨_, _, rfl, rfl, ⟨_, _, rfl, rfl, ⟨_, _, rfl, rfl, ⟨_, _, rfl, rfl, rfl⟩⟩⟩⟩⟩⟩⟩⟩⟩) rfl (⟨_, _, rfl, rfl, rfl⟩) rfl (List.Sublist.refl _) ?_
    refine V.cond rfl (fun hc2 => ?_) (fun hc2 => ?_)
    ·
     replace hm0 := cond_t hc2 hm0
     refine V.seq ?_
     refine V.region ?_
     refine VO.cons rfl (V1.assign rfl rfl rfl lt0 ?_)
     refine VO.nil ?_
     refine V.ret ?_
     obtain rfl := Option.some.inj hm0
     exact ⟨_, [], ⟨_, _, rfl, rfl, rfl⟩, List.nil_sublist _, rfl, rfl⟩
    ·
     replace hm0 := cond_f hc2 hm0
     refine V.skip ?_
     refine V.seq ?_
     refine V.region ?_
     refine VO.cons rfl (V1.assign rfl rfl rfl lt0 ?_)
     refine VO.nil ?_
     refine V.seq ?_
     replace hm0 := bindO hm0; rcases hm0 with ⟨y8, hh8, hm0⟩
     replace hm0 := asrt_some hm0; rcases hm0 with ⟨hh9, hm0⟩
     refine V.region ?_
     refine VO.cons rfl (V1.move rfl rfl rfl lt0 ?_)
     refine VO.cons rfl (V1.move rfl rfl rfl lt0 ?_)
     refine VO.cons rfl (V1.permK (V1.callDT 0 (A := [(b2, ⟨5, deepC cellCarton ts_65 y3⟩)]) (A' := []) (T0 := os_65) (os := os_65) (T := []) (p := (b2, ⟨5, deepC cellCarton ts_65 y3⟩)) rfl rfl rfl cok_26 rfl rfl (.of_eq (List.append_nil _).symm) rfl rfl (rn + 1) [] [.sref b2 5 0 (List.length y3), .int .i64 (1 : Int)] ⟨_, _, rfl, .same _, ⟨_, _, rfl, .same _, rfl⟩⟩ bwNil (ok_laws_markCartonS hh8 (oq := some b2) (tq := ts_65) (oz := os_65) (fun e => by cases e) hd_65) rfl (.inl rfl) lt0 ?_))
     rintro _ _ ⟨ts_83, os_83, hd_83, rfl, rfl⟩
     refine ⟨_, ?_, Keeps.perm (([(b2, ⟨5, deepC cellCarton ts_83 y8.2⟩)] : List (Nat × Obj')) ++ os_83) (permDeep0 (p := (b2, ⟨5, deepC cellCarton ts_83 y8.2⟩)) (os := os_83) (A := []))⟩
     refine VO.cons rfl (V1.assign rfl rfl rfl lt0 ?_)
     refine VO.nil ?_
     refine V.seq ?_
     refine V.seq ?_
     replace hm0 := bindO hm0; rcases hm0 with ⟨y9, hh10, hm0⟩
     refine V.region ?_
     refine VO.cons rfl (V1.move rfl rfl rfl lt0 ?_)
     refine VO.cons rfl (V1.int rfl rfl rfl rfl rfl lt0 ?_)
     refine VO.cons rfl (V1.move rfl rfl rfl lt0 ?_)
     apply VO.or (n := 4) rfl rfl rfl rfl rfl rfl lt0 (.none rfl)
     ·
      intro hg1
      refine VO.step (.some rfl rfl rfl) (V1.move rfl rfl rfl lt0 ?_)
      refine VO.step (.some rfl rfl rfl) (V1.move rfl rfl rfl lt0 ?_)
      refine VO.weakenK (Keeps.nilsE (l := y4.1) 60 rn 5 (encCarton rn) (hob0 rfl) rfl rfl) ?_
      refine VO.step (.some rfl rfl rfl) (V1.call rfl rfl rfl cok_25 rfl (ok_laws_eqCartonS (cond_f hg1 hh10)) rfl lt0 ?_)
      rintro _ _ ⟨rfl, rfl⟩
      refine VO.step (.some rfl rfl rfl) (V1.not rfl rfl rfl lt0 ?_)
      exact VO.nil ⟨rfl, rfl, rfl, rfl, .inr ⟨rfl, .inr ⟨rfl, .inr ⟨rfl, .inr ⟨rfl, .inr ⟨rfl, .inr ⟨rfl, .inl rfl⟩⟩⟩⟩⟩⟩⟩
     refine VO.cons rfl (V1.move rfl rfl rfl lt0 ?_)
     apply VO.or (n := 3) rfl rfl rfl rfl rfl rfl lt0 (.none rfl)
     ·
      intro hg2
      refine VO.step (.some rfl rfl rfl) (V1.move rfl rfl rfl lt0 ?_)
      refine VO.step (.some rfl rfl rfl) (V1.move rfl rfl rfl lt0 ?_)
      refine VO.step (.some rfl rfl rfl) (V1.boolNeq rfl rfl und_4 rfl rfl lt0 ?_)
      exact VO.nil ⟨rfl, rfl, rfl, rfl, .inr ⟨rfl, .inr ⟨rfl, .inr ⟨rfl, .inr ⟨rfl, .inl rfl⟩⟩⟩⟩⟩
     refine VO.nil ?_
     refine V.keepT 106 [0, 1, 2, 8, 9, 11, 69] [] (E0 := [(0, .vl ρ0 5 (List.map (encCarton σ0) aList)), (1, .int .i64 aA), (2, .int .i64 aB), (8, .vl rn 5 (List.map (encCarton rn) y2.1)), (9, .bool y2.2), (11, .nils), (69, .bool (((decide (y8.1 < (0 : Int))) || (!y9)) || (!(y4.2 == y2.2))))]) (A := [(b2, ⟨5, deepC cellCarton ts_83 y8.2⟩)]) (T := os_83) (H0 := []) (T' := []) rfl (⟨_, _, rfl, rfl, ⟨_, _, rfl, rfl, ⟨_, _, rfl, rfl, ⟨_, _, rfl, rfl, ⟨_, _, rfl, rfl, ⟨_, _, rfl, rfl, ⟨_, _, rfl, rfl, rfl⟩⟩⟩⟩⟩⟩⟩) rfl (rfl) rfl (List.nil_sublist _) ?_
     refine V.cond rfl (fun hc3 => ?_) (fun hc3 => ?_)
     ·
      replace hm0 := cond_t hc3 hm0
      refine V.seq ?_
      refine V.region ?_
      refine VO.cons rfl (V1.assign rfl rfl rfl lt0 ?_)
      refine VO.nil ?_
      refine V.ret ?_
      obtain rfl := Option.some.inj hm0
      exact ⟨_, [], ⟨_, _, rfl, rfl, rfl⟩, List.nil_sublist _, rfl, rfl⟩
     ·
      replace hm0 := cond_f hc3 hm0
      refine V.skip ?_
      refine V.seq ?_
      refine V.region ?_
      refine VO.cons rfl (V1.assign rfl rfl rfl lt0 ?_)
      refine VO.nil ?_
      refine V.seq ?_
      replace hm0 := bindO hm0; rcases hm0 with ⟨y10, hh11, hm0⟩
      replace hm0 := asrt_some hm0; rcases hm0 with ⟨hh12, hm0⟩
      refine V.region ?_
      refine VO.cons rfl (V1.move rfl rfl rfl lt0 ?_)
      refine VO.cons rfl (V1.move rfl rfl rfl lt0 ?_)
      refine VO.cons rfl (V1.call rfl rfl rfl cok_26 rfl (ok_laws_markCartonS hh11 (oq := none) (tq := []) (oz := []) (fun _ => (hob0 rfl)) (Deep.ofNil (hob0 rfl))) rfl lt0 ?_)
      rintro _ _ ⟨ts_85, os_85, hd_85, rfl, rfl⟩
      obtain ⟨rfl, rfl⟩ := Deep.nil (List.length_eq_zero_iff.1 (hh12.trans (congrArg List.length (hob0 rfl)))) hd_85
      refine VO.cons rfl (V1.assign rfl rfl rfl lt0 ?_)
      refine VO.nil ?_
      refine V.keep 106 [0, 1, 2, 8, 9, 11, 14] [] (E0 := [(0, .vl ρ0 5 (List.map (encCarton σ0) aList)), (1, .int .i64 aA), (2, .int .i64 aB), (8, .vl rn 5 (List.map (encCarton rn) y2.1)), (9, .bool y2.2), (11, .nils), (14, .int .i64 y10.1)]) (H0 := []) rfl (⟨_, _, rfl, rfl, ⟨_, _, rfl, rfl, ⟨_, _, rfl, rfl, ⟨_, _, rfl, rfl, ⟨_, _, rfl, rfl, ⟨_, _, rfl, rfl, ⟨_, _, rfl, rfl, rfl⟩⟩⟩⟩⟩⟩⟩) (rfl) rfl ?_
      refine V.seq ?_
      refine V.region ?_
      refine VO.cons rfl (V1.assign rfl rfl rfl lt0 ?_)
      refine VO.nil ?_
      refine V.seq ?_
      replace hm0 := bindO hm0; rcases hm0 with ⟨y11, hh13, hm0⟩
      refine V.region ?_
      refine VO.cons rfl (V1.move rfl rfl rfl lt0 ?_)
      refine VO.cons rfl (V1.move rfl rfl rfl lt0 ?_)
      refine VO.weakenK (Keeps.nilsE (l := y10.2) 73 rn 5 (encCarton rn) (List.length_eq_zero_iff.1 (hh12.trans (congrArg List.length (hob0 rfl)))) rfl rfl) ?_
      refine VO.cons rfl (V1.call rfl rfl rfl cok_33 rfl (ok_laws_heldCartonS hh13) rfl lt0 ?_)
      rintro _ _ ⟨rfl, rfl⟩
      refine VO.cons rfl (V1.assign rfl rfl rfl lt0 ?_)
      refine VO.nil ?_
      refine V.seq ?_
      refine V.seq ?_
      refine V.region ?_
      refine VO.cons rfl (V1.move rfl rfl rfl lt0 ?_)
      refine VO.cons rfl (V1.int rfl rfl rfl rfl rfl lt0 ?_)
      refine VO.nil ?_
      refine V.keep 106 [0, 1, 2, 8, 9, 11, 14, 15, 77] [] (E0 := [(0, .vl ρ0 5 (List.map (encCarton σ0) aList)), (1, .int .i64 aA), (2, .int .i64 aB), (8, .vl rn 5 (List.map (encCarton rn) y2.1)), (9, .bool y2.2), (11, .nils), (14, .int .i64 y10.1), (15, .int .i64 y11), (77, .bool (decide (y11 < (0 : Int))))]) (H0 := []) rfl (⟨_, _, rfl, rfl, ⟨_, _, rfl, rfl, ⟨_, _, rfl, rfl, ⟨_, _, rfl, rfl, ⟨_, _, rfl, rfl, ⟨_, _, rfl, rfl, ⟨_, _, rfl, rfl, ⟨_, _, rfl, rfl, ⟨_, _, rfl, rfl, rfl⟩⟩⟩⟩⟩⟩⟩⟩⟩) (rfl) rfl ?_
      refine V.cond rfl (fun hc4 => ?_) (fun hc4 => ?_)
      ·
       replace hm0 := cond_t hc4 hm0
       refine V.seq ?_
       refine V.region ?_
       refine VO.cons rfl (V1.assign rfl rfl rfl lt0 ?_)
       refine VO.nil ?_
       refine V.ret ?_
       obtain rfl := Option.some.inj hm0
       exact ⟨_, [], ⟨_, _, rfl, rfl, rfl⟩, List.nil_sublist _, rfl, rfl⟩
      ·
       replace hm0 := cond_f hc4 hm0
       refine V.skip ?_
       refine V.seq ?_
       refine V.seq ?_
       refine V.region ?_
       refine VO.cons rfl (V1.move rfl rfl rfl lt0 ?_)
       refine VO.cons rfl (V1.move rfl rfl rfl lt0 ?_)
       refine VO.cons rfl (V1.int rfl rfl rfl rfl rfl lt0 ?_)
       refine VO.nil ?_
       refine V.keep 106 [0, 1, 2, 8, 9, 11, 14, 80] [] (E0 := [(0, .vl ρ0 5 (List.map (encCarton σ0) aList)), (1, .int .i64 aA), (2, .int .i64 aB), (8, .vl rn 5 (List.map (encCarton rn) y2.1)), (9, .bool y2.2), (11, .nils), (14, .int .i64 y10.1), (80, .bool (y11 != y10.1))]) (H0 := []) rfl (⟨_, _, rfl, rfl, ⟨_, _, rfl, rfl, ⟨_, _, rfl, rfl, ⟨_, _, rfl, rfl, ⟨_, _, rfl, rfl, ⟨_, _, rfl, rfl, ⟨_, _, rfl, rfl, ⟨_, _, rfl, rfl, rfl⟩⟩⟩⟩⟩⟩⟩⟩) (rfl) rfl ?_
       refine V.cond rfl (fun hc5 => ?_) (fun hc5 => ?_)
       ·
        replace hm0 := cond_t hc5 hm0
        refine V.seq ?_
        refine V.region ?_
        refine VO.cons rfl (V1.assign rfl rfl rfl lt0 ?_)
        refine VO.nil ?_
        refine V.ret ?_
        obtain rfl := Option.some.inj hm0
        exact ⟨_, [], ⟨_, _, rfl, rfl, rfl⟩, List.nil_sublist _, rfl, rfl⟩
       ·
        replace hm0 := cond_f hc5 hm0
        refine V.skip ?_
        refine V.seq ?_
        replace hm0 := bindO hm0; rcases hm0 with ⟨y12, hh14, hm0⟩
        replace hm0 := bindO hm0; rcases hm0 with ⟨y13, hh15, hm0⟩
        refine V.region ?_
        refine VO.cons rfl (V1.move rfl rfl rfl lt0 ?_)
        refine VO.cons rfl (V1.call rfl rfl rfl cok_22 rfl (ok_laws_toCartonS hh14) rfl lt0 ?_)
        rintro _ _ ⟨b4, rfl, rfl⟩
        refine VO.weakenK (Keeps.freezeG 0 rn [(83, .vl rn 5 (List.map (encCarton rn) y12))] ([]) (f := (encCarton rn)) (l := y12) rfl (fun _ => rfl) ⟨⟨_, rfl, .here⟩, trivial⟩ rfl rfl iNil) ?_
        refine VO.cons rfl (V1.move rfl rfl rfl lt0 ?_)
        refine VO.cons rfl (V1.move rfl rfl rfl lt0 ?_)
        refine VO.cons rfl (V1.permK (V1.call rfl rfl rfl cok_38 rfl (ok_impl_MergeCartons hh15) rfl lt0 ?_))
        rintro _ _ ⟨ob1, ts_88, os_88, hob1, hd_88, rfl, rfl⟩
        refine ⟨_, ?_, Keeps.perm (optH 5 ob1 (deepC cellCarton ts_88 y13.1) ++ (([] : List (Nat × Obj')) ++ os_88)) (permDeepO1 (o := optH 5 ob1 (deepC cellCarton ts_88 y13.1)) (os := os_88) (A := []))⟩
        refine VO.cons rfl (V1.move rfl rfl rfl lt0 ?_)
        refine VO.cons rfl (V1.extract rfl rfl rfl rfl lt0 ?_)
        refine VO.cons rfl (V1.extract rfl rfl rfl rfl lt0 ?_)
        refine VO.cons rfl (V1.assign rfl rfl rfl lt0 ?_)
        refine VO.cons rfl (V1.assign rfl rfl rfl lt0 ?_)
        refine VO.nil ?_
        rcases ob1 with _ | ob1
        ·
         obtain ⟨rfl, rfl⟩ := Deep.nil (hob1 rfl) hd_88
         refine V.keep 106 [8, 9, 11, 14, 16, 17] [] (E0 := [(8, .vl rn 5 (List.map (encCarton rn) y2.1)), (9, .bool y2.2), (11, .nils), (14, .int .i64 y10.1), (16, .nils), (17, .bool y13.2)]) (H0 := []) rfl (⟨_, _, rfl, rfl, ⟨_, _, rfl, rfl, ⟨_, _, rfl, rfl, ⟨_, _, rfl, rfl, ⟨_, _, rfl, rfl, ⟨_, _, rfl, rfl, rfl⟩⟩⟩⟩⟩⟩) (rfl) rfl ?_
         refine V.seq ?_
         refine V.seq ?_
         replace hm0 := bindO hm0; rcases hm0 with ⟨y14, hh16, hm0⟩
         refine V.region ?_
         refine VO.cons rfl (V1.move rfl rfl rfl lt0 ?_)
         refine VO.cons rfl (V1.move rfl rfl rfl lt0 ?_)
         refine VO.weakenK (Keeps.nilsE (l := y13.1) 89 rn 5 (encCarton rn) (hob1 rfl) rfl rfl) ?_
         refine VO.cons rfl (V1.call rfl rfl rfl cok_25 rfl (ok_laws_eqCartonS hh16) rfl lt0 ?_)
         rintro _ _ ⟨rfl, rfl⟩
         refine VO.cons rfl (V1.not rfl rfl rfl lt0 ?_)
         refine VO.cons rfl (V1.move rfl rfl rfl lt0 ?_)
         apply VO.or (n := 3) rfl rfl rfl rfl rfl rfl lt0 (.none rfl)
         ·
          intro hg3
          refine VO.step (.some rfl rfl rfl) (V1.move rfl rfl rfl lt0 ?_)
          refine VO.step (.some rfl rfl rfl) (V1.move rfl rfl rfl lt0 ?_)
          refine VO.step (.some rfl rfl rfl) (V1.boolNeq rfl rfl und_4 rfl rfl lt0 ?_)
          exact VO.nil ⟨rfl, rfl, rfl, rfl, .inr ⟨rfl, .inr ⟨rfl, .inr ⟨rfl, .inr ⟨rfl, .inl rfl⟩⟩⟩⟩⟩
         refine VO.nil ?_
         refine V.keep 106 [11, 14, 97] [] (E0 := [(11, .nils), (14, .int .i64 y10.1), (97, .bool ((!y14) || (!(y13.2 == y2.2))))]) (H0 := []) rfl (⟨_, _, rfl, rfl, ⟨_, _, rfl, rfl, ⟨_, _, rfl, rfl, rfl⟩⟩⟩) (rfl) rfl ?_
         refine V.cond rfl (fun hc6 => ?_) (fun hc6 => ?_)
         ·
          replace hm0 := cond_t hc6 hm0
          refine V.seq ?_
          refine V.region ?_
          refine VO.cons rfl (V1.assign rfl rfl rfl lt0 ?_)
          refine VO.nil ?_
          refine V.ret ?_
          obtain rfl := Option.some.inj hm0
          exact ⟨_, [], ⟨_, _, rfl, rfl, rfl⟩, List.nil_sublist _, rfl, rfl⟩
         ·
          replace hm0 := cond_f hc6 hm0
          refine V.skip ?_
          refine V.seq ?_
          refine V.region ?_
          refine VO.cons rfl (V1.assign rfl rfl rfl lt0 ?_)
          refine VO.nil ?_
          refine V.seq ?_
          replace hm0 := bindO hm0; rcases hm0 with ⟨y15, hh17, hm0⟩
          refine V.region ?_
          refine VO.cons rfl (V1.move rfl rfl rfl lt0 ?_)
          refine VO.cons rfl (V1.move rfl rfl rfl lt0 ?_)
          refine VO.weakenK (Keeps.nilsE (l := y10.2) 98 rn 5 (encCarton rn) (List.length_eq_zero_iff.1 (hh12.trans (congrArg List.length (hob0 rfl)))) rfl rfl) ?_
          refine VO.cons rfl (V1.call rfl rfl rfl cok_33 rfl (ok_laws_heldCartonS hh17) rfl lt0 ?_)
          rintro _ _ ⟨rfl, rfl⟩
          refine VO.cons rfl (V1.assign rfl rfl rfl lt0 ?_)
          refine VO.nil ?_
          refine V.keep 106 [14, 15] [] (E0 := [(14, .int .i64 y10.1), (15, .int .i64 y15)]) (H0 := []) rfl (⟨_, _, rfl, rfl, ⟨_, _, rfl, rfl, rfl⟩⟩) (rfl) rfl ?_
          refine V.seq ?_
          refine V.seq ?_
          refine V.region ?_
          refine VO.cons rfl (V1.move rfl rfl rfl lt0 ?_)
          refine VO.cons rfl (V1.int rfl rfl rfl rfl rfl lt0 ?_)
          refine VO.nil ?_
          refine V.cond rfl (fun hc7 => ?_) (fun hc7 => ?_)
          ·
           replace hm0 := cond_t hc7 hm0
           refine V.seq ?_
           refine V.region ?_
           refine VO.cons rfl (V1.assign rfl rfl rfl lt0 ?_)
           refine VO.nil ?_
           refine V.ret ?_
           obtain rfl := Option.some.inj hm0
           exact ⟨_, [], ⟨_, _, rfl, rfl, rfl⟩, List.nil_sublist _, rfl, rfl⟩
          ·
           replace hm0 := cond_f hc7 hm0
           refine V.skip ?_
           refine V.seq ?_
           refine V.seq ?_
           refine V.region ?_
           refine VO.cons rfl (V1.move rfl rfl rfl lt0 ?_)
           refine VO.cons rfl (V1.move rfl rfl rfl lt0 ?_)
           refine VO.cons rfl (V1.int rfl rfl rfl rfl rfl lt0 ?_)
           refine VO.nil ?_
           refine V.keep 106 [105] [] (E0 := [(105, .bool (y15 != y10.1))]) (H0 := []) rfl (⟨_, _, rfl, rfl, rfl⟩) (rfl) rfl ?_
           refine V.cond rfl (fun hc8 => ?_) (fun hc8 => ?_)
           ·
            replace hm0 := cond_t hc8 hm0
            refine V.seq ?_
            refine V.region ?_
            refine VO.cons rfl (V1.assign rfl rfl rfl lt0 ?_)
            refine VO.nil ?_
            refine V.ret ?_
            obtain rfl := Option.some.inj hm0
            exact ⟨_, [], ⟨_, _, rfl, rfl, rfl⟩, List.nil_sublist _, rfl, rfl⟩
           ·
            replace hm0 := cond_f hc8 hm0
            refine V.skip ?_
            refine V.seq ?_
            refine V.region ?_
            refine VO.cons rfl (V1.assign rfl rfl rfl lt0 ?_)
            refine VO.nil ?_
            refine V.ret ?_
            obtain rfl := Option.some.inj hm0
            exact ⟨_, [], ⟨_, _, rfl, rfl, rfl⟩, List.nil_sublist _, rfl, rfl⟩
        ·
         refine V.keepT 106 [8, 9, 11, 14, 16, 17] [0] (E0 := [(8, .vl rn 5 (List.map (encCarton rn) y2.1)), (9, .bool y2.2), (11, .nils), (14, .int .i64 y10.1), (16, .sref ob1 5 0 (List.length y13.1)), (17, .bool y13.2)]) (A := [(ob1, ⟨5, deepC cellCarton ts_88 y13.1⟩)]) (T := os_88) (H0 := [(ob1, ⟨5, deepC cellCarton ts_88 y13.1⟩)]) (T' := os_88) rfl (⟨_, _, rfl, rfl, ⟨_, _, rfl, rfl, ⟨_, _, rfl, rfl, ⟨_, _, rfl, rfl, ⟨_, _, rfl, rfl, ⟨_, _, rfl, rfl, rfl⟩⟩⟩⟩⟩⟩) rfl (⟨_, _, rfl, rfl, rfl⟩) rfl (List.Sublist.refl _) ?_
         refine V.seq ?_
         refine V.seq ?_
         replace hm0 := bindO hm0; rcases hm0 with ⟨y14, hh16, hm0⟩
         refine V.region ?_
         refine VO.cons rfl (V1.move rfl rfl rfl lt0 ?_)
         refine VO.cons rfl (V1.move rfl rfl rfl lt0 ?_)
         refine VO.cons rfl (V1.callL (rn + 1) ([ob1] ++ List.map Prod.fst os_88) [.vl (rn + 1) 5 (List.map (encCarton (rn + 1)) y13.1), .vl rn 5 (List.map (encCarton rn) y2.1)] rfl rfl rfl cok_25 rfl ⟨_, _, rfl, Lend.deep (m := 1) (inn := (fun c_ : Carton => List.map encInt c_.Files)) (cell := cellCarton) cokCarton (ts := ts_88) (os := os_88) (xs := y13.1) 0 hd_88 rfl (fun _ => roL_map (fun _ => rfl) _) rfl (fun p hp => memTail (A := [(ob1, ⟨5, deepC cellCarton ts_88 y13.1⟩)]) (T := os_88) hp rfl) (List.mem_append_left _ (.head _)) (fun p hp => List.mem_append_right _ (List.mem_map.2 ⟨p, hp, rfl⟩)), ⟨_, _, rfl, .same _, rfl⟩⟩ (bwTail (A := [(ob1, ⟨5, deepC cellCarton ts_88 y13.1⟩)]) (T := os_88) rfl (bwCons (k := 0) rfl bwNil) (fun p hp => hp)) (ok_laws_eqCartonS hh16) rfl (⟨(by first | omega | (dsimp only; omega)), by rintro _ _ ⟨rfl, rfl⟩; exact ⟨rfl, by simp⟩⟩) lt0 ?_)
         rintro _ _ ⟨rfl, rfl⟩
         refine VO.cons rfl (V1.not rfl rfl rfl lt0 ?_)
         refine VO.cons rfl (V1.move rfl rfl rfl lt0 ?_)
         apply VO.or (n := 3) rfl rfl rfl rfl rfl rfl lt0 (.none rfl)
         ·
          intro hg3
          refine VO.step (.some rfl rfl rfl) (V1.move rfl rfl rfl lt0 ?_)
          refine VO.step (.some rfl rfl rfl) (V1.move rfl rfl rfl lt0 ?_)
          refine VO.step (.some rfl rfl rfl) (V1.boolNeq rfl rfl und_4 rfl rfl lt0 ?_)
          exact VO.nil ⟨rfl, rfl, rfl, rfl, .inr ⟨rfl, .inr ⟨rfl, .inr ⟨rfl, .inr ⟨rfl, .inl rfl⟩⟩⟩⟩⟩
         refine VO.nil ?_
         refine V.keepT 106 [11, 14, 97] [] (E0 := [(11, .nils), (14, .int .i64 y10.1), (97, .bool ((!y14) || (!(y13.2 == y2.2))))]) (A := [(ob1, ⟨5, deepC cellCarton ts_88 y13.1⟩)]) (T := os_88) (H0 := []) (T' := []) rfl (⟨_, _, rfl, rfl, ⟨_, _, rfl, rfl, ⟨_, _, rfl, rfl, rfl⟩⟩⟩) rfl (rfl) rfl (List.nil_sublist _) ?_
         refine V.cond rfl (fun hc6 => ?_) (fun hc6 => ?_)
         ·
          replace hm0 := cond_t hc6 hm0
          refine V.seq ?_
          refine V.region ?_
          refine VO.cons rfl (V1.assign rfl rfl rfl lt0 ?_)
          refine VO.nil ?_
          refine V.ret ?_
          obtain rfl := Option.some.inj hm0
          exact ⟨_, [], ⟨_, _, rfl, rfl, rfl⟩, List.nil_sublist _, rfl, rfl⟩
         ·
          replace hm0 := cond_f hc6 hm0
          refine V.skip ?_
          refine V.seq ?_
          refine V.region ?_
          refine VO.cons rfl (V1.assign rfl rfl rfl lt0 ?_)
          refine VO.nil ?_
          refine V.seq ?_
          replace hm0 := bindO hm0; rcases hm0 with ⟨y15, hh17, hm0⟩
          refine V.region ?_
          refine VO.cons rfl (V1.move rfl rfl rfl lt0 ?_)
          refine VO.cons rfl (V1.move rfl rfl rfl lt0 ?_)
          refine VO.weakenK (Keeps.nilsE (l := y10.2) 98 rn 5 (encCarton rn) (List.length_eq_zero_iff.1 (hh12.trans (congrArg List.length (hob0 rfl)))) rfl rfl) ?_
          refine VO.cons rfl (V1.call rfl rfl rfl cok_33 rfl (ok_laws_heldCartonS hh17) rfl lt0 ?_)
          rintro _ _ ⟨rfl, rfl⟩
          refine VO.cons rfl (V1.assign rfl rfl rfl lt0 ?_)
          refine VO.nil ?_
          refine V.keep 106 [14, 15] [] (E0 := [(14, .int .i64 y10.1), (15, .int .i64 y15)]) (H0 := []) rfl (⟨_, _, rfl, rfl, ⟨_, _, rfl, rfl, rfl⟩⟩) (rfl) rfl ?_
          refine V.seq ?_
          refine V.seq ?_
          refine V.region ?_
          refine VO.cons rfl (V1.move rfl rfl rfl lt0 ?_)
          refine VO.cons rfl (V1.int rfl rfl rfl rfl rfl lt0 ?_)
          refine VO.nil ?_
          refine V.cond rfl (fun hc7 => ?_) (fun hc7 => ?_)
          ·
           replace hm0 := cond_t hc7 hm0
           refine V.seq ?_
           refine V.region ?_
           refine VO.cons rfl (V1.assign rfl rfl rfl lt0 ?_)
           refine VO.nil ?_
           refine V.ret ?_
           obtain rfl := Option.some.inj hm0
           exact ⟨_, [], ⟨_, _, rfl, rfl, rfl⟩, List.nil_sublist _, rfl, rfl⟩
          ·
           replace hm0 := cond_f hc7 hm0
           refine V.skip ?_
           refine V.seq ?_
           refine V.seq ?_
           refine V.region ?_
           refine VO.cons rfl (V1.move rfl rfl rfl lt0 ?_)
           refine VO.cons rfl (V1.move rfl rfl rfl lt0 ?_)
           refine VO.cons rfl (V1.int rfl rfl rfl rfl rfl lt0 ?_)
           refine VO.nil ?_
           refine V.keep 106 [105] [] (E0 := [(105, .bool (y15 != y10.1))]) (H0 := []) rfl (⟨_, _, rfl, rfl, rfl⟩) (rfl) rfl ?_
           refine V.cond rfl (fun hc8 => ?_) (fun hc8 => ?_)
           ·
            replace hm0 := cond_t hc8 hm0
            refine V.seq ?_
            refine V.region ?_
            refine VO.cons rfl (V1.assign rfl rfl rfl lt0 ?_)
            refine VO.nil ?_
            refine V.ret ?_
            obtain rfl := Option.some.inj hm0
            exact ⟨_, [], ⟨_, _, rfl, rfl, rfl⟩, List.nil_sublist _, rfl, rfl⟩
           ·
            replace hm0 := cond_f hc8 hm0
            refine V.skip ?_
            refine V.seq ?_
            refine V.region ?_
            refine VO.cons rfl (V1.assign rfl rfl rfl lt0 ?_)
            refine VO.nil ?_
            refine V.ret ?_
            obtain rfl := Option.some.inj hm0
            exact ⟨_, [], ⟨_, _, rfl, rfl, rfl⟩, List.nil_sublist _, rfl, rfl⟩
  ·
   refine V.keepT 106 [0, 1, 2, 8, 9, 10, 11, 12] [0, 1] (E0 := [(0, .vl ρ0 5 (List.map (encCarton σ0) aList)), (1, .int .i64 aA), (2, .int .i64 aB), (8, .vl rn 5 (List.map (encCarton rn) y2.1)), (9, .bool y2.2), (10, .sref b2 5 0 (List.length y3)), (11, .sref ob0 5 0 (List.length y4.1)), (12, .bool y4.2)]) (A := [(ob0, ⟨5, deepC cellCarton ts_66 y4.1⟩), (b2, ⟨5, deepC cellCarton ts_65 y3⟩)]) (T := (os_66 ++ os_65)) (H0 := [(ob0, ⟨5, deepC cellCarton ts_66 y4.1⟩), (b2, ⟨5, deepC cellCarton ts_65 y3⟩)]) (T' := (os_66 ++ os_65)) rfl (⟨_, _, rfl, rfl, ⟨_, _, rfl, rfl, ⟨_, _, rfl, rfl, ⟨_, _, rfl, rfl, ⟨_, _, rfl, rfl, ⟨_, _, rfl, rfl, ⟨_, _, rfl, rfl, ⟨_, _, rfl, rfl, rfl⟩⟩⟩⟩⟩⟩⟩⟩) rfl (⟨_, _, rfl, rfl, ⟨_, _, rfl, rfl, rfl⟩⟩) rfl (List.Sublist.refl _) ?_
   refine V.seq ?_
   refine V.seq ?_
   replace hm0 := bindO hm0; rcases hm0 with ⟨y5, hh5, hm0⟩
   refine V.region ?_
   refine VO.cons rfl (V1.move rfl rfl rfl lt0 ?_)
   refine VO.cons rfl (V1.move rfl rfl rfl lt0 ?_)
   refine VO.cons rfl (V1.callL (rn + 1) ([ob0] ++ List.map Prod.fst os_66) [.vl (rn + 1) 5 (List.map (encCarton (rn + 1)) y4.1), .vl rn 5 (List.map (encCarton rn) y2.1)] rfl rfl rfl cok_25 rfl ⟨_, _, rfl, Lend.deep (m := 1) (inn := (fun c_ : Carton => List.map encInt c_.Files)) (cell := cellCarton) cokCarton (ts := ts_66) (os := os_66) (xs := y4.1) 0 hd_66 rfl (fun _ => roL_map (fun _ => rfl) _) rfl (fun p hp => memTail (A := [(ob0, ⟨5, deepC cellCarton ts_66 y4.1⟩), (b2, ⟨5, deepC cellCarton ts_65 y3⟩)]) (T := (os_66 ++ os_65)) (List.mem_append_left _ hp) rfl) (List.mem_append_left _ (.head _)) (fun p hp => List.mem_append_right _ (List.mem_map.2 ⟨p, hp, rfl⟩)), ⟨_, _, rfl, .same _, rfl⟩⟩ (bwTail (A := [(ob0, ⟨5, deepC cellCarton ts_66 y4.1⟩), (b2, ⟨5, deepC cellCarton ts_65 y3⟩)]) (T := (os_66 ++ os_65)) rfl (bwCons (k := 0) rfl bwNil) (fun p hp => (List.mem_append_left _ hp))) (ok_laws_eqCartonS hh5) rfl (⟨(by first | omega | (dsimp only; omega)), by rintro _ _ ⟨rfl, rfl⟩; exact ⟨rfl, by simp⟩⟩) lt0 ?_)
   rintro _ _ ⟨rfl, rfl⟩
   refine VO.cons rfl (V1.not rfl rfl rfl lt0 ?_)
   refine VO.cons rfl (V1.move rfl rfl rfl lt0 ?_)
   apply VO.or (n := 3) rfl rfl rfl rfl rfl rfl lt0 (.none rfl)
   ·
    intro hg0
    refine VO.step (.some rfl rfl rfl) (V1.move rfl rfl rfl lt0 ?_)
    refine VO.step (.some rfl rfl rfl) (V1.move rfl rfl rfl lt0 ?_)
    refine VO.step (.some rfl rfl rfl) (V1.boolNeq rfl rfl und_4 rfl rfl lt0 ?_)
    exact VO.nil ⟨rfl, rfl, rfl, rfl, .inr ⟨rfl, .inr ⟨rfl, .inr ⟨rfl, .inr ⟨rfl, .inl rfl⟩⟩⟩⟩⟩
   refine VO.nil ?_
   refine V.keepT 106 [0, 1, 2, 8, 9, 10, 11, 12, 48] [0, 1] (E0 := [(0, .vl ρ0 5 (List.map (encCarton σ0) aList)), (1, .int .i64 aA), (2, .int .i64 aB), (8, .vl rn 5 (List.map (encCarton rn) y2.1)), (9, .bool y2.2), (10, .sref b2 5 0 (List.length y3)), (11, .sref ob0 5 0 (List.length y4.1)), (12, .bool y4.2), (48, .bool ((!y5) || (!(y4.2 == y2.2))))]) (A := [(ob0, ⟨5, deepC cellCarton ts_66 y4.1⟩), (b2, ⟨5, deepC cellCarton ts_65 y3⟩)]) (T := (os_66 ++ os_65)) (H0 := [(ob0, ⟨5, deepC cellCarton ts_66 y4.1⟩), (b2, ⟨5, deepC cellCarton ts_65 y3⟩)]) (T' := (os_66 ++ os_65)) rfl (⟨_, _, rfl, rfl, ⟨_, _, rfl, rfl, ⟨_, _, rfl, rfl, ⟨_, _, rfl, rfl, ⟨_, _, rfl, rfl, ⟨_, _, rfl, rfl, ⟨_, _, rfl, rfl, ⟨_, _, rfl, rfl, ⟨_, _, rfl, rfl, rfl⟩⟩⟩⟩⟩⟩⟩⟩⟩) rfl (⟨_, _, rfl, rfl, ⟨_, _, rfl, rfl, rfl⟩⟩) rfl (List.Sublist.refl _) ?_
   refine V.cond rfl (fun hc1 => ?_) (fun hc1 => ?_)
   ·
    replace hm0 := cond_t hc1 hm0
    refine V.seq ?_
    refine V.region ?_
    refine VO.cons rfl (V1.assign rfl rfl rfl lt0 ?_)
    refine VO.nil ?_
    refine V.ret ?_
    obtain rfl := Option.some.inj hm0
    exact ⟨_, [], ⟨_, _, rfl, rfl, rfl⟩, List.nil_sublist _, rfl, rfl⟩
   ·
    replace hm0 := cond_f hc1 hm0
    refine V.skip ?_
    refine V.seq ?_
    refine V.seq ?_
    replace hm0 := bindO hm0; rcases hm0 with ⟨y6, hh6, hm0⟩
    replace hm0 := bindO hm0; rcases hm0 with ⟨y7, hh7, hm0⟩
    refine V.region ?_
    refine VO.cons rfl (V1.move rfl rfl rfl lt0 ?_)
    refine VO.cons rfl (V1.move rfl rfl rfl lt0 ?_)
    refine VO.cons rfl (V1.call rfl rfl rfl cok_22 rfl (ok_laws_toCartonS hh6) rfl lt0 ?_)
    rintro _ _ ⟨b3, rfl, rfl⟩
    refine VO.weakenK (Keeps.freezeG 0 rn [(51, .vl rn 5 (List.map (encCarton rn) y6))] ((ob0, ⟨5, deepC cellCarton ts_66 y4.1⟩) :: (b2, ⟨5, deepC cellCarton ts_65 y3⟩) :: (os_66 ++ os_65)) (f := (encCarton rn)) (l := y6) rfl (fun _ => rfl) ⟨⟨_, rfl, .here⟩, trivial⟩ ⟨_, _, rfl, rfl, .inl rfl, ⟨_, _, rfl, rfl, .inl rfl, FrzH.same⟩⟩ rfl iNil) ?_
    refine VO.cons rfl (V1.callL (rn + 1) ([b2] ++ List.map Prod.fst os_65) [.vl (rn + 1) 5 (List.map (encCarton (rn + 1)) y3), .vl rn 5 (List.map (encCarton rn) y6)] rfl rfl rfl cok_25 rfl ⟨_, _, rfl, Lend.deep (m := 1) (inn := (fun c_ : Carton => List.map encInt c_.Files)) (cell := cellCarton) cokCarton (ts := ts_65) (os := os_65) (xs := y3) 1 hd_65 rfl (fun _ => roL_map (fun _ => rfl) _) rfl (fun p hp => memTail (A := [(ob0, ⟨5, deepC cellCarton ts_66 y4.1⟩), (b2, ⟨5, deepC cellCarton ts_65 y3⟩)]) (T := (os_66 ++ os_65)) (List.mem_append_right _ hp) rfl) (List.mem_append_left _ (.head _)) (fun p hp => List.mem_append_right _ (List.mem_map.2 ⟨p, hp, rfl⟩)), ⟨_, _, rfl, .same _, rfl⟩⟩ (bwTail (A := [(ob0, ⟨5, deepC cellCarton ts_66 y4.1⟩), (b2, ⟨5, deepC cellCarton ts_65 y3⟩)]) (T := (os_66 ++ os_65)) rfl (bwCons (k := 1) rfl bwNil) (fun p hp => (List.mem_append_right _ hp))) (ok_laws_eqCartonS hh7) rfl (⟨(by first | omega | (dsimp only; omega)), by rintro _ _ ⟨rfl, rfl⟩; exact ⟨rfl, by simp⟩⟩) lt0 ?_)
    rintro _ _ ⟨rfl, rfl⟩
    refine VO.cons rfl (V1.not rfl rfl rfl lt0 ?_)
    refine VO.nil ?_
    refine V.keepT 106 [0, 1, 2, 8, 9, 10, 11, 12, 53] [0, 1] (E0 := [(0, .vl ρ0 5 (List.map (encCarton σ0) aList)), (1, .int .i64 aA), (2, .int .i64 aB), (8, .vl rn 5 (List.map (encCarton rn) y2.1)), (9, .bool y2.2), (10, .sref b2 5 0 (List.length y3)), (11, .sref ob0 5 0 (List.length y4.1)), (12, .bool y4.2), (53, .bool (!y7))]) (A := [(ob0, ⟨5, deepC cellCarton ts_66 y4.1⟩), (b2, ⟨5, deepC cellCarton ts_65 y3⟩)]) (T := (os_66 ++ os_65)) (H0 := [(ob0, ⟨5, deepC cellCarton ts_66 y4.1⟩), (b2, ⟨5, deepC cellCarton ts_65 y3⟩)]) (T' := (os_66 ++ os_65)) rfl (⟨_, _, rfl, rfl, ⟨_, _, rfl, rfl, ⟨_, _, rfl, rfl, ⟨_, _, rfl, rfl, ⟨_, _, rfl, rfl, ⟨_, _, rfl, rfl, ⟨_, _, rfl, rfl, ⟨_, _, rfl, rfl, ⟨_, _, rfl, rfl, rfl⟩⟩⟩⟩⟩⟩⟩⟩⟩) rfl (⟨_, _, rfl, rfl, ⟨_, _, rfl, rfl, rfl⟩⟩) rfl (List.Sublist.refl _) ?_
    refine V.cond rfl (fun hc2 => ?_) (fun hc2 => ?_)
    ·
     replace hm0 := cond_t hc2 hm0
     refine V.seq ?_
     refine V.region ?_
     refine VO.cons rfl (V1.assign rfl rfl rfl lt0 ?_)
     refine VO.nil ?_
     refine V.ret ?_
     obtain rfl := Option.some.inj hm0
     exact ⟨_, [], ⟨_, _, rfl, rfl, rfl⟩, List.nil_sublist _, rfl, rfl⟩
    ·
     replace hm0 := cond_f hc2 hm0
     refine V.skip ?_
     refine V.seq ?_
     refine V.region ?_
     refine VO.cons rfl (V1.assign rfl rfl rfl lt0 ?_)
     refine VO.nil ?_
     refine V.seq ?_
     replace hm0 := bindO hm0; rcases hm0 with ⟨y8, hh8, hm0⟩
     replace hm0 := asrt_some hm0; rcases hm0 with ⟨hh9, hm0⟩
     refine V.region ?_
     refine VO.cons rfl (V1.move rfl rfl rfl lt0 ?_)
     refine VO.cons rfl (V1.move rfl rfl rfl lt0 ?_)
     refine VO.cons rfl (V1.permK (V1.callDT 1 (A := [(ob0, ⟨5, deepC cellCarton ts_66 y4.1⟩), (b2, ⟨5, deepC cellCarton ts_65 y3⟩)]) (A' := [(ob0, ⟨5, deepC cellCarton ts_66 y4.1⟩)]) (T0 := (os_66 ++ os_65)) (os := os_65) (T := os_66) (p := (b2, ⟨5, deepC cellCarton ts_65 y3⟩)) rfl rfl rfl cok_26 rfl rfl List.perm_append_comm rfl rfl (rn + 1) [] [.sref b2 5 0 (List.length y3), .int .i64 (1 : Int)] ⟨_, _, rfl, .same _, ⟨_, _, rfl, .same _, rfl⟩⟩ bwNil (ok_laws_markCartonS hh8 (oq := some b2) (tq := ts_65) (oz := os_65) (fun e => by cases e) hd_65) rfl (.inl rfl) lt0 ?_))
     rintro _ _ ⟨ts_98, os_98, hd_98, rfl, rfl⟩
     refine ⟨_, ?_, Keeps.perm (([(b2, ⟨5, deepC cellCarton ts_98 y8.2⟩), (ob0, ⟨5, deepC cellCarton ts_66 y4.1⟩)] : List (Nat × Obj')) ++ (os_98 ++ os_66)) (permDeep (p := (b2, ⟨5, deepC cellCarton ts_98 y8.2⟩)) (os := os_98) (A := [(ob0, ⟨5, deepC cellCarton ts_66 y4.1⟩)]) (T := os_66))⟩
     refine VO.cons rfl (V1.assign rfl rfl rfl lt0 ?_)
     refine VO.nil ?_
     refine V.seq ?_
     refine V.seq ?_
     replace hm0 := bindO hm0; rcases hm0 with ⟨y9, hh10, hm0⟩
     refine V.region ?_
     refine VO.cons rfl (V1.move rfl rfl rfl lt0 ?_)
     refine VO.cons rfl (V1.int rfl rfl rfl rfl rfl lt0 ?_)
     refine VO.cons rfl (V1.move rfl rfl rfl lt0 ?_)
     apply VO.or (n := 4) rfl rfl rfl rfl rfl rfl lt0 (.none rfl)
     ·
      intro hg1
      refine VO.step (.some rfl rfl rfl) (V1.move rfl rfl rfl lt0 ?_)
      refine VO.step (.some rfl rfl rfl) (V1.move rfl rfl rfl lt0 ?_)
      refine VO.step (.some rfl rfl rfl) (V1.callL (rn + 1) ([ob0] ++ List.map Prod.fst os_66) [.vl (rn + 1) 5 (List.map (encCarton (rn + 1)) y4.1), .vl rn 5 (List.map (encCarton rn) y2.1)] rfl rfl rfl cok_25 rfl ⟨_, _, rfl, Lend.deep (m := 1) (inn := (fun c_ : Carton => List.map encInt c_.Files)) (cell := cellCarton) cokCarton (ts := ts_66) (os := os_66) (xs := y4.1) 1 hd_66 rfl (fun _ => roL_map (fun _ => rfl) _) rfl (fun p hp => memTail (A := [(b2, ⟨5, deepC cellCarton ts_98 y8.2⟩), (ob0, ⟨5, deepC cellCarton ts_66 y4.1⟩)]) (T := (os_98 ++ os_66)) (List.mem_append_right _ hp) rfl) (List.mem_append_left _ (.head _)) (fun p hp => List.mem_append_right _ (List.mem_map.2 ⟨p, hp, rfl⟩)), ⟨_, _, rfl, .same _, rfl⟩⟩ (bwTail (A := [(b2, ⟨5, deepC cellCarton ts_98 y8.2⟩), (ob0, ⟨5, deepC cellCarton ts_66 y4.1⟩)]) (T := (os_98 ++ os_66)) rfl (bwCons (k := 1) rfl bwNil) (fun p hp => (List.mem_append_right _ hp))) (ok_laws_eqCartonS (cond_f hg1 hh10)) rfl (⟨(by first | omega | (dsimp only; omega)), by rintro _ _ ⟨rfl, rfl⟩; exact ⟨rfl, by simp⟩⟩) lt0 ?_)
      rintro _ _ ⟨rfl, rfl⟩
      refine VO.step (.some rfl rfl rfl) (V1.not rfl rfl rfl lt0 ?_)
      exact VO.nil ⟨rfl, rfl, rfl, rfl, .inr ⟨rfl, .inr ⟨rfl, .inr ⟨rfl, .inr ⟨rfl, .inr ⟨rfl, .inl rfl⟩⟩⟩⟩⟩⟩
     refine VO.cons rfl (V1.move rfl rfl rfl lt0 ?_)
     apply VO.or (n := 3) rfl rfl rfl rfl rfl rfl lt0 (.none rfl)
     ·
      intro hg2
      refine VO.step (.some rfl rfl rfl) (V1.move rfl rfl rfl lt0 ?_)
      refine VO.step (.some rfl rfl rfl) (V1.move rfl rfl rfl lt0 ?_)
      refine VO.step (.some rfl rfl rfl) (V1.boolNeq rfl rfl und_4 rfl rfl lt0 ?_)
      exact VO.nil ⟨rfl, rfl, rfl, rfl, .inr ⟨rfl, .inr ⟨rfl, .inr ⟨rfl, .inr ⟨rfl, .inl rfl⟩⟩⟩⟩⟩
     refine VO.nil ?_
     refine V.keepT 106 [0, 1, 2, 8, 9, 11, 69] [1] (E0 := [(0, .vl ρ0 5 (List.map (encCarton σ0) aList)), (1, .int .i64 aA), (2, .int .i64 aB), (8, .vl rn 5 (List.map (encCarton rn) y2.1)), (9, .bool y2.2), (11, .sref ob0 5 0 (List.length y4.1)), (69, .bool (((decide (y8.1 < (0 : Int))) || (!y9)) || (!(y4.2 == y2.2))))]) (A := [(b2, ⟨5, deepC cellCarton ts_98 y8.2⟩), (ob0, ⟨5, deepC cellCarton ts_66 y4.1⟩)]) (T := (os_98 ++ os_66)) (H0 := [(ob0, ⟨5, deepC cellCarton ts_66 y4.1⟩)]) (T' := os_66) rfl (⟨_, _, rfl, rfl, ⟨_, _, rfl, rfl, ⟨_, _, rfl, rfl, ⟨_, _, rfl, rfl, ⟨_, _, rfl, rfl, ⟨_, _, rfl, rfl, ⟨_, _, rfl, rfl, rfl⟩⟩⟩⟩⟩⟩⟩) rfl (⟨_, _, rfl, rfl, rfl⟩) rfl (List.sublist_append_right _ _) ?_
     refine V.cond rfl (fun hc3 => ?_) (fun hc3 => ?_)
     ·
      replace hm0 := cond_t hc3 hm0
      refine V.seq ?_
      refine V.region ?_
      refine VO.cons rfl (V1.assign rfl rfl rfl lt0 ?_)
      refine VO.nil ?_
      refine V.ret ?_
      obtain rfl := Option.some.inj hm0
      exact ⟨_, [], ⟨_, _, rfl, rfl, rfl⟩, List.nil_sublist _, rfl, rfl⟩
     ·
      replace hm0 := cond_f hc3 hm0
      refine V.skip ?_
      refine V.seq ?_
      refine V.region ?_
      refine VO.cons rfl (V1.assign rfl rfl rfl lt0 ?_)
      refine VO.nil ?_
      refine V.seq ?_
      replace hm0 := bindO hm0; rcases hm0 with ⟨y10, hh11, hm0⟩
      replace hm0 := asrt_some hm0; rcases hm0 with ⟨hh12, hm0⟩
      refine V.region ?_
      refine VO.cons rfl (V1.move rfl rfl rfl lt0 ?_)
      refine VO.cons rfl (V1.move rfl rfl rfl lt0 ?_)
      refine VO.cons rfl (V1.permK (V1.callDT 0 (A := [(ob0, ⟨5, deepC cellCarton ts_66 y4.1⟩)]) (A' := []) (T0 := os_66) (os := os_66) (T := []) (p := (ob0, ⟨5, deepC cellCarton ts_66 y4.1⟩)) rfl rfl rfl cok_26 rfl rfl (.of_eq (List.append_nil _).symm) rfl rfl (rn + 1) [] [.sref ob0 5 0 (List.length y4.1), .int .i64 (1 : Int)] ⟨_, _, rfl, .same _, ⟨_, _, rfl, .same _, rfl⟩⟩ bwNil (ok_laws_markCartonS hh11 (oq := some ob0) (tq := ts_66) (oz := os_66) (fun e => by cases e) hd_66) rfl (.inl rfl) lt0 ?_))
      rintro _ _ ⟨ts_100, os_100, hd_100, rfl, rfl⟩
      refine ⟨_, ?_, Keeps.perm (([(ob0, ⟨5, deepC cellCarton ts_100 y10.2⟩)] : List (Nat × Obj')) ++ os_100) (permDeep0 (p := (ob0, ⟨5, deepC cellCarton ts_100 y10.2⟩)) (os := os_100) (A := []))⟩
      refine VO.weakenK (Keeps.say 11 (y := .sref ob0 5 0 (List.length y10.2)) rfl (congrArg (PV.sref ob0 5 0) hh12.symm)) ?_
      refine VO.cons rfl (V1.assign rfl rfl rfl lt0 ?_)
      refine VO.nil ?_
      refine V.seq ?_
      refine V.region ?_
      refine VO.cons rfl (V1.assign rfl rfl rfl lt0 ?_)
      refine VO.nil ?_
      refine V.seq ?_
      replace hm0 := bindO hm0; rcases hm0 with ⟨y11, hh13, hm0⟩
      refine V.region ?_
      refine VO.cons rfl (V1.move rfl rfl rfl lt0 ?_)
      refine VO.cons rfl (V1.move rfl rfl rfl lt0 ?_)
      refine VO.cons rfl (V1.callL (rn + 1) ([ob0] ++ List.map Prod.fst os_100) [.vl (rn + 1) 5 (List.map (encCarton (rn + 1)) y10.2), .int .i64 (1 : Int)] rfl rfl rfl cok_33 rfl ⟨_, _, rfl, Lend.deep (m := 1) (inn := (fun c_ : Carton => List.map encInt c_.Files)) (cell := cellCarton) cokCarton (ts := ts_100) (os := os_100) (xs := y10.2) 0 hd_100 rfl (fun _ => roL_map (fun _ => rfl) _) rfl (fun p hp => memTail (A := [(ob0, ⟨5, deepC cellCarton ts_100 y10.2⟩)]) (T := os_100) hp rfl) (List.mem_append_left _ (.head _)) (fun p hp => List.mem_append_right _ (List.mem_map.2 ⟨p, hp, rfl⟩)), ⟨_, _, rfl, .same _, rfl⟩⟩ (bwTail (A := [(ob0, ⟨5, deepC cellCarton ts_100 y10.2⟩)]) (T := os_100) rfl (bwCons (k := 0) rfl bwNil) (fun p hp => hp)) (ok_laws_heldCartonS hh13) rfl (⟨(by first | omega | (dsimp only; omega)), by rintro _ _ ⟨rfl, rfl⟩; exact ⟨rfl, by simp⟩⟩) lt0 ?_)
      rintro _ _ ⟨rfl, rfl⟩
      refine VO.cons rfl (V1.assign rfl rfl rfl lt0 ?_)
      refine VO.nil ?_
      refine V.keepT 106 [0, 1, 2, 8, 9, 11, 14, 15] [0] (E0 := [(0, .vl ρ0 5 (List.map (encCarton σ0) aList)), (1, .int .i64 aA), (2, .int .i64 aB), (8, .vl rn 5 (List.map (encCarton rn) y2.1)), (9, .bool y2.2), (11, .sref ob0 5 0 (List.length y10.2)), (14, .int .i64 y10.1), (15, .int .i64 y11)]) (A := [(ob0, ⟨5, deepC cellCarton ts_100 y10.2⟩)]) (T := os_100) (H0 := [(ob0, ⟨5, deepC cellCarton ts_100 y10.2⟩)]) (T' := os_100) rfl (⟨_, _, rfl, rfl, ⟨_, _, rfl, rfl, ⟨_, _, rfl, rfl, ⟨_, _, rfl, rfl, ⟨_, _, rfl, rfl, ⟨_, _, rfl, rfl, ⟨_, _, rfl, rfl, ⟨_, _, rfl, rfl, rfl⟩⟩⟩⟩⟩⟩⟩⟩) rfl (⟨_, _, rfl, rfl, rfl⟩) rfl (List.Sublist.refl _) ?_
      refine V.seq ?_
      refine V.seq ?_
      refine V.region ?_
      refine VO.cons rfl (V1.move rfl rfl rfl lt0 ?_)
      refine VO.cons rfl (V1.int rfl rfl rfl rfl rfl lt0 ?_)
      refine VO.nil ?_
      refine V.cond rfl (fun hc4 => ?_) (fun hc4 => ?_)
      ·
       replace hm0 := cond_t hc4 hm0
       refine V.seq ?_
       refine V.region ?_
       refine VO.cons rfl (V1.assign rfl rfl rfl lt0 ?_)
       refine VO.nil ?_
       refine V.ret ?_
       obtain rfl := Option.some.inj hm0
       exact ⟨_, [], ⟨_, _, rfl, rfl, rfl⟩, List.nil_sublist _, rfl, rfl⟩
      ·
       replace hm0 := cond_f hc4 hm0
       refine V.skip ?_
       refine V.seq ?_
       refine V.seq ?_
       refine V.region ?_
       refine VO.cons rfl (V1.move rfl rfl rfl lt0 ?_)
       refine VO.cons rfl (V1.move rfl rfl rfl lt0 ?_)
       refine VO.cons rfl (V1.int rfl rfl rfl rfl rfl lt0 ?_)
       refine VO.nil ?_
       refine V.keepT 106 [0, 1, 2, 8, 9, 11, 14, 80] [0] (E0 := [(0, .vl ρ0 5 (List.map (encCarton σ0) aList)), (1, .int .i64 aA), (2, .int .i64 aB), (8, .vl rn 5 (List.map (encCarton rn) y2.1)), (9, .bool y2.2), (11, .sref ob0 5 0 (List.length y10.2)), (14, .int .i64 y10.1), (80, .bool (y11 != y10.1))]) (A := [(ob0, ⟨5, deepC cellCarton ts_100 y10.2⟩)]) (T := os_100) (H0 := [(ob0, ⟨5, deepC cellCarton ts_100 y10.2⟩)]) (T' := os_100) rfl (⟨_, _, rfl, rfl, ⟨_, _, rfl, rfl, ⟨_, _, rfl, rfl, ⟨_, _, rfl, rfl, ⟨_, _, rfl, rfl, ⟨_, _, rfl, rfl, ⟨_, _, rfl, rfl, ⟨_, _, rfl, rfl, rfl⟩⟩⟩⟩⟩⟩⟩⟩) rfl (⟨_, _, rfl, rfl, rfl⟩) rfl (List.Sublist.refl _) ?_
       refine V.cond rfl (fun hc5 => ?_) (fun hc5 => ?_)
       ·
        replace hm0 := cond_t hc5 hm0
        refine V.seq ?_
        refine V.region ?_
        refine VO.cons rfl (V1.assign rfl rfl rfl lt0 ?_)
        refine VO.nil ?_
        refine V.ret ?_
        obtain rfl := Option.some.inj hm0
        exact ⟨_, [], ⟨_, _, rfl, rfl, rfl⟩, List.nil_sublist _, rfl, rfl⟩
       ·
        replace hm0 := cond_f hc5 hm0
        refine V.skip ?_
        refine V.seq ?_
        replace hm0 := bindO hm0; rcases hm0 with ⟨y12, hh14, hm0⟩
        replace hm0 := bindO hm0; rcases hm0 with ⟨y13, hh15, hm0⟩
        refine V.region ?_
        refine VO.cons rfl (V1.move rfl rfl rfl lt0 ?_)
        refine VO.cons rfl (V1.call rfl rfl rfl cok_22 rfl (ok_laws_toCartonS hh14) rfl lt0 ?_)
        rintro _ _ ⟨b4, rfl, rfl⟩
        refine VO.weakenK (Keeps.freezeG 0 rn [(83, .vl rn 5 (List.map (encCarton rn) y12))] ((ob0, ⟨5, deepC cellCarton ts_100 y10.2⟩) :: os_100) (f := (encCarton rn)) (l := y12) rfl (fun _ => rfl) ⟨⟨_, rfl, .here⟩, trivial⟩ ⟨_, _, rfl, rfl, .inl rfl, FrzH.same⟩ rfl iNil) ?_
        refine VO.cons rfl (V1.move rfl rfl rfl lt0 ?_)
        refine VO.cons rfl (V1.move rfl rfl rfl lt0 ?_)
        refine VO.cons rfl (V1.permK (V1.call rfl rfl rfl cok_38 rfl (ok_impl_MergeCartons hh15) rfl lt0 ?_))
        rintro _ _ ⟨ob1, ts_103, os_103, hob1, hd_103, rfl, rfl⟩
        refine ⟨_, ?_, Keeps.perm (optH 5 ob1 (deepC cellCarton ts_103 y13.1) ++ (([(ob0, ⟨5, deepC cellCarton ts_100 y10.2⟩)] : List (Nat × Obj')) ++ (os_103 ++ os_100))) (permDeepO (o := optH 5 ob1 (deepC cellCarton ts_103 y13.1)) (os := os_103) (A := [(ob0, ⟨5, deepC cellCarton ts_100 y10.2⟩)]) (T := os_100))⟩
        refine VO.cons rfl (V1.move rfl rfl rfl lt0 ?_)
        refine VO.cons rfl (V1.extract rfl rfl rfl rfl lt0 ?_)
        refine VO.cons rfl (V1.extract rfl rfl rfl rfl lt0 ?_)
        refine VO.cons rfl (V1.assign rfl rfl rfl lt0 ?_)
        refine VO.cons rfl (V1.assign rfl rfl rfl lt0 ?_)
        refine VO.nil ?_
        rcases ob1 with _ | ob1
        ·
         obtain ⟨rfl, rfl⟩ := Deep.nil (hob1 rfl) hd_103
         refine V.keepT 106 [8, 9, 11, 14, 16, 17] [0] (E0 := [(8, .vl rn 5 (List.map (encCarton rn) y2.1)), (9, .bool y2.2), (11, .sref ob0 5 0 (List.length y10.2)), (14, .int .i64 y10.1), (16, .nils), (17, .bool y13.2)]) (A := [(ob0, ⟨5, deepC cellCarton ts_100 y10.2⟩)]) (T := os_100) (H0 := [(ob0, ⟨5, deepC cellCarton ts_100 y10.2⟩)]) (T' := os_100) rfl (⟨_, _, rfl, rfl, ⟨_, _, rfl, rfl, ⟨_, _, rfl, rfl, ⟨_, _, rfl, rfl, ⟨_, _, rfl, rfl, ⟨_, _, rfl, rfl, rfl⟩⟩⟩⟩⟩⟩) rfl (⟨_, _, rfl, rfl, rfl⟩) rfl (List.Sublist.refl _) ?_
         refine V.seq ?_
         refine V.seq ?_
         replace hm0 := bindO hm0; rcases hm0 with ⟨y14, hh16, hm0⟩
         refine V.region ?_
         refine VO.cons rfl (V1.move rfl rfl rfl lt0 ?_)
         refine VO.cons rfl (V1.move rfl rfl rfl lt0 ?_)
         refine VO.weakenK (Keeps.nilsE (l := y13.1) 89 rn 5 (encCarton rn) (hob1 rfl) rfl rfl) ?_
         refine VO.cons rfl (V1.call rfl rfl rfl cok_25 rfl (ok_laws_eqCartonS hh16) rfl lt0 ?_)
         rintro _ _ ⟨rfl, rfl⟩
         refine VO.cons rfl (V1.not rfl rfl rfl lt0 ?_)
         refine VO.cons rfl (V1.move rfl rfl rfl lt0 ?_)
         apply VO.or (n := 3) rfl rfl rfl rfl rfl rfl lt0 (.none rfl)
         ·
          intro hg3
          refine VO.step (.some rfl rfl rfl) (V1.move rfl rfl rfl lt0 ?_)
          refine VO.step (.some rfl rfl rfl) (V1.move rfl rfl rfl lt0 ?_)
          refine VO.step (.some rfl rfl rfl) (V1.boolNeq rfl rfl und_4 rfl rfl lt0 ?_)
          exact VO.nil ⟨rfl, rfl, rfl, rfl, .inr ⟨rfl, .inr ⟨rfl, .inr ⟨rfl, .inr ⟨rfl, .inl rfl⟩⟩⟩⟩⟩
         refine VO.nil ?_
         refine V.keepT 106 [11, 14, 97] [0] (E0 := [(11, .sref ob0 5 0 (List.length y10.2)), (14, .int .i64 y10.1), (97, .bool ((!y14) || (!(y13.2 == y2.2))))]) (A := [(ob0, ⟨5, deepC cellCarton ts_100 y10.2⟩)]) (T := os_100) (H0 := [(ob0, ⟨5, deepC cellCarton ts_100 y10.2⟩)]) (T' := os_100) rfl (⟨_, _, rfl, rfl, ⟨_, _, rfl, rfl, ⟨_, _, rfl, rfl, rfl⟩⟩⟩) rfl (⟨_, _, rfl, rfl, rfl⟩) rfl (List.Sublist.refl _) ?_
         refine V.cond rfl (fun hc6 => ?_) (fun hc6 => ?_)
         ·
          replace hm0 := cond_t hc6 hm0
          refine V.seq ?_
          refine V.region ?_
          refine VO.cons rfl (V1.assign rfl rfl rfl lt0 ?_)
          refine VO.nil ?_
          refine V.ret ?_
          obtain rfl := Option.some.inj hm0
          exact ⟨_, [], ⟨_, _, rfl, rfl, rfl⟩, List.nil_sublist _, rfl, rfl⟩
         ·
          replace hm0 := cond_f hc6 hm0
          refine V.skip ?_
          refine V.seq ?_
          refine V.region ?_
          refine VO.cons rfl (V1.assign rfl rfl rfl lt0 ?_)
          refine VO.nil ?_
          refine V.seq ?_
          replace hm0 := bindO hm0; rcases hm0 with ⟨y15, hh17, hm0⟩
          refine V.region ?_
          refine VO.cons rfl (V1.move rfl rfl rfl lt0 ?_)
          refine VO.cons rfl (V1.move rfl rfl rfl lt0 ?_)
          refine VO.cons rfl (V1.callL (rn + 1) ([ob0] ++ List.map Prod.fst os_100) [.vl (rn + 1) 5 (List.map (encCarton (rn + 1)) y10.2), .int .i64 (1 : Int)] rfl rfl rfl cok_33 rfl ⟨_, _, rfl, Lend.deep (m := 1) (inn := (fun c_ : Carton => List.map encInt c_.Files)) (cell := cellCarton) cokCarton (ts := ts_100) (os := os_100) (xs := y10.2) 0 hd_100 rfl (fun _ => roL_map (fun _ => rfl) _) rfl (fun p hp => memTail (A := [(ob0, ⟨5, deepC cellCarton ts_100 y10.2⟩)]) (T := os_100) hp rfl) (List.mem_append_left _ (.head _)) (fun p hp => List.mem_append_right _ (List.mem_map.2 ⟨p, hp, rfl⟩)), ⟨_, _, rfl, .same _, rfl⟩⟩ (bwTail (A := [(ob0, ⟨5, deepC cellCarton ts_100 y10.2⟩)]) (T := os_100) rfl (bwCons (k := 0) rfl bwNil) (fun p hp => hp)) (ok_laws_heldCartonS hh17) rfl (⟨(by first | omega | (dsimp only; omega)), by rintro _ _ ⟨rfl, rfl⟩; exact ⟨rfl, by simp⟩⟩) lt0 ?_)
          rintro _ _ ⟨rfl, rfl⟩
          refine VO.cons rfl (V1.assign rfl rfl rfl lt0 ?_)
          refine VO.nil ?_
          refine V.keepT 106 [14, 15] [] (E0 := [(14, .int .i64 y10.1), (15, .int .i64 y15)]) (A := [(ob0, ⟨5, deepC cellCarton ts_100 y10.2⟩)]) (T := os_100) (H0 := []) (T' := []) rfl (⟨_, _, rfl, rfl, ⟨_, _, rfl, rfl, rfl⟩⟩) rfl (rfl) rfl (List.nil_sublist _) ?_
          refine V.seq ?_
          refine V.seq ?_
          refine V.region ?_
          refine VO.cons rfl (V1.move rfl rfl rfl lt0 ?_)
          refine VO.cons rfl (V1.int rfl rfl rfl rfl rfl lt0 ?_)
          refine VO.nil ?_
          refine V.cond rfl (fun hc7 => ?_) (fun hc7 => ?_)
          ·
           replace hm0 := cond_t hc7 hm0
           refine V.seq ?_
           refine V.region ?_
           refine VO.cons rfl (V1.assign rfl rfl rfl lt0 ?_)
           refine VO.nil ?_
           refine V.ret ?_
           obtain rfl := Option.some.inj hm0
           exact ⟨_, [], ⟨_, _, rfl, rfl, rfl⟩, List.nil_sublist _, rfl, rfl⟩
          ·
           replace hm0 := cond_f hc7 hm0
           refine V.skip ?_
           refine V.seq ?_
           refine V.seq ?_
           refine V.region ?_
           refine VO.cons rfl (V1.move rfl rfl rfl lt0 ?_)
           refine VO.cons rfl (V1.move rfl rfl rfl lt0 ?_)
           refine VO.cons rfl (V1.int rfl rfl rfl rfl rfl lt0 ?_)
           refine VO.nil ?_
           refine V.keep 106 [105] [] (E0 := [(105, .bool (y15 != y10.1))]) (H0 := []) rfl (⟨_, _, rfl, rfl, rfl⟩) (rfl) rfl ?_
           refine V.cond rfl (fun hc8 => ?_) (fun hc8 => ?_)
           ·
            replace hm0 := cond_t hc8 hm0
            refine V.seq ?_
            refine V.region ?_
            refine VO.cons rfl (V1.assign rfl rfl rfl lt0 ?_)
            refine VO.nil ?_
            refine V.ret ?_
            obtain rfl := Option.some.inj hm0
            exact ⟨_, [], ⟨_, _, rfl, rfl, rfl⟩, List.nil_sublist _, rfl, rfl⟩
           ·
            replace hm0 := cond_f hc8 hm0
            refine V.skip ?_
            refine V.seq ?_
            refine V.region ?_
            refine VO.cons rfl (V1.assign rfl rfl rfl lt0 ?_)
            refine VO.nil ?_
            refine V.ret ?_
            obtain rfl := Option.some.inj hm0
            exact ⟨_, [], ⟨_, _, rfl, rfl, rfl⟩, List.nil_sublist _, rfl, rfl⟩
        ·
         refine V.keepT 106 [8, 9, 11, 14, 16, 17] [0, 1] (E0 := [(8, .vl rn 5 (List.map (encCarton rn) y2.1)), (9, .bool y2.2), (11, .sref ob0 5 0 (List.length y10.2)), (14, .int .i64 y10.1), (16, .sref ob1 5 0 (List.length y13.1)), (17, .bool y13.2)]) (A := [(ob1, ⟨5, deepC cellCarton ts_103 y13.1⟩), (ob0, ⟨5, deepC cellCarton ts_100 y10.2⟩)]) (T := (os_103 ++ os_100)) (H0 := [(ob1, ⟨5, deepC cellCarton ts_103 y13.1⟩), (ob0, ⟨5, deepC cellCarton ts_100 y10.2⟩)]) (T' := (os_103 ++ os_100)) rfl (⟨_, _, rfl, rfl, ⟨_, _, rfl, rfl, ⟨_, _, rfl, rfl, ⟨_, _, rfl, rfl, ⟨_, _, rfl, rfl, ⟨_, _, rfl, rfl, rfl⟩⟩⟩⟩⟩⟩) rfl (⟨_, _, rfl, rfl, ⟨_, _, rfl, rfl, rfl⟩⟩) rfl (List.Sublist.refl _) ?_
         refine V.seq ?_
         refine V.seq ?_
         replace hm0 := bindO hm0; rcases hm0 with ⟨y14, hh16, hm0⟩
         refine V.region ?_
         refine VO.cons rfl (V1.move rfl rfl rfl lt0 ?_)
         refine VO.cons rfl (V1.move rfl rfl rfl lt0 ?_)
         refine VO.cons rfl (V1.callL (rn + 1) ([ob1] ++ List.map Prod.fst os_103) [.vl (rn + 1) 5 (List.map (encCarton (rn + 1)) y13.1), .vl rn 5 (List.map (encCarton rn) y2.1)] rfl rfl rfl cok_25 rfl ⟨_, _, rfl, Lend.deep (m := 1) (inn := (fun c_ : Carton => List.map encInt c_.Files)) (cell := cellCarton) cokCarton (ts := ts_103) (os := os_103) (xs := y13.1) 0 hd_103 rfl (fun _ => roL_map (fun _ => rfl) _) rfl (fun p hp => memTail (A := [(ob1, ⟨5, deepC cellCarton ts_103 y13.1⟩), (ob0, ⟨5, deepC cellCarton ts_100 y10.2⟩)]) (T := (os_103 ++ os_100)) (List.mem_append_left _ hp) rfl) (List.mem_append_left _ (.head _)) (fun p hp => List.mem_append_right _ (List.mem_map.2 ⟨p, hp, rfl⟩)), ⟨_, _, rfl, .same _, rfl⟩⟩ (bwTail (A := [(ob1, ⟨5, deepC cellCarton ts_103 y13.1⟩), (ob0, ⟨5, deepC cellCarton ts_100 y10.2⟩)]) (T := (os_103 ++ os_100)) rfl (bwCons (k := 0) rfl bwNil) (fun p hp => (List.mem_append_left _ hp))) (ok_laws_eqCartonS hh16) rfl (⟨(by first | omega | (dsimp only; omega)), by rintro _ _ ⟨rfl, rfl⟩; exact ⟨rfl, by simp⟩⟩) lt0 ?_)
         rintro _ _ ⟨rfl, rfl⟩
         refine VO.cons rfl (V1.not rfl rfl rfl lt0 ?_)
         refine VO.cons rfl (V1.move rfl rfl rfl lt0 ?_)
         apply VO.or (n := 3) rfl rfl rfl rfl rfl rfl lt0 (.none rfl)
         ·
          intro hg3
          refine VO.step (.some rfl rfl rfl) (V1.move rfl rfl rfl lt0 ?_)
          refine VO.step (.some rfl rfl rfl) (V1.move rfl rfl rfl lt0 ?_)
          refine VO.step (.some rfl rfl rfl) (V1.boolNeq rfl rfl und_4 rfl rfl lt0 ?_)
          exact VO.nil ⟨rfl, rfl, rfl, rfl, .inr ⟨rfl, .inr ⟨rfl, .inr ⟨rfl, .inr ⟨rfl, .inl rfl⟩⟩⟩⟩⟩
         refine VO.nil ?_
         refine V.keepT 106 [11, 14, 97] [1] (E0 := [(11, .sref ob0 5 0 (List.length y10.2)), (14, .int .i64 y10.1), (97, .bool ((!y14) || (!(y13.2 == y2.2))))]) (A := [(ob1, ⟨5, deepC cellCarton ts_103 y13.1⟩), (ob0, ⟨5, deepC cellCarton ts_100 y10.2⟩)]) (T := (os_103 ++ os_100)) (H0 := [(ob0, ⟨5, deepC cellCarton ts_100 y10.2⟩)]) (T' := os_100) rfl (⟨_, _, rfl, rfl, ⟨_, _, rfl, rfl, ⟨_, _, rfl, rfl, rfl⟩⟩⟩) rfl (⟨_, _, rfl, rfl, rfl⟩) rfl (List.sublist_append_right _ _) ?_
         refine V.cond rfl (fun hc6 => ?_) (fun hc6 => ?_)
         ·
          replace hm0 := cond_t hc6 hm0
          refine V.seq ?_
          refine V.region ?_
          refine VO.cons rfl (V1.assign rfl rfl rfl lt0 ?_)
          refine VO.nil ?_
          refine V.ret ?_
          obtain rfl := Option.some.inj hm0
          exact ⟨_, [], ⟨_, _, rfl, rfl, rfl⟩, List.nil_sublist _, rfl, rfl⟩
         ·
          replace hm0 := cond_f hc6 hm0
          refine V.skip ?_
          refine V.seq ?_
          refine V.region ?_
          refine VO.cons rfl (V1.assign rfl rfl rfl lt0 ?_)
          refine VO.nil ?_
          refine V.seq ?_
          replace hm0 := bindO hm0; rcases hm0 with ⟨y15, hh17, hm0⟩
          refine V.region ?_
          refine VO.cons rfl (V1.move rfl rfl rfl lt0 ?_)
          refine VO.cons rfl (V1.move rfl rfl rfl lt0 ?_)
          refine VO.cons rfl (V1.callL (rn + 1) ([ob0] ++ List.map Prod.fst os_100) [.vl (rn + 1) 5 (List.map (encCarton (rn + 1)) y10.2), .int .i64 (1 : Int)] rfl rfl rfl cok_33 rfl ⟨_, _, rfl, Lend.deep (m := 1) (inn := (fun c_ : Carton => List.map encInt c_.Files)) (cell := cellCarton) cokCarton (ts := ts_100) (os := os_100) (xs := y10.2) 0 hd_100 rfl (fun _ => roL_map (fun _ => rfl) _) rfl (fun p hp => memTail (A := [(ob0, ⟨5, deepC cellCarton ts_100 y10.2⟩)]) (T := os_100) hp rfl) (List.mem_append_left _ (.head _)) (fun p hp => List.mem_append_right _ (List.mem_map.2 ⟨p, hp, rfl⟩)), ⟨_, _, rfl, .same _, rfl⟩⟩ (bwTail (A := [(ob0, ⟨5, deepC cellCarton ts_100 y10.2⟩)]) (T := os_100) rfl (bwCons (k := 0) rfl bwNil) (fun p hp => hp)) (ok_laws_heldCartonS hh17) rfl (⟨(by first | omega | (dsimp only; omega)), by rintro _ _ ⟨rfl, rfl⟩; exact ⟨rfl, by simp⟩⟩) lt0 ?_)
          rintro _ _ ⟨rfl, rfl⟩
          refine VO.cons rfl (V1.assign rfl rfl rfl lt0 ?_)
          refine VO.nil ?_
          refine V.keepT 106 [14, 15] [] (E0 := [(14, .int .i64 y10.1), (15, .int .i64 y15)]) (A := [(ob0, ⟨5, deepC cellCarton ts_100 y10.2⟩)]) (T := os_100) (H0 := []) (T' := []) rfl (⟨_, _, rfl, rfl, ⟨_, _, rfl, rfl, rfl⟩⟩) rfl (rfl) rfl (List.nil_sublist _) ?_
          refine V.seq ?_
          refine V.seq ?_
          refine V.region ?_
          refine VO.cons rfl (V1.move rfl rfl rfl lt0 ?_)
          refine VO.cons rfl (V1.int rfl rfl rfl rfl rfl lt0 ?_)
          refine VO.nil ?_
          refine V.cond rfl (fun hc7 => ?_) (fun hc7 => ?_)
          ·
           replace hm0 := cond_t hc7 hm0
           refine V.seq ?_
           refine V.region ?_
           refine VO.cons rfl (V1.assign rfl rfl rfl lt0 ?_)
           refine VO.nil ?_
           refine V.ret ?_
           obtain rfl := Option.some.inj hm0
           exact ⟨_, [], ⟨_, _, rfl, rfl, rfl⟩, List.nil_sublist _, rfl, rfl⟩
          ·
           replace hm0 := cond_f hc7 hm0
           refine V.skip ?_
           refine V.seq ?_
           refine V.seq ?_
           refine V.region ?_
           refine VO.cons rfl (V1.move rfl rfl rfl lt0 ?_)
           refine VO.cons rfl (V1.move rfl rfl rfl lt0 ?_)
           refine VO.cons rfl (V1.int rfl rfl rfl rfl rfl lt0 ?_)
           refine VO.nil ?_
           refine V.keep 106 [105] [] (E0 := [(105, .bool (y15 != y10.1))]) (H0 := []) rfl (⟨_, _, rfl, rfl, rfl⟩) (rfl) rfl ?_
           refine V.cond rfl (fun hc8 => ?_) (fun hc8 => ?_)
           ·
            replace hm0 := cond_t hc8 hm0
            refine V.seq ?_
            refine V.region ?_
            refine VO.cons rfl (V1.assign rfl rfl rfl lt0 ?_)
            refine VO.nil ?_
            refine V.ret ?_
            obtain rfl := Option.some.inj hm0
            exact ⟨_, [], ⟨_, _, rfl, rfl, rfl⟩, List.nil_sublist _, rfl, rfl⟩
           ·
            replace hm0 := cond_f hc8 hm0
            refine V.skip ?_
            refine V.seq ?_
            refine V.region ?_
            refine VO.cons rfl (V1.assign rfl rfl rfl lt0 ?_)
            refine VO.nil ?_
            refine V.ret ?_
            obtain rfl := Option.some.inj hm0
            exact ⟨_, [], ⟨_, _, rfl, rfl, rfl⟩, List.nil_sublist _, rfl, rfl⟩
end Go.Proofs.Ytfebeomnlkfgoaa
