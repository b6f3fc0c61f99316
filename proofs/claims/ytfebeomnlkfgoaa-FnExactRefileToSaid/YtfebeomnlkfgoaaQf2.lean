/- the functions do what their models say -/
import Derived.Test.YtfebeomnlkfgoaaQf1
set_option linter.unusedSimpArgs false
set_option linter.unusedVariables false
set_option maxRecDepth 100000
set_option maxHeartbeats 4000000
namespace Go.Proofs.Ytfebeomnlkfgoaa
open Go.VS

theorem okv_slices_Clone_impl_Carton_impl_Carton {ρ0 σ0 rn : Nat} {s : List Carton} {r : List Carton} (h : M.slices_Clone_impl_Carton_impl_Carton s = some r) : Does Try.prog 108 [.vl ρ0 5 (List.map (encCarton σ0) s)] [] rn (fun x H => ∃ ob0_ : Option Nat, (ob0_ = none → r = []) ∧ x = optS 5 ob0_ (List.length r) ∧ H = optH 5 ob0_ (List.map (encCarton σ0) r)) := by
 have hm0 := h; clear h; unfold M.slices_Clone_impl_Carton_impl_Carton at hm0
 replace hm0 := asrt_some hm0; rcases hm0 with ⟨hh0, hm0⟩
 obtain rfl := Option.some.inj hm0
 refine Does.intro (N := 8) Try.func108 rfl rfl rfl rfl ?_
 intro w0 S0
 refine V.seq ?_
 refine V.region ?_
 refine VO.cons rfl (V1.assign rfl rfl rfl lt0 ?_)
 refine VO.nil ?_
 refine V.seq ?_
 first | refine V.region ?_ | (refine V.seq ?_; refine V.region ?_)
 refine VO.cons rfl (V1.move rfl rfl rfl lt0 ?_)
 refine VO.cons rfl (V1.eqNil rfl rfl usl_39 rfl rfl lt0 ?_)
 intro c hc
 refine VO.nil ?_
 first | refine V.cond rfl (fun hc0 => ?_) (fun hc0 => ?_) | (refine V.seq ?_; refine V.cond rfl (fun hc0 => ?_) (fun hc0 => ?_))
 ·
  have hs : s = [] := List.map_eq_nil_iff.1 (hc hc0)
  refine V.seq ?_
  refine V.region ?_
  refine VO.cons rfl (V1.assign rfl rfl rfl lt0 ?_)
  refine VO.nil ?_
  refine V.ret ?_
  exact ⟨_, [], ⟨_, _, rfl, rfl, rfl⟩, List.nil_sublist _, none, fun _ => hs, rfl, rfl⟩
 ·
  refine V.skip ?_
  refine V.seq ?_
  refine V.region ?_
  refine VO.cons rfl (V1.buildSliceT (f := (encCarton σ0)) ([] : List Carton) rfl rfl esz_39 zk_67 rfl rfl rfl rfl rfl rfl rfl lt0 ?_)
  intro b0
  refine VO.cons rfl (V1.move rfl rfl rfl lt0 ?_)
  refine VO.cons rfl (V1.appendMap (k := 0) (f := (encCarton σ0)) (l := []) (m := s) rfl rfl rfl rfl rfl esz_39 eby_39 zk_67 rfl rfl rfl (.vl isl_39) (by simpa using hh0) lt0 ?_)
  intro b1
  refine VO.cons rfl (V1.assign rfl rfl rfl lt0 ?_)
  refine VO.nil ?_
  refine V.keep 8 [2] [0] (E0 := [(2, .sref b1 5 0 (List.length s))]) (H0 := [(b1, ⟨5, List.map (encCarton σ0) s⟩)]) rfl (⟨_, _, rfl, rfl, rfl⟩) (⟨_, _, rfl, rfl, rfl⟩) rfl ?_
  refine V.ret ?_
  exact ⟨_, _, ⟨_, _, rfl, rfl, rfl⟩, List.Sublist.refl _, some b1, (fun e => by cases e), rfl, rfl⟩

theorem ok_impl_copyCartons {ρ0 σ0 rn : Nat} {list : List Carton} {r : List Carton} (h : M.impl_copyCartons list = some r) : Does Try.prog 66 [.vl ρ0 5 (List.map (encCarton σ0) list)] [] rn (fun x H => ∃ (ob0_ : Option Nat) (ts_ : List PV) (os_ : List (Nat × Obj')), (ob0_ = none → r = []) ∧ (Deep 1 (fun c_ : Carton => List.map encInt c_.Files) ts_ os_ r) ∧ x = optS 5 ob0_ (List.length r) ∧ H = (optH 5 ob0_ (deepC cellCarton ts_ r) ++ os_)) := by
 have hm0 := h; clear h; unfold M.impl_copyCartons at hm0
 try dsimp only at hm0
 refine Does.intro (N := 24) Try.func66 rfl rfl rfl rfl ?_
 intro w0 S0
 refine V.seq ?_
 refine V.region ?_
 refine VO.cons rfl (V1.assign rfl rfl rfl lt0 ?_)
 refine VO.nil ?_
 refine V.seq ?_
 replace hm0 := bindO hm0; rcases hm0 with ⟨y0, hh0, hm0⟩
 have hlen0 : (y0.length : Int) ≤ 2147483648 := by
  have := hh0; unfold M.slices_Clone_impl_Carton_impl_Carton at this; obtain ⟨q1, q2⟩ := asrt_some this; obtain rfl := Option.some.inj q2; exact q1
 refine V.region ?_
 refine VO.cons rfl (V1.move rfl rfl rfl lt0 ?_)
 refine VO.cons rfl (V1.permK (V1.call rfl rfl rfl cok_108 rfl (okv_slices_Clone_impl_Carton_impl_Carton hh0) rfl lt0 ?_))
 rintro _ _ ⟨ob0, hob0, rfl, rfl⟩
 refine ⟨_, ?_, Keeps.optBack (n := 5) (ob := ob0) (xs := List.map (encCarton σ0) y0) (H1 := []) (H2 := []) rfl⟩
 refine VO.cons rfl (V1.assign rfl rfl rfl lt0 ?_)
 refine VO.nil ?_
 rcases ob0 with _ | ob0
 ·
  have hn0 : y0 = [] := hob0 rfl
  refine V.seq ?_
  refine V.seq ?_
  refine V.region ?_
  refine VO.cons rfl (V1.move rfl rfl rfl lt0 ?_)
  refine VO.cons rfl (V1.lenNilsE (l := y0) hn0 rfl rfl rfl rfl rfl rfl isl_39 lt0 ?_)
  refine VO.cons rfl (V1.move rfl rfl rfl lt0 ?_)
  refine VO.nil ?_
  refine V.keep 24 [3, 8, 9] [] (E0 := [(3, .nils), (8, .int .i64 (y0.length : Int)), (9, .int .i64 (0 : Int))]) (H0 := []) rfl (⟨_, _, rfl, rfl, ⟨_, _, rfl, rfl, ⟨_, _, rfl, rfl, rfl⟩⟩⟩) (rfl) rfl ?_
  replace hm0 := bindO hm0; rcases hm0 with ⟨e0, he1, hm0⟩
  refine V.cutT (D := List Carton × Unit) (fun ⟨out_, _⟩ => ⟨24, [(3, .nils)], []⟩) (fun ⟨out_, _⟩ => (out_ = e0) ∧ out_ = []) ?_ ?_
  ·
   refine V.block ?_
   refine V.keep 24 [3, 9, 8] [] (E0 := [(3, .nils), (9, .int .i64 (0 : Int)), (8, .int .i64 (y0.length : Int))]) (H0 := []) rfl (⟨_, _, rfl, rfl, ⟨_, _, rfl, rfl, ⟨_, _, rfl, rfl, rfl⟩⟩⟩) (rfl) rfl ?_
   refine V.loopE (D := Nat × (List Carton × Int) × (Unit)) (fun ⟨n0, ⟨out_0, v⟩, _⟩ => [(3, .nils), (9, .int .i64 v)]) (fun ⟨n0, ⟨out_0, v⟩, _⟩ => []) (fun ⟨n0, ⟨out_0, v⟩, _⟩ => loopO (M.impl_copyCartons_l0 y0) n0 (out_0, v) = some e0 ∧ out_0 = []) (fun ⟨n0, _, _⟩ => n0) (rounds, (y0, (0 : Int)), ()) rfl ⟨he1, hn0⟩ ?_
   rintro ⟨n0, ⟨out_0, v⟩, _⟩ ⟨hP0, hn_out_0⟩
   obtain ⟨m0, y1, rfl, hm1, hl1, hr1⟩ := loop_head hP0
   unfold M.impl_copyCartons_l0 at hm1; dsimp only at hm1
   show V _ _ _ ⟨24, [(3, .nils), (9, .int .i64 v), (8, .int .i64 (y0.length : Int))], []⟩
   refine V.seq ?_
   refine V.region ?_
   refine VO.cons rfl (V1.int rfl rfl rfl rfl rfl lt0 ?_)
   refine VO.nil ?_
   refine V.seq ?_
   refine V.cond rfl (fun hc0 => ?_) (fun hc0 => ?_)
   ·
    replace hm1 := cond_t hc0 hm1
    replace hm1 := asrt_some hm1; rcases hm1 with ⟨hh1, hm1⟩
    exact (nilsNo hn_out_0 hh1).elim
   ·
    replace hm1 := cond_f hc0 hm1
    refine V.exit ?_
    obtain rfl := hr1 _ (Option.some.inj hm1).symm
    exact ⟨(out_0, ()), ⟨rfl, hn_out_0⟩, Keeps.mk (ks := []) rfl ⟨rfl, trivial⟩ (rfl) rfl⟩
  ·
   rintro ⟨out_, _⟩ ⟨rfl, hob1⟩
   try dsimp only at hm0
   refine V.seq ?_
   refine V.region ?_
   refine VO.cons rfl (V1.move rfl rfl rfl lt0 ?_)
   refine VO.cons rfl (V1.assign rfl rfl rfl lt0 ?_)
   refine VO.nil ?_
   refine V.keep 24 [2] [] (E0 := [(2, .nils)]) (H0 := []) rfl (⟨_, _, rfl, rfl, rfl⟩) (rfl) rfl ?_
   refine V.ret ?_
   obtain rfl := Option.some.inj hm0
   exact ⟨_, _, ⟨_, _, rfl, rfl, rfl⟩, List.Sublist.refl _, none, [], [], (fun _ => hob1), Deep.ofNil hob1, rfl, rfl⟩
 ·
  refine V.seq ?_
  refine V.seq ?_
  refine V.region ?_
  refine VO.cons rfl (V1.move rfl rfl rfl lt0 ?_)
  refine VO.cons rfl (V1.lenSref rfl rfl rfl rfl rfl rfl isl_39 lt0 ?_)
  refine VO.cons rfl (V1.move rfl rfl rfl lt0 ?_)
  refine VO.nil ?_
  refine V.weakenK (Keeps.sayObj 0 (ys := deepC cellCarton (List.map (fun c_ : Carton => PV.vl σ0 1 (List.map encInt c_.Files)) y0) y0) rfl (deepC_map (f := encCarton σ0) (cell := cellCarton) (frz := fun c_ : Carton => PV.vl σ0 1 (List.map encInt c_.Files)) (fun _ => rfl))) ?_
  refine V.keep 24 [3, 8, 9] [0] (E0 := [(3, .sref ob0 5 0 (List.length y0)), (8, .int .i64 (y0.length : Int)), (9, .int .i64 (0 : Int))]) (H0 := [(ob0, ⟨5, deepC cellCarton (List.map (fun c_ : Carton => PV.vl σ0 1 (List.map encInt c_.Files)) y0) y0⟩)]) rfl (⟨_, _, rfl, rfl, ⟨_, _, rfl, rfl, ⟨_, _, rfl, rfl, rfl⟩⟩⟩) (⟨_, _, rfl, rfl, rfl⟩) rfl ?_
  replace hm0 := bindO hm0; rcases hm0 with ⟨e0, he1, hm0⟩
  refine V.cutT (D := (List Carton) × (List PV × List (Nat × Obj'))) (fun ⟨out_, ⟨ts_, os_⟩⟩ => ⟨24, [(3, .sref ob0 5 0 (List.length out_))], ([(ob0, ⟨5, deepC cellCarton ts_ out_⟩)]) ++ os_⟩) (fun ⟨out_, ⟨ts_, os_⟩⟩ => (out_ = e0) ∧ Deep 1 (fun c_ : Carton => List.map encInt c_.Files) ts_ os_ out_) ?_ ?_
  ·
   refine V.block ?_
   refine V.keep 24 [3, 9, 8] [0] (E0 := [(3, .sref ob0 5 0 (List.length y0)), (9, .int .i64 (0 : Int)), (8, .int .i64 (y0.length : Int))]) (H0 := [(ob0, ⟨5, deepC cellCarton (List.map (fun c_ : Carton => PV.vl σ0 1 (List.map encInt c_.Files)) y0) y0⟩)]) rfl (⟨_, _, rfl, rfl, ⟨_, _, rfl, rfl, ⟨_, _, rfl, rfl, rfl⟩⟩⟩) (⟨_, _, rfl, rfl, rfl⟩) rfl ?_
   refine V.loopT (D := Nat × (List Carton × Int) × (List PV × List (Nat × Obj'))) (fun ⟨n0, ⟨out_0, v⟩, ⟨ts_, os_⟩⟩ => [(3, .sref ob0 5 0 (List.length out_0)), (9, .int .i64 v)]) (fun ⟨n0, ⟨out_0, v⟩, ⟨ts_, os_⟩⟩ => ([(ob0, ⟨5, deepC cellCarton ts_ out_0⟩)]) ++ os_) (fun ⟨n0, ⟨out_0, v⟩, ⟨ts_, os_⟩⟩ => loopO (M.impl_copyCartons_l0 y0) n0 (out_0, v) = some e0 ∧ out_0.length = y0.length ∧ 0 ≤ v ∧ Mix 1 (fun c_ : Carton => List.map encInt c_.Files) (fun c_ : Carton => PV.vl σ0 1 (List.map encInt c_.Files)) (Int.toNat v) ts_ os_ out_0) (fun ⟨n0, _, _⟩ => n0) (rounds, (y0, (0 : Int)), ((List.map (fun c_ : Carton => PV.vl σ0 1 (List.map encInt c_.Files)) y0), [])) rfl ⟨he1, rfl, Int.le_refl _, Mix.init⟩ ?_
   rintro ⟨n0, ⟨out_0, v⟩, ⟨ts_, os_⟩⟩ ⟨hP0, hlen, hv0, hmix⟩
   obtain ⟨m0, y1, rfl, hm1, hl1, hr1⟩ := loop_head hP0
   unfold M.impl_copyCartons_l0 at hm1; dsimp only at hm1
   show V _ _ _ ⟨24, [(3, .sref ob0 5 0 (List.length out_0)), (9, .int .i64 v), (8, .int .i64 (y0.length : Int))], (([(ob0, ⟨5, deepC cellCarton ts_ out_0⟩)] : List (Nat × Obj')) ++ os_)⟩
   refine V.seq ?_
   refine V.region ?_
   refine VO.cons rfl (V1.int rfl rfl rfl rfl rfl lt0 ?_)
   refine VO.nil ?_
   refine V.seq ?_
   refine V.cond rfl (fun hc0 => ?_) (fun hc0 => ?_)
   ·
    replace hm1 := cond_t hc0 hm1
    refine V.skip ?_
    refine V.seq ?_
    refine V.block ?_
    refine V.seq ?_
    refine V.region ?_
    refine VO.cons rfl (V1.move rfl rfl rfl lt0 ?_)
    refine VO.cons rfl (V1.assign rfl rfl rfl lt0 ?_)
    refine VO.nil ?_
    replace hm1 := asrt_some hm1; rcases hm1 with ⟨hh1, hm1⟩
    replace hm1 := bindO hm1; rcases hm1 with ⟨y2, hh2, hm1⟩
    replace hm1 := asrt_some hm1; rcases hm1 with ⟨hh3, hm1⟩
    have hi : Int.toNat v < out_0.length := natLt hh1.1 hh1.2
    have hget := hmix.get hi
    refine V.region ?_
    refine VO.cons rfl (V1.move rfl rfl rfl lt0 ?_)
    refine VO.cons rfl (V1.move rfl rfl rfl lt0 ?_)
    refine VO.cons rfl (V1.move rfl rfl rfl lt0 ?_)
    refine VO.cons rfl (V1.move rfl rfl rfl lt0 ?_)
    refine VO.cons rfl (V1.indexSr rfl rfl esz_39 rfl rfl hh1 lt0 ?_)
    refine VO.cons rfl (V1.fieldRef rfl rfl fo_67_3 rfl lt0 ?_)
    refine VO.cons rfl (V1.loadRef (k := 0) rfl rfl tyk_36 rfl rfl rfl ((deepC_get hmix.length hi).trans (congrArg (fun t_ => some (cellCarton t_ (out_0.getD (Int.toNat v) default))) hget)) rfl lt0 ?_)
    refine VO.cons rfl (V1.permK (V1.call rfl rfl rfl cok_109 rfl (ok_slices_Clone_int_int hh2) rfl lt0 ?_))
    rintro _ _ ⟨ob1, hob1, rfl, rfl⟩
    refine ⟨_, ?_, Keeps.optBack (n := 1) (ob := ob1) (xs := List.map encInt y2) (H1 := []) (H2 := (([(ob0, ⟨5, deepC cellCarton ts_ out_0⟩)] : List (Nat × Obj')) ++ os_)) rfl⟩
    refine VO.cons rfl (V1.indexSr rfl rfl esz_39 rfl rfl hh3 lt0 ?_)
    refine VO.cons rfl (V1.fieldRef rfl rfl fo_67_3 rfl lt0 ?_)
    refine VO.cons rfl (V1.storeDeepIn (inn := (fun c_ : Carton => List.map encInt c_.Files)) (cell := cellCarton) (ts := ts_) (xs := out_0) (k := 0) cokCarton (⟨(out_0.getD (Int.toNat v) default).Id, (out_0.getD (Int.toNat v) default).Shelf, (out_0.getD (Int.toNat v) default).Room, y2, (out_0.getD (Int.toNat v) default).Thick⟩ : Carton) rfl rfl tyk_36 rfl rfl hmix.length (by rw [hget]; exact ⟨rfl, rfl⟩) hi rfl (by cases ob1 <;> rfl) (by cases ob1 <;> rfl) rfl rfl ?_)
    refine VO.weakenK (Keeps.say 3 (y := .sref ob0 5 0 (List.length (out_0.set (Int.toNat v) (⟨(out_0.getD (Int.toNat v) default).Id, (out_0.getD (Int.toNat v) default).Shelf, (out_0.getD (Int.toNat v) default).Room, y2, (out_0.getD (Int.toNat v) default).Thick⟩ : Carton)))) rfl (by simp)) ?_
    refine VO.nil ?_
    have hmix2 := hmix.step (x' := (⟨(out_0.getD (Int.toNat v) default).Id, (out_0.getD (Int.toNat v) default).Shelf, (out_0.getD (Int.toNat v) default).Room, y2, (out_0.getD (Int.toNat v) default).Thick⟩ : Carton)) hi (Deep1.opt (m := 1) (q := List.length y2) (l := List.map encInt y2) (ob := ob1) (by simp) (fun e_ => by rw [hob1 e_]; rfl))
    obtain ⟨hv1, hv2⟩ := Mix.round (i := v) (n := y0.length) hv0 (by rw [← hlen]; exact hh1.2) hlen0
    rw [← hv2] at hmix2
    refine V.keepT 24 [3, 8, 9] [0] (E0 := [(3, .sref ob0 5 0 (List.length (out_0.set (Int.toNat v) (⟨(out_0.getD (Int.toNat v) default).Id, (out_0.getD (Int.toNat v) default).Shelf, (out_0.getD (Int.toNat v) default).Room, y2, (out_0.getD (Int.toNat v) default).Thick⟩ : Carton)))), (8, .int .i64 (y0.length : Int)), (9, .int .i64 v)]) (A := [(ob0, ⟨5, deepC cellCarton (List.set ts_ (Int.toNat v) (optS 1 ob1 (List.length y2))) (out_0.set (Int.toNat v) (⟨(out_0.getD (Int.toNat v) default).Id, (out_0.getD (Int.toNat v) default).Shelf, (out_0.getD (Int.toNat v) default).Room, y2, (out_0.getD (Int.toNat v) default).Thick⟩ : Carton))⟩)]) (T := os_ ++ optH 1 ob1 (List.map encInt y2)) (H0 := [(ob0, ⟨5, deepC cellCarton (List.set ts_ (Int.toNat v) (optS 1 ob1 (List.length y2))) (out_0.set (Int.toNat v) (⟨(out_0.getD (Int.toNat v) default).Id, (out_0.getD (Int.toNat v) default).Shelf, (out_0.getD (Int.toNat v) default).Room, y2, (out_0.getD (Int.toNat v) default).Thick⟩ : Carton))⟩)]) (T' := os_ ++ optH 1 ob1 (List.map encInt y2)) rfl (⟨_, _, rfl, rfl, ⟨_, _, rfl, rfl, ⟨_, _, rfl, rfl, rfl⟩⟩⟩) rfl (⟨_, _, rfl, rfl, rfl⟩) rfl (List.Sublist.refl _) ?_
    refine V.region ?_
    refine VO.cons rfl (V1.int rfl rfl rfl rfl rfl lt0 ?_)
    refine VO.cons rfl (V1.move rfl rfl rfl lt0 ?_)
    refine VO.nil ?_
    exact ⟨(m0, ((out_0.set (Int.toNat v) (⟨(out_0.getD (Int.toNat v) default).Id, (out_0.getD (Int.toNat v) default).Shelf, (out_0.getD (Int.toNat v) default).Room, y2, (out_0.getD (Int.toNat v) default).Thick⟩ : Carton)), (IntKind.i64.wrap (v + (1 : Int)))), ((List.set ts_ (Int.toNat v) (optS 1 ob1 (List.length y2))), os_ ++ optH 1 ob1 (List.map encInt y2))), ⟨hl1 _ (Option.some.inj hm1).symm, by rw [List.length_set]; exact hlen, hv1, hmix2⟩, Nat.lt_succ_self _, Keeps.mkT (A := [(ob0, ⟨5, deepC cellCarton (List.set ts_ (Int.toNat v) (optS 1 ob1 (List.length y2))) (out_0.set (Int.toNat v) (⟨(out_0.getD (Int.toNat v) default).Id, (out_0.getD (Int.toNat v) default).Shelf, (out_0.getD (Int.toNat v) default).Room, y2, (out_0.getD (Int.toNat v) default).Thick⟩ : Carton))⟩)]) (T := os_ ++ optH 1 ob1 (List.map encInt y2)) (T' := os_ ++ optH 1 ob1 (List.map encInt y2)) (H := [(ob0, ⟨5, deepC cellCarton (List.set ts_ (Int.toNat v) (optS 1 ob1 (List.length y2))) (out_0.set (Int.toNat v) (⟨(out_0.getD (Int.toNat v) default).Id, (out_0.getD (Int.toNat v) default).Shelf, (out_0.getD (Int.toNat v) default).Room, y2, (out_0.getD (Int.toNat v) default).Thick⟩ : Carton))⟩)]) (ks := [0]) rfl (by exact ⟨(someSref (by simp)), rfl, rfl, trivial⟩) rfl (by exact (⟨_, _, rfl, rfl, rfl⟩)) rfl (List.Sublist.refl _)⟩
   ·
    replace hm1 := cond_f hc0 hm1
    refine V.exit ?_
    obtain rfl := hr1 _ (Option.some.inj hm1).symm
    have hdone := hmix.done (by have := of_decide_eq_false hc0; omega)
    exact ⟨(out_0, (ts_, os_)), ⟨rfl, hdone⟩, Keeps.mkT (A := [(ob0, ⟨5, deepC cellCarton ts_ out_0⟩)]) (T := os_) (T' := os_) (H := [(ob0, ⟨5, deepC cellCarton ts_ out_0⟩)]) (ks := [0]) rfl (by exact ⟨(someSref (by simp)), trivial⟩) rfl (by exact (⟨_, _, rfl, rfl, rfl⟩)) rfl (List.Sublist.refl _)⟩
  ·
   rintro ⟨out_, ⟨ts_, os_⟩⟩ ⟨rfl, hd_⟩
   try dsimp only at hm0
   refine V.seq ?_
   refine V.region ?_
   refine VO.cons rfl (V1.move rfl rfl rfl lt0 ?_)
   refine VO.cons rfl (V1.assign rfl rfl rfl lt0 ?_)
   refine VO.nil ?_
   refine V.keepT 24 [2] [0] (E0 := [(2, .sref ob0 5 0 (List.length out_))]) (A := [(ob0, ⟨5, deepC cellCarton ts_ out_⟩)]) (T := os_) (H0 := [(ob0, ⟨5, deepC cellCarton ts_ out_⟩)]) (T' := os_) rfl (⟨_, _, rfl, rfl, rfl⟩) rfl (⟨_, _, rfl, rfl, rfl⟩) rfl (List.Sublist.refl _) ?_
   refine V.ret ?_
   obtain rfl := Option.some.inj hm0
   exact ⟨_, _, ⟨_, _, rfl, rfl, rfl⟩, List.Sublist.refl _, some ob0, ts_, os_, (fun e => by cases e), hd_, rfl, rfl⟩

theorem ok_impl_RefileTo_1 {τ1 rn : Nat} {n : Int} {file : Int} {r : Bool} (h : M.impl_RefileTo_1 n file = some r) : Does Try.prog 83 [.int .i64 n, .pin τ1 (.int .i64 file) 0] [] rn (fun x H => x = .bool r ∧ H = []) := by
 have hm0 := h; clear h; unfold M.impl_RefileTo_1 at hm0
 try dsimp only at hm0
 refine Does.intro (N := 7) Try.func83 rfl rfl rfl rfl ?_
 intro w0 S0
 refine V.seq ?_
 refine V.region ?_
 refine VO.cons rfl (V1.assign rfl rfl rfl lt0 ?_)
 refine VO.nil ?_
 refine V.seq ?_
 refine V.region ?_
 refine VO.cons rfl (V1.move rfl rfl rfl lt0 ?_)
 refine VO.cons rfl (V1.loadPin rfl rfl tyk_3 rfl rfl lt0 ?_)
 refine VO.cons rfl (V1.int rfl rfl rfl rfl rfl lt0 ?_)
 refine VO.cons rfl (V1.assign rfl rfl rfl lt0 ?_)
 refine VO.nil ?_
 refine V.ret ?_
 obtain rfl := Option.some.inj hm0
 exact ⟨_, [], ⟨_, _, rfl, rfl, rfl⟩, List.nil_sublist _, rfl, rfl⟩

theorem ok_slices_DeleteFunc_int_int {rn : Nat} {oq : Option Nat} {s : List Int} {f1 : Nat} {cs1 : List PV} {r : List Int} {fm : Int → Option Bool} (h : M.slices_DeleteFunc_int_int s fm = some r) (hoq : oq = none → s = []) (hok1 : callOK Try.prog f1 = true) (hf1 : ∀ x0 r, fm x0 = some r → Does Try.prog f1 (.int .i64 x0 :: cs1) [] rn (fun x H => x = .bool r ∧ H = [])) : Does Try.prog 82 [optS 1 oq (List.length s), .fn f1 cs1] (optH 1 oq (List.map encInt s)) rn (fun x H => ∃ (ob0_ : Option Nat), (ob0_ = none → r = []) ∧ x = optS 1 ob0_ (List.length r) ∧ H = optH 1 ob0_ (List.map encInt r)) := by
 have hm0 := h; clear h; unfold M.slices_DeleteFunc_int_int at hm0
 try dsimp only at hm0
 refine Does.intro (N := 42) Try.func82 rfl rfl rfl rfl ?_
 intro w0 S0
 rcases oq with _ | oq
 ·
  refine V.seq ?_
  refine V.region ?_
  refine VO.cons rfl (V1.assign rfl rfl rfl lt0 ?_)
  refine VO.nil ?_
  refine V.seq ?_
  replace hm0 := bindO hm0; rcases hm0 with ⟨y0, hh0, hm0⟩
  refine V.region ?_
  refine VO.cons rfl (V1.move rfl rfl rfl lt0 ?_)
  refine VO.cons rfl (V1.move rfl rfl rfl lt0 ?_)
  refine VO.weakenK (Keeps.nilsE (l := s) 8 rn 1 encInt (hoq rfl) rfl rfl) ?_
  refine VO.cons rfl (V1.call rfl rfl rfl cok_115 rfl (ok_slices_IndexFunc_int_int hh0 (fm := fm) hok1 hf1) rfl lt0 ?_)
  rintro _ _ ⟨rfl, rfl⟩
  refine VO.cons rfl (V1.assign rfl rfl rfl lt0 ?_)
  refine VO.nil ?_
  refine V.keep 42 [0, 1, 5] [] (E0 := [(0, .nils), (1, .fn f1 cs1), (5, .int .i64 y0)]) (H0 := []) rfl (⟨_, _, rfl, rfl, ⟨_, _, rfl, rfl, ⟨_, _, rfl, rfl, rfl⟩⟩⟩) (rfl) rfl ?_
  refine V.seq ?_
  refine V.seq ?_
  refine V.region ?_
  refine VO.cons rfl (V1.move rfl rfl rfl lt0 ?_)
  refine VO.cons rfl (V1.int rfl rfl rfl rfl rfl lt0 ?_)
  refine VO.nil ?_
  refine V.cond rfl (fun hc0 => ?_) (fun hc0 => ?_)
  ·
   replace hm0 := cond_t hc0 hm0
   refine V.seq ?_
   refine V.region ?_
   refine VO.cons rfl (V1.move rfl rfl rfl lt0 ?_)
   refine VO.cons rfl (V1.assign rfl rfl rfl lt0 ?_)
   refine VO.nil ?_
   refine V.keep 42 [4] [] (E0 := [(4, .nils)]) (H0 := []) rfl (⟨_, _, rfl, rfl, rfl⟩) (rfl) rfl ?_
   refine V.ret ?_
   obtain rfl := Option.some.inj hm0
   exact ⟨_, _, ⟨_, _, rfl, rfl, rfl⟩, List.Sublist.refl _, none, (fun _ => (hoq rfl)), rfl, rfl⟩
  ·
   replace hm0 := cond_f hc0 hm0
   exfalso
   obtain rfl := hoq rfl; have hz_ : M.slices_IndexFunc_int_int [] fm = some (-1) := by unfold M.slices_IndexFunc_int_int; rw [iterO_now (e := .inl ()) (by unfold M.slices_IndexFunc_int_int_l0; rfl)]; rfl
   first | (rw [hz_] at hh0; obtain rfl := Option.some.inj hh0) | skip
   revert hc0; decide
 ·
  refine V.seq ?_
  refine V.region ?_
  refine VO.cons rfl (V1.assign rfl rfl rfl lt0 ?_)
  refine VO.nil ?_
  refine V.seq ?_
  replace hm0 := bindO hm0; rcases hm0 with ⟨y0, hh0, hm0⟩
  refine V.region ?_
  refine VO.cons rfl (V1.move rfl rfl rfl lt0 ?_)
  refine VO.cons rfl (V1.move rfl rfl rfl lt0 ?_)
  refine VO.cons rfl (V1.callL (rn + 1) [oq] [.vl (rn + 1) 1 (List.map encInt s), .fn f1 cs1] rfl rfl rfl cok_115 rfl ⟨_, _, rfl, Lend.srMap 0 rfl (fun _ => rfl) (.head _), ⟨_, _, rfl, .same _, rfl⟩⟩ (bwCons (k := 0) rfl bwNil) (ok_slices_IndexFunc_int_int hh0 (fm := fm) hok1 hf1) rfl (⟨(by first | omega | (dsimp only; omega)), by rintro _ _ ⟨rfl, rfl⟩; exact ⟨rfl, by simp⟩⟩) lt0 ?_)
  rintro _ _ ⟨rfl, rfl⟩
  refine VO.cons rfl (V1.assign rfl rfl rfl lt0 ?_)
  refine VO.nil ?_
  refine V.keep 42 [0, 1, 5] [0] (E0 := [(0, .sref oq 1 0 (List.length s)), (1, .fn f1 cs1), (5, .int .i64 y0)]) (H0 := [(oq, ⟨1, List.map encInt s⟩)]) rfl (⟨_, _, rfl, rfl, ⟨_, _, rfl, rfl, ⟨_, _, rfl, rfl, rfl⟩⟩⟩) (⟨_, _, rfl, rfl, rfl⟩) rfl ?_
  refine V.seq ?_
  refine V.seq ?_
  refine V.region ?_
  refine VO.cons rfl (V1.move rfl rfl rfl lt0 ?_)
  refine VO.cons rfl (V1.int rfl rfl rfl rfl rfl lt0 ?_)
  refine VO.nil ?_
  refine V.cond rfl (fun hc0 => ?_) (fun hc0 => ?_)
  ·
   replace hm0 := cond_t hc0 hm0
   refine V.seq ?_
   refine V.region ?_
   refine VO.cons rfl (V1.move rfl rfl rfl lt0 ?_)
   refine VO.cons rfl (V1.assign rfl rfl rfl lt0 ?_)
   refine VO.nil ?_
   refine V.keep 42 [4] [0] (E0 := [(4, .sref oq 1 0 (List.length s))]) (H0 := [(oq, ⟨1, List.map encInt s⟩)]) rfl (⟨_, _, rfl, rfl, rfl⟩) (⟨_, _, rfl, rfl, rfl⟩) rfl ?_
   refine V.ret ?_
   obtain rfl := Option.some.inj hm0
   exact ⟨_, _, ⟨_, _, rfl, rfl, rfl⟩, List.Sublist.refl _, some oq, (fun e => by cases e), rfl, rfl⟩
  ·
   replace hm0 := cond_f hc0 hm0
   refine V.skip ?_
   refine V.seq ?_
   refine V.seq ?_
   refine V.region ?_
   refine VO.cons rfl (V1.move rfl rfl rfl lt0 ?_)
   refine VO.cons rfl (V1.int rfl rfl rfl rfl rfl lt0 ?_)
   refine VO.cons rfl (V1.assign rfl rfl rfl lt0 ?_)
   refine VO.nil ?_
   refine V.keep 42 [0, 1, 5, 6] [0] (E0 := [(0, .sref oq 1 0 (List.length s)), (1, .fn f1 cs1), (5, .int .i64 y0), (6, .int .i64 (IntKind.i64.wrap (y0 + (1 : Int))))]) (H0 := [(oq, ⟨1, List.map encInt s⟩)]) rfl (⟨_, _, rfl, rfl, ⟨_, _, rfl, rfl, ⟨_, _, rfl, rfl, ⟨_, _, rfl, rfl, rfl⟩⟩⟩⟩) (⟨_, _, rfl, rfl, rfl⟩) rfl ?_
   replace hm0 := bindO hm0; rcases hm0 with ⟨e0, he1, hm0⟩
   refine V.cutT (D := (List Int × Int) × (Unit)) (fun ⟨⟨s0, i⟩, _⟩ => ⟨42, [(0, .sref oq 1 0 (List.length s0)), (5, .int .i64 i)], [(oq, ⟨1, List.map encInt s0⟩)]⟩) (fun ⟨⟨s0, i⟩, _⟩ => ((s0, i) = e0)) ?_ ?_
   ·
    refine V.block ?_
    refine V.keep 42 [0, 5, 6, 1] [0] (E0 := [(0, .sref oq 1 0 (List.length s)), (5, .int .i64 y0), (6, .int .i64 (IntKind.i64.wrap (y0 + (1 : Int)))), (1, .fn f1 cs1)]) (H0 := [(oq, ⟨1, List.map encInt s⟩)]) rfl (⟨_, _, rfl, rfl, ⟨_, _, rfl, rfl, ⟨_, _, rfl, rfl, ⟨_, _, rfl, rfl, rfl⟩⟩⟩⟩) (⟨_, _, rfl, rfl, rfl⟩) rfl ?_
    refine V.loopE (D := Nat × (List Int × Int × Int) × (Unit)) (fun ⟨n0, ⟨s1, i0, j_⟩, _⟩ => [(0, .sref oq 1 0 (List.length s1)), (5, .int .i64 i0), (6, .int .i64 j_)]) (fun ⟨n0, ⟨s1, i0, j_⟩, _⟩ => [(oq, ⟨1, List.map encInt s1⟩)]) (fun ⟨n0, ⟨s1, i0, j_⟩, _⟩ => loopO (M.slices_DeleteFunc_int_int_l0 fm) n0 (s1, i0, j_) = some e0) (fun ⟨n0, _, _⟩ => n0) (rounds, (s, y0, (IntKind.i64.wrap (y0 + (1 : Int)))), ()) rfl he1 ?_
    rintro ⟨n0, ⟨s1, i0, j_⟩, _⟩ hP0
    obtain ⟨m0, y1, rfl, hm1, hl1, hr1⟩ := loop_head hP0
    unfold M.slices_DeleteFunc_int_int_l0 at hm1; dsimp only at hm1
    show V _ _ _ ⟨42, [(0, .sref oq 1 0 (List.length s1)), (5, .int .i64 i0), (6, .int .i64 j_), (1, .fn f1 cs1)], [(oq, ⟨1, List.map encInt s1⟩)]⟩
    refine V.seq ?_
    refine V.seq ?_
    refine V.region ?_
    refine VO.cons rfl (V1.move rfl rfl rfl lt0 ?_)
    refine VO.cons rfl (V1.move rfl rfl rfl lt0 ?_)
    refine VO.cons rfl (V1.lenSref rfl rfl rfl rfl rfl rfl isl_36 lt0 ?_)
    refine VO.cons rfl (V1.int rfl rfl rfl rfl rfl lt0 ?_)
    refine VO.nil ?_
    refine V.cond rfl (fun hc1 => ?_) (fun hc1 => ?_)
    ·
     replace hm1 := cond_t hc1 hm1
     refine V.skip ?_
     refine V.keep 42 [0, 1, 5, 6] [0] (E0 := [(0, .sref oq 1 0 (List.length s1)), (1, .fn f1 cs1), (5, .int .i64 i0), (6, .int .i64 j_)]) (H0 := [(oq, ⟨1, List.map encInt s1⟩)]) rfl (⟨_, _, rfl, rfl, ⟨_, _, rfl, rfl, ⟨_, _, rfl, rfl, ⟨_, _, rfl, rfl, rfl⟩⟩⟩⟩) (⟨_, _, rfl, rfl, rfl⟩) rfl ?_
     refine V.seq ?_
     replace hm1 := bindO hm1; rcases hm1 with ⟨j0, hm2, hm1⟩
     refine V.cutT (D := (List Int × Int) × (Unit)) (fun ⟨⟨s2, i1⟩, _⟩ => ⟨42, [(0, .sref oq 1 0 (List.length s2)), (5, .int .i64 i1), (1, .fn f1 cs1), (6, .int .i64 j_)], [(oq, ⟨1, List.map encInt s2⟩)]⟩) (fun ⟨⟨s2, i1⟩, _⟩ => ((s2, i1) = j0)) ?_ ?_
     ·
      refine V.block ?_
      refine V.seq ?_
      replace hm2 := asrt_some hm2; rcases hm2 with ⟨hh1, hm2⟩
      refine V.region ?_
      refine VO.cons rfl (V1.move rfl rfl rfl lt0 ?_)
      refine VO.cons rfl (V1.move rfl rfl rfl lt0 ?_)
      refine VO.cons rfl (V1.indexSr rfl rfl esz_36 rfl rfl hh1 lt0 ?_)
      refine VO.cons rfl (V1.loadMap (k := 0) (f := encInt) rfl rfl tyk_3 rfl rfl (by simpa using natLt hh1.1 hh1.2) rfl lt0 ?_)
      refine VO.cons rfl (V1.assign rfl rfl rfl lt0 ?_)
      refine VO.nil ?_
      refine V.keep 42 [0, 1, 5, 6, 7] [0] (E0 := [(0, .sref oq 1 0 (List.length s1)), (1, .fn f1 cs1), (5, .int .i64 i0), (6, .int .i64 j_), (7, .int .i64 (s1.getD (Int.toNat j_) default))]) (H0 := [(oq, ⟨1, List.map encInt s1⟩)]) rfl (⟨_, _, rfl, rfl, ⟨_, _, rfl, rfl, ⟨_, _, rfl, rfl, ⟨_, _, rfl, rfl, ⟨_, _, rfl, rfl, rfl⟩⟩⟩⟩⟩) (⟨_, _, rfl, rfl, rfl⟩) rfl ?_
      refine V.seq ?_
      replace hm2 := bindO hm2; rcases hm2 with ⟨y2, hh2, hm2⟩
      refine V.region ?_
      refine VO.cons rfl (V1.move rfl rfl rfl lt0 ?_)
      refine VO.cons rfl (V1.move rfl rfl rfl lt0 ?_)
      refine VO.cons rfl (V1.callG (τ := 0) (Bw := []) rfl lt0 (run_callFn rfl rfl rfl hok1 rfl) (.refl _) (Lends.same _) (fun _ h => by cases h) ((hf1 _  _) hh2) (.inl rfl) (.inl rfl) ?_)
      rintro _ _ ⟨rfl, rfl⟩
      refine VO.cons rfl (V1.not rfl rfl rfl lt0 ?_)
      refine VO.nil ?_
      refine V.cond rfl (fun hc2 => ?_) (fun hc2 => ?_)
      ·
       replace hm2 := cond_t hc2 hm2
       refine V.seq ?_
       replace hm2 := asrt_some hm2; rcases hm2 with ⟨hh3, hm2⟩
       refine V.region ?_
       refine VO.cons rfl (V1.move rfl rfl rfl lt0 ?_)
       refine VO.cons rfl (V1.move rfl rfl rfl lt0 ?_)
       refine VO.cons rfl (V1.move rfl rfl rfl lt0 ?_)
       refine VO.cons rfl (V1.indexSr rfl rfl esz_36 rfl rfl hh3 lt0 ?_)
       refine VO.cons rfl (V1.storeMap (k := 0) (f := encInt) (x := (s1.getD (Int.toNat j_) default)) rfl rfl tyk_3 rfl rfl (by simpa using natLt hh3.1 hh3.2) rfl rfl ?_)
       refine VO.weakenK (Keeps.say 0 (y := .sref oq 1 0 (List.length (s1.set (Int.toNat i0) (s1.getD (Int.toNat j_) default)))) rfl (by simp [optS])) ?_
       refine VO.nil ?_
       refine V.keep 42 [0, 1, 5, 6] [0] (E0 := [(0, .sref oq 1 0 (List.length (s1.set (Int.toNat i0) (s1.getD (Int.toNat j_) default)))), (1, .fn f1 cs1), (5, .int .i64 i0), (6, .int .i64 j_)]) (H0 := [(oq, ⟨1, List.map encInt (s1.set (Int.toNat i0) (s1.getD (Int.toNat j_) default))⟩)]) rfl (⟨_, _, rfl, rfl, ⟨_, _, rfl, rfl, ⟨_, _, rfl, rfl, ⟨_, _, rfl, rfl, rfl⟩⟩⟩⟩) (⟨_, _, rfl, rfl, rfl⟩) rfl ?_
       refine V.region ?_
       refine VO.cons rfl (V1.move rfl rfl rfl lt0 ?_)
       refine VO.cons rfl (V1.int rfl rfl rfl rfl rfl lt0 ?_)
       refine VO.cons rfl (V1.assign rfl rfl rfl lt0 ?_)
       refine VO.nil ?_
       exact ⟨(((s1.set (Int.toNat i0) (s1.getD (Int.toNat j_) default)), (IntKind.i64.wrap (i0 + (1 : Int)))), ()), Option.some.inj hm2, Keeps.mk (ks := [0]) rfl ⟨(someSref (by simp)), rfl, rfl, rfl, trivial⟩ (⟨_, _, rfl, rfl, rfl⟩) rfl⟩
      ·
       replace hm2 := cond_f hc2 hm2
       refine V.skip ?_
       exact ⟨((s1, i0), ()), Option.some.inj hm2, Keeps.mk (ks := [0]) rfl ⟨(someSref (by simp)), rfl, rfl, rfl, trivial⟩ (⟨_, _, rfl, rfl, rfl⟩) rfl⟩
     ·
      rintro ⟨⟨s2, i1⟩, _⟩ rfl
      try dsimp only at hm1
      refine V.region ?_
      refine VO.cons rfl (V1.move rfl rfl rfl lt0 ?_)
      refine VO.cons rfl (V1.int rfl rfl rfl rfl rfl lt0 ?_)
      refine VO.cons rfl (V1.assign rfl rfl rfl lt0 ?_)
      refine VO.nil ?_
      exact ⟨(m0, (s2, i1, (IntKind.i64.wrap (j_ + (1 : Int)))), ()), hl1 _ (Option.some.inj hm1).symm, Nat.lt_succ_self _, Keeps.mk (ks := [0]) rfl ⟨(someSref (by simp)), rfl, rfl, rfl, trivial⟩ (⟨_, _, rfl, rfl, rfl⟩) rfl⟩
    ·
     replace hm1 := cond_f hc1 hm1
     refine V.exit ?_
     obtain rfl := hr1 _ (Option.some.inj hm1).symm
     exact ⟨((s1, i0), ()), rfl, Keeps.mk (ks := [0]) rfl ⟨(someSref (by simp)), rfl, trivial⟩ (⟨_, _, rfl, rfl, rfl⟩) rfl⟩
   ·
    rintro ⟨⟨s0, i⟩, _⟩ rfl
    try dsimp only at hm0
    refine V.seq ?_
    replace hm0 := asrt_some hm0; rcases hm0 with ⟨hh4, hm0⟩
    replace hm0 := asrt_some hm0; rcases hm0 with ⟨hh5, hm0⟩
    refine V.region ?_
    refine VO.cons rfl (V1.move rfl rfl rfl lt0 ?_)
    refine VO.cons rfl (V1.move rfl rfl rfl lt0 ?_)
    refine VO.cons rfl (V1.sliceSw (a := i) (c := (((List.length s0) : Nat) : Int)) rfl rfl esz_36 rfl (Bnd.some rfl hh4.1 _) (Bnd.none _ _) hh4 lt0 ?_)
    refine VO.cons rfl (V1.clearSw (k := 0) (f := encInt) (l := s0) (z := (0 : Int)) rfl rfl rfl rfl rfl esz_36 zk_3 .same rfl rfl hh5 ?_)
    refine VO.weakenK (Keeps.say 0 (y := .sref oq 1 0 (List.length (List.take (0 + Int.toNat i) s0 ++ List.replicate (Int.toNat (((List.length s0) : Nat) : Int) - Int.toNat i) (0 : Int) ++ List.drop ((0 + Int.toNat i) + (Int.toNat (((List.length s0) : Nat) : Int) - Int.toNat i)) s0))) rfl (congrArg (PV.sref oq 1 0) (segLen (z := (0 : Int)) hh5))) ?_
    refine VO.nil ?_
    refine V.seq ?_
    replace hm0 := asrt_some hm0; rcases hm0 with ⟨hh6, hm0⟩
    refine V.region ?_
    refine VO.cons rfl (V1.move rfl rfl rfl lt0 ?_)
    refine VO.cons rfl (V1.move rfl rfl rfl lt0 ?_)
    refine VO.cons rfl (V1.sliceSw (a := (0 : Int)) (c := i) rfl rfl esz_36 rfl (Bnd.none _ _) (Bnd.some rfl (Int.le_trans hh6.1 hh6.2.1) _) hh6 lt0 ?_)
    refine VO.cons rfl (V1.assign rfl rfl rfl lt0 ?_)
    refine VO.nil ?_
    replace hm0 := asrt_some hm0; rcases hm0 with ⟨hh7, hm0⟩
    refine V.weakenK (Keeps.cut 4 0 (Int.toNat i - Int.toNat (0 : Int)) (f := encInt) (l := (List.take (0 + Int.toNat i) s0 ++ List.replicate (Int.toNat (((List.length s0) : Nat) : Int) - Int.toNat i) (0 : Int) ++ List.drop ((0 + Int.toNat i) + (Int.toNat (((List.length s0) : Nat) : Int) - Int.toNat i)) s0)) rfl rfl hh7) ?_
    refine V.keep 42 [4] [0] (E0 := [(4, .sref oq 1 0 (List.length (List.take (Int.toNat i - Int.toNat (0 : Int)) (List.take (0 + Int.toNat i) s0 ++ List.replicate (Int.toNat (((List.length s0) : Nat) : Int) - Int.toNat i) (0 : Int) ++ List.drop ((0 + Int.toNat i) + (Int.toNat (((List.length s0) : Nat) : Int) - Int.toNat i)) s0))))]) (H0 := [(oq, ⟨1, List.map encInt (List.take (Int.toNat i - Int.toNat (0 : Int)) (List.take (0 + Int.toNat i) s0 ++ List.replicate (Int.toNat (((List.length s0) : Nat) : Int) - Int.toNat i) (0 : Int) ++ List.drop ((0 + Int.toNat i) + (Int.toNat (((List.length s0) : Nat) : Int) - Int.toNat i)) s0))⟩)]) rfl (⟨_, _, rfl, rfl, rfl⟩) (⟨_, _, rfl, rfl, rfl⟩) rfl ?_
    refine V.ret ?_
    obtain rfl := Option.some.inj hm0
    exact ⟨_, _, ⟨_, _, rfl, rfl, rfl⟩, List.Sublist.refl _, some oq, (fun e => by cases e), rfl, rfl⟩

theorem ok_slices_Sort_int_int {rn : Nat} {oq : Option Nat} {s r : List Int} (h : M.slices_Sort_int_int s = some r) (hoq : oq = none → s = []) : Does Try.prog 79 [optS 1 oq (List.length s)] (optH 1 oq (List.map encInt s)) rn (fun x H => x = .tup [] ∧ H = optH 1 oq (List.map encInt r)) := by
 unfold M.slices_Sort_int_int at h
 obtain ⟨h1, h⟩ := asrt_some h
 obtain rfl := Option.some.inj h; clear h
 exact Does.sortI hoq (fun blk off cap zs w h1 h2 h3 => Go.Proofs.Any.slices_Sort_int Go.Proofs.Try.lays189 blk off cap zs w h1 h2 h3) (fun p cap w => Go.Proofs.Any.slices_Sort_int_none Go.Proofs.Try.lays189 p cap w) h1

theorem ok_impl_RefileTo {ρ0 rn : Nat} {list : List Carton} {file : Int} {id_ : Int} {r : List Carton × Bool} (h : M.impl_RefileTo list file id_ = some r) : Does Try.prog 40 [.vl ρ0 5 (List.map (encCarton ρ0) list), .int .i64 file, .int .i64 id_] [] rn (fun x H => ∃ (ob0_ : Option Nat) (ts_ : List PV) (os_ : List (Nat × Obj')), (ob0_ = none → r.1 = []) ∧ (Deep 1 (fun c_ : Carton => List.map encInt c_.Files) ts_ os_ r.1) ∧ x = .tup [optS 5 ob0_ (List.length r.1), .bool r.2] ∧ H = (optH 5 ob0_ (deepC cellCarton ts_ r.1) ++ os_)) := by
 have hm0 := h; clear h; unfold M.impl_RefileTo at hm0
 try dsimp only at hm0
 refine Does.intro (N := 68) Try.func40 rfl rfl rfl rfl ?_
 intro w0 S0
 refine V.seq ?_
 refine V.region ?_
 refine VO.cons rfl (V1.boxN (n := 1) rfl rfl rfl rfl rfl lt0 ?_)
 intro b0
 refine VO.cons rfl (V1.assign rfl rfl rfl lt0 ?_)
 refine VO.cons rfl (V1.assign rfl rfl rfl lt0 ?_)
 refine VO.nil ?_
 refine V.seq ?_
 replace hm0 := bindO hm0; rcases hm0 with ⟨y0, hh0, hm0⟩
 replace hm0 := bindO hm0; rcases hm0 with ⟨y1, hh1, hm0⟩
 refine V.region ?_
 refine VO.cons rfl (V1.move rfl rfl rfl lt0 ?_)
 refine VO.cons rfl (V1.loadRef (k := 0) rfl rfl tyk_3 rfl rfl rfl rfl rfl lt0 ?_)
 refine VO.cons rfl (V1.call rfl rfl rfl cok_74 rfl (ok_impl_cartonWith hh0) rfl lt0 ?_)
 rintro _ _ ⟨rfl, rfl⟩
 refine VO.cons rfl (V1.move rfl rfl rfl lt0 ?_)
 refine VO.cons rfl (V1.move rfl rfl rfl lt0 ?_)
 refine VO.cons rfl (V1.call rfl rfl rfl cok_65 rfl (ok_impl_cartonAt hh1) rfl lt0 ?_)
 rintro _ _ ⟨rfl, rfl⟩
 refine VO.cons rfl (V1.assign rfl rfl rfl lt0 ?_)
 refine VO.cons rfl (V1.assign rfl rfl rfl lt0 ?_)
 refine VO.nil ?_
 refine V.keep 68 [0, 4, 8, 9] [0] (E0 := [(0, .vl ρ0 5 (List.map (encCarton ρ0) list)), (4, .ref b0 1 0 0), (8, .int .i64 y0), (9, .int .i64 y1)]) (H0 := [(b0, ⟨1, [.int .i64 file]⟩)]) rfl (⟨_, _, rfl, rfl, ⟨_, _, rfl, rfl, ⟨_, _, rfl, rfl, ⟨_, _, rfl, rfl, rfl⟩⟩⟩⟩) (⟨_, _, rfl, rfl, rfl⟩) rfl ?_
 refine V.seq ?_
 refine V.seq ?_
 replace hm0 := bindO hm0; rcases hm0 with ⟨y2, hh2, hm0⟩
 refine V.region ?_
 refine VO.cons rfl (V1.move rfl rfl rfl lt0 ?_)
 refine VO.cons rfl (V1.call rfl rfl rfl cok_45 rfl (ok_impl_AreCartons hh2) rfl lt0 ?_)
 rintro _ _ ⟨rfl, rfl⟩
 refine VO.cons rfl (V1.not rfl rfl rfl lt0 ?_)
 refine VO.cons rfl (V1.move rfl rfl rfl lt0 ?_)
 apply VO.or (n := 2) rfl rfl rfl rfl rfl rfl lt0 (.none rfl)
 ·
  intro hg0
  refine VO.step (.some rfl rfl rfl) (V1.move rfl rfl rfl lt0 ?_)
  refine VO.step (.some rfl rfl rfl) (V1.int rfl rfl rfl rfl rfl lt0 ?_)
  exact VO.nil ⟨rfl, rfl, rfl, rfl, .inr ⟨rfl, .inr ⟨rfl, .inr ⟨rfl, .inl rfl⟩⟩⟩⟩
 refine VO.cons rfl (V1.move rfl rfl rfl lt0 ?_)
 apply VO.or (n := 2) rfl rfl rfl rfl rfl rfl lt0 (.none rfl)
 ·
  intro hg1
  refine VO.step (.some rfl rfl rfl) (V1.move rfl rfl rfl lt0 ?_)
  refine VO.step (.some rfl rfl rfl) (V1.int rfl rfl rfl rfl rfl lt0 ?_)
  exact VO.nil ⟨rfl, rfl, rfl, rfl, .inr ⟨rfl, .inr ⟨rfl, .inr ⟨rfl, .inl rfl⟩⟩⟩⟩
 refine VO.cons rfl (V1.move rfl rfl rfl lt0 ?_)
 apply VO.or (n := 3) rfl rfl rfl rfl rfl rfl lt0 (.none rfl)
 ·
  intro hg2
  refine VO.step (.some rfl rfl rfl) (V1.move rfl rfl rfl lt0 ?_)
  refine VO.step (.some rfl rfl rfl) (V1.move rfl rfl rfl lt0 ?_)
  refine VO.step (.some rfl rfl rfl) (V1.int rfl rfl rfl rfl rfl lt0 ?_)
  exact VO.nil ⟨rfl, rfl, rfl, rfl, .inr ⟨rfl, .inr ⟨rfl, .inr ⟨rfl, .inr ⟨rfl, .inl rfl⟩⟩⟩⟩⟩
 refine VO.nil ?_
 refine V.keep 68 [0, 4, 8, 9, 32] [0] (E0 := [(0, .vl ρ0 5 (List.map (encCarton ρ0) list)), (4, .ref b0 1 0 0), (8, .int .i64 y0), (9, .int .i64 y1), (32, .bool ((((!y2) || (decide (y0 < (0 : Int)))) || (decide (y1 < (0 : Int)))) || (y0 == y1)))]) (H0 := [(b0, ⟨1, [.int .i64 file]⟩)]) rfl (⟨_, _, rfl, rfl, ⟨_, _, rfl, rfl, ⟨_, _, rfl, rfl, ⟨_, _, rfl, rfl, ⟨_, _, rfl, rfl, rfl⟩⟩⟩⟩⟩) (⟨_, _, rfl, rfl, rfl⟩) rfl ?_
 refine V.cond rfl (fun hc0 => ?_) (fun hc0 => ?_)
 ·
  replace hm0 := cond_t hc0 hm0
  refine V.seq ?_
  refine V.region ?_
  refine VO.cons rfl (V1.assign rfl rfl rfl lt0 ?_)
  refine VO.cons rfl (V1.assign rfl rfl rfl lt0 ?_)
  refine VO.nil ?_
  refine V.keep 68 [6, 7] [] (E0 := [(6, .nils), (7, .bool false)]) (H0 := []) rfl (⟨_, _, rfl, rfl, ⟨_, _, rfl, rfl, rfl⟩⟩) (rfl) rfl ?_
  refine V.ret ?_
  obtain rfl := Option.some.inj hm0
  exact ⟨_, _, ⟨_, _, rfl, rfl, ⟨_, _, rfl, rfl, rfl⟩⟩, List.Sublist.refl _, none, [], [], (fun _ => rfl), (Deep.ofNil rfl), rfl, rfl⟩
 ·
  replace hm0 := cond_f hc0 hm0
  refine V.skip ?_
  refine V.seq ?_
  replace hm0 := bindO hm0; rcases hm0 with ⟨y3, hh3, hm0⟩
  refine V.region ?_
  refine VO.cons rfl (V1.move rfl rfl rfl lt0 ?_)
  refine VO.cons rfl (V1.permK (V1.call rfl rfl rfl cok_66 rfl (ok_impl_copyCartons hh3) rfl lt0 ?_))
  rintro _ _ ⟨ob0, ts_73, os_73, hob0, hd_73, rfl, rfl⟩
  refine ⟨_, ?_, Keeps.perm (optH 5 ob0 (deepC cellCarton ts_73 y3) ++ (([(b0, ⟨1, [.int .i64 file]⟩)] : List (Nat × Obj')) ++ os_73)) (permDeepO1 (o := optH 5 ob0 (deepC cellCarton ts_73 y3)) (os := os_73) (A := [(b0, ⟨1, [.int .i64 file]⟩)]))⟩
  refine VO.cons rfl (V1.assign rfl rfl rfl lt0 ?_)
  refine VO.nil ?_
  rcases ob0 with _ | ob0
  ·
   obtain ⟨rfl, rfl⟩ := Deep.nil (hob0 rfl) hd_73
   refine V.seq ?_
   replace hm0 := asrt_some hm0; rcases hm0 with ⟨hh4, hm0⟩
   refine V.region ?_
   refine VO.cons rfl (V1.move rfl rfl rfl lt0 ?_)
   refine VO.cons rfl (V1.move rfl rfl rfl lt0 ?_)
   refine VO.cons rfl (V1.move rfl rfl rfl lt0 ?_)
   refine VO.cons rfl (V1.move rfl rfl rfl lt0 ?_)
   refine VO.weakenK (Keeps.nilsE (l := y3) 37 rn 5 (encCarton rn) (hob0 rfl) rfl rfl) ?_
   refine VO.cons rfl (V1.indexI rfl rfl esz_39 rfl rfl hh4 lt0 ?_)
   refine VO.cons rfl (V1.fieldPin rfl rfl fo_67_3 rfl lt0 ?_)
   exact (nilsNo (hob0 rfl) hh4).elim
  ·
   refine V.seq ?_
   replace hm0 := asrt_some hm0; rcases hm0 with ⟨hh4, hm0⟩
   replace hm0 := bindO hm0; rcases hm0 with ⟨y4, hh5, hm0⟩
   replace hm0 := asrt_some hm0; rcases hm0 with ⟨hh6, hm0⟩
   refine V.region ?_
   refine VO.cons rfl (V1.move rfl rfl rfl lt0 ?_)
   refine VO.cons rfl (V1.move rfl rfl rfl lt0 ?_)
   refine VO.cons rfl (V1.move rfl rfl rfl lt0 ?_)
   refine VO.cons rfl (V1.move rfl rfl rfl lt0 ?_)
   refine VO.cons rfl (V1.indexSr rfl rfl esz_39 rfl rfl hh4 lt0 ?_)
   refine VO.cons rfl (V1.fieldRef rfl rfl fo_67_3 rfl lt0 ?_)
   refine VO.cons rfl (V1.loadDeepIn (inn := (fun c_ : Carton => List.map encInt c_.Files)) (cell := cellCarton) (ts := ts_73) (xs := y3) (k := 0) cokCarton rfl rfl tyk_36 rfl rfl hd_73 (by simpa using natLt hh4.1 hh4.2) lt0 ?_)
   refine VO.cons rfl (V1.makeFunc rfl rfl rfl lt0 ?_)
   obtain ⟨ob_105, os1_105, os2_105, hob_105, ht_105, hos_105, hp_105, hs_105⟩ := Deep.focusM (f := encInt) (g := (fun c_ : Carton => c_.Files)) (Int.toNat y0) hd_73 (by simpa using natLt hh4.1 hh4.2)
   refine VO.weakenK (Keeps.say 41 (y := optS 1 ob_105 (List.length ((y3.getD (Int.toNat y0) default).Files))) rfl ht_105) ?_
   refine VO.cons rfl (V1.permK (V1.callE (A := [(ob0, ⟨5, deepC cellCarton ts_73 y3⟩), (b0, ⟨1, [.int .i64 file]⟩)]) (os1 := os1_105) (os2 := os2_105) (Hc := optH 1 ob_105 (List.map encInt ((y3.getD (Int.toNat y0) default).Files))) rfl rfl rfl cok_82 rfl (appEq (A := [(ob0, ⟨5, deepC cellCarton ts_73 y3⟩), (b0, ⟨1, [.int .i64 file]⟩)]) hos_105) (rn + 1) [b0] [optS 1 ob_105 (List.length ((y3.getD (Int.toNat y0) default).Files)), .fn 83 [.pin (rn + 1) (.int .i64 file) 0]] ⟨_, _, rfl, .same _, ⟨_, _, rfl, Lend.fn ⟨_, _, rfl, Lend.ref 1 rfl rfl rfl rfl (.head _), rfl⟩, rfl⟩⟩ (bwCons (k := 1) rfl bwNil) (ok_slices_DeleteFunc_int_int hh5 (oq := ob_105) hob_105 (fm := (fun x0 => M.impl_RefileTo_1 x0 file)) cok_83 (fun _ _ h => ok_impl_RefileTo_1 h)) rfl (.inr ⟨(by first | omega | (dsimp only; omega)), by rintro _ _ ⟨ob1, hob1, rfl, rfl⟩; exact ⟨by simp [PV.no, PV.noL, optS_no, noL_iff, nbeq] <;> omega, by intro b ob h; first | exact optH_no (noL_map (fun _ => by simp [PV.no, PV.noL, noL_iff, nbeq]) _) b ob h | (simp only [List.append_assoc, List.mem_append, List.mem_cons, List.mem_singleton, List.not_mem_nil, or_false, Prod.mk.injEq] at h; rcases h with ⟨rfl, rfl⟩ | ⟨rfl, rfl⟩ <;> first | exact noL_map (fun _ => by simp [PV.no, PV.noL, noL_iff, nbeq]) _ | (simp [PV.no, PV.noL, optS_no, noL_iff, nbeq] <;> omega)) | (simp at h; obtain ⟨rfl, rfl⟩ := h; exact noL_map (fun _ => by simp [PV.no, PV.noL, noL_iff, nbeq]) _) | (simp at h; obtain ⟨rfl, rfl⟩ := h; simp [PV.no, PV.noL, optS_no, noL_iff, nbeq] <;> omega)⟩⟩) lt0 ?_))
   rintro _ _ ⟨ob1, hob1, rfl, rfl⟩
   refine ⟨_, ?_, Keeps.optBack (n := 1) (ob := ob1) (xs := List.map encInt y4) (H1 := []) (H2 := (([(ob0, ⟨5, deepC cellCarton ts_73 y3⟩), (b0, ⟨1, [.int .i64 file]⟩)] : List (Nat × Obj')) ++ (os1_105 ++ os2_105))) rfl⟩
   refine VO.cons rfl (V1.indexSr rfl rfl esz_39 rfl rfl hh6 lt0 ?_)
   refine VO.cons rfl (V1.fieldRef rfl rfl fo_67_3 rfl lt0 ?_)
   refine VO.cons rfl (V1.storeDeepIn (inn := (fun c_ : Carton => List.map encInt c_.Files)) (cell := cellCarton) (ts := ts_73) (xs := y3) (k := 0) cokCarton (⟨(y3.getD (Int.toNat y0) default).Id, (y3.getD (Int.toNat y0) default).Shelf, (y3.getD (Int.toNat y0) default).Room, y4, (y3.getD (Int.toNat y0) default).Thick⟩ : Carton) rfl rfl tyk_36 rfl rfl (Deep.length hd_73) (by rw [ht_105]; cases ob_105 <;> exact ⟨rfl, rfl⟩) (by simpa using natLt hh6.1 hh6.2) rfl (by cases ob1 <;> rfl) (by cases ob1 <;> rfl) rfl rfl ?_)
   refine VO.weakenK (Keeps.fillDeep (A := [(ob0, ⟨5, deepC cellCarton (List.set ts_73 (Int.toNat y0) (optS 1 ob1 (List.length y4))) (y3.set (Int.toNat y0) (⟨(y3.getD (Int.toNat y0) default).Id, (y3.getD (Int.toNat y0) default).Shelf, (y3.getD (Int.toNat y0) default).Room, y4, (y3.getD (Int.toNat y0) default).Thick⟩ : Carton))⟩), (b0, ⟨1, [.int .i64 file]⟩)]) (os1 := os1_105) (os2 := os2_105) (X := optH 1 ob1 (List.map encInt y4)) rfl) ?_
   have hd_105n := hp_105 (optS 1 ob1 (List.length y4)) (optH 1 ob1 (List.map encInt y4)) (⟨(y3.getD (Int.toNat y0) default).Id, (y3.getD (Int.toNat y0) default).Shelf, (y3.getD (Int.toNat y0) default).Room, y4, (y3.getD (Int.toNat y0) default).Thick⟩ : Carton) (Deep1.opt (by simp) (fun e_ => by rw [hob1 e_]; rfl))
   refine VO.weakenK (Keeps.say 10 (y := .sref ob0 5 0 (List.length (y3.set (Int.toNat y0) (⟨(y3.getD (Int.toNat y0) default).Id, (y3.getD (Int.toNat y0) default).Shelf, (y3.getD (Int.toNat y0) default).Room, y4, (y3.getD (Int.toNat y0) default).Thick⟩ : Carton)))) rfl (by simp [optS])) ?_
   refine VO.nil ?_
   refine V.keepT 68 [4, 9, 10] [0, 1] (E0 := [(4, .ref b0 1 0 0), (9, .int .i64 y1), (10, .sref ob0 5 0 (List.length (y3.set (Int.toNat y0) (⟨(y3.getD (Int.toNat y0) default).Id, (y3.getD (Int.toNat y0) default).Shelf, (y3.getD (Int.toNat y0) default).Room, y4, (y3.getD (Int.toNat y0) default).Thick⟩ : Carton))))]) (A := [(ob0, ⟨5, deepC cellCarton (List.set ts_73 (Int.toNat y0) (optS 1 ob1 (List.length y4))) (y3.set (Int.toNat y0) (⟨(y3.getD (Int.toNat y0) default).Id, (y3.getD (Int.toNat y0) default).Shelf, (y3.getD (Int.toNat y0) default).Room, y4, (y3.getD (Int.toNat y0) default).Thick⟩ : Carton))⟩), (b0, ⟨1, [.int .i64 file]⟩)]) (T := (os1_105 ++ (optH 1 ob1 (List.map encInt y4) ++ os2_105))) (H0 := [(ob0, ⟨5, deepC cellCarton (List.set ts_73 (Int.toNat y0) (optS 1 ob1 (List.length y4))) (y3.set (Int.toNat y0) (⟨(y3.getD (Int.toNat y0) default).Id, (y3.getD (Int.toNat y0) default).Shelf, (y3.getD (Int.toNat y0) default).Room, y4, (y3.getD (Int.toNat y0) default).Thick⟩ : Carton))⟩), (b0, ⟨1, [.int .i64 file]⟩)]) (T' := (os1_105 ++ (optH 1 ob1 (List.map encInt y4) ++ os2_105))) rfl (⟨_, _, rfl, rfl, ⟨_, _, rfl, rfl, ⟨_, _, rfl, rfl, rfl⟩⟩⟩) rfl (⟨_, _, rfl, rfl, ⟨_, _, rfl, rfl, rfl⟩⟩) rfl (List.Sublist.refl _) ?_
   refine V.seq ?_
   replace hm0 := asrt_some hm0; rcases hm0 with ⟨hh7, hm0⟩
   obtain ⟨ob_108, os1_108, os2_108, hob_108, ht_108, hos_108, hp_108, hs_108⟩ := Deep.focusM (f := encInt) (g := (fun c_ : Carton => c_.Files)) (Int.toNat y1) hd_105n (by simpa using natLt hh7.1 hh7.2)
   refine V.weakenK (Keeps.holeBack (A := [(ob0, ⟨5, deepC cellCarton (List.set ts_73 (Int.toNat y0) (optS 1 ob1 (List.length y4))) (y3.set (Int.toNat y0) (⟨(y3.getD (Int.toNat y0) default).Id, (y3.getD (Int.toNat y0) default).Shelf, (y3.getD (Int.toNat y0) default).Room, y4, (y3.getD (Int.toNat y0) default).Thick⟩ : Carton))⟩), (b0, ⟨1, [.int .i64 file]⟩)]) (os1 := os1_108) (os2 := os2_108) (X := optH 1 ob_108 (List.map encInt (((y3.set (Int.toNat y0) (⟨(y3.getD (Int.toNat y0) default).Id, (y3.getD (Int.toNat y0) default).Shelf, (y3.getD (Int.toNat y0) default).Room, y4, (y3.getD (Int.toNat y0) default).Thick⟩ : Carton)).getD (Int.toNat y1) default).Files))) (appEq (A := [(ob0, ⟨5, deepC cellCarton (List.set ts_73 (Int.toNat y0) (optS 1 ob1 (List.length y4))) (y3.set (Int.toNat y0) (⟨(y3.getD (Int.toNat y0) default).Id, (y3.getD (Int.toNat y0) default).Shelf, (y3.getD (Int.toNat y0) default).Room, y4, (y3.getD (Int.toNat y0) default).Thick⟩ : Carton))⟩), (b0, ⟨1, [.int .i64 file]⟩)]) hos_108)) ?_
   replace hm0 := asrt_some hm0; rcases hm0 with ⟨hh8, hm0⟩
   replace hm0 := asrt_some hm0; rcases hm0 with ⟨hh9, hm0⟩
   replace hm0 := asrt_some hm0; rcases hm0 with ⟨hh10, hm0⟩
   replace hm0 := bindO hm0; rcases hm0 with ⟨j0, hm1, hm0⟩
   refine V.cutT (D := (List Carton) × (List PV × (List (Nat × Obj')))) (fun ⟨out_, ⟨ts_122, os_122⟩⟩ => ⟨68, [(10, .sref ob0 5 0 (List.length out_)), (9, .int .i64 y1)], ([(ob0, ⟨5, deepC cellCarton ts_122 out_⟩)]) ++ os_122⟩) (fun ⟨out_, ⟨ts_122, os_122⟩⟩ => (out_ = j0) ∧ Deep 1 (fun c_ : Carton => List.map encInt c_.Files) ts_122 os_122 out_) ?_ ?_
   ·
    refine V.regionS [(b0, ⟨1, [.int .i64 file]⟩)] 68 10 [⟨[(10, none)], false⟩, ⟨[(9, none)], false⟩, ⟨[(10, none)], false⟩, ⟨[(9, none)], false⟩, ⟨[(48, some 2), (49, some 3)], false⟩, ⟨[(50, some 4)], false⟩, ⟨[(51, some 5)], true⟩, ⟨[(4, none)], false⟩, ⟨[(53, some 7)], true⟩, ⟨[(52, some 6), (54, some 8)], true⟩] [(9, none), (10, none), (46, some 0), (47, some 1), (55, some 9)] 3 (⟨_, rfl, ⟨_, rfl, ⟨_, rfl, ⟨_, rfl, ⟨_, rfl, ⟨_, rfl, ⟨_, rfl, ⟨_, rfl, ⟨_, rfl, ⟨_, rfl, ⟨rfl, rfl⟩⟩⟩⟩⟩⟩⟩⟩⟩⟩⟩) mixed_orders rfl (by decide +kernel) ?_
    refine WalkP.step (p := ?pv124) 0 rfl rfl rfl rfl rfl (⟨_, _, rfl, rfl, rfl⟩) ?hv124 ?rest124
    case hv124 =>
     intro E1 H1 hI1
     refine (V1.move rfl rfl rfl lt0 ?_)
     exact rfl
    refine WalkP.step (p := ?pv125) 1 rfl rfl rfl rfl rfl (⟨_, _, rfl, rfl, rfl⟩) ?hv125 ?rest125
    case hv125 =>
     intro E1 H1 hI1
     refine (V1.move rfl rfl rfl lt0 ?_)
     exact rfl
    refine WalkP.step (p := ?pv126) 2 rfl rfl rfl rfl rfl (⟨_, _, rfl, rfl, rfl⟩) ?hv126 ?rest126
    case hv126 =>
     intro E1 H1 hI1
     refine (V1.move rfl rfl rfl lt0 ?_)
     exact rfl
    refine WalkP.step (p := ?pv127) 3 rfl rfl rfl rfl rfl (⟨_, _, rfl, rfl, rfl⟩) ?hv127 ?rest127
    case hv127 =>
     intro E1 H1 hI1
     refine (V1.move rfl rfl rfl lt0 ?_)
     exact rfl
    refine WalkP.step (p := ?pv128) 4 rfl rfl rfl rfl rfl (⟨_, _, rfl, rfl, ⟨_, _, rfl, rfl, rfl⟩⟩) ?hv128 ?rest128
    case hv128 =>
     intro E1 H1 hI1
     refine (V1.indexSr rfl rfl esz_39 rfl rfl hh8 lt0 ?_)
     exact rfl
    refine WalkP.step (p := ?pv129) 5 rfl rfl rfl rfl rfl (⟨_, _, rfl, rfl, rfl⟩) ?hv129 ?rest129
    case hv129 =>
     intro E1 H1 hI1
     refine (V1.fieldRef rfl rfl fo_67_3 rfl lt0 ?_)
     exact rfl
    refine WalkP.step (p := ?pv130) 7 rfl rfl rfl rfl rfl (⟨_, _, rfl, rfl, rfl⟩) ?hv130 ?rest130
    case hv130 =>
     intro E1 H1 hI1
     obtain ⟨k131_, hk131_⟩ := inGet 0 rfl hI1
     refine (V1.loadRef (k := k131_) rfl rfl tyk_3 rfl hk131_ rfl rfl rfl lt0 ?_)
     exact rfl
    refine WalkP.nil ?_
    refine NodeS.branch [6, 8] (inCons 1 rfl inNil) rfl rfl rfl ⟨?_, ?_, trivial⟩
    ·
     refine ⟨_, _, _, _, rfl, rfl, rfl, (⟨_, _, rfl, rfl, rfl⟩), fun E1 => ?_⟩
     refine (V1.loadKnown (inn := (fun c_ : Carton => List.map encInt c_.Files)) (cell := cellCarton) (ts := (List.set ts_73 (Int.toNat y0) (optS 1 ob1 (List.length y4)))) (xs := (y3.set (Int.toNat y0) (⟨(y3.getD (Int.toNat y0) default).Id, (y3.getD (Int.toNat y0) default).Shelf, (y3.getD (Int.toNat y0) default).Room, y4, (y3.getD (Int.toNat y0) default).Thick⟩ : Carton))) (k := 0) cokCarton rfl rfl tyk_36 rfl rfl (Deep.length hd_105n) (by simpa using natLt hh8.1 hh8.2) ht_108 optS_cells lt0 ?_)
     refine ⟨_, _, rfl, ?_⟩
     refine WalkP.nil ?_
     refine NodeS.branch [8] (inCons 1 rfl inNil) rfl rfl rfl ⟨?_, trivial⟩
     ·
      refine ⟨_, _, _, _, rfl, rfl, rfl, (⟨_, _, rfl, rfl, rfl⟩), fun E1 => ?_⟩
      refine (V1.buildSliceT (f := encInt) ([file] : List Int) rfl rfl esz_36 zk_3 rfl rfl rfl rfl rfl rfl rfl lt0 ?_)
      intro b3
      refine ⟨_, _, rfl, ?_⟩
      refine WalkP.nil ?_
      refine NodeS.branch [9] (inCons 2 rfl inNil) rfl rfl rfl ⟨?_, trivial⟩
      ·
       refine ⟨_, _, _, _, rfl, rfl, rfl, (⟨_, _, rfl, rfl, ⟨_, _, rfl, rfl, rfl⟩⟩), fun E1 => ?_⟩
       refine (V1.appendOpt (f := encInt) (l := ((y3.set (Int.toNat y0) (⟨(y3.getD (Int.toNat y0) default).Id, (y3.getD (Int.toNat y0) default).Shelf, (y3.getD (Int.toNat y0) default).Room, y4, (y3.getD (Int.toNat y0) default).Thick⟩ : Carton)).getD (Int.toNat y1) default).Files) (m := ([file] : List Int)) (([(b3, ⟨1, List.map encInt ([file] : List Int)⟩), (ob0, ⟨5, deepC cellCarton (List.set ts_73 (Int.toNat y0) (optS 1 ob1 (List.length y4))) (y3.set (Int.toNat y0) (⟨(y3.getD (Int.toNat y0) default).Id, (y3.getD (Int.toNat y0) default).Shelf, (y3.getD (Int.toNat y0) default).Room, y4, (y3.getD (Int.toNat y0) default).Thick⟩ : Carton))⟩), (b0, ⟨1, [.int .i64 file]⟩)] : List (Nat × Obj')) ++ (os1_108 ++ os2_108)) hob_108 rfl rfl rfl rfl rfl esz_36 eby_36 zk_3 rfl rfl rfl rfl (SrcOf.srMap (k := 0) rfl isl_36) rfl hh9 lt0 ?_)
       intro b4
       refine ⟨_, _, rfl, ?_⟩
       refine WalkP.nil ?_
       refine NodeS.fin (inCons 3 rfl inNil) rfl rfl rfl (⟨_, _, rfl, rfl, ⟨_, _, rfl, rfl, ⟨_, _, rfl, rfl, ⟨_, _, rfl, rfl, ⟨_, _, rfl, rfl, rfl⟩⟩⟩⟩⟩) ?_
       refine VO.cons rfl (V1.indexSr rfl rfl esz_39 rfl rfl hh10 lt0 ?_)
       refine VO.cons rfl (V1.fieldRef rfl rfl fo_67_3 rfl lt0 ?_)
       refine VO.cons rfl (V1.storeDeepIn (inn := (fun c_ : Carton => List.map encInt c_.Files)) (cell := cellCarton) (ts := (List.set ts_73 (Int.toNat y0) (optS 1 ob1 (List.length y4)))) (xs := (y3.set (Int.toNat y0) (⟨(y3.getD (Int.toNat y0) default).Id, (y3.getD (Int.toNat y0) default).Shelf, (y3.getD (Int.toNat y0) default).Room, y4, (y3.getD (Int.toNat y0) default).Thick⟩ : Carton))) (k := 2) cokCarton (⟨((y3.set (Int.toNat y0) (⟨(y3.getD (Int.toNat y0) default).Id, (y3.getD (Int.toNat y0) default).Shelf, (y3.getD (Int.toNat y0) default).Room, y4, (y3.getD (Int.toNat y0) default).Thick⟩ : Carton)).getD (Int.toNat y1) default).Id, ((y3.set (Int.toNat y0) (⟨(y3.getD (Int.toNat y0) default).Id, (y3.getD (Int.toNat y0) default).Shelf, (y3.getD (Int.toNat y0) default).Room, y4, (y3.getD (Int.toNat y0) default).Thick⟩ : Carton)).getD (Int.toNat y1) default).Shelf, ((y3.set (Int.toNat y0) (⟨(y3.getD (Int.toNat y0) default).Id, (y3.getD (Int.toNat y0) default).Shelf, (y3.getD (Int.toNat y0) default).Room, y4, (y3.getD (Int.toNat y0) default).Thick⟩ : Carton)).getD (Int.toNat y1) default).Room, ((((y3.set (Int.toNat y0) (⟨(y3.getD (Int.toNat y0) default).Id, (y3.getD (Int.toNat y0) default).Shelf, (y3.getD (Int.toNat y0) default).Room, y4, (y3.getD (Int.toNat y0) default).Thick⟩ : Carton)).getD (Int.toNat y1) default).Files) ++ ([file] : List Int)), ((y3.set (Int.toNat y0) (⟨(y3.getD (Int.toNat y0) default).Id, (y3.getD (Int.toNat y0) default).Shelf, (y3.getD (Int.toNat y0) default).Room, y4, (y3.getD (Int.toNat y0) default).Thick⟩ : Carton)).getD (Int.toNat y1) default).Thick⟩ : Carton) rfl rfl tyk_36 rfl rfl (Deep.length hd_105n) (by rw [ht_108]; cases ob_108 <;> exact ⟨rfl, rfl⟩) (by simpa using natLt hh10.1 hh10.2) rfl rfl rfl rfl rfl ?_)
       refine VO.weakenK (Keeps.putDeep 0 (A := [(b4, ⟨1, List.map encInt ((((y3.set (Int.toNat y0) (⟨(y3.getD (Int.toNat y0) default).Id, (y3.getD (Int.toNat y0) default).Shelf, (y3.getD (Int.toNat y0) default).Room, y4, (y3.getD (Int.toNat y0) default).Thick⟩ : Carton)).getD (Int.toNat y1) default).Files) ++ ([file] : List Int))⟩), (b3, ⟨1, List.map encInt ([file] : List Int)⟩), (ob0, ⟨5, deepC cellCarton (List.set (List.set ts_73 (Int.toNat y0) (optS 1 ob1 (List.length y4))) (Int.toNat y1) (.sref b4 1 0 (List.length ((((y3.set (Int.toNat y0) (⟨(y3.getD (Int.toNat y0) default).Id, (y3.getD (Int.toNat y0) default).Shelf, (y3.getD (Int.toNat y0) default).Room, y4, (y3.getD (Int.toNat y0) default).Thick⟩ : Carton)).getD (Int.toNat y1) default).Files) ++ ([file] : List Int))))) ((y3.set (Int.toNat y0) (⟨(y3.getD (Int.toNat y0) default).Id, (y3.getD (Int.toNat y0) default).Shelf, (y3.getD (Int.toNat y0) default).Room, y4, (y3.getD (Int.toNat y0) default).Thick⟩ : Carton)).set (Int.toNat y1) (⟨((y3.set (Int.toNat y0) (⟨(y3.getD (Int.toNat y0) default).Id, (y3.getD (Int.toNat y0) default).Shelf, (y3.getD (Int.toNat y0) default).Room, y4, (y3.getD (Int.toNat y0) default).Thick⟩ : Carton)).getD (Int.toNat y1) default).Id, ((y3.set (Int.toNat y0) (⟨(y3.getD (Int.toNat y0) default).Id, (y3.getD (Int.toNat y0) default).Shelf, (y3.getD (Int.toNat y0) default).Room, y4, (y3.getD (Int.toNat y0) default).Thick⟩ : Carton)).getD (Int.toNat y1) default).Shelf, ((y3.set (Int.toNat y0) (⟨(y3.getD (Int.toNat y0) default).Id, (y3.getD (Int.toNat y0) default).Shelf, (y3.getD (Int.toNat y0) default).Room, y4, (y3.getD (Int.toNat y0) default).Thick⟩ : Carton)).getD (Int.toNat y1) default).Room, ((((y3.set (Int.toNat y0) (⟨(y3.getD (Int.toNat y0) default).Id, (y3.getD (Int.toNat y0) default).Shelf, (y3.getD (Int.toNat y0) default).Room, y4, (y3.getD (Int.toNat y0) default).Thick⟩ : Carton)).getD (Int.toNat y1) default).Files) ++ ([file] : List Int)), ((y3.set (Int.toNat y0) (⟨(y3.getD (Int.toNat y0) default).Id, (y3.getD (Int.toNat y0) default).Shelf, (y3.getD (Int.toNat y0) default).Room, y4, (y3.getD (Int.toNat y0) default).Thick⟩ : Carton)).getD (Int.toNat y1) default).Thick⟩ : Carton))⟩), (b0, ⟨1, [.int .i64 file]⟩)]) (A' := [(b3, ⟨1, List.map encInt ([file] : List Int)⟩), (ob0, ⟨5, deepC cellCarton (List.set (List.set ts_73 (Int.toNat y0) (optS 1 ob1 (List.length y4))) (Int.toNat y1) (.sref b4 1 0 (List.length ((((y3.set (Int.toNat y0) (⟨(y3.getD (Int.toNat y0) default).Id, (y3.getD (Int.toNat y0) default).Shelf, (y3.getD (Int.toNat y0) default).Room, y4, (y3.getD (Int.toNat y0) default).Thick⟩ : Carton)).getD (Int.toNat y1) default).Files) ++ ([file] : List Int))))) ((y3.set (Int.toNat y0) (⟨(y3.getD (Int.toNat y0) default).Id, (y3.getD (Int.toNat y0) default).Shelf, (y3.getD (Int.toNat y0) default).Room, y4, (y3.getD (Int.toNat y0) default).Thick⟩ : Carton)).set (Int.toNat y1) (⟨((y3.set (Int.toNat y0) (⟨(y3.getD (Int.toNat y0) default).Id, (y3.getD (Int.toNat y0) default).Shelf, (y3.getD (Int.toNat y0) default).Room, y4, (y3.getD (Int.toNat y0) default).Thick⟩ : Carton)).getD (Int.toNat y1) default).Id, ((y3.set (Int.toNat y0) (⟨(y3.getD (Int.toNat y0) default).Id, (y3.getD (Int.toNat y0) default).Shelf, (y3.getD (Int.toNat y0) default).Room, y4, (y3.getD (Int.toNat y0) default).Thick⟩ : Carton)).getD (Int.toNat y1) default).Shelf, ((y3.set (Int.toNat y0) (⟨(y3.getD (Int.toNat y0) default).Id, (y3.getD (Int.toNat y0) default).Shelf, (y3.getD (Int.toNat y0) default).Room, y4, (y3.getD (Int.toNat y0) default).Thick⟩ : Carton)).getD (Int.toNat y1) default).Room, ((((y3.set (Int.toNat y0) (⟨(y3.getD (Int.toNat y0) default).Id, (y3.getD (Int.toNat y0) default).Shelf, (y3.getD (Int.toNat y0) default).Room, y4, (y3.getD (Int.toNat y0) default).Thick⟩ : Carton)).getD (Int.toNat y1) default).Files) ++ ([file] : List Int)), ((y3.set (Int.toNat y0) (⟨(y3.getD (Int.toNat y0) default).Id, (y3.getD (Int.toNat y0) default).Shelf, (y3.getD (Int.toNat y0) default).Room, y4, (y3.getD (Int.toNat y0) default).Thick⟩ : Carton)).getD (Int.toNat y1) default).Thick⟩ : Carton))⟩), (b0, ⟨1, [.int .i64 file]⟩)]) (os := (os1_108 ++ os2_108)) (os1 := os1_108) (oi := []) (os2 := os2_108) (p := (b4, ⟨1, List.map encInt ((((y3.set (Int.toNat y0) (⟨(y3.getD (Int.toNat y0) default).Id, (y3.getD (Int.toNat y0) default).Shelf, (y3.getD (Int.toNat y0) default).Room, y4, (y3.getD (Int.toNat y0) default).Thick⟩ : Carton)).getD (Int.toNat y1) default).Files) ++ ([file] : List Int))⟩)) rfl rfl rfl rfl) ?_
       have hd_108n := hp_108 (.sref b4 1 0 (List.length ((((y3.set (Int.toNat y0) (⟨(y3.getD (Int.toNat y0) default).Id, (y3.getD (Int.toNat y0) default).Shelf, (y3.getD (Int.toNat y0) default).Room, y4, (y3.getD (Int.toNat y0) default).Thick⟩ : Carton)).getD (Int.toNat y1) default).Files) ++ ([file] : List Int)))) [(b4, ⟨1, List.map encInt ((((y3.set (Int.toNat y0) (⟨(y3.getD (Int.toNat y0) default).Id, (y3.getD (Int.toNat y0) default).Shelf, (y3.getD (Int.toNat y0) default).Room, y4, (y3.getD (Int.toNat y0) default).Thick⟩ : Carton)).getD (Int.toNat y1) default).Files) ++ ([file] : List Int))⟩)] (⟨((y3.set (Int.toNat y0) (⟨(y3.getD (Int.toNat y0) default).Id, (y3.getD (Int.toNat y0) default).Shelf, (y3.getD (Int.toNat y0) default).Room, y4, (y3.getD (Int.toNat y0) default).Thick⟩ : Carton)).getD (Int.toNat y1) default).Id, ((y3.set (Int.toNat y0) (⟨(y3.getD (Int.toNat y0) default).Id, (y3.getD (Int.toNat y0) default).Shelf, (y3.getD (Int.toNat y0) default).Room, y4, (y3.getD (Int.toNat y0) default).Thick⟩ : Carton)).getD (Int.toNat y1) default).Shelf, ((y3.set (Int.toNat y0) (⟨(y3.getD (Int.toNat y0) default).Id, (y3.getD (Int.toNat y0) default).Shelf, (y3.getD (Int.toNat y0) default).Room, y4, (y3.getD (Int.toNat y0) default).Thick⟩ : Carton)).getD (Int.toNat y1) default).Room, ((((y3.set (Int.toNat y0) (⟨(y3.getD (Int.toNat y0) default).Id, (y3.getD (Int.toNat y0) default).Shelf, (y3.getD (Int.toNat y0) default).Room, y4, (y3.getD (Int.toNat y0) default).Thick⟩ : Carton)).getD (Int.toNat y1) default).Files) ++ ([file] : List Int)), ((y3.set (Int.toNat y0) (⟨(y3.getD (Int.toNat y0) default).Id, (y3.getD (Int.toNat y0) default).Shelf, (y3.getD (Int.toNat y0) default).Room, y4, (y3.getD (Int.toNat y0) default).Thick⟩ : Carton)).getD (Int.toNat y1) default).Thick⟩ : Carton) (Deep1.own (by simp))
       refine VO.weakenK (Keeps.say 10 (y := .sref ob0 5 0 (List.length ((y3.set (Int.toNat y0) (⟨(y3.getD (Int.toNat y0) default).Id, (y3.getD (Int.toNat y0) default).Shelf, (y3.getD (Int.toNat y0) default).Room, y4, (y3.getD (Int.toNat y0) default).Thick⟩ : Carton)).set (Int.toNat y1) (⟨((y3.set (Int.toNat y0) (⟨(y3.getD (Int.toNat y0) default).Id, (y3.getD (Int.toNat y0) default).Shelf, (y3.getD (Int.toNat y0) default).Room, y4, (y3.getD (Int.toNat y0) default).Thick⟩ : Carton)).getD (Int.toNat y1) default).Id, ((y3.set (Int.toNat y0) (⟨(y3.getD (Int.toNat y0) default).Id, (y3.getD (Int.toNat y0) default).Shelf, (y3.getD (Int.toNat y0) default).Room, y4, (y3.getD (Int.toNat y0) default).Thick⟩ : Carton)).getD (Int.toNat y1) default).Shelf, ((y3.set (Int.toNat y0) (⟨(y3.getD (Int.toNat y0) default).Id, (y3.getD (Int.toNat y0) default).Shelf, (y3.getD (Int.toNat y0) default).Room, y4, (y3.getD (Int.toNat y0) default).Thick⟩ : Carton)).getD (Int.toNat y1) default).Room, ((((y3.set (Int.toNat y0) (⟨(y3.getD (Int.toNat y0) default).Id, (y3.getD (Int.toNat y0) default).Shelf, (y3.getD (Int.toNat y0) default).Room, y4, (y3.getD (Int.toNat y0) default).Thick⟩ : Carton)).getD (Int.toNat y1) default).Files) ++ ([file] : List Int)), ((y3.set (Int.toNat y0) (⟨(y3.getD (Int.toNat y0) default).Id, (y3.getD (Int.toNat y0) default).Shelf, (y3.getD (Int.toNat y0) default).Room, y4, (y3.getD (Int.toNat y0) default).Thick⟩ : Carton)).getD (Int.toNat y1) default).Thick⟩ : Carton)))) rfl (by simp [optS])) ?_
       refine VO.nil ?_
       exact ⟨(((y3.set (Int.toNat y0) (⟨(y3.getD (Int.toNat y0) default).Id, (y3.getD (Int.toNat y0) default).Shelf, (y3.getD (Int.toNat y0) default).Room, y4, (y3.getD (Int.toNat y0) default).Thick⟩ : Carton)).set (Int.toNat y1) (⟨((y3.set (Int.toNat y0) (⟨(y3.getD (Int.toNat y0) default).Id, (y3.getD (Int.toNat y0) default).Shelf, (y3.getD (Int.toNat y0) default).Room, y4, (y3.getD (Int.toNat y0) default).Thick⟩ : Carton)).getD (Int.toNat y1) default).Id, ((y3.set (Int.toNat y0) (⟨(y3.getD (Int.toNat y0) default).Id, (y3.getD (Int.toNat y0) default).Shelf, (y3.getD (Int.toNat y0) default).Room, y4, (y3.getD (Int.toNat y0) default).Thick⟩ : Carton)).getD (Int.toNat y1) default).Shelf, ((y3.set (Int.toNat y0) (⟨(y3.getD (Int.toNat y0) default).Id, (y3.getD (Int.toNat y0) default).Shelf, (y3.getD (Int.toNat y0) default).Room, y4, (y3.getD (Int.toNat y0) default).Thick⟩ : Carton)).getD (Int.toNat y1) default).Room, ((((y3.set (Int.toNat y0) (⟨(y3.getD (Int.toNat y0) default).Id, (y3.getD (Int.toNat y0) default).Shelf, (y3.getD (Int.toNat y0) default).Room, y4, (y3.getD (Int.toNat y0) default).Thick⟩ : Carton)).getD (Int.toNat y1) default).Files) ++ ([file] : List Int)), ((y3.set (Int.toNat y0) (⟨(y3.getD (Int.toNat y0) default).Id, (y3.getD (Int.toNat y0) default).Shelf, (y3.getD (Int.toNat y0) default).Room, y4, (y3.getD (Int.toNat y0) default).Thick⟩ : Carton)).getD (Int.toNat y1) default).Thick⟩ : Carton)), ((List.set (List.set ts_73 (Int.toNat y0) (optS 1 ob1 (List.length y4))) (Int.toNat y1) (.sref b4 1 0 (List.length ((((y3.set (Int.toNat y0) (⟨(y3.getD (Int.toNat y0) default).Id, (y3.getD (Int.toNat y0) default).Shelf, (y3.getD (Int.toNat y0) default).Room, y4, (y3.getD (Int.toNat y0) default).Thick⟩ : Carton)).getD (Int.toNat y1) default).Files) ++ ([file] : List Int))))), (os1_108 ++ ([(b4, ⟨1, List.map encInt ((((y3.set (Int.toNat y0) (⟨(y3.getD (Int.toNat y0) default).Id, (y3.getD (Int.toNat y0) default).Shelf, (y3.getD (Int.toNat y0) default).Room, y4, (y3.getD (Int.toNat y0) default).Thick⟩ : Carton)).getD (Int.toNat y1) default).Files) ++ ([file] : List Int))⟩)] ++ os2_108)))), ⟨Option.some.inj hm1, hd_108n⟩, Keeps.mkT (A := [(b3, ⟨1, List.map encInt ([file] : List Int)⟩), (ob0, ⟨5, deepC cellCarton (List.set (List.set ts_73 (Int.toNat y0) (optS 1 ob1 (List.length y4))) (Int.toNat y1) (.sref b4 1 0 (List.length ((((y3.set (Int.toNat y0) (⟨(y3.getD (Int.toNat y0) default).Id, (y3.getD (Int.toNat y0) default).Shelf, (y3.getD (Int.toNat y0) default).Room, y4, (y3.getD (Int.toNat y0) default).Thick⟩ : Carton)).getD (Int.toNat y1) default).Files) ++ ([file] : List Int))))) ((y3.set (Int.toNat y0) (⟨(y3.getD (Int.toNat y0) default).Id, (y3.getD (Int.toNat y0) default).Shelf, (y3.getD (Int.toNat y0) default).Room, y4, (y3.getD (Int.toNat y0) default).Thick⟩ : Carton)).set (Int.toNat y1) (⟨((y3.set (Int.toNat y0) (⟨(y3.getD (Int.toNat y0) default).Id, (y3.getD (Int.toNat y0) default).Shelf, (y3.getD (Int.toNat y0) default).Room, y4, (y3.getD (Int.toNat y0) default).Thick⟩ : Carton)).getD (Int.toNat y1) default).Id, ((y3.set (Int.toNat y0) (⟨(y3.getD (Int.toNat y0) default).Id, (y3.getD (Int.toNat y0) default).Shelf, (y3.getD (Int.toNat y0) default).Room, y4, (y3.getD (Int.toNat y0) default).Thick⟩ : Carton)).getD (Int.toNat y1) default).Shelf, ((y3.set (Int.toNat y0) (⟨(y3.getD (Int.toNat y0) default).Id, (y3.getD (Int.toNat y0) default).Shelf, (y3.getD (Int.toNat y0) default).Room, y4, (y3.getD (Int.toNat y0) default).Thick⟩ : Carton)).getD (Int.toNat y1) default).Room, ((((y3.set (Int.toNat y0) (⟨(y3.getD (Int.toNat y0) default).Id, (y3.getD (Int.toNat y0) default).Shelf, (y3.getD (Int.toNat y0) default).Room, y4, (y3.getD (Int.toNat y0) default).Thick⟩ : Carton)).getD (Int.toNat y1) default).Files) ++ ([file] : List Int)), ((y3.set (Int.toNat y0) (⟨(y3.getD (Int.toNat y0) default).Id, (y3.getD (Int.toNat y0) default).Shelf, (y3.getD (Int.toNat y0) default).Room, y4, (y3.getD (Int.toNat y0) default).Thick⟩ : Carton)).getD (Int.toNat y1) default).Thick⟩ : Carton))⟩), (b0, ⟨1, [.int .i64 file]⟩)]) (T := (os1_108 ++ ([(b4, ⟨1, List.map encInt ((((y3.set (Int.toNat y0) (⟨(y3.getD (Int.toNat y0) default).Id, (y3.getD (Int.toNat y0) default).Shelf, (y3.getD (Int.toNat y0) default).Room, y4, (y3.getD (Int.toNat y0) default).Thick⟩ : Carton)).getD (Int.toNat y1) default).Files) ++ ([file] : List Int))⟩)] ++ os2_108))) (T' := (os1_108 ++ ([(b4, ⟨1, List.map encInt ((((y3.set (Int.toNat y0) (⟨(y3.getD (Int.toNat y0) default).Id, (y3.getD (Int.toNat y0) default).Shelf, (y3.getD (Int.toNat y0) default).Room, y4, (y3.getD (Int.toNat y0) default).Thick⟩ : Carton)).getD (Int.toNat y1) default).Files) ++ ([file] : List Int))⟩)] ++ os2_108))) (H := [(ob0, ⟨5, deepC cellCarton (List.set (List.set ts_73 (Int.toNat y0) (optS 1 ob1 (List.length y4))) (Int.toNat y1) (.sref b4 1 0 (List.length ((((y3.set (Int.toNat y0) (⟨(y3.getD (Int.toNat y0) default).Id, (y3.getD (Int.toNat y0) default).Shelf, (y3.getD (Int.toNat y0) default).Room, y4, (y3.getD (Int.toNat y0) default).Thick⟩ : Carton)).getD (Int.toNat y1) default).Files) ++ ([file] : List Int))))) ((y3.set (Int.toNat y0) (⟨(y3.getD (Int.toNat y0) default).Id, (y3.getD (Int.toNat y0) default).Shelf, (y3.getD (Int.toNat y0) default).Room, y4, (y3.getD (Int.toNat y0) default).Thick⟩ : Carton)).set (Int.toNat y1) (⟨((y3.set (Int.toNat y0) (⟨(y3.getD (Int.toNat y0) default).Id, (y3.getD (Int.toNat y0) default).Shelf, (y3.getD (Int.toNat y0) default).Room, y4, (y3.getD (Int.toNat y0) default).Thick⟩ : Carton)).getD (Int.toNat y1) default).Id, ((y3.set (Int.toNat y0) (⟨(y3.getD (Int.toNat y0) default).Id, (y3.getD (Int.toNat y0) default).Shelf, (y3.getD (Int.toNat y0) default).Room, y4, (y3.getD (Int.toNat y0) default).Thick⟩ : Carton)).getD (Int.toNat y1) default).Shelf, ((y3.set (Int.toNat y0) (⟨(y3.getD (Int.toNat y0) default).Id, (y3.getD (Int.toNat y0) default).Shelf, (y3.getD (Int.toNat y0) default).Room, y4, (y3.getD (Int.toNat y0) default).Thick⟩ : Carton)).getD (Int.toNat y1) default).Room, ((((y3.set (Int.toNat y0) (⟨(y3.getD (Int.toNat y0) default).Id, (y3.getD (Int.toNat y0) default).Shelf, (y3.getD (Int.toNat y0) default).Room, y4, (y3.getD (Int.toNat y0) default).Thick⟩ : Carton)).getD (Int.toNat y1) default).Files) ++ ([file] : List Int)), ((y3.set (Int.toNat y0) (⟨(y3.getD (Int.toNat y0) default).Id, (y3.getD (Int.toNat y0) default).Shelf, (y3.getD (Int.toNat y0) default).Room, y4, (y3.getD (Int.toNat y0) default).Thick⟩ : Carton)).getD (Int.toNat y1) default).Thick⟩ : Carton))⟩)]) (ks := [1]) rfl (by exact ⟨(someSref (by simp)), rfl, trivial⟩) rfl (by exact (⟨_, _, rfl, rfl, rfl⟩)) rfl (List.Sublist.refl _)⟩
    ·
     refine ⟨_, _, _, _, rfl, rfl, rfl, (⟨_, _, rfl, rfl, rfl⟩), fun E1 => ?_⟩
     refine (V1.buildSliceT (f := encInt) ([file] : List Int) rfl rfl esz_36 zk_3 rfl rfl rfl rfl rfl rfl rfl lt0 ?_)
     intro b5
     refine ⟨_, _, rfl, ?_⟩
     refine WalkP.nil ?_
     refine NodeS.branch [6] (inCons 2 rfl inNil) rfl rfl rfl ⟨?_, trivial⟩
     ·
      refine ⟨_, _, _, _, rfl, rfl, rfl, (⟨_, _, rfl, rfl, rfl⟩), fun E1 => ?_⟩
      refine (V1.loadKnown (inn := (fun c_ : Carton => List.map encInt c_.Files)) (cell := cellCarton) (ts := (List.set ts_73 (Int.toNat y0) (optS 1 ob1 (List.length y4)))) (xs := (y3.set (Int.toNat y0) (⟨(y3.getD (Int.toNat y0) default).Id, (y3.getD (Int.toNat y0) default).Shelf, (y3.getD (Int.toNat y0) default).Room, y4, (y3.getD (Int.toNat y0) default).Thick⟩ : Carton))) (k := 1) cokCarton rfl rfl tyk_36 rfl rfl (Deep.length hd_105n) (by simpa using natLt hh8.1 hh8.2) ht_108 optS_cells lt0 ?_)
      refine ⟨_, _, rfl, ?_⟩
      refine WalkP.nil ?_
      refine NodeS.branch [9] (inCons 2 rfl inNil) rfl rfl rfl ⟨?_, trivial⟩
      ·
       refine ⟨_, _, _, _, rfl, rfl, rfl, (⟨_, _, rfl, rfl, ⟨_, _, rfl, rfl, rfl⟩⟩), fun E1 => ?_⟩
       refine (V1.appendOpt (f := encInt) (l := ((y3.set (Int.toNat y0) (⟨(y3.getD (Int.toNat y0) default).Id, (y3.getD (Int.toNat y0) default).Shelf, (y3.getD (Int.toNat y0) default).Room, y4, (y3.getD (Int.toNat y0) default).Thick⟩ : Carton)).getD (Int.toNat y1) default).Files) (m := ([file] : List Int)) (([(b5, ⟨1, List.map encInt ([file] : List Int)⟩), (ob0, ⟨5, deepC cellCarton (List.set ts_73 (Int.toNat y0) (optS 1 ob1 (List.length y4))) (y3.set (Int.toNat y0) (⟨(y3.getD (Int.toNat y0) default).Id, (y3.getD (Int.toNat y0) default).Shelf, (y3.getD (Int.toNat y0) default).Room, y4, (y3.getD (Int.toNat y0) default).Thick⟩ : Carton))⟩), (b0, ⟨1, [.int .i64 file]⟩)] : List (Nat × Obj')) ++ (os1_108 ++ os2_108)) hob_108 rfl rfl rfl rfl rfl esz_36 eby_36 zk_3 rfl rfl rfl rfl (SrcOf.srMap (k := 0) rfl isl_36) rfl hh9 lt0 ?_)
       intro b6
       refine ⟨_, _, rfl, ?_⟩
       refine WalkP.nil ?_
       refine NodeS.fin (inCons 3 rfl inNil) rfl rfl rfl (⟨_, _, rfl, rfl, ⟨_, _, rfl, rfl, ⟨_, _, rfl, rfl, ⟨_, _, rfl, rfl, ⟨_, _, rfl, rfl, rfl⟩⟩⟩⟩⟩) ?_
       refine VO.cons rfl (V1.indexSr rfl rfl esz_39 rfl rfl hh10 lt0 ?_)
       refine VO.cons rfl (V1.fieldRef rfl rfl fo_67_3 rfl lt0 ?_)
       refine VO.cons rfl (V1.storeDeepIn (inn := (fun c_ : Carton => List.map encInt c_.Files)) (cell := cellCarton) (ts := (List.set ts_73 (Int.toNat y0) (optS 1 ob1 (List.length y4)))) (xs := (y3.set (Int.toNat y0) (⟨(y3.getD (Int.toNat y0) default).Id, (y3.getD (Int.toNat y0) default).Shelf, (y3.getD (Int.toNat y0) default).Room, y4, (y3.getD (Int.toNat y0) default).Thick⟩ : Carton))) (k := 2) cokCarton (⟨((y3.set (Int.toNat y0) (⟨(y3.getD (Int.toNat y0) default).Id, (y3.getD (Int.toNat y0) default).Shelf, (y3.getD (Int.toNat y0) default).Room, y4, (y3.getD (Int.toNat y0) default).Thick⟩ : Carton)).getD (Int.toNat y1) default).Id, ((y3.set (Int.toNat y0) (⟨(y3.getD (Int.toNat y0) default).Id, (y3.getD (Int.toNat y0) default).Shelf, (y3.getD (Int.toNat y0) default).Room, y4, (y3.getD (Int.toNat y0) default).Thick⟩ : Carton)).getD (Int.toNat y1) default).Shelf, ((y3.set (Int.toNat y0) (⟨(y3.getD (Int.toNat y0) default).Id, (y3.getD (Int.toNat y0) default).Shelf, (y3.getD (Int.toNat y0) default).Room, y4, (y3.getD (Int.toNat y0) default).Thick⟩ : Carton)).getD (Int.toNat y1) default).Room, ((((y3.set (Int.toNat y0) (⟨(y3.getD (Int.toNat y0) default).Id, (y3.getD (Int.toNat y0) default).Shelf, (y3.getD (Int.toNat y0) default).Room, y4, (y3.getD (Int.toNat y0) default).Thick⟩ : Carton)).getD (Int.toNat y1) default).Files) ++ ([file] : List Int)), ((y3.set (Int.toNat y0) (⟨(y3.getD (Int.toNat y0) default).Id, (y3.getD (Int.toNat y0) default).Shelf, (y3.getD (Int.toNat y0) default).Room, y4, (y3.getD (Int.toNat y0) default).Thick⟩ : Carton)).getD (Int.toNat y1) default).Thick⟩ : Carton) rfl rfl tyk_36 rfl rfl (Deep.length hd_105n) (by rw [ht_108]; cases ob_108 <;> exact ⟨rfl, rfl⟩) (by simpa using natLt hh10.1 hh10.2) rfl rfl rfl rfl rfl ?_)
       refine VO.weakenK (Keeps.putDeep 0 (A := [(b6, ⟨1, List.map encInt ((((y3.set (Int.toNat y0) (⟨(y3.getD (Int.toNat y0) default).Id, (y3.getD (Int.toNat y0) default).Shelf, (y3.getD (Int.toNat y0) default).Room, y4, (y3.getD (Int.toNat y0) default).Thick⟩ : Carton)).getD (Int.toNat y1) default).Files) ++ ([file] : List Int))⟩), (b5, ⟨1, List.map encInt ([file] : List Int)⟩), (ob0, ⟨5, deepC cellCarton (List.set (List.set ts_73 (Int.toNat y0) (optS 1 ob1 (List.length y4))) (Int.toNat y1) (.sref b6 1 0 (List.length ((((y3.set (Int.toNat y0) (⟨(y3.getD (Int.toNat y0) default).Id, (y3.getD (Int.toNat y0) default).Shelf, (y3.getD (Int.toNat y0) default).Room, y4, (y3.getD (Int.toNat y0) default).Thick⟩ : Carton)).getD (Int.toNat y1) default).Files) ++ ([file] : List Int))))) ((y3.set (Int.toNat y0) (⟨(y3.getD (Int.toNat y0) default).Id, (y3.getD (Int.toNat y0) default).Shelf, (y3.getD (Int.toNat y0) default).Room, y4, (y3.getD (Int.toNat y0) default).Thick⟩ : Carton)).set (Int.toNat y1) (⟨((y3.set (Int.toNat y0) (⟨(y3.getD (Int.toNat y0) default).Id, (y3.getD (Int.toNat y0) default).Shelf, (y3.getD (Int.toNat y0) default).Room, y4, (y3.getD (Int.toNat y0) default).Thick⟩ : Carton)).getD (Int.toNat y1) default).Id, ((y3.set (Int.toNat y0) (⟨(y3.getD (Int.toNat y0) default).Id, (y3.getD (Int.toNat y0) default).Shelf, (y3.getD (Int.toNat y0) default).Room, y4, (y3.getD (Int.toNat y0) default).Thick⟩ : Carton)).getD (Int.toNat y1) default).Shelf, ((y3.set (Int.toNat y0) (⟨(y3.getD (Int.toNat y0) default).Id, (y3.getD (Int.toNat y0) default).Shelf, (y3.getD (Int.toNat y0) default).Room, y4, (y3.getD (Int.toNat y0) default).Thick⟩ : Carton)).getD (Int.toNat y1) default).Room, ((((y3.set (Int.toNat y0) (⟨(y3.getD (Int.toNat y0) default).Id, (y3.getD (Int.toNat y0) default).Shelf, (y3.getD (Int.toNat y0) default).Room, y4, (y3.getD (Int.toNat y0) default).Thick⟩ : Carton)).getD (Int.toNat y1) default).Files) ++ ([file] : List Int)), ((y3.set (Int.toNat y0) (⟨(y3.getD (Int.toNat y0) default).Id, (y3.getD (Int.toNat y0) default).Shelf, (y3.getD (Int.toNat y0) default).Room, y4, (y3.getD (Int.toNat y0) default).Thick⟩ : Carton)).getD (Int.toNat y1) default).Thick⟩ : Carton))⟩), (b0, ⟨1, [.int .i64 file]⟩)]) (A' := [(b5, ⟨1, List.map encInt ([file] : List Int)⟩), (ob0, ⟨5, deepC cellCarton (List.set (List.set ts_73 (Int.toNat y0) (optS 1 ob1 (List.length y4))) (Int.toNat y1) (.sref b6 1 0 (List.length ((((y3.set (Int.toNat y0) (⟨(y3.getD (Int.toNat y0) default).Id, (y3.getD (Int.toNat y0) default).Shelf, (y3.getD (Int.toNat y0) default).Room, y4, (y3.getD (Int.toNat y0) default).Thick⟩ : Carton)).getD (Int.toNat y1) default).Files) ++ ([file] : List Int))))) ((y3.set (Int.toNat y0) (⟨(y3.getD (Int.toNat y0) default).Id, (y3.getD (Int.toNat y0) default).Shelf, (y3.getD (Int.toNat y0) default).Room, y4, (y3.getD (Int.toNat y0) default).Thick⟩ : Carton)).set (Int.toNat y1) (⟨((y3.set (Int.toNat y0) (⟨(y3.getD (Int.toNat y0) default).Id, (y3.getD (Int.toNat y0) default).Shelf, (y3.getD (Int.toNat y0) default).Room, y4, (y3.getD (Int.toNat y0) default).Thick⟩ : Carton)).getD (Int.toNat y1) default).Id, ((y3.set (Int.toNat y0) (⟨(y3.getD (Int.toNat y0) default).Id, (y3.getD (Int.toNat y0) default).Shelf, (y3.getD (Int.toNat y0) default).Room, y4, (y3.getD (Int.toNat y0) default).Thick⟩ : Carton)).getD (Int.toNat y1) default).Shelf, ((y3.set (Int.toNat y0) (⟨(y3.getD (Int.toNat y0) default).Id, (y3.getD (Int.toNat y0) default).Shelf, (y3.getD (Int.toNat y0) default).Room, y4, (y3.getD (Int.toNat y0) default).Thick⟩ : Carton)).getD (Int.toNat y1) default).Room, ((((y3.set (Int.toNat y0) (⟨(y3.getD (Int.toNat y0) default).Id, (y3.getD (Int.toNat y0) default).Shelf, (y3.getD (Int.toNat y0) default).Room, y4, (y3.getD (Int.toNat y0) default).Thick⟩ : Carton)).getD (Int.toNat y1) default).Files) ++ ([file] : List Int)), ((y3.set (Int.toNat y0) (⟨(y3.getD (Int.toNat y0) default).Id, (y3.getD (Int.toNat y0) default).Shelf, (y3.getD (Int.toNat y0) default).Room, y4, (y3.getD (Int.toNat y0) default).Thick⟩ : Carton)).getD (Int.toNat y1) default).Thick⟩ : Carton))⟩), (b0, ⟨1, [.int .i64 file]⟩)]) (os := (os1_108 ++ os2_108)) (os1 := os1_108) (oi := []) (os2 := os2_108) (p := (b6, ⟨1, List.map encInt ((((y3.set (Int.toNat y0) (⟨(y3.getD (Int.toNat y0) default).Id, (y3.getD (Int.toNat y0) default).Shelf, (y3.getD (Int.toNat y0) default).Room, y4, (y3.getD (Int.toNat y0) default).Thick⟩ : Carton)).getD (Int.toNat y1) default).Files) ++ ([file] : List Int))⟩)) rfl rfl rfl rfl) ?_
       have hd_108n := hp_108 (.sref b6 1 0 (List.length ((((y3.set (Int.toNat y0) (⟨(y3.getD (Int.toNat y0) default).Id, (y3.getD (Int.toNat y0) default).Shelf, (y3.getD (Int.toNat y0) default).Room, y4, (y3.getD (Int.toNat y0) default).Thick⟩ : Carton)).getD (Int.toNat y1) default).Files) ++ ([file] : List Int)))) [(b6, ⟨1, List.map encInt ((((y3.set (Int.toNat y0) (⟨(y3.getD (Int.toNat y0) default).Id, (y3.getD (Int.toNat y0) default).Shelf, (y3.getD (Int.toNat y0) default).Room, y4, (y3.getD (Int.toNat y0) default).Thick⟩ : Carton)).getD (Int.toNat y1) default).Files) ++ ([file] : List Int))⟩)] (⟨((y3.set (Int.toNat y0) (⟨(y3.getD (Int.toNat y0) default).Id, (y3.getD (Int.toNat y0) default).Shelf, (y3.getD (Int.toNat y0) default).Room, y4, (y3.getD (Int.toNat y0) default).Thick⟩ : Carton)).getD (Int.toNat y1) default).Id, ((y3.set (Int.toNat y0) (⟨(y3.getD (Int.toNat y0) default).Id, (y3.getD (Int.toNat y0) default).Shelf, (y3.getD (Int.toNat y0) default).Room, y4, (y3.getD (Int.toNat y0) default).Thick⟩ : Carton)).getD (Int.toNat y1) default).Shelf, ((y3.set (Int.toNat y0) (⟨(y3.getD (Int.toNat y0) default).Id, (y3.getD (Int.toNat y0) default).Shelf, (y3.getD (Int.toNat y0) default).Room, y4, (y3.getD (Int.toNat y0) default).Thick⟩ : Carton)).getD (Int.toNat y1) default).Room, ((((y3.set (Int.toNat y0) (⟨(y3.getD (Int.toNat y0) default).Id, (y3.getD (Int.toNat y0) default).Shelf, (y3.getD (Int.toNat y0) default).Room, y4, (y3.getD (Int.toNat y0) default).Thick⟩ : Carton)).getD (Int.toNat y1) default).Files) ++ ([file] : List Int)), ((y3.set (Int.toNat y0) (⟨(y3.getD (Int.toNat y0) default).Id, (y3.getD (Int.toNat y0) default).Shelf, (y3.getD (Int.toNat y0) default).Room, y4, (y3.getD (Int.toNat y0) default).Thick⟩ : Carton)).getD (Int.toNat y1) default).Thick⟩ : Carton) (Deep1.own (by simp))
       refine VO.weakenK (Keeps.say 10 (y := .sref ob0 5 0 (List.length ((y3.set (Int.toNat y0) (⟨(y3.getD (Int.toNat y0) default).Id, (y3.getD (Int.toNat y0) default).Shelf, (y3.getD (Int.toNat y0) default).Room, y4, (y3.getD (Int.toNat y0) default).Thick⟩ : Carton)).set (Int.toNat y1) (⟨((y3.set (Int.toNat y0) (⟨(y3.getD (Int.toNat y0) default).Id, (y3.getD (Int.toNat y0) default).Shelf, (y3.getD (Int.toNat y0) default).Room, y4, (y3.getD (Int.toNat y0) default).Thick⟩ : Carton)).getD (Int.toNat y1) default).Id, ((y3.set (Int.toNat y0) (⟨(y3.getD (Int.toNat y0) default).Id, (y3.getD (Int.toNat y0) default).Shelf, (y3.getD (Int.toNat y0) default).Room, y4, (y3.getD (Int.toNat y0) default).Thick⟩ : Carton)).getD (Int.toNat y1) default).Shelf, ((y3.set (Int.toNat y0) (⟨(y3.getD (Int.toNat y0) default).Id, (y3.getD (Int.toNat y0) default).Shelf, (y3.getD (Int.toNat y0) default).Room, y4, (y3.getD (Int.toNat y0) default).Thick⟩ : Carton)).getD (Int.toNat y1) default).Room, ((((y3.set (Int.toNat y0) (⟨(y3.getD (Int.toNat y0) default).Id, (y3.getD (Int.toNat y0) default).Shelf, (y3.getD (Int.toNat y0) default).Room, y4, (y3.getD (Int.toNat y0) default).Thick⟩ : Carton)).getD (Int.toNat y1) default).Files) ++ ([file] : List Int)), ((y3.set (Int.toNat y0) (⟨(y3.getD (Int.toNat y0) default).Id, (y3.getD (Int.toNat y0) default).Shelf, (y3.getD (Int.toNat y0) default).Room, y4, (y3.getD (Int.toNat y0) default).Thick⟩ : Carton)).getD (Int.toNat y1) default).Thick⟩ : Carton)))) rfl (by simp [optS])) ?_
       refine VO.nil ?_
       exact ⟨(((y3.set (Int.toNat y0) (⟨(y3.getD (Int.toNat y0) default).Id, (y3.getD (Int.toNat y0) default).Shelf, (y3.getD (Int.toNat y0) default).Room, y4, (y3.getD (Int.toNat y0) default).Thick⟩ : Carton)).set (Int.toNat y1) (⟨((y3.set (Int.toNat y0) (⟨(y3.getD (Int.toNat y0) default).Id, (y3.getD (Int.toNat y0) default).Shelf, (y3.getD (Int.toNat y0) default).Room, y4, (y3.getD (Int.toNat y0) default).Thick⟩ : Carton)).getD (Int.toNat y1) default).Id, ((y3.set (Int.toNat y0) (⟨(y3.getD (Int.toNat y0) default).Id, (y3.getD (Int.toNat y0) default).Shelf, (y3.getD (Int.toNat y0) default).Room, y4, (y3.getD (Int.toNat y0) default).Thick⟩ : Carton)).getD (Int.toNat y1) default).Shelf, ((y3.set (Int.toNat y0) (⟨(y3.getD (Int.toNat y0) default).Id, (y3.getD (Int.toNat y0) default).Shelf, (y3.getD (Int.toNat y0) default).Room, y4, (y3.getD (Int.toNat y0) default).Thick⟩ : Carton)).getD (Int.toNat y1) default).Room, ((((y3.set (Int.toNat y0) (⟨(y3.getD (Int.toNat y0) default).Id, (y3.getD (Int.toNat y0) default).Shelf, (y3.getD (Int.toNat y0) default).Room, y4, (y3.getD (Int.toNat y0) default).Thick⟩ : Carton)).getD (Int.toNat y1) default).Files) ++ ([file] : List Int)), ((y3.set (Int.toNat y0) (⟨(y3.getD (Int.toNat y0) default).Id, (y3.getD (Int.toNat y0) default).Shelf, (y3.getD (Int.toNat y0) default).Room, y4, (y3.getD (Int.toNat y0) default).Thick⟩ : Carton)).getD (Int.toNat y1) default).Thick⟩ : Carton)), ((List.set (List.set ts_73 (Int.toNat y0) (optS 1 ob1 (List.length y4))) (Int.toNat y1) (.sref b6 1 0 (List.length ((((y3.set (Int.toNat y0) (⟨(y3.getD (Int.toNat y0) default).Id, (y3.getD (Int.toNat y0) default).Shelf, (y3.getD (Int.toNat y0) default).Room, y4, (y3.getD (Int.toNat y0) default).Thick⟩ : Carton)).getD (Int.toNat y1) default).Files) ++ ([file] : List Int))))), (os1_108 ++ ([(b6, ⟨1, List.map encInt ((((y3.set (Int.toNat y0) (⟨(y3.getD (Int.toNat y0) default).Id, (y3.getD (Int.toNat y0) default).Shelf, (y3.getD (Int.toNat y0) default).Room, y4, (y3.getD (Int.toNat y0) default).Thick⟩ : Carton)).getD (Int.toNat y1) default).Files) ++ ([file] : List Int))⟩)] ++ os2_108)))), ⟨Option.some.inj hm1, hd_108n⟩, Keeps.mkT (A := [(b5, ⟨1, List.map encInt ([file] : List Int)⟩), (ob0, ⟨5, deepC cellCarton (List.set (List.set ts_73 (Int.toNat y0) (optS 1 ob1 (List.length y4))) (Int.toNat y1) (.sref b6 1 0 (List.length ((((y3.set (Int.toNat y0) (⟨(y3.getD (Int.toNat y0) default).Id, (y3.getD (Int.toNat y0) default).Shelf, (y3.getD (Int.toNat y0) default).Room, y4, (y3.getD (Int.toNat y0) default).Thick⟩ : Carton)).getD (Int.toNat y1) default).Files) ++ ([file] : List Int))))) ((y3.set (Int.toNat y0) (⟨(y3.getD (Int.toNat y0) default).Id, (y3.getD (Int.toNat y0) default).Shelf, (y3.getD (Int.toNat y0) default).Room, y4, (y3.getD (Int.toNat y0) default).Thick⟩ : Carton)).set (Int.toNat y1) (⟨((y3.set (Int.toNat y0) (⟨(y3.getD (Int.toNat y0) default).Id, (y3.getD (Int.toNat y0) default).Shelf, (y3.getD (Int.toNat y0) default).Room, y4, (y3.getD (Int.toNat y0) default).Thick⟩ : Carton)).getD (Int.toNat y1) default).Id, ((y3.set (Int.toNat y0) (⟨(y3.getD (Int.toNat y0) default).Id, (y3.getD (Int.toNat y0) default).Shelf, (y3.getD (Int.toNat y0) default).Room, y4, (y3.getD (Int.toNat y0) default).Thick⟩ : Carton)).getD (Int.toNat y1) default).Shelf, ((y3.set (Int.toNat y0) (⟨(y3.getD (Int.toNat y0) default).Id, (y3.getD (Int.toNat y0) default).Shelf, (y3.getD (Int.toNat y0) default).Room, y4, (y3.getD (Int.toNat y0) default).Thick⟩ : Carton)).getD (Int.toNat y1) default).Room, ((((y3.set (Int.toNat y0) (⟨(y3.getD (Int.toNat y0) default).Id, (y3.getD (Int.toNat y0) default).Shelf, (y3.getD (Int.toNat y0) default).Room, y4, (y3.getD (Int.toNat y0) default).Thick⟩ : Carton)).getD (Int.toNat y1) default).Files) ++ ([file] : List Int)), ((y3.set (Int.toNat y0) (⟨(y3.getD (Int.toNat y0) default).Id, (y3.getD (Int.toNat y0) default).Shelf, (y3.getD (Int.toNat y0) default).Room, y4, (y3.getD (Int.toNat y0) default).Thick⟩ : Carton)).getD (Int.toNat y1) default).Thick⟩ : Carton))⟩), (b0, ⟨1, [.int .i64 file]⟩)]) (T := (os1_108 ++ ([(b6, ⟨1, List.map encInt ((((y3.set (Int.toNat y0) (⟨(y3.getD (Int.toNat y0) default).Id, (y3.getD (Int.toNat y0) default).Shelf, (y3.getD (Int.toNat y0) default).Room, y4, (y3.getD (Int.toNat y0) default).Thick⟩ : Carton)).getD (Int.toNat y1) default).Files) ++ ([file] : List Int))⟩)] ++ os2_108))) (T' := (os1_108 ++ ([(b6, ⟨1, List.map encInt ((((y3.set (Int.toNat y0) (⟨(y3.getD (Int.toNat y0) default).Id, (y3.getD (Int.toNat y0) default).Shelf, (y3.getD (Int.toNat y0) default).Room, y4, (y3.getD (Int.toNat y0) default).Thick⟩ : Carton)).getD (Int.toNat y1) default).Files) ++ ([file] : List Int))⟩)] ++ os2_108))) (H := [(ob0, ⟨5, deepC cellCarton (List.set (List.set ts_73 (Int.toNat y0) (optS 1 ob1 (List.length y4))) (Int.toNat y1) (.sref b6 1 0 (List.length ((((y3.set (Int.toNat y0) (⟨(y3.getD (Int.toNat y0) default).Id, (y3.getD (Int.toNat y0) default).Shelf, (y3.getD (Int.toNat y0) default).Room, y4, (y3.getD (Int.toNat y0) default).Thick⟩ : Carton)).getD (Int.toNat y1) default).Files) ++ ([file] : List Int))))) ((y3.set (Int.toNat y0) (⟨(y3.getD (Int.toNat y0) default).Id, (y3.getD (Int.toNat y0) default).Shelf, (y3.getD (Int.toNat y0) default).Room, y4, (y3.getD (Int.toNat y0) default).Thick⟩ : Carton)).set (Int.toNat y1) (⟨((y3.set (Int.toNat y0) (⟨(y3.getD (Int.toNat y0) default).Id, (y3.getD (Int.toNat y0) default).Shelf, (y3.getD (Int.toNat y0) default).Room, y4, (y3.getD (Int.toNat y0) default).Thick⟩ : Carton)).getD (Int.toNat y1) default).Id, ((y3.set (Int.toNat y0) (⟨(y3.getD (Int.toNat y0) default).Id, (y3.getD (Int.toNat y0) default).Shelf, (y3.getD (Int.toNat y0) default).Room, y4, (y3.getD (Int.toNat y0) default).Thick⟩ : Carton)).getD (Int.toNat y1) default).Shelf, ((y3.set (Int.toNat y0) (⟨(y3.getD (Int.toNat y0) default).Id, (y3.getD (Int.toNat y0) default).Shelf, (y3.getD (Int.toNat y0) default).Room, y4, (y3.getD (Int.toNat y0) default).Thick⟩ : Carton)).getD (Int.toNat y1) default).Room, ((((y3.set (Int.toNat y0) (⟨(y3.getD (Int.toNat y0) default).Id, (y3.getD (Int.toNat y0) default).Shelf, (y3.getD (Int.toNat y0) default).Room, y4, (y3.getD (Int.toNat y0) default).Thick⟩ : Carton)).getD (Int.toNat y1) default).Files) ++ ([file] : List Int)), ((y3.set (Int.toNat y0) (⟨(y3.getD (Int.toNat y0) default).Id, (y3.getD (Int.toNat y0) default).Shelf, (y3.getD (Int.toNat y0) default).Room, y4, (y3.getD (Int.toNat y0) default).Thick⟩ : Carton)).getD (Int.toNat y1) default).Thick⟩ : Carton))⟩)]) (ks := [1]) rfl (by exact ⟨(someSref (by simp)), rfl, trivial⟩) rfl (by exact (⟨_, _, rfl, rfl, rfl⟩)) rfl (List.Sublist.refl _)⟩
   ·
    rintro ⟨out_, ⟨ts_122, os_122⟩⟩ ⟨rfl, hd_122⟩
    try dsimp only at hm0
    refine V.seq ?_
    replace hm0 := asrt_some hm0; rcases hm0 with ⟨hh11, hm0⟩
    replace hm0 := bindO hm0; rcases hm0 with ⟨y5, hh12, hm0⟩
    replace hm0 := asrt_some hm0; rcases hm0 with ⟨hh13, hm0⟩
    refine V.region ?_
    refine VO.cons rfl (V1.move rfl rfl rfl lt0 ?_)
    refine VO.cons rfl (V1.move rfl rfl rfl lt0 ?_)
    refine VO.cons rfl (V1.indexSr rfl rfl esz_39 rfl rfl hh11 lt0 ?_)
    refine VO.cons rfl (V1.fieldRef rfl rfl fo_67_3 rfl lt0 ?_)
    refine VO.cons rfl (V1.loadDeepIn (inn := (fun c_ : Carton => List.map encInt c_.Files)) (cell := cellCarton) (ts := ts_122) (xs := out_) (k := 0) cokCarton rfl rfl tyk_36 rfl rfl hd_122 (by simpa using natLt hh11.1 hh11.2) lt0 ?_)
    obtain ⟨ob_133, os1_133, os2_133, hob_133, ht_133, hos_133, hp_133, hs_133⟩ := Deep.focusM (f := encInt) (g := (fun c_ : Carton => c_.Files)) (Int.toNat y1) hd_122 (by simpa using natLt hh11.1 hh11.2)
    refine VO.weakenK (Keeps.say 62 (y := optS 1 ob_133 (List.length ((out_.getD (Int.toNat y1) default).Files))) rfl ht_133) ?_
    refine VO.cons rfl (V1.callD (A := [(ob0, ⟨5, deepC cellCarton ts_122 out_⟩)]) (os1 := os1_133) (os2 := os2_133) (Hc := optH 1 ob_133 (List.map encInt ((out_.getD (Int.toNat y1) default).Files))) rfl rfl rfl cok_79 rfl (appEq (A := [(ob0, ⟨5, deepC cellCarton ts_122 out_⟩)]) hos_133) (rn + 1) [] [optS 1 ob_133 (List.length ((out_.getD (Int.toNat y1) default).Files))] ⟨_, _, rfl, .same _, rfl⟩ bwNil (ok_slices_Sort_int_int hh12 (oq := ob_133) hob_133) rfl (.inl rfl) lt0 ?_)
    rintro _ _ ⟨rfl, rfl⟩
    have hd_133 := hs_133 (⟨(out_.getD (Int.toNat y1) default).Id, (out_.getD (Int.toNat y1) default).Shelf, (out_.getD (Int.toNat y1) default).Room, y5, (out_.getD (Int.toNat y1) default).Thick⟩ : Carton) hh13
    refine VO.weakenK (Keeps.sayObj 0 (ys := deepC cellCarton ts_122 (out_.set (Int.toNat y1) (⟨(out_.getD (Int.toNat y1) default).Id, (out_.getD (Int.toNat y1) default).Shelf, (out_.getD (Int.toNat y1) default).Room, y5, (out_.getD (Int.toNat y1) default).Thick⟩ : Carton))) rfl (deepC_same (Deep.length hd_122) (fun _ => rfl))) ?_
    refine VO.weakenK (Keeps.say 10 (y := .sref ob0 5 0 (List.length (out_.set (Int.toNat y1) (⟨(out_.getD (Int.toNat y1) default).Id, (out_.getD (Int.toNat y1) default).Shelf, (out_.getD (Int.toNat y1) default).Room, y5, (out_.getD (Int.toNat y1) default).Thick⟩ : Carton)))) rfl (by simp [optS])) ?_
    refine VO.nil ?_
    refine V.keepT 68 [10] [0] (E0 := [(10, .sref ob0 5 0 (List.length (out_.set (Int.toNat y1) (⟨(out_.getD (Int.toNat y1) default).Id, (out_.getD (Int.toNat y1) default).Shelf, (out_.getD (Int.toNat y1) default).Room, y5, (out_.getD (Int.toNat y1) default).Thick⟩ : Carton))))]) (A := [(ob0, ⟨5, deepC cellCarton ts_122 (out_.set (Int.toNat y1) (⟨(out_.getD (Int.toNat y1) default).Id, (out_.getD (Int.toNat y1) default).Shelf, (out_.getD (Int.toNat y1) default).Room, y5, (out_.getD (Int.toNat y1) default).Thick⟩ : Carton))⟩)]) (T := (os1_133 ++ (optH 1 ob_133 (List.map encInt y5) ++ os2_133))) (H0 := [(ob0, ⟨5, deepC cellCarton ts_122 (out_.set (Int.toNat y1) (⟨(out_.getD (Int.toNat y1) default).Id, (out_.getD (Int.toNat y1) default).Shelf, (out_.getD (Int.toNat y1) default).Room, y5, (out_.getD (Int.toNat y1) default).Thick⟩ : Carton))⟩)]) (T' := (os1_133 ++ (optH 1 ob_133 (List.map encInt y5) ++ os2_133))) rfl (⟨_, _, rfl, rfl, rfl⟩) rfl (⟨_, _, rfl, rfl, rfl⟩) rfl (List.Sublist.refl _) ?_
    refine V.seq ?_
    refine V.seq ?_
    replace hm0 := bindO hm0; rcases hm0 with ⟨y6, hh14, hm0⟩
    refine V.region ?_
    refine VO.cons rfl (V1.move rfl rfl rfl lt0 ?_)
    refine VO.cons rfl (V1.callL (rn + 1) ([ob0] ++ List.map Prod.fst (os1_133 ++ (optH 1 ob_133 (List.map encInt y5) ++ os2_133))) [.vl (rn + 1) 5 (List.map (encCarton (rn + 1)) (out_.set (Int.toNat y1) (⟨(out_.getD (Int.toNat y1) default).Id, (out_.getD (Int.toNat y1) default).Shelf, (out_.getD (Int.toNat y1) default).Room, y5, (out_.getD (Int.toNat y1) default).Thick⟩ : Carton)))] rfl rfl rfl cok_45 rfl ⟨_, _, rfl, Lend.deep (m := 1) (inn := (fun c_ : Carton => List.map encInt c_.Files)) (cell := cellCarton) cokCarton (ts := ts_122) (os := (os1_133 ++ (optH 1 ob_133 (List.map encInt y5) ++ os2_133))) (xs := (out_.set (Int.toNat y1) (⟨(out_.getD (Int.toNat y1) default).Id, (out_.getD (Int.toNat y1) default).Shelf, (out_.getD (Int.toNat y1) default).Room, y5, (out_.getD (Int.toNat y1) default).Thick⟩ : Carton))) 0 hd_133 rfl (fun _ => roL_map (fun _ => rfl) _) rfl (fun p hp => memTail (A := [(ob0, ⟨5, deepC cellCarton ts_122 (out_.set (Int.toNat y1) (⟨(out_.getD (Int.toNat y1) default).Id, (out_.getD (Int.toNat y1) default).Shelf, (out_.getD (Int.toNat y1) default).Room, y5, (out_.getD (Int.toNat y1) default).Thick⟩ : Carton))⟩)]) (T := (os1_133 ++ (optH 1 ob_133 (List.map encInt y5) ++ os2_133))) hp rfl) (List.mem_append_left _ (.head _)) (fun p hp => List.mem_append_right _ (List.mem_map.2 ⟨p, hp, rfl⟩)), rfl⟩ (bwTail (A := [(ob0, ⟨5, deepC cellCarton ts_122 (out_.set (Int.toNat y1) (⟨(out_.getD (Int.toNat y1) default).Id, (out_.getD (Int.toNat y1) default).Shelf, (out_.getD (Int.toNat y1) default).Room, y5, (out_.getD (Int.toNat y1) default).Thick⟩ : Carton))⟩)]) (T := (os1_133 ++ (optH 1 ob_133 (List.map encInt y5) ++ os2_133))) rfl (bwCons (k := 0) rfl bwNil) (fun p hp => hp)) (ok_impl_AreCartons hh14) rfl (⟨(by first | omega | (dsimp only; omega)), by rintro _ _ ⟨rfl, rfl⟩; exact ⟨rfl, by simp⟩⟩) lt0 ?_)
    rintro _ _ ⟨rfl, rfl⟩
    refine VO.cons rfl (V1.not rfl rfl rfl lt0 ?_)
    refine VO.nil ?_
    refine V.cond rfl (fun hc1 => ?_) (fun hc1 => ?_)
    ·
     replace hm0 := cond_t hc1 hm0
     refine V.seq ?_
     refine V.region ?_
     refine VO.cons rfl (V1.assign rfl rfl rfl lt0 ?_)
     refine VO.cons rfl (V1.assign rfl rfl rfl lt0 ?_)
     refine VO.nil ?_
     refine V.keepT 68 [6, 7] [] (E0 := [(6, .nils), (7, .bool false)]) (A := [(ob0, ⟨5, deepC cellCarton ts_122 (out_.set (Int.toNat y1) (⟨(out_.getD (Int.toNat y1) default).Id, (out_.getD (Int.toNat y1) default).Shelf, (out_.getD (Int.toNat y1) default).Room, y5, (out_.getD (Int.toNat y1) default).Thick⟩ : Carton))⟩)]) (T := (os1_133 ++ (optH 1 ob_133 (List.map encInt y5) ++ os2_133))) (H0 := []) (T' := []) rfl (⟨_, _, rfl, rfl, ⟨_, _, rfl, rfl, rfl⟩⟩) rfl (rfl) rfl (List.nil_sublist _) ?_
     refine V.ret ?_
     obtain rfl := Option.some.inj hm0
     exact ⟨_, _, ⟨_, _, rfl, rfl, ⟨_, _, rfl, rfl, rfl⟩⟩, List.Sublist.refl _, none, [], [], (fun _ => rfl), (Deep.ofNil rfl), rfl, rfl⟩
    ·
     replace hm0 := cond_f hc1 hm0
     refine V.skip ?_
     refine V.seq ?_
     refine V.region ?_
     refine VO.cons rfl (V1.move rfl rfl rfl lt0 ?_)
     refine VO.cons rfl (V1.assign rfl rfl rfl lt0 ?_)
     refine VO.cons rfl (V1.assign rfl rfl rfl lt0 ?_)
     refine VO.nil ?_
     refine V.keepT 68 [6, 7] [0] (E0 := [(6, .sref ob0 5 0 (List.length (out_.set (Int.toNat y1) (⟨(out_.getD (Int.toNat y1) default).Id, (out_.getD (Int.toNat y1) default).Shelf, (out_.getD (Int.toNat y1) default).Room, y5, (out_.getD (Int.toNat y1) default).Thick⟩ : Carton)))), (7, .bool true)]) (A := [(ob0, ⟨5, deepC cellCarton ts_122 (out_.set (Int.toNat y1) (⟨(out_.getD (Int.toNat y1) default).Id, (out_.getD (Int.toNat y1) default).Shelf, (out_.getD (Int.toNat y1) default).Room, y5, (out_.getD (Int.toNat y1) default).Thick⟩ : Carton))⟩)]) (T := (os1_133 ++ (optH 1 ob_133 (List.map encInt y5) ++ os2_133))) (H0 := [(ob0, ⟨5, deepC cellCarton ts_122 (out_.set (Int.toNat y1) (⟨(out_.getD (Int.toNat y1) default).Id, (out_.getD (Int.toNat y1) default).Shelf, (out_.getD (Int.toNat y1) default).Room, y5, (out_.getD (Int.toNat y1) default).Thick⟩ : Carton))⟩)]) (T' := (os1_133 ++ (optH 1 ob_133 (List.map encInt y5) ++ os2_133))) rfl (⟨_, _, rfl, rfl, ⟨_, _, rfl, rfl, rfl⟩⟩) rfl (⟨_, _, rfl, rfl, rfl⟩) rfl (List.Sublist.refl _) ?_
     refine V.ret ?_
     obtain rfl := Option.some.inj hm0
     exact ⟨_, _, ⟨_, _, rfl, rfl, ⟨_, _, rfl, rfl, rfl⟩⟩, List.Sublist.refl _, some ob0, ts_122, (os1_133 ++ (optH 1 ob_133 (List.map encInt y5) ++ os2_133)), (fun e => by cases e), hd_133, rfl, rfl⟩

theorem ok_laws_eqIntS {ρ0 ρ1 rn : Nat} {a : List Int} {b_ : List Int} {r : Bool} (h : M.laws_eqIntS a b_ = some r) : Does Try.prog 24 [.vl ρ0 1 (List.map encInt a), .vl ρ1 1 (List.map encInt b_)] [] rn (fun x H => x = .bool r ∧ H = []) := by
 have hm0 := h; clear h; unfold M.laws_eqIntS at hm0
 try dsimp only at hm0
 refine Does.intro (N := 26) Try.func24 rfl rfl rfl rfl ?_
 intro w0 S0
 refine V.seq ?_
 refine V.region ?_
 refine VO.cons rfl (V1.assign rfl rfl rfl lt0 ?_)
 refine VO.nil ?_
 refine V.seq ?_
 refine V.seq ?_
 refine V.region ?_
 refine VO.cons rfl (V1.move rfl rfl rfl lt0 ?_)
 refine VO.cons rfl (V1.lenMap rfl rfl rfl rfl rfl rfl isl_36 lt0 ?_)
 refine VO.cons rfl (V1.move rfl rfl rfl lt0 ?_)
 refine VO.cons rfl (V1.lenMap rfl rfl rfl rfl rfl rfl isl_36 lt0 ?_)
 refine VO.cons rfl (V1.int rfl rfl rfl rfl rfl lt0 ?_)
 refine VO.nil ?_
 refine V.keep 26 [0, 1, 10] [] (E0 := [(0, .vl ρ0 1 (List.map encInt a)), (1, .vl ρ1 1 (List.map encInt b_)), (10, .bool ((a.length : Int) != (b_.length : Int)))]) (H0 := []) rfl (⟨_, _, rfl, rfl, ⟨_, _, rfl, rfl, ⟨_, _, rfl, rfl, rfl⟩⟩⟩) (rfl) rfl ?_
 refine V.cond rfl (fun hc0 => ?_) (fun hc0 => ?_)
 ·
  replace hm0 := cond_t hc0 hm0
  refine V.seq ?_
  refine V.region ?_
  refine VO.cons rfl (V1.assign rfl rfl rfl lt0 ?_)
  refine VO.nil ?_
  refine V.ret ?_
  obtain rfl := Option.some.inj hm0
  exact ⟨_, [], ⟨_, _, rfl, rfl, rfl⟩, List.nil_sublist _, rfl, rfl⟩
 ·
  replace hm0 := cond_f hc0 hm0
  refine V.skip ?_
  refine V.seq ?_
  refine V.seq ?_
  refine V.region ?_
  refine VO.cons rfl (V1.assign rfl rfl rfl lt0 ?_)
  refine VO.nil ?_
  replace hm0 := bindO hm0; rcases hm0 with ⟨e0, he1, hm0⟩
  refine V.cutT (D := (Unit) × (Unit)) (fun ⟨_, _⟩ => ⟨26, [], []⟩) (fun ⟨_, _⟩ => (.inl () = e0)) ?_ ?_
  ·
   refine V.block ?_
   refine V.keep 26 [5, 0, 1] [] (E0 := [(5, .int .i64 (0 : Int)), (0, .vl ρ0 1 (List.map encInt a)), (1, .vl ρ1 1 (List.map encInt b_))]) (H0 := []) rfl (⟨_, _, rfl, rfl, ⟨_, _, rfl, rfl, ⟨_, _, rfl, rfl, rfl⟩⟩⟩) (rfl) rfl ?_
   refine V.loopE (D := Nat × (Int) × (Unit)) (fun ⟨n0, i, _⟩ => [(5, .int .i64 i)]) (fun ⟨n0, i, _⟩ => []) (fun ⟨n0, i, _⟩ => loopO (M.laws_eqIntS_l0 a b_) n0 i = some e0) (fun ⟨n0, _, _⟩ => n0) (rounds, (0 : Int), ()) rfl he1 ?_
   rintro ⟨n0, i, _⟩ hP0
   obtain ⟨m0, y0, rfl, hm1, hl1, hr1⟩ := loop_head hP0
   unfold M.laws_eqIntS_l0 at hm1; dsimp only at hm1
   show V _ _ _ ⟨26, [(5, .int .i64 i), (0, .vl ρ0 1 (List.map encInt a)), (1, .vl ρ1 1 (List.map encInt b_))], []⟩
   refine V.seq ?_
   refine V.seq ?_
   refine V.region ?_
   refine VO.cons rfl (V1.move rfl rfl rfl lt0 ?_)
   refine VO.cons rfl (V1.move rfl rfl rfl lt0 ?_)
   refine VO.cons rfl (V1.lenMap rfl rfl rfl rfl rfl rfl isl_36 lt0 ?_)
   refine VO.cons rfl (V1.int rfl rfl rfl rfl rfl lt0 ?_)
   refine VO.nil ?_
   refine V.cond rfl (fun hc1 => ?_) (fun hc1 => ?_)
   ·
    replace hm1 := cond_t hc1 hm1
    refine V.skip ?_
    refine V.keep 26 [0, 1, 5] [] (E0 := [(0, .vl ρ0 1 (List.map encInt a)), (1, .vl ρ1 1 (List.map encInt b_)), (5, .int .i64 i)]) (H0 := []) rfl (⟨_, _, rfl, rfl, ⟨_, _, rfl, rfl, ⟨_, _, rfl, rfl, rfl⟩⟩⟩) (rfl) rfl ?_
    refine V.seq ?_
    refine V.block ?_
    refine V.seq ?_
    replace hm1 := asrt_some hm1; rcases hm1 with ⟨hh0, hm1⟩
    replace hm1 := asrt_some hm1; rcases hm1 with ⟨hh1, hm1⟩
    refine V.regionM 26 8 [⟨[(0, none)], [], none⟩, ⟨[(5, none)], [], none⟩, ⟨[(17, some 1), (18, some 0)], [], none⟩, ⟨[(19, some 0)], [], none⟩, ⟨[(1, none)], [], none⟩, ⟨[(5, none)], [], none⟩, ⟨[(21, some 1), (22, some 0)], [], none⟩, ⟨[(23, some 0)], [], none⟩] [(0, none), (1, none), (5, none), (20, some 4), (24, some 0)] (⟨_, rfl, ⟨_, rfl, ⟨_, rfl, ⟨_, rfl, ⟨_, rfl, ⟨_, rfl, ⟨_, rfl, ⟨_, rfl, ⟨rfl, rfl⟩⟩⟩⟩⟩⟩⟩⟩⟩) mixed_orders rfl (by decide +kernel) (fun hck6 => ?_)
    refine VP.step (p := ?pv65) rfl rfl rfl (⟨_, _, rfl, rfl, rfl⟩) ?hv65 ?rest65 hck6
    case hv65 =>
     intro E1
     refine (V1.move rfl rfl rfl lt0 ?_)
     exact rfl
    refine VP.step (p := ?pv66) rfl rfl rfl (⟨_, _, rfl, rfl, rfl⟩) ?hv66 ?rest66 hck6
    case hv66 =>
     intro E1
     refine (V1.move rfl rfl rfl lt0 ?_)
     exact rfl
    refine VP.step (p := ?pv67) rfl rfl rfl (⟨_, _, rfl, rfl, ⟨_, _, rfl, rfl, rfl⟩⟩) ?hv67 ?rest67 hck6
    case hv67 =>
     intro E1
     refine (V1.indexI rfl rfl esz_36 rfl rfl hh0 lt0 ?_)
     exact rfl
    refine VP.step (p := ?pv68) rfl rfl rfl (⟨_, _, rfl, rfl, rfl⟩) ?hv68 ?rest68 hck6
    case hv68 =>
     intro E1
     refine (V1.loadPin rfl rfl tyk_3 rfl rfl lt0 ?_)
     exact rfl
    refine VP.step (p := ?pv69) rfl rfl rfl (⟨_, _, rfl, rfl, rfl⟩) ?hv69 ?rest69 hck6
    case hv69 =>
     intro E1
     refine (V1.move rfl rfl rfl lt0 ?_)
     exact rfl
    refine VP.step (p := ?pv70) rfl rfl rfl (⟨_, _, rfl, rfl, rfl⟩) ?hv70 ?rest70 hck6
    case hv70 =>
     intro E1
     refine (V1.move rfl rfl rfl lt0 ?_)
     exact rfl
    refine VP.step (p := ?pv71) rfl rfl rfl (⟨_, _, rfl, rfl, ⟨_, _, rfl, rfl, rfl⟩⟩) ?hv71 ?rest71 hck6
    case hv71 =>
     intro E1
     refine (V1.indexI rfl rfl esz_36 rfl rfl hh1 lt0 ?_)
     exact rfl
    refine VP.step (p := ?pv72) rfl rfl rfl (⟨_, _, rfl, rfl, rfl⟩) ?hv72 ?rest72 hck6
    case hv72 =>
     intro E1
     refine (V1.loadPin rfl rfl tyk_3 rfl rfl lt0 ?_)
     exact rfl
    refine VP.fin rfl (⟨_, _, rfl, rfl, ⟨_, _, rfl, rfl, ⟨_, _, rfl, rfl, ⟨_, _, rfl, rfl, ⟨_, _, rfl, rfl, rfl⟩⟩⟩⟩⟩) ?_
    refine VO.cons rfl (V1.int rfl rfl rfl rfl rfl lt0 ?_)
    refine VO.nil ?_
    refine V.cond rfl (fun hc2 => ?_) (fun hc2 => ?_)
    ·
     replace hm1 := cond_t hc2 hm1
     refine V.seq ?_
     refine V.region ?_
     refine VO.cons rfl (V1.assign rfl rfl rfl lt0 ?_)
     refine VO.nil ?_
     refine V.ret ?_
     obtain rfl := hr1 _ (Option.some.inj hm1).symm
     change some _ = some _ at hm0
     obtain rfl := Option.some.inj hm0
     exact ⟨_, [], ⟨_, _, rfl, rfl, rfl⟩, List.nil_sublist _, rfl, rfl⟩
    ·
     replace hm1 := cond_f hc2 hm1
     refine V.skip ?_
     refine V.region ?_
     refine VO.cons rfl (V1.move rfl rfl rfl lt0 ?_)
     refine VO.cons rfl (V1.int rfl rfl rfl rfl rfl lt0 ?_)
     refine VO.cons rfl (V1.assign rfl rfl rfl lt0 ?_)
     refine VO.nil ?_
     exact ⟨(m0, (IntKind.i64.wrap (i + (1 : Int))), ()), hl1 _ (Option.some.inj hm1).symm, Nat.lt_succ_self _, Keeps.mk (ks := []) rfl ⟨rfl, rfl, rfl, trivial⟩ (rfl) rfl⟩
   ·
    replace hm1 := cond_f hc1 hm1
    refine V.exit ?_
    obtain rfl := hr1 _ (Option.some.inj hm1).symm
    exact ⟨((), ()), rfl, Keeps.mk (ks := []) rfl trivial (rfl) rfl⟩
  ·
   rintro ⟨_, _⟩ rfl
   try dsimp only at hm0
   refine V.seq ?_
   refine V.region ?_
   refine VO.cons rfl (V1.assign rfl rfl rfl lt0 ?_)
   refine VO.nil ?_
   refine V.ret ?_
   obtain rfl := Option.some.inj hm0
   exact ⟨_, [], ⟨_, _, rfl, rfl, rfl⟩, List.nil_sublist _, rfl, rfl⟩

theorem ok_laws_eqCarton {ρ0 ρ1 rn : Nat} {a : Carton} {b_ : Carton} {r : Bool} (h : M.laws_eqCarton a b_ = some r) : Does Try.prog 62 [encCarton ρ0 a, encCarton ρ1 b_] [] rn (fun x H => x = .bool r ∧ H = []) := by
 have hm0 := h; clear h; unfold M.laws_eqCarton at hm0
 try dsimp only at hm0
 refine Does.intro (N := 31) Try.func62 rfl rfl rfl rfl ?_
 intro w0 S0
 refine V.seq ?_
 refine V.region ?_
 refine VO.cons rfl (V1.boxN (n := 5) rfl rfl rfl rfl rfl lt0 ?_)
 intro b0
 refine VO.cons rfl (V1.boxN (n := 5) rfl rfl rfl rfl rfl lt0 ?_)
 intro b1
 refine VO.cons rfl (V1.assign rfl rfl rfl lt0 ?_)
 refine VO.nil ?_
 refine V.seq ?_
 refine V.seq ?_
 refine V.region ?_
 refine VO.cons rfl (V1.fieldRef rfl rfl fo_67_0 rfl lt0 ?_)
 refine VO.cons rfl (V1.loadRef (k := 1) rfl rfl tyk_3 rfl rfl rfl rfl rfl lt0 ?_)
 refine VO.cons rfl (V1.fieldRef rfl rfl fo_67_0 rfl lt0 ?_)
 refine VO.cons rfl (V1.loadRef (k := 0) rfl rfl tyk_3 rfl rfl rfl rfl rfl lt0 ?_)
 refine VO.cons rfl (V1.int rfl rfl rfl rfl rfl lt0 ?_)
 refine VO.nil ?_
 refine V.keep 31 [2, 3, 9] [0, 1] (E0 := [(2, .ref b0 5 0 0), (3, .ref b1 5 0 0), (9, .bool (a.Id != b_.Id))]) (H0 := [(b1, ⟨5, [encCarton ρ1 b_]⟩), (b0, ⟨5, [encCarton ρ0 a]⟩)]) rfl (⟨_, _, rfl, rfl, ⟨_, _, rfl, rfl, ⟨_, _, rfl, rfl, rfl⟩⟩⟩) (⟨_, _, rfl, rfl, ⟨_, _, rfl, rfl, rfl⟩⟩) rfl ?_
 refine V.cond rfl (fun hc0 => ?_) (fun hc0 => ?_)
 ·
  replace hm0 := cond_t hc0 hm0
  refine V.seq ?_
  refine V.region ?_
  refine VO.cons rfl (V1.assign rfl rfl rfl lt0 ?_)
  refine VO.nil ?_
  refine V.ret ?_
  obtain rfl := Option.some.inj hm0
  exact ⟨_, [], ⟨_, _, rfl, rfl, rfl⟩, List.nil_sublist _, rfl, rfl⟩
 ·
  replace hm0 := cond_f hc0 hm0
  refine V.skip ?_
  refine V.seq ?_
  refine V.seq ?_
  refine V.region ?_
  refine VO.cons rfl (V1.fieldRef rfl rfl fo_67_1 rfl lt0 ?_)
  refine VO.cons rfl (V1.loadRef (k := 1) rfl rfl tyk_3 rfl rfl rfl rfl rfl lt0 ?_)
  refine VO.cons rfl (V1.fieldRef rfl rfl fo_67_1 rfl lt0 ?_)
  refine VO.cons rfl (V1.loadRef (k := 0) rfl rfl tyk_3 rfl rfl rfl rfl rfl lt0 ?_)
  refine VO.cons rfl (V1.int rfl rfl rfl rfl rfl lt0 ?_)
  refine VO.nil ?_
  refine V.keep 31 [2, 3, 14] [0, 1] (E0 := [(2, .ref b0 5 0 0), (3, .ref b1 5 0 0), (14, .bool (a.Shelf != b_.Shelf))]) (H0 := [(b1, ⟨5, [encCarton ρ1 b_]⟩), (b0, ⟨5, [encCarton ρ0 a]⟩)]) rfl (⟨_, _, rfl, rfl, ⟨_, _, rfl, rfl, ⟨_, _, rfl, rfl, rfl⟩⟩⟩) (⟨_, _, rfl, rfl, ⟨_, _, rfl, rfl, rfl⟩⟩) rfl ?_
  refine V.cond rfl (fun hc1 => ?_) (fun hc1 => ?_)
  ·
   replace hm0 := cond_t hc1 hm0
   refine V.seq ?_
   refine V.region ?_
   refine VO.cons rfl (V1.assign rfl rfl rfl lt0 ?_)
   refine VO.nil ?_
   refine V.ret ?_
   obtain rfl := Option.some.inj hm0
   exact ⟨_, [], ⟨_, _, rfl, rfl, rfl⟩, List.nil_sublist _, rfl, rfl⟩
  ·
   replace hm0 := cond_f hc1 hm0
   refine V.skip ?_
   refine V.seq ?_
   refine V.seq ?_
   refine V.region ?_
   refine VO.cons rfl (V1.fieldRef rfl rfl fo_67_2 rfl lt0 ?_)
   refine VO.cons rfl (V1.loadRef (k := 1) rfl rfl tyk_3 rfl rfl rfl rfl rfl lt0 ?_)
   refine VO.cons rfl (V1.fieldRef rfl rfl fo_67_2 rfl lt0 ?_)
   refine VO.cons rfl (V1.loadRef (k := 0) rfl rfl tyk_3 rfl rfl rfl rfl rfl lt0 ?_)
   refine VO.cons rfl (V1.int rfl rfl rfl rfl rfl lt0 ?_)
   refine VO.nil ?_
   refine V.keep 31 [2, 3, 19] [0, 1] (E0 := [(2, .ref b0 5 0 0), (3, .ref b1 5 0 0), (19, .bool (a.Room != b_.Room))]) (H0 := [(b1, ⟨5, [encCarton ρ1 b_]⟩), (b0, ⟨5, [encCarton ρ0 a]⟩)]) rfl (⟨_, _, rfl, rfl, ⟨_, _, rfl, rfl, ⟨_, _, rfl, rfl, rfl⟩⟩⟩) (⟨_, _, rfl, rfl, ⟨_, _, rfl, rfl, rfl⟩⟩) rfl ?_
   refine V.cond rfl (fun hc2 => ?_) (fun hc2 => ?_)
   ·
    replace hm0 := cond_t hc2 hm0
    refine V.seq ?_
    refine V.region ?_
    refine VO.cons rfl (V1.assign rfl rfl rfl lt0 ?_)
    refine VO.nil ?_
    refine V.ret ?_
    obtain rfl := Option.some.inj hm0
    exact ⟨_, [], ⟨_, _, rfl, rfl, rfl⟩, List.nil_sublist _, rfl, rfl⟩
   ·
    replace hm0 := cond_f hc2 hm0
    refine V.skip ?_
    refine V.seq ?_
    refine V.seq ?_
    replace hm0 := bindO hm0; rcases hm0 with ⟨y0, hh0, hm0⟩
    refine V.region ?_
    refine VO.cons rfl (V1.fieldRef rfl rfl fo_67_3 rfl lt0 ?_)
    refine VO.cons rfl (V1.loadRef (k := 1) rfl rfl tyk_36 rfl rfl rfl rfl rfl lt0 ?_)
    refine VO.cons rfl (V1.fieldRef rfl rfl fo_67_3 rfl lt0 ?_)
    refine VO.cons rfl (V1.loadRef (k := 0) rfl rfl tyk_36 rfl rfl rfl rfl rfl lt0 ?_)
    refine VO.cons rfl (V1.call rfl rfl rfl cok_24 rfl (ok_laws_eqIntS hh0) rfl lt0 ?_)
    rintro _ _ ⟨rfl, rfl⟩
    refine VO.cons rfl (V1.not rfl rfl rfl lt0 ?_)
    refine VO.nil ?_
    refine V.keep 31 [2, 3, 25] [0, 1] (E0 := [(2, .ref b0 5 0 0), (3, .ref b1 5 0 0), (25, .bool (!y0))]) (H0 := [(b1, ⟨5, [encCarton ρ1 b_]⟩), (b0, ⟨5, [encCarton ρ0 a]⟩)]) rfl (⟨_, _, rfl, rfl, ⟨_, _, rfl, rfl, ⟨_, _, rfl, rfl, rfl⟩⟩⟩) (⟨_, _, rfl, rfl, ⟨_, _, rfl, rfl, rfl⟩⟩) rfl ?_
    refine V.cond rfl (fun hc3 => ?_) (fun hc3 => ?_)
    ·
     replace hm0 := cond_t hc3 hm0
     refine V.seq ?_
     refine V.region ?_
     refine VO.cons rfl (V1.assign rfl rfl rfl lt0 ?_)
     refine VO.nil ?_
     refine V.ret ?_
     obtain rfl := Option.some.inj hm0
     exact ⟨_, [], ⟨_, _, rfl, rfl, rfl⟩, List.nil_sublist _, rfl, rfl⟩
    ·
     replace hm0 := cond_f hc3 hm0
     refine V.skip ?_
     refine V.seq ?_
     refine V.seq ?_
     refine V.region ?_
     refine VO.cons rfl (V1.fieldRef rfl rfl fo_67_4 rfl lt0 ?_)
     refine VO.cons rfl (V1.loadRef (k := 1) rfl rfl tyk_3 rfl rfl rfl rfl rfl lt0 ?_)
     refine VO.cons rfl (V1.fieldRef rfl rfl fo_67_4 rfl lt0 ?_)
     refine VO.cons rfl (V1.loadRef (k := 0) rfl rfl tyk_3 rfl rfl rfl rfl rfl lt0 ?_)
     refine VO.cons rfl (V1.int rfl rfl rfl rfl rfl lt0 ?_)
     refine VO.nil ?_
     refine V.keep 31 [30] [] (E0 := [(30, .bool (a.Thick != b_.Thick))]) (H0 := []) rfl (⟨_, _, rfl, rfl, rfl⟩) (rfl) rfl ?_
     refine V.cond rfl (fun hc4 => ?_) (fun hc4 => ?_)
     ·
      replace hm0 := cond_t hc4 hm0
      refine V.seq ?_
      refine V.region ?_
      refine VO.cons rfl (V1.assign rfl rfl rfl lt0 ?_)
      refine VO.nil ?_
      refine V.ret ?_
      obtain rfl := Option.some.inj hm0
      exact ⟨_, [], ⟨_, _, rfl, rfl, rfl⟩, List.nil_sublist _, rfl, rfl⟩
     ·
      replace hm0 := cond_f hc4 hm0
      refine V.skip ?_
      refine V.seq ?_
      refine V.region ?_
      refine VO.cons rfl (V1.assign rfl rfl rfl lt0 ?_)
      refine VO.nil ?_
      refine V.ret ?_
      obtain rfl := Option.some.inj hm0
      exact ⟨_, [], ⟨_, _, rfl, rfl, rfl⟩, List.nil_sublist _, rfl, rfl⟩

theorem ok_laws_eqCartonS {ρ0 σ0 ρ1 σ1 rn : Nat} {a : List Carton} {b_ : List Carton} {r : Bool} (h : M.laws_eqCartonS a b_ = some r) : Does Try.prog 25 [.vl ρ0 5 (List.map (encCarton σ0) a), .vl ρ1 5 (List.map (encCarton σ1) b_)] [] rn (fun x H => x = .bool r ∧ H = []) := by
 have hm0 := h; clear h; unfold M.laws_eqCartonS at hm0
 try dsimp only at hm0
 refine Does.intro (N := 27) Try.func25 rfl rfl rfl rfl ?_
 intro w0 S0
 refine V.seq ?_
 refine V.region ?_
 refine VO.cons rfl (V1.assign rfl rfl rfl lt0 ?_)
 refine VO.nil ?_
 refine V.seq ?_
 refine V.seq ?_
 refine V.region ?_
 refine VO.cons rfl (V1.move rfl rfl rfl lt0 ?_)
 refine VO.cons rfl (V1.lenMap rfl rfl rfl rfl rfl rfl isl_39 lt0 ?_)
 refine VO.cons rfl (V1.move rfl rfl rfl lt0 ?_)
 refine VO.cons rfl (V1.lenMap rfl rfl rfl rfl rfl rfl isl_39 lt0 ?_)
 refine VO.cons rfl (V1.int rfl rfl rfl rfl rfl lt0 ?_)
 refine VO.nil ?_
 refine V.keep 27 [0, 1, 10] [] (E0 := [(0, .vl ρ0 5 (List.map (encCarton σ0) a)), (1, .vl ρ1 5 (List.map (encCarton σ1) b_)), (10, .bool ((a.length : Int) != (b_.length : Int)))]) (H0 := []) rfl (⟨_, _, rfl, rfl, ⟨_, _, rfl, rfl, ⟨_, _, rfl, rfl, rfl⟩⟩⟩) (rfl) rfl ?_
 refine V.cond rfl (fun hc0 => ?_) (fun hc0 => ?_)
 ·
  replace hm0 := cond_t hc0 hm0
  refine V.seq ?_
  refine V.region ?_
  refine VO.cons rfl (V1.assign rfl rfl rfl lt0 ?_)
  refine VO.nil ?_
  refine V.ret ?_
  obtain rfl := Option.some.inj hm0
  exact ⟨_, [], ⟨_, _, rfl, rfl, rfl⟩, List.nil_sublist _, rfl, rfl⟩
 ·
  replace hm0 := cond_f hc0 hm0
  refine V.skip ?_
  refine V.seq ?_
  refine V.seq ?_
  refine V.region ?_
  refine VO.cons rfl (V1.assign rfl rfl rfl lt0 ?_)
  refine VO.nil ?_
  replace hm0 := bindO hm0; rcases hm0 with ⟨e0, he1, hm0⟩
  refine V.cutT (D := (Unit) × (Unit)) (fun ⟨_, _⟩ => ⟨27, [], []⟩) (fun ⟨_, _⟩ => (.inl () = e0)) ?_ ?_
  ·
   refine V.block ?_
   refine V.keep 27 [5, 0, 1] [] (E0 := [(5, .int .i64 (0 : Int)), (0, .vl ρ0 5 (List.map (encCarton σ0) a)), (1, .vl ρ1 5 (List.map (encCarton σ1) b_))]) (H0 := []) rfl (⟨_, _, rfl, rfl, ⟨_, _, rfl, rfl, ⟨_, _, rfl, rfl, rfl⟩⟩⟩) (rfl) rfl ?_
   refine V.loopE (D := Nat × (Int) × (Unit)) (fun ⟨n0, i, _⟩ => [(5, .int .i64 i)]) (fun ⟨n0, i, _⟩ => []) (fun ⟨n0, i, _⟩ => loopO (M.laws_eqCartonS_l0 a b_) n0 i = some e0) (fun ⟨n0, _, _⟩ => n0) (rounds, (0 : Int), ()) rfl he1 ?_
   rintro ⟨n0, i, _⟩ hP0
   obtain ⟨m0, y0, rfl, hm1, hl1, hr1⟩ := loop_head hP0
   unfold M.laws_eqCartonS_l0 at hm1; dsimp only at hm1
   show V _ _ _ ⟨27, [(5, .int .i64 i), (0, .vl ρ0 5 (List.map (encCarton σ0) a)), (1, .vl ρ1 5 (List.map (encCarton σ1) b_))], []⟩
   refine V.seq ?_
   refine V.seq ?_
   refine V.region ?_
   refine VO.cons rfl (V1.move rfl rfl rfl lt0 ?_)
   refine VO.cons rfl (V1.move rfl rfl rfl lt0 ?_)
   refine VO.cons rfl (V1.lenMap rfl rfl rfl rfl rfl rfl isl_39 lt0 ?_)
   refine VO.cons rfl (V1.int rfl rfl rfl rfl rfl lt0 ?_)
   refine VO.nil ?_
   refine V.cond rfl (fun hc1 => ?_) (fun hc1 => ?_)
   ·
    replace hm1 := cond_t hc1 hm1
    refine V.skip ?_
    refine V.keep 27 [0, 1, 5] [] (E0 := [(0, .vl ρ0 5 (List.map (encCarton σ0) a)), (1, .vl ρ1 5 (List.map (encCarton σ1) b_)), (5, .int .i64 i)]) (H0 := []) rfl (⟨_, _, rfl, rfl, ⟨_, _, rfl, rfl, ⟨_, _, rfl, rfl, rfl⟩⟩⟩) (rfl) rfl ?_
    refine V.seq ?_
    refine V.block ?_
    refine V.seq ?_
    replace hm1 := asrt_some hm1; rcases hm1 with ⟨hh0, hm1⟩
    replace hm1 := asrt_some hm1; rcases hm1 with ⟨hh1, hm1⟩
    replace hm1 := bindO hm1; rcases hm1 with ⟨y1, hh2, hm1⟩
    refine V.regionM 27 8 [⟨[(0, none)], [], none⟩, ⟨[(5, none)], [], none⟩, ⟨[(17, some 1), (18, some 0)], [], none⟩, ⟨[(19, some 0)], [], none⟩, ⟨[(1, none)], [], none⟩, ⟨[(5, none)], [], none⟩, ⟨[(21, some 1), (22, some 0)], [], none⟩, ⟨[(23, some 0)], [], none⟩] [(0, none), (1, none), (5, none), (20, some 4), (24, some 0)] (⟨_, rfl, ⟨_, rfl, ⟨_, rfl, ⟨_, rfl, ⟨_, rfl, ⟨_, rfl, ⟨_, rfl, ⟨_, rfl, ⟨rfl, rfl⟩⟩⟩⟩⟩⟩⟩⟩⟩) mixed_orders rfl (by decide +kernel) (fun hck6 => ?_)
    refine VP.step (p := ?pv82) rfl rfl rfl (⟨_, _, rfl, rfl, rfl⟩) ?hv82 ?rest82 hck6
    case hv82 =>
     intro E1
     refine (V1.move rfl rfl rfl lt0 ?_)
     exact rfl
    refine VP.step (p := ?pv83) rfl rfl rfl (⟨_, _, rfl, rfl, rfl⟩) ?hv83 ?rest83 hck6
    case hv83 =>
     intro E1
     refine (V1.move rfl rfl rfl lt0 ?_)
     exact rfl
    refine VP.step (p := ?pv84) rfl rfl rfl (⟨_, _, rfl, rfl, ⟨_, _, rfl, rfl, rfl⟩⟩) ?hv84 ?rest84 hck6
    case hv84 =>
     intro E1
     refine (V1.indexI rfl rfl esz_39 rfl rfl hh0 lt0 ?_)
     exact rfl
    refine VP.step (p := ?pv85) rfl rfl rfl (⟨_, _, rfl, rfl, rfl⟩) ?hv85 ?rest85 hck6
    case hv85 =>
     intro E1
     refine (V1.loadPinAll rfl rfl tyk_67 rfl rfl lt0 ?_)
     exact rfl
    refine VP.step (p := ?pv86) rfl rfl rfl (⟨_, _, rfl, rfl, rfl⟩) ?hv86 ?rest86 hck6
    case hv86 =>
     intro E1
     refine (V1.move rfl rfl rfl lt0 ?_)
     exact rfl
    refine VP.step (p := ?pv87) rfl rfl rfl (⟨_, _, rfl, rfl, rfl⟩) ?hv87 ?rest87 hck6
    case hv87 =>
     intro E1
     refine (V1.move rfl rfl rfl lt0 ?_)
     exact rfl
    refine VP.step (p := ?pv88) rfl rfl rfl (⟨_, _, rfl, rfl, ⟨_, _, rfl, rfl, rfl⟩⟩) ?hv88 ?rest88 hck6
    case hv88 =>
     intro E1
     refine (V1.indexI rfl rfl esz_39 rfl rfl hh1 lt0 ?_)
     exact rfl
    refine VP.step (p := ?pv89) rfl rfl rfl (⟨_, _, rfl, rfl, rfl⟩) ?hv89 ?rest89 hck6
    case hv89 =>
     intro E1
     refine (V1.loadPinAll rfl rfl tyk_67 rfl rfl lt0 ?_)
     exact rfl
    refine VP.fin rfl (⟨_, _, rfl, rfl, ⟨_, _, rfl, rfl, ⟨_, _, rfl, rfl, ⟨_, _, rfl, rfl, ⟨_, _, rfl, rfl, rfl⟩⟩⟩⟩⟩) ?_
    refine VO.cons rfl (V1.call rfl rfl rfl cok_62 rfl (ok_laws_eqCarton hh2) rfl lt0 ?_)
    rintro _ _ ⟨rfl, rfl⟩
    refine VO.cons rfl (V1.not rfl rfl rfl lt0 ?_)
    refine VO.nil ?_
    refine V.cond rfl (fun hc2 => ?_) (fun hc2 => ?_)
    ·
     replace hm1 := cond_t hc2 hm1
     refine V.seq ?_
     refine V.region ?_
     refine VO.cons rfl (V1.assign rfl rfl rfl lt0 ?_)
     refine VO.nil ?_
     refine V.ret ?_
     obtain rfl := hr1 _ (Option.some.inj hm1).symm
     change some _ = some _ at hm0
     obtain rfl := Option.some.inj hm0
     exact ⟨_, [], ⟨_, _, rfl, rfl, rfl⟩, List.nil_sublist _, rfl, rfl⟩
    ·
     replace hm1 := cond_f hc2 hm1
     refine V.skip ?_
     refine V.keep 27 [0, 1, 5] [] (E0 := [(0, .vl ρ0 5 (List.map (encCarton σ0) a)), (1, .vl ρ1 5 (List.map (encCarton σ1) b_)), (5, .int .i64 i)]) (H0 := []) rfl (⟨_, _, rfl, rfl, ⟨_, _, rfl, rfl, ⟨_, _, rfl, rfl, rfl⟩⟩⟩) (rfl) rfl ?_
     refine V.region ?_
     refine VO.cons rfl (V1.move rfl rfl rfl lt0 ?_)
     refine VO.cons rfl (V1.int rfl rfl rfl rfl rfl lt0 ?_)
     refine VO.cons rfl (V1.assign rfl rfl rfl lt0 ?_)
     refine VO.nil ?_
     exact ⟨(m0, (IntKind.i64.wrap (i + (1 : Int))), ()), hl1 _ (Option.some.inj hm1).symm, Nat.lt_succ_self _, Keeps.mk (ks := []) rfl ⟨rfl, rfl, rfl, trivial⟩ (rfl) rfl⟩
   ·
    replace hm1 := cond_f hc1 hm1
    refine V.exit ?_
    obtain rfl := hr1 _ (Option.some.inj hm1).symm
    exact ⟨((), ()), rfl, Keeps.mk (ks := []) rfl trivial (rfl) rfl⟩
  ·
   rintro ⟨_, _⟩ rfl
   try dsimp only at hm0
   refine V.seq ?_
   refine V.region ?_
   refine VO.cons rfl (V1.assign rfl rfl rfl lt0 ?_)
   refine VO.nil ?_
   refine V.ret ?_
   obtain rfl := Option.some.inj hm0
   exact ⟨_, [], ⟨_, _, rfl, rfl, rfl⟩, List.nil_sublist _, rfl, rfl⟩

theorem ok_laws_markIntS {rn : Nat} {oq : Option Nat} {a : List Int} {k : Int} {r : Int × List Int} (h : M.laws_markIntS a k = some r) (hoq : oq = none → a = []) : Does Try.prog 27 [optS 1 oq (List.length a), .int .i64 k] (optH 1 oq (List.map encInt a)) rn (fun x H => x = .int .i64 r.1 ∧ H = optH 1 oq (List.map encInt r.2)) := by
 have hm0 := h; clear h; unfold M.laws_markIntS at hm0
 try dsimp only at hm0
 refine Does.intro (N := 19) Try.func27 rfl rfl rfl rfl ?_
 intro w0 S0
 rcases oq with _ | oq
 ·
  refine V.seq ?_
  refine V.region ?_
  refine VO.cons rfl (V1.assign rfl rfl rfl lt0 ?_)
  refine VO.nil ?_
  refine V.seq ?_
  refine V.seq ?_
  refine V.region ?_
  refine VO.cons rfl (V1.assign rfl rfl rfl lt0 ?_)
  refine VO.nil ?_
  replace hm0 := bindO hm0; rcases hm0 with ⟨e0, he1, hm0⟩
  refine V.cutT (D := (List Int × Int) × (Unit)) (fun ⟨⟨a0, k0⟩, _⟩ => ⟨19, [(0, .vl rn 1 (List.map encInt a0)), (1, .int .i64 k0)], []⟩) (fun ⟨⟨a0, k0⟩, _⟩ => ((a0, k0) = e0)) ?_ ?_
  ·
   refine V.block ?_
   refine V.keep 19 [0, 1, 5] [] (E0 := [(0, .nils), (1, .int .i64 k), (5, .int .i64 (0 : Int))]) (H0 := []) rfl (⟨_, _, rfl, rfl, ⟨_, _, rfl, rfl, ⟨_, _, rfl, rfl, rfl⟩⟩⟩) (rfl) rfl ?_
   refine V.loopE (D := Nat × (List Int × Int × Int) × (Unit)) (fun ⟨n0, ⟨a1, k1, i⟩, _⟩ => [(0, .nils), (1, .int .i64 k1), (5, .int .i64 i)]) (fun ⟨n0, ⟨a1, k1, i⟩, _⟩ => []) (fun ⟨n0, ⟨a1, k1, i⟩, _⟩ => loopO (M.laws_markIntS_l0) n0 (a1, k1, i) = some e0 ∧ a1 = []) (fun ⟨n0, _, _⟩ => n0) (rounds, (a, k, (0 : Int)), ()) rfl ⟨he1, (hoq rfl)⟩ ?_
   rintro ⟨n0, ⟨a1, k1, i⟩, _⟩ ⟨hP0, hn_a1⟩
   obtain ⟨m0, y0, rfl, hm1, hl1, hr1⟩ := loop_head hP0
   unfold M.laws_markIntS_l0 at hm1; dsimp only at hm1
   show V _ _ _ ⟨19, [(0, .nils), (1, .int .i64 k1), (5, .int .i64 i)], []⟩
   refine V.seq ?_
   refine V.seq ?_
   refine V.region ?_
   refine VO.cons rfl (V1.move rfl rfl rfl lt0 ?_)
   refine VO.cons rfl (V1.move rfl rfl rfl lt0 ?_)
   refine VO.cons rfl (V1.lenNilsE (l := a1) hn_a1 rfl rfl rfl rfl rfl rfl isl_36 lt0 ?_)
   refine VO.cons rfl (V1.int rfl rfl rfl rfl rfl lt0 ?_)
   refine VO.nil ?_
   refine V.cond rfl (fun hc0 => ?_) (fun hc0 => ?_)
   ·
    replace hm1 := cond_t hc0 hm1
    refine V.skip ?_
    refine V.keep 19 [0, 1, 5] [] (E0 := [(0, .nils), (1, .int .i64 k1), (5, .int .i64 i)]) (H0 := []) rfl (⟨_, _, rfl, rfl, ⟨_, _, rfl, rfl, ⟨_, _, rfl, rfl, rfl⟩⟩⟩) (rfl) rfl ?_
    refine V.seq ?_
    refine V.block ?_
    refine V.seq ?_
    replace hm1 := asrt_some hm1; rcases hm1 with ⟨hh0, hm1⟩
    refine V.region ?_
    refine VO.cons rfl (V1.move rfl rfl rfl lt0 ?_)
    refine VO.cons rfl (V1.move rfl rfl rfl lt0 ?_)
    refine VO.cons rfl (V1.move rfl rfl rfl lt0 ?_)
    refine VO.weakenK (Keeps.nilsE (l := a1) 12 rn 1 encInt hn_a1 rfl rfl) ?_
    refine VO.cons rfl (V1.indexI rfl rfl esz_36 rfl rfl hh0 lt0 ?_)
    exact (nilsNo hn_a1 hh0).elim
   ·
    replace hm1 := cond_f hc0 hm1
    refine V.exit ?_
    obtain rfl := hr1 _ (Option.some.inj hm1).symm
    exact ⟨((a1, k1), ()), rfl, Keeps.trans (Keeps.nilsE (l := a1) 0 rn 1 encInt hn_a1 rfl rfl) (Keeps.mk (ks := []) rfl ⟨rfl, rfl, trivial⟩ (rfl) rfl)⟩
  ·
   rintro ⟨⟨a0, k0⟩, _⟩ rfl
   try dsimp only at hm0
   refine V.seq ?_
   refine V.region ?_
   refine VO.cons rfl (V1.move rfl rfl rfl lt0 ?_)
   refine VO.cons rfl (V1.assign rfl rfl rfl lt0 ?_)
   refine VO.nil ?_
   refine V.keep 19 [4] [] (E0 := [(4, .int .i64 k0)]) (H0 := []) rfl (⟨_, _, rfl, rfl, rfl⟩) (rfl) rfl ?_
   refine V.ret ?_
   obtain rfl := Option.some.inj hm0
   exact ⟨_, _, ⟨_, _, rfl, rfl, rfl⟩, List.Sublist.refl _, rfl, rfl⟩
 ·
  refine V.seq ?_
  refine V.region ?_
  refine VO.cons rfl (V1.assign rfl rfl rfl lt0 ?_)
  refine VO.nil ?_
  refine V.seq ?_
  refine V.seq ?_
  refine V.region ?_
  refine VO.cons rfl (V1.assign rfl rfl rfl lt0 ?_)
  refine VO.nil ?_
  replace hm0 := bindO hm0; rcases hm0 with ⟨e0, he1, hm0⟩
  refine V.cutT (D := (List Int × Int) × (Unit)) (fun ⟨⟨a0, k0⟩, _⟩ => ⟨19, [(0, .sref oq 1 0 (List.length a0)), (1, .int .i64 k0)], [(oq, ⟨1, List.map encInt a0⟩)]⟩) (fun ⟨⟨a0, k0⟩, _⟩ => ((a0, k0) = e0)) ?_ ?_
  ·
   refine V.block ?_
   refine V.keep 19 [0, 1, 5] [0] (E0 := [(0, .sref oq 1 0 (List.length a)), (1, .int .i64 k), (5, .int .i64 (0 : Int))]) (H0 := [(oq, ⟨1, List.map encInt a⟩)]) rfl (⟨_, _, rfl, rfl, ⟨_, _, rfl, rfl, ⟨_, _, rfl, rfl, rfl⟩⟩⟩) (⟨_, _, rfl, rfl, rfl⟩) rfl ?_
   refine V.loopE (D := Nat × (List Int × Int × Int) × (Unit)) (fun ⟨n0, ⟨a1, k1, i⟩, _⟩ => [(0, .sref oq 1 0 (List.length a1)), (1, .int .i64 k1), (5, .int .i64 i)]) (fun ⟨n0, ⟨a1, k1, i⟩, _⟩ => [(oq, ⟨1, List.map encInt a1⟩)]) (fun ⟨n0, ⟨a1, k1, i⟩, _⟩ => loopO (M.laws_markIntS_l0) n0 (a1, k1, i) = some e0) (fun ⟨n0, _, _⟩ => n0) (rounds, (a, k, (0 : Int)), ()) rfl he1 ?_
   rintro ⟨n0, ⟨a1, k1, i⟩, _⟩ hP0
   obtain ⟨m0, y0, rfl, hm1, hl1, hr1⟩ := loop_head hP0
   unfold M.laws_markIntS_l0 at hm1; dsimp only at hm1
   show V _ _ _ ⟨19, [(0, .sref oq 1 0 (List.length a1)), (1, .int .i64 k1), (5, .int .i64 i)], [(oq, ⟨1, List.map encInt a1⟩)]⟩
   refine V.seq ?_
   refine V.seq ?_
   refine V.region ?_
   refine VO.cons rfl (V1.move rfl rfl rfl lt0 ?_)
   refine VO.cons rfl (V1.move rfl rfl rfl lt0 ?_)
   refine VO.cons rfl (V1.lenSref rfl rfl rfl rfl rfl rfl isl_36 lt0 ?_)
   refine VO.cons rfl (V1.int rfl rfl rfl rfl rfl lt0 ?_)
   refine VO.nil ?_
   refine V.cond rfl (fun hc0 => ?_) (fun hc0 => ?_)
   ·
    replace hm1 := cond_t hc0 hm1
    refine V.skip ?_
    refine V.keep 19 [0, 1, 5] [0] (E0 := [(0, .sref oq 1 0 (List.length a1)), (1, .int .i64 k1), (5, .int .i64 i)]) (H0 := [(oq, ⟨1, List.map encInt a1⟩)]) rfl (⟨_, _, rfl, rfl, ⟨_, _, rfl, rfl, ⟨_, _, rfl, rfl, rfl⟩⟩⟩) (⟨_, _, rfl, rfl, rfl⟩) rfl ?_
    refine V.seq ?_
    refine V.block ?_
    refine V.seq ?_
    replace hm1 := asrt_some hm1; rcases hm1 with ⟨hh0, hm1⟩
    refine V.region ?_
    refine VO.cons rfl (V1.move rfl rfl rfl lt0 ?_)
    refine VO.cons rfl (V1.move rfl rfl rfl lt0 ?_)
    refine VO.cons rfl (V1.move rfl rfl rfl lt0 ?_)
    refine VO.cons rfl (V1.indexSr rfl rfl esz_36 rfl rfl hh0 lt0 ?_)
    refine VO.cons rfl (V1.storeMap (k := 0) (f := encInt) (x := k1) rfl rfl tyk_3 rfl rfl (by simpa using natLt hh0.1 hh0.2) rfl rfl ?_)
    refine VO.weakenK (Keeps.say 0 (y := .sref oq 1 0 (List.length (a1.set (Int.toNat i) k1))) rfl (by simp [optS])) ?_
    refine VO.nil ?_
    refine V.region ?_
    refine VO.cons rfl (V1.move rfl rfl rfl lt0 ?_)
    refine VO.cons rfl (V1.int rfl rfl rfl rfl rfl lt0 ?_)
    refine VO.cons rfl (V1.assign rfl rfl rfl lt0 ?_)
    refine VO.nil ?_
    refine V.keep 19 [0, 1, 5] [0] (E0 := [(0, .sref oq 1 0 (List.length (a1.set (Int.toNat i) k1))), (1, .int .i64 (IntKind.i64.wrap (k1 + (1 : Int)))), (5, .int .i64 i)]) (H0 := [(oq, ⟨1, List.map encInt (a1.set (Int.toNat i) k1)⟩)]) rfl (⟨_, _, rfl, rfl, ⟨_, _, rfl, rfl, ⟨_, _, rfl, rfl, rfl⟩⟩⟩) (⟨_, _, rfl, rfl, rfl⟩) rfl ?_
    refine V.region ?_
    refine VO.cons rfl (V1.move rfl rfl rfl lt0 ?_)
    refine VO.cons rfl (V1.int rfl rfl rfl rfl rfl lt0 ?_)
    refine VO.cons rfl (V1.assign rfl rfl rfl lt0 ?_)
    refine VO.nil ?_
    exact ⟨(m0, ((a1.set (Int.toNat i) k1), (IntKind.i64.wrap (k1 + (1 : Int))), (IntKind.i64.wrap (i + (1 : Int)))), ()), hl1 _ (Option.some.inj hm1).symm, Nat.lt_succ_self _, Keeps.mk (ks := [0]) rfl ⟨(someSref (by simp)), rfl, rfl, trivial⟩ (⟨_, _, rfl, rfl, rfl⟩) rfl⟩
   ·
    replace hm1 := cond_f hc0 hm1
    refine V.exit ?_
    obtain rfl := hr1 _ (Option.some.inj hm1).symm
    exact ⟨((a1, k1), ()), rfl, Keeps.mk (ks := [0]) rfl ⟨(someSref (by simp)), rfl, trivial⟩ (⟨_, _, rfl, rfl, rfl⟩) rfl⟩
  ·
   rintro ⟨⟨a0, k0⟩, _⟩ rfl
   try dsimp only at hm0
   refine V.seq ?_
   refine V.region ?_
   refine VO.cons rfl (V1.move rfl rfl rfl lt0 ?_)
   refine VO.cons rfl (V1.assign rfl rfl rfl lt0 ?_)
   refine VO.nil ?_
   refine V.keep 19 [4] [0] (E0 := [(4, .int .i64 k0)]) (H0 := [(oq, ⟨1, List.map encInt a0⟩)]) rfl (⟨_, _, rfl, rfl, rfl⟩) (⟨_, _, rfl, rfl, rfl⟩) rfl ?_
   refine V.ret ?_
   obtain rfl := Option.some.inj hm0
   exact ⟨_, _, ⟨_, _, rfl, rfl, rfl⟩, List.Sublist.refl _, rfl, rfl⟩

theorem ok_laws_markCartonS {rn : Nat} {oq : Option Nat} {tq : List PV} {oz : List (Nat × Obj')} {a : List Carton} {k : Int} {r : Int × List Carton} (h : M.laws_markCartonS a k = some r) (hoq : oq = none → a = []) (hdq : Deep 1 (fun c_ : Carton => List.map encInt c_.Files) tq oz a) : Does Try.prog 26 [optS 5 oq (List.length a), .int .i64 k] (optH 5 oq (deepC cellCarton tq a) ++ oz) rn (fun x H => ∃ (tr_ : List PV) (or_ : List (Nat × Obj')), Deep 1 (fun c_ : Carton => List.map encInt c_.Files) tr_ or_ r.2 ∧ x = .int .i64 r.1 ∧ H = (optH 5 oq (deepC cellCarton tr_ r.2) ++ or_)) := by
 have hm0 := h; clear h; unfold M.laws_markCartonS at hm0
 try dsimp only at hm0
 refine Does.intro (N := 48) Try.func26 rfl rfl rfl rfl ?_
 intro w0 S0
 rcases oq with _ | oq
 ·
  obtain ⟨rfl, rfl⟩ := Deep.nil (hoq rfl) hdq
  refine V.seq ?_
  refine V.region ?_
  refine VO.cons rfl (V1.assign rfl rfl rfl lt0 ?_)
  refine VO.nil ?_
  refine V.seq ?_
  refine V.seq ?_
  refine V.region ?_
  refine VO.cons rfl (V1.assign rfl rfl rfl lt0 ?_)
  refine VO.nil ?_
  replace hm0 := bindO hm0; rcases hm0 with ⟨e0, he1, hm0⟩
  refine V.cutT (D := (List Carton × Int) × (Unit)) (fun ⟨⟨a0, k0⟩, _⟩ => ⟨48, [(0, .nils), (1, .int .i64 k0)], []⟩) (fun ⟨⟨a0, k0⟩, _⟩ => ((a0, k0) = e0) ∧ a0 = []) ?_ ?_
  ·
   refine V.block ?_
   refine V.keep 48 [0, 1, 5] [] (E0 := [(0, .nils), (1, .int .i64 k), (5, .int .i64 (0 : Int))]) (H0 := []) rfl (⟨_, _, rfl, rfl, ⟨_, _, rfl, rfl, ⟨_, _, rfl, rfl, rfl⟩⟩⟩) (rfl) rfl ?_
   refine V.loopE (D := Nat × (List Carton × Int × Int) × (Unit)) (fun ⟨n0, ⟨a1, k1, i⟩, _⟩ => [(0, .nils), (1, .int .i64 k1), (5, .int .i64 i)]) (fun ⟨n0, ⟨a1, k1, i⟩, _⟩ => []) (fun ⟨n0, ⟨a1, k1, i⟩, _⟩ => loopO (M.laws_markCartonS_l0) n0 (a1, k1, i) = some e0 ∧ a1 = []) (fun ⟨n0, _, _⟩ => n0) (rounds, (a, k, (0 : Int)), ()) rfl ⟨he1, (hoq rfl)⟩ ?_
   rintro ⟨n0, ⟨a1, k1, i⟩, _⟩ ⟨hP0, hn_a1⟩
   obtain ⟨m0, y0, rfl, hm1, hl1, hr1⟩ := loop_head hP0
   unfold M.laws_markCartonS_l0 at hm1; dsimp only at hm1
   show V _ _ _ ⟨48, [(0, .nils), (1, .int .i64 k1), (5, .int .i64 i)], []⟩
   refine V.seq ?_
   refine V.seq ?_
   refine V.region ?_
   refine VO.cons rfl (V1.move rfl rfl rfl lt0 ?_)
   refine VO.cons rfl (V1.move rfl rfl rfl lt0 ?_)
   refine VO.cons rfl (V1.lenNilsE (l := a1) hn_a1 rfl rfl rfl rfl rfl rfl isl_39 lt0 ?_)
   refine VO.cons rfl (V1.int rfl rfl rfl rfl rfl lt0 ?_)
   refine VO.nil ?_
   refine V.cond rfl (fun hc0 => ?_) (fun hc0 => ?_)
   ·
    replace hm1 := cond_t hc0 hm1
    refine V.skip ?_
    refine V.keep 48 [0, 1, 5] [] (E0 := [(0, .nils), (1, .int .i64 k1), (5, .int .i64 i)]) (H0 := []) rfl (⟨_, _, rfl, rfl, ⟨_, _, rfl, rfl, ⟨_, _, rfl, rfl, rfl⟩⟩⟩) (rfl) rfl ?_
    refine V.seq ?_
    refine V.block ?_
    refine V.seq ?_
    replace hm1 := asrt_some hm1; rcases hm1 with ⟨hh0, hm1⟩
    refine V.region ?_
    refine VO.cons rfl (V1.move rfl rfl rfl lt0 ?_)
    refine VO.cons rfl (V1.move rfl rfl rfl lt0 ?_)
    refine VO.cons rfl (V1.move rfl rfl rfl lt0 ?_)
    refine VO.weakenK (Keeps.nilsE (l := a1) 12 rn 5 (encCarton rn) hn_a1 rfl rfl) ?_
    refine VO.cons rfl (V1.indexI rfl rfl esz_39 rfl rfl hh0 lt0 ?_)
    refine VO.cons rfl (V1.fieldPin rfl rfl fo_67_0 rfl lt0 ?_)
    exact (nilsNo hn_a1 hh0).elim
   ·
    replace hm1 := cond_f hc0 hm1
    refine V.exit ?_
    obtain rfl := hr1 _ (Option.some.inj hm1).symm
    exact ⟨((a1, k1), ()), ⟨rfl, hn_a1⟩, Keeps.mk (ks := []) rfl ⟨rfl, rfl, trivial⟩ (rfl) rfl⟩
  ·
   rintro ⟨⟨a0, k0⟩, _⟩ ⟨rfl, hn_a0⟩
   try dsimp only at hm0
   refine V.seq ?_
   refine V.region ?_
   refine VO.cons rfl (V1.move rfl rfl rfl lt0 ?_)
   refine VO.cons rfl (V1.assign rfl rfl rfl lt0 ?_)
   refine VO.nil ?_
   refine V.keep 48 [4] [] (E0 := [(4, .int .i64 k0)]) (H0 := []) rfl (⟨_, _, rfl, rfl, rfl⟩) (rfl) rfl ?_
   refine V.ret ?_
   obtain rfl := Option.some.inj hm0
   exact ⟨_, _, ⟨_, _, rfl, rfl, rfl⟩, List.Sublist.refl _, [], [], (Deep.ofNil hn_a0), rfl, rfl⟩
 ·
  refine V.seq ?_
  refine V.region ?_
  refine VO.cons rfl (V1.assign rfl rfl rfl lt0 ?_)
  refine VO.nil ?_
  refine V.seq ?_
  refine V.seq ?_
  refine V.region ?_
  refine VO.cons rfl (V1.assign rfl rfl rfl lt0 ?_)
  refine VO.nil ?_
  replace hm0 := bindO hm0; rcases hm0 with ⟨e0, he1, hm0⟩
  refine V.cutT (D := (List Carton × Int) × (List PV × (List (Nat × Obj')))) (fun ⟨⟨a0, k0⟩, ⟨ts_76, os_76⟩⟩ => ⟨48, [(0, .sref oq 5 0 (List.length a0)), (1, .int .i64 k0)], ([(oq, ⟨5, deepC cellCarton ts_76 a0⟩)]) ++ os_76⟩) (fun ⟨⟨a0, k0⟩, ⟨ts_76, os_76⟩⟩ => ((a0, k0) = e0) ∧ Deep 1 (fun c_ : Carton => List.map encInt c_.Files) ts_76 os_76 a0) ?_ ?_
  ·
   refine V.block ?_
   refine V.keepT 48 [0, 1, 5] [0] (E0 := [(0, .sref oq 5 0 (List.length a)), (1, .int .i64 k), (5, .int .i64 (0 : Int))]) (A := [(oq, ⟨5, deepC cellCarton tq a⟩)]) (T := oz) (H0 := [(oq, ⟨5, deepC cellCarton tq a⟩)]) (T' := oz) rfl (⟨_, _, rfl, rfl, ⟨_, _, rfl, rfl, ⟨_, _, rfl, rfl, rfl⟩⟩⟩) rfl (⟨_, _, rfl, rfl, rfl⟩) rfl (List.Sublist.refl _) ?_
   refine V.loopT (D := Nat × (List Carton × Int × Int) × (List PV × (List (Nat × Obj')))) (fun ⟨n0, ⟨a1, k1, i⟩, ⟨ts_77, os_77⟩⟩ => [(0, .sref oq 5 0 (List.length a1)), (1, .int .i64 k1), (5, .int .i64 i)]) (fun ⟨n0, ⟨a1, k1, i⟩, ⟨ts_77, os_77⟩⟩ => ([(oq, ⟨5, deepC cellCarton ts_77 a1⟩)]) ++ os_77) (fun ⟨n0, ⟨a1, k1, i⟩, ⟨ts_77, os_77⟩⟩ => loopO (M.laws_markCartonS_l0) n0 (a1, k1, i) = some e0 ∧ Deep 1 (fun c_ : Carton => List.map encInt c_.Files) ts_77 os_77 a1) (fun ⟨n0, _, _⟩ => n0) (rounds, (a, k, (0 : Int)), (tq, oz)) rfl ⟨he1, hdq⟩ ?_
   rintro ⟨n0, ⟨a1, k1, i⟩, ⟨ts_77, os_77⟩⟩ ⟨hP0, hd_77⟩
   obtain ⟨m0, y0, rfl, hm1, hl1, hr1⟩ := loop_head hP0
   unfold M.laws_markCartonS_l0 at hm1; dsimp only at hm1
   show V _ _ _ ⟨48, [(0, .sref oq 5 0 (List.length a1)), (1, .int .i64 k1), (5, .int .i64 i)], (([(oq, ⟨5, deepC cellCarton ts_77 a1⟩)] : List (Nat × Obj')) ++ os_77)⟩
   refine V.seq ?_
   refine V.seq ?_
   refine V.region ?_
   refine VO.cons rfl (V1.move rfl rfl rfl lt0 ?_)
   refine VO.cons rfl (V1.move rfl rfl rfl lt0 ?_)
   refine VO.cons rfl (V1.lenSref rfl rfl rfl rfl rfl rfl isl_39 lt0 ?_)
   refine VO.cons rfl (V1.int rfl rfl rfl rfl rfl lt0 ?_)
   refine VO.nil ?_
   refine V.cond rfl (fun hc0 => ?_) (fun hc0 => ?_)
   ·
    replace hm1 := cond_t hc0 hm1
    refine V.skip ?_
    refine V.keepT 48 [0, 1, 5] [0] (E0 := [(0, .sref oq 5 0 (List.length a1)), (1, .int .i64 k1), (5, .int .i64 i)]) (A := [(oq, ⟨5, deepC cellCarton ts_77 a1⟩)]) (T := os_77) (H0 := [(oq, ⟨5, deepC cellCarton ts_77 a1⟩)]) (T' := os_77) rfl (⟨_, _, rfl, rfl, ⟨_, _, rfl, rfl, ⟨_, _, rfl, rfl, rfl⟩⟩⟩) rfl (⟨_, _, rfl, rfl, rfl⟩) rfl (List.Sublist.refl _) ?_
    refine V.seq ?_
    refine V.block ?_
    refine V.seq ?_
    replace hm1 := asrt_some hm1; rcases hm1 with ⟨hh0, hm1⟩
    refine V.region ?_
    refine VO.cons rfl (V1.move rfl rfl rfl lt0 ?_)
    refine VO.cons rfl (V1.move rfl rfl rfl lt0 ?_)
    refine VO.cons rfl (V1.move rfl rfl rfl lt0 ?_)
    refine VO.cons rfl (V1.indexSr rfl rfl esz_39 rfl rfl hh0 lt0 ?_)
    refine VO.cons rfl (V1.fieldRef rfl rfl fo_67_0 rfl lt0 ?_)
    refine VO.cons rfl (V1.storeDeepCell (inn := (fun c_ : Carton => List.map encInt c_.Files)) (cell := cellCarton) (ts := ts_77) (xs := a1) (k := 0) cokCarton (⟨k1, (a1.getD (Int.toNat i) default).Shelf, (a1.getD (Int.toNat i) default).Room, (a1.getD (Int.toNat i) default).Files, (a1.getD (Int.toNat i) default).Thick⟩ : Carton) rfl rfl tyk_3 rfl rfl hd_77 (by simpa using natLt hh0.1 hh0.2) rfl rfl rfl rfl (fun _ => rfl) ?_)
    have hd_78 := Deep.setSame (i := (Int.toNat i)) (⟨k1, (a1.getD (Int.toNat i) default).Shelf, (a1.getD (Int.toNat i) default).Room, (a1.getD (Int.toNat i) default).Files, (a1.getD (Int.toNat i) default).Thick⟩ : Carton) rfl hd_77
    refine VO.weakenK (Keeps.say 0 (y := .sref oq 5 0 (List.length (a1.set (Int.toNat i) (⟨k1, (a1.getD (Int.toNat i) default).Shelf, (a1.getD (Int.toNat i) default).Room, (a1.getD (Int.toNat i) default).Files, (a1.getD (Int.toNat i) default).Thick⟩ : Carton)))) rfl (by simp [optS])) ?_
    refine VO.nil ?_
    refine V.keepT 48 [0, 1, 5] [0] (E0 := [(0, .sref oq 5 0 (List.length (a1.set (Int.toNat i) (⟨k1, (a1.getD (Int.toNat i) default).Shelf, (a1.getD (Int.toNat i) default).Room, (a1.getD (Int.toNat i) default).Files, (a1.getD (Int.toNat i) default).Thick⟩ : Carton)))), (1, .int .i64 k1), (5, .int .i64 i)]) (A := [(oq, ⟨5, deepC cellCarton ts_77 (a1.set (Int.toNat i) (⟨k1, (a1.getD (Int.toNat i) default).Shelf, (a1.getD (Int.toNat i) default).Room, (a1.getD (Int.toNat i) default).Files, (a1.getD (Int.toNat i) default).Thick⟩ : Carton))⟩)]) (T := os_77) (H0 := [(oq, ⟨5, deepC cellCarton ts_77 (a1.set (Int.toNat i) (⟨k1, (a1.getD (Int.toNat i) default).Shelf, (a1.getD (Int.toNat i) default).Room, (a1.getD (Int.toNat i) default).Files, (a1.getD (Int.toNat i) default).Thick⟩ : Carton))⟩)]) (T' := os_77) rfl (⟨_, _, rfl, rfl, ⟨_, _, rfl, rfl, ⟨_, _, rfl, rfl, rfl⟩⟩⟩) rfl (⟨_, _, rfl, rfl, rfl⟩) rfl (List.Sublist.refl _) ?_
    refine V.seq ?_
    refine V.region ?_
    refine VO.cons rfl (V1.move rfl rfl rfl lt0 ?_)
    refine VO.cons rfl (V1.int rfl rfl rfl rfl rfl lt0 ?_)
    refine VO.cons rfl (V1.assign rfl rfl rfl lt0 ?_)
    refine VO.nil ?_
    refine V.seq ?_
    replace hm1 := asrt_some hm1; rcases hm1 with ⟨hh1, hm1⟩
    refine V.region ?_
    refine VO.cons rfl (V1.move rfl rfl rfl lt0 ?_)
    refine VO.cons rfl (V1.move rfl rfl rfl lt0 ?_)
    refine VO.cons rfl (V1.move rfl rfl rfl lt0 ?_)
    refine VO.cons rfl (V1.indexSr rfl rfl esz_39 rfl rfl hh1 lt0 ?_)
    refine VO.cons rfl (V1.fieldRef rfl rfl fo_67_1 rfl lt0 ?_)
    refine VO.cons rfl (V1.storeDeepCell (inn := (fun c_ : Carton => List.map encInt c_.Files)) (cell := cellCarton) (ts := ts_77) (xs := (a1.set (Int.toNat i) (⟨k1, (a1.getD (Int.toNat i) default).Shelf, (a1.getD (Int.toNat i) default).Room, (a1.getD (Int.toNat i) default).Files, (a1.getD (Int.toNat i) default).Thick⟩ : Carton))) (k := 0) cokCarton (⟨((a1.set (Int.toNat i) (⟨k1, (a1.getD (Int.toNat i) default).Shelf, (a1.getD (Int.toNat i) default).Room, (a1.getD (Int.toNat i) default).Files, (a1.getD (Int.toNat i) default).Thick⟩ : Carton)).getD (Int.toNat i) default).Id, (IntKind.i64.wrap (k1 + (1 : Int))), ((a1.set (Int.toNat i) (⟨k1, (a1.getD (Int.toNat i) default).Shelf, (a1.getD (Int.toNat i) default).Room, (a1.getD (Int.toNat i) default).Files, (a1.getD (Int.toNat i) default).Thick⟩ : Carton)).getD (Int.toNat i) default).Room, ((a1.set (Int.toNat i) (⟨k1, (a1.getD (Int.toNat i) default).Shelf, (a1.getD (Int.toNat i) default).Room, (a1.getD (Int.toNat i) default).Files, (a1.getD (Int.toNat i) default).Thick⟩ : Carton)).getD (Int.toNat i) default).Files, ((a1.set (Int.toNat i) (⟨k1, (a1.getD (Int.toNat i) default).Shelf, (a1.getD (Int.toNat i) default).Room, (a1.getD (Int.toNat i) default).Files, (a1.getD (Int.toNat i) default).Thick⟩ : Carton)).getD (Int.toNat i) default).Thick⟩ : Carton) rfl rfl tyk_3 rfl rfl hd_78 (by simpa using natLt hh1.1 hh1.2) rfl rfl rfl rfl (fun _ => rfl) ?_)
    have hd_79 := Deep.setSame (i := (Int.toNat i)) (⟨((a1.set (Int.toNat i) (⟨k1, (a1.getD (Int.toNat i) default).Shelf, (a1.getD (Int.toNat i) default).Room, (a1.getD (Int.toNat i) default).Files, (a1.getD (Int.toNat i) default).Thick⟩ : Carton)).getD (Int.toNat i) default).Id, (IntKind.i64.wrap (k1 + (1 : Int))), ((a1.set (Int.toNat i) (⟨k1, (a1.getD (Int.toNat i) default).Shelf, (a1.getD (Int.toNat i) default).Room, (a1.getD (Int.toNat i) default).Files, (a1.getD (Int.toNat i) default).Thick⟩ : Carton)).getD (Int.toNat i) default).Room, ((a1.set (Int.toNat i) (⟨k1, (a1.getD (Int.toNat i) default).Shelf, (a1.getD (Int.toNat i) default).Room, (a1.getD (Int.toNat i) default).Files, (a1.getD (Int.toNat i) default).Thick⟩ : Carton)).getD (Int.toNat i) default).Files, ((a1.set (Int.toNat i) (⟨k1, (a1.getD (Int.toNat i) default).Shelf, (a1.getD (Int.toNat i) default).Room, (a1.getD (Int.toNat i) default).Files, (a1.getD (Int.toNat i) default).Thick⟩ : Carton)).getD (Int.toNat i) default).Thick⟩ : Carton) rfl hd_78
    have hu_79 : ((a1.set (Int.toNat i) (⟨k1, (a1.getD (Int.toNat i) default).Shelf, (a1.getD (Int.toNat i) default).Room, (a1.getD (Int.toNat i) default).Files, (a1.getD (Int.toNat i) default).Thick⟩ : Carton)).set (Int.toNat i) (⟨((a1.set (Int.toNat i) (⟨k1, (a1.getD (Int.toNat i) default).Shelf, (a1.getD (Int.toNat i) default).Room, (a1.getD (Int.toNat i) default).Files, (a1.getD (Int.toNat i) default).Thick⟩ : Carton)).getD (Int.toNat i) default).Id, (IntKind.i64.wrap (k1 + (1 : Int))), ((a1.set (Int.toNat i) (⟨k1, (a1.getD (Int.toNat i) default).Shelf, (a1.getD (Int.toNat i) default).Room, (a1.getD (Int.toNat i) default).Files, (a1.getD (Int.toNat i) default).Thick⟩ : Carton)).getD (Int.toNat i) default).Room, ((a1.set (Int.toNat i) (⟨k1, (a1.getD (Int.toNat i) default).Shelf, (a1.getD (Int.toNat i) default).Room, (a1.getD (Int.toNat i) default).Files, (a1.getD (Int.toNat i) default).Thick⟩ : Carton)).getD (Int.toNat i) default).Files, ((a1.set (Int.toNat i) (⟨k1, (a1.getD (Int.toNat i) default).Shelf, (a1.getD (Int.toNat i) default).Room, (a1.getD (Int.toNat i) default).Files, (a1.getD (Int.toNat i) default).Thick⟩ : Carton)).getD (Int.toNat i) default).Thick⟩ : Carton)) = (a1.set (Int.toNat i) (⟨k1, (IntKind.i64.wrap (k1 + (1 : Int))), (a1.getD (Int.toNat i) default).Room, (a1.getD (Int.toNat i) default).Files, (a1.getD (Int.toNat i) default).Thick⟩ : Carton)) := set_upd (fun y_ => (⟨y_.Id, (IntKind.i64.wrap (k1 + (1 : Int))), y_.Room, y_.Files, y_.Thick⟩ : Carton)) (by simpa using natLt hh0.1 hh0.2) rfl
    refine VO.weakenK (Keeps.sayObj 0 (ys := deepC cellCarton ts_77 (a1.set (Int.toNat i) (⟨k1, (IntKind.i64.wrap (k1 + (1 : Int))), (a1.getD (Int.toNat i) default).Room, (a1.getD (Int.toNat i) default).Files, (a1.getD (Int.toNat i) default).Thick⟩ : Carton))) rfl (congrArg (deepC cellCarton ts_77) hu_79)) ?_
    rw [hu_79] at hd_79
    refine VO.weakenK (Keeps.say 0 (y := .sref oq 5 0 (List.length (a1.set (Int.toNat i) (⟨k1, (IntKind.i64.wrap (k1 + (1 : Int))), (a1.getD (Int.toNat i) default).Room, (a1.getD (Int.toNat i) default).Files, (a1.getD (Int.toNat i) default).Thick⟩ : Carton)))) rfl (by simp [optS])) ?_
    refine VO.nil ?_
    refine V.keepT 48 [0, 1, 5] [0] (E0 := [(0, .sref oq 5 0 (List.length (a1.set (Int.toNat i) (⟨k1, (IntKind.i64.wrap (k1 + (1 : Int))), (a1.getD (Int.toNat i) default).Room, (a1.getD (Int.toNat i) default).Files, (a1.getD (Int.toNat i) default).Thick⟩ : Carton)))), (1, .int .i64 (IntKind.i64.wrap (k1 + (1 : Int)))), (5, .int .i64 i)]) (A := [(oq, ⟨5, deepC cellCarton ts_77 (a1.set (Int.toNat i) (⟨k1, (IntKind.i64.wrap (k1 + (1 : Int))), (a1.getD (Int.toNat i) default).Room, (a1.getD (Int.toNat i) default).Files, (a1.getD (Int.toNat i) default).Thick⟩ : Carton))⟩)]) (T := os_77) (H0 := [(oq, ⟨5, deepC cellCarton ts_77 (a1.set (Int.toNat i) (⟨k1, (IntKind.i64.wrap (k1 + (1 : Int))), (a1.getD (Int.toNat i) default).Room, (a1.getD (Int.toNat i) default).Files, (a1.getD (Int.toNat i) default).Thick⟩ : Carton))⟩)]) (T' := os_77) rfl (⟨_, _, rfl, rfl, ⟨_, _, rfl, rfl, ⟨_, _, rfl, rfl, rfl⟩⟩⟩) rfl (⟨_, _, rfl, rfl, rfl⟩) rfl (List.Sublist.refl _) ?_
    refine V.seq ?_
    refine V.region ?_
    refine VO.cons rfl (V1.move rfl rfl rfl lt0 ?_)
    refine VO.cons rfl (V1.int rfl rfl rfl rfl rfl lt0 ?_)
    refine VO.cons rfl (V1.assign rfl rfl rfl lt0 ?_)
    refine VO.nil ?_
    refine V.seq ?_
    replace hm1 := asrt_some hm1; rcases hm1 with ⟨hh2, hm1⟩
    refine V.region ?_
    refine VO.cons rfl (V1.move rfl rfl rfl lt0 ?_)
    refine VO.cons rfl (V1.move rfl rfl rfl lt0 ?_)
    refine VO.cons rfl (V1.move rfl rfl rfl lt0 ?_)
    refine VO.cons rfl (V1.indexSr rfl rfl esz_39 rfl rfl hh2 lt0 ?_)
    refine VO.cons rfl (V1.fieldRef rfl rfl fo_67_2 rfl lt0 ?_)
    refine VO.cons rfl (V1.storeDeepCell (inn := (fun c_ : Carton => List.map encInt c_.Files)) (cell := cellCarton) (ts := ts_77) (xs := (a1.set (Int.toNat i) (⟨k1, (IntKind.i64.wrap (k1 + (1 : Int))), (a1.getD (Int.toNat i) default).Room, (a1.getD (Int.toNat i) default).Files, (a1.getD (Int.toNat i) default).Thick⟩ : Carton))) (k := 0) cokCarton (⟨((a1.set (Int.toNat i) (⟨k1, (IntKind.i64.wrap (k1 + (1 : Int))), (a1.getD (Int.toNat i) default).Room, (a1.getD (Int.toNat i) default).Files, (a1.getD (Int.toNat i) default).Thick⟩ : Carton)).getD (Int.toNat i) default).Id, ((a1.set (Int.toNat i) (⟨k1, (IntKind.i64.wrap (k1 + (1 : Int))), (a1.getD (Int.toNat i) default).Room, (a1.getD (Int.toNat i) default).Files, (a1.getD (Int.toNat i) default).Thick⟩ : Carton)).getD (Int.toNat i) default).Shelf, (IntKind.i64.wrap ((IntKind.i64.wrap (k1 + (1 : Int))) + (1 : Int))), ((a1.set (Int.toNat i) (⟨k1, (IntKind.i64.wrap (k1 + (1 : Int))), (a1.getD (Int.toNat i) default).Room, (a1.getD (Int.toNat i) default).Files, (a1.getD (Int.toNat i) default).Thick⟩ : Carton)).getD (Int.toNat i) default).Files, ((a1.set (Int.toNat i) (⟨k1, (IntKind.i64.wrap (k1 + (1 : Int))), (a1.getD (Int.toNat i) default).Room, (a1.getD (Int.toNat i) default).Files, (a1.getD (Int.toNat i) default).Thick⟩ : Carton)).getD (Int.toNat i) default).Thick⟩ : Carton) rfl rfl tyk_3 rfl rfl hd_79 (by simpa using natLt hh2.1 hh2.2) rfl rfl rfl rfl (fun _ => rfl) ?_)
    have hd_80 := Deep.setSame (i := (Int.toNat i)) (⟨((a1.set (Int.toNat i) (⟨k1, (IntKind.i64.wrap (k1 + (1 : Int))), (a1.getD (Int.toNat i) default).Room, (a1.getD (Int.toNat i) default).Files, (a1.getD (Int.toNat i) default).Thick⟩ : Carton)).getD (Int.toNat i) default).Id, ((a1.set (Int.toNat i) (⟨k1, (IntKind.i64.wrap (k1 + (1 : Int))), (a1.getD (Int.toNat i) default).Room, (a1.getD (Int.toNat i) default).Files, (a1.getD (Int.toNat i) default).Thick⟩ : Carton)).getD (Int.toNat i) default).Shelf, (IntKind.i64.wrap ((IntKind.i64.wrap (k1 + (1 : Int))) + (1 : Int))), ((a1.set (Int.toNat i) (⟨k1, (IntKind.i64.wrap (k1 + (1 : Int))), (a1.getD (Int.toNat i) default).Room, (a1.getD (Int.toNat i) default).Files, (a1.getD (Int.toNat i) default).Thick⟩ : Carton)).getD (Int.toNat i) default).Files, ((a1.set (Int.toNat i) (⟨k1, (IntKind.i64.wrap (k1 + (1 : Int))), (a1.getD (Int.toNat i) default).Room, (a1.getD (Int.toNat i) default).Files, (a1.getD (Int.toNat i) default).Thick⟩ : Carton)).getD (Int.toNat i) default).Thick⟩ : Carton) rfl hd_79
    have hu_80 : ((a1.set (Int.toNat i) (⟨k1, (IntKind.i64.wrap (k1 + (1 : Int))), (a1.getD (Int.toNat i) default).Room, (a1.getD (Int.toNat i) default).Files, (a1.getD (Int.toNat i) default).Thick⟩ : Carton)).set (Int.toNat i) (⟨((a1.set (Int.toNat i) (⟨k1, (IntKind.i64.wrap (k1 + (1 : Int))), (a1.getD (Int.toNat i) default).Room, (a1.getD (Int.toNat i) default).Files, (a1.getD (Int.toNat i) default).Thick⟩ : Carton)).getD (Int.toNat i) default).Id, ((a1.set (Int.toNat i) (⟨k1, (IntKind.i64.wrap (k1 + (1 : Int))), (a1.getD (Int.toNat i) default).Room, (a1.getD (Int.toNat i) default).Files, (a1.getD (Int.toNat i) default).Thick⟩ : Carton)).getD (Int.toNat i) default).Shelf, (IntKind.i64.wrap ((IntKind.i64.wrap (k1 + (1 : Int))) + (1 : Int))), ((a1.set (Int.toNat i) (⟨k1, (IntKind.i64.wrap (k1 + (1 : Int))), (a1.getD (Int.toNat i) default).Room, (a1.getD (Int.toNat i) default).Files, (a1.getD (Int.toNat i) default).Thick⟩ : Carton)).getD (Int.toNat i) default).Files, ((a1.set (Int.toNat i) (⟨k1, (IntKind.i64.wrap (k1 + (1 : Int))), (a1.getD (Int.toNat i) default).Room, (a1.getD (Int.toNat i) default).Files, (a1.getD (Int.toNat i) default).Thick⟩ : Carton)).getD (Int.toNat i) default).Thick⟩ : Carton)) = (a1.set (Int.toNat i) (⟨k1, (IntKind.i64.wrap (k1 + (1 : Int))), (IntKind.i64.wrap ((IntKind.i64.wrap (k1 + (1 : Int))) + (1 : Int))), (a1.getD (Int.toNat i) default).Files, (a1.getD (Int.toNat i) default).Thick⟩ : Carton)) := set_upd (fun y_ => (⟨y_.Id, y_.Shelf, (IntKind.i64.wrap ((IntKind.i64.wrap (k1 + (1 : Int))) + (1 : Int))), y_.Files, y_.Thick⟩ : Carton)) (by simpa using natLt hh0.1 hh0.2) rfl
    refine VO.weakenK (Keeps.sayObj 0 (ys := deepC cellCarton ts_77 (a1.set (Int.toNat i) (⟨k1, (IntKind.i64.wrap (k1 + (1 : Int))), (IntKind.i64.wrap ((IntKind.i64.wrap (k1 + (1 : Int))) + (1 : Int))), (a1.getD (Int.toNat i) default).Files, (a1.getD (Int.toNat i) default).Thick⟩ : Carton))) rfl (congrArg (deepC cellCarton ts_77) hu_80)) ?_
    rw [hu_80] at hd_80
    refine VO.weakenK (Keeps.say 0 (y := .sref oq 5 0 (List.length (a1.set (Int.toNat i) (⟨k1, (IntKind.i64.wrap (k1 + (1 : Int))), (IntKind.i64.wrap ((IntKind.i64.wrap (k1 + (1 : Int))) + (1 : Int))), (a1.getD (Int.toNat i) default).Files, (a1.getD (Int.toNat i) default).Thick⟩ : Carton)))) rfl (by simp [optS])) ?_
    refine VO.nil ?_
    refine V.keepT 48 [0, 1, 5] [0] (E0 := [(0, .sref oq 5 0 (List.length (a1.set (Int.toNat i) (⟨k1, (IntKind.i64.wrap (k1 + (1 : Int))), (IntKind.i64.wrap ((IntKind.i64.wrap (k1 + (1 : Int))) + (1 : Int))), (a1.getD (Int.toNat i) default).Files, (a1.getD (Int.toNat i) default).Thick⟩ : Carton)))), (1, .int .i64 (IntKind.i64.wrap ((IntKind.i64.wrap (k1 + (1 : Int))) + (1 : Int)))), (5, .int .i64 i)]) (A := [(oq, ⟨5, deepC cellCarton ts_77 (a1.set (Int.toNat i) (⟨k1, (IntKind.i64.wrap (k1 + (1 : Int))), (IntKind.i64.wrap ((IntKind.i64.wrap (k1 + (1 : Int))) + (1 : Int))), (a1.getD (Int.toNat i) default).Files, (a1.getD (Int.toNat i) default).Thick⟩ : Carton))⟩)]) (T := os_77) (H0 := [(oq, ⟨5, deepC cellCarton ts_77 (a1.set (Int.toNat i) (⟨k1, (IntKind.i64.wrap (k1 + (1 : Int))), (IntKind.i64.wrap ((IntKind.i64.wrap (k1 + (1 : Int))) + (1 : Int))), (a1.getD (Int.toNat i) default).Files, (a1.getD (Int.toNat i) default).Thick⟩ : Carton))⟩)]) (T' := os_77) rfl (⟨_, _, rfl, rfl, ⟨_, _, rfl, rfl, ⟨_, _, rfl, rfl, rfl⟩⟩⟩) rfl (⟨_, _, rfl, rfl, rfl⟩) rfl (List.Sublist.refl _) ?_
    refine V.seq ?_
    refine V.region ?_
    refine VO.cons rfl (V1.move rfl rfl rfl lt0 ?_)
    refine VO.cons rfl (V1.int rfl rfl rfl rfl rfl lt0 ?_)
    refine VO.cons rfl (V1.assign rfl rfl rfl lt0 ?_)
    refine VO.nil ?_
    refine V.seq ?_
    replace hm1 := asrt_some hm1; rcases hm1 with ⟨hh3, hm1⟩
    replace hm1 := bindO hm1; rcases hm1 with ⟨y1, hh4, hm1⟩
    replace hm1 := asrt_some hm1; rcases hm1 with ⟨hh5, hm1⟩
    refine V.region ?_
    refine VO.cons rfl (V1.move rfl rfl rfl lt0 ?_)
    refine VO.cons rfl (V1.move rfl rfl rfl lt0 ?_)
    refine VO.cons rfl (V1.indexSr rfl rfl esz_39 rfl rfl hh3 lt0 ?_)
    refine VO.cons rfl (V1.fieldRef rfl rfl fo_67_3 rfl lt0 ?_)
    refine VO.cons rfl (V1.loadDeepIn (inn := (fun c_ : Carton => List.map encInt c_.Files)) (cell := cellCarton) (ts := ts_77) (xs := (a1.set (Int.toNat i) (⟨k1, (IntKind.i64.wrap (k1 + (1 : Int))), (IntKind.i64.wrap ((IntKind.i64.wrap (k1 + (1 : Int))) + (1 : Int))), (a1.getD (Int.toNat i) default).Files, (a1.getD (Int.toNat i) default).Thick⟩ : Carton))) (k := 0) cokCarton rfl rfl tyk_36 rfl rfl hd_80 (by simpa using natLt hh3.1 hh3.2) lt0 ?_)
    refine VO.cons rfl (V1.move rfl rfl rfl lt0 ?_)
    obtain ⟨ob_81, os1_81, os2_81, hob_81, ht_81, hos_81, hp_81, hs_81⟩ := Deep.focusM (f := encInt) (g := (fun c_ : Carton => c_.Files)) (Int.toNat i) hd_80 (by simpa using natLt hh3.1 hh3.2)
    refine VO.weakenK (Keeps.say 37 (y := optS 1 ob_81 (List.length (((a1.set (Int.toNat i) (⟨k1, (IntKind.i64.wrap (k1 + (1 : Int))), (IntKind.i64.wrap ((IntKind.i64.wrap (k1 + (1 : Int))) + (1 : Int))), (a1.getD (Int.toNat i) default).Files, (a1.getD (Int.toNat i) default).Thick⟩ : Carton)).getD (Int.toNat i) default).Files))) rfl ht_81) ?_
    refine VO.cons rfl (V1.callD (A := [(oq, ⟨5, deepC cellCarton ts_77 (a1.set (Int.toNat i) (⟨k1, (IntKind.i64.wrap (k1 + (1 : Int))), (IntKind.i64.wrap ((IntKind.i64.wrap (k1 + (1 : Int))) + (1 : Int))), (a1.getD (Int.toNat i) default).Files, (a1.getD (Int.toNat i) default).Thick⟩ : Carton))⟩)]) (os1 := os1_81) (os2 := os2_81) (Hc := optH 1 ob_81 (List.map encInt (((a1.set (Int.toNat i) (⟨k1, (IntKind.i64.wrap (k1 + (1 : Int))), (IntKind.i64.wrap ((IntKind.i64.wrap (k1 + (1 : Int))) + (1 : Int))), (a1.getD (Int.toNat i) default).Files, (a1.getD (Int.toNat i) default).Thick⟩ : Carton)).getD (Int.toNat i) default).Files))) rfl rfl rfl cok_27 rfl (appEq (A := [(oq, ⟨5, deepC cellCarton ts_77 (a1.set (Int.toNat i) (⟨k1, (IntKind.i64.wrap (k1 + (1 : Int))), (IntKind.i64.wrap ((IntKind.i64.wrap (k1 + (1 : Int))) + (1 : Int))), (a1.getD (Int.toNat i) default).Files, (a1.getD (Int.toNat i) default).Thick⟩ : Carton))⟩)]) hos_81) (rn + 1) [] [optS 1 ob_81 (List.length (((a1.set (Int.toNat i) (⟨k1, (IntKind.i64.wrap (k1 + (1 : Int))), (IntKind.i64.wrap ((IntKind.i64.wrap (k1 + (1 : Int))) + (1 : Int))), (a1.getD (Int.toNat i) default).Files, (a1.getD (Int.toNat i) default).Thick⟩ : Carton)).getD (Int.toNat i) default).Files)), .int .i64 (IntKind.i64.wrap ((IntKind.i64.wrap ((IntKind.i64.wrap (k1 + (1 : Int))) + (1 : Int))) + (1 : Int)))] ⟨_, _, rfl, .same _, ⟨_, _, rfl, .same _, rfl⟩⟩ bwNil (ok_laws_markIntS hh4 (oq := ob_81) hob_81) rfl (.inl rfl) lt0 ?_)
    rintro _ _ ⟨rfl, rfl⟩
    have hd_81 := hs_81 (⟨((a1.set (Int.toNat i) (⟨k1, (IntKind.i64.wrap (k1 + (1 : Int))), (IntKind.i64.wrap ((IntKind.i64.wrap (k1 + (1 : Int))) + (1 : Int))), (a1.getD (Int.toNat i) default).Files, (a1.getD (Int.toNat i) default).Thick⟩ : Carton)).getD (Int.toNat i) default).Id, ((a1.set (Int.toNat i) (⟨k1, (IntKind.i64.wrap (k1 + (1 : Int))), (IntKind.i64.wrap ((IntKind.i64.wrap (k1 + (1 : Int))) + (1 : Int))), (a1.getD (Int.toNat i) default).Files, (a1.getD (Int.toNat i) default).Thick⟩ : Carton)).getD (Int.toNat i) default).Shelf, ((a1.set (Int.toNat i) (⟨k1, (IntKind.i64.wrap (k1 + (1 : Int))), (IntKind.i64.wrap ((IntKind.i64.wrap (k1 + (1 : Int))) + (1 : Int))), (a1.getD (Int.toNat i) default).Files, (a1.getD (Int.toNat i) default).Thick⟩ : Carton)).getD (Int.toNat i) default).Room, y1.2, ((a1.set (Int.toNat i) (⟨k1, (IntKind.i64.wrap (k1 + (1 : Int))), (IntKind.i64.wrap ((IntKind.i64.wrap (k1 + (1 : Int))) + (1 : Int))), (a1.getD (Int.toNat i) default).Files, (a1.getD (Int.toNat i) default).Thick⟩ : Carton)).getD (Int.toNat i) default).Thick⟩ : Carton) hh5
    refine VO.weakenK (Keeps.sayObj 0 (ys := deepC cellCarton ts_77 ((a1.set (Int.toNat i) (⟨k1, (IntKind.i64.wrap (k1 + (1 : Int))), (IntKind.i64.wrap ((IntKind.i64.wrap (k1 + (1 : Int))) + (1 : Int))), (a1.getD (Int.toNat i) default).Files, (a1.getD (Int.toNat i) default).Thick⟩ : Carton)).set (Int.toNat i) (⟨((a1.set (Int.toNat i) (⟨k1, (IntKind.i64.wrap (k1 + (1 : Int))), (IntKind.i64.wrap ((IntKind.i64.wrap (k1 + (1 : Int))) + (1 : Int))), (a1.getD (Int.toNat i) default).Files, (a1.getD (Int.toNat i) default).Thick⟩ : Carton)).getD (Int.toNat i) default).Id, ((a1.set (Int.toNat i) (⟨k1, (IntKind.i64.wrap (k1 + (1 : Int))), (IntKind.i64.wrap ((IntKind.i64.wrap (k1 + (1 : Int))) + (1 : Int))), (a1.getD (Int.toNat i) default).Files, (a1.getD (Int.toNat i) default).Thick⟩ : Carton)).getD (Int.toNat i) default).Shelf, ((a1.set (Int.toNat i) (⟨k1, (IntKind.i64.wrap (k1 + (1 : Int))), (IntKind.i64.wrap ((IntKind.i64.wrap (k1 + (1 : Int))) + (1 : Int))), (a1.getD (Int.toNat i) default).Files, (a1.getD (Int.toNat i) default).Thick⟩ : Carton)).getD (Int.toNat i) default).Room, y1.2, ((a1.set (Int.toNat i) (⟨k1, (IntKind.i64.wrap (k1 + (1 : Int))), (IntKind.i64.wrap ((IntKind.i64.wrap (k1 + (1 : Int))) + (1 : Int))), (a1.getD (Int.toNat i) default).Files, (a1.getD (Int.toNat i) default).Thick⟩ : Carton)).getD (Int.toNat i) default).Thick⟩ : Carton))) rfl (deepC_same (Deep.length hd_80) (fun _ => rfl))) ?_
    have hu_81 : ((a1.set (Int.toNat i) (⟨k1, (IntKind.i64.wrap (k1 + (1 : Int))), (IntKind.i64.wrap ((IntKind.i64.wrap (k1 + (1 : Int))) + (1 : Int))), (a1.getD (Int.toNat i) default).Files, (a1.getD (Int.toNat i) default).Thick⟩ : Carton)).set (Int.toNat i) (⟨((a1.set (Int.toNat i) (⟨k1, (IntKind.i64.wrap (k1 + (1 : Int))), (IntKind.i64.wrap ((IntKind.i64.wrap (k1 + (1 : Int))) + (1 : Int))), (a1.getD (Int.toNat i) default).Files, (a1.getD (Int.toNat i) default).Thick⟩ : Carton)).getD (Int.toNat i) default).Id, ((a1.set (Int.toNat i) (⟨k1, (IntKind.i64.wrap (k1 + (1 : Int))), (IntKind.i64.wrap ((IntKind.i64.wrap (k1 + (1 : Int))) + (1 : Int))), (a1.getD (Int.toNat i) default).Files, (a1.getD (Int.toNat i) default).Thick⟩ : Carton)).getD (Int.toNat i) default).Shelf, ((a1.set (Int.toNat i) (⟨k1, (IntKind.i64.wrap (k1 + (1 : Int))), (IntKind.i64.wrap ((IntKind.i64.wrap (k1 + (1 : Int))) + (1 : Int))), (a1.getD (Int.toNat i) default).Files, (a1.getD (Int.toNat i) default).Thick⟩ : Carton)).getD (Int.toNat i) default).Room, y1.2, ((a1.set (Int.toNat i) (⟨k1, (IntKind.i64.wrap (k1 + (1 : Int))), (IntKind.i64.wrap ((IntKind.i64.wrap (k1 + (1 : Int))) + (1 : Int))), (a1.getD (Int.toNat i) default).Files, (a1.getD (Int.toNat i) default).Thick⟩ : Carton)).getD (Int.toNat i) default).Thick⟩ : Carton)) = (a1.set (Int.toNat i) (⟨k1, (IntKind.i64.wrap (k1 + (1 : Int))), (IntKind.i64.wrap ((IntKind.i64.wrap (k1 + (1 : Int))) + (1 : Int))), y1.2, (a1.getD (Int.toNat i) default).Thick⟩ : Carton)) := set_upd (fun y_ => (⟨y_.Id, y_.Shelf, y_.Room, y1.2, y_.Thick⟩ : Carton)) (by simpa using natLt hh0.1 hh0.2) rfl
    refine VO.weakenK (Keeps.sayObj 0 (ys := deepC cellCarton ts_77 (a1.set (Int.toNat i) (⟨k1, (IntKind.i64.wrap (k1 + (1 : Int))), (IntKind.i64.wrap ((IntKind.i64.wrap (k1 + (1 : Int))) + (1 : Int))), y1.2, (a1.getD (Int.toNat i) default).Thick⟩ : Carton))) rfl (congrArg (deepC cellCarton ts_77) hu_81)) ?_
    rw [hu_81] at hd_81
    refine VO.weakenK (Keeps.say 0 (y := .sref oq 5 0 (List.length (a1.set (Int.toNat i) (⟨k1, (IntKind.i64.wrap (k1 + (1 : Int))), (IntKind.i64.wrap ((IntKind.i64.wrap (k1 + (1 : Int))) + (1 : Int))), y1.2, (a1.getD (Int.toNat i) default).Thick⟩ : Carton)))) rfl (by simp [optS])) ?_
    refine VO.cons rfl (V1.assign rfl rfl rfl lt0 ?_)
    refine VO.nil ?_
    refine V.keepT 48 [0, 1, 5] [0] (E0 := [(0, .sref oq 5 0 (List.length (a1.set (Int.toNat i) (⟨k1, (IntKind.i64.wrap (k1 + (1 : Int))), (IntKind.i64.wrap ((IntKind.i64.wrap (k1 + (1 : Int))) + (1 : Int))), y1.2, (a1.getD (Int.toNat i) default).Thick⟩ : Carton)))), (1, .int .i64 y1.1), (5, .int .i64 i)]) (A := [(oq, ⟨5, deepC cellCarton ts_77 (a1.set (Int.toNat i) (⟨k1, (IntKind.i64.wrap (k1 + (1 : Int))), (IntKind.i64.wrap ((IntKind.i64.wrap (k1 + (1 : Int))) + (1 : Int))), y1.2, (a1.getD (Int.toNat i) default).Thick⟩ : Carton))⟩)]) (T := (os1_81 ++ (optH 1 ob_81 (List.map encInt y1.2) ++ os2_81))) (H0 := [(oq, ⟨5, deepC cellCarton ts_77 (a1.set (Int.toNat i) (⟨k1, (IntKind.i64.wrap (k1 + (1 : Int))), (IntKind.i64.wrap ((IntKind.i64.wrap (k1 + (1 : Int))) + (1 : Int))), y1.2, (a1.getD (Int.toNat i) default).Thick⟩ : Carton))⟩)]) (T' := (os1_81 ++ (optH 1 ob_81 (List.map encInt y1.2) ++ os2_81))) rfl (⟨_, _, rfl, rfl, ⟨_, _, rfl, rfl, ⟨_, _, rfl, rfl, rfl⟩⟩⟩) rfl (⟨_, _, rfl, rfl, rfl⟩) rfl (List.Sublist.refl _) ?_
    refine V.seq ?_
    replace hm1 := asrt_some hm1; rcases hm1 with ⟨hh6, hm1⟩
    refine V.region ?_
    refine VO.cons rfl (V1.move rfl rfl rfl lt0 ?_)
    refine VO.cons rfl (V1.move rfl rfl rfl lt0 ?_)
    refine VO.cons rfl (V1.move rfl rfl rfl lt0 ?_)
    refine VO.cons rfl (V1.indexSr rfl rfl esz_39 rfl rfl hh6 lt0 ?_)
    refine VO.cons rfl (V1.fieldRef rfl rfl fo_67_4 rfl lt0 ?_)
    refine VO.cons rfl (V1.storeDeepCell (inn := (fun c_ : Carton => List.map encInt c_.Files)) (cell := cellCarton) (ts := ts_77) (xs := (a1.set (Int.toNat i) (⟨k1, (IntKind.i64.wrap (k1 + (1 : Int))), (IntKind.i64.wrap ((IntKind.i64.wrap (k1 + (1 : Int))) + (1 : Int))), y1.2, (a1.getD (Int.toNat i) default).Thick⟩ : Carton))) (k := 0) cokCarton (⟨((a1.set (Int.toNat i) (⟨k1, (IntKind.i64.wrap (k1 + (1 : Int))), (IntKind.i64.wrap ((IntKind.i64.wrap (k1 + (1 : Int))) + (1 : Int))), y1.2, (a1.getD (Int.toNat i) default).Thick⟩ : Carton)).getD (Int.toNat i) default).Id, ((a1.set (Int.toNat i) (⟨k1, (IntKind.i64.wrap (k1 + (1 : Int))), (IntKind.i64.wrap ((IntKind.i64.wrap (k1 + (1 : Int))) + (1 : Int))), y1.2, (a1.getD (Int.toNat i) default).Thick⟩ : Carton)).getD (Int.toNat i) default).Shelf, ((a1.set (Int.toNat i) (⟨k1, (IntKind.i64.wrap (k1 + (1 : Int))), (IntKind.i64.wrap ((IntKind.i64.wrap (k1 + (1 : Int))) + (1 : Int))), y1.2, (a1.getD (Int.toNat i) default).Thick⟩ : Carton)).getD (Int.toNat i) default).Room, ((a1.set (Int.toNat i) (⟨k1, (IntKind.i64.wrap (k1 + (1 : Int))), (IntKind.i64.wrap ((IntKind.i64.wrap (k1 + (1 : Int))) + (1 : Int))), y1.2, (a1.getD (Int.toNat i) default).Thick⟩ : Carton)).getD (Int.toNat i) default).Files, y1.1⟩ : Carton) rfl rfl tyk_3 rfl rfl hd_81 (by simpa using natLt hh6.1 hh6.2) rfl rfl rfl rfl (fun _ => rfl) ?_)
    have hd_83 := Deep.setSame (i := (Int.toNat i)) (⟨((a1.set (Int.toNat i) (⟨k1, (IntKind.i64.wrap (k1 + (1 : Int))), (IntKind.i64.wrap ((IntKind.i64.wrap (k1 + (1 : Int))) + (1 : Int))), y1.2, (a1.getD (Int.toNat i) default).Thick⟩ : Carton)).getD (Int.toNat i) default).Id, ((a1.set (Int.toNat i) (⟨k1, (IntKind.i64.wrap (k1 + (1 : Int))), (IntKind.i64.wrap ((IntKind.i64.wrap (k1 + (1 : Int))) + (1 : Int))), y1.2, (a1.getD (Int.toNat i) default).Thick⟩ : Carton)).getD (Int.toNat i) default).Shelf, ((a1.set (Int.toNat i) (⟨k1, (IntKind.i64.wrap (k1 + (1 : Int))), (IntKind.i64.wrap ((IntKind.i64.wrap (k1 + (1 : Int))) + (1 : Int))), y1.2, (a1.getD (Int.toNat i) default).Thick⟩ : Carton)).getD (Int.toNat i) default).Room, ((a1.set (Int.toNat i) (⟨k1, (IntKind.i64.wrap (k1 + (1 : Int))), (IntKind.i64.wrap ((IntKind.i64.wrap (k1 + (1 : Int))) + (1 : Int))), y1.2, (a1.getD (Int.toNat i) default).Thick⟩ : Carton)).getD (Int.toNat i) default).Files, y1.1⟩ : Carton) rfl hd_81
    have hu_83 : ((a1.set (Int.toNat i) (⟨k1, (IntKind.i64.wrap (k1 + (1 : Int))), (IntKind.i64.wrap ((IntKind.i64.wrap (k1 + (1 : Int))) + (1 : Int))), y1.2, (a1.getD (Int.toNat i) default).Thick⟩ : Carton)).set (Int.toNat i) (⟨((a1.set (Int.toNat i) (⟨k1, (IntKind.i64.wrap (k1 + (1 : Int))), (IntKind.i64.wrap ((IntKind.i64.wrap (k1 + (1 : Int))) + (1 : Int))), y1.2, (a1.getD (Int.toNat i) default).Thick⟩ : Carton)).getD (Int.toNat i) default).Id, ((a1.set (Int.toNat i) (⟨k1, (IntKind.i64.wrap (k1 + (1 : Int))), (IntKind.i64.wrap ((IntKind.i64.wrap (k1 + (1 : Int))) + (1 : Int))), y1.2, (a1.getD (Int.toNat i) default).Thick⟩ : Carton)).getD (Int.toNat i) default).Shelf, ((a1.set (Int.toNat i) (⟨k1, (IntKind.i64.wrap (k1 + (1 : Int))), (IntKind.i64.wrap ((IntKind.i64.wrap (k1 + (1 : Int))) + (1 : Int))), y1.2, (a1.getD (Int.toNat i) default).Thick⟩ : Carton)).getD (Int.toNat i) default).Room, ((a1.set (Int.toNat i) (⟨k1, (IntKind.i64.wrap (k1 + (1 : Int))), (IntKind.i64.wrap ((IntKind.i64.wrap (k1 + (1 : Int))) + (1 : Int))), y1.2, (a1.getD (Int.toNat i) default).Thick⟩ : Carton)).getD (Int.toNat i) default).Files, y1.1⟩ : Carton)) = (a1.set (Int.toNat i) (⟨k1, (IntKind.i64.wrap (k1 + (1 : Int))), (IntKind.i64.wrap ((IntKind.i64.wrap (k1 + (1 : Int))) + (1 : Int))), y1.2, y1.1⟩ : Carton)) := set_upd (fun y_ => (⟨y_.Id, y_.Shelf, y_.Room, y_.Files, y1.1⟩ : Carton)) (by simpa using natLt hh0.1 hh0.2) rfl
    refine VO.weakenK (Keeps.sayObj 0 (ys := deepC cellCarton ts_77 (a1.set (Int.toNat i) (⟨k1, (IntKind.i64.wrap (k1 + (1 : Int))), (IntKind.i64.wrap ((IntKind.i64.wrap (k1 + (1 : Int))) + (1 : Int))), y1.2, y1.1⟩ : Carton))) rfl (congrArg (deepC cellCarton ts_77) hu_83)) ?_
    rw [hu_83] at hd_83
    refine VO.weakenK (Keeps.say 0 (y := .sref oq 5 0 (List.length (a1.set (Int.toNat i) (⟨k1, (IntKind.i64.wrap (k1 + (1 : Int))), (IntKind.i64.wrap ((IntKind.i64.wrap (k1 + (1 : Int))) + (1 : Int))), y1.2, y1.1⟩ : Carton)))) rfl (by simp [optS])) ?_
    refine VO.nil ?_
    refine V.keepT 48 [0, 1, 5] [0] (E0 := [(0, .sref oq 5 0 (List.length (a1.set (Int.toNat i) (⟨k1, (IntKind.i64.wrap (k1 + (1 : Int))), (IntKind.i64.wrap ((IntKind.i64.wrap (k1 + (1 : Int))) + (1 : Int))), y1.2, y1.1⟩ : Carton)))), (1, .int .i64 y1.1), (5, .int .i64 i)]) (A := [(oq, ⟨5, deepC cellCarton ts_77 (a1.set (Int.toNat i) (⟨k1, (IntKind.i64.wrap (k1 + (1 : Int))), (IntKind.i64.wrap ((IntKind.i64.wrap (k1 + (1 : Int))) + (1 : Int))), y1.2, y1.1⟩ : Carton))⟩)]) (T := (os1_81 ++ (optH 1 ob_81 (List.map encInt y1.2) ++ os2_81))) (H0 := [(oq, ⟨5, deepC cellCarton ts_77 (a1.set (Int.toNat i) (⟨k1, (IntKind.i64.wrap (k1 + (1 : Int))), (IntKind.i64.wrap ((IntKind.i64.wrap (k1 + (1 : Int))) + (1 : Int))), y1.2, y1.1⟩ : Carton))⟩)]) (T' := (os1_81 ++ (optH 1 ob_81 (List.map encInt y1.2) ++ os2_81))) rfl (⟨_, _, rfl, rfl, ⟨_, _, rfl, rfl, ⟨_, _, rfl, rfl, rfl⟩⟩⟩) rfl (⟨_, _, rfl, rfl, rfl⟩) rfl (List.Sublist.refl _) ?_
    refine V.region ?_
    refine VO.cons rfl (V1.move rfl rfl rfl lt0 ?_)
    refine VO.cons rfl (V1.int rfl rfl rfl rfl rfl lt0 ?_)
    refine VO.cons rfl (V1.assign rfl rfl rfl lt0 ?_)
    refine VO.nil ?_
    refine V.region ?_
    refine VO.cons rfl (V1.move rfl rfl rfl lt0 ?_)
    refine VO.cons rfl (V1.int rfl rfl rfl rfl rfl lt0 ?_)
    refine VO.cons rfl (V1.assign rfl rfl rfl lt0 ?_)
    refine VO.nil ?_
    exact ⟨(m0, ((a1.set (Int.toNat i) (⟨k1, (IntKind.i64.wrap (k1 + (1 : Int))), (IntKind.i64.wrap ((IntKind.i64.wrap (k1 + (1 : Int))) + (1 : Int))), y1.2, y1.1⟩ : Carton)), (IntKind.i64.wrap (y1.1 + (1 : Int))), (IntKind.i64.wrap (i + (1 : Int)))), (ts_77, (os1_81 ++ (optH 1 ob_81 (List.map encInt y1.2) ++ os2_81)))), ⟨hl1 _ (Option.some.inj hm1).symm, hd_83⟩, Nat.lt_succ_self _, Keeps.mkT (A := [(oq, ⟨5, deepC cellCarton ts_77 (a1.set (Int.toNat i) (⟨k1, (IntKind.i64.wrap (k1 + (1 : Int))), (IntKind.i64.wrap ((IntKind.i64.wrap (k1 + (1 : Int))) + (1 : Int))), y1.2, y1.1⟩ : Carton))⟩)]) (T := (os1_81 ++ (optH 1 ob_81 (List.map encInt y1.2) ++ os2_81))) (T' := (os1_81 ++ (optH 1 ob_81 (List.map encInt y1.2) ++ os2_81))) (H := [(oq, ⟨5, deepC cellCarton ts_77 (a1.set (Int.toNat i) (⟨k1, (IntKind.i64.wrap (k1 + (1 : Int))), (IntKind.i64.wrap ((IntKind.i64.wrap (k1 + (1 : Int))) + (1 : Int))), y1.2, y1.1⟩ : Carton))⟩)]) (ks := [0]) rfl (by exact ⟨(someSref (by simp)), rfl, rfl, trivial⟩) rfl (by exact (⟨_, _, rfl, rfl, rfl⟩)) rfl (List.Sublist.refl _)⟩
   ·
    replace hm1 := cond_f hc0 hm1
    refine V.exit ?_
    obtain rfl := hr1 _ (Option.some.inj hm1).symm
    exact ⟨((a1, k1), (ts_77, os_77)), ⟨rfl, hd_77⟩, Keeps.mkT (A := [(oq, ⟨5, deepC cellCarton ts_77 a1⟩)]) (T := os_77) (T' := os_77) (H := [(oq, ⟨5, deepC cellCarton ts_77 a1⟩)]) (ks := [0]) rfl (by exact ⟨(someSref (by simp)), rfl, trivial⟩) rfl (by exact (⟨_, _, rfl, rfl, rfl⟩)) rfl (List.Sublist.refl _)⟩
  ·
   rintro ⟨⟨a0, k0⟩, ⟨ts_76, os_76⟩⟩ ⟨rfl, hd_76⟩
   try dsimp only at hm0
   refine V.seq ?_
   refine V.region ?_
   refine VO.cons rfl (V1.move rfl rfl rfl lt0 ?_)
   refine VO.cons rfl (V1.assign rfl rfl rfl lt0 ?_)
   refine VO.nil ?_
   refine V.keepT 48 [4] [0] (E0 := [(4, .int .i64 k0)]) (A := [(oq, ⟨5, deepC cellCarton ts_76 a0⟩)]) (T := os_76) (H0 := [(oq, ⟨5, deepC cellCarton ts_76 a0⟩)]) (T' := os_76) rfl (⟨_, _, rfl, rfl, rfl⟩) rfl (⟨_, _, rfl, rfl, rfl⟩) rfl (List.Sublist.refl _) ?_
   refine V.ret ?_
   obtain rfl := Option.some.inj hm0
   exact ⟨_, _, ⟨_, _, rfl, rfl, rfl⟩, List.Sublist.refl _, ts_76, os_76, hd_76, rfl, rfl⟩

theorem ok_laws_heldIntS {ρ0 rn : Nat} {a : List Int} {k : Int} {r : Int} (h : M.laws_heldIntS a k = some r) : Does Try.prog 28 [.vl ρ0 1 (List.map encInt a), .int .i64 k] [] rn (fun x H => x = .int .i64 r ∧ H = []) := by
 have hm0 := h; clear h; unfold M.laws_heldIntS at hm0
 try dsimp only at hm0
 refine Does.intro (N := 21) Try.func28 rfl rfl rfl rfl ?_
 intro w0 S0
 refine V.seq ?_
 refine V.region ?_
 refine VO.cons rfl (V1.assign rfl rfl rfl lt0 ?_)
 refine VO.nil ?_
 refine V.seq ?_
 refine V.seq ?_
 refine V.region ?_
 refine VO.cons rfl (V1.assign rfl rfl rfl lt0 ?_)
 refine VO.nil ?_
 replace hm0 := bindO hm0; rcases hm0 with ⟨e0, he1, hm0⟩
 refine V.cutT (D := (Int) × (Unit)) (fun ⟨k0, _⟩ => ⟨21, [(1, .int .i64 k0)], []⟩) (fun ⟨k0, _⟩ => (.inl k0 = e0)) ?_ ?_
 ·
  refine V.block ?_
  refine V.keep 21 [1, 5, 0] [] (E0 := [(1, .int .i64 k), (5, .int .i64 (0 : Int)), (0, .vl ρ0 1 (List.map encInt a))]) (H0 := []) rfl (⟨_, _, rfl, rfl, ⟨_, _, rfl, rfl, ⟨_, _, rfl, rfl, rfl⟩⟩⟩) (rfl) rfl ?_
  refine V.loopE (D := Nat × (Int × Int) × (Unit)) (fun ⟨n0, ⟨k1, i⟩, _⟩ => [(1, .int .i64 k1), (5, .int .i64 i)]) (fun ⟨n0, ⟨k1, i⟩, _⟩ => []) (fun ⟨n0, ⟨k1, i⟩, _⟩ => loopO (M.laws_heldIntS_l0 a) n0 (k1, i) = some e0) (fun ⟨n0, _, _⟩ => n0) (rounds, (k, (0 : Int)), ()) rfl he1 ?_
  rintro ⟨n0, ⟨k1, i⟩, _⟩ hP0
  obtain ⟨m0, y0, rfl, hm1, hl1, hr1⟩ := loop_head hP0
  unfold M.laws_heldIntS_l0 at hm1; dsimp only at hm1
  show V _ _ _ ⟨21, [(1, .int .i64 k1), (5, .int .i64 i), (0, .vl ρ0 1 (List.map encInt a))], []⟩
  refine V.seq ?_
  refine V.seq ?_
  refine V.region ?_
  refine VO.cons rfl (V1.move rfl rfl rfl lt0 ?_)
  refine VO.cons rfl (V1.move rfl rfl rfl lt0 ?_)
  refine VO.cons rfl (V1.lenMap rfl rfl rfl rfl rfl rfl isl_36 lt0 ?_)
  refine VO.cons rfl (V1.int rfl rfl rfl rfl rfl lt0 ?_)
  refine VO.nil ?_
  refine V.cond rfl (fun hc0 => ?_) (fun hc0 => ?_)
  ·
   replace hm1 := cond_t hc0 hm1
   refine V.skip ?_
   refine V.keep 21 [0, 1, 5] [] (E0 := [(0, .vl ρ0 1 (List.map encInt a)), (1, .int .i64 k1), (5, .int .i64 i)]) (H0 := []) rfl (⟨_, _, rfl, rfl, ⟨_, _, rfl, rfl, ⟨_, _, rfl, rfl, rfl⟩⟩⟩) (rfl) rfl ?_
   refine V.seq ?_
   refine V.block ?_
   refine V.seq ?_
   refine V.seq ?_
   replace hm1 := asrt_some hm1; rcases hm1 with ⟨hh0, hm1⟩
   refine V.region ?_
   refine VO.cons rfl (V1.move rfl rfl rfl lt0 ?_)
   refine VO.cons rfl (V1.move rfl rfl rfl lt0 ?_)
   refine VO.cons rfl (V1.indexI rfl rfl esz_36 rfl rfl hh0 lt0 ?_)
   refine VO.cons rfl (V1.loadPin rfl rfl tyk_3 rfl rfl lt0 ?_)
   refine VO.cons rfl (V1.move rfl rfl rfl lt0 ?_)
   refine VO.cons rfl (V1.int rfl rfl rfl rfl rfl lt0 ?_)
   refine VO.nil ?_
   refine V.keep 21 [0, 1, 5, 17] [] (E0 := [(0, .vl ρ0 1 (List.map encInt a)), (1, .int .i64 k1), (5, .int .i64 i), (17, .bool ((a.getD (Int.toNat i) default) != k1))]) (H0 := []) rfl (⟨_, _, rfl, rfl, ⟨_, _, rfl, rfl, ⟨_, _, rfl, rfl, ⟨_, _, rfl, rfl, rfl⟩⟩⟩⟩) (rfl) rfl ?_
   refine V.cond rfl (fun hc1 => ?_) (fun hc1 => ?_)
   ·
    replace hm1 := cond_t hc1 hm1
    refine V.seq ?_
    refine V.region ?_
    refine VO.cons rfl (V1.assign rfl rfl rfl lt0 ?_)
    refine VO.nil ?_
    refine V.ret ?_
    obtain rfl := hr1 _ (Option.some.inj hm1).symm
    change some _ = some _ at hm0
    obtain rfl := Option.some.inj hm0
    exact ⟨_, [], ⟨_, _, rfl, rfl, rfl⟩, List.nil_sublist _, rfl, rfl⟩
   ·
    replace hm1 := cond_f hc1 hm1
    refine V.skip ?_
    refine V.region ?_
    refine VO.cons rfl (V1.move rfl rfl rfl lt0 ?_)
    refine VO.cons rfl (V1.int rfl rfl rfl rfl rfl lt0 ?_)
    refine VO.cons rfl (V1.assign rfl rfl rfl lt0 ?_)
    refine VO.nil ?_
    refine V.region ?_
    refine VO.cons rfl (V1.move rfl rfl rfl lt0 ?_)
    refine VO.cons rfl (V1.int rfl rfl rfl rfl rfl lt0 ?_)
    refine VO.cons rfl (V1.assign rfl rfl rfl lt0 ?_)
    refine VO.nil ?_
    exact ⟨(m0, ((IntKind.i64.wrap (k1 + (1 : Int))), (IntKind.i64.wrap (i + (1 : Int)))), ()), hl1 _ (Option.some.inj hm1).symm, Nat.lt_succ_self _, Keeps.mk (ks := []) rfl ⟨rfl, rfl, rfl, trivial⟩ (rfl) rfl⟩
  ·
   replace hm1 := cond_f hc0 hm1
   refine V.exit ?_
   obtain rfl := hr1 _ (Option.some.inj hm1).symm
   exact ⟨(k1, ()), rfl, Keeps.mk (ks := []) rfl ⟨rfl, trivial⟩ (rfl) rfl⟩
 ·
  rintro ⟨k0, _⟩ rfl
  try dsimp only at hm0
  refine V.seq ?_
  refine V.region ?_
  refine VO.cons rfl (V1.move rfl rfl rfl lt0 ?_)
  refine VO.cons rfl (V1.assign rfl rfl rfl lt0 ?_)
  refine VO.nil ?_
  refine V.ret ?_
  obtain rfl := Option.some.inj hm0
  exact ⟨_, [], ⟨_, _, rfl, rfl, rfl⟩, List.nil_sublist _, rfl, rfl⟩

theorem ok_laws_heldCartonS {ρ0 σ0 rn : Nat} {a : List Carton} {k : Int} {r : Int} (h : M.laws_heldCartonS a k = some r) : Does Try.prog 33 [.vl ρ0 5 (List.map (encCarton σ0) a), .int .i64 k] [] rn (fun x H => x = .int .i64 r ∧ H = []) := by
 have hm0 := h; clear h; unfold M.laws_heldCartonS at hm0
 try dsimp only at hm0
 refine Does.intro (N := 58) Try.func33 rfl rfl rfl rfl ?_
 intro w0 S0
 refine V.seq ?_
 refine V.region ?_
 refine VO.cons rfl (V1.assign rfl rfl rfl lt0 ?_)
 refine VO.nil ?_
 refine V.seq ?_
 refine V.seq ?_
 refine V.region ?_
 refine VO.cons rfl (V1.assign rfl rfl rfl lt0 ?_)
 refine VO.nil ?_
 replace hm0 := bindO hm0; rcases hm0 with ⟨e0, he1, hm0⟩
 refine V.cutT (D := (Int) × (Unit)) (fun ⟨k0, _⟩ => ⟨58, [(1, .int .i64 k0)], []⟩) (fun ⟨k0, _⟩ => (.inl k0 = e0)) ?_ ?_
 ·
  refine V.block ?_
  refine V.keep 58 [1, 5, 0] [] (E0 := [(1, .int .i64 k), (5, .int .i64 (0 : Int)), (0, .vl ρ0 5 (List.map (encCarton σ0) a))]) (H0 := []) rfl (⟨_, _, rfl, rfl, ⟨_, _, rfl, rfl, ⟨_, _, rfl, rfl, rfl⟩⟩⟩) (rfl) rfl ?_
  refine V.loopE (D := Nat × (Int × Int) × (Unit)) (fun ⟨n0, ⟨k1, i⟩, _⟩ => [(1, .int .i64 k1), (5, .int .i64 i)]) (fun ⟨n0, ⟨k1, i⟩, _⟩ => []) (fun ⟨n0, ⟨k1, i⟩, _⟩ => loopO (M.laws_heldCartonS_l0 a) n0 (k1, i) = some e0) (fun ⟨n0, _, _⟩ => n0) (rounds, (k, (0 : Int)), ()) rfl he1 ?_
  rintro ⟨n0, ⟨k1, i⟩, _⟩ hP0
  obtain ⟨m0, y0, rfl, hm1, hl1, hr1⟩ := loop_head hP0
  unfold M.laws_heldCartonS_l0 at hm1; dsimp only at hm1
  show V _ _ _ ⟨58, [(1, .int .i64 k1), (5, .int .i64 i), (0, .vl ρ0 5 (List.map (encCarton σ0) a))], []⟩
  refine V.seq ?_
  refine V.seq ?_
  refine V.region ?_
  refine VO.cons rfl (V1.move rfl rfl rfl lt0 ?_)
  refine VO.cons rfl (V1.move rfl rfl rfl lt0 ?_)
  refine VO.cons rfl (V1.lenMap rfl rfl rfl rfl rfl rfl isl_39 lt0 ?_)
  refine VO.cons rfl (V1.int rfl rfl rfl rfl rfl lt0 ?_)
  refine VO.nil ?_
  refine V.cond rfl (fun hc0 => ?_) (fun hc0 => ?_)
  ·
   replace hm1 := cond_t hc0 hm1
   refine V.skip ?_
   refine V.keep 58 [0, 1, 5] [] (E0 := [(0, .vl ρ0 5 (List.map (encCarton σ0) a)), (1, .int .i64 k1), (5, .int .i64 i)]) (H0 := []) rfl (⟨_, _, rfl, rfl, ⟨_, _, rfl, rfl, ⟨_, _, rfl, rfl, rfl⟩⟩⟩) (rfl) rfl ?_
   refine V.seq ?_
   refine V.block ?_
   refine V.seq ?_
   refine V.seq ?_
   replace hm1 := asrt_some hm1; rcases hm1 with ⟨hh0, hm1⟩
   refine V.region ?_
   refine VO.cons rfl (V1.move rfl rfl rfl lt0 ?_)
   refine VO.cons rfl (V1.move rfl rfl rfl lt0 ?_)
   refine VO.cons rfl (V1.indexI rfl rfl esz_39 rfl rfl hh0 lt0 ?_)
   refine VO.cons rfl (V1.fieldPin rfl rfl fo_67_0 rfl lt0 ?_)
   refine VO.cons rfl (V1.loadPin rfl rfl tyk_3 rfl rfl lt0 ?_)
   refine VO.cons rfl (V1.move rfl rfl rfl lt0 ?_)
   refine VO.cons rfl (V1.int rfl rfl rfl rfl rfl lt0 ?_)
   refine VO.nil ?_
   refine V.keep 58 [0, 1, 5, 18] [] (E0 := [(0, .vl ρ0 5 (List.map (encCarton σ0) a)), (1, .int .i64 k1), (5, .int .i64 i), (18, .bool (((a.getD (Int.toNat i) default).Id) != k1))]) (H0 := []) rfl (⟨_, _, rfl, rfl, ⟨_, _, rfl, rfl, ⟨_, _, rfl, rfl, ⟨_, _, rfl, rfl, rfl⟩⟩⟩⟩) (rfl) rfl ?_
   refine V.cond rfl (fun hc1 => ?_) (fun hc1 => ?_)
   ·
    replace hm1 := cond_t hc1 hm1
    refine V.seq ?_
    refine V.region ?_
    refine VO.cons rfl (V1.assign rfl rfl rfl lt0 ?_)
    refine VO.nil ?_
    refine V.ret ?_
    obtain rfl := hr1 _ (Option.some.inj hm1).symm
    change some _ = some _ at hm0
    obtain rfl := Option.some.inj hm0
    exact ⟨_, [], ⟨_, _, rfl, rfl, rfl⟩, List.nil_sublist _, rfl, rfl⟩
   ·
    replace hm1 := cond_f hc1 hm1
    refine V.skip ?_
    refine V.seq ?_
    refine V.region ?_
    refine VO.cons rfl (V1.move rfl rfl rfl lt0 ?_)
    refine VO.cons rfl (V1.int rfl rfl rfl rfl rfl lt0 ?_)
    refine VO.cons rfl (V1.assign rfl rfl rfl lt0 ?_)
    refine VO.nil ?_
    refine V.seq ?_
    refine V.seq ?_
    replace hm1 := asrt_some hm1; rcases hm1 with ⟨hh1, hm1⟩
    refine V.region ?_
    refine VO.cons rfl (V1.move rfl rfl rfl lt0 ?_)
    refine VO.cons rfl (V1.move rfl rfl rfl lt0 ?_)
    refine VO.cons rfl (V1.indexI rfl rfl esz_39 rfl rfl hh1 lt0 ?_)
    refine VO.cons rfl (V1.fieldPin rfl rfl fo_67_1 rfl lt0 ?_)
    refine VO.cons rfl (V1.loadPin rfl rfl tyk_3 rfl rfl lt0 ?_)
    refine VO.cons rfl (V1.move rfl rfl rfl lt0 ?_)
    refine VO.cons rfl (V1.int rfl rfl rfl rfl rfl lt0 ?_)
    refine VO.nil ?_
    refine V.keep 58 [0, 1, 5, 27] [] (E0 := [(0, .vl ρ0 5 (List.map (encCarton σ0) a)), (1, .int .i64 (IntKind.i64.wrap (k1 + (1 : Int)))), (5, .int .i64 i), (27, .bool (((a.getD (Int.toNat i) default).Shelf) != (IntKind.i64.wrap (k1 + (1 : Int)))))]) (H0 := []) rfl (⟨_, _, rfl, rfl, ⟨_, _, rfl, rfl, ⟨_, _, rfl, rfl, ⟨_, _, rfl, rfl, rfl⟩⟩⟩⟩) (rfl) rfl ?_
    refine V.cond rfl (fun hc2 => ?_) (fun hc2 => ?_)
    ·
     replace hm1 := cond_t hc2 hm1
     refine V.seq ?_
     refine V.region ?_
     refine VO.cons rfl (V1.assign rfl rfl rfl lt0 ?_)
     refine VO.nil ?_
     refine V.ret ?_
     obtain rfl := hr1 _ (Option.some.inj hm1).symm
     change some _ = some _ at hm0
     obtain rfl := Option.some.inj hm0
     exact ⟨_, [], ⟨_, _, rfl, rfl, rfl⟩, List.nil_sublist _, rfl, rfl⟩
    ·
     replace hm1 := cond_f hc2 hm1
     refine V.skip ?_
     refine V.seq ?_
     refine V.region ?_
     refine VO.cons rfl (V1.move rfl rfl rfl lt0 ?_)
     refine VO.cons rfl (V1.int rfl rfl rfl rfl rfl lt0 ?_)
     refine VO.cons rfl (V1.assign rfl rfl rfl lt0 ?_)
     refine VO.nil ?_
     refine V.seq ?_
     refine V.seq ?_
     replace hm1 := asrt_some hm1; rcases hm1 with ⟨hh2, hm1⟩
     refine V.region ?_
     refine VO.cons rfl (V1.move rfl rfl rfl lt0 ?_)
     refine VO.cons rfl (V1.move rfl rfl rfl lt0 ?_)
     refine VO.cons rfl (V1.indexI rfl rfl esz_39 rfl rfl hh2 lt0 ?_)
     refine VO.cons rfl (V1.fieldPin rfl rfl fo_67_2 rfl lt0 ?_)
     refine VO.cons rfl (V1.loadPin rfl rfl tyk_3 rfl rfl lt0 ?_)
     refine VO.cons rfl (V1.move rfl rfl rfl lt0 ?_)
     refine VO.cons rfl (V1.int rfl rfl rfl rfl rfl lt0 ?_)
     refine VO.nil ?_
     refine V.keep 58 [0, 1, 5, 36] [] (E0 := [(0, .vl ρ0 5 (List.map (encCarton σ0) a)), (1, .int .i64 (IntKind.i64.wrap ((IntKind.i64.wrap (k1 + (1 : Int))) + (1 : Int)))), (5, .int .i64 i), (36, .bool (((a.getD (Int.toNat i) default).Room) != (IntKind.i64.wrap ((IntKind.i64.wrap (k1 + (1 : Int))) + (1 : Int)))))]) (H0 := []) rfl (⟨_, _, rfl, rfl, ⟨_, _, rfl, rfl, ⟨_, _, rfl, rfl, ⟨_, _, rfl, rfl, rfl⟩⟩⟩⟩) (rfl) rfl ?_
     refine V.cond rfl (fun hc3 => ?_) (fun hc3 => ?_)
     ·
      replace hm1 := cond_t hc3 hm1
      refine V.seq ?_
      refine V.region ?_
      refine VO.cons rfl (V1.assign rfl rfl rfl lt0 ?_)
      refine VO.nil ?_
      refine V.ret ?_
      obtain rfl := hr1 _ (Option.some.inj hm1).symm
      change some _ = some _ at hm0
      obtain rfl := Option.some.inj hm0
      exact ⟨_, [], ⟨_, _, rfl, rfl, rfl⟩, List.nil_sublist _, rfl, rfl⟩
     ·
      replace hm1 := cond_f hc3 hm1
      refine V.skip ?_
      refine V.seq ?_
      refine V.region ?_
      refine VO.cons rfl (V1.move rfl rfl rfl lt0 ?_)
      refine VO.cons rfl (V1.int rfl rfl rfl rfl rfl lt0 ?_)
      refine VO.cons rfl (V1.assign rfl rfl rfl lt0 ?_)
      refine VO.nil ?_
      refine V.seq ?_
      replace hm1 := asrt_some hm1; rcases hm1 with ⟨hh3, hm1⟩
      replace hm1 := bindO hm1; rcases hm1 with ⟨y1, hh4, hm1⟩
      refine V.region ?_
      refine VO.cons rfl (V1.move rfl rfl rfl lt0 ?_)
      refine VO.cons rfl (V1.move rfl rfl rfl lt0 ?_)
      refine VO.cons rfl (V1.indexI rfl rfl esz_39 rfl rfl hh3 lt0 ?_)
      refine VO.cons rfl (V1.fieldPin rfl rfl fo_67_3 rfl lt0 ?_)
      refine VO.cons rfl (V1.loadPin rfl rfl tyk_36 rfl rfl lt0 ?_)
      refine VO.cons rfl (V1.move rfl rfl rfl lt0 ?_)
      refine VO.cons rfl (V1.call rfl rfl rfl cok_28 rfl (ok_laws_heldIntS hh4) rfl lt0 ?_)
      rintro _ _ ⟨rfl, rfl⟩
      refine VO.cons rfl (V1.assign rfl rfl rfl lt0 ?_)
      refine VO.nil ?_
      refine V.keep 58 [0, 1, 5] [] (E0 := [(0, .vl ρ0 5 (List.map (encCarton σ0) a)), (1, .int .i64 y1), (5, .int .i64 i)]) (H0 := []) rfl (⟨_, _, rfl, rfl, ⟨_, _, rfl, rfl, ⟨_, _, rfl, rfl, rfl⟩⟩⟩) (rfl) rfl ?_
      refine V.seq ?_
      refine V.seq ?_
      refine V.region ?_
      refine VO.cons rfl (V1.move rfl rfl rfl lt0 ?_)
      refine VO.cons rfl (V1.int rfl rfl rfl rfl rfl lt0 ?_)
      refine VO.nil ?_
      refine V.cond rfl (fun hc4 => ?_) (fun hc4 => ?_)
      ·
       replace hm1 := cond_t hc4 hm1
       refine V.seq ?_
       refine V.region ?_
       refine VO.cons rfl (V1.assign rfl rfl rfl lt0 ?_)
       refine VO.nil ?_
       refine V.ret ?_
       obtain rfl := hr1 _ (Option.some.inj hm1).symm
       change some _ = some _ at hm0
       obtain rfl := Option.some.inj hm0
       exact ⟨_, [], ⟨_, _, rfl, rfl, rfl⟩, List.nil_sublist _, rfl, rfl⟩
      ·
       replace hm1 := cond_f hc4 hm1
       refine V.skip ?_
       refine V.seq ?_
       refine V.seq ?_
       replace hm1 := asrt_some hm1; rcases hm1 with ⟨hh5, hm1⟩
       refine V.region ?_
       refine VO.cons rfl (V1.move rfl rfl rfl lt0 ?_)
       refine VO.cons rfl (V1.move rfl rfl rfl lt0 ?_)
       refine VO.cons rfl (V1.indexI rfl rfl esz_39 rfl rfl hh5 lt0 ?_)
       refine VO.cons rfl (V1.fieldPin rfl rfl fo_67_4 rfl lt0 ?_)
       refine VO.cons rfl (V1.loadPin rfl rfl tyk_3 rfl rfl lt0 ?_)
       refine VO.cons rfl (V1.move rfl rfl rfl lt0 ?_)
       refine VO.cons rfl (V1.int rfl rfl rfl rfl rfl lt0 ?_)
       refine VO.nil ?_
       refine V.keep 58 [0, 1, 5, 54] [] (E0 := [(0, .vl ρ0 5 (List.map (encCarton σ0) a)), (1, .int .i64 y1), (5, .int .i64 i), (54, .bool (((a.getD (Int.toNat i) default).Thick) != y1))]) (H0 := []) rfl (⟨_, _, rfl, rfl, ⟨_, _, rfl, rfl, ⟨_, _, rfl, rfl, ⟨_, _, rfl, rfl, rfl⟩⟩⟩⟩) (rfl) rfl ?_
       refine V.cond rfl (fun hc5 => ?_) (fun hc5 => ?_)
       ·
        replace hm1 := cond_t hc5 hm1
        refine V.seq ?_
        refine V.region ?_
        refine VO.cons rfl (V1.assign rfl rfl rfl lt0 ?_)
        refine VO.nil ?_
        refine V.ret ?_
        obtain rfl := hr1 _ (Option.some.inj hm1).symm
        change some _ = some _ at hm0
        obtain rfl := Option.some.inj hm0
        exact ⟨_, [], ⟨_, _, rfl, rfl, rfl⟩, List.nil_sublist _, rfl, rfl⟩
       ·
        replace hm1 := cond_f hc5 hm1
        refine V.skip ?_
        refine V.region ?_
        refine VO.cons rfl (V1.move rfl rfl rfl lt0 ?_)
        refine VO.cons rfl (V1.int rfl rfl rfl rfl rfl lt0 ?_)
        refine VO.cons rfl (V1.assign rfl rfl rfl lt0 ?_)
        refine VO.nil ?_
        refine V.region ?_
        refine VO.cons rfl (V1.move rfl rfl rfl lt0 ?_)
        refine VO.cons rfl (V1.int rfl rfl rfl rfl rfl lt0 ?_)
        refine VO.cons rfl (V1.assign rfl rfl rfl lt0 ?_)
        refine VO.nil ?_
        exact ⟨(m0, ((IntKind.i64.wrap (y1 + (1 : Int))), (IntKind.i64.wrap (i + (1 : Int)))), ()), hl1 _ (Option.some.inj hm1).symm, Nat.lt_succ_self _, Keeps.mk (ks := []) rfl ⟨rfl, rfl, rfl, trivial⟩ (rfl) rfl⟩
  ·
   replace hm1 := cond_f hc0 hm1
   refine V.exit ?_
   obtain rfl := hr1 _ (Option.some.inj hm1).symm
   exact ⟨(k1, ()), rfl, Keeps.mk (ks := []) rfl ⟨rfl, trivial⟩ (rfl) rfl⟩
 ·
  rintro ⟨k0, _⟩ rfl
  try dsimp only at hm0
  refine V.seq ?_
  refine V.region ?_
  refine VO.cons rfl (V1.move rfl rfl rfl lt0 ?_)
  refine VO.cons rfl (V1.assign rfl rfl rfl lt0 ?_)
  refine VO.nil ?_
  refine V.ret ?_
  obtain rfl := Option.some.inj hm0
  exact ⟨_, [], ⟨_, _, rfl, rfl, rfl⟩, List.nil_sublist _, rfl, rfl⟩
end Go.Proofs.Ytfebeomnlkfgoaa
