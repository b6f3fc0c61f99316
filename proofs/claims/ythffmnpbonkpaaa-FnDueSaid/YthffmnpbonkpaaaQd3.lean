/- the functions do what their models say -/
import Derived.Test.YthffmnpbonkpaaaQd2
set_option linter.unusedSimpArgs false
set_option linter.unusedVariables false
set_option maxRecDepth 100000
set_option maxHeartbeats 4000000
namespace Go.Proofs.Ythffmnpbonkpaaa
open Go.VS

theorem ok_impl_rulesFor {ρ0 rn : Nat} {list : List Rule} {series : Int} {r : List Rule} (h : M.impl_rulesFor list series = some r) : Does Try.prog 148 [.vl ρ0 4 (List.map encRule list), .int .i64 series] [] rn (fun x H => ∃ (ob0_ : Option Nat), (ob0_ = none → r = []) ∧ x = optS 4 ob0_ (List.length r) ∧ H = optH 4 ob0_ (List.map encRule r)) := by
 have hm0 := h; clear h; unfold M.impl_rulesFor at hm0
 try dsimp only at hm0
 refine Does.intro (N := 24) Try.func148 rfl rfl rfl rfl ?_
 intro w0 S0
 refine V.seq ?_
 refine V.region ?_
 refine VO.cons rfl (V1.assign rfl rfl rfl (ltb rfl) ?_)
 refine VO.nil ?_
 refine V.seq ?_
 refine V.region ?_
 refine VO.cons rfl (V1.assign rfl rfl rfl (ltb rfl) ?_)
 refine VO.nil ?_
 refine V.seq ?_
 refine V.seq ?_
 refine V.region ?_
 refine VO.cons rfl (V1.move rfl rfl rfl (ltb rfl) ?_)
 refine VO.cons rfl (V1.lenMap rfl rfl rfl rfl rfl rfl isl_27 (ltb rfl) ?_)
 refine VO.cons rfl (V1.move rfl rfl rfl (ltb rfl) ?_)
 refine VO.nil ?_
 replace hm0 := bindO hm0; rcases hm0 with ⟨e0, he1, hm0⟩
 refine V.cutT (D := (List Rule) × (Option Nat)) (fun ⟨out_, ob0⟩ => ⟨24, [(5, optS 4 ob0 (List.length out_))], optH 4 ob0 (List.map encRule out_)⟩) (fun ⟨out_, ob0⟩ => (out_ = e0) ∧ (ob0 = none → out_ = [])) ?_ ?_
 ·
  refine V.block ?_
  refine V.keep 24 [5, 10, 1, 8, 9] [] (E0 := [(5, .nils), (10, .int .i64 (0 : Int)), (1, .int .i64 series), (8, .vl ρ0 4 (List.map encRule list)), (9, .int .i64 (list.length : Int))]) (H0 := []) rfl (⟨_, _, rfl, rfl, ⟨_, _, rfl, rfl, ⟨_, _, rfl, rfl, ⟨_, _, rfl, rfl, ⟨_, _, rfl, rfl, rfl⟩⟩⟩⟩⟩) (rfl) rfl ?_
  refine V.loopE (D := Nat × (List Rule × Int) × (Option Nat)) (fun ⟨n0, ⟨out_0, v⟩, ob1⟩ => [(5, optS 4 ob1 (List.length out_0)), (10, .int .i64 v)]) (fun ⟨n0, ⟨out_0, v⟩, ob1⟩ => optH 4 ob1 (List.map encRule out_0)) (fun ⟨n0, ⟨out_0, v⟩, ob1⟩ => loopO (M.impl_rulesFor_l0 list series) n0 (out_0, v) = some e0 ∧ (ob1 = none → out_0 = [])) (fun ⟨n0, _, _⟩ => n0) (rounds, (([] : List Rule), (0 : Int)), none) rfl ⟨he1, (fun _ => rfl)⟩ ?_
  rintro ⟨n0, ⟨out_0, v⟩, ob1⟩ ⟨hP0, hob1⟩
  obtain ⟨m0, y0, rfl, hm1, hl1, hr1⟩ := loop_head hP0
  unfold M.impl_rulesFor_l0 at hm1; dsimp only at hm1
  rcases ob1 with _ | ob1
  ·
   replace hob1 := hob1 rfl
   show V _ _ _ ⟨24, [(5, .nils), (10, .int .i64 v), (1, .int .i64 series), (8, .vl ρ0 4 (List.map encRule list)), (9, .int .i64 (list.length : Int))], []⟩
   refine V.seq ?_
   refine V.region ?_
   refine VO.cons rfl (V1.int rfl rfl rfl rfl rfl (ltb rfl) ?_)
   refine VO.nil ?_
   refine V.seq ?_
   refine V.cond rfl (fun hc0 => ?_) (fun hc0 => ?_)
   ·
    replace hm1 := cond_t hc0 hm1
    refine V.skip ?_
    refine V.seq ?_
    replace hm1 := bindO hm1; rcases hm1 with ⟨j0, hm2, hm1⟩
    refine V.cutT (D := (List Rule) × (Option Nat)) (fun ⟨out_1, ob2⟩ => ⟨24, [(5, optS 4 ob2 (List.length out_1)), (1, .int .i64 series), (8, .vl ρ0 4 (List.map encRule list)), (9, .int .i64 (list.length : Int)), (10, .int .i64 v)], optH 4 ob2 (List.map encRule out_1)⟩) (fun ⟨out_1, ob2⟩ => (out_1 = j0) ∧ (ob2 = none → out_1 = [])) ?_ ?_
    ·
     refine V.block ?_
     refine V.seq ?_
     replace hm2 := asrt_some hm2; rcases hm2 with ⟨hh0, hm2⟩
     refine V.region ?_
     refine VO.cons rfl (V1.indexI rfl rfl esz_27 rfl rfl hh0 (ltb rfl) ?_)
     refine VO.cons rfl (V1.loadPinAll rfl rfl tyk_37 rfl rfl (ltb rfl) ?_)
     refine VO.cons rfl (V1.alloc rfl rfl zk_37 (ltb rfl) ?_)
     intro b0
     refine VO.cons rfl (V1.storeRefAll (k := 0) rfl rfl tyk_37 rfl rfl rfl rfl rfl rfl ?_)
     refine VO.nil ?_
     refine V.seq ?_
     refine V.region ?_
     refine VO.cons rfl (V1.fieldRef rfl rfl fo_37_0 rfl (ltb rfl) ?_)
     refine VO.cons rfl (V1.loadRef (k := 0) rfl rfl tyk_3 rfl rfl rfl rfl rfl (ltb rfl) ?_)
     refine VO.cons rfl (V1.move rfl rfl rfl (ltb rfl) ?_)
     refine VO.cons rfl (V1.int rfl rfl rfl rfl rfl (ltb rfl) ?_)
     refine VO.nil ?_
     refine V.keep 24 [1, 5, 7, 8, 9, 10, 17] [0] (E0 := [(1, .int .i64 series), (5, .nils), (7, .ref b0 4 0 0), (8, .vl ρ0 4 (List.map encRule list)), (9, .int .i64 (list.length : Int)), (10, .int .i64 v), (17, .bool (((list.getD (Int.toNat v) default).Series) == series))]) (H0 := [(b0, ⟨4, [encRule (list.getD (Int.toNat v) default)]⟩)]) rfl (⟨_, _, rfl, rfl, ⟨_, _, rfl, rfl, ⟨_, _, rfl, rfl, ⟨_, _, rfl, rfl, ⟨_, _, rfl, rfl, ⟨_, _, rfl, rfl, ⟨_, _, rfl, rfl, rfl⟩⟩⟩⟩⟩⟩⟩) (⟨_, _, rfl, rfl, rfl⟩) rfl ?_
     refine V.cond rfl (fun hc1 => ?_) (fun hc1 => ?_)
     ·
      replace hm2 := cond_t hc1 hm2
      replace hm2 := asrt_some hm2; rcases hm2 with ⟨hh1, hm2⟩
      refine V.region ?_
      refine VO.cons rfl (V1.move rfl rfl rfl (ltb rfl) ?_)
      refine VO.cons rfl (V1.loadRefAll (k := 0) rfl rfl tyk_37 rfl rfl rfl rfl rfl (ltb rfl) ?_)
      refine VO.cons rfl (V1.buildSliceT (f := encRule) ([(list.getD (Int.toNat v) default)] : List Rule) rfl rfl esz_27 zk_37 rfl rfl rfl rfl rfl rfl rfl (ltb rfl) ?_)
      intro b1
      refine VO.cons rfl (V1.appendNilE (f := encRule) (l := out_0) (m := ([(list.getD (Int.toNat v) default)] : List Rule)) hob1 rfl rfl rfl rfl rfl esz_27 eby_27 zk_37 rfl rfl rfl (SrcOf.srMap (k := 0) rfl isl_27) rfl hh1 (ltb rfl) ?_)
      intro b2
      refine VO.cons rfl (V1.assign rfl rfl rfl (ltb rfl) ?_)
      refine VO.nil ?_
      exact ⟨((out_0 ++ ([(list.getD (Int.toNat v) default)] : List Rule)), (some b2)), ⟨Option.some.inj hm2, (fun e => by cases e)⟩, Keeps.mk (ks := [0]) rfl ⟨rfl, rfl, rfl, rfl, rfl, trivial⟩ (⟨_, _, rfl, rfl, rfl⟩) rfl⟩
     ·
      replace hm2 := cond_f hc1 hm2
      refine V.skip ?_
      exact ⟨(out_0, none), ⟨Option.some.inj hm2, (fun _ => hob1)⟩, Keeps.mk (ks := []) rfl ⟨rfl, rfl, rfl, rfl, rfl, trivial⟩ (rfl) rfl⟩
    ·
     rintro ⟨out_1, ob2⟩ ⟨rfl, hob2⟩
     try dsimp only at hm1
     rcases ob2 with _ | ob2
     ·
      replace hob2 := hob2 rfl
      refine V.region ?_
      refine VO.cons rfl (V1.int rfl rfl rfl rfl rfl (ltb rfl) ?_)
      refine VO.cons rfl (V1.move rfl rfl rfl (ltb rfl) ?_)
      refine VO.nil ?_
      exact ⟨(m0, (out_1, (IntKind.i64.wrap (v + (1 : Int)))), none), ⟨hl1 _ (Option.some.inj hm1).symm, (fun _ => hob2)⟩, Nat.lt_succ_self _, Keeps.mk (ks := []) rfl ⟨rfl, rfl, rfl, rfl, rfl, trivial⟩ (rfl) rfl⟩
     ·
      refine V.region ?_
      refine VO.cons rfl (V1.int rfl rfl rfl rfl rfl (ltb rfl) ?_)
      refine VO.cons rfl (V1.move rfl rfl rfl (ltb rfl) ?_)
      refine VO.nil ?_
      exact ⟨(m0, (out_1, (IntKind.i64.wrap (v + (1 : Int)))), (some ob2)), ⟨hl1 _ (Option.some.inj hm1).symm, (fun e => by cases e)⟩, Nat.lt_succ_self _, Keeps.mk (ks := [0]) rfl ⟨rfl, rfl, rfl, rfl, rfl, trivial⟩ (⟨_, _, rfl, rfl, rfl⟩) rfl⟩
   ·
    replace hm1 := cond_f hc0 hm1
    refine V.exit ?_
    obtain rfl := hr1 _ (Option.some.inj hm1).symm
    exact ⟨(out_0, none), ⟨rfl, (fun _ => hob1)⟩, Keeps.mk (ks := []) rfl ⟨rfl, trivial⟩ (rfl) rfl⟩
  ·
   show V _ _ _ ⟨24, [(5, .sref ob1 4 0 (List.length out_0)), (10, .int .i64 v), (1, .int .i64 series), (8, .vl ρ0 4 (List.map encRule list)), (9, .int .i64 (list.length : Int))], [(ob1, ⟨4, List.map encRule out_0⟩)]⟩
   refine V.seq ?_
   refine V.region ?_
   refine VO.cons rfl (V1.int rfl rfl rfl rfl rfl (ltb rfl) ?_)
   refine VO.nil ?_
   refine V.seq ?_
   refine V.cond rfl (fun hc0 => ?_) (fun hc0 => ?_)
   ·
    replace hm1 := cond_t hc0 hm1
    refine V.skip ?_
    refine V.seq ?_
    replace hm1 := bindO hm1; rcases hm1 with ⟨j0, hm2, hm1⟩
    refine V.cutT (D := (List Rule) × (Nat)) (fun ⟨out_1, b0⟩ => ⟨24, [(5, .sref b0 4 0 (List.length out_1)), (1, .int .i64 series), (8, .vl ρ0 4 (List.map encRule list)), (9, .int .i64 (list.length : Int)), (10, .int .i64 v)], [(b0, ⟨4, List.map encRule out_1⟩)]⟩) (fun ⟨out_1, b0⟩ => (out_1 = j0)) ?_ ?_
    ·
     refine V.block ?_
     refine V.seq ?_
     replace hm2 := asrt_some hm2; rcases hm2 with ⟨hh0, hm2⟩
     refine V.region ?_
     refine VO.cons rfl (V1.indexI rfl rfl esz_27 rfl rfl hh0 (ltb rfl) ?_)
     refine VO.cons rfl (V1.loadPinAll rfl rfl tyk_37 rfl rfl (ltb rfl) ?_)
     refine VO.cons rfl (V1.alloc rfl rfl zk_37 (ltb rfl) ?_)
     intro b1
     refine VO.cons rfl (V1.storeRefAll (k := 0) rfl rfl tyk_37 rfl rfl rfl rfl rfl rfl ?_)
     refine VO.nil ?_
     refine V.seq ?_
     refine V.region ?_
     refine VO.cons rfl (V1.fieldRef rfl rfl fo_37_0 rfl (ltb rfl) ?_)
     refine VO.cons rfl (V1.loadRef (k := 0) rfl rfl tyk_3 rfl rfl rfl rfl rfl (ltb rfl) ?_)
     refine VO.cons rfl (V1.move rfl rfl rfl (ltb rfl) ?_)
     refine VO.cons rfl (V1.int rfl rfl rfl rfl rfl (ltb rfl) ?_)
     refine VO.nil ?_
     refine V.keep 24 [1, 5, 7, 8, 9, 10, 17] [0, 1] (E0 := [(1, .int .i64 series), (5, .sref ob1 4 0 (List.length out_0)), (7, .ref b1 4 0 0), (8, .vl ρ0 4 (List.map encRule list)), (9, .int .i64 (list.length : Int)), (10, .int .i64 v), (17, .bool (((list.getD (Int.toNat v) default).Series) == series))]) (H0 := [(b1, ⟨4, [encRule (list.getD (Int.toNat v) default)]⟩), (ob1, ⟨4, List.map encRule out_0⟩)]) rfl (⟨_, _, rfl, rfl, ⟨_, _, rfl, rfl, ⟨_, _, rfl, rfl, ⟨_, _, rfl, rfl, ⟨_, _, rfl, rfl, ⟨_, _, rfl, rfl, ⟨_, _, rfl, rfl, rfl⟩⟩⟩⟩⟩⟩⟩) (⟨_, _, rfl, rfl, ⟨_, _, rfl, rfl, rfl⟩⟩) rfl ?_
     refine V.cond rfl (fun hc1 => ?_) (fun hc1 => ?_)
     ·
      replace hm2 := cond_t hc1 hm2
      replace hm2 := asrt_some hm2; rcases hm2 with ⟨hh1, hm2⟩
      refine V.region ?_
      refine VO.cons rfl (V1.move rfl rfl rfl (ltb rfl) ?_)
      refine VO.cons rfl (V1.loadRefAll (k := 0) rfl rfl tyk_37 rfl rfl rfl rfl rfl (ltb rfl) ?_)
      refine VO.cons rfl (V1.buildSliceT (f := encRule) ([(list.getD (Int.toNat v) default)] : List Rule) rfl rfl esz_27 zk_37 rfl rfl rfl rfl rfl rfl rfl (ltb rfl) ?_)
      intro b2
      refine VO.cons rfl (V1.appendMap (k := 2) (f := encRule) (l := out_0) (m := ([(list.getD (Int.toNat v) default)] : List Rule)) rfl rfl rfl rfl rfl esz_27 eby_27 zk_37 rfl rfl rfl (SrcOf.srMap (k := 0) rfl isl_27) hh1 (ltb rfl) ?_)
      intro b3
      refine VO.cons rfl (V1.assign rfl rfl rfl (ltb rfl) ?_)
      refine VO.nil ?_
      exact ⟨((out_0 ++ ([(list.getD (Int.toNat v) default)] : List Rule)), b3), Option.some.inj hm2, Keeps.mk (ks := [0]) rfl ⟨rfl, rfl, rfl, rfl, rfl, trivial⟩ (⟨_, _, rfl, rfl, rfl⟩) rfl⟩
     ·
      replace hm2 := cond_f hc1 hm2
      refine V.skip ?_
      exact ⟨(out_0, ob1), Option.some.inj hm2, Keeps.mk (ks := [1]) rfl ⟨rfl, rfl, rfl, rfl, rfl, trivial⟩ (⟨_, _, rfl, rfl, rfl⟩) rfl⟩
    ·
     rintro ⟨out_1, b0⟩ rfl
     try dsimp only at hm1
     refine V.region ?_
     refine VO.cons rfl (V1.int rfl rfl rfl rfl rfl (ltb rfl) ?_)
     refine VO.cons rfl (V1.move rfl rfl rfl (ltb rfl) ?_)
     refine VO.nil ?_
     exact ⟨(m0, (out_1, (IntKind.i64.wrap (v + (1 : Int)))), (some b0)), ⟨hl1 _ (Option.some.inj hm1).symm, (fun e => by cases e)⟩, Nat.lt_succ_self _, Keeps.mk (ks := [0]) rfl ⟨rfl, rfl, rfl, rfl, rfl, trivial⟩ (⟨_, _, rfl, rfl, rfl⟩) rfl⟩
   ·
    replace hm1 := cond_f hc0 hm1
    refine V.exit ?_
    obtain rfl := hr1 _ (Option.some.inj hm1).symm
    exact ⟨(out_0, (some ob1)), ⟨rfl, (fun e => by cases e)⟩, Keeps.mk (ks := [0]) rfl ⟨rfl, trivial⟩ (⟨_, _, rfl, rfl, rfl⟩) rfl⟩
 ·
  rintro ⟨out_, ob0⟩ ⟨rfl, hob0⟩
  try dsimp only at hm0
  rcases ob0 with _ | ob0
  ·
   replace hob0 := hob0 rfl
   refine V.seq ?_
   refine V.region ?_
   refine VO.cons rfl (V1.move rfl rfl rfl (ltb rfl) ?_)
   refine VO.cons rfl (V1.assign rfl rfl rfl (ltb rfl) ?_)
   refine VO.nil ?_
   refine V.keep 24 [4] [] (E0 := [(4, .nils)]) (H0 := []) rfl (⟨_, _, rfl, rfl, rfl⟩) (rfl) rfl ?_
   refine V.ret ?_
   obtain rfl := Option.some.inj hm0
   exact ⟨_, _, ⟨_, _, rfl, rfl, rfl⟩, List.Sublist.refl _, none, (fun _ => hob0), rfl, rfl⟩
  ·
   refine V.seq ?_
   refine V.region ?_
   refine VO.cons rfl (V1.move rfl rfl rfl (ltb rfl) ?_)
   refine VO.cons rfl (V1.assign rfl rfl rfl (ltb rfl) ?_)
   refine VO.nil ?_
   refine V.keep 24 [4] [0] (E0 := [(4, .sref ob0 4 0 (List.length out_))]) (H0 := [(ob0, ⟨4, List.map encRule out_⟩)]) rfl (⟨_, _, rfl, rfl, rfl⟩) (⟨_, _, rfl, rfl, rfl⟩) rfl ?_
   refine V.ret ?_
   obtain rfl := Option.some.inj hm0
   exact ⟨_, _, ⟨_, _, rfl, rfl, rfl⟩, List.Sublist.refl _, some ob0, (fun e => by cases e), rfl, rfl⟩

theorem ok_impl_eventAt_1 {τ1 rn : Nat} {e_ : Event} {kind : Int} {r : Bool} (h : M.impl_eventAt_1 e_ kind = some r) : Does Try.prog 296 [encEvent e_, .pin τ1 (.int .i64 kind) 0] [] rn (fun x H => x = .bool r ∧ H = []) := by
 have hm0 := h; clear h; unfold M.impl_eventAt_1 at hm0
 try dsimp only at hm0
 refine Does.intro (N := 8) Try.func296 rfl rfl rfl rfl ?_
 intro w0 S0
 refine V.seq ?_
 refine V.region ?_
 refine VO.cons rfl (V1.boxN (n := 2) rfl rfl rfl rfl rfl (ltb rfl) ?_)
 intro b0
 refine VO.cons rfl (V1.assign rfl rfl rfl (ltb rfl) ?_)
 refine VO.nil ?_
 refine V.seq ?_
 refine V.region ?_
 refine VO.cons rfl (V1.fieldRef rfl rfl fo_43_0 rfl (ltb rfl) ?_)
 refine VO.cons rfl (V1.loadRef (k := 0) rfl rfl tyk_3 rfl rfl rfl rfl rfl (ltb rfl) ?_)
 refine VO.cons rfl (V1.loadPin rfl rfl tyk_3 rfl rfl (ltb rfl) ?_)
 refine VO.cons rfl (V1.int rfl rfl rfl rfl rfl (ltb rfl) ?_)
 refine VO.cons rfl (V1.assign rfl rfl rfl (ltb rfl) ?_)
 refine VO.nil ?_
 refine V.ret ?_
 obtain rfl := Option.some.inj hm0
 exact ⟨_, [], ⟨_, _, rfl, rfl, rfl⟩, List.nil_sublist _, rfl, rfl⟩

theorem ok_slices_IndexFunc_impl_Event_impl_Event {ρ0 rn : Nat} {s : List Event} {f1 : Nat} {cs1 : List PV} {r : Int} {fm : Event → Option Bool} (h : M.slices_IndexFunc_impl_Event_impl_Event s fm = some r) (hok1 : callOK Try.prog f1 = true) (hf1 : ∀ x0 r, fm x0 = some r → Does Try.prog f1 (encEvent x0 :: cs1) [] rn (fun x H => x = .bool r ∧ H = [])) : Does Try.prog 295 [.vl ρ0 2 (List.map encEvent s), .fn f1 cs1] [] rn (fun x H => x = .int .i64 r ∧ H = []) := by
 have hm0 := h; clear h; unfold M.slices_IndexFunc_impl_Event_impl_Event at hm0
 try dsimp only at hm0
 refine Does.intro (N := 19) Try.func295 rfl rfl rfl rfl ?_
 intro w0 S0
 refine V.seq ?_
 refine V.region ?_
 refine VO.cons rfl (V1.assign rfl rfl rfl (ltb rfl) ?_)
 refine VO.nil ?_
 refine V.seq ?_
 refine V.seq ?_
 refine V.region ?_
 refine VO.cons rfl (V1.move rfl rfl rfl (ltb rfl) ?_)
 refine VO.cons rfl (V1.lenMap rfl rfl rfl rfl rfl rfl isl_24 (ltb rfl) ?_)
 refine VO.cons rfl (V1.move rfl rfl rfl (ltb rfl) ?_)
 refine VO.nil ?_
 replace hm0 := bindO hm0; rcases hm0 with ⟨e0, he1, hm0⟩
 refine V.cutT (D := (Unit) × (Unit)) (fun ⟨_, _⟩ => ⟨19, [], []⟩) (fun ⟨_, _⟩ => (.inl () = e0)) ?_ ?_
 ·
  refine V.block ?_
  refine V.keep 19 [8, 0, 1, 7] [] (E0 := [(8, .int .i64 (0 : Int)), (0, .vl ρ0 2 (List.map encEvent s)), (1, .fn f1 cs1), (7, .int .i64 (s.length : Int))]) (H0 := []) rfl (⟨_, _, rfl, rfl, ⟨_, _, rfl, rfl, ⟨_, _, rfl, rfl, ⟨_, _, rfl, rfl, rfl⟩⟩⟩⟩) (rfl) rfl ?_
  refine V.loopE (D := Nat × (Int) × (Unit)) (fun ⟨n0, v, _⟩ => [(8, .int .i64 v)]) (fun ⟨n0, v, _⟩ => []) (fun ⟨n0, v, _⟩ => loopO (M.slices_IndexFunc_impl_Event_impl_Event_l0 s fm) n0 v = some e0) (fun ⟨n0, _, _⟩ => n0) (rounds, (0 : Int), ()) rfl he1 ?_
  rintro ⟨n0, v, _⟩ hP0
  obtain ⟨m0, y0, rfl, hm1, hl1, hr1⟩ := loop_head hP0
  unfold M.slices_IndexFunc_impl_Event_impl_Event_l0 at hm1; dsimp only at hm1
  show V _ _ _ ⟨19, [(8, .int .i64 v), (0, .vl ρ0 2 (List.map encEvent s)), (1, .fn f1 cs1), (7, .int .i64 (s.length : Int))], []⟩
  refine V.seq ?_
  refine V.region ?_
  refine VO.cons rfl (V1.int rfl rfl rfl rfl rfl (ltb rfl) ?_)
  refine VO.nil ?_
  refine V.seq ?_
  refine V.cond rfl (fun hc0 => ?_) (fun hc0 => ?_)
  ·
   replace hm1 := cond_t hc0 hm1
   refine V.skip ?_
   refine V.seq ?_
   refine V.block ?_
   refine V.seq ?_
   refine V.region ?_
   refine VO.cons rfl (V1.move rfl rfl rfl (ltb rfl) ?_)
   refine VO.cons rfl (V1.assign rfl rfl rfl (ltb rfl) ?_)
   refine VO.nil ?_
   refine V.seq ?_
   replace hm1 := asrt_some hm1; rcases hm1 with ⟨hh0, hm1⟩
   replace hm1 := bindO hm1; rcases hm1 with ⟨y1, hh1, hm1⟩
   refine V.region ?_
   refine VO.cons rfl (V1.move rfl rfl rfl (ltb rfl) ?_)
   refine VO.cons rfl (V1.move rfl rfl rfl (ltb rfl) ?_)
   refine VO.cons rfl (V1.move rfl rfl rfl (ltb rfl) ?_)
   refine VO.cons rfl (V1.indexI rfl rfl esz_24 rfl rfl hh0 (ltb rfl) ?_)
   refine VO.cons rfl (V1.loadPinAll rfl rfl tyk_43 rfl rfl (ltb rfl) ?_)
   refine VO.cons rfl (V1.callG (τ := 0) (Bw := []) rfl (ltb rfl) (run_callFn rfl rfl rfl hok1 rfl) (.refl _) (Lends.same _) (fun _ h => by cases h) ((hf1 _  _) hh1) (.inl rfl) (.inl rfl) ?_)
   rintro _ _ ⟨rfl, rfl⟩
   refine VO.nil ?_
   refine V.keep 19 [0, 1, 5, 7, 8, 16] [] (E0 := [(0, .vl ρ0 2 (List.map encEvent s)), (1, .fn f1 cs1), (5, .int .i64 v), (7, .int .i64 (s.length : Int)), (8, .int .i64 v), (16, .bool y1)]) (H0 := []) rfl (⟨_, _, rfl, rfl, ⟨_, _, rfl, rfl, ⟨_, _, rfl, rfl, ⟨_, _, rfl, rfl, ⟨_, _, rfl, rfl, ⟨_, _, rfl, rfl, rfl⟩⟩⟩⟩⟩⟩) (rfl) rfl ?_
   refine V.cond rfl (fun hc1 => ?_) (fun hc1 => ?_)
   ·
    replace hm1 := cond_t hc1 hm1
    refine V.seq ?_
    refine V.region ?_
    refine VO.cons rfl (V1.move rfl rfl rfl (ltb rfl) ?_)
    refine VO.cons rfl (V1.assign rfl rfl rfl (ltb rfl) ?_)
    refine VO.nil ?_
    refine V.ret ?_
    obtain rfl := hr1 _ (Option.some.inj hm1).symm
    change some _ = some _ at hm0
    obtain rfl := Option.some.inj hm0
    exact ⟨_, [], ⟨_, _, rfl, rfl, rfl⟩, List.nil_sublist _, rfl, rfl⟩
   ·
    replace hm1 := cond_f hc1 hm1
    refine V.skip ?_
    refine V.region ?_
    refine VO.cons rfl (V1.int rfl rfl rfl rfl rfl (ltb rfl) ?_)
    refine VO.cons rfl (V1.move rfl rfl rfl (ltb rfl) ?_)
    refine VO.nil ?_
    exact ⟨(m0, (IntKind.i64.wrap (v + (1 : Int))), ()), hl1 _ (Option.some.inj hm1).symm, Nat.lt_succ_self _, Keeps.mk (ks := []) rfl ⟨rfl, rfl, rfl, rfl, trivial⟩ (rfl) rfl⟩
  ·
   replace hm1 := cond_f hc0 hm1
   refine V.exit ?_
   obtain rfl := hr1 _ (Option.some.inj hm1).symm
   exact ⟨((), ()), rfl, Keeps.mk (ks := []) rfl trivial (rfl) rfl⟩
 ·
  rintro ⟨_, _⟩ rfl
  try dsimp only at hm0
  refine V.seq ?_
  refine V.region ?_
  refine VO.cons rfl (V1.assign rfl rfl rfl (ltb rfl) ?_)
  refine VO.nil ?_
  refine V.ret ?_
  obtain rfl := Option.some.inj hm0
  exact ⟨_, [], ⟨_, _, rfl, rfl, rfl⟩, List.nil_sublist _, rfl, rfl⟩

theorem ok_impl_eventAt {ρ0 rn : Nat} {r_ : Record} {kind : Int} {r : Int} (h : M.impl_eventAt r_ kind = some r) : Does Try.prog 271 [encRecord ρ0 r_, .int .i64 kind] [] rn (fun x H => x = .int .i64 r ∧ H = []) := by
 have hm0 := h; clear h; unfold M.impl_eventAt at hm0
 try dsimp only at hm0
 refine Does.intro (N := 9) Try.func271 rfl rfl rfl rfl ?_
 intro w0 S0
 refine V.seq ?_
 refine V.region ?_
 refine VO.cons rfl (V1.boxN (n := 4) rfl rfl rfl rfl rfl (ltb rfl) ?_)
 intro b0
 refine VO.cons rfl (V1.boxN (n := 1) rfl rfl rfl rfl rfl (ltb rfl) ?_)
 intro b1
 refine VO.cons rfl (V1.assign rfl rfl rfl (ltb rfl) ?_)
 refine VO.nil ?_
 refine V.seq ?_
 replace hm0 := bindO hm0; rcases hm0 with ⟨y0, hh0, hm0⟩
 refine V.region ?_
 refine VO.cons rfl (V1.fieldRef rfl rfl fo_26_3 rfl (ltb rfl) ?_)
 refine VO.cons rfl (V1.loadRef (k := 1) rfl rfl tyk_24 rfl rfl rfl rfl rfl (ltb rfl) ?_)
 refine VO.cons rfl (V1.makeFunc rfl rfl rfl (ltb rfl) ?_)
 refine VO.cons rfl (V1.callL (rn + 1) [b1] [.vl ρ0 2 (List.map encEvent r_.Events), .fn 296 [.pin (rn + 1) (.int .i64 kind) 0]] rfl rfl rfl cok_295 rfl ⟨_, _, rfl, .same _, ⟨_, _, rfl, Lend.fn ⟨_, _, rfl, Lend.ref 0 rfl rfl rfl rfl (.head _), rfl⟩, rfl⟩⟩ (bwCons (k := 0) rfl bwNil) (ok_slices_IndexFunc_impl_Event_impl_Event hh0 (fm := (fun x0 => M.impl_eventAt_1 x0 kind)) cok_296 (fun _ _ h => ok_impl_eventAt_1 h)) rfl (⟨(by dsimp only; omega), by rintro _ _ ⟨rfl, rfl⟩; exact ⟨rfl, by simp⟩⟩) (ltb rfl) ?_)
 rintro _ _ ⟨rfl, rfl⟩
 refine VO.cons rfl (V1.assign rfl rfl rfl (ltb rfl) ?_)
 refine VO.nil ?_
 refine V.ret ?_
 obtain rfl := Option.some.inj hm0
 exact ⟨_, [], ⟨_, _, rfl, rfl, rfl⟩, List.nil_sublist _, rfl, rfl⟩

theorem ok_impl_dayOf {ρ0 rn : Nat} {r_ : Record} {kind : Int} {r : Int × Bool} (h : M.impl_dayOf r_ kind = some r) : Does Try.prog 156 [encRecord ρ0 r_, .int .i64 kind] [] rn (fun x H => x = .tup [.int .i64 r.1, .bool r.2] ∧ H = []) := by
 have hm0 := h; clear h; unfold M.impl_dayOf at hm0
 try dsimp only at hm0
 refine Does.intro (N := 22) Try.func156 rfl rfl rfl rfl ?_
 intro w0 S0
 refine V.seq ?_
 refine V.region ?_
 refine VO.cons rfl (V1.boxN (n := 4) rfl rfl rfl rfl rfl (ltb rfl) ?_)
 intro b0
 refine VO.cons rfl (V1.assign rfl rfl rfl (ltb rfl) ?_)
 refine VO.cons rfl (V1.assign rfl rfl rfl (ltb rfl) ?_)
 refine VO.nil ?_
 refine V.seq ?_
 refine V.seq ?_
 refine V.region ?_
 refine VO.cons rfl (V1.move rfl rfl rfl (ltb rfl) ?_)
 refine VO.cons rfl (V1.int rfl rfl rfl rfl rfl (ltb rfl) ?_)
 refine VO.nil ?_
 refine V.keep 22 [1, 2, 8] [0] (E0 := [(1, .int .i64 kind), (2, .ref b0 4 0 0), (8, .bool (kind == (0 : Int)))]) (H0 := [(b0, ⟨4, [encRecord ρ0 r_]⟩)]) rfl (⟨_, _, rfl, rfl, ⟨_, _, rfl, rfl, ⟨_, _, rfl, rfl, rfl⟩⟩⟩) (⟨_, _, rfl, rfl, rfl⟩) rfl ?_
 refine V.cond rfl (fun hc0 => ?_) (fun hc0 => ?_)
 ·
  replace hm0 := cond_t hc0 hm0
  refine V.seq ?_
  refine V.region ?_
  refine VO.cons rfl (V1.fieldRef rfl rfl fo_26_2 rfl (ltb rfl) ?_)
  refine VO.cons rfl (V1.loadRef (k := 0) rfl rfl tyk_3 rfl rfl rfl rfl rfl (ltb rfl) ?_)
  refine VO.cons rfl (V1.assign rfl rfl rfl (ltb rfl) ?_)
  refine VO.cons rfl (V1.assign rfl rfl rfl (ltb rfl) ?_)
  refine VO.nil ?_
  refine V.ret ?_
  obtain rfl := Option.some.inj hm0
  exact ⟨_, [], ⟨_, _, rfl, rfl, ⟨_, _, rfl, rfl, rfl⟩⟩, List.nil_sublist _, rfl, rfl⟩
 ·
  replace hm0 := cond_f hc0 hm0
  refine V.skip ?_
  refine V.seq ?_
  replace hm0 := bindO hm0; rcases hm0 with ⟨y0, hh0, hm0⟩
  refine V.region ?_
  refine VO.cons rfl (V1.loadRefAll (k := 0) rfl rfl tyk_26 rfl rfl rfl rfl rfl (ltb rfl) ?_)
  refine VO.cons rfl (V1.move rfl rfl rfl (ltb rfl) ?_)
  refine VO.cons rfl (V1.call rfl rfl rfl cok_271 rfl (ok_impl_eventAt hh0) rfl (ltb rfl) ?_)
  rintro _ _ ⟨rfl, rfl⟩
  refine VO.cons rfl (V1.assign rfl rfl rfl (ltb rfl) ?_)
  refine VO.nil ?_
  refine V.keep 22 [2, 6] [0] (E0 := [(2, .ref b0 4 0 0), (6, .int .i64 y0)]) (H0 := [(b0, ⟨4, [encRecord ρ0 r_]⟩)]) rfl (⟨_, _, rfl, rfl, ⟨_, _, rfl, rfl, rfl⟩⟩) (⟨_, _, rfl, rfl, rfl⟩) rfl ?_
  refine V.seq ?_
  refine V.seq ?_
  refine V.region ?_
  refine VO.cons rfl (V1.move rfl rfl rfl (ltb rfl) ?_)
  refine VO.cons rfl (V1.int rfl rfl rfl rfl rfl (ltb rfl) ?_)
  refine VO.nil ?_
  refine V.cond rfl (fun hc1 => ?_) (fun hc1 => ?_)
  ·
   replace hm0 := cond_t hc1 hm0
   refine V.seq ?_
   refine V.region ?_
   refine VO.cons rfl (V1.assign rfl rfl rfl (ltb rfl) ?_)
   refine VO.cons rfl (V1.assign rfl rfl rfl (ltb rfl) ?_)
   refine VO.nil ?_
   refine V.ret ?_
   obtain rfl := Option.some.inj hm0
   exact ⟨_, [], ⟨_, _, rfl, rfl, ⟨_, _, rfl, rfl, rfl⟩⟩, List.nil_sublist _, rfl, rfl⟩
  ·
   replace hm0 := cond_f hc1 hm0
   refine V.skip ?_
   refine V.seq ?_
   replace hm0 := asrt_some hm0; rcases hm0 with ⟨hh1, hm0⟩
   refine V.region ?_
   refine VO.cons rfl (V1.fieldRef rfl rfl fo_26_3 rfl (ltb rfl) ?_)
   refine VO.cons rfl (V1.loadRef (k := 0) rfl rfl tyk_24 rfl rfl rfl rfl rfl (ltb rfl) ?_)
   refine VO.cons rfl (V1.move rfl rfl rfl (ltb rfl) ?_)
   refine VO.cons rfl (V1.indexI rfl rfl esz_24 rfl rfl hh1 (ltb rfl) ?_)
   refine VO.cons rfl (V1.fieldPin rfl rfl fo_43_1 rfl (ltb rfl) ?_)
   refine VO.cons rfl (V1.loadPin rfl rfl tyk_3 rfl rfl (ltb rfl) ?_)
   refine VO.cons rfl (V1.assign rfl rfl rfl (ltb rfl) ?_)
   refine VO.cons rfl (V1.assign rfl rfl rfl (ltb rfl) ?_)
   refine VO.nil ?_
   refine V.ret ?_
   obtain rfl := Option.some.inj hm0
   exact ⟨_, [], ⟨_, _, rfl, rfl, ⟨_, _, rfl, rfl, rfl⟩⟩, List.nil_sublist _, rfl, rfl⟩

theorem ok_impl_endOf {ρ0 rn : Nat} {r_ : Record} {rule : Rule} {r : Int} (h : M.impl_endOf r_ rule = some r) : Does Try.prog 149 [encRecord ρ0 r_, encRule rule] [] rn (fun x H => x = .int .i64 r ∧ H = []) := by
 have hm0 := h; clear h; unfold M.impl_endOf at hm0
 try dsimp only at hm0
 refine Does.intro (N := 20) Try.func149 rfl rfl rfl rfl ?_
 intro w0 S0
 refine V.seq ?_
 refine V.region ?_
 refine VO.cons rfl (V1.boxN (n := 4) rfl rfl rfl rfl rfl (ltb rfl) ?_)
 intro b0
 refine VO.cons rfl (V1.boxN (n := 4) rfl rfl rfl rfl rfl (ltb rfl) ?_)
 intro b1
 refine VO.cons rfl (V1.assign rfl rfl rfl (ltb rfl) ?_)
 refine VO.nil ?_
 refine V.seq ?_
 replace hm0 := bindO hm0; rcases hm0 with ⟨y0, hh0, hm0⟩
 refine V.region ?_
 refine VO.cons rfl (V1.loadRefAll (k := 1) rfl rfl tyk_26 rfl rfl rfl rfl rfl (ltb rfl) ?_)
 refine VO.cons rfl (V1.fieldRef rfl rfl fo_37_1 rfl (ltb rfl) ?_)
 refine VO.cons rfl (V1.loadRef (k := 0) rfl rfl tyk_3 rfl rfl rfl rfl rfl (ltb rfl) ?_)
 refine VO.cons rfl (V1.call rfl rfl rfl cok_156 rfl (ok_impl_dayOf hh0) rfl (ltb rfl) ?_)
 rintro _ _ ⟨rfl, rfl⟩
 refine VO.cons rfl (V1.move rfl rfl rfl (ltb rfl) ?_)
 refine VO.cons rfl (V1.extract rfl rfl rfl rfl (ltb rfl) ?_)
 refine VO.cons rfl (V1.extract rfl rfl rfl rfl (ltb rfl) ?_)
 refine VO.cons rfl (V1.assign rfl rfl rfl (ltb rfl) ?_)
 refine VO.cons rfl (V1.assign rfl rfl rfl (ltb rfl) ?_)
 refine VO.nil ?_
 refine V.keep 20 [3, 5, 6] [0] (E0 := [(3, .ref b1 4 0 0), (5, .int .i64 y0.1), (6, .bool y0.2)]) (H0 := [(b1, ⟨4, [encRule rule]⟩)]) rfl (⟨_, _, rfl, rfl, ⟨_, _, rfl, rfl, ⟨_, _, rfl, rfl, rfl⟩⟩⟩) (⟨_, _, rfl, rfl, rfl⟩) rfl ?_
 refine V.seq ?_
 refine V.seq ?_
 refine V.region ?_
 refine VO.cons rfl (V1.move rfl rfl rfl (ltb rfl) ?_)
 refine VO.cons rfl (V1.not rfl rfl rfl (ltb rfl) ?_)
 refine VO.nil ?_
 refine V.cond rfl (fun hc0 => ?_) (fun hc0 => ?_)
 ·
  replace hm0 := cond_t hc0 hm0
  refine V.seq ?_
  refine V.region ?_
  refine VO.cons rfl (V1.assign rfl rfl rfl (ltb rfl) ?_)
  refine VO.nil ?_
  refine V.ret ?_
  obtain rfl := Option.some.inj hm0
  exact ⟨_, [], ⟨_, _, rfl, rfl, rfl⟩, List.nil_sublist _, rfl, rfl⟩
 ·
  replace hm0 := cond_f hc0 hm0
  refine V.skip ?_
  refine V.seq ?_
  refine V.region ?_
  refine VO.cons rfl (V1.move rfl rfl rfl (ltb rfl) ?_)
  refine VO.cons rfl (V1.fieldRef rfl rfl fo_37_2 rfl (ltb rfl) ?_)
  refine VO.cons rfl (V1.loadRef (k := 0) rfl rfl tyk_3 rfl rfl rfl rfl rfl (ltb rfl) ?_)
  refine VO.cons rfl (V1.int rfl rfl rfl rfl rfl (ltb rfl) ?_)
  refine VO.cons rfl (V1.assign rfl rfl rfl (ltb rfl) ?_)
  refine VO.nil ?_
  refine V.ret ?_
  obtain rfl := Option.some.inj hm0
  exact ⟨_, [], ⟨_, _, rfl, rfl, rfl⟩, List.nil_sublist _, rfl, rfl⟩

theorem ok_impl_deciding {ρ0 ρ1 rn : Nat} {r_ : Record} {schedule : List Rule} {r : Rule × Int × Bool} (h : M.impl_deciding r_ schedule = some r) : Does Try.prog 153 [encRecord ρ0 r_, .vl ρ1 4 (List.map encRule schedule)] [] rn (fun x H => x = .tup [encRule r.1, .int .i64 r.2.1, .bool r.2.2] ∧ H = []) := by
 have hm0 := h; clear h; unfold M.impl_deciding at hm0
 try dsimp only at hm0
 refine Does.intro (N := 50) Try.func153 rfl rfl rfl rfl ?_
 intro w0 S0
 refine V.seq ?_
 refine V.region ?_
 refine VO.cons rfl (V1.boxN (n := 4) rfl rfl rfl rfl rfl (ltb rfl) ?_)
 intro b0
 refine VO.cons rfl (V1.alloc rfl rfl zk_37 (ltb rfl) ?_)
 intro b1
 refine VO.cons rfl (V1.assign rfl rfl rfl (ltb rfl) ?_)
 refine VO.cons rfl (V1.assign rfl rfl rfl (ltb rfl) ?_)
 refine VO.nil ?_
 refine V.seq ?_
 refine V.region ?_
 refine VO.cons rfl (V1.alloc rfl rfl zk_37 (ltb rfl) ?_)
 intro b2
 refine VO.nil ?_
 refine V.seq ?_
 refine V.region ?_
 refine VO.cons rfl (V1.assign rfl rfl rfl (ltb rfl) ?_)
 refine VO.nil ?_
 refine V.seq ?_
 refine V.seq ?_
 replace hm0 := bindO hm0; rcases hm0 with ⟨y0, hh0, hm0⟩
 refine V.region ?_
 refine VO.cons rfl (V1.move rfl rfl rfl (ltb rfl) ?_)
 refine VO.cons rfl (V1.fieldRef rfl rfl fo_26_1 rfl (ltb rfl) ?_)
 refine VO.cons rfl (V1.loadRef (k := 2) rfl rfl tyk_3 rfl rfl rfl rfl rfl (ltb rfl) ?_)
 refine VO.cons rfl (V1.call rfl rfl rfl cok_148 rfl (ok_impl_rulesFor hh0) rfl (ltb rfl) ?_)
 rintro _ _ ⟨ob0, hob0, rfl, rfl⟩
 refine VO.weakenK (Keeps.optVl 15 [] rn (f := encRule) (l := y0) (ob := ob0) (H1 := []) hob0 rfl rfl ⟨rfl, trivial⟩ (fun _ => rfl) rfl iNil) ?_
 refine VO.cons rfl (V1.lenMap rfl rfl rfl rfl rfl rfl isl_27 (ltb rfl) ?_)
 refine VO.cons rfl (V1.move rfl rfl rfl (ltb rfl) ?_)
 refine VO.nil ?_
 refine V.keep 50 [2, 4, 7, 8, 15, 16, 17] [0, 1, 2] (E0 := [(2, .ref b0 4 0 0), (4, .ref b1 4 0 0), (7, .ref b2 4 0 0), (8, .int .i64 (-1 : Int)), (15, .vl rn 4 (List.map encRule y0)), (16, .int .i64 (y0.length : Int)), (17, .int .i64 (0 : Int))]) (H0 := [(b2, ⟨4, [.agg [.int .i64 (0 : Int), .int .i64 (0 : Int), .int .i64 (0 : Int), .int .i64 (0 : Int)]]⟩), (b1, ⟨4, [.agg [.int .i64 (0 : Int), .int .i64 (0 : Int), .int .i64 (0 : Int), .int .i64 (0 : Int)]]⟩), (b0, ⟨4, [encRecord ρ0 r_]⟩)]) rfl (⟨_, _, rfl, rfl, ⟨_, _, rfl, rfl, ⟨_, _, rfl, rfl, ⟨_, _, rfl, rfl, ⟨_, _, rfl, rfl, ⟨_, _, rfl, rfl, ⟨_, _, rfl, rfl, rfl⟩⟩⟩⟩⟩⟩⟩) (⟨_, _, rfl, rfl, ⟨_, _, rfl, rfl, ⟨_, _, rfl, rfl, rfl⟩⟩⟩) rfl ?_
 replace hm0 := bindO hm0; rcases hm0 with ⟨e0, he1, hm0⟩
 refine V.cutT (D := (Int × Rule) × (Unit)) (fun ⟨⟨due, best⟩, _⟩ => ⟨50, [(8, .int .i64 due), (4, .ref b1 4 0 0), (7, .ref b2 4 0 0)], [(b2, ⟨4, [encRule best]⟩), (b1, ⟨4, [.agg [.int .i64 (0 : Int), .int .i64 (0 : Int), .int .i64 (0 : Int), .int .i64 (0 : Int)]]⟩)]⟩) (fun ⟨⟨due, best⟩, _⟩ => (.inl (due, best) = e0)) ?_ ?_
 ·
  refine V.block ?_
  refine V.keep 50 [8, 17, 2, 4, 7, 15, 16] [0, 1, 2] (E0 := [(8, .int .i64 (-1 : Int)), (17, .int .i64 (0 : Int)), (2, .ref b0 4 0 0), (4, .ref b1 4 0 0), (7, .ref b2 4 0 0), (15, .vl rn 4 (List.map encRule y0)), (16, .int .i64 (y0.length : Int))]) (H0 := [(b2, ⟨4, [.agg [.int .i64 (0 : Int), .int .i64 (0 : Int), .int .i64 (0 : Int), .int .i64 (0 : Int)]]⟩), (b1, ⟨4, [.agg [.int .i64 (0 : Int), .int .i64 (0 : Int), .int .i64 (0 : Int), .int .i64 (0 : Int)]]⟩), (b0, ⟨4, [encRecord ρ0 r_]⟩)]) rfl (⟨_, _, rfl, rfl, ⟨_, _, rfl, rfl, ⟨_, _, rfl, rfl, ⟨_, _, rfl, rfl, ⟨_, _, rfl, rfl, ⟨_, _, rfl, rfl, ⟨_, _, rfl, rfl, rfl⟩⟩⟩⟩⟩⟩⟩) (⟨_, _, rfl, rfl, ⟨_, _, rfl, rfl, ⟨_, _, rfl, rfl, rfl⟩⟩⟩) rfl ?_
  refine V.loopE (D := Nat × (Int × Int × Rule) × (Unit)) (fun ⟨n0, ⟨due0, v, best0⟩, _⟩ => [(8, .int .i64 due0), (17, .int .i64 v)]) (fun ⟨n0, ⟨due0, v, best0⟩, _⟩ => [(b2, ⟨4, [encRule best0]⟩)]) (fun ⟨n0, ⟨due0, v, best0⟩, _⟩ => loopO (M.impl_deciding_l0 r_ y0) n0 (due0, v, best0) = some e0) (fun ⟨n0, _, _⟩ => n0) (rounds, ((-1 : Int), (0 : Int), (⟨(0 : Int), (0 : Int), (0 : Int), (0 : Int)⟩ : Rule)), ()) rfl he1 ?_
  rintro ⟨n0, ⟨due0, v, best0⟩, _⟩ hP0
  obtain ⟨m0, y1, rfl, hm1, hl1, hr1⟩ := loop_head hP0
  unfold M.impl_deciding_l0 at hm1; dsimp only at hm1
  show V _ _ _ ⟨50, [(8, .int .i64 due0), (17, .int .i64 v), (2, .ref b0 4 0 0), (4, .ref b1 4 0 0), (7, .ref b2 4 0 0), (15, .vl rn 4 (List.map encRule y0)), (16, .int .i64 (y0.length : Int))], [(b2, ⟨4, [encRule best0]⟩), (b1, ⟨4, [.agg [.int .i64 (0 : Int), .int .i64 (0 : Int), .int .i64 (0 : Int), .int .i64 (0 : Int)]]⟩), (b0, ⟨4, [encRecord ρ0 r_]⟩)]⟩
  refine V.seq ?_
  refine V.region ?_
  refine VO.cons rfl (V1.int rfl rfl rfl rfl rfl (ltb rfl) ?_)
  refine VO.nil ?_
  refine V.seq ?_
  refine V.cond rfl (fun hc0 => ?_) (fun hc0 => ?_)
  ·
   replace hm1 := cond_t hc0 hm1
   refine V.skip ?_
   refine V.seq ?_
   replace hm1 := bindO hm1; rcases hm1 with ⟨j0, hm2, hm1⟩
   refine V.cutT (D := (Int × Rule) × (Unit)) (fun ⟨⟨due1, best1⟩, _⟩ => ⟨50, [(8, .int .i64 due1), (2, .ref b0 4 0 0), (4, .ref b1 4 0 0), (7, .ref b2 4 0 0), (15, .vl rn 4 (List.map encRule y0)), (16, .int .i64 (y0.length : Int)), (17, .int .i64 v)], [(b2, ⟨4, [encRule best1]⟩), (b1, ⟨4, [.agg [.int .i64 (0 : Int), .int .i64 (0 : Int), .int .i64 (0 : Int), .int .i64 (0 : Int)]]⟩), (b0, ⟨4, [encRecord ρ0 r_]⟩)]⟩) (fun ⟨⟨due1, best1⟩, _⟩ => (.inl (due1, best1) = j0)) ?_ ?_
   ·
    refine V.block ?_
    refine V.seq ?_
    replace hm2 := asrt_some hm2; rcases hm2 with ⟨hh1, hm2⟩
    refine V.region ?_
    refine VO.cons rfl (V1.indexI rfl rfl esz_27 rfl rfl hh1 (ltb rfl) ?_)
    refine VO.cons rfl (V1.loadPinAll rfl rfl tyk_37 rfl rfl (ltb rfl) ?_)
    refine VO.cons rfl (V1.alloc rfl rfl zk_37 (ltb rfl) ?_)
    intro b3
    refine VO.cons rfl (V1.storeRefAll (k := 0) rfl rfl tyk_37 rfl rfl rfl rfl rfl rfl ?_)
    refine VO.nil ?_
    refine V.seq ?_
    replace hm2 := bindO hm2; rcases hm2 with ⟨y2, hh2, hm2⟩
    refine V.region ?_
    refine VO.cons rfl (V1.loadRefAll (k := 3) rfl rfl tyk_26 rfl rfl rfl rfl rfl (ltb rfl) ?_)
    refine VO.cons rfl (V1.loadRefAll (k := 0) rfl rfl tyk_37 rfl rfl rfl rfl rfl (ltb rfl) ?_)
    refine VO.cons rfl (V1.call rfl rfl rfl cok_149 rfl (ok_impl_endOf hh2) rfl (ltb rfl) ?_)
    rintro _ _ ⟨rfl, rfl⟩
    refine VO.cons rfl (V1.assign rfl rfl rfl (ltb rfl) ?_)
    refine VO.nil ?_
    refine V.keep 50 [2, 4, 7, 8, 10, 11, 15, 16, 17] [0, 1, 2, 3] (E0 := [(2, .ref b0 4 0 0), (4, .ref b1 4 0 0), (7, .ref b2 4 0 0), (8, .int .i64 due0), (10, .ref b3 4 0 0), (11, .int .i64 y2), (15, .vl rn 4 (List.map encRule y0)), (16, .int .i64 (y0.length : Int)), (17, .int .i64 v)]) (H0 := [(b3, ⟨4, [encRule (y0.getD (Int.toNat v) default)]⟩), (b2, ⟨4, [encRule best0]⟩), (b1, ⟨4, [.agg [.int .i64 (0 : Int), .int .i64 (0 : Int), .int .i64 (0 : Int), .int .i64 (0 : Int)]]⟩), (b0, ⟨4, [encRecord ρ0 r_]⟩)]) rfl (⟨_, _, rfl, rfl, ⟨_, _, rfl, rfl, ⟨_, _, rfl, rfl, ⟨_, _, rfl, rfl, ⟨_, _, rfl, rfl, ⟨_, _, rfl, rfl, ⟨_, _, rfl, rfl, ⟨_, _, rfl, rfl, ⟨_, _, rfl, rfl, rfl⟩⟩⟩⟩⟩⟩⟩⟩⟩) (⟨_, _, rfl, rfl, ⟨_, _, rfl, rfl, ⟨_, _, rfl, rfl, ⟨_, _, rfl, rfl, rfl⟩⟩⟩⟩) rfl ?_
    refine V.seq ?_
    refine V.seq ?_
    refine V.region ?_
    refine VO.cons rfl (V1.move rfl rfl rfl (ltb rfl) ?_)
    refine VO.cons rfl (V1.int rfl rfl rfl rfl rfl (ltb rfl) ?_)
    refine VO.nil ?_
    refine V.cond rfl (fun hc1 => ?_) (fun hc1 => ?_)
    ·
     replace hm2 := cond_t hc1 hm2
     refine V.seq ?_
     refine V.region ?_
     refine VO.cons rfl (V1.build rfl rfl zk_37 pl_37 rfl rfl (ltb rfl) ?_)
     refine VO.cons rfl (V1.storeRefAll (k := 2) rfl rfl tyk_37 rfl rfl rfl rfl rfl rfl ?_)
     refine VO.cons rfl (V1.assign rfl rfl rfl (ltb rfl) ?_)
     refine VO.cons rfl (V1.assign rfl rfl rfl (ltb rfl) ?_)
     refine VO.nil ?_
     refine V.ret ?_
     obtain rfl := Option.some.inj hm2
     change some _ = some _ at hm1
     obtain rfl := hr1 _ (Option.some.inj hm1).symm
     change some _ = some _ at hm0
     obtain rfl := Option.some.inj hm0
     exact ⟨_, [], ⟨_, _, rfl, ⟨_, _, 2, _, rfl, rfl, rfl, rfl, tyk_37, rfl⟩, ⟨_, _, rfl, rfl, ⟨_, _, rfl, rfl, rfl⟩⟩⟩, List.nil_sublist _, rfl, rfl⟩
    ·
     replace hm2 := cond_f hc1 hm2
     refine V.skip ?_
     refine V.seq ?_
     refine V.region ?_
     refine VO.cons rfl (V1.move rfl rfl rfl (ltb rfl) ?_)
     refine VO.cons rfl (V1.move rfl rfl rfl (ltb rfl) ?_)
     refine VO.cons rfl (V1.int rfl rfl rfl rfl rfl (ltb rfl) ?_)
     refine VO.cons rfl (V1.move rfl rfl rfl (ltb rfl) ?_)
     apply VO.or (n := 10) rfl rfl rfl rfl rfl rfl (ltb rfl) (.none rfl)
     ·
      intro hg0
      refine VO.step (.some rfl rfl rfl) (V1.move rfl rfl rfl (ltb rfl) ?_)
      refine VO.step (.some rfl rfl rfl) (V1.move rfl rfl rfl (ltb rfl) ?_)
      refine VO.step (.some rfl rfl rfl) (V1.int rfl rfl rfl rfl rfl (ltb rfl) ?_)
      refine VO.step (.some rfl rfl rfl) (V1.move rfl rfl rfl (ltb rfl) ?_)
      apply VO.and (n := 5) rfl rfl rfl rfl rfl rfl (ltb rfl) (.some rfl rfl rfl)
      ·
       intro hg1
       refine VO.step (.some rfl rfl rfl) (V1.fieldRef rfl rfl fo_37_3 rfl (ltb rfl) ?_)
       refine VO.step (.some rfl rfl rfl) (V1.loadRef (k := 0) rfl rfl tyk_3 rfl rfl rfl rfl rfl (ltb rfl) ?_)
       refine VO.step (.some rfl rfl rfl) (V1.fieldRef rfl rfl fo_37_3 rfl (ltb rfl) ?_)
       refine VO.step (.some rfl rfl rfl) (V1.loadRef (k := 1) rfl rfl tyk_3 rfl rfl rfl rfl rfl (ltb rfl) ?_)
       refine VO.step (.some rfl rfl rfl) (V1.int rfl rfl rfl rfl rfl (ltb rfl) ?_)
       exact VO.nil ⟨rfl, rfl, rfl, rfl, .inr ⟨rfl, .inr ⟨rfl, .inr ⟨rfl, .inr ⟨rfl, .inr ⟨rfl, .inr ⟨rfl, .inl rfl⟩⟩⟩⟩⟩⟩⟩
      exact VO.nil ⟨rfl, rfl, rfl, rfl, .inr ⟨rfl, .inr ⟨rfl, .inr ⟨rfl, .inr ⟨rfl, .inr ⟨rfl, .inr ⟨rfl, .inl rfl⟩⟩⟩⟩⟩⟩⟩
     refine VO.nil ?_
     refine V.keep 50 [2, 4, 7, 8, 10, 11, 15, 16, 17, 41] [0, 1, 2, 3] (E0 := [(2, .ref b0 4 0 0), (4, .ref b1 4 0 0), (7, .ref b2 4 0 0), (8, .int .i64 due0), (10, .ref b3 4 0 0), (11, .int .i64 y2), (15, .vl rn 4 (List.map encRule y0)), (16, .int .i64 (y0.length : Int)), (17, .int .i64 v), (41, .bool ((decide (y2 > due0)) || ((y2 == due0) && (decide (((y0.getD (Int.toNat v) default).Act) < best0.Act)))))]) (H0 := [(b3, ⟨4, [encRule (y0.getD (Int.toNat v) default)]⟩), (b2, ⟨4, [encRule best0]⟩), (b1, ⟨4, [.agg [.int .i64 (0 : Int), .int .i64 (0 : Int), .int .i64 (0 : Int), .int .i64 (0 : Int)]]⟩), (b0, ⟨4, [encRecord ρ0 r_]⟩)]) rfl (⟨_, _, rfl, rfl, ⟨_, _, rfl, rfl, ⟨_, _, rfl, rfl, ⟨_, _, rfl, rfl, ⟨_, _, rfl, rfl, ⟨_, _, rfl, rfl, ⟨_, _, rfl, rfl, ⟨_, _, rfl, rfl, ⟨_, _, rfl, rfl, ⟨_, _, rfl, rfl, rfl⟩⟩⟩⟩⟩⟩⟩⟩⟩⟩) (⟨_, _, rfl, rfl, ⟨_, _, rfl, rfl, ⟨_, _, rfl, rfl, ⟨_, _, rfl, rfl, rfl⟩⟩⟩⟩) rfl ?_
     refine V.cond rfl (fun hc2 => ?_) (fun hc2 => ?_)
     ·
      replace hm2 := cond_t hc2 hm2
      refine V.region ?_
      refine VO.cons rfl (V1.loadRefAll (k := 0) rfl rfl tyk_37 rfl rfl rfl rfl rfl (ltb rfl) ?_)
      refine VO.cons rfl (V1.move rfl rfl rfl (ltb rfl) ?_)
      refine VO.cons rfl (V1.storeRefAll (k := 1) rfl rfl tyk_37 rfl rfl rfl rfl rfl rfl ?_)
      refine VO.cons rfl (V1.assign rfl rfl rfl (ltb rfl) ?_)
      refine VO.nil ?_
      exact ⟨((y2, (y0.getD (Int.toNat v) default)), ()), Option.some.inj hm2, Keeps.mk (ks := [1, 2, 3]) rfl ⟨rfl, rfl, rfl, rfl, rfl, rfl, rfl, trivial⟩ (⟨_, _, rfl, rfl, ⟨_, _, rfl, rfl, ⟨_, _, rfl, rfl, rfl⟩⟩⟩) rfl⟩
     ·
      replace hm2 := cond_f hc2 hm2
      refine V.skip ?_
      exact ⟨((due0, best0), ()), Option.some.inj hm2, Keeps.mk (ks := [1, 2, 3]) rfl ⟨rfl, rfl, rfl, rfl, rfl, rfl, rfl, trivial⟩ (⟨_, _, rfl, rfl, ⟨_, _, rfl, rfl, ⟨_, _, rfl, rfl, rfl⟩⟩⟩) rfl⟩
   ·
    rintro ⟨⟨due1, best1⟩, _⟩ rfl
    try dsimp only at hm1
    refine V.region ?_
    refine VO.cons rfl (V1.int rfl rfl rfl rfl rfl (ltb rfl) ?_)
    refine VO.cons rfl (V1.move rfl rfl rfl (ltb rfl) ?_)
    refine VO.nil ?_
    exact ⟨(m0, (due1, (IntKind.i64.wrap (v + (1 : Int))), best1), ()), hl1 _ (Option.some.inj hm1).symm, Nat.lt_succ_self _, Keeps.mk (ks := [0, 1, 2]) rfl ⟨rfl, rfl, rfl, rfl, rfl, rfl, rfl, trivial⟩ (⟨_, _, rfl, rfl, ⟨_, _, rfl, rfl, ⟨_, _, rfl, rfl, rfl⟩⟩⟩) rfl⟩
  ·
   replace hm1 := cond_f hc0 hm1
   refine V.exit ?_
   obtain rfl := hr1 _ (Option.some.inj hm1).symm
   exact ⟨((due0, best0), ()), rfl, Keeps.mk (ks := [0, 1]) rfl ⟨rfl, rfl, rfl, trivial⟩ (⟨_, _, rfl, rfl, ⟨_, _, rfl, rfl, rfl⟩⟩) rfl⟩
 ·
  rintro ⟨⟨due, best⟩, _⟩ rfl
  try dsimp only at hm0
  refine V.seq ?_
  refine V.region ?_
  refine VO.cons rfl (V1.loadRefAll (k := 0) rfl rfl tyk_37 rfl rfl rfl rfl rfl (ltb rfl) ?_)
  refine VO.cons rfl (V1.move rfl rfl rfl (ltb rfl) ?_)
  refine VO.cons rfl (V1.maxI rfl rfl rfl rfl rfl rfl (ltb rfl) ?_)
  refine VO.cons rfl (V1.move rfl rfl rfl (ltb rfl) ?_)
  refine VO.cons rfl (V1.int rfl rfl rfl rfl rfl (ltb rfl) ?_)
  refine VO.cons rfl (V1.storeRefAll (k := 1) rfl rfl tyk_37 rfl rfl rfl rfl rfl rfl ?_)
  refine VO.cons rfl (V1.assign rfl rfl rfl (ltb rfl) ?_)
  refine VO.cons rfl (V1.assign rfl rfl rfl (ltb rfl) ?_)
  refine VO.nil ?_
  refine V.ret ?_
  obtain rfl := Option.some.inj hm0
  exact ⟨_, [], ⟨_, _, rfl, ⟨_, _, 1, _, rfl, rfl, rfl, rfl, tyk_37, rfl⟩, ⟨_, _, rfl, rfl, ⟨_, _, rfl, rfl, rfl⟩⟩⟩, List.nil_sublist _, rfl, rfl⟩

theorem ok_impl_IsDue {ρ0 ρ1 rn : Nat} {r_ : Record} {schedule : List Rule} {day : Int} {r : Bool × Bool} (h : M.impl_IsDue r_ schedule day = some r) : Does Try.prog 44 [encRecord ρ0 r_, .vl ρ1 4 (List.map encRule schedule), .int .i64 day] [] rn (fun x H => x = .tup [.bool r.1, .bool r.2] ∧ H = []) := by
 have hm0 := h; clear h; unfold M.impl_IsDue at hm0
 try dsimp only at hm0
 refine Does.intro (N := 33) Try.func44 rfl rfl rfl rfl ?_
 intro w0 S0
 refine V.seq ?_
 refine V.region ?_
 refine VO.cons rfl (V1.boxN (n := 4) rfl rfl rfl rfl rfl (ltb rfl) ?_)
 intro b0
 refine VO.cons rfl (V1.assign rfl rfl rfl (ltb rfl) ?_)
 refine VO.cons rfl (V1.assign rfl rfl rfl (ltb rfl) ?_)
 refine VO.nil ?_
 refine V.seq ?_
 refine V.seq ?_
 replace hm0 := bindO hm0; rcases hm0 with ⟨y0, hh0, hm0⟩
 replace hm0 := bindO hm0; rcases hm0 with ⟨y1, hh1, hm0⟩
 refine V.region ?_
 refine VO.cons rfl (V1.loadRefAll (k := 0) rfl rfl tyk_26 rfl rfl rfl rfl rfl (ltb rfl) ?_)
 refine VO.cons rfl (V1.move rfl rfl rfl (ltb rfl) ?_)
 refine VO.cons rfl (V1.call rfl rfl rfl cok_147 rfl (ok_impl_areBoth hh0) rfl (ltb rfl) ?_)
 rintro _ _ ⟨rfl, rfl⟩
 refine VO.cons rfl (V1.not rfl rfl rfl (ltb rfl) ?_)
 refine VO.cons rfl (V1.move rfl rfl rfl (ltb rfl) ?_)
 apply VO.or (n := 3) rfl rfl rfl rfl rfl rfl (ltb rfl) (.none rfl)
 ·
  intro hg0
  refine VO.step (.some rfl rfl rfl) (V1.move rfl rfl rfl (ltb rfl) ?_)
  refine VO.step (.some rfl rfl rfl) (V1.call rfl rfl rfl cok_183 rfl (ok_impl_isDay (cond_f hg0 hh1)) rfl (ltb rfl) ?_)
  rintro _ _ ⟨rfl, rfl⟩
  refine VO.step (.some rfl rfl rfl) (V1.not rfl rfl rfl (ltb rfl) ?_)
  exact VO.nil ⟨rfl, rfl, rfl, rfl, .inr ⟨rfl, .inr ⟨rfl, .inr ⟨rfl, .inr ⟨rfl, .inl rfl⟩⟩⟩⟩⟩
 refine VO.nil ?_
 refine V.keep 33 [1, 2, 3, 19] [0] (E0 := [(1, .vl ρ1 4 (List.map encRule schedule)), (2, .int .i64 day), (3, .ref b0 4 0 0), (19, .bool ((!y0) || (!y1)))]) (H0 := [(b0, ⟨4, [encRecord ρ0 r_]⟩)]) rfl (⟨_, _, rfl, rfl, ⟨_, _, rfl, rfl, ⟨_, _, rfl, rfl, ⟨_, _, rfl, rfl, rfl⟩⟩⟩⟩) (⟨_, _, rfl, rfl, rfl⟩) rfl ?_
 refine V.cond rfl (fun hc0 => ?_) (fun hc0 => ?_)
 ·
  replace hm0 := cond_t hc0 hm0
  refine V.seq ?_
  refine V.region ?_
  refine VO.cons rfl (V1.assign rfl rfl rfl (ltb rfl) ?_)
  refine VO.cons rfl (V1.assign rfl rfl rfl (ltb rfl) ?_)
  refine VO.nil ?_
  refine V.ret ?_
  obtain rfl := Option.some.inj hm0
  exact ⟨_, [], ⟨_, _, rfl, rfl, ⟨_, _, rfl, rfl, rfl⟩⟩, List.nil_sublist _, rfl, rfl⟩
 ·
  replace hm0 := cond_f hc0 hm0
  refine V.skip ?_
  refine V.seq ?_
  replace hm0 := bindO hm0; rcases hm0 with ⟨y2, hh2, hm0⟩
  refine V.region ?_
  refine VO.cons rfl (V1.loadRefAll (k := 0) rfl rfl tyk_26 rfl rfl rfl rfl rfl (ltb rfl) ?_)
  refine VO.cons rfl (V1.move rfl rfl rfl (ltb rfl) ?_)
  refine VO.cons rfl (V1.call rfl rfl rfl cok_153 rfl (ok_impl_deciding hh2) rfl (ltb rfl) ?_)
  rintro _ _ ⟨rfl, rfl⟩
  refine VO.cons rfl (V1.move rfl rfl rfl (ltb rfl) ?_)
  refine VO.cons rfl (V1.extract rfl rfl rfl rfl (ltb rfl) ?_)
  refine VO.cons rfl (V1.extract rfl rfl rfl rfl (ltb rfl) ?_)
  refine VO.cons rfl (V1.extract rfl rfl rfl rfl (ltb rfl) ?_)
  refine VO.cons rfl (V1.alloc rfl rfl zk_37 (ltb rfl) ?_)
  intro b1
  refine VO.cons rfl (V1.storeRefAll (k := 0) rfl rfl tyk_37 rfl rfl rfl rfl rfl rfl ?_)
  refine VO.cons rfl (V1.assign rfl rfl rfl (ltb rfl) ?_)
  refine VO.cons rfl (V1.assign rfl rfl rfl (ltb rfl) ?_)
  refine VO.nil ?_
  refine V.keep 33 [2, 9, 10] [] (E0 := [(2, .int .i64 day), (9, .int .i64 y2.2.1), (10, .bool y2.2.2)]) (H0 := []) rfl (⟨_, _, rfl, rfl, ⟨_, _, rfl, rfl, ⟨_, _, rfl, rfl, rfl⟩⟩⟩) (rfl) rfl ?_
  refine V.seq ?_
  refine V.region ?_
  refine VO.cons rfl (V1.move rfl rfl rfl (ltb rfl) ?_)
  refine VO.cons rfl (V1.move rfl rfl rfl (ltb rfl) ?_)
  apply VO.and (n := 3) rfl rfl rfl rfl rfl rfl (ltb rfl) (.none rfl)
  ·
   intro hg1
   refine VO.step (.some rfl rfl rfl) (V1.move rfl rfl rfl (ltb rfl) ?_)
   refine VO.step (.some rfl rfl rfl) (V1.move rfl rfl rfl (ltb rfl) ?_)
   refine VO.step (.some rfl rfl rfl) (V1.int rfl rfl rfl rfl rfl (ltb rfl) ?_)
   exact VO.nil ⟨rfl, rfl, rfl, rfl, .inr ⟨rfl, .inr ⟨rfl, .inr ⟨rfl, .inr ⟨rfl, .inl rfl⟩⟩⟩⟩⟩
  refine VO.cons rfl (V1.assign rfl rfl rfl (ltb rfl) ?_)
  refine VO.cons rfl (V1.assign rfl rfl rfl (ltb rfl) ?_)
  refine VO.nil ?_
  refine V.ret ?_
  obtain rfl := Option.some.inj hm0
  exact ⟨_, [], ⟨_, _, rfl, rfl, ⟨_, _, rfl, rfl, rfl⟩⟩, List.nil_sublist _, rfl, rfl⟩

theorem ok_spec_l6Due {ρ0 ρ1 rn : Nat} {r_ : Record} {schedule : List Rule} {day : Int} {r : Bool} (h : M.spec_l6Due r_ schedule day = some r) : Does Try.prog 184 [encRecord ρ0 r_, .vl ρ1 4 (List.map encRule schedule), .int .i64 day] [] rn (fun x H => x = .bool r ∧ H = []) := by
 have hm0 := h; clear h; unfold M.spec_l6Due at hm0
 try dsimp only at hm0
 refine Does.intro (N := 18) Try.func184 rfl rfl rfl rfl ?_
 intro w0 S0
 refine V.seq ?_
 refine V.region ?_
 refine VO.cons rfl (V1.boxN (n := 4) rfl rfl rfl rfl rfl (ltb rfl) ?_)
 intro b0
 refine VO.cons rfl (V1.assign rfl rfl rfl (ltb rfl) ?_)
 refine VO.nil ?_
 refine V.seq ?_
 replace hm0 := bindO hm0; rcases hm0 with ⟨y0, hh0, hm0⟩
 refine V.region ?_
 refine VO.cons rfl (V1.loadRefAll (k := 0) rfl rfl tyk_26 rfl rfl rfl rfl rfl (ltb rfl) ?_)
 refine VO.cons rfl (V1.move rfl rfl rfl (ltb rfl) ?_)
 refine VO.cons rfl (V1.call rfl rfl rfl cok_154 rfl (ok_spec_l6Deciding hh0) rfl (ltb rfl) ?_)
 rintro _ _ ⟨rfl, rfl⟩
 refine VO.cons rfl (V1.move rfl rfl rfl (ltb rfl) ?_)
 refine VO.cons rfl (V1.extract rfl rfl rfl rfl (ltb rfl) ?_)
 refine VO.cons rfl (V1.extract rfl rfl rfl rfl (ltb rfl) ?_)
 refine VO.cons rfl (V1.alloc rfl rfl zk_37 (ltb rfl) ?_)
 intro b1
 refine VO.cons rfl (V1.storeRefAll (k := 0) rfl rfl tyk_37 rfl rfl rfl rfl rfl rfl ?_)
 refine VO.cons rfl (V1.assign rfl rfl rfl (ltb rfl) ?_)
 refine VO.nil ?_
 refine V.keep 18 [2, 8] [] (E0 := [(2, .int .i64 day), (8, .int .i64 y0.2)]) (H0 := []) rfl (⟨_, _, rfl, rfl, ⟨_, _, rfl, rfl, rfl⟩⟩) (rfl) rfl ?_
 refine V.seq ?_
 replace hm0 := bindO hm0; rcases hm0 with ⟨y1, hh1, hm0⟩
 refine V.region ?_
 refine VO.cons rfl (V1.move rfl rfl rfl (ltb rfl) ?_)
 refine VO.cons rfl (V1.move rfl rfl rfl (ltb rfl) ?_)
 refine VO.cons rfl (V1.call rfl rfl rfl cok_188 rfl (ok_spec_l1In hh1) rfl (ltb rfl) ?_)
 rintro _ _ ⟨rfl, rfl⟩
 refine VO.cons rfl (V1.assign rfl rfl rfl (ltb rfl) ?_)
 refine VO.nil ?_
 refine V.ret ?_
 obtain rfl := Option.some.inj hm0
 exact ⟨_, [], ⟨_, _, rfl, rfl, rfl⟩, List.nil_sublist _, rfl, rfl⟩

theorem ok_spec_IsDue {ρ0 ρ1 rn : Nat} {r_ : Record} {schedule : List Rule} {day : Int} {r : Bool × Bool} (h : M.spec_IsDue r_ schedule day = some r) : Does Try.prog 45 [encRecord ρ0 r_, .vl ρ1 4 (List.map encRule schedule), .int .i64 day] [] rn (fun x H => x = .tup [.bool r.1, .bool r.2] ∧ H = []) := by
 have hm0 := h; clear h; unfold M.spec_IsDue at hm0
 try dsimp only at hm0
 refine Does.intro (N := 21) Try.func45 rfl rfl rfl rfl ?_
 intro w0 S0
 refine V.seq ?_
 refine V.region ?_
 refine VO.cons rfl (V1.boxN (n := 4) rfl rfl rfl rfl rfl (ltb rfl) ?_)
 intro b0
 refine VO.cons rfl (V1.assign rfl rfl rfl (ltb rfl) ?_)
 refine VO.cons rfl (V1.assign rfl rfl rfl (ltb rfl) ?_)
 refine VO.nil ?_
 refine V.seq ?_
 refine V.seq ?_
 replace hm0 := bindO hm0; rcases hm0 with ⟨y0, hh0, hm0⟩
 replace hm0 := bindO hm0; rcases hm0 with ⟨y1, hh1, hm0⟩
 refine V.region ?_
 refine VO.cons rfl (V1.loadRefAll (k := 0) rfl rfl tyk_26 rfl rfl rfl rfl rfl (ltb rfl) ?_)
 refine VO.cons rfl (V1.move rfl rfl rfl (ltb rfl) ?_)
 refine VO.cons rfl (V1.call rfl rfl rfl cok_150 rfl (ok_spec_l6Asked hh0) rfl (ltb rfl) ?_)
 rintro _ _ ⟨rfl, rfl⟩
 refine VO.cons rfl (V1.not rfl rfl rfl (ltb rfl) ?_)
 refine VO.cons rfl (V1.move rfl rfl rfl (ltb rfl) ?_)
 apply VO.or (n := 3) rfl rfl rfl rfl rfl rfl (ltb rfl) (.none rfl)
 ·
  intro hg0
  refine VO.step (.some rfl rfl rfl) (V1.move rfl rfl rfl (ltb rfl) ?_)
  refine VO.step (.some rfl rfl rfl) (V1.call rfl rfl rfl cok_181 rfl (ok_spec_l2Day (cond_f hg0 hh1)) rfl (ltb rfl) ?_)
  rintro _ _ ⟨rfl, rfl⟩
  refine VO.step (.some rfl rfl rfl) (V1.not rfl rfl rfl (ltb rfl) ?_)
  exact VO.nil ⟨rfl, rfl, rfl, rfl, .inr ⟨rfl, .inr ⟨rfl, .inr ⟨rfl, .inr ⟨rfl, .inl rfl⟩⟩⟩⟩⟩
 refine VO.nil ?_
 refine V.keep 21 [1, 2, 3, 16] [0] (E0 := [(1, .vl ρ1 4 (List.map encRule schedule)), (2, .int .i64 day), (3, .ref b0 4 0 0), (16, .bool ((!y0) || (!y1)))]) (H0 := [(b0, ⟨4, [encRecord ρ0 r_]⟩)]) rfl (⟨_, _, rfl, rfl, ⟨_, _, rfl, rfl, ⟨_, _, rfl, rfl, ⟨_, _, rfl, rfl, rfl⟩⟩⟩⟩) (⟨_, _, rfl, rfl, rfl⟩) rfl ?_
 refine V.cond rfl (fun hc0 => ?_) (fun hc0 => ?_)
 ·
  replace hm0 := cond_t hc0 hm0
  refine V.seq ?_
  refine V.region ?_
  refine VO.cons rfl (V1.assign rfl rfl rfl (ltb rfl) ?_)
  refine VO.cons rfl (V1.assign rfl rfl rfl (ltb rfl) ?_)
  refine VO.nil ?_
  refine V.ret ?_
  obtain rfl := Option.some.inj hm0
  exact ⟨_, [], ⟨_, _, rfl, rfl, ⟨_, _, rfl, rfl, rfl⟩⟩, List.nil_sublist _, rfl, rfl⟩
 ·
  replace hm0 := cond_f hc0 hm0
  refine V.skip ?_
  refine V.seq ?_
  replace hm0 := bindO hm0; rcases hm0 with ⟨y2, hh2, hm0⟩
  refine V.region ?_
  refine VO.cons rfl (V1.loadRefAll (k := 0) rfl rfl tyk_26 rfl rfl rfl rfl rfl (ltb rfl) ?_)
  refine VO.cons rfl (V1.move rfl rfl rfl (ltb rfl) ?_)
  refine VO.cons rfl (V1.move rfl rfl rfl (ltb rfl) ?_)
  refine VO.cons rfl (V1.call rfl rfl rfl cok_184 rfl (ok_spec_l6Due hh2) rfl (ltb rfl) ?_)
  rintro _ _ ⟨rfl, rfl⟩
  refine VO.cons rfl (V1.assign rfl rfl rfl (ltb rfl) ?_)
  refine VO.cons rfl (V1.assign rfl rfl rfl (ltb rfl) ?_)
  refine VO.nil ?_
  refine V.ret ?_
  obtain rfl := Option.some.inj hm0
  exact ⟨_, [], ⟨_, _, rfl, rfl, ⟨_, _, rfl, rfl, rfl⟩⟩, List.nil_sublist _, rfl, rfl⟩

theorem ok_impl_DueDay {ρ0 ρ1 rn : Nat} {r_ : Record} {schedule : List Rule} {r : Int × Bool} (h : M.impl_DueDay r_ schedule = some r) : Does Try.prog 17 [encRecord ρ0 r_, .vl ρ1 4 (List.map encRule schedule)] [] rn (fun x H => x = .tup [.int .i64 r.1, .bool r.2] ∧ H = []) := by
 have hm0 := h; clear h; unfold M.impl_DueDay at hm0
 try dsimp only at hm0
 refine Does.intro (N := 22) Try.func17 rfl rfl rfl rfl ?_
 intro w0 S0
 refine V.seq ?_
 refine V.region ?_
 refine VO.cons rfl (V1.boxN (n := 4) rfl rfl rfl rfl rfl (ltb rfl) ?_)
 intro b0
 refine VO.cons rfl (V1.assign rfl rfl rfl (ltb rfl) ?_)
 refine VO.cons rfl (V1.assign rfl rfl rfl (ltb rfl) ?_)
 refine VO.nil ?_
 refine V.seq ?_
 refine V.seq ?_
 replace hm0 := bindO hm0; rcases hm0 with ⟨y0, hh0, hm0⟩
 refine V.region ?_
 refine VO.cons rfl (V1.loadRefAll (k := 0) rfl rfl tyk_26 rfl rfl rfl rfl rfl (ltb rfl) ?_)
 refine VO.cons rfl (V1.move rfl rfl rfl (ltb rfl) ?_)
 refine VO.cons rfl (V1.call rfl rfl rfl cok_147 rfl (ok_impl_areBoth hh0) rfl (ltb rfl) ?_)
 rintro _ _ ⟨rfl, rfl⟩
 refine VO.cons rfl (V1.not rfl rfl rfl (ltb rfl) ?_)
 refine VO.nil ?_
 refine V.keep 22 [1, 2, 12] [0] (E0 := [(1, .vl ρ1 4 (List.map encRule schedule)), (2, .ref b0 4 0 0), (12, .bool (!y0))]) (H0 := [(b0, ⟨4, [encRecord ρ0 r_]⟩)]) rfl (⟨_, _, rfl, rfl, ⟨_, _, rfl, rfl, ⟨_, _, rfl, rfl, rfl⟩⟩⟩) (⟨_, _, rfl, rfl, rfl⟩) rfl ?_
 refine V.cond rfl (fun hc0 => ?_) (fun hc0 => ?_)
 ·
  replace hm0 := cond_t hc0 hm0
  refine V.seq ?_
  refine V.region ?_
  refine VO.cons rfl (V1.assign rfl rfl rfl (ltb rfl) ?_)
  refine VO.cons rfl (V1.assign rfl rfl rfl (ltb rfl) ?_)
  refine VO.nil ?_
  refine V.ret ?_
  obtain rfl := Option.some.inj hm0
  exact ⟨_, [], ⟨_, _, rfl, rfl, ⟨_, _, rfl, rfl, rfl⟩⟩, List.nil_sublist _, rfl, rfl⟩
 ·
  replace hm0 := cond_f hc0 hm0
  refine V.skip ?_
  refine V.seq ?_
  replace hm0 := bindO hm0; rcases hm0 with ⟨y1, hh1, hm0⟩
  refine V.region ?_
  refine VO.cons rfl (V1.loadRefAll (k := 0) rfl rfl tyk_26 rfl rfl rfl rfl rfl (ltb rfl) ?_)
  refine VO.cons rfl (V1.move rfl rfl rfl (ltb rfl) ?_)
  refine VO.cons rfl (V1.call rfl rfl rfl cok_153 rfl (ok_impl_deciding hh1) rfl (ltb rfl) ?_)
  rintro _ _ ⟨rfl, rfl⟩
  refine VO.cons rfl (V1.move rfl rfl rfl (ltb rfl) ?_)
  refine VO.cons rfl (V1.extract rfl rfl rfl rfl (ltb rfl) ?_)
  refine VO.cons rfl (V1.extract rfl rfl rfl rfl (ltb rfl) ?_)
  refine VO.cons rfl (V1.extract rfl rfl rfl rfl (ltb rfl) ?_)
  refine VO.cons rfl (V1.alloc rfl rfl zk_37 (ltb rfl) ?_)
  intro b1
  refine VO.cons rfl (V1.storeRefAll (k := 0) rfl rfl tyk_37 rfl rfl rfl rfl rfl rfl ?_)
  refine VO.cons rfl (V1.assign rfl rfl rfl (ltb rfl) ?_)
  refine VO.cons rfl (V1.assign rfl rfl rfl (ltb rfl) ?_)
  refine VO.nil ?_
  refine V.keep 22 [7, 8] [] (E0 := [(7, .int .i64 y1.2.1), (8, .bool y1.2.2)]) (H0 := []) rfl (⟨_, _, rfl, rfl, ⟨_, _, rfl, rfl, rfl⟩⟩) (rfl) rfl ?_
  refine V.seq ?_
  refine V.region ?_
  refine VO.cons rfl (V1.move rfl rfl rfl (ltb rfl) ?_)
  refine VO.cons rfl (V1.move rfl rfl rfl (ltb rfl) ?_)
  refine VO.cons rfl (V1.assign rfl rfl rfl (ltb rfl) ?_)
  refine VO.cons rfl (V1.assign rfl rfl rfl (ltb rfl) ?_)
  refine VO.nil ?_
  refine V.ret ?_
  obtain rfl := Option.some.inj hm0
  exact ⟨_, [], ⟨_, _, rfl, rfl, ⟨_, _, rfl, rfl, rfl⟩⟩, List.nil_sublist _, rfl, rfl⟩

theorem ok_spec_l1Cur_held {ρ0 rn bp : Nat} {c : Cur} {r : List Record × Cur} (h : M.spec_l1Cur_held c = some r) : Does Try.prog 185 [.ref bp 3 0 0] [(bp, ⟨3, [encCur ρ0 c]⟩)] rn (fun x H => ∃ (ob0_ : Nat), x = PV.sref ob0_ 4 0 (List.length r.1) ∧ H = [(ob0_, ⟨4, List.map (encRecord rn) r.1⟩)] ++ [(bp, ⟨3, [encCur ρ0 r.2]⟩)]) := by
 have hm0 := h; clear h; unfold M.spec_l1Cur_held at hm0
 try dsimp only at hm0
 refine Does.intro (N := 48) Try.func185 rfl rfl rfl rfl ?_
 intro w0 S0
 refine V.seq ?_
 refine V.region ?_
 refine VO.cons rfl (V1.assign rfl rfl rfl (ltb rfl) ?_)
 refine VO.nil ?_
 refine V.seq ?_
 refine V.region ?_
 refine VO.cons rfl (V1.buildSliceT (f := (encRecord rn)) ([] : List Record) rfl rfl esz_64 zk_26 rfl rfl rfl rfl rfl rfl rfl (ltb rfl) ?_)
 intro b0
 refine VO.cons rfl (V1.assign rfl rfl rfl (ltb rfl) ?_)
 refine VO.nil ?_
 refine V.seq ?_
 refine V.seq ?_
 refine V.region ?_
 refine VO.cons rfl (V1.assign rfl rfl rfl (ltb rfl) ?_)
 refine VO.nil ?_
 replace hm0 := bindO hm0; rcases hm0 with ⟨e0, he1, hm0⟩
 refine V.cutT (D := (List Record × Cur) × (Nat)) (fun ⟨⟨list, c_⟩, b1⟩ => ⟨48, [(3, .sref b1 4 0 (List.length list)), (0, .ref bp 3 0 0)], [(b1, ⟨4, List.map (encRecord rn) list⟩), (bp, ⟨3, [encCur ρ0 c_]⟩)]⟩) (fun ⟨⟨list, c_⟩, b1⟩ => ((list, c_) = e0)) ?_ ?_
 ·
  refine V.block ?_
  refine V.keep 48 [3, 4, 0] [0, 1] (E0 := [(3, .sref b0 4 0 (List.length ([] : List Record))), (4, .int .i64 (1 : Int)), (0, .ref bp 3 0 0)]) (H0 := [(b0, ⟨4, List.map (encRecord rn) ([] : List Record)⟩), (bp, ⟨3, [encCur ρ0 c]⟩)]) rfl (⟨_, _, rfl, rfl, ⟨_, _, rfl, rfl, ⟨_, _, rfl, rfl, rfl⟩⟩⟩) (⟨_, _, rfl, rfl, ⟨_, _, rfl, rfl, rfl⟩⟩) rfl ?_
  refine V.loopE (D := Nat × (List Record × Int × Cur) × (Nat)) (fun ⟨n0, ⟨list0, n_, c_0⟩, b2⟩ => [(3, .sref b2 4 0 (List.length list0)), (4, .int .i64 n_)]) (fun ⟨n0, ⟨list0, n_, c_0⟩, b2⟩ => [(b2, ⟨4, List.map (encRecord rn) list0⟩), (bp, ⟨3, [encCur ρ0 c_0]⟩)]) (fun ⟨n0, ⟨list0, n_, c_0⟩, b2⟩ => loopO (M.spec_l1Cur_held_l0) n0 (list0, n_, c_0) = some e0) (fun ⟨n0, _, _⟩ => n0) (rounds, (([] : List Record), (1 : Int), c), b0) rfl he1 ?_
  rintro ⟨n0, ⟨list0, n_, c_0⟩, b2⟩ hP0
  obtain ⟨m0, y0, rfl, hm1, hl1, hr1⟩ := loop_head hP0
  unfold M.spec_l1Cur_held_l0 at hm1; dsimp only at hm1
  show V _ _ _ ⟨48, [(3, .sref b2 4 0 (List.length list0)), (4, .int .i64 n_), (0, .ref bp 3 0 0)], [(b2, ⟨4, List.map (encRecord rn) list0⟩), (bp, ⟨3, [encCur ρ0 c_0]⟩)]⟩
  refine V.seq ?_
  refine V.seq ?_
  refine V.region ?_
  refine VO.cons rfl (V1.move rfl rfl rfl (ltb rfl) ?_)
  refine VO.cons rfl (V1.int rfl rfl rfl rfl rfl (ltb rfl) ?_)
  refine VO.nil ?_
  refine V.cond rfl (fun hc0 => ?_) (fun hc0 => ?_)
  ·
   replace hm1 := cond_t hc0 hm1
   refine V.skip ?_
   refine V.seq ?_
   replace hm1 := bindO hm1; rcases hm1 with ⟨j0, hm2, hm1⟩
   refine V.cutT (D := (List Record × Cur) × (Nat)) (fun ⟨⟨list1, c_1⟩, b3⟩ => ⟨48, [(3, .sref b3 4 0 (List.length list1)), (0, .ref bp 3 0 0), (4, .int .i64 n_)], [(b3, ⟨4, List.map (encRecord rn) list1⟩), (bp, ⟨3, [encCur ρ0 c_1]⟩)]⟩) (fun ⟨⟨list1, c_1⟩, b3⟩ => ((list1, c_1) = j0)) ?_ ?_
   ·
    refine V.block ?_
    refine V.seq ?_
    replace hm2 := bindO hm2; rcases hm2 with ⟨y1, hh0, hm2⟩
    refine V.region ?_
    refine VO.cons rfl (V1.move rfl rfl rfl (ltb rfl) ?_)
    refine VO.cons rfl (V1.callM 1 (rn + ρ0 + 1) [] [.ref bp 3 0 0, .int .i64 (2 : Int)] (p := (bp, ⟨3, [encCur ρ0 c_0]⟩)) rfl rfl rfl cok_176 rfl rfl ⟨_, _, rfl, .same _, ⟨_, _, rfl, .same _, rfl⟩⟩ bwNil (ok_spec_l1Cur_one hh0) rfl (.inl rfl) (ltb rfl) ?_)
    rintro _ _ ⟨rfl, rfl⟩
    refine VO.nil ?_
    refine V.cond rfl (fun hc1 => ?_) (fun hc1 => ?_)
    ·
     replace hm2 := cond_t hc1 hm2
     replace hm2 := bindO hm2; rcases hm2 with ⟨y2, hh1, hm2⟩
     replace hm2 := asrt_some hm2; rcases hm2 with ⟨hh2, hm2⟩
     refine V.region ?_
     refine VO.cons rfl (V1.move rfl rfl rfl (ltb rfl) ?_)
     refine VO.cons rfl (V1.move rfl rfl rfl (ltb rfl) ?_)
     refine VO.cons rfl (V1.move rfl rfl rfl (ltb rfl) ?_)
     refine VO.cons rfl (V1.int rfl rfl rfl rfl rfl (ltb rfl) ?_)
     refine VO.cons rfl (V1.callM 0 (rn + ρ0 + 1) [] [.ref bp 3 0 0, .int .i64 (IntKind.i64.wrap ((11 : Int) * n_))] (p := (bp, ⟨3, [encCur ρ0 y1.2]⟩)) rfl rfl rfl cok_145 rfl rfl ⟨_, _, rfl, .same _, ⟨_, _, rfl, .same _, rfl⟩⟩ bwNil (ok_spec_l1Cur_record hh1) rfl (.inl rfl) (ltb rfl) ?_)
     rintro _ _ ⟨rfl, rfl⟩
     refine VO.cons rfl (V1.buildSliceT (f := (encRecord rn)) ([y2.1] : List Record) rfl rfl esz_64 zk_26 rfl rfl rfl rfl rfl rfl rfl (ltb rfl) ?_)
     intro b4
     refine VO.cons rfl (V1.appendMap (k := 2) (f := (encRecord rn)) (l := list0) (m := ([y2.1] : List Record)) rfl rfl rfl rfl rfl esz_64 eby_64 zk_26 rfl rfl rfl (SrcOf.srMap (k := 0) rfl isl_64) hh2 (ltb rfl) ?_)
     intro b5
     refine VO.cons rfl (V1.assign rfl rfl rfl (ltb rfl) ?_)
     refine VO.nil ?_
     exact ⟨(((list0 ++ ([y2.1] : List Record)), y2.2), b5), Option.some.inj hm2, Keeps.mk (ks := [0, 2]) rfl ⟨rfl, rfl, rfl, trivial⟩ (⟨_, _, rfl, rfl, ⟨_, _, rfl, rfl, rfl⟩⟩) rfl⟩
    ·
     replace hm2 := cond_f hc1 hm2
     refine V.skip ?_
     exact ⟨((list0, y1.2), b2), Option.some.inj hm2, Keeps.mk (ks := [1, 0]) rfl ⟨rfl, rfl, rfl, trivial⟩ (⟨_, _, rfl, rfl, ⟨_, _, rfl, rfl, rfl⟩⟩) rfl⟩
   ·
    rintro ⟨⟨list1, c_1⟩, b3⟩ rfl
    try dsimp only at hm1
    refine V.region ?_
    refine VO.cons rfl (V1.move rfl rfl rfl (ltb rfl) ?_)
    refine VO.cons rfl (V1.int rfl rfl rfl rfl rfl (ltb rfl) ?_)
    refine VO.cons rfl (V1.assign rfl rfl rfl (ltb rfl) ?_)
    refine VO.nil ?_
    exact ⟨(m0, (list1, (IntKind.i64.wrap (n_ + (1 : Int))), c_1), b3), hl1 _ (Option.some.inj hm1).symm, Nat.lt_succ_self _, Keeps.mk (ks := [0, 1]) rfl ⟨rfl, rfl, rfl, trivial⟩ (⟨_, _, rfl, rfl, ⟨_, _, rfl, rfl, rfl⟩⟩) rfl⟩
  ·
   replace hm1 := cond_f hc0 hm1
   refine V.exit ?_
   obtain rfl := hr1 _ (Option.some.inj hm1).symm
   exact ⟨((list0, c_0), b2), rfl, Keeps.mk (ks := [0, 1]) rfl ⟨rfl, rfl, trivial⟩ (⟨_, _, rfl, rfl, ⟨_, _, rfl, rfl, rfl⟩⟩) rfl⟩
 ·
  rintro ⟨⟨list, c_⟩, b1⟩ rfl
  try dsimp only at hm0
  refine V.seq ?_
  refine V.seq ?_
  replace hm0 := bindO hm0; rcases hm0 with ⟨y3, hh3, hm0⟩
  refine V.region ?_
  refine VO.cons rfl (V1.move rfl rfl rfl (ltb rfl) ?_)
  refine VO.cons rfl (V1.callM 1 (rn + ρ0 + 1) [] [.ref bp 3 0 0, .int .i64 (32 : Int)] (p := (bp, ⟨3, [encCur ρ0 c_]⟩)) rfl rfl rfl cok_177 rfl rfl ⟨_, _, rfl, .same _, ⟨_, _, rfl, .same _, rfl⟩⟩ bwNil (ok_spec_l1Cur_pick hh3) rfl (.inl rfl) (ltb rfl) ?_)
  rintro _ _ ⟨rfl, rfl⟩
  refine VO.nil ?_
  replace hm0 := bindO hm0; rcases hm0 with ⟨j1, hm1, hm0⟩
  refine V.cutT (D := (List Record × Cur) × (Nat)) (fun ⟨⟨list2, c_2⟩, b6⟩ => ⟨48, [(3, .sref b6 4 0 (List.length list2))], [(b6, ⟨4, List.map (encRecord rn) list2⟩), (bp, ⟨3, [encCur ρ0 c_2]⟩)]⟩) (fun ⟨⟨list2, c_2⟩, b6⟩ => ((list2, c_2) = j1)) ?_ ?_
  ·
   refine V.block ?_
   refine V.seq ?_
   refine V.region ?_
   refine VO.cons rfl (V1.int rfl rfl rfl rfl rfl (ltb rfl) ?_)
   refine VO.cons rfl (V1.assign rfl rfl rfl (ltb rfl) ?_)
   refine VO.nil ?_
   refine V.cond rfl (fun hc2 => ?_) (fun hc2 => ?_)
   ·
    replace hm1 := cond_t hc2 hm1
    replace hm1 := bindO hm1; rcases hm1 with ⟨y4, hh4, hm1⟩
    replace hm1 := bindO hm1; rcases hm1 with ⟨y5, hh5, hm1⟩
    replace hm1 := asrt_some hm1; rcases hm1 with ⟨hh6, hm1⟩
    refine V.region ?_
    refine VO.cons rfl (V1.move rfl rfl rfl (ltb rfl) ?_)
    refine VO.cons rfl (V1.move rfl rfl rfl (ltb rfl) ?_)
    refine VO.cons rfl (V1.move rfl rfl rfl (ltb rfl) ?_)
    refine VO.cons rfl (V1.buildSliceT (f := encInt) ([(0 : Int), (11 : Int), (999 : Int), (1000 : Int)] : List Int) rfl rfl esz_30 zk_3 rfl rfl rfl rfl rfl rfl rfl (ltb rfl) ?_)
    intro b7
    refine VO.cons rfl (V1.callM 1 (rn + ρ0 + 1) [b7] [.ref bp 3 0 0, .vl (rn + ρ0 + 1) 1 (List.map encInt ([(0 : Int), (11 : Int), (999 : Int), (1000 : Int)] : List Int))] (p := (bp, ⟨3, [encCur ρ0 y3.2]⟩)) rfl rfl rfl cok_178 rfl rfl ⟨_, _, rfl, .same _, ⟨_, _, rfl, Lend.srMap 0 rfl (fun _ => rfl) (.head _), rfl⟩⟩ (bwCons (k := 0) rfl bwNil) (ok_spec_l1Cur_among hh4) rfl (.inr ⟨(by dsimp only; omega), by rintro _ _ ⟨rfl, rfl⟩; exact ⟨by simp [PV.no, PV.noL, optS_no, noL_iff, nbeq] <;> omega, by intro b ob h; first | exact optH_no (noL_map (fun _ => by simp [PV.no, PV.noL, noL_iff, nbeq]) _) b ob h | (simp at h; obtain ⟨rfl, rfl⟩ := h; exact noL_map (fun _ => by simp [PV.no, PV.noL, noL_iff, nbeq]) _) | (simp at h; obtain ⟨rfl, rfl⟩ := h; simp [PV.no, PV.noL, optS_no, noL_iff, nbeq] <;> omega)⟩⟩) (ltb rfl) ?_)
    rintro _ _ ⟨rfl, rfl⟩
    refine VO.cons rfl (V1.callM 0 (rn + ρ0 + 1) [] [.ref bp 3 0 0, .int .i64 y4.1] (p := (bp, ⟨3, [encCur ρ0 y4.2]⟩)) rfl rfl rfl cok_145 rfl rfl ⟨_, _, rfl, .same _, ⟨_, _, rfl, .same _, rfl⟩⟩ bwNil (ok_spec_l1Cur_record hh5) rfl (.inl rfl) (ltb rfl) ?_)
    rintro _ _ ⟨rfl, rfl⟩
    refine VO.cons rfl (V1.buildSliceT (f := (encRecord rn)) ([y5.1] : List Record) rfl rfl esz_64 zk_26 rfl rfl rfl rfl rfl rfl rfl (ltb rfl) ?_)
    intro b8
    refine VO.cons rfl (V1.appendMap (k := 3) (f := (encRecord rn)) (l := list) (m := ([y5.1] : List Record)) rfl rfl rfl rfl rfl esz_64 eby_64 zk_26 rfl rfl rfl (SrcOf.srMap (k := 0) rfl isl_64) hh6 (ltb rfl) ?_)
    intro b9
    refine VO.cons rfl (V1.assign rfl rfl rfl (ltb rfl) ?_)
    refine VO.nil ?_
    exact ⟨(((list ++ ([y5.1] : List Record)), y5.2), b9), Option.some.inj hm1, Keeps.mk (ks := [0, 2]) rfl ⟨rfl, trivial⟩ (⟨_, _, rfl, rfl, ⟨_, _, rfl, rfl, rfl⟩⟩) rfl⟩
   ·
    replace hm1 := cond_f hc2 hm1
    refine V.seq ?_
    refine V.region ?_
    refine VO.cons rfl (V1.int rfl rfl rfl rfl rfl (ltb rfl) ?_)
    refine VO.cons rfl (V1.assign rfl rfl rfl (ltb rfl) ?_)
    refine VO.nil ?_
    refine V.keep 48 [0, 3, 31] [0, 1] (E0 := [(0, .ref bp 3 0 0), (3, .sref b1 4 0 (List.length list)), (31, .bool (y3.1 == (1 : Int)))]) (H0 := [(bp, ⟨3, [encCur ρ0 y3.2]⟩), (b1, ⟨4, List.map (encRecord rn) list⟩)]) rfl (⟨_, _, rfl, rfl, ⟨_, _, rfl, rfl, ⟨_, _, rfl, rfl, rfl⟩⟩⟩) (⟨_, _, rfl, rfl, ⟨_, _, rfl, rfl, rfl⟩⟩) rfl ?_
    refine V.cond rfl (fun hc3 => ?_) (fun hc3 => ?_)
    ·
     replace hm1 := cond_t hc3 hm1
     replace hm1 := bindO hm1; rcases hm1 with ⟨e1, he2, hm1⟩
     refine V.cutT (D := (List Record × Cur) × (Nat)) (fun ⟨⟨list3, c_3⟩, b10⟩ => ⟨48, [(3, .sref b10 4 0 (List.length list3))], [(b10, ⟨4, List.map (encRecord rn) list3⟩), (bp, ⟨3, [encCur ρ0 c_3]⟩)]⟩) (fun ⟨⟨list3, c_3⟩, b10⟩ => ((list3, c_3) = e1)) ?_ ?_
     ·
      refine V.block ?_
      refine V.keep 48 [3, 0] [1, 0] (E0 := [(3, .sref b1 4 0 (List.length list)), (0, .ref bp 3 0 0)]) (H0 := [(b1, ⟨4, List.map (encRecord rn) list⟩), (bp, ⟨3, [encCur ρ0 y3.2]⟩)]) rfl (⟨_, _, rfl, rfl, ⟨_, _, rfl, rfl, rfl⟩⟩) (⟨_, _, rfl, rfl, ⟨_, _, rfl, rfl, rfl⟩⟩) rfl ?_
      refine V.loopE (D := Nat × (List Record × Cur) × (Nat)) (fun ⟨n1, ⟨list4, c_4⟩, b11⟩ => [(3, .sref b11 4 0 (List.length list4))]) (fun ⟨n1, ⟨list4, c_4⟩, b11⟩ => [(b11, ⟨4, List.map (encRecord rn) list4⟩), (bp, ⟨3, [encCur ρ0 c_4]⟩)]) (fun ⟨n1, ⟨list4, c_4⟩, b11⟩ => loopO (M.spec_l1Cur_held_l1) n1 (list4, c_4) = some e1) (fun ⟨n1, _, _⟩ => n1) (rounds, (list, y3.2), b1) rfl he2 ?_
      rintro ⟨n1, ⟨list4, c_4⟩, b11⟩ hP1
      obtain ⟨m1, y6, rfl, hm2, hl2, hr2⟩ := loop_head hP1
      unfold M.spec_l1Cur_held_l1 at hm2; dsimp only at hm2
      show V _ _ _ ⟨48, [(3, .sref b11 4 0 (List.length list4)), (0, .ref bp 3 0 0)], [(b11, ⟨4, List.map (encRecord rn) list4⟩), (bp, ⟨3, [encCur ρ0 c_4]⟩)]⟩
      refine V.seq ?_
      refine V.seq ?_
      replace hm2 := bindO hm2; rcases hm2 with ⟨y7, hh7, hm2⟩
      refine V.region ?_
      refine VO.cons rfl (V1.move rfl rfl rfl (ltb rfl) ?_)
      refine VO.cons rfl (V1.lenSref rfl rfl rfl rfl rfl rfl isl_64 (ltb rfl) ?_)
      refine VO.cons rfl (V1.move rfl rfl rfl (ltb rfl) ?_)
      refine VO.cons rfl (V1.callM 1 (rn + ρ0 + 1) [] [.ref bp 3 0 0, .int .i64 (2 : Int)] (p := (bp, ⟨3, [encCur ρ0 c_4]⟩)) rfl rfl rfl cok_177 rfl rfl ⟨_, _, rfl, .same _, ⟨_, _, rfl, .same _, rfl⟩⟩ bwNil (ok_spec_l1Cur_pick hh7) rfl (.inl rfl) (ltb rfl) ?_)
      rintro _ _ ⟨rfl, rfl⟩
      refine VO.cons rfl (V1.int rfl rfl rfl rfl rfl (ltb rfl) ?_)
      refine VO.cons rfl (V1.int rfl rfl rfl rfl rfl (ltb rfl) ?_)
      refine VO.nil ?_
      refine V.keep 48 [0, 3, 38] [0, 1] (E0 := [(0, .ref bp 3 0 0), (3, .sref b11 4 0 (List.length list4)), (38, .bool (decide ((list4.length : Int) < (IntKind.i64.wrap ((10 : Int) + y7.1)))))]) (H0 := [(bp, ⟨3, [encCur ρ0 y7.2]⟩), (b11, ⟨4, List.map (encRecord rn) list4⟩)]) rfl (⟨_, _, rfl, rfl, ⟨_, _, rfl, rfl, ⟨_, _, rfl, rfl, rfl⟩⟩⟩) (⟨_, _, rfl, rfl, ⟨_, _, rfl, rfl, rfl⟩⟩) rfl ?_
      refine V.cond rfl (fun hc4 => ?_) (fun hc4 => ?_)
      ·
       replace hm2 := cond_t hc4 hm2
       refine V.skip ?_
       refine V.block ?_
       replace hm2 := asrt_some hm2; rcases hm2 with ⟨hh8, hm2⟩
       refine V.region ?_
       refine VO.cons rfl (V1.move rfl rfl rfl (ltb rfl) ?_)
       refine VO.cons rfl (V1.move rfl rfl rfl (ltb rfl) ?_)
       refine VO.cons rfl (V1.lenSref rfl rfl rfl rfl rfl rfl isl_64 (ltb rfl) ?_)
       refine VO.cons rfl (V1.int rfl rfl rfl rfl rfl (ltb rfl) ?_)
       refine VO.cons rfl (V1.buildSliceT (f := encEvent) ([] : List Event) rfl rfl esz_24 zk_43 rfl rfl rfl rfl rfl rfl rfl (ltb rfl) ?_)
       intro b12
       refine VO.cons rfl (V1.build rfl rfl zk_26 pl_26 rfl rfl (ltb rfl) ?_)
       refine VO.weakenK (Keeps.freezeG 0 rn [(43, .vl rn 2 (List.map encEvent ([] : List Event))), (44, .agg [.int .i64 (IntKind.i64.wrap ((200 : Int) + (list4.length : Int))), .int .i64 (1 : Int), .int .i64 (0 : Int), .vl rn 2 (List.map encEvent ([] : List Event))])] [(bp, ⟨3, [encCur ρ0 y7.2]⟩), (b11, ⟨4, List.map (encRecord rn) list4⟩)] (f := encEvent) (l := ([] : List Event)) rfl (fun _ => rfl) ⟨⟨_, rfl, .here⟩, ⟨_, rfl, (.agg (.cons .same (.cons .same (.cons .same (.cons .here .nil)))))⟩, trivial⟩ ⟨_, _, rfl, rfl, .inl rfl, ⟨_, _, rfl, rfl, .inl rfl, rfl⟩⟩ rfl (iOne (b := bp) 0 rfl)) ?_
       refine VO.cons rfl (V1.buildSliceT (f := (encRecord rn)) ([(⟨(IntKind.i64.wrap ((200 : Int) + (list4.length : Int))), (1 : Int), (0 : Int), ([] : List Event)⟩ : Record)] : List Record) rfl rfl esz_64 zk_26 rfl rfl rfl rfl rfl rfl rfl (ltb rfl) ?_)
       intro b13
       refine VO.cons rfl (V1.appendMap (k := 2) (f := (encRecord rn)) (l := list4) (m := ([(⟨(IntKind.i64.wrap ((200 : Int) + (list4.length : Int))), (1 : Int), (0 : Int), ([] : List Event)⟩ : Record)] : List Record)) rfl rfl rfl rfl rfl esz_64 eby_64 zk_26 rfl rfl rfl (SrcOf.srMap (k := 0) rfl isl_64) hh8 (ltb rfl) ?_)
       intro b14
       refine VO.cons rfl (V1.assign rfl rfl rfl (ltb rfl) ?_)
       refine VO.nil ?_
       exact ⟨(m1, ((list4 ++ ([(⟨(IntKind.i64.wrap ((200 : Int) + (list4.length : Int))), (1 : Int), (0 : Int), ([] : List Event)⟩ : Record)] : List Record)), y7.2), b14), hl2 _ (Option.some.inj hm2).symm, Nat.lt_succ_self _, Keeps.mk (ks := [0, 2]) rfl ⟨rfl, rfl, trivial⟩ (⟨_, _, rfl, rfl, ⟨_, _, rfl, rfl, rfl⟩⟩) rfl⟩
      ·
       replace hm2 := cond_f hc4 hm2
       refine V.exit ?_
       obtain rfl := hr2 _ (Option.some.inj hm2).symm
       exact ⟨((list4, y7.2), b11), rfl, Keeps.mk (ks := [1, 0]) rfl ⟨rfl, trivial⟩ (⟨_, _, rfl, rfl, ⟨_, _, rfl, rfl, rfl⟩⟩) rfl⟩
     ·
      rintro ⟨⟨list3, c_3⟩, b10⟩ rfl
      try dsimp only at hm1
      exact ⟨((list3, c_3), b10), Option.some.inj hm1, Keeps.mk (ks := [0, 1]) rfl ⟨rfl, trivial⟩ (⟨_, _, rfl, rfl, ⟨_, _, rfl, rfl, rfl⟩⟩) rfl⟩
    ·
     replace hm1 := cond_f hc3 hm1
     refine V.skip ?_
     exact ⟨((list, y3.2), b1), Option.some.inj hm1, Keeps.mk (ks := [1, 0]) rfl ⟨rfl, trivial⟩ (⟨_, _, rfl, rfl, ⟨_, _, rfl, rfl, rfl⟩⟩) rfl⟩
  ·
   rintro ⟨⟨list2, c_2⟩, b6⟩ rfl
   try dsimp only at hm0
   refine V.seq ?_
   refine V.region ?_
   refine VO.cons rfl (V1.move rfl rfl rfl (ltb rfl) ?_)
   refine VO.cons rfl (V1.assign rfl rfl rfl (ltb rfl) ?_)
   refine VO.nil ?_
   refine V.keep 48 [2] [0, 1] (E0 := [(2, .sref b6 4 0 (List.length list2))]) (H0 := [(b6, ⟨4, List.map (encRecord rn) list2⟩), (bp, ⟨3, [encCur ρ0 c_2]⟩)]) rfl (⟨_, _, rfl, rfl, rfl⟩) (⟨_, _, rfl, rfl, ⟨_, _, rfl, rfl, rfl⟩⟩) rfl ?_
   refine V.ret ?_
   obtain rfl := Option.some.inj hm0
   exact ⟨_, _, ⟨_, _, rfl, rfl, rfl⟩, List.Sublist.refl _, b6, rfl, rfl⟩

theorem ok_spec_DrawDueRecords {ρ0 rn : Nat} {code : List Int} {r : List Record × List Rule × Int × Int} (h : M.spec_DrawDueRecords code = some r) : Does Try.prog 46 [.vl ρ0 1 (List.map encU8 code)] [] rn (fun x H => ∃ (ob0_ : Nat) (ob1_ : Nat), x = .tup [PV.sref ob0_ 4 0 (List.length r.1), PV.sref ob1_ 4 0 (List.length r.2.1), .int .i64 r.2.2.1, .int .i64 r.2.2.2] ∧ H = [(ob0_, ⟨4, List.map (encRecord rn) r.1⟩)] ++ [(ob1_, ⟨4, List.map encRule r.2.1⟩)]) := by
 have hm0 := h; clear h; unfold M.spec_DrawDueRecords at hm0
 try dsimp only at hm0
 refine Does.intro (N := 19) Try.func46 rfl rfl rfl rfl ?_
 intro w0 S0
 refine V.seq ?_
 refine V.region ?_
 refine VO.cons rfl (V1.assign rfl rfl rfl (ltb rfl) ?_)
 refine VO.cons rfl (V1.assign rfl rfl rfl (ltb rfl) ?_)
 refine VO.cons rfl (V1.assign rfl rfl rfl (ltb rfl) ?_)
 refine VO.cons rfl (V1.assign rfl rfl rfl (ltb rfl) ?_)
 refine VO.nil ?_
 refine V.keep 19 [0] [] (E0 := [(0, .vl ρ0 1 (List.map encU8 code))]) (H0 := []) rfl (⟨_, _, rfl, rfl, rfl⟩) (rfl) rfl ?_
 refine V.seq ?_
 refine V.region ?_
 refine VO.cons rfl (V1.move rfl rfl rfl (ltb rfl) ?_)
 refine VO.cons rfl (V1.build rfl rfl zk_163 pl_163 rfl rfl (ltb rfl) ?_)
 refine VO.cons rfl (V1.boxN (n := 3) rfl rfl rfl rfl rfl (ltb rfl) ?_)
 intro b0
 refine VO.cons rfl (V1.assign rfl rfl rfl (ltb rfl) ?_)
 refine VO.nil ?_
 refine V.keep 19 [6] [0] (E0 := [(6, .ref b0 3 0 0)]) (H0 := [(b0, ⟨3, [.agg [.vl ρ0 1 (List.map encU8 code), .int .i64 (0 : Int), .int .u64 (0 : Int)]]⟩)]) rfl (⟨_, _, rfl, rfl, rfl⟩) (⟨_, _, rfl, rfl, rfl⟩) rfl ?_
 refine V.seq ?_
 replace hm0 := bindO hm0; rcases hm0 with ⟨y0, hh0, hm0⟩
 replace hm0 := bindO hm0; rcases hm0 with ⟨y1, hh1, hm0⟩
 replace hm0 := bindO hm0; rcases hm0 with ⟨y2, hh2, hm0⟩
 replace hm0 := bindO hm0; rcases hm0 with ⟨y3, hh3, hm0⟩
 refine V.region ?_
 refine VO.cons rfl (V1.move rfl rfl rfl (ltb rfl) ?_)
 refine VO.cons rfl (V1.callM 0 (rn + ρ0 + 1) [] [.ref b0 3 0 0] (p := (b0, ⟨3, [.agg [.vl ρ0 1 (List.map encU8 code), .int .i64 (0 : Int), .int .u64 (0 : Int)]]⟩)) rfl rfl rfl cok_185 rfl rfl ⟨_, _, rfl, .same _, rfl⟩ bwNil (ok_spec_l1Cur_held hh0) rfl (.inl rfl) (ltb rfl) ?_)
 rintro _ _ ⟨b1, rfl, rfl⟩
 refine VO.cons rfl (V1.move rfl rfl rfl (ltb rfl) ?_)
 refine VO.cons rfl (V1.callM 1 (rn + ρ0 + 1) [] [.ref b0 3 0 0] (p := (b0, ⟨3, [encCur ρ0 y0.2]⟩)) rfl rfl rfl cok_161 rfl rfl ⟨_, _, rfl, .same _, rfl⟩ bwNil (ok_spec_l1Cur_schedule hh1) rfl (.inl rfl) (ltb rfl) ?_)
 rintro _ _ ⟨b2, rfl, rfl⟩
 refine VO.cons rfl (V1.move rfl rfl rfl (ltb rfl) ?_)
 refine VO.cons rfl (V1.callM 1 (rn + ρ0 + 1) [] [.ref b0 3 0 0] (p := (b0, ⟨3, [encCur ρ0 y1.2]⟩)) rfl rfl rfl cok_182 rfl rfl ⟨_, _, rfl, .same _, rfl⟩ bwNil (ok_spec_l1Cur_day hh2) rfl (.inl rfl) (ltb rfl) ?_)
 rintro _ _ ⟨rfl, rfl⟩
 refine VO.cons rfl (V1.move rfl rfl rfl (ltb rfl) ?_)
 refine VO.cons rfl (V1.buildSliceT (f := encInt) ([(1 : Int), (2 : Int), (3 : Int), (3 : Int), (0 : Int), (4 : Int)] : List Int) rfl rfl esz_30 zk_3 rfl rfl rfl rfl rfl rfl rfl (ltb rfl) ?_)
 intro b3
 refine VO.cons rfl (V1.callM 1 (rn + ρ0 + 1) [b3] [.ref b0 3 0 0, .vl (rn + ρ0 + 1) 1 (List.map encInt ([(1 : Int), (2 : Int), (3 : Int), (3 : Int), (0 : Int), (4 : Int)] : List Int))] (p := (b0, ⟨3, [encCur ρ0 y2.2]⟩)) rfl rfl rfl cok_178 rfl rfl ⟨_, _, rfl, .same _, ⟨_, _, rfl, Lend.srMap 0 rfl (fun _ => rfl) (.head _), rfl⟩⟩ (bwCons (k := 0) rfl bwNil) (ok_spec_l1Cur_among hh3) rfl (.inr ⟨(by dsimp only; omega), by rintro _ _ ⟨rfl, rfl⟩; exact ⟨by simp [PV.no, PV.noL, optS_no, noL_iff, nbeq] <;> omega, by intro b ob h; first | exact optH_no (noL_map (fun _ => by simp [PV.no, PV.noL, noL_iff, nbeq]) _) b ob h | (simp at h; obtain ⟨rfl, rfl⟩ := h; exact noL_map (fun _ => by simp [PV.no, PV.noL, noL_iff, nbeq]) _) | (simp at h; obtain ⟨rfl, rfl⟩ := h; simp [PV.no, PV.noL, optS_no, noL_iff, nbeq] <;> omega)⟩⟩) (ltb rfl) ?_)
 rintro _ _ ⟨rfl, rfl⟩
 refine VO.cons rfl (V1.assign rfl rfl rfl (ltb rfl) ?_)
 refine VO.cons rfl (V1.assign rfl rfl rfl (ltb rfl) ?_)
 refine VO.cons rfl (V1.assign rfl rfl rfl (ltb rfl) ?_)
 refine VO.cons rfl (V1.assign rfl rfl rfl (ltb rfl) ?_)
 refine VO.nil ?_
 refine V.keep 19 [2, 3, 4, 5] [3, 2] (E0 := [(2, .sref b1 4 0 (List.length y0.1)), (3, .sref b2 4 0 (List.length y1.1)), (4, .int .i64 y2.1), (5, .int .i64 y3.1)]) (H0 := [(b1, ⟨4, List.map (encRecord rn) y0.1⟩), (b2, ⟨4, List.map encRule y1.1⟩)]) rfl (⟨_, _, rfl, rfl, ⟨_, _, rfl, rfl, ⟨_, _, rfl, rfl, ⟨_, _, rfl, rfl, rfl⟩⟩⟩⟩) (⟨_, _, rfl, rfl, ⟨_, _, rfl, rfl, rfl⟩⟩) rfl ?_
 refine V.ret ?_
 obtain rfl := Option.some.inj hm0
 exact ⟨_, _, ⟨_, _, rfl, rfl, ⟨_, _, rfl, rfl, ⟨_, _, rfl, rfl, ⟨_, _, rfl, rfl, rfl⟩⟩⟩⟩, List.Sublist.refl _, b1, b2, rfl, rfl⟩

theorem ok_impl_AreRecords {ρ0 σ0 rn : Nat} {list : List Record} {r : Bool} (h : M.impl_AreRecords list = some r) : Does Try.prog 254 [.vl ρ0 4 (List.map (encRecord σ0) list)] [] rn (fun x H => x = .bool r ∧ H = []) := by
 have hm0 := h; clear h; unfold M.impl_AreRecords at hm0
 try dsimp only at hm0
 refine Does.intro (N := 34) Try.func254 rfl rfl rfl rfl ?_
 intro w0 S0
 refine V.seq ?_
 refine V.region ?_
 refine VO.cons rfl (V1.assign rfl rfl rfl (ltb rfl) ?_)
 refine VO.nil ?_
 refine V.seq ?_
 refine V.seq ?_
 refine V.region ?_
 refine VO.cons rfl (V1.move rfl rfl rfl (ltb rfl) ?_)
 refine VO.cons rfl (V1.lenMap rfl rfl rfl rfl rfl rfl isl_64 (ltb rfl) ?_)
 refine VO.cons rfl (V1.move rfl rfl rfl (ltb rfl) ?_)
 refine VO.nil ?_
 replace hm0 := bindO hm0; rcases hm0 with ⟨e0, he1, hm0⟩
 refine V.cutT (D := (Unit) × (Unit)) (fun ⟨_, _⟩ => ⟨34, [(0, .vl ρ0 4 (List.map (encRecord σ0) list))], []⟩) (fun ⟨_, _⟩ => (.inl () = e0)) ?_ ?_
 ·
  refine V.block ?_
  refine V.keep 34 [7, 0, 5, 6] [] (E0 := [(7, .int .i64 (0 : Int)), (0, .vl ρ0 4 (List.map (encRecord σ0) list)), (5, .vl ρ0 4 (List.map (encRecord σ0) list)), (6, .int .i64 (list.length : Int))]) (H0 := []) rfl (⟨_, _, rfl, rfl, ⟨_, _, rfl, rfl, ⟨_, _, rfl, rfl, ⟨_, _, rfl, rfl, rfl⟩⟩⟩⟩) (rfl) rfl ?_
  refine V.loopE (D := Nat × (Int) × (Unit)) (fun ⟨n0, v, _⟩ => [(7, .int .i64 v)]) (fun ⟨n0, v, _⟩ => []) (fun ⟨n0, v, _⟩ => loopO (M.impl_AreRecords_l0 list) n0 v = some e0) (fun ⟨n0, _, _⟩ => n0) (rounds, (0 : Int), ()) rfl he1 ?_
  rintro ⟨n0, v, _⟩ hP0
  obtain ⟨m0, y0, rfl, hm1, hl1, hr1⟩ := loop_head hP0
  unfold M.impl_AreRecords_l0 at hm1; dsimp only at hm1
  show V _ _ _ ⟨34, [(7, .int .i64 v), (0, .vl ρ0 4 (List.map (encRecord σ0) list)), (5, .vl ρ0 4 (List.map (encRecord σ0) list)), (6, .int .i64 (list.length : Int))], []⟩
  refine V.seq ?_
  refine V.region ?_
  refine VO.cons rfl (V1.int rfl rfl rfl rfl rfl (ltb rfl) ?_)
  refine VO.nil ?_
  refine V.seq ?_
  refine V.cond rfl (fun hc0 => ?_) (fun hc0 => ?_)
  ·
   replace hm1 := cond_t hc0 hm1
   refine V.skip ?_
   refine V.seq ?_
   refine V.block ?_
   refine V.seq ?_
   replace hm1 := asrt_some hm1; rcases hm1 with ⟨hh0, hm1⟩
   refine V.region ?_
   refine VO.cons rfl (V1.move rfl rfl rfl (ltb rfl) ?_)
   refine VO.cons rfl (V1.indexI rfl rfl esz_64 rfl rfl hh0 (ltb rfl) ?_)
   refine VO.cons rfl (V1.loadPinAll rfl rfl tyk_26 rfl rfl (ltb rfl) ?_)
   refine VO.cons rfl (V1.alloc rfl rfl zk_26 (ltb rfl) ?_)
   intro b0
   refine VO.cons rfl (V1.assign rfl rfl rfl (ltb rfl) ?_)
   refine VO.cons rfl (V1.storeRefAll (k := 0) rfl rfl tyk_26 rfl rfl rfl rfl rfl rfl ?_)
   refine VO.nil ?_
   refine V.keep 34 [0, 3, 4, 5, 6, 7] [0] (E0 := [(0, .vl ρ0 4 (List.map (encRecord σ0) list)), (3, .int .i64 v), (4, .ref b0 4 0 0), (5, .vl ρ0 4 (List.map (encRecord σ0) list)), (6, .int .i64 (list.length : Int)), (7, .int .i64 v)]) (H0 := [(b0, ⟨4, [encRecord σ0 (list.getD (Int.toNat v) default)]⟩)]) rfl (⟨_, _, rfl, rfl, ⟨_, _, rfl, rfl, ⟨_, _, rfl, rfl, ⟨_, _, rfl, rfl, ⟨_, _, rfl, rfl, ⟨_, _, rfl, rfl, rfl⟩⟩⟩⟩⟩⟩) (⟨_, _, rfl, rfl, rfl⟩) rfl ?_
   refine V.seq ?_
   replace hm1 := bindO hm1; rcases hm1 with ⟨y1, hh1, hm1⟩
   replace hm1 := asrt_some hm1; rcases hm1 with ⟨hh2, hm1⟩
   refine V.regionM 34 18 [⟨[(4, none)], [], none⟩, ⟨[(12, some 0)], [], none⟩, ⟨[(13, some 0)], [], none⟩, ⟨[(14, some 0)], [], none⟩, ⟨[(3, none)], [(0, false)], none⟩, ⟨[(16, some 0)], [(1, false)], none⟩, ⟨[(17, some 0)], [(2, false)], none⟩, ⟨[(0, none)], [(0, true), (3, false)], none⟩, ⟨[(3, none)], [(1, true), (4, false)], none⟩, ⟨[(20, some 0)], [(2, true), (5, false)], none⟩, ⟨[(19, some 2), (21, some 0)], [(3, true), (6, false)], none⟩, ⟨[(22, some 0)], [(4, true), (7, false)], none⟩, ⟨[(23, some 0)], [(5, true), (8, false)], none⟩, ⟨[(4, none)], [(6, true), (9, false)], none⟩, ⟨[(25, some 0)], [(7, true), (10, false)], none⟩, ⟨[(24, some 2), (26, some 0)], [(8, true), (11, false)], none⟩, ⟨[], [(12, false)], some (true, 18, 27, 9, 0)⟩, ⟨[], [], some (false, 15, 28, 13, 0)⟩] [(0, none), (5, none), (6, none), (7, none), (29, some 0)] (⟨_, rfl, ⟨_, rfl, ⟨_, rfl, ⟨_, rfl, ⟨_, rfl, ⟨_, rfl, ⟨_, rfl, ⟨_, rfl, ⟨_, rfl, ⟨_, rfl, ⟨_, rfl, ⟨_, rfl, ⟨_, rfl, ⟨_, rfl, ⟨_, rfl, ⟨_, rfl, ⟨_, rfl, ⟨_, rfl, ⟨rfl, rfl⟩⟩⟩⟩⟩⟩⟩⟩⟩⟩⟩⟩⟩⟩⟩⟩⟩⟩⟩) mixed_orders rfl (by decide +kernel) (fun hck4 => ?_)
   refine VP.step (p := ?pv129) rfl rfl rfl (⟨_, _, rfl, rfl, rfl⟩) ?hv129 ?rest129 hck4
   case hv129 =>
    intro E1
    refine (V1.loadRefAll (k := 0) rfl rfl tyk_26 rfl rfl rfl rfl rfl (ltb rfl) ?_)
    exact rfl
   refine VP.step (p := ?pv130) rfl rfl rfl (⟨_, _, rfl, rfl, rfl⟩) ?hv130 ?rest130 hck4
   case hv130 =>
    intro E1
    refine (V1.call rfl rfl rfl cok_155 rfl (ok_impl_IsRecord hh1) rfl (ltb rfl) ?_)
    rintro _ _ ⟨rfl, rfl⟩
    exact rfl
   refine VP.step (p := ?pv131) rfl rfl rfl (⟨_, _, rfl, rfl, rfl⟩) ?hv131 ?rest131 hck4
   case hv131 =>
    intro E1
    refine (V1.not rfl rfl rfl (ltb rfl) ?_)
    exact rfl
   refine VP.step (p := ?pv132) rfl rfl rfl (⟨_, _, rfl, rfl, rfl⟩) ?hv132 ?rest132 hck4
   case hv132 =>
    intro E1
    refine (V1.move rfl rfl rfl (ltb rfl) ?_)
    exact rfl
   refine VP.step (p := ?pv133) rfl rfl rfl (⟨_, _, rfl, rfl, rfl⟩) ?hv133 ?rest133 hck4
   case hv133 =>
    refine ⟨_, rfl, fun hg0 => ?_⟩
    intro E1
    refine (V1.move rfl rfl rfl (ltb rfl) ?_)
    exact rfl
   refine VP.step (p := ?pv134) rfl rfl rfl (⟨_, _, rfl, rfl, rfl⟩) ?hv134 ?rest134 hck4
   case hv134 =>
    refine ⟨_, rfl, fun hg0 => ?_⟩
    intro E1
    refine (V1.int rfl rfl rfl rfl rfl (ltb rfl) ?_)
    exact rfl
   refine VP.step (p := ?pv135) rfl rfl rfl (⟨_, _, rfl, rfl, rfl⟩) ?hv135 ?rest135 hck4
   case hv135 =>
    refine ⟨_, rfl, fun hg0 => ?_⟩
    intro E1
    refine (V1.move rfl rfl rfl (ltb rfl) ?_)
    exact rfl
   refine VP.step (p := ?pv136) rfl rfl rfl (⟨_, _, rfl, rfl, rfl⟩) ?hv136 ?rest136 hck4
   case hv136 =>
    refine ⟨_, rfl, fun hg1 => ?_⟩
    refine ⟨_, rfl, fun hg0 => ?_⟩
    intro E1
    refine (V1.move rfl rfl rfl (ltb rfl) ?_)
    exact rfl
   refine VP.step (p := ?pv137) rfl rfl rfl (⟨_, _, rfl, rfl, rfl⟩) ?hv137 ?rest137 hck4
   case hv137 =>
    refine ⟨_, rfl, fun hg1 => ?_⟩
    refine ⟨_, rfl, fun hg0 => ?_⟩
    intro E1
    refine (V1.move rfl rfl rfl (ltb rfl) ?_)
    exact rfl
   refine VP.step (p := ?pv138) rfl rfl rfl (⟨_, _, rfl, rfl, rfl⟩) ?hv138 ?rest138 hck4
   case hv138 =>
    refine ⟨_, rfl, fun hg1 => ?_⟩
    refine ⟨_, rfl, fun hg0 => ?_⟩
    intro E1
    refine (V1.int rfl rfl rfl rfl rfl (ltb rfl) ?_)
    exact rfl
   refine VP.step (p := ?pv139) rfl rfl rfl (⟨_, _, rfl, rfl, ⟨_, _, rfl, rfl, rfl⟩⟩) ?hv139 ?rest139 hck4
   case hv139 =>
    refine ⟨_, rfl, fun hg1 => ?_⟩
    refine ⟨_, rfl, fun hg0 => ?_⟩
    intro E1
    refine (V1.indexI rfl rfl esz_64 rfl rfl (hh2 hg0 hg1) (ltb rfl) ?_)
    exact rfl
   refine VP.step (p := ?pv140) rfl rfl rfl (⟨_, _, rfl, rfl, rfl⟩) ?hv140 ?rest140 hck4
   case hv140 =>
    refine ⟨_, rfl, fun hg1 => ?_⟩
    refine ⟨_, rfl, fun hg0 => ?_⟩
    intro E1
    refine (V1.fieldPin rfl rfl fo_26_0 rfl (ltb rfl) ?_)
    exact rfl
   refine VP.step (p := ?pv141) rfl rfl rfl (⟨_, _, rfl, rfl, rfl⟩) ?hv141 ?rest141 hck4
   case hv141 =>
    refine ⟨_, rfl, fun hg1 => ?_⟩
    refine ⟨_, rfl, fun hg0 => ?_⟩
    intro E1
    refine (V1.loadPin rfl rfl tyk_3 rfl rfl (ltb rfl) ?_)
    exact rfl
   refine VP.step (p := ?pv142) rfl rfl rfl (⟨_, _, rfl, rfl, rfl⟩) ?hv142 ?rest142 hck4
   case hv142 =>
    refine ⟨_, rfl, fun hg1 => ?_⟩
    refine ⟨_, rfl, fun hg0 => ?_⟩
    intro E1
    refine (V1.fieldRef rfl rfl fo_26_0 rfl (ltb rfl) ?_)
    exact rfl
   refine VP.step (p := ?pv143) rfl rfl rfl (⟨_, _, rfl, rfl, rfl⟩) ?hv143 ?rest143 hck4
   case hv143 =>
    refine ⟨_, rfl, fun hg1 => ?_⟩
    refine ⟨_, rfl, fun hg0 => ?_⟩
    intro E1
    refine (V1.loadRef (k := 0) rfl rfl tyk_3 rfl rfl rfl rfl rfl (ltb rfl) ?_)
    exact rfl
   refine VP.step (p := ?pv144) rfl rfl rfl (⟨_, _, rfl, rfl, ⟨_, _, rfl, rfl, rfl⟩⟩) ?hv144 ?rest144 hck4
   case hv144 =>
    refine ⟨_, rfl, fun hg1 => ?_⟩
    refine ⟨_, rfl, fun hg0 => ?_⟩
    intro E1
    refine (V1.int rfl rfl rfl rfl rfl (ltb rfl) ?_)
    exact rfl
   refine VP.pickAnd rfl rfl rfl rfl rfl rfl (⟨_, rfl, fun _ => trivial⟩) ?_ hck4
   refine VP.pickOr rfl rfl rfl rfl rfl rfl (trivial) ?_ hck4
   refine VP.fin rfl (⟨_, _, rfl, rfl, ⟨_, _, rfl, rfl, ⟨_, _, rfl, rfl, ⟨_, _, rfl, rfl, ⟨_, _, rfl, rfl, rfl⟩⟩⟩⟩⟩) ?_
   refine VO.nil ?_
   refine V.cond rfl (fun hc1 => ?_) (fun hc1 => ?_)
   ·
    replace hm1 := cond_t hc1 hm1
    refine V.seq ?_
    refine V.region ?_
    refine VO.cons rfl (V1.assign rfl rfl rfl (ltb rfl) ?_)
    refine VO.nil ?_
    refine V.ret ?_
    obtain rfl := hr1 _ (Option.some.inj hm1).symm
    change some _ = some _ at hm0
    obtain rfl := Option.some.inj hm0
    exact ⟨_, [], ⟨_, _, rfl, rfl, rfl⟩, List.nil_sublist _, rfl, rfl⟩
   ·
    replace hm1 := cond_f hc1 hm1
    refine V.skip ?_
    refine V.region ?_
    refine VO.cons rfl (V1.int rfl rfl rfl rfl rfl (ltb rfl) ?_)
    refine VO.cons rfl (V1.move rfl rfl rfl (ltb rfl) ?_)
    refine VO.nil ?_
    exact ⟨(m0, (IntKind.i64.wrap (v + (1 : Int))), ()), hl1 _ (Option.some.inj hm1).symm, Nat.lt_succ_self _, Keeps.mk (ks := []) rfl ⟨rfl, rfl, rfl, rfl, trivial⟩ (rfl) rfl⟩
  ·
   replace hm1 := cond_f hc0 hm1
   refine V.exit ?_
   obtain rfl := hr1 _ (Option.some.inj hm1).symm
   exact ⟨((), ()), rfl, Keeps.mk (ks := []) rfl ⟨rfl, trivial⟩ (rfl) rfl⟩
 ·
  rintro ⟨_, _⟩ rfl
  try dsimp only at hm0
  refine V.seq ?_
  refine V.region ?_
  refine VO.cons rfl (V1.move rfl rfl rfl (ltb rfl) ?_)
  refine VO.cons rfl (V1.lenMap rfl rfl rfl rfl rfl rfl isl_64 (ltb rfl) ?_)
  refine VO.cons rfl (V1.int rfl rfl rfl rfl rfl (ltb rfl) ?_)
  refine VO.cons rfl (V1.assign rfl rfl rfl (ltb rfl) ?_)
  refine VO.nil ?_
  refine V.ret ?_
  obtain rfl := Option.some.inj hm0
  exact ⟨_, [], ⟨_, _, rfl, rfl, rfl⟩, List.nil_sublist _, rfl, rfl⟩

theorem ok_impl_areAll {ρ0 σ0 ρ1 rn : Nat} {list : List Record} {schedule : List Rule} {r : Bool} (h : M.impl_areAll list schedule = some r) : Does Try.prog 186 [.vl ρ0 4 (List.map (encRecord σ0) list), .vl ρ1 4 (List.map encRule schedule)] [] rn (fun x H => x = .bool r ∧ H = []) := by
 have hm0 := h; clear h; unfold M.impl_areAll at hm0
 try dsimp only at hm0
 refine Does.intro (N := 11) Try.func186 rfl rfl rfl rfl ?_
 intro w0 S0
 refine V.seq ?_
 refine V.region ?_
 refine VO.cons rfl (V1.assign rfl rfl rfl (ltb rfl) ?_)
 refine VO.nil ?_
 refine V.seq ?_
 replace hm0 := bindO hm0; rcases hm0 with ⟨y0, hh0, hm0⟩
 replace hm0 := bindO hm0; rcases hm0 with ⟨y1, hh1, hm0⟩
 refine V.region ?_
 refine VO.cons rfl (V1.move rfl rfl rfl (ltb rfl) ?_)
 refine VO.cons rfl (V1.call rfl rfl rfl cok_254 rfl (ok_impl_AreRecords hh0) rfl (ltb rfl) ?_)
 rintro _ _ ⟨rfl, rfl⟩
 refine VO.cons rfl (V1.move rfl rfl rfl (ltb rfl) ?_)
 apply VO.and (n := 2) rfl rfl rfl rfl rfl rfl (ltb rfl) (.none rfl)
 ·
  intro hg0
  refine VO.step (.some rfl rfl rfl) (V1.move rfl rfl rfl (ltb rfl) ?_)
  refine VO.step (.some rfl rfl rfl) (V1.call rfl rfl rfl cok_37 rfl (ok_impl_IsSchedule (cond_t hg0 hh1)) rfl (ltb rfl) ?_)
  rintro _ _ ⟨rfl, rfl⟩
  exact VO.nil ⟨rfl, rfl, rfl, rfl, .inr ⟨rfl, .inr ⟨rfl, .inr ⟨rfl, .inl rfl⟩⟩⟩⟩
 refine VO.cons rfl (V1.assign rfl rfl rfl (ltb rfl) ?_)
 refine VO.nil ?_
 refine V.ret ?_
 obtain rfl := Option.some.inj hm0
 exact ⟨_, [], ⟨_, _, rfl, rfl, rfl⟩, List.nil_sublist _, rfl, rfl⟩

theorem ok_impl_DueRecords {ρ0 σ0 ρ1 rn : Nat} {list : List Record} {schedule : List Rule} {day : Int} {act : Int} {r : List Int × Bool} (h : M.impl_DueRecords list schedule day act = some r) : Does Try.prog 47 [.vl ρ0 4 (List.map (encRecord σ0) list), .vl ρ1 4 (List.map encRule schedule), .int .i64 day, .int .i64 act] [] rn (fun x H => ∃ (ob0_ : Option Nat), (ob0_ = none → r.1 = []) ∧ x = .tup [optS 1 ob0_ (List.length r.1), .bool r.2] ∧ H = optH 1 ob0_ (List.map encInt r.1)) := by
 have hm0 := h; clear h; unfold M.impl_DueRecords at hm0
 try dsimp only at hm0
 refine Does.intro (N := 62) Try.func47 rfl rfl rfl rfl ?_
 intro w0 S0
 refine V.seq ?_
 refine V.region ?_
 refine VO.cons rfl (V1.assign rfl rfl rfl (ltb rfl) ?_)
 refine VO.cons rfl (V1.assign rfl rfl rfl (ltb rfl) ?_)
 refine VO.nil ?_
 refine V.seq ?_
 refine V.seq ?_
 replace hm0 := bindO hm0; rcases hm0 with ⟨y0, hh0, hm0⟩
 replace hm0 := bindO hm0; rcases hm0 with ⟨y1, hh1, hm0⟩
 replace hm0 := bindO hm0; rcases hm0 with ⟨y2, hh2, hm0⟩
 refine V.region ?_
 refine VO.cons rfl (V1.move rfl rfl rfl (ltb rfl) ?_)
 refine VO.cons rfl (V1.move rfl rfl rfl (ltb rfl) ?_)
 refine VO.cons rfl (V1.call rfl rfl rfl cok_186 rfl (ok_impl_areAll hh0) rfl (ltb rfl) ?_)
 rintro _ _ ⟨rfl, rfl⟩
 refine VO.cons rfl (V1.not rfl rfl rfl (ltb rfl) ?_)
 refine VO.cons rfl (V1.move rfl rfl rfl (ltb rfl) ?_)
 apply VO.or (n := 3) rfl rfl rfl rfl rfl rfl (ltb rfl) (.none rfl)
 ·
  intro hg0
  refine VO.step (.some rfl rfl rfl) (V1.move rfl rfl rfl (ltb rfl) ?_)
  refine VO.step (.some rfl rfl rfl) (V1.call rfl rfl rfl cok_183 rfl (ok_impl_isDay (cond_f hg0 hh1)) rfl (ltb rfl) ?_)
  rintro _ _ ⟨rfl, rfl⟩
  refine VO.step (.some rfl rfl rfl) (V1.not rfl rfl rfl (ltb rfl) ?_)
  exact VO.nil ⟨rfl, rfl, rfl, rfl, .inr ⟨rfl, .inr ⟨rfl, .inr ⟨rfl, .inr ⟨rfl, .inl rfl⟩⟩⟩⟩⟩
 refine VO.cons rfl (V1.move rfl rfl rfl (ltb rfl) ?_)
 apply VO.or (n := 3) rfl rfl rfl rfl rfl rfl (ltb rfl) (.none rfl)
 ·
  intro hg1
  refine VO.step (.some rfl rfl rfl) (V1.move rfl rfl rfl (ltb rfl) ?_)
  refine VO.step (.some rfl rfl rfl) (V1.call rfl rfl rfl cok_172 rfl (ok_impl_isAct (cond_f hg1 hh2)) rfl (ltb rfl) ?_)
  rintro _ _ ⟨rfl, rfl⟩
  refine VO.step (.some rfl rfl rfl) (V1.not rfl rfl rfl (ltb rfl) ?_)
  exact VO.nil ⟨rfl, rfl, rfl, rfl, .inr ⟨rfl, .inr ⟨rfl, .inr ⟨rfl, .inr ⟨rfl, .inl rfl⟩⟩⟩⟩⟩
 refine VO.nil ?_
 refine V.keep 62 [0, 1, 2, 3, 29] [] (E0 := [(0, .vl ρ0 4 (List.map (encRecord σ0) list)), (1, .vl ρ1 4 (List.map encRule schedule)), (2, .int .i64 day), (3, .int .i64 act), (29, .bool (((!y0) || (!y1)) || (!y2)))]) (H0 := []) rfl (⟨_, _, rfl, rfl, ⟨_, _, rfl, rfl, ⟨_, _, rfl, rfl, ⟨_, _, rfl, rfl, ⟨_, _, rfl, rfl, rfl⟩⟩⟩⟩⟩) (rfl) rfl ?_
 refine V.cond rfl (fun hc0 => ?_) (fun hc0 => ?_)
 ·
  replace hm0 := cond_t hc0 hm0
  refine V.seq ?_
  refine V.region ?_
  refine VO.cons rfl (V1.assign rfl rfl rfl (ltb rfl) ?_)
  refine VO.cons rfl (V1.assign rfl rfl rfl (ltb rfl) ?_)
  refine VO.nil ?_
  refine V.keep 62 [8, 9] [] (E0 := [(8, .nils), (9, .bool false)]) (H0 := []) rfl (⟨_, _, rfl, rfl, ⟨_, _, rfl, rfl, rfl⟩⟩) (rfl) rfl ?_
  refine V.ret ?_
  obtain rfl := Option.some.inj hm0
  exact ⟨_, _, ⟨_, _, rfl, rfl, ⟨_, _, rfl, rfl, rfl⟩⟩, List.Sublist.refl _, none, (fun _ => rfl), rfl, rfl⟩
 ·
  replace hm0 := cond_f hc0 hm0
  refine V.skip ?_
  refine V.seq ?_
  refine V.region ?_
  refine VO.cons rfl (V1.assign rfl rfl rfl (ltb rfl) ?_)
  refine VO.nil ?_
  refine V.seq ?_
  refine V.seq ?_
  refine V.region ?_
  refine VO.cons rfl (V1.move rfl rfl rfl (ltb rfl) ?_)
  refine VO.cons rfl (V1.lenMap rfl rfl rfl rfl rfl rfl isl_64 (ltb rfl) ?_)
  refine VO.cons rfl (V1.move rfl rfl rfl (ltb rfl) ?_)
  refine VO.nil ?_
  replace hm0 := bindO hm0; rcases hm0 with ⟨e0, he1, hm0⟩
  refine V.cutT (D := (List Int) × (Option Nat)) (fun ⟨ids, ob0⟩ => ⟨62, [(10, optS 1 ob0 (List.length ids))], optH 1 ob0 (List.map encInt ids)⟩) (fun ⟨ids, ob0⟩ => (ids = e0) ∧ (ob0 = none → ids = [])) ?_ ?_
  ·
   refine V.block ?_
   refine V.keep 62 [10, 32, 1, 2, 3, 30, 31] [] (E0 := [(10, .nils), (32, .int .i64 (0 : Int)), (1, .vl ρ1 4 (List.map encRule schedule)), (2, .int .i64 day), (3, .int .i64 act), (30, .vl ρ0 4 (List.map (encRecord σ0) list)), (31, .int .i64 (list.length : Int))]) (H0 := []) rfl (⟨_, _, rfl, rfl, ⟨_, _, rfl, rfl, ⟨_, _, rfl, rfl, ⟨_, _, rfl, rfl, ⟨_, _, rfl, rfl, ⟨_, _, rfl, rfl, ⟨_, _, rfl, rfl, rfl⟩⟩⟩⟩⟩⟩⟩) (rfl) rfl ?_
   refine V.loopE (D := Nat × (List Int × Int) × (Option Nat)) (fun ⟨n0, ⟨ids0, v⟩, ob1⟩ => [(10, optS 1 ob1 (List.length ids0)), (32, .int .i64 v)]) (fun ⟨n0, ⟨ids0, v⟩, ob1⟩ => optH 1 ob1 (List.map encInt ids0)) (fun ⟨n0, ⟨ids0, v⟩, ob1⟩ => loopO (M.impl_DueRecords_l0 list schedule day act) n0 (ids0, v) = some e0 ∧ (ob1 = none → ids0 = [])) (fun ⟨n0, _, _⟩ => n0) (rounds, (([] : List Int), (0 : Int)), none) rfl ⟨he1, (fun _ => rfl)⟩ ?_
   rintro ⟨n0, ⟨ids0, v⟩, ob1⟩ ⟨hP0, hob1⟩
   obtain ⟨m0, y3, rfl, hm1, hl1, hr1⟩ := loop_head hP0
   unfold M.impl_DueRecords_l0 at hm1; dsimp only at hm1
   rcases ob1 with _ | ob1
   ·
    replace hob1 := hob1 rfl
    show V _ _ _ ⟨62, [(10, .nils), (32, .int .i64 v), (1, .vl ρ1 4 (List.map encRule schedule)), (2, .int .i64 day), (3, .int .i64 act), (30, .vl ρ0 4 (List.map (encRecord σ0) list)), (31, .int .i64 (list.length : Int))], []⟩
    refine V.seq ?_
    refine V.region ?_
    refine VO.cons rfl (V1.int rfl rfl rfl rfl rfl (ltb rfl) ?_)
    refine VO.nil ?_
    refine V.seq ?_
    refine V.cond rfl (fun hc1 => ?_) (fun hc1 => ?_)
    ·
     replace hm1 := cond_t hc1 hm1
     refine V.skip ?_
     refine V.seq ?_
     replace hm1 := bindO hm1; rcases hm1 with ⟨j0, hm2, hm1⟩
     refine V.cutT (D := (List Int) × (Option Nat)) (fun ⟨ids1, ob2⟩ => ⟨62, [(10, optS 1 ob2 (List.length ids1)), (1, .vl ρ1 4 (List.map encRule schedule)), (2, .int .i64 day), (3, .int .i64 act), (30, .vl ρ0 4 (List.map (encRecord σ0) list)), (31, .int .i64 (list.length : Int)), (32, .int .i64 v)], optH 1 ob2 (List.map encInt ids1)⟩) (fun ⟨ids1, ob2⟩ => (ids1 = j0) ∧ (ob2 = none → ids1 = [])) ?_ ?_
     ·
      refine V.block ?_
      refine V.seq ?_
      replace hm2 := asrt_some hm2; rcases hm2 with ⟨hh3, hm2⟩
      refine V.region ?_
      refine VO.cons rfl (V1.indexI rfl rfl esz_64 rfl rfl hh3 (ltb rfl) ?_)
      refine VO.cons rfl (V1.loadPinAll rfl rfl tyk_26 rfl rfl (ltb rfl) ?_)
      refine VO.cons rfl (V1.alloc rfl rfl zk_26 (ltb rfl) ?_)
      intro b0
      refine VO.cons rfl (V1.storeRefAll (k := 0) rfl rfl tyk_26 rfl rfl rfl rfl rfl rfl ?_)
      refine VO.nil ?_
      refine V.seq ?_
      replace hm2 := bindO hm2; rcases hm2 with ⟨y4, hh4, hm2⟩
      refine V.region ?_
      refine VO.cons rfl (V1.loadRefAll (k := 0) rfl rfl tyk_26 rfl rfl rfl rfl rfl (ltb rfl) ?_)
      refine VO.cons rfl (V1.move rfl rfl rfl (ltb rfl) ?_)
      refine VO.cons rfl (V1.call rfl rfl rfl cok_153 rfl (ok_impl_deciding hh4) rfl (ltb rfl) ?_)
      rintro _ _ ⟨rfl, rfl⟩
      refine VO.cons rfl (V1.move rfl rfl rfl (ltb rfl) ?_)
      refine VO.cons rfl (V1.extract rfl rfl rfl rfl (ltb rfl) ?_)
      refine VO.cons rfl (V1.extract rfl rfl rfl rfl (ltb rfl) ?_)
      refine VO.cons rfl (V1.extract rfl rfl rfl rfl (ltb rfl) ?_)
      refine VO.cons rfl (V1.alloc rfl rfl zk_37 (ltb rfl) ?_)
      intro b1
      refine VO.cons rfl (V1.storeRefAll (k := 0) rfl rfl tyk_37 rfl rfl rfl rfl rfl rfl ?_)
      refine VO.cons rfl (V1.assign rfl rfl rfl (ltb rfl) ?_)
      refine VO.cons rfl (V1.assign rfl rfl rfl (ltb rfl) ?_)
      refine VO.nil ?_
      refine V.keep 62 [1, 2, 3, 10, 12, 13, 14, 15, 30, 31, 32] [0, 1] (E0 := [(1, .vl ρ1 4 (List.map encRule schedule)), (2, .int .i64 day), (3, .int .i64 act), (10, .nils), (12, .ref b0 4 0 0), (13, .ref b1 4 0 0), (14, .int .i64 y4.2.1), (15, .bool y4.2.2), (30, .vl ρ0 4 (List.map (encRecord σ0) list)), (31, .int .i64 (list.length : Int)), (32, .int .i64 v)]) (H0 := [(b1, ⟨4, [encRule y4.1]⟩), (b0, ⟨4, [encRecord σ0 (list.getD (Int.toNat v) default)]⟩)]) rfl (⟨_, _, rfl, rfl, ⟨_, _, rfl, rfl, ⟨_, _, rfl, rfl, ⟨_, _, rfl, rfl, ⟨_, _, rfl, rfl, ⟨_, _, rfl, rfl, ⟨_, _, rfl, rfl, ⟨_, _, rfl, rfl, ⟨_, _, rfl, rfl, ⟨_, _, rfl, rfl, ⟨_, _, rfl, rfl, rfl⟩⟩⟩⟩⟩⟩⟩⟩⟩⟩⟩) (⟨_, _, rfl, rfl, ⟨_, _, rfl, rfl, rfl⟩⟩) rfl ?_
      refine V.seq ?_
      refine V.region ?_
      refine VO.cons rfl (V1.move rfl rfl rfl (ltb rfl) ?_)
      refine VO.cons rfl (V1.move rfl rfl rfl (ltb rfl) ?_)
      apply VO.and (n := 3) rfl rfl rfl rfl rfl rfl (ltb rfl) (.none rfl)
      ·
       intro hg2
       refine VO.step (.some rfl rfl rfl) (V1.move rfl rfl rfl (ltb rfl) ?_)
       refine VO.step (.some rfl rfl rfl) (V1.move rfl rfl rfl (ltb rfl) ?_)
       refine VO.step (.some rfl rfl rfl) (V1.int rfl rfl rfl rfl rfl (ltb rfl) ?_)
       exact VO.nil ⟨rfl, rfl, rfl, rfl, .inr ⟨rfl, .inr ⟨rfl, .inr ⟨rfl, .inr ⟨rfl, .inl rfl⟩⟩⟩⟩⟩
      refine VO.cons rfl (V1.move rfl rfl rfl (ltb rfl) ?_)
      apply VO.and (n := 4) rfl rfl rfl rfl rfl rfl (ltb rfl) (.none rfl)
      ·
       intro hg3
       refine VO.step (.some rfl rfl rfl) (V1.fieldRef rfl rfl fo_37_3 rfl (ltb rfl) ?_)
       refine VO.step (.some rfl rfl rfl) (V1.loadRef (k := 0) rfl rfl tyk_3 rfl rfl rfl rfl rfl (ltb rfl) ?_)
       refine VO.step (.some rfl rfl rfl) (V1.move rfl rfl rfl (ltb rfl) ?_)
       refine VO.step (.some rfl rfl rfl) (V1.int rfl rfl rfl rfl rfl (ltb rfl) ?_)
       exact VO.nil ⟨rfl, rfl, rfl, rfl, .inr ⟨rfl, .inr ⟨rfl, .inr ⟨rfl, .inr ⟨rfl, .inr ⟨rfl, .inl rfl⟩⟩⟩⟩⟩⟩
      refine VO.nil ?_
      refine V.keep 62 [1, 2, 3, 10, 12, 30, 31, 32, 54] [1] (E0 := [(1, .vl ρ1 4 (List.map encRule schedule)), (2, .int .i64 day), (3, .int .i64 act), (10, .nils), (12, .ref b0 4 0 0), (30, .vl ρ0 4 (List.map (encRecord σ0) list)), (31, .int .i64 (list.length : Int)), (32, .int .i64 v), (54, .bool ((y4.2.2 && (decide (y4.2.1 ≤ day))) && (y4.1.Act == act)))]) (H0 := [(b0, ⟨4, [encRecord σ0 (list.getD (Int.toNat v) default)]⟩)]) rfl (⟨_, _, rfl, rfl, ⟨_, _, rfl, rfl, ⟨_, _, rfl, rfl, ⟨_, _, rfl, rfl, ⟨_, _, rfl, rfl, ⟨_, _, rfl, rfl, ⟨_, _, rfl, rfl, ⟨_, _, rfl, rfl, ⟨_, _, rfl, rfl, rfl⟩⟩⟩⟩⟩⟩⟩⟩⟩) (⟨_, _, rfl, rfl, rfl⟩) rfl ?_
      refine V.cond rfl (fun hc2 => ?_) (fun hc2 => ?_)
      ·
       replace hm2 := cond_t hc2 hm2
       replace hm2 := asrt_some hm2; rcases hm2 with ⟨hh5, hm2⟩
       refine V.region ?_
       refine VO.cons rfl (V1.move rfl rfl rfl (ltb rfl) ?_)
       refine VO.cons rfl (V1.fieldRef rfl rfl fo_26_0 rfl (ltb rfl) ?_)
       refine VO.cons rfl (V1.loadRef (k := 0) rfl rfl tyk_3 rfl rfl rfl rfl rfl (ltb rfl) ?_)
       refine VO.cons rfl (V1.buildSliceT (f := encInt) ([(list.getD (Int.toNat v) default).Id] : List Int) rfl rfl esz_30 zk_3 rfl rfl rfl rfl rfl rfl rfl (ltb rfl) ?_)
       intro b2
       refine VO.cons rfl (V1.appendNilE (f := encInt) (l := ids0) (m := ([(list.getD (Int.toNat v) default).Id] : List Int)) hob1 rfl rfl rfl rfl rfl esz_30 eby_30 zk_3 rfl rfl rfl (SrcOf.srMap (k := 0) rfl isl_30) rfl hh5 (ltb rfl) ?_)
       intro b3
       refine VO.cons rfl (V1.assign rfl rfl rfl (ltb rfl) ?_)
       refine VO.nil ?_
       exact ⟨((ids0 ++ ([(list.getD (Int.toNat v) default).Id] : List Int)), (some b3)), ⟨Option.some.inj hm2, (fun e => by cases e)⟩, Keeps.mk (ks := [0]) rfl ⟨rfl, rfl, rfl, rfl, rfl, rfl, rfl, trivial⟩ (⟨_, _, rfl, rfl, rfl⟩) rfl⟩
      ·
       replace hm2 := cond_f hc2 hm2
       refine V.skip ?_
       exact ⟨(ids0, none), ⟨Option.some.inj hm2, (fun _ => hob1)⟩, Keeps.mk (ks := []) rfl ⟨rfl, rfl, rfl, rfl, rfl, rfl, rfl, trivial⟩ (rfl) rfl⟩
     ·
      rintro ⟨ids1, ob2⟩ ⟨rfl, hob2⟩
      try dsimp only at hm1
      rcases ob2 with _ | ob2
      ·
       replace hob2 := hob2 rfl
       refine V.region ?_
       refine VO.cons rfl (V1.int rfl rfl rfl rfl rfl (ltb rfl) ?_)
       refine VO.cons rfl (V1.move rfl rfl rfl (ltb rfl) ?_)
       refine VO.nil ?_
       exact ⟨(m0, (ids1, (IntKind.i64.wrap (v + (1 : Int)))), none), ⟨hl1 _ (Option.some.inj hm1).symm, (fun _ => hob2)⟩, Nat.lt_succ_self _, Keeps.mk (ks := []) rfl ⟨rfl, rfl, rfl, rfl, rfl, rfl, rfl, trivial⟩ (rfl) rfl⟩
      ·
       refine V.region ?_
       refine VO.cons rfl (V1.int rfl rfl rfl rfl rfl (ltb rfl) ?_)
       refine VO.cons rfl (V1.move rfl rfl rfl (ltb rfl) ?_)
       refine VO.nil ?_
       exact ⟨(m0, (ids1, (IntKind.i64.wrap (v + (1 : Int)))), (some ob2)), ⟨hl1 _ (Option.some.inj hm1).symm, (fun e => by cases e)⟩, Nat.lt_succ_self _, Keeps.mk (ks := [0]) rfl ⟨rfl, rfl, rfl, rfl, rfl, rfl, rfl, trivial⟩ (⟨_, _, rfl, rfl, rfl⟩) rfl⟩
    ·
     replace hm1 := cond_f hc1 hm1
     refine V.exit ?_
     obtain rfl := hr1 _ (Option.some.inj hm1).symm
     exact ⟨(ids0, none), ⟨rfl, (fun _ => hob1)⟩, Keeps.mk (ks := []) rfl ⟨rfl, trivial⟩ (rfl) rfl⟩
   ·
    show V _ _ _ ⟨62, [(10, .sref ob1 1 0 (List.length ids0)), (32, .int .i64 v), (1, .vl ρ1 4 (List.map encRule schedule)), (2, .int .i64 day), (3, .int .i64 act), (30, .vl ρ0 4 (List.map (encRecord σ0) list)), (31, .int .i64 (list.length : Int))], [(ob1, ⟨1, List.map encInt ids0⟩)]⟩
    refine V.seq ?_
    refine V.region ?_
    refine VO.cons rfl (V1.int rfl rfl rfl rfl rfl (ltb rfl) ?_)
    refine VO.nil ?_
    refine V.seq ?_
    refine V.cond rfl (fun hc1 => ?_) (fun hc1 => ?_)
    ·
     replace hm1 := cond_t hc1 hm1
     refine V.skip ?_
     refine V.seq ?_
     replace hm1 := bindO hm1; rcases hm1 with ⟨j0, hm2, hm1⟩
     refine V.cutT (D := (List Int) × (Nat)) (fun ⟨ids1, b0⟩ => ⟨62, [(10, .sref b0 1 0 (List.length ids1)), (1, .vl ρ1 4 (List.map encRule schedule)), (2, .int .i64 day), (3, .int .i64 act), (30, .vl ρ0 4 (List.map (encRecord σ0) list)), (31, .int .i64 (list.length : Int)), (32, .int .i64 v)], [(b0, ⟨1, List.map encInt ids1⟩)]⟩) (fun ⟨ids1, b0⟩ => (ids1 = j0)) ?_ ?_
     ·
      refine V.block ?_
      refine V.seq ?_
      replace hm2 := asrt_some hm2; rcases hm2 with ⟨hh3, hm2⟩
      refine V.region ?_
      refine VO.cons rfl (V1.indexI rfl rfl esz_64 rfl rfl hh3 (ltb rfl) ?_)
      refine VO.cons rfl (V1.loadPinAll rfl rfl tyk_26 rfl rfl (ltb rfl) ?_)
      refine VO.cons rfl (V1.alloc rfl rfl zk_26 (ltb rfl) ?_)
      intro b1
      refine VO.cons rfl (V1.storeRefAll (k := 0) rfl rfl tyk_26 rfl rfl rfl rfl rfl rfl ?_)
      refine VO.nil ?_
      refine V.seq ?_
      replace hm2 := bindO hm2; rcases hm2 with ⟨y4, hh4, hm2⟩
      refine V.region ?_
      refine VO.cons rfl (V1.loadRefAll (k := 0) rfl rfl tyk_26 rfl rfl rfl rfl rfl (ltb rfl) ?_)
      refine VO.cons rfl (V1.move rfl rfl rfl (ltb rfl) ?_)
      refine VO.cons rfl (V1.call rfl rfl rfl cok_153 rfl (ok_impl_deciding hh4) rfl (ltb rfl) ?_)
      rintro _ _ ⟨rfl, rfl⟩
      refine VO.cons rfl (V1.move rfl rfl rfl (ltb rfl) ?_)
      refine VO.cons rfl (V1.extract rfl rfl rfl rfl (ltb rfl) ?_)
      refine VO.cons rfl (V1.extract rfl rfl rfl rfl (ltb rfl) ?_)
      refine VO.cons rfl (V1.extract rfl rfl rfl rfl (ltb rfl) ?_)
      refine VO.cons rfl (V1.alloc rfl rfl zk_37 (ltb rfl) ?_)
      intro b2
      refine VO.cons rfl (V1.storeRefAll (k := 0) rfl rfl tyk_37 rfl rfl rfl rfl rfl rfl ?_)
      refine VO.cons rfl (V1.assign rfl rfl rfl (ltb rfl) ?_)
      refine VO.cons rfl (V1.assign rfl rfl rfl (ltb rfl) ?_)
      refine VO.nil ?_
      refine V.keep 62 [1, 2, 3, 10, 12, 13, 14, 15, 30, 31, 32] [0, 1, 2] (E0 := [(1, .vl ρ1 4 (List.map encRule schedule)), (2, .int .i64 day), (3, .int .i64 act), (10, .sref ob1 1 0 (List.length ids0)), (12, .ref b1 4 0 0), (13, .ref b2 4 0 0), (14, .int .i64 y4.2.1), (15, .bool y4.2.2), (30, .vl ρ0 4 (List.map (encRecord σ0) list)), (31, .int .i64 (list.length : Int)), (32, .int .i64 v)]) (H0 := [(b2, ⟨4, [encRule y4.1]⟩), (b1, ⟨4, [encRecord σ0 (list.getD (Int.toNat v) default)]⟩), (ob1, ⟨1, List.map encInt ids0⟩)]) rfl (⟨_, _, rfl, rfl, ⟨_, _, rfl, rfl, ⟨_, _, rfl, rfl, ⟨_, _, rfl, rfl, ⟨_, _, rfl, rfl, ⟨_, _, rfl, rfl, ⟨_, _, rfl, rfl, ⟨_, _, rfl, rfl, ⟨_, _, rfl, rfl, ⟨_, _, rfl, rfl, ⟨_, _, rfl, rfl, rfl⟩⟩⟩⟩⟩⟩⟩⟩⟩⟩⟩) (⟨_, _, rfl, rfl, ⟨_, _, rfl, rfl, ⟨_, _, rfl, rfl, rfl⟩⟩⟩) rfl ?_
      refine V.seq ?_
      refine V.region ?_
      refine VO.cons rfl (V1.move rfl rfl rfl (ltb rfl) ?_)
      refine VO.cons rfl (V1.move rfl rfl rfl (ltb rfl) ?_)
      apply VO.and (n := 3) rfl rfl rfl rfl rfl rfl (ltb rfl) (.none rfl)
      ·
       intro hg2
       refine VO.step (.some rfl rfl rfl) (V1.move rfl rfl rfl (ltb rfl) ?_)
       refine VO.step (.some rfl rfl rfl) (V1.move rfl rfl rfl (ltb rfl) ?_)
       refine VO.step (.some rfl rfl rfl) (V1.int rfl rfl rfl rfl rfl (ltb rfl) ?_)
       exact VO.nil ⟨rfl, rfl, rfl, rfl, .inr ⟨rfl, .inr ⟨rfl, .inr ⟨rfl, .inr ⟨rfl, .inl rfl⟩⟩⟩⟩⟩
      refine VO.cons rfl (V1.move rfl rfl rfl (ltb rfl) ?_)
      apply VO.and (n := 4) rfl rfl rfl rfl rfl rfl (ltb rfl) (.none rfl)
      ·
       intro hg3
       refine VO.step (.some rfl rfl rfl) (V1.fieldRef rfl rfl fo_37_3 rfl (ltb rfl) ?_)
       refine VO.step (.some rfl rfl rfl) (V1.loadRef (k := 0) rfl rfl tyk_3 rfl rfl rfl rfl rfl (ltb rfl) ?_)
       refine VO.step (.some rfl rfl rfl) (V1.move rfl rfl rfl (ltb rfl) ?_)
       refine VO.step (.some rfl rfl rfl) (V1.int rfl rfl rfl rfl rfl (ltb rfl) ?_)
       exact VO.nil ⟨rfl, rfl, rfl, rfl, .inr ⟨rfl, .inr ⟨rfl, .inr ⟨rfl, .inr ⟨rfl, .inr ⟨rfl, .inl rfl⟩⟩⟩⟩⟩⟩
      refine VO.nil ?_
      refine V.keep 62 [1, 2, 3, 10, 12, 30, 31, 32, 54] [1, 2] (E0 := [(1, .vl ρ1 4 (List.map encRule schedule)), (2, .int .i64 day), (3, .int .i64 act), (10, .sref ob1 1 0 (List.length ids0)), (12, .ref b1 4 0 0), (30, .vl ρ0 4 (List.map (encRecord σ0) list)), (31, .int .i64 (list.length : Int)), (32, .int .i64 v), (54, .bool ((y4.2.2 && (decide (y4.2.1 ≤ day))) && (y4.1.Act == act)))]) (H0 := [(b1, ⟨4, [encRecord σ0 (list.getD (Int.toNat v) default)]⟩), (ob1, ⟨1, List.map encInt ids0⟩)]) rfl (⟨_, _, rfl, rfl, ⟨_, _, rfl, rfl, ⟨_, _, rfl, rfl, ⟨_, _, rfl, rfl, ⟨_, _, rfl, rfl, ⟨_, _, rfl, rfl, ⟨_, _, rfl, rfl, ⟨_, _, rfl, rfl, ⟨_, _, rfl, rfl, rfl⟩⟩⟩⟩⟩⟩⟩⟩⟩) (⟨_, _, rfl, rfl, ⟨_, _, rfl, rfl, rfl⟩⟩) rfl ?_
      refine V.cond rfl (fun hc2 => ?_) (fun hc2 => ?_)
      ·
       replace hm2 := cond_t hc2 hm2
       replace hm2 := asrt_some hm2; rcases hm2 with ⟨hh5, hm2⟩
       refine V.region ?_
       refine VO.cons rfl (V1.move rfl rfl rfl (ltb rfl) ?_)
       refine VO.cons rfl (V1.fieldRef rfl rfl fo_26_0 rfl (ltb rfl) ?_)
       refine VO.cons rfl (V1.loadRef (k := 0) rfl rfl tyk_3 rfl rfl rfl rfl rfl (ltb rfl) ?_)
       refine VO.cons rfl (V1.buildSliceT (f := encInt) ([(list.getD (Int.toNat v) default).Id] : List Int) rfl rfl esz_30 zk_3 rfl rfl rfl rfl rfl rfl rfl (ltb rfl) ?_)
       intro b3
       refine VO.cons rfl (V1.appendMap (k := 2) (f := encInt) (l := ids0) (m := ([(list.getD (Int.toNat v) default).Id] : List Int)) rfl rfl rfl rfl rfl esz_30 eby_30 zk_3 rfl rfl rfl (SrcOf.srMap (k := 0) rfl isl_30) hh5 (ltb rfl) ?_)
       intro b4
       refine VO.cons rfl (V1.assign rfl rfl rfl (ltb rfl) ?_)
       refine VO.nil ?_
       exact ⟨((ids0 ++ ([(list.getD (Int.toNat v) default).Id] : List Int)), b4), Option.some.inj hm2, Keeps.mk (ks := [0]) rfl ⟨rfl, rfl, rfl, rfl, rfl, rfl, rfl, trivial⟩ (⟨_, _, rfl, rfl, rfl⟩) rfl⟩
      ·
       replace hm2 := cond_f hc2 hm2
       refine V.skip ?_
       exact ⟨(ids0, ob1), Option.some.inj hm2, Keeps.mk (ks := [1]) rfl ⟨rfl, rfl, rfl, rfl, rfl, rfl, rfl, trivial⟩ (⟨_, _, rfl, rfl, rfl⟩) rfl⟩
     ·
      rintro ⟨ids1, b0⟩ rfl
      try dsimp only at hm1
      refine V.region ?_
      refine VO.cons rfl (V1.int rfl rfl rfl rfl rfl (ltb rfl) ?_)
      refine VO.cons rfl (V1.move rfl rfl rfl (ltb rfl) ?_)
      refine VO.nil ?_
      exact ⟨(m0, (ids1, (IntKind.i64.wrap (v + (1 : Int)))), (some b0)), ⟨hl1 _ (Option.some.inj hm1).symm, (fun e => by cases e)⟩, Nat.lt_succ_self _, Keeps.mk (ks := [0]) rfl ⟨rfl, rfl, rfl, rfl, rfl, rfl, rfl, trivial⟩ (⟨_, _, rfl, rfl, rfl⟩) rfl⟩
    ·
     replace hm1 := cond_f hc1 hm1
     refine V.exit ?_
     obtain rfl := hr1 _ (Option.some.inj hm1).symm
     exact ⟨(ids0, (some ob1)), ⟨rfl, (fun e => by cases e)⟩, Keeps.mk (ks := [0]) rfl ⟨rfl, trivial⟩ (⟨_, _, rfl, rfl, rfl⟩) rfl⟩
  ·
   rintro ⟨ids, ob0⟩ ⟨rfl, hob0⟩
   try dsimp only at hm0
   rcases ob0 with _ | ob0
   ·
    replace hob0 := hob0 rfl
    refine V.seq ?_
    refine V.region ?_
    refine VO.cons rfl (V1.move rfl rfl rfl (ltb rfl) ?_)
    refine VO.cons rfl (V1.assign rfl rfl rfl (ltb rfl) ?_)
    refine VO.cons rfl (V1.assign rfl rfl rfl (ltb rfl) ?_)
    refine VO.nil ?_
    refine V.keep 62 [8, 9] [] (E0 := [(8, .nils), (9, .bool true)]) (H0 := []) rfl (⟨_, _, rfl, rfl, ⟨_, _, rfl, rfl, rfl⟩⟩) (rfl) rfl ?_
    refine V.ret ?_
    obtain rfl := Option.some.inj hm0
    exact ⟨_, _, ⟨_, _, rfl, rfl, ⟨_, _, rfl, rfl, rfl⟩⟩, List.Sublist.refl _, none, (fun _ => hob0), rfl, rfl⟩
   ·
    refine V.seq ?_
    refine V.region ?_
    refine VO.cons rfl (V1.move rfl rfl rfl (ltb rfl) ?_)
    refine VO.cons rfl (V1.assign rfl rfl rfl (ltb rfl) ?_)
    refine VO.cons rfl (V1.assign rfl rfl rfl (ltb rfl) ?_)
    refine VO.nil ?_
    refine V.keep 62 [8, 9] [0] (E0 := [(8, .sref ob0 1 0 (List.length ids)), (9, .bool true)]) (H0 := [(ob0, ⟨1, List.map encInt ids⟩)]) rfl (⟨_, _, rfl, rfl, ⟨_, _, rfl, rfl, rfl⟩⟩) (⟨_, _, rfl, rfl, rfl⟩) rfl ?_
    refine V.ret ?_
    obtain rfl := Option.some.inj hm0
    exact ⟨_, _, ⟨_, _, rfl, rfl, ⟨_, _, rfl, rfl, rfl⟩⟩, List.Sublist.refl _, some ob0, (fun e => by cases e), rfl, rfl⟩

theorem ok_spec_l2Records {ρ0 σ0 rn : Nat} {list : List Record} {r : Bool} (h : M.spec_l2Records list = some r) : Does Try.prog 187 [.vl ρ0 4 (List.map (encRecord σ0) list)] [] rn (fun x H => x = .bool r ∧ H = []) := by
 have hm0 := h; clear h; unfold M.spec_l2Records at hm0
 try dsimp only at hm0
 refine Does.intro (N := 37) Try.func187 rfl rfl rfl rfl ?_
 intro w0 S0
 refine V.seq ?_
 refine V.region ?_
 refine VO.cons rfl (V1.assign rfl rfl rfl (ltb rfl) ?_)
 refine VO.nil ?_
 refine V.seq ?_
 refine V.seq ?_
 refine V.region ?_
 refine VO.cons rfl (V1.assign rfl rfl rfl (ltb rfl) ?_)
 refine VO.nil ?_
 replace hm0 := bindO hm0; rcases hm0 with ⟨e0, he1, hm0⟩
 refine V.cutT (D := (Unit) × (Unit)) (fun ⟨_, _⟩ => ⟨37, [(0, .vl ρ0 4 (List.map (encRecord σ0) list))], []⟩) (fun ⟨_, _⟩ => (.inl () = e0)) ?_ ?_
 ·
  refine V.block ?_
  refine V.keep 37 [3, 0] [] (E0 := [(3, .int .i64 (0 : Int)), (0, .vl ρ0 4 (List.map (encRecord σ0) list))]) (H0 := []) rfl (⟨_, _, rfl, rfl, ⟨_, _, rfl, rfl, rfl⟩⟩) (rfl) rfl ?_
  refine V.loopE (D := Nat × (Int) × (Unit)) (fun ⟨n0, i, _⟩ => [(3, .int .i64 i)]) (fun ⟨n0, i, _⟩ => []) (fun ⟨n0, i, _⟩ => loopO (M.spec_l2Records_l0 list) n0 i = some e0) (fun ⟨n0, _, _⟩ => n0) (rounds, (0 : Int), ()) rfl he1 ?_
  rintro ⟨n0, i, _⟩ hP0
  obtain ⟨m0, y0, rfl, hm1, hl1, hr1⟩ := loop_head hP0
  unfold M.spec_l2Records_l0 at hm1; dsimp only at hm1
  show V _ _ _ ⟨37, [(3, .int .i64 i), (0, .vl ρ0 4 (List.map (encRecord σ0) list))], []⟩
  refine V.seq ?_
  refine V.seq ?_
  refine V.region ?_
  refine VO.cons rfl (V1.move rfl rfl rfl (ltb rfl) ?_)
  refine VO.cons rfl (V1.move rfl rfl rfl (ltb rfl) ?_)
  refine VO.cons rfl (V1.lenMap rfl rfl rfl rfl rfl rfl isl_64 (ltb rfl) ?_)
  refine VO.cons rfl (V1.int rfl rfl rfl rfl rfl (ltb rfl) ?_)
  refine VO.nil ?_
  refine V.cond rfl (fun hc0 => ?_) (fun hc0 => ?_)
  ·
   replace hm1 := cond_t hc0 hm1
   refine V.skip ?_
   refine V.keep 37 [0, 3] [] (E0 := [(0, .vl ρ0 4 (List.map (encRecord σ0) list)), (3, .int .i64 i)]) (H0 := []) rfl (⟨_, _, rfl, rfl, ⟨_, _, rfl, rfl, rfl⟩⟩) (rfl) rfl ?_
   refine V.seq ?_
   refine V.block ?_
   refine V.seq ?_
   replace hm1 := asrt_some hm1; rcases hm1 with ⟨hh0, hm1⟩
   replace hm1 := bindO hm1; rcases hm1 with ⟨y1, hh1, hm1⟩
   replace hm1 := asrt_some hm1; rcases hm1 with ⟨hh2, hm1⟩
   replace hm1 := asrt_some hm1; rcases hm1 with ⟨hh3, hm1⟩
   refine V.regionM 37 24 [⟨[(0, none)], [], none⟩, ⟨[(3, none)], [], none⟩, ⟨[(10, some 1), (11, some 0)], [], none⟩, ⟨[(12, some 0)], [], none⟩, ⟨[(13, some 0)], [], none⟩, ⟨[(14, some 0)], [], none⟩, ⟨[(15, some 0)], [], none⟩, ⟨[(3, none)], [(0, false)], none⟩, ⟨[(17, some 0)], [(1, false)], none⟩, ⟨[(18, some 0)], [(2, false)], none⟩, ⟨[(0, none)], [(0, true), (3, false)], none⟩, ⟨[(3, none)], [(1, true), (4, false)], none⟩, ⟨[(21, some 0)], [(2, true), (5, false)], none⟩, ⟨[(20, some 2), (22, some 0)], [(3, true), (6, false)], none⟩, ⟨[(23, some 0)], [(4, true), (7, false)], none⟩, ⟨[(24, some 0)], [(5, true), (8, false)], none⟩, ⟨[(0, none)], [(6, true), (9, false)], none⟩, ⟨[(3, none)], [(7, true), (10, false)], none⟩, ⟨[(26, some 1), (27, some 0)], [(8, true), (11, false)], none⟩, ⟨[(28, some 0)], [(9, true), (12, false)], none⟩, ⟨[(29, some 0)], [(10, true), (13, false)], none⟩, ⟨[(25, some 5), (30, some 0)], [(11, true), (14, false)], none⟩, ⟨[], [(15, false)], some (true, 19, 31, 12, 0)⟩, ⟨[], [], some (false, 16, 32, 16, 0)⟩] [(0, none), (3, none), (33, some 0)] (⟨_, rfl, ⟨_, rfl, ⟨_, rfl, ⟨_, rfl, ⟨_, rfl, ⟨_, rfl, ⟨_, rfl, ⟨_, rfl, ⟨_, rfl, ⟨_, rfl, ⟨_, rfl, ⟨_, rfl, ⟨_, rfl, ⟨_, rfl, ⟨_, rfl, ⟨_, rfl, ⟨_, rfl, ⟨_, rfl, ⟨_, rfl, ⟨_, rfl, ⟨_, rfl, ⟨_, rfl, ⟨_, rfl, ⟨_, rfl, ⟨rfl, rfl⟩⟩⟩⟩⟩⟩⟩⟩⟩⟩⟩⟩⟩⟩⟩⟩⟩⟩⟩⟩⟩⟩⟩⟩⟩) mixed_orders rfl (by decide +kernel) (fun hck4 => ?_)
   refine VP.step (p := ?pv177) rfl rfl rfl (⟨_, _, rfl, rfl, rfl⟩) ?hv177 ?rest177 hck4
   case hv177 =>
    intro E1
    refine (V1.move rfl rfl rfl (ltb rfl) ?_)
    exact rfl
   refine VP.step (p := ?pv178) rfl rfl rfl (⟨_, _, rfl, rfl, rfl⟩) ?hv178 ?rest178 hck4
   case hv178 =>
    intro E1
    refine (V1.move rfl rfl rfl (ltb rfl) ?_)
    exact rfl
   refine VP.step (p := ?pv179) rfl rfl rfl (⟨_, _, rfl, rfl, ⟨_, _, rfl, rfl, rfl⟩⟩) ?hv179 ?rest179 hck4
   case hv179 =>
    intro E1
    refine (V1.indexI rfl rfl esz_64 rfl rfl hh0 (ltb rfl) ?_)
    exact rfl
   refine VP.step (p := ?pv180) rfl rfl rfl (⟨_, _, rfl, rfl, rfl⟩) ?hv180 ?rest180 hck4
   case hv180 =>
    intro E1
    refine (V1.loadPinAll rfl rfl tyk_26 rfl rfl (ltb rfl) ?_)
    exact rfl
   refine VP.step (p := ?pv181) rfl rfl rfl (⟨_, _, rfl, rfl, rfl⟩) ?hv181 ?rest181 hck4
   case hv181 =>
    intro E1
    refine (V1.call rfl rfl rfl cok_268 rfl (ok_spec_l2Record hh1) rfl (ltb rfl) ?_)
    rintro _ _ ⟨rfl, rfl⟩
    exact rfl
   refine VP.step (p := ?pv182) rfl rfl rfl (⟨_, _, rfl, rfl, rfl⟩) ?hv182 ?rest182 hck4
   case hv182 =>
    intro E1
    refine (V1.not rfl rfl rfl (ltb rfl) ?_)
    exact rfl
   refine VP.step (p := ?pv183) rfl rfl rfl (⟨_, _, rfl, rfl, rfl⟩) ?hv183 ?rest183 hck4
   case hv183 =>
    intro E1
    refine (V1.move rfl rfl rfl (ltb rfl) ?_)
    exact rfl
   refine VP.step (p := ?pv184) rfl rfl rfl (⟨_, _, rfl, rfl, rfl⟩) ?hv184 ?rest184 hck4
   case hv184 =>
    refine ⟨_, rfl, fun hg0 => ?_⟩
    intro E1
    refine (V1.move rfl rfl rfl (ltb rfl) ?_)
    exact rfl
   refine VP.step (p := ?pv185) rfl rfl rfl (⟨_, _, rfl, rfl, rfl⟩) ?hv185 ?rest185 hck4
   case hv185 =>
    refine ⟨_, rfl, fun hg0 => ?_⟩
    intro E1
    refine (V1.int rfl rfl rfl rfl rfl (ltb rfl) ?_)
    exact rfl
   refine VP.step (p := ?pv186) rfl rfl rfl (⟨_, _, rfl, rfl, rfl⟩) ?hv186 ?rest186 hck4
   case hv186 =>
    refine ⟨_, rfl, fun hg0 => ?_⟩
    intro E1
    refine (V1.move rfl rfl rfl (ltb rfl) ?_)
    exact rfl
   refine VP.step (p := ?pv187) rfl rfl rfl (⟨_, _, rfl, rfl, rfl⟩) ?hv187 ?rest187 hck4
   case hv187 =>
    refine ⟨_, rfl, fun hg1 => ?_⟩
    refine ⟨_, rfl, fun hg0 => ?_⟩
    intro E1
    refine (V1.move rfl rfl rfl (ltb rfl) ?_)
    exact rfl
   refine VP.step (p := ?pv188) rfl rfl rfl (⟨_, _, rfl, rfl, rfl⟩) ?hv188 ?rest188 hck4
   case hv188 =>
    refine ⟨_, rfl, fun hg1 => ?_⟩
    refine ⟨_, rfl, fun hg0 => ?_⟩
    intro E1
    refine (V1.move rfl rfl rfl (ltb rfl) ?_)
    exact rfl
   refine VP.step (p := ?pv189) rfl rfl rfl (⟨_, _, rfl, rfl, rfl⟩) ?hv189 ?rest189 hck4
   case hv189 =>
    refine ⟨_, rfl, fun hg1 => ?_⟩
    refine ⟨_, rfl, fun hg0 => ?_⟩
    intro E1
    refine (V1.int rfl rfl rfl rfl rfl (ltb rfl) ?_)
    exact rfl
   refine VP.step (p := ?pv190) rfl rfl rfl (⟨_, _, rfl, rfl, ⟨_, _, rfl, rfl, rfl⟩⟩) ?hv190 ?rest190 hck4
   case hv190 =>
    refine ⟨_, rfl, fun hg1 => ?_⟩
    refine ⟨_, rfl, fun hg0 => ?_⟩
    intro E1
    refine (V1.indexI rfl rfl esz_64 rfl rfl (hh2 hg0 hg1) (ltb rfl) ?_)
    exact rfl
   refine VP.step (p := ?pv191) rfl rfl rfl (⟨_, _, rfl, rfl, rfl⟩) ?hv191 ?rest191 hck4
   case hv191 =>
    refine ⟨_, rfl, fun hg1 => ?_⟩
    refine ⟨_, rfl, fun hg0 => ?_⟩
    intro E1
    refine (V1.fieldPin rfl rfl fo_26_0 rfl (ltb rfl) ?_)
    exact rfl
   refine VP.step (p := ?pv192) rfl rfl rfl (⟨_, _, rfl, rfl, rfl⟩) ?hv192 ?rest192 hck4
   case hv192 =>
    refine ⟨_, rfl, fun hg1 => ?_⟩
    refine ⟨_, rfl, fun hg0 => ?_⟩
    intro E1
    refine (V1.loadPin rfl rfl tyk_3 rfl rfl (ltb rfl) ?_)
    exact rfl
   refine VP.step (p := ?pv193) rfl rfl rfl (⟨_, _, rfl, rfl, rfl⟩) ?hv193 ?rest193 hck4
   case hv193 =>
    refine ⟨_, rfl, fun hg1 => ?_⟩
    refine ⟨_, rfl, fun hg0 => ?_⟩
    intro E1
    refine (V1.move rfl rfl rfl (ltb rfl) ?_)
    exact rfl
   refine VP.step (p := ?pv194) rfl rfl rfl (⟨_, _, rfl, rfl, rfl⟩) ?hv194 ?rest194 hck4
   case hv194 =>
    refine ⟨_, rfl, fun hg1 => ?_⟩
    refine ⟨_, rfl, fun hg0 => ?_⟩
    intro E1
    refine (V1.move rfl rfl rfl (ltb rfl) ?_)
    exact rfl
   refine VP.step (p := ?pv195) rfl rfl rfl (⟨_, _, rfl, rfl, ⟨_, _, rfl, rfl, rfl⟩⟩) ?hv195 ?rest195 hck4
   case hv195 =>
    refine ⟨_, rfl, fun hg1 => ?_⟩
    refine ⟨_, rfl, fun hg0 => ?_⟩
    intro E1
    refine (V1.indexI rfl rfl esz_64 rfl rfl (hh3 hg0 hg1) (ltb rfl) ?_)
    exact rfl
   refine VP.step (p := ?pv196) rfl rfl rfl (⟨_, _, rfl, rfl, rfl⟩) ?hv196 ?rest196 hck4
   case hv196 =>
    refine ⟨_, rfl, fun hg1 => ?_⟩
    refine ⟨_, rfl, fun hg0 => ?_⟩
    intro E1
    refine (V1.fieldPin rfl rfl fo_26_0 rfl (ltb rfl) ?_)
    exact rfl
   refine VP.step (p := ?pv197) rfl rfl rfl (⟨_, _, rfl, rfl, rfl⟩) ?hv197 ?rest197 hck4
   case hv197 =>
    refine ⟨_, rfl, fun hg1 => ?_⟩
    refine ⟨_, rfl, fun hg0 => ?_⟩
    intro E1
    refine (V1.loadPin rfl rfl tyk_3 rfl rfl (ltb rfl) ?_)
    exact rfl
   refine VP.step (p := ?pv198) rfl rfl rfl (⟨_, _, rfl, rfl, ⟨_, _, rfl, rfl, rfl⟩⟩) ?hv198 ?rest198 hck4
   case hv198 =>
    refine ⟨_, rfl, fun hg1 => ?_⟩
    refine ⟨_, rfl, fun hg0 => ?_⟩
    intro E1
    refine (V1.int rfl rfl rfl rfl rfl (ltb rfl) ?_)
    exact rfl
   refine VP.pickAnd rfl rfl rfl rfl rfl rfl (⟨_, rfl, fun _ => trivial⟩) ?_ hck4
   refine VP.pickOr rfl rfl rfl rfl rfl rfl (trivial) ?_ hck4
   refine VP.fin rfl (⟨_, _, rfl, rfl, ⟨_, _, rfl, rfl, ⟨_, _, rfl, rfl, rfl⟩⟩⟩) ?_
   refine VO.nil ?_
   refine V.cond rfl (fun hc1 => ?_) (fun hc1 => ?_)
   ·
    replace hm1 := cond_t hc1 hm1
    refine V.seq ?_
    refine V.region ?_
    refine VO.cons rfl (V1.assign rfl rfl rfl (ltb rfl) ?_)
    refine VO.nil ?_
    refine V.ret ?_
    obtain rfl := hr1 _ (Option.some.inj hm1).symm
    change some _ = some _ at hm0
    obtain rfl := Option.some.inj hm0
    exact ⟨_, [], ⟨_, _, rfl, rfl, rfl⟩, List.nil_sublist _, rfl, rfl⟩
   ·
    replace hm1 := cond_f hc1 hm1
    refine V.skip ?_
    refine V.region ?_
    refine VO.cons rfl (V1.move rfl rfl rfl (ltb rfl) ?_)
    refine VO.cons rfl (V1.int rfl rfl rfl rfl rfl (ltb rfl) ?_)
    refine VO.cons rfl (V1.assign rfl rfl rfl (ltb rfl) ?_)
    refine VO.nil ?_
    exact ⟨(m0, (IntKind.i64.wrap (i + (1 : Int))), ()), hl1 _ (Option.some.inj hm1).symm, Nat.lt_succ_self _, Keeps.mk (ks := []) rfl ⟨rfl, rfl, trivial⟩ (rfl) rfl⟩
  ·
   replace hm1 := cond_f hc0 hm1
   refine V.exit ?_
   obtain rfl := hr1 _ (Option.some.inj hm1).symm
   exact ⟨((), ()), rfl, Keeps.mk (ks := []) rfl ⟨rfl, trivial⟩ (rfl) rfl⟩
 ·
  rintro ⟨_, _⟩ rfl
  try dsimp only at hm0
  refine V.seq ?_
  refine V.region ?_
  refine VO.cons rfl (V1.move rfl rfl rfl (ltb rfl) ?_)
  refine VO.cons rfl (V1.lenMap rfl rfl rfl rfl rfl rfl isl_64 (ltb rfl) ?_)
  refine VO.cons rfl (V1.int rfl rfl rfl rfl rfl (ltb rfl) ?_)
  refine VO.cons rfl (V1.assign rfl rfl rfl (ltb rfl) ?_)
  refine VO.nil ?_
  refine V.ret ?_
  obtain rfl := Option.some.inj hm0
  exact ⟨_, [], ⟨_, _, rfl, rfl, rfl⟩, List.nil_sublist _, rfl, rfl⟩

theorem ok_spec_DueRecords {ρ0 σ0 ρ1 rn : Nat} {list : List Record} {schedule : List Rule} {day : Int} {act : Int} {r : List Int × Bool} (h : M.spec_DueRecords list schedule day act = some r) : Does Try.prog 48 [.vl ρ0 4 (List.map (encRecord σ0) list), .vl ρ1 4 (List.map encRule schedule), .int .i64 day, .int .i64 act] [] rn (fun x H => ∃ (ob0_ : Nat), x = .tup [PV.sref ob0_ 1 0 (List.length r.1), .bool r.2] ∧ H = [(ob0_, ⟨1, List.map encInt r.1⟩)]) := by
 have hm0 := h; clear h; unfold M.spec_DueRecords at hm0
 try dsimp only at hm0
 refine Does.intro (N := 71) Try.func48 rfl rfl rfl rfl ?_
 intro w0 S0
 refine V.seq ?_
 refine V.region ?_
 refine VO.cons rfl (V1.assign rfl rfl rfl (ltb rfl) ?_)
 refine VO.cons rfl (V1.assign rfl rfl rfl (ltb rfl) ?_)
 refine VO.nil ?_
 refine V.seq ?_
 refine V.region ?_
 refine VO.cons rfl (V1.buildSliceT (f := encInt) ([] : List Int) rfl rfl esz_30 zk_3 rfl rfl rfl rfl rfl rfl rfl (ltb rfl) ?_)
 intro b0
 refine VO.cons rfl (V1.assign rfl rfl rfl (ltb rfl) ?_)
 refine VO.nil ?_
 refine V.seq ?_
 refine V.seq ?_
 replace hm0 := bindO hm0; rcases hm0 with ⟨y0, hh0, hm0⟩
 replace hm0 := bindO hm0; rcases hm0 with ⟨y1, hh1, hm0⟩
 replace hm0 := bindO hm0; rcases hm0 with ⟨y2, hh2, hm0⟩
 replace hm0 := bindO hm0; rcases hm0 with ⟨y3, hh3, hm0⟩
 refine V.region ?_
 refine VO.cons rfl (V1.move rfl rfl rfl (ltb rfl) ?_)
 refine VO.cons rfl (V1.call rfl rfl rfl cok_187 rfl (ok_spec_l2Records hh0) rfl (ltb rfl) ?_)
 rintro _ _ ⟨rfl, rfl⟩
 refine VO.cons rfl (V1.not rfl rfl rfl (ltb rfl) ?_)
 refine VO.cons rfl (V1.move rfl rfl rfl (ltb rfl) ?_)
 apply VO.or (n := 3) rfl rfl rfl rfl rfl rfl (ltb rfl) (.none rfl)
 ·
  intro hg0
  refine VO.step (.some rfl rfl rfl) (V1.move rfl rfl rfl (ltb rfl) ?_)
  refine VO.step (.some rfl rfl rfl) (V1.call rfl rfl rfl cok_160 rfl (ok_spec_l4Good (cond_f hg0 hh1)) rfl (ltb rfl) ?_)
  rintro _ _ ⟨rfl, rfl⟩
  refine VO.step (.some rfl rfl rfl) (V1.not rfl rfl rfl (ltb rfl) ?_)
  exact VO.nil ⟨rfl, rfl, rfl, rfl, .inr ⟨rfl, .inr ⟨rfl, .inr ⟨rfl, .inr ⟨rfl, .inl rfl⟩⟩⟩⟩⟩
 refine VO.cons rfl (V1.move rfl rfl rfl (ltb rfl) ?_)
 apply VO.or (n := 3) rfl rfl rfl rfl rfl rfl (ltb rfl) (.none rfl)
 ·
  intro hg1
  refine VO.step (.some rfl rfl rfl) (V1.move rfl rfl rfl (ltb rfl) ?_)
  refine VO.step (.some rfl rfl rfl) (V1.call rfl rfl rfl cok_181 rfl (ok_spec_l2Day (cond_f hg1 hh2)) rfl (ltb rfl) ?_)
  rintro _ _ ⟨rfl, rfl⟩
  refine VO.step (.some rfl rfl rfl) (V1.not rfl rfl rfl (ltb rfl) ?_)
  exact VO.nil ⟨rfl, rfl, rfl, rfl, .inr ⟨rfl, .inr ⟨rfl, .inr ⟨rfl, .inr ⟨rfl, .inl rfl⟩⟩⟩⟩⟩
 refine VO.cons rfl (V1.move rfl rfl rfl (ltb rfl) ?_)
 apply VO.or (n := 3) rfl rfl rfl rfl rfl rfl (ltb rfl) (.none rfl)
 ·
  intro hg2
  refine VO.step (.some rfl rfl rfl) (V1.move rfl rfl rfl (ltb rfl) ?_)
  refine VO.step (.some rfl rfl rfl) (V1.call rfl rfl rfl cok_188 rfl (ok_spec_l1In (cond_f hg2 hh3)) rfl (ltb rfl) ?_)
  rintro _ _ ⟨rfl, rfl⟩
  refine VO.step (.some rfl rfl rfl) (V1.not rfl rfl rfl (ltb rfl) ?_)
  exact VO.nil ⟨rfl, rfl, rfl, rfl, .inr ⟨rfl, .inr ⟨rfl, .inr ⟨rfl, .inr ⟨rfl, .inl rfl⟩⟩⟩⟩⟩
 refine VO.nil ?_
 refine V.keep 71 [0, 1, 2, 3, 10, 32] [0] (E0 := [(0, .vl ρ0 4 (List.map (encRecord σ0) list)), (1, .vl ρ1 4 (List.map encRule schedule)), (2, .int .i64 day), (3, .int .i64 act), (10, .sref b0 1 0 (List.length ([] : List Int))), (32, .bool ((((!y0) || (!y1)) || (!y2)) || (!y3)))]) (H0 := [(b0, ⟨1, List.map encInt ([] : List Int)⟩)]) rfl (⟨_, _, rfl, rfl, ⟨_, _, rfl, rfl, ⟨_, _, rfl, rfl, ⟨_, _, rfl, rfl, ⟨_, _, rfl, rfl, ⟨_, _, rfl, rfl, rfl⟩⟩⟩⟩⟩⟩) (⟨_, _, rfl, rfl, rfl⟩) rfl ?_
 refine V.cond rfl (fun hc0 => ?_) (fun hc0 => ?_)
 ·
  replace hm0 := cond_t hc0 hm0
  refine V.seq ?_
  refine V.region ?_
  refine VO.cons rfl (V1.move rfl rfl rfl (ltb rfl) ?_)
  refine VO.cons rfl (V1.assign rfl rfl rfl (ltb rfl) ?_)
  refine VO.cons rfl (V1.assign rfl rfl rfl (ltb rfl) ?_)
  refine VO.nil ?_
  refine V.keep 71 [8, 9] [0] (E0 := [(8, .sref b0 1 0 (List.length ([] : List Int))), (9, .bool false)]) (H0 := [(b0, ⟨1, List.map encInt ([] : List Int)⟩)]) rfl (⟨_, _, rfl, rfl, ⟨_, _, rfl, rfl, rfl⟩⟩) (⟨_, _, rfl, rfl, rfl⟩) rfl ?_
  refine V.ret ?_
  obtain rfl := Option.some.inj hm0
  exact ⟨_, _, ⟨_, _, rfl, rfl, ⟨_, _, rfl, rfl, rfl⟩⟩, List.Sublist.refl _, b0, rfl, rfl⟩
 ·
  replace hm0 := cond_f hc0 hm0
  refine V.skip ?_
  refine V.seq ?_
  refine V.seq ?_
  refine V.region ?_
  refine VO.cons rfl (V1.assign rfl rfl rfl (ltb rfl) ?_)
  refine VO.nil ?_
  replace hm0 := bindO hm0; rcases hm0 with ⟨e0, he1, hm0⟩
  refine V.cutT (D := (List Int) × (Nat)) (fun ⟨out_, b1⟩ => ⟨71, [(10, .sref b1 1 0 (List.length out_))], [(b1, ⟨1, List.map encInt out_⟩)]⟩) (fun ⟨out_, b1⟩ => (out_ = e0)) ?_ ?_
  ·
   refine V.block ?_
   refine V.keep 71 [10, 11, 0, 1, 2, 3] [0] (E0 := [(10, .sref b0 1 0 (List.length ([] : List Int))), (11, .int .i64 (0 : Int)), (0, .vl ρ0 4 (List.map (encRecord σ0) list)), (1, .vl ρ1 4 (List.map encRule schedule)), (2, .int .i64 day), (3, .int .i64 act)]) (H0 := [(b0, ⟨1, List.map encInt ([] : List Int)⟩)]) rfl (⟨_, _, rfl, rfl, ⟨_, _, rfl, rfl, ⟨_, _, rfl, rfl, ⟨_, _, rfl, rfl, ⟨_, _, rfl, rfl, ⟨_, _, rfl, rfl, rfl⟩⟩⟩⟩⟩⟩) (⟨_, _, rfl, rfl, rfl⟩) rfl ?_
   refine V.loopE (D := Nat × (List Int × Int) × (Nat)) (fun ⟨n0, ⟨out_0, i⟩, b2⟩ => [(10, .sref b2 1 0 (List.length out_0)), (11, .int .i64 i)]) (fun ⟨n0, ⟨out_0, i⟩, b2⟩ => [(b2, ⟨1, List.map encInt out_0⟩)]) (fun ⟨n0, ⟨out_0, i⟩, b2⟩ => loopO (M.spec_DueRecords_l0 list schedule day act) n0 (out_0, i) = some e0) (fun ⟨n0, _, _⟩ => n0) (rounds, (([] : List Int), (0 : Int)), b0) rfl he1 ?_
   rintro ⟨n0, ⟨out_0, i⟩, b2⟩ hP0
   obtain ⟨m0, y4, rfl, hm1, hl1, hr1⟩ := loop_head hP0
   unfold M.spec_DueRecords_l0 at hm1; dsimp only at hm1
   show V _ _ _ ⟨71, [(10, .sref b2 1 0 (List.length out_0)), (11, .int .i64 i), (0, .vl ρ0 4 (List.map (encRecord σ0) list)), (1, .vl ρ1 4 (List.map encRule schedule)), (2, .int .i64 day), (3, .int .i64 act)], [(b2, ⟨1, List.map encInt out_0⟩)]⟩
   refine V.seq ?_
   refine V.seq ?_
   refine V.region ?_
   refine VO.cons rfl (V1.move rfl rfl rfl (ltb rfl) ?_)
   refine VO.cons rfl (V1.move rfl rfl rfl (ltb rfl) ?_)
   refine VO.cons rfl (V1.lenMap rfl rfl rfl rfl rfl rfl isl_64 (ltb rfl) ?_)
   refine VO.cons rfl (V1.int rfl rfl rfl rfl rfl (ltb rfl) ?_)
   refine VO.nil ?_
   refine V.cond rfl (fun hc1 => ?_) (fun hc1 => ?_)
   ·
    replace hm1 := cond_t hc1 hm1
    refine V.skip ?_
    refine V.keep 71 [0, 1, 2, 3, 10, 11] [0] (E0 := [(0, .vl ρ0 4 (List.map (encRecord σ0) list)), (1, .vl ρ1 4 (List.map encRule schedule)), (2, .int .i64 day), (3, .int .i64 act), (10, .sref b2 1 0 (List.length out_0)), (11, .int .i64 i)]) (H0 := [(b2, ⟨1, List.map encInt out_0⟩)]) rfl (⟨_, _, rfl, rfl, ⟨_, _, rfl, rfl, ⟨_, _, rfl, rfl, ⟨_, _, rfl, rfl, ⟨_, _, rfl, rfl, ⟨_, _, rfl, rfl, rfl⟩⟩⟩⟩⟩⟩) (⟨_, _, rfl, rfl, rfl⟩) rfl ?_
    refine V.seq ?_
    replace hm1 := bindO hm1; rcases hm1 with ⟨j0, hm2, hm1⟩
    refine V.cutT (D := (List Int) × (Nat)) (fun ⟨out_1, b3⟩ => ⟨71, [(10, .sref b3 1 0 (List.length out_1)), (0, .vl ρ0 4 (List.map (encRecord σ0) list)), (1, .vl ρ1 4 (List.map encRule schedule)), (2, .int .i64 day), (3, .int .i64 act), (11, .int .i64 i)], [(b3, ⟨1, List.map encInt out_1⟩)]⟩) (fun ⟨out_1, b3⟩ => (out_1 = j0)) ?_ ?_
    ·
     refine V.block ?_
     refine V.seq ?_
     replace hm2 := asrt_some hm2; rcases hm2 with ⟨hh4, hm2⟩
     replace hm2 := bindO hm2; rcases hm2 with ⟨y5, hh5, hm2⟩
     refine V.region ?_
     refine VO.cons rfl (V1.move rfl rfl rfl (ltb rfl) ?_)
     refine VO.cons rfl (V1.move rfl rfl rfl (ltb rfl) ?_)
     refine VO.cons rfl (V1.indexI rfl rfl esz_64 rfl rfl hh4 (ltb rfl) ?_)
     refine VO.cons rfl (V1.loadPinAll rfl rfl tyk_26 rfl rfl (ltb rfl) ?_)
     refine VO.cons rfl (V1.move rfl rfl rfl (ltb rfl) ?_)
     refine VO.cons rfl (V1.call rfl rfl rfl cok_154 rfl (ok_spec_l6Deciding hh5) rfl (ltb rfl) ?_)
     rintro _ _ ⟨rfl, rfl⟩
     refine VO.cons rfl (V1.move rfl rfl rfl (ltb rfl) ?_)
     refine VO.cons rfl (V1.extract rfl rfl rfl rfl (ltb rfl) ?_)
     refine VO.cons rfl (V1.extract rfl rfl rfl rfl (ltb rfl) ?_)
     refine VO.cons rfl (V1.alloc rfl rfl zk_37 (ltb rfl) ?_)
     intro b4
     refine VO.cons rfl (V1.storeRefAll (k := 0) rfl rfl tyk_37 rfl rfl rfl rfl rfl rfl ?_)
     refine VO.cons rfl (V1.assign rfl rfl rfl (ltb rfl) ?_)
     refine VO.nil ?_
     refine V.keep 71 [0, 1, 2, 3, 10, 11, 12] [0, 1] (E0 := [(0, .vl ρ0 4 (List.map (encRecord σ0) list)), (1, .vl ρ1 4 (List.map encRule schedule)), (2, .int .i64 day), (3, .int .i64 act), (10, .sref b2 1 0 (List.length out_0)), (11, .int .i64 i), (12, .ref b4 4 0 0)]) (H0 := [(b4, ⟨4, [encRule y5.1]⟩), (b2, ⟨1, List.map encInt out_0⟩)]) rfl (⟨_, _, rfl, rfl, ⟨_, _, rfl, rfl, ⟨_, _, rfl, rfl, ⟨_, _, rfl, rfl, ⟨_, _, rfl, rfl, ⟨_, _, rfl, rfl, ⟨_, _, rfl, rfl, rfl⟩⟩⟩⟩⟩⟩⟩) (⟨_, _, rfl, rfl, ⟨_, _, rfl, rfl, rfl⟩⟩) rfl ?_
     refine V.seq ?_
     replace hm2 := asrt_some hm2; rcases hm2 with ⟨hh6, hm2⟩
     replace hm2 := bindO hm2; rcases hm2 with ⟨y6, hh7, hm2⟩
     refine V.region ?_
     refine VO.cons rfl (V1.fieldRef rfl rfl fo_37_3 rfl (ltb rfl) ?_)
     refine VO.cons rfl (V1.loadRef (k := 0) rfl rfl tyk_3 rfl rfl rfl rfl rfl (ltb rfl) ?_)
     refine VO.cons rfl (V1.move rfl rfl rfl (ltb rfl) ?_)
     refine VO.cons rfl (V1.int rfl rfl rfl rfl rfl (ltb rfl) ?_)
     refine VO.cons rfl (V1.move rfl rfl rfl (ltb rfl) ?_)
     apply VO.and (n := 7) rfl rfl rfl rfl rfl rfl (ltb rfl) (.none rfl)
     ·
      intro hg3
      refine VO.step (.some rfl rfl rfl) (V1.move rfl rfl rfl (ltb rfl) ?_)
      refine VO.step (.some rfl rfl rfl) (V1.move rfl rfl rfl (ltb rfl) ?_)
      refine VO.step (.some rfl rfl rfl) (V1.indexI rfl rfl esz_64 rfl rfl (hh6 hg3) (ltb rfl) ?_)
      refine VO.step (.some rfl rfl rfl) (V1.loadPinAll rfl rfl tyk_26 rfl rfl (ltb rfl) ?_)
      refine VO.step (.some rfl rfl rfl) (V1.move rfl rfl rfl (ltb rfl) ?_)
      refine VO.step (.some rfl rfl rfl) (V1.move rfl rfl rfl (ltb rfl) ?_)
      refine VO.step (.some rfl rfl rfl) (V1.call rfl rfl rfl cok_184 rfl (ok_spec_l6Due (cond_t hg3 hh7)) rfl (ltb rfl) ?_)
      rintro _ _ ⟨rfl, rfl⟩
      exact VO.nil ⟨rfl, rfl, rfl, rfl, .inr ⟨rfl, .inr ⟨rfl, .inr ⟨rfl, .inr ⟨rfl, .inr ⟨rfl, .inr ⟨rfl, .inr ⟨rfl, .inr ⟨rfl, .inl rfl⟩⟩⟩⟩⟩⟩⟩⟩⟩
     refine VO.nil ?_
     refine V.keep 71 [0, 1, 2, 3, 10, 11, 61] [1] (E0 := [(0, .vl ρ0 4 (List.map (encRecord σ0) list)), (1, .vl ρ1 4 (List.map encRule schedule)), (2, .int .i64 day), (3, .int .i64 act), (10, .sref b2 1 0 (List.length out_0)), (11, .int .i64 i), (61, .bool ((y5.1.Act == act) && y6))]) (H0 := [(b2, ⟨1, List.map encInt out_0⟩)]) rfl (⟨_, _, rfl, rfl, ⟨_, _, rfl, rfl, ⟨_, _, rfl, rfl, ⟨_, _, rfl, rfl, ⟨_, _, rfl, rfl, ⟨_, _, rfl, rfl, ⟨_, _, rfl, rfl, rfl⟩⟩⟩⟩⟩⟩⟩) (⟨_, _, rfl, rfl, rfl⟩) rfl ?_
     refine V.cond rfl (fun hc2 => ?_) (fun hc2 => ?_)
     ·
      replace hm2 := cond_t hc2 hm2
      replace hm2 := asrt_some hm2; rcases hm2 with ⟨hh8, hm2⟩
      replace hm2 := asrt_some hm2; rcases hm2 with ⟨hh9, hm2⟩
      refine V.region ?_
      refine VO.cons rfl (V1.move rfl rfl rfl (ltb rfl) ?_)
      refine VO.cons rfl (V1.move rfl rfl rfl (ltb rfl) ?_)
      refine VO.cons rfl (V1.move rfl rfl rfl (ltb rfl) ?_)
      refine VO.cons rfl (V1.indexI rfl rfl esz_64 rfl rfl hh8 (ltb rfl) ?_)
      refine VO.cons rfl (V1.fieldPin rfl rfl fo_26_0 rfl (ltb rfl) ?_)
      refine VO.cons rfl (V1.loadPin rfl rfl tyk_3 rfl rfl (ltb rfl) ?_)
      refine VO.cons rfl (V1.buildSliceT (f := encInt) ([(list.getD (Int.toNat i) default).Id] : List Int) rfl rfl esz_30 zk_3 rfl rfl rfl rfl rfl rfl rfl (ltb rfl) ?_)
      intro b5
      refine VO.cons rfl (V1.appendMap (k := 1) (f := encInt) (l := out_0) (m := ([(list.getD (Int.toNat i) default).Id] : List Int)) rfl rfl rfl rfl rfl esz_30 eby_30 zk_3 rfl rfl rfl (SrcOf.srMap (k := 0) rfl isl_30) hh9 (ltb rfl) ?_)
      intro b6
      refine VO.cons rfl (V1.assign rfl rfl rfl (ltb rfl) ?_)
      refine VO.nil ?_
      exact ⟨((out_0 ++ ([(list.getD (Int.toNat i) default).Id] : List Int)), b6), Option.some.inj hm2, Keeps.mk (ks := [0]) rfl ⟨rfl, rfl, rfl, rfl, rfl, rfl, trivial⟩ (⟨_, _, rfl, rfl, rfl⟩) rfl⟩
     ·
      replace hm2 := cond_f hc2 hm2
      refine V.skip ?_
      exact ⟨(out_0, b2), Option.some.inj hm2, Keeps.mk (ks := [0]) rfl ⟨rfl, rfl, rfl, rfl, rfl, rfl, trivial⟩ (⟨_, _, rfl, rfl, rfl⟩) rfl⟩
    ·
     rintro ⟨out_1, b3⟩ rfl
     try dsimp only at hm1
     refine V.region ?_
     refine VO.cons rfl (V1.move rfl rfl rfl (ltb rfl) ?_)
     refine VO.cons rfl (V1.int rfl rfl rfl rfl rfl (ltb rfl) ?_)
     refine VO.cons rfl (V1.assign rfl rfl rfl (ltb rfl) ?_)
     refine VO.nil ?_
     exact ⟨(m0, (out_1, (IntKind.i64.wrap (i + (1 : Int)))), b3), hl1 _ (Option.some.inj hm1).symm, Nat.lt_succ_self _, Keeps.mk (ks := [0]) rfl ⟨rfl, rfl, rfl, rfl, rfl, rfl, trivial⟩ (⟨_, _, rfl, rfl, rfl⟩) rfl⟩
   ·
    replace hm1 := cond_f hc1 hm1
    refine V.exit ?_
    obtain rfl := hr1 _ (Option.some.inj hm1).symm
    exact ⟨(out_0, b2), rfl, Keeps.mk (ks := [0]) rfl ⟨rfl, trivial⟩ (⟨_, _, rfl, rfl, rfl⟩) rfl⟩
  ·
   rintro ⟨out_, b1⟩ rfl
   try dsimp only at hm0
   refine V.seq ?_
   refine V.region ?_
   refine VO.cons rfl (V1.move rfl rfl rfl (ltb rfl) ?_)
   refine VO.cons rfl (V1.assign rfl rfl rfl (ltb rfl) ?_)
   refine VO.cons rfl (V1.assign rfl rfl rfl (ltb rfl) ?_)
   refine VO.nil ?_
   refine V.keep 71 [8, 9] [0] (E0 := [(8, .sref b1 1 0 (List.length out_)), (9, .bool true)]) (H0 := [(b1, ⟨1, List.map encInt out_⟩)]) rfl (⟨_, _, rfl, rfl, ⟨_, _, rfl, rfl, rfl⟩⟩) (⟨_, _, rfl, rfl, rfl⟩) rfl ?_
   refine V.ret ?_
   obtain rfl := Option.some.inj hm0
   exact ⟨_, _, ⟨_, _, rfl, rfl, ⟨_, _, rfl, rfl, rfl⟩⟩, List.Sublist.refl _, b1, rfl, rfl⟩

theorem ok_laws_vInts {ρ0 ρ1 rn : Nat} {a : List Int} {b_ : List Int} {r : Bool} (h : M.laws_vInts a b_ = some r) : Does Try.prog 16 [.vl ρ0 1 (List.map encInt a), .vl ρ1 1 (List.map encInt b_)] [] rn (fun x H => x = .bool r ∧ H = []) := by
 have hm0 := h; clear h; unfold M.laws_vInts at hm0
 try dsimp only at hm0
 refine Does.intro (N := 26) Try.func16 rfl rfl rfl rfl ?_
 intro w0 S0
 refine V.seq ?_
 refine V.region ?_
 refine VO.cons rfl (V1.assign rfl rfl rfl (ltb rfl) ?_)
 refine VO.nil ?_
 refine V.seq ?_
 refine V.seq ?_
 refine V.region ?_
 refine VO.cons rfl (V1.move rfl rfl rfl (ltb rfl) ?_)
 refine VO.cons rfl (V1.lenMap rfl rfl rfl rfl rfl rfl isl_30 (ltb rfl) ?_)
 refine VO.cons rfl (V1.move rfl rfl rfl (ltb rfl) ?_)
 refine VO.cons rfl (V1.lenMap rfl rfl rfl rfl rfl rfl isl_30 (ltb rfl) ?_)
 refine VO.cons rfl (V1.int rfl rfl rfl rfl rfl (ltb rfl) ?_)
 refine VO.nil ?_
 refine V.keep 26 [0, 1, 10] [] (E0 := [(0, .vl ρ0 1 (List.map encInt a)), (1, .vl ρ1 1 (List.map encInt b_)), (10, .bool ((a.length : Int) != (b_.length : Int)))]) (H0 := []) rfl (⟨_, _, rfl, rfl, ⟨_, _, rfl, rfl, ⟨_, _, rfl, rfl, rfl⟩⟩⟩) (rfl) rfl ?_
 refine V.cond rfl (fun hc0 => ?_) (fun hc0 => ?_)
 ·
  replace hm0 := cond_t hc0 hm0
  refine V.seq ?_
  refine V.region ?_
  refine VO.cons rfl (V1.assign rfl rfl rfl (ltb rfl) ?_)
  refine VO.nil ?_
  refine V.ret ?_
  obtain rfl := Option.some.inj hm0
  exact ⟨_, [], ⟨_, _, rfl, rfl, rfl⟩, List.nil_sublist _, rfl, rfl⟩
 ·
  replace hm0 := cond_f hc0 hm0
  refine V.skip ?_
  refine V.seq ?_
  refine V.seq ?_
  refine V.region ?_
  refine VO.cons rfl (V1.assign rfl rfl rfl (ltb rfl) ?_)
  refine VO.nil ?_
  replace hm0 := bindO hm0; rcases hm0 with ⟨e0, he1, hm0⟩
  refine V.cutT (D := (Unit) × (Unit)) (fun ⟨_, _⟩ => ⟨26, [], []⟩) (fun ⟨_, _⟩ => (.inl () = e0)) ?_ ?_
  ·
   refine V.block ?_
   refine V.keep 26 [5, 0, 1] [] (E0 := [(5, .int .i64 (0 : Int)), (0, .vl ρ0 1 (List.map encInt a)), (1, .vl ρ1 1 (List.map encInt b_))]) (H0 := []) rfl (⟨_, _, rfl, rfl, ⟨_, _, rfl, rfl, ⟨_, _, rfl, rfl, rfl⟩⟩⟩) (rfl) rfl ?_
   refine V.loopE (D := Nat × (Int) × (Unit)) (fun ⟨n0, i, _⟩ => [(5, .int .i64 i)]) (fun ⟨n0, i, _⟩ => []) (fun ⟨n0, i, _⟩ => loopO (M.laws_vInts_l0 a b_) n0 i = some e0) (fun ⟨n0, _, _⟩ => n0) (rounds, (0 : Int), ()) rfl he1 ?_
   rintro ⟨n0, i, _⟩ hP0
   obtain ⟨m0, y0, rfl, hm1, hl1, hr1⟩ := loop_head hP0
   unfold M.laws_vInts_l0 at hm1; dsimp only at hm1
   show V _ _ _ ⟨26, [(5, .int .i64 i), (0, .vl ρ0 1 (List.map encInt a)), (1, .vl ρ1 1 (List.map encInt b_))], []⟩
   refine V.seq ?_
   refine V.seq ?_
   refine V.region ?_
   refine VO.cons rfl (V1.move rfl rfl rfl (ltb rfl) ?_)
   refine VO.cons rfl (V1.move rfl rfl rfl (ltb rfl) ?_)
   refine VO.cons rfl (V1.lenMap rfl rfl rfl rfl rfl rfl isl_30 (ltb rfl) ?_)
   refine VO.cons rfl (V1.int rfl rfl rfl rfl rfl (ltb rfl) ?_)
   refine VO.nil ?_
   refine V.cond rfl (fun hc1 => ?_) (fun hc1 => ?_)
   ·
    replace hm1 := cond_t hc1 hm1
    refine V.skip ?_
    refine V.keep 26 [0, 1, 5] [] (E0 := [(0, .vl ρ0 1 (List.map encInt a)), (1, .vl ρ1 1 (List.map encInt b_)), (5, .int .i64 i)]) (H0 := []) rfl (⟨_, _, rfl, rfl, ⟨_, _, rfl, rfl, ⟨_, _, rfl, rfl, rfl⟩⟩⟩) (rfl) rfl ?_
    refine V.seq ?_
    refine V.block ?_
    refine V.seq ?_
    replace hm1 := asrt_some hm1; rcases hm1 with ⟨hh0, hm1⟩
    replace hm1 := asrt_some hm1; rcases hm1 with ⟨hh1, hm1⟩
    refine V.regionM 26 8 [⟨[(0, none)], [], none⟩, ⟨[(5, none)], [], none⟩, ⟨[(17, some 1), (18, some 0)], [], none⟩, ⟨[(19, some 0)], [], none⟩, ⟨[(1, none)], [], none⟩, ⟨[(5, none)], [], none⟩, ⟨[(21, some 1), (22, some 0)], [], none⟩, ⟨[(23, some 0)], [], none⟩] [(0, none), (1, none), (5, none), (20, some 4), (24, some 0)] (⟨_, rfl, ⟨_, rfl, ⟨_, rfl, ⟨_, rfl, ⟨_, rfl, ⟨_, rfl, ⟨_, rfl, ⟨_, rfl, ⟨rfl, rfl⟩⟩⟩⟩⟩⟩⟩⟩⟩) mixed_orders rfl (by decide +kernel) (fun hck6 => ?_)
    refine VP.step (p := ?pv65) rfl rfl rfl (⟨_, _, rfl, rfl, rfl⟩) ?hv65 ?rest65 hck6
    case hv65 =>
     intro E1
     refine (V1.move rfl rfl rfl (ltb rfl) ?_)
     exact rfl
    refine VP.step (p := ?pv66) rfl rfl rfl (⟨_, _, rfl, rfl, rfl⟩) ?hv66 ?rest66 hck6
    case hv66 =>
     intro E1
     refine (V1.move rfl rfl rfl (ltb rfl) ?_)
     exact rfl
    refine VP.step (p := ?pv67) rfl rfl rfl (⟨_, _, rfl, rfl, ⟨_, _, rfl, rfl, rfl⟩⟩) ?hv67 ?rest67 hck6
    case hv67 =>
     intro E1
     refine (V1.indexI rfl rfl esz_30 rfl rfl hh0 (ltb rfl) ?_)
     exact rfl
    refine VP.step (p := ?pv68) rfl rfl rfl (⟨_, _, rfl, rfl, rfl⟩) ?hv68 ?rest68 hck6
    case hv68 =>
     intro E1
     refine (V1.loadPin rfl rfl tyk_3 rfl rfl (ltb rfl) ?_)
     exact rfl
    refine VP.step (p := ?pv69) rfl rfl rfl (⟨_, _, rfl, rfl, rfl⟩) ?hv69 ?rest69 hck6
    case hv69 =>
     intro E1
     refine (V1.move rfl rfl rfl (ltb rfl) ?_)
     exact rfl
    refine VP.step (p := ?pv70) rfl rfl rfl (⟨_, _, rfl, rfl, rfl⟩) ?hv70 ?rest70 hck6
    case hv70 =>
     intro E1
     refine (V1.move rfl rfl rfl (ltb rfl) ?_)
     exact rfl
    refine VP.step (p := ?pv71) rfl rfl rfl (⟨_, _, rfl, rfl, ⟨_, _, rfl, rfl, rfl⟩⟩) ?hv71 ?rest71 hck6
    case hv71 =>
     intro E1
     refine (V1.indexI rfl rfl esz_30 rfl rfl hh1 (ltb rfl) ?_)
     exact rfl
    refine VP.step (p := ?pv72) rfl rfl rfl (⟨_, _, rfl, rfl, rfl⟩) ?hv72 ?rest72 hck6
    case hv72 =>
     intro E1
     refine (V1.loadPin rfl rfl tyk_3 rfl rfl (ltb rfl) ?_)
     exact rfl
    refine VP.fin rfl (⟨_, _, rfl, rfl, ⟨_, _, rfl, rfl, ⟨_, _, rfl, rfl, ⟨_, _, rfl, rfl, ⟨_, _, rfl, rfl, rfl⟩⟩⟩⟩⟩) ?_
    refine VO.cons rfl (V1.int rfl rfl rfl rfl rfl (ltb rfl) ?_)
    refine VO.nil ?_
    refine V.cond rfl (fun hc2 => ?_) (fun hc2 => ?_)
    ·
     replace hm1 := cond_t hc2 hm1
     refine V.seq ?_
     refine V.region ?_
     refine VO.cons rfl (V1.assign rfl rfl rfl (ltb rfl) ?_)
     refine VO.nil ?_
     refine V.ret ?_
     obtain rfl := hr1 _ (Option.some.inj hm1).symm
     change some _ = some _ at hm0
     obtain rfl := Option.some.inj hm0
     exact ⟨_, [], ⟨_, _, rfl, rfl, rfl⟩, List.nil_sublist _, rfl, rfl⟩
    ·
     replace hm1 := cond_f hc2 hm1
     refine V.skip ?_
     refine V.region ?_
     refine VO.cons rfl (V1.move rfl rfl rfl (ltb rfl) ?_)
     refine VO.cons rfl (V1.int rfl rfl rfl rfl rfl (ltb rfl) ?_)
     refine VO.cons rfl (V1.assign rfl rfl rfl (ltb rfl) ?_)
     refine VO.nil ?_
     exact ⟨(m0, (IntKind.i64.wrap (i + (1 : Int))), ()), hl1 _ (Option.some.inj hm1).symm, Nat.lt_succ_self _, Keeps.mk (ks := []) rfl ⟨rfl, rfl, rfl, trivial⟩ (rfl) rfl⟩
   ·
    replace hm1 := cond_f hc1 hm1
    refine V.exit ?_
    obtain rfl := hr1 _ (Option.some.inj hm1).symm
    exact ⟨((), ()), rfl, Keeps.mk (ks := []) rfl trivial (rfl) rfl⟩
  ·
   rintro ⟨_, _⟩ rfl
   try dsimp only at hm0
   refine V.seq ?_
   refine V.region ?_
   refine VO.cons rfl (V1.assign rfl rfl rfl (ltb rfl) ?_)
   refine VO.nil ?_
   refine V.ret ?_
   obtain rfl := Option.some.inj hm0
   exact ⟨_, [], ⟨_, _, rfl, rfl, rfl⟩, List.nil_sublist _, rfl, rfl⟩

theorem ok_spec_DrawNextDue {ρ0 rn : Nat} {code : List Int} {r : List Record × List Rule × Int} (h : M.spec_DrawNextDue code = some r) : Does Try.prog 49 [.vl ρ0 1 (List.map encU8 code)] [] rn (fun x H => ∃ (ob0_ : Nat) (ob1_ : Nat), x = .tup [PV.sref ob0_ 4 0 (List.length r.1), PV.sref ob1_ 4 0 (List.length r.2.1), .int .i64 r.2.2] ∧ H = [(ob0_, ⟨4, List.map (encRecord rn) r.1⟩)] ++ [(ob1_, ⟨4, List.map encRule r.2.1⟩)]) := by
 have hm0 := h; clear h; unfold M.spec_DrawNextDue at hm0
 try dsimp only at hm0
 refine Does.intro (N := 15) Try.func49 rfl rfl rfl rfl ?_
 intro w0 S0
 refine V.seq ?_
 refine V.region ?_
 refine VO.cons rfl (V1.assign rfl rfl rfl (ltb rfl) ?_)
 refine VO.cons rfl (V1.assign rfl rfl rfl (ltb rfl) ?_)
 refine VO.cons rfl (V1.assign rfl rfl rfl (ltb rfl) ?_)
 refine VO.nil ?_
 refine V.seq ?_
 refine V.region ?_
 refine VO.cons rfl (V1.move rfl rfl rfl (ltb rfl) ?_)
 refine VO.cons rfl (V1.build rfl rfl zk_163 pl_163 rfl rfl (ltb rfl) ?_)
 refine VO.cons rfl (V1.boxN (n := 3) rfl rfl rfl rfl rfl (ltb rfl) ?_)
 intro b0
 refine VO.cons rfl (V1.assign rfl rfl rfl (ltb rfl) ?_)
 refine VO.nil ?_
 refine V.keep 15 [5] [0] (E0 := [(5, .ref b0 3 0 0)]) (H0 := [(b0, ⟨3, [.agg [.vl ρ0 1 (List.map encU8 code), .int .i64 (0 : Int), .int .u64 (0 : Int)]]⟩)]) rfl (⟨_, _, rfl, rfl, rfl⟩) (⟨_, _, rfl, rfl, rfl⟩) rfl ?_
 refine V.seq ?_
 replace hm0 := bindO hm0; rcases hm0 with ⟨y0, hh0, hm0⟩
 replace hm0 := bindO hm0; rcases hm0 with ⟨y1, hh1, hm0⟩
 replace hm0 := bindO hm0; rcases hm0 with ⟨y2, hh2, hm0⟩
 refine V.region ?_
 refine VO.cons rfl (V1.move rfl rfl rfl (ltb rfl) ?_)
 refine VO.cons rfl (V1.callM 0 (rn + ρ0 + 1) [] [.ref b0 3 0 0] (p := (b0, ⟨3, [.agg [.vl ρ0 1 (List.map encU8 code), .int .i64 (0 : Int), .int .u64 (0 : Int)]]⟩)) rfl rfl rfl cok_185 rfl rfl ⟨_, _, rfl, .same _, rfl⟩ bwNil (ok_spec_l1Cur_held hh0) rfl (.inl rfl) (ltb rfl) ?_)
 rintro _ _ ⟨b1, rfl, rfl⟩
 refine VO.cons rfl (V1.move rfl rfl rfl (ltb rfl) ?_)
 refine VO.cons rfl (V1.callM 1 (rn + ρ0 + 1) [] [.ref b0 3 0 0] (p := (b0, ⟨3, [encCur ρ0 y0.2]⟩)) rfl rfl rfl cok_161 rfl rfl ⟨_, _, rfl, .same _, rfl⟩ bwNil (ok_spec_l1Cur_schedule hh1) rfl (.inl rfl) (ltb rfl) ?_)
 rintro _ _ ⟨b2, rfl, rfl⟩
 refine VO.cons rfl (V1.move rfl rfl rfl (ltb rfl) ?_)
 refine VO.cons rfl (V1.callM 1 (rn + ρ0 + 1) [] [.ref b0 3 0 0] (p := (b0, ⟨3, [encCur ρ0 y1.2]⟩)) rfl rfl rfl cok_182 rfl rfl ⟨_, _, rfl, .same _, rfl⟩ bwNil (ok_spec_l1Cur_day hh2) rfl (.inl rfl) (ltb rfl) ?_)
 rintro _ _ ⟨rfl, rfl⟩
 refine VO.cons rfl (V1.assign rfl rfl rfl (ltb rfl) ?_)
 refine VO.cons rfl (V1.assign rfl rfl rfl (ltb rfl) ?_)
 refine VO.cons rfl (V1.assign rfl rfl rfl (ltb rfl) ?_)
 refine VO.nil ?_
 refine V.keep 15 [2, 3, 4] [2, 1] (E0 := [(2, .sref b1 4 0 (List.length y0.1)), (3, .sref b2 4 0 (List.length y1.1)), (4, .int .i64 y2.1)]) (H0 := [(b1, ⟨4, List.map (encRecord rn) y0.1⟩), (b2, ⟨4, List.map encRule y1.1⟩)]) rfl (⟨_, _, rfl, rfl, ⟨_, _, rfl, rfl, ⟨_, _, rfl, rfl, rfl⟩⟩⟩) (⟨_, _, rfl, rfl, ⟨_, _, rfl, rfl, rfl⟩⟩) rfl ?_
 refine V.ret ?_
 obtain rfl := Option.some.inj hm0
 exact ⟨_, _, ⟨_, _, rfl, rfl, ⟨_, _, rfl, rfl, ⟨_, _, rfl, rfl, rfl⟩⟩⟩, List.Sublist.refl _, b1, b2, rfl, rfl⟩

theorem ok_impl_NextDue {ρ0 σ0 ρ1 rn : Nat} {list : List Record} {schedule : List Rule} {day : Int} {r : Int × Int × Bool} (h : M.impl_NextDue list schedule day = some r) : Does Try.prog 50 [.vl ρ0 4 (List.map (encRecord σ0) list), .vl ρ1 4 (List.map encRule schedule), .int .i64 day] [] rn (fun x H => x = .tup [.int .i64 r.1, .int .i64 r.2.1, .bool r.2.2] ∧ H = []) := by
 have hm0 := h; clear h; unfold M.impl_NextDue at hm0
 try dsimp only at hm0
 refine Does.intro (N := 61) Try.func50 rfl rfl rfl rfl ?_
 intro w0 S0
 refine V.seq ?_
 refine V.region ?_
 refine VO.cons rfl (V1.assign rfl rfl rfl (ltb rfl) ?_)
 refine VO.cons rfl (V1.assign rfl rfl rfl (ltb rfl) ?_)
 refine VO.cons rfl (V1.assign rfl rfl rfl (ltb rfl) ?_)
 refine VO.nil ?_
 refine V.seq ?_
 refine V.seq ?_
 replace hm0 := bindO hm0; rcases hm0 with ⟨y0, hh0, hm0⟩
 replace hm0 := bindO hm0; rcases hm0 with ⟨y1, hh1, hm0⟩
 refine V.region ?_
 refine VO.cons rfl (V1.move rfl rfl rfl (ltb rfl) ?_)
 refine VO.cons rfl (V1.move rfl rfl rfl (ltb rfl) ?_)
 refine VO.cons rfl (V1.call rfl rfl rfl cok_186 rfl (ok_impl_areAll hh0) rfl (ltb rfl) ?_)
 rintro _ _ ⟨rfl, rfl⟩
 refine VO.cons rfl (V1.not rfl rfl rfl (ltb rfl) ?_)
 refine VO.cons rfl (V1.move rfl rfl rfl (ltb rfl) ?_)
 apply VO.or (n := 3) rfl rfl rfl rfl rfl rfl (ltb rfl) (.none rfl)
 ·
  intro hg0
  refine VO.step (.some rfl rfl rfl) (V1.move rfl rfl rfl (ltb rfl) ?_)
  refine VO.step (.some rfl rfl rfl) (V1.call rfl rfl rfl cok_183 rfl (ok_impl_isDay (cond_f hg0 hh1)) rfl (ltb rfl) ?_)
  rintro _ _ ⟨rfl, rfl⟩
  refine VO.step (.some rfl rfl rfl) (V1.not rfl rfl rfl (ltb rfl) ?_)
  exact VO.nil ⟨rfl, rfl, rfl, rfl, .inr ⟨rfl, .inr ⟨rfl, .inr ⟨rfl, .inr ⟨rfl, .inl rfl⟩⟩⟩⟩⟩
 refine VO.nil ?_
 refine V.keep 61 [0, 1, 2, 24] [] (E0 := [(0, .vl ρ0 4 (List.map (encRecord σ0) list)), (1, .vl ρ1 4 (List.map encRule schedule)), (2, .int .i64 day), (24, .bool ((!y0) || (!y1)))]) (H0 := []) rfl (⟨_, _, rfl, rfl, ⟨_, _, rfl, rfl, ⟨_, _, rfl, rfl, ⟨_, _, rfl, rfl, rfl⟩⟩⟩⟩) (rfl) rfl ?_
 refine V.cond rfl (fun hc0 => ?_) (fun hc0 => ?_)
 ·
  replace hm0 := cond_t hc0 hm0
  refine V.seq ?_
  refine V.region ?_
  refine VO.cons rfl (V1.assign rfl rfl rfl (ltb rfl) ?_)
  refine VO.cons rfl (V1.assign rfl rfl rfl (ltb rfl) ?_)
  refine VO.cons rfl (V1.assign rfl rfl rfl (ltb rfl) ?_)
  refine VO.nil ?_
  refine V.ret ?_
  obtain rfl := Option.some.inj hm0
  exact ⟨_, [], ⟨_, _, rfl, rfl, ⟨_, _, rfl, rfl, ⟨_, _, rfl, rfl, rfl⟩⟩⟩, List.nil_sublist _, rfl, rfl⟩
 ·
  replace hm0 := cond_f hc0 hm0
  refine V.skip ?_
  refine V.seq ?_
  refine V.region ?_
  refine VO.cons rfl (V1.assign rfl rfl rfl (ltb rfl) ?_)
  refine VO.cons rfl (V1.assign rfl rfl rfl (ltb rfl) ?_)
  refine VO.nil ?_
  refine V.seq ?_
  refine V.seq ?_
  refine V.region ?_
  refine VO.cons rfl (V1.move rfl rfl rfl (ltb rfl) ?_)
  refine VO.cons rfl (V1.lenMap rfl rfl rfl rfl rfl rfl isl_64 (ltb rfl) ?_)
  refine VO.cons rfl (V1.move rfl rfl rfl (ltb rfl) ?_)
  refine VO.nil ?_
  replace hm0 := bindO hm0; rcases hm0 with ⟨e0, he1, hm0⟩
  refine V.cutT (D := (Int × Int) × (Unit)) (fun ⟨⟨id_, first⟩, _⟩ => ⟨61, [(9, .int .i64 id_), (10, .int .i64 first)], []⟩) (fun ⟨⟨id_, first⟩, _⟩ => ((id_, first) = e0)) ?_ ?_
  ·
   refine V.block ?_
   refine V.keep 61 [9, 10, 27, 1, 2, 25, 26] [] (E0 := [(9, .int .i64 (0 : Int)), (10, .int .i64 (0 : Int)), (27, .int .i64 (0 : Int)), (1, .vl ρ1 4 (List.map encRule schedule)), (2, .int .i64 day), (25, .vl ρ0 4 (List.map (encRecord σ0) list)), (26, .int .i64 (list.length : Int))]) (H0 := []) rfl (⟨_, _, rfl, rfl, ⟨_, _, rfl, rfl, ⟨_, _, rfl, rfl, ⟨_, _, rfl, rfl, ⟨_, _, rfl, rfl, ⟨_, _, rfl, rfl, ⟨_, _, rfl, rfl, rfl⟩⟩⟩⟩⟩⟩⟩) (rfl) rfl ?_
   refine V.loopE (D := Nat × (Int × Int × Int) × (Unit)) (fun ⟨n0, ⟨id_0, first0, v⟩, _⟩ => [(9, .int .i64 id_0), (10, .int .i64 first0), (27, .int .i64 v)]) (fun ⟨n0, ⟨id_0, first0, v⟩, _⟩ => []) (fun ⟨n0, ⟨id_0, first0, v⟩, _⟩ => loopO (M.impl_NextDue_l0 list schedule day) n0 (id_0, first0, v) = some e0) (fun ⟨n0, _, _⟩ => n0) (rounds, ((0 : Int), (0 : Int), (0 : Int)), ()) rfl he1 ?_
   rintro ⟨n0, ⟨id_0, first0, v⟩, _⟩ hP0
   obtain ⟨m0, y2, rfl, hm1, hl1, hr1⟩ := loop_head hP0
   unfold M.impl_NextDue_l0 at hm1; dsimp only at hm1
   show V _ _ _ ⟨61, [(9, .int .i64 id_0), (10, .int .i64 first0), (27, .int .i64 v), (1, .vl ρ1 4 (List.map encRule schedule)), (2, .int .i64 day), (25, .vl ρ0 4 (List.map (encRecord σ0) list)), (26, .int .i64 (list.length : Int))], []⟩
   refine V.seq ?_
   refine V.region ?_
   refine VO.cons rfl (V1.int rfl rfl rfl rfl rfl (ltb rfl) ?_)
   refine VO.nil ?_
   refine V.seq ?_
   refine V.cond rfl (fun hc1 => ?_) (fun hc1 => ?_)
   ·
    replace hm1 := cond_t hc1 hm1
    refine V.skip ?_
    refine V.seq ?_
    replace hm1 := bindO hm1; rcases hm1 with ⟨j0, hm2, hm1⟩
    refine V.cutT (D := (Int × Int) × (Unit)) (fun ⟨⟨id_1, first1⟩, _⟩ => ⟨61, [(9, .int .i64 id_1), (10, .int .i64 first1), (1, .vl ρ1 4 (List.map encRule schedule)), (2, .int .i64 day), (25, .vl ρ0 4 (List.map (encRecord σ0) list)), (26, .int .i64 (list.length : Int)), (27, .int .i64 v)], []⟩) (fun ⟨⟨id_1, first1⟩, _⟩ => ((id_1, first1) = j0)) ?_ ?_
    ·
     refine V.block ?_
     refine V.seq ?_
     replace hm2 := asrt_some hm2; rcases hm2 with ⟨hh2, hm2⟩
     refine V.region ?_
     refine VO.cons rfl (V1.indexI rfl rfl esz_64 rfl rfl hh2 (ltb rfl) ?_)
     refine VO.cons rfl (V1.loadPinAll rfl rfl tyk_26 rfl rfl (ltb rfl) ?_)
     refine VO.cons rfl (V1.alloc rfl rfl zk_26 (ltb rfl) ?_)
     intro b0
     refine VO.cons rfl (V1.storeRefAll (k := 0) rfl rfl tyk_26 rfl rfl rfl rfl rfl rfl ?_)
     refine VO.nil ?_
     refine V.seq ?_
     replace hm2 := bindO hm2; rcases hm2 with ⟨y3, hh3, hm2⟩
     refine V.region ?_
     refine VO.cons rfl (V1.loadRefAll (k := 0) rfl rfl tyk_26 rfl rfl rfl rfl rfl (ltb rfl) ?_)
     refine VO.cons rfl (V1.move rfl rfl rfl (ltb rfl) ?_)
     refine VO.cons rfl (V1.call rfl rfl rfl cok_153 rfl (ok_impl_deciding hh3) rfl (ltb rfl) ?_)
     rintro _ _ ⟨rfl, rfl⟩
     refine VO.cons rfl (V1.move rfl rfl rfl (ltb rfl) ?_)
     refine VO.cons rfl (V1.extract rfl rfl rfl rfl (ltb rfl) ?_)
     refine VO.cons rfl (V1.extract rfl rfl rfl rfl (ltb rfl) ?_)
     refine VO.cons rfl (V1.extract rfl rfl rfl rfl (ltb rfl) ?_)
     refine VO.cons rfl (V1.alloc rfl rfl zk_37 (ltb rfl) ?_)
     intro b1
     refine VO.cons rfl (V1.storeRefAll (k := 0) rfl rfl tyk_37 rfl rfl rfl rfl rfl rfl ?_)
     refine VO.cons rfl (V1.assign rfl rfl rfl (ltb rfl) ?_)
     refine VO.cons rfl (V1.assign rfl rfl rfl (ltb rfl) ?_)
     refine VO.nil ?_
     refine V.keep 61 [1, 2, 9, 10, 12, 14, 15, 25, 26, 27] [1] (E0 := [(1, .vl ρ1 4 (List.map encRule schedule)), (2, .int .i64 day), (9, .int .i64 id_0), (10, .int .i64 first0), (12, .ref b0 4 0 0), (14, .int .i64 y3.2.1), (15, .bool y3.2.2), (25, .vl ρ0 4 (List.map (encRecord σ0) list)), (26, .int .i64 (list.length : Int)), (27, .int .i64 v)]) (H0 := [(b0, ⟨4, [encRecord σ0 (list.getD (Int.toNat v) default)]⟩)]) rfl (⟨_, _, rfl, rfl, ⟨_, _, rfl, rfl, ⟨_, _, rfl, rfl, ⟨_, _, rfl, rfl, ⟨_, _, rfl, rfl, ⟨_, _, rfl, rfl, ⟨_, _, rfl, rfl, ⟨_, _, rfl, rfl, ⟨_, _, rfl, rfl, ⟨_, _, rfl, rfl, rfl⟩⟩⟩⟩⟩⟩⟩⟩⟩⟩) (⟨_, _, rfl, rfl, rfl⟩) rfl ?_
     refine V.seq ?_
     refine V.region ?_
     refine VO.cons rfl (V1.move rfl rfl rfl (ltb rfl) ?_)
     refine VO.cons rfl (V1.move rfl rfl rfl (ltb rfl) ?_)
     apply VO.and (n := 3) rfl rfl rfl rfl rfl rfl (ltb rfl) (.none rfl)
     ·
      intro hg1
      refine VO.step (.some rfl rfl rfl) (V1.move rfl rfl rfl (ltb rfl) ?_)
      refine VO.step (.some rfl rfl rfl) (V1.move rfl rfl rfl (ltb rfl) ?_)
      refine VO.step (.some rfl rfl rfl) (V1.int rfl rfl rfl rfl rfl (ltb rfl) ?_)
      exact VO.nil ⟨rfl, rfl, rfl, rfl, .inr ⟨rfl, .inr ⟨rfl, .inr ⟨rfl, .inr ⟨rfl, .inl rfl⟩⟩⟩⟩⟩
     refine VO.cons rfl (V1.move rfl rfl rfl (ltb rfl) ?_)
     apply VO.and (n := 7) rfl rfl rfl rfl rfl rfl (ltb rfl) (.none rfl)
     ·
      intro hg2
      refine VO.step (.some rfl rfl rfl) (V1.move rfl rfl rfl (ltb rfl) ?_)
      refine VO.step (.some rfl rfl rfl) (V1.int rfl rfl rfl rfl rfl (ltb rfl) ?_)
      refine VO.step (.some rfl rfl rfl) (V1.move rfl rfl rfl (ltb rfl) ?_)
      apply VO.or (n := 3) rfl rfl rfl rfl rfl rfl (ltb rfl) (.some rfl rfl rfl)
      ·
       intro hg3
       refine VO.step (.some rfl rfl rfl) (V1.move rfl rfl rfl (ltb rfl) ?_)
       refine VO.step (.some rfl rfl rfl) (V1.move rfl rfl rfl (ltb rfl) ?_)
       refine VO.step (.some rfl rfl rfl) (V1.int rfl rfl rfl rfl rfl (ltb rfl) ?_)
       exact VO.nil ⟨rfl, rfl, rfl, rfl, .inr ⟨rfl, .inr ⟨rfl, .inr ⟨rfl, .inr ⟨rfl, .inl rfl⟩⟩⟩⟩⟩
      exact VO.nil ⟨rfl, rfl, rfl, rfl, .inr ⟨rfl, .inr ⟨rfl, .inr ⟨rfl, .inr ⟨rfl, .inr ⟨rfl, .inl rfl⟩⟩⟩⟩⟩⟩
     refine VO.nil ?_
     refine V.keep 61 [1, 2, 9, 10, 12, 14, 25, 26, 27, 52] [0] (E0 := [(1, .vl ρ1 4 (List.map encRule schedule)), (2, .int .i64 day), (9, .int .i64 id_0), (10, .int .i64 first0), (12, .ref b0 4 0 0), (14, .int .i64 y3.2.1), (25, .vl ρ0 4 (List.map (encRecord σ0) list)), (26, .int .i64 (list.length : Int)), (27, .int .i64 v), (52, .bool ((y3.2.2 && (decide (y3.2.1 > day))) && ((id_0 == (0 : Int)) || (decide (y3.2.1 < first0)))))]) (H0 := [(b0, ⟨4, [encRecord σ0 (list.getD (Int.toNat v) default)]⟩)]) rfl (⟨_, _, rfl, rfl, ⟨_, _, rfl, rfl, ⟨_, _, rfl, rfl, ⟨_, _, rfl, rfl, ⟨_, _, rfl, rfl, ⟨_, _, rfl, rfl, ⟨_, _, rfl, rfl, ⟨_, _, rfl, rfl, ⟨_, _, rfl, rfl, ⟨_, _, rfl, rfl, rfl⟩⟩⟩⟩⟩⟩⟩⟩⟩⟩) (⟨_, _, rfl, rfl, rfl⟩) rfl ?_
     refine V.cond rfl (fun hc2 => ?_) (fun hc2 => ?_)
     ·
      replace hm2 := cond_t hc2 hm2
      refine V.region ?_
      refine VO.cons rfl (V1.fieldRef rfl rfl fo_26_0 rfl (ltb rfl) ?_)
      refine VO.cons rfl (V1.loadRef (k := 0) rfl rfl tyk_3 rfl rfl rfl rfl rfl (ltb rfl) ?_)
      refine VO.cons rfl (V1.move rfl rfl rfl (ltb rfl) ?_)
      refine VO.cons rfl (V1.assign rfl rfl rfl (ltb rfl) ?_)
      refine VO.cons rfl (V1.assign rfl rfl rfl (ltb rfl) ?_)
      refine VO.nil ?_
      exact ⟨(((list.getD (Int.toNat v) default).Id, y3.2.1), ()), Option.some.inj hm2, Keeps.mk (ks := []) rfl ⟨rfl, rfl, rfl, rfl, rfl, rfl, rfl, trivial⟩ (rfl) rfl⟩
     ·
      replace hm2 := cond_f hc2 hm2
      refine V.skip ?_
      exact ⟨((id_0, first0), ()), Option.some.inj hm2, Keeps.mk (ks := []) rfl ⟨rfl, rfl, rfl, rfl, rfl, rfl, rfl, trivial⟩ (rfl) rfl⟩
    ·
     rintro ⟨⟨id_1, first1⟩, _⟩ rfl
     try dsimp only at hm1
     refine V.region ?_
     refine VO.cons rfl (V1.int rfl rfl rfl rfl rfl (ltb rfl) ?_)
     refine VO.cons rfl (V1.move rfl rfl rfl (ltb rfl) ?_)
     refine VO.nil ?_
     exact ⟨(m0, (id_1, first1, (IntKind.i64.wrap (v + (1 : Int)))), ()), hl1 _ (Option.some.inj hm1).symm, Nat.lt_succ_self _, Keeps.mk (ks := []) rfl ⟨rfl, rfl, rfl, rfl, rfl, rfl, rfl, trivial⟩ (rfl) rfl⟩
   ·
    replace hm1 := cond_f hc1 hm1
    refine V.exit ?_
    obtain rfl := hr1 _ (Option.some.inj hm1).symm
    exact ⟨((id_0, first0), ()), rfl, Keeps.mk (ks := []) rfl ⟨rfl, rfl, trivial⟩ (rfl) rfl⟩
  ·
   rintro ⟨⟨id_, first⟩, _⟩ rfl
   try dsimp only at hm0
   refine V.seq ?_
   refine V.region ?_
   refine VO.cons rfl (V1.move rfl rfl rfl (ltb rfl) ?_)
   refine VO.cons rfl (V1.move rfl rfl rfl (ltb rfl) ?_)
   refine VO.cons rfl (V1.move rfl rfl rfl (ltb rfl) ?_)
   refine VO.cons rfl (V1.int rfl rfl rfl rfl rfl (ltb rfl) ?_)
   refine VO.cons rfl (V1.assign rfl rfl rfl (ltb rfl) ?_)
   refine VO.cons rfl (V1.assign rfl rfl rfl (ltb rfl) ?_)
   refine VO.cons rfl (V1.assign rfl rfl rfl (ltb rfl) ?_)
   refine VO.nil ?_
   refine V.ret ?_
   obtain rfl := Option.some.inj hm0
   exact ⟨_, [], ⟨_, _, rfl, rfl, ⟨_, _, rfl, rfl, ⟨_, _, rfl, rfl, rfl⟩⟩⟩, List.nil_sublist _, rfl, rfl⟩

theorem ok_spec_NextDue {ρ0 σ0 ρ1 rn : Nat} {list : List Record} {schedule : List Rule} {day : Int} {r : Int × Int × Bool} (h : M.spec_NextDue list schedule day = some r) : Does Try.prog 51 [.vl ρ0 4 (List.map (encRecord σ0) list), .vl ρ1 4 (List.map encRule schedule), .int .i64 day] [] rn (fun x H => x = .tup [.int .i64 r.1, .int .i64 r.2.1, .bool r.2.2] ∧ H = []) := by
 have hm0 := h; clear h; unfold M.spec_NextDue at hm0
 try dsimp only at hm0
 refine Does.intro (N := 64) Try.func51 rfl rfl rfl rfl ?_
 intro w0 S0
 refine V.seq ?_
 refine V.region ?_
 refine VO.cons rfl (V1.assign rfl rfl rfl (ltb rfl) ?_)
 refine VO.cons rfl (V1.assign rfl rfl rfl (ltb rfl) ?_)
 refine VO.cons rfl (V1.assign rfl rfl rfl (ltb rfl) ?_)
 refine VO.nil ?_
 refine V.seq ?_
 refine V.seq ?_
 replace hm0 := bindO hm0; rcases hm0 with ⟨y0, hh0, hm0⟩
 replace hm0 := bindO hm0; rcases hm0 with ⟨y1, hh1, hm0⟩
 replace hm0 := bindO hm0; rcases hm0 with ⟨y2, hh2, hm0⟩
 refine V.region ?_
 refine VO.cons rfl (V1.move rfl rfl rfl (ltb rfl) ?_)
 refine VO.cons rfl (V1.call rfl rfl rfl cok_187 rfl (ok_spec_l2Records hh0) rfl (ltb rfl) ?_)
 rintro _ _ ⟨rfl, rfl⟩
 refine VO.cons rfl (V1.not rfl rfl rfl (ltb rfl) ?_)
 refine VO.cons rfl (V1.move rfl rfl rfl (ltb rfl) ?_)
 apply VO.or (n := 3) rfl rfl rfl rfl rfl rfl (ltb rfl) (.none rfl)
 ·
  intro hg0
  refine VO.step (.some rfl rfl rfl) (V1.move rfl rfl rfl (ltb rfl) ?_)
  refine VO.step (.some rfl rfl rfl) (V1.call rfl rfl rfl cok_160 rfl (ok_spec_l4Good (cond_f hg0 hh1)) rfl (ltb rfl) ?_)
  rintro _ _ ⟨rfl, rfl⟩
  refine VO.step (.some rfl rfl rfl) (V1.not rfl rfl rfl (ltb rfl) ?_)
  exact VO.nil ⟨rfl, rfl, rfl, rfl, .inr ⟨rfl, .inr ⟨rfl, .inr ⟨rfl, .inr ⟨rfl, .inl rfl⟩⟩⟩⟩⟩
 refine VO.cons rfl (V1.move rfl rfl rfl (ltb rfl) ?_)
 apply VO.or (n := 3) rfl rfl rfl rfl rfl rfl (ltb rfl) (.none rfl)
 ·
  intro hg1
  refine VO.step (.some rfl rfl rfl) (V1.move rfl rfl rfl (ltb rfl) ?_)
  refine VO.step (.some rfl rfl rfl) (V1.call rfl rfl rfl cok_181 rfl (ok_spec_l2Day (cond_f hg1 hh2)) rfl (ltb rfl) ?_)
  rintro _ _ ⟨rfl, rfl⟩
  refine VO.step (.some rfl rfl rfl) (V1.not rfl rfl rfl (ltb rfl) ?_)
  exact VO.nil ⟨rfl, rfl, rfl, rfl, .inr ⟨rfl, .inr ⟨rfl, .inr ⟨rfl, .inr ⟨rfl, .inl rfl⟩⟩⟩⟩⟩
 refine VO.nil ?_
 refine V.keep 64 [0, 1, 2, 26] [] (E0 := [(0, .vl ρ0 4 (List.map (encRecord σ0) list)), (1, .vl ρ1 4 (List.map encRule schedule)), (2, .int .i64 day), (26, .bool (((!y0) || (!y1)) || (!y2)))]) (H0 := []) rfl (⟨_, _, rfl, rfl, ⟨_, _, rfl, rfl, ⟨_, _, rfl, rfl, ⟨_, _, rfl, rfl, rfl⟩⟩⟩⟩) (rfl) rfl ?_
 refine V.cond rfl (fun hc0 => ?_) (fun hc0 => ?_)
 ·
  replace hm0 := cond_t hc0 hm0
  refine V.seq ?_
  refine V.region ?_
  refine VO.cons rfl (V1.assign rfl rfl rfl (ltb rfl) ?_)
  refine VO.cons rfl (V1.assign rfl rfl rfl (ltb rfl) ?_)
  refine VO.cons rfl (V1.assign rfl rfl rfl (ltb rfl) ?_)
  refine VO.nil ?_
  refine V.ret ?_
  obtain rfl := Option.some.inj hm0
  exact ⟨_, [], ⟨_, _, rfl, rfl, ⟨_, _, rfl, rfl, ⟨_, _, rfl, rfl, rfl⟩⟩⟩, List.nil_sublist _, rfl, rfl⟩
 ·
  replace hm0 := cond_f hc0 hm0
  refine V.skip ?_
  refine V.seq ?_
  refine V.region ?_
  refine VO.cons rfl (V1.assign rfl rfl rfl (ltb rfl) ?_)
  refine VO.cons rfl (V1.assign rfl rfl rfl (ltb rfl) ?_)
  refine VO.nil ?_
  refine V.seq ?_
  refine V.seq ?_
  refine V.region ?_
  refine VO.cons rfl (V1.assign rfl rfl rfl (ltb rfl) ?_)
  refine VO.nil ?_
  replace hm0 := bindO hm0; rcases hm0 with ⟨e0, he1, hm0⟩
  refine V.cutT (D := (Int × Int) × (Unit)) (fun ⟨⟨best, least⟩, _⟩ => ⟨64, [(9, .int .i64 best), (10, .int .i64 least)], []⟩) (fun ⟨⟨best, least⟩, _⟩ => ((best, least) = e0)) ?_ ?_
  ·
   refine V.block ?_
   refine V.keep 64 [9, 10, 11, 0, 1, 2] [] (E0 := [(9, .int .i64 (0 : Int)), (10, .int .i64 (-1 : Int)), (11, .int .i64 (0 : Int)), (0, .vl ρ0 4 (List.map (encRecord σ0) list)), (1, .vl ρ1 4 (List.map encRule schedule)), (2, .int .i64 day)]) (H0 := []) rfl (⟨_, _, rfl, rfl, ⟨_, _, rfl, rfl, ⟨_, _, rfl, rfl, ⟨_, _, rfl, rfl, ⟨_, _, rfl, rfl, ⟨_, _, rfl, rfl, rfl⟩⟩⟩⟩⟩⟩) (rfl) rfl ?_
   refine V.loopE (D := Nat × (Int × Int × Int) × (Unit)) (fun ⟨n0, ⟨best0, least0, i⟩, _⟩ => [(9, .int .i64 best0), (10, .int .i64 least0), (11, .int .i64 i)]) (fun ⟨n0, ⟨best0, least0, i⟩, _⟩ => []) (fun ⟨n0, ⟨best0, least0, i⟩, _⟩ => loopO (M.spec_NextDue_l0 list schedule day) n0 (best0, least0, i) = some e0) (fun ⟨n0, _, _⟩ => n0) (rounds, ((0 : Int), (-1 : Int), (0 : Int)), ()) rfl he1 ?_
   rintro ⟨n0, ⟨best0, least0, i⟩, _⟩ hP0
   obtain ⟨m0, y3, rfl, hm1, hl1, hr1⟩ := loop_head hP0
   unfold M.spec_NextDue_l0 at hm1; dsimp only at hm1
   show V _ _ _ ⟨64, [(9, .int .i64 best0), (10, .int .i64 least0), (11, .int .i64 i), (0, .vl ρ0 4 (List.map (encRecord σ0) list)), (1, .vl ρ1 4 (List.map encRule schedule)), (2, .int .i64 day)], []⟩
   refine V.seq ?_
   refine V.seq ?_
   refine V.region ?_
   refine VO.cons rfl (V1.move rfl rfl rfl (ltb rfl) ?_)
   refine VO.cons rfl (V1.move rfl rfl rfl (ltb rfl) ?_)
   refine VO.cons rfl (V1.lenMap rfl rfl rfl rfl rfl rfl isl_64 (ltb rfl) ?_)
   refine VO.cons rfl (V1.int rfl rfl rfl rfl rfl (ltb rfl) ?_)
   refine VO.nil ?_
   refine V.cond rfl (fun hc1 => ?_) (fun hc1 => ?_)
   ·
    replace hm1 := cond_t hc1 hm1
    refine V.skip ?_
    refine V.keep 64 [0, 1, 2, 9, 10, 11] [] (E0 := [(0, .vl ρ0 4 (List.map (encRecord σ0) list)), (1, .vl ρ1 4 (List.map encRule schedule)), (2, .int .i64 day), (9, .int .i64 best0), (10, .int .i64 least0), (11, .int .i64 i)]) (H0 := []) rfl (⟨_, _, rfl, rfl, ⟨_, _, rfl, rfl, ⟨_, _, rfl, rfl, ⟨_, _, rfl, rfl, ⟨_, _, rfl, rfl, ⟨_, _, rfl, rfl, rfl⟩⟩⟩⟩⟩⟩) (rfl) rfl ?_
    refine V.seq ?_
    replace hm1 := bindO hm1; rcases hm1 with ⟨j0, hm2, hm1⟩
    refine V.cutT (D := (Int × Int) × (Unit)) (fun ⟨⟨best1, least1⟩, _⟩ => ⟨64, [(9, .int .i64 best1), (10, .int .i64 least1), (0, .vl ρ0 4 (List.map (encRecord σ0) list)), (1, .vl ρ1 4 (List.map encRule schedule)), (2, .int .i64 day), (11, .int .i64 i)], []⟩) (fun ⟨⟨best1, least1⟩, _⟩ => ((best1, least1) = j0)) ?_ ?_
    ·
     refine V.block ?_
     refine V.seq ?_
     replace hm2 := asrt_some hm2; rcases hm2 with ⟨hh3, hm2⟩
     replace hm2 := bindO hm2; rcases hm2 with ⟨y4, hh4, hm2⟩
     refine V.region ?_
     refine VO.cons rfl (V1.move rfl rfl rfl (ltb rfl) ?_)
     refine VO.cons rfl (V1.move rfl rfl rfl (ltb rfl) ?_)
     refine VO.cons rfl (V1.indexI rfl rfl esz_64 rfl rfl hh3 (ltb rfl) ?_)
     refine VO.cons rfl (V1.loadPinAll rfl rfl tyk_26 rfl rfl (ltb rfl) ?_)
     refine VO.cons rfl (V1.move rfl rfl rfl (ltb rfl) ?_)
     refine VO.cons rfl (V1.call rfl rfl rfl cok_154 rfl (ok_spec_l6Deciding hh4) rfl (ltb rfl) ?_)
     rintro _ _ ⟨rfl, rfl⟩
     refine VO.cons rfl (V1.move rfl rfl rfl (ltb rfl) ?_)
     refine VO.cons rfl (V1.extract rfl rfl rfl rfl (ltb rfl) ?_)
     refine VO.cons rfl (V1.extract rfl rfl rfl rfl (ltb rfl) ?_)
     refine VO.cons rfl (V1.alloc rfl rfl zk_37 (ltb rfl) ?_)
     intro b0
     refine VO.cons rfl (V1.storeRefAll (k := 0) rfl rfl tyk_37 rfl rfl rfl rfl rfl rfl ?_)
     refine VO.cons rfl (V1.assign rfl rfl rfl (ltb rfl) ?_)
     refine VO.nil ?_
     refine V.keep 64 [0, 1, 2, 9, 10, 11, 13] [] (E0 := [(0, .vl ρ0 4 (List.map (encRecord σ0) list)), (1, .vl ρ1 4 (List.map encRule schedule)), (2, .int .i64 day), (9, .int .i64 best0), (10, .int .i64 least0), (11, .int .i64 i), (13, .int .i64 y4.2)]) (H0 := []) rfl (⟨_, _, rfl, rfl, ⟨_, _, rfl, rfl, ⟨_, _, rfl, rfl, ⟨_, _, rfl, rfl, ⟨_, _, rfl, rfl, ⟨_, _, rfl, rfl, ⟨_, _, rfl, rfl, rfl⟩⟩⟩⟩⟩⟩⟩) (rfl) rfl ?_
     refine V.seq ?_
     refine V.region ?_
     refine VO.cons rfl (V1.move rfl rfl rfl (ltb rfl) ?_)
     refine VO.cons rfl (V1.move rfl rfl rfl (ltb rfl) ?_)
     refine VO.cons rfl (V1.int rfl rfl rfl rfl rfl (ltb rfl) ?_)
     refine VO.cons rfl (V1.move rfl rfl rfl (ltb rfl) ?_)
     apply VO.and (n := 7) rfl rfl rfl rfl rfl rfl (ltb rfl) (.none rfl)
     ·
      intro hg2
      refine VO.step (.some rfl rfl rfl) (V1.move rfl rfl rfl (ltb rfl) ?_)
      refine VO.step (.some rfl rfl rfl) (V1.int rfl rfl rfl rfl rfl (ltb rfl) ?_)
      refine VO.step (.some rfl rfl rfl) (V1.move rfl rfl rfl (ltb rfl) ?_)
      apply VO.or (n := 3) rfl rfl rfl rfl rfl rfl (ltb rfl) (.some rfl rfl rfl)
      ·
       intro hg3
       refine VO.step (.some rfl rfl rfl) (V1.move rfl rfl rfl (ltb rfl) ?_)
       refine VO.step (.some rfl rfl rfl) (V1.move rfl rfl rfl (ltb rfl) ?_)
       refine VO.step (.some rfl rfl rfl) (V1.int rfl rfl rfl rfl rfl (ltb rfl) ?_)
       exact VO.nil ⟨rfl, rfl, rfl, rfl, .inr ⟨rfl, .inr ⟨rfl, .inr ⟨rfl, .inr ⟨rfl, .inl rfl⟩⟩⟩⟩⟩
      exact VO.nil ⟨rfl, rfl, rfl, rfl, .inr ⟨rfl, .inr ⟨rfl, .inr ⟨rfl, .inr ⟨rfl, .inr ⟨rfl, .inl rfl⟩⟩⟩⟩⟩⟩
     refine VO.nil ?_
     refine V.keep 64 [0, 1, 2, 9, 10, 11, 13, 53] [] (E0 := [(0, .vl ρ0 4 (List.map (encRecord σ0) list)), (1, .vl ρ1 4 (List.map encRule schedule)), (2, .int .i64 day), (9, .int .i64 best0), (10, .int .i64 least0), (11, .int .i64 i), (13, .int .i64 y4.2), (53, .bool ((decide (y4.2 > day)) && ((decide (least0 < (0 : Int))) || (decide (y4.2 < least0)))))]) (H0 := []) rfl (⟨_, _, rfl, rfl, ⟨_, _, rfl, rfl, ⟨_, _, rfl, rfl, ⟨_, _, rfl, rfl, ⟨_, _, rfl, rfl, ⟨_, _, rfl, rfl, ⟨_, _, rfl, rfl, ⟨_, _, rfl, rfl, rfl⟩⟩⟩⟩⟩⟩⟩⟩) (rfl) rfl ?_
     refine V.cond rfl (fun hc2 => ?_) (fun hc2 => ?_)
     ·
      replace hm2 := cond_t hc2 hm2
      refine V.seq ?_
      replace hm2 := asrt_some hm2; rcases hm2 with ⟨hh5, hm2⟩
      refine V.region ?_
      refine VO.cons rfl (V1.move rfl rfl rfl (ltb rfl) ?_)
      refine VO.cons rfl (V1.move rfl rfl rfl (ltb rfl) ?_)
      refine VO.cons rfl (V1.indexI rfl rfl esz_64 rfl rfl hh5 (ltb rfl) ?_)
      refine VO.cons rfl (V1.fieldPin rfl rfl fo_26_0 rfl (ltb rfl) ?_)
      refine VO.cons rfl (V1.loadPin rfl rfl tyk_3 rfl rfl (ltb rfl) ?_)
      refine VO.cons rfl (V1.assign rfl rfl rfl (ltb rfl) ?_)
      refine VO.nil ?_
      refine V.keep 64 [0, 1, 2, 9, 11, 13] [] (E0 := [(0, .vl ρ0 4 (List.map (encRecord σ0) list)), (1, .vl ρ1 4 (List.map encRule schedule)), (2, .int .i64 day), (9, .int .i64 ((list.getD (Int.toNat i) default).Id)), (11, .int .i64 i), (13, .int .i64 y4.2)]) (H0 := []) rfl (⟨_, _, rfl, rfl, ⟨_, _, rfl, rfl, ⟨_, _, rfl, rfl, ⟨_, _, rfl, rfl, ⟨_, _, rfl, rfl, ⟨_, _, rfl, rfl, rfl⟩⟩⟩⟩⟩⟩) (rfl) rfl ?_
      refine V.region ?_
      refine VO.cons rfl (V1.move rfl rfl rfl (ltb rfl) ?_)
      refine VO.cons rfl (V1.assign rfl rfl rfl (ltb rfl) ?_)
      refine VO.nil ?_
      exact ⟨(((list.getD (Int.toNat i) default).Id, y4.2), ()), Option.some.inj hm2, Keeps.mk (ks := []) rfl ⟨rfl, rfl, rfl, rfl, rfl, rfl, trivial⟩ (rfl) rfl⟩
     ·
      replace hm2 := cond_f hc2 hm2
      refine V.skip ?_
      exact ⟨((best0, least0), ()), Option.some.inj hm2, Keeps.mk (ks := []) rfl ⟨rfl, rfl, rfl, rfl, rfl, rfl, trivial⟩ (rfl) rfl⟩
    ·
     rintro ⟨⟨best1, least1⟩, _⟩ rfl
     try dsimp only at hm1
     refine V.region ?_
     refine VO.cons rfl (V1.move rfl rfl rfl (ltb rfl) ?_)
     refine VO.cons rfl (V1.int rfl rfl rfl rfl rfl (ltb rfl) ?_)
     refine VO.cons rfl (V1.assign rfl rfl rfl (ltb rfl) ?_)
     refine VO.nil ?_
     exact ⟨(m0, (best1, least1, (IntKind.i64.wrap (i + (1 : Int)))), ()), hl1 _ (Option.some.inj hm1).symm, Nat.lt_succ_self _, Keeps.mk (ks := []) rfl ⟨rfl, rfl, rfl, rfl, rfl, rfl, trivial⟩ (rfl) rfl⟩
   ·
    replace hm1 := cond_f hc1 hm1
    refine V.exit ?_
    obtain rfl := hr1 _ (Option.some.inj hm1).symm
    exact ⟨((best0, least0), ()), rfl, Keeps.mk (ks := []) rfl ⟨rfl, rfl, trivial⟩ (rfl) rfl⟩
  ·
   rintro ⟨⟨best, least⟩, _⟩ rfl
   try dsimp only at hm0
   refine V.seq ?_
   refine V.seq ?_
   refine V.region ?_
   refine VO.cons rfl (V1.move rfl rfl rfl (ltb rfl) ?_)
   refine VO.cons rfl (V1.int rfl rfl rfl rfl rfl (ltb rfl) ?_)
   refine VO.nil ?_
   refine V.cond rfl (fun hc3 => ?_) (fun hc3 => ?_)
   ·
    replace hm0 := cond_t hc3 hm0
    refine V.seq ?_
    refine V.region ?_
    refine VO.cons rfl (V1.assign rfl rfl rfl (ltb rfl) ?_)
    refine VO.cons rfl (V1.assign rfl rfl rfl (ltb rfl) ?_)
    refine VO.cons rfl (V1.assign rfl rfl rfl (ltb rfl) ?_)
    refine VO.nil ?_
    refine V.ret ?_
    obtain rfl := Option.some.inj hm0
    exact ⟨_, [], ⟨_, _, rfl, rfl, ⟨_, _, rfl, rfl, ⟨_, _, rfl, rfl, rfl⟩⟩⟩, List.nil_sublist _, rfl, rfl⟩
   ·
    replace hm0 := cond_f hc3 hm0
    refine V.skip ?_
    refine V.seq ?_
    refine V.region ?_
    refine VO.cons rfl (V1.move rfl rfl rfl (ltb rfl) ?_)
    refine VO.cons rfl (V1.move rfl rfl rfl (ltb rfl) ?_)
    refine VO.cons rfl (V1.assign rfl rfl rfl (ltb rfl) ?_)
    refine VO.cons rfl (V1.assign rfl rfl rfl (ltb rfl) ?_)
    refine VO.cons rfl (V1.assign rfl rfl rfl (ltb rfl) ?_)
    refine VO.nil ?_
    refine V.ret ?_
    obtain rfl := Option.some.inj hm0
    exact ⟨_, [], ⟨_, _, rfl, rfl, ⟨_, _, rfl, rfl, ⟨_, _, rfl, rfl, rfl⟩⟩⟩, List.nil_sublist _, rfl, rfl⟩

theorem ok_spec_DrawNotScheduled {ρ0 rn : Nat} {code : List Int} {r : List Record × List Rule} (h : M.spec_DrawNotScheduled code = some r) : Does Try.prog 52 [.vl ρ0 1 (List.map encU8 code)] [] rn (fun x H => ∃ (ob0_ : Nat) (ob1_ : Nat), x = .tup [PV.sref ob0_ 4 0 (List.length r.1), PV.sref ob1_ 4 0 (List.length r.2)] ∧ H = [(ob0_, ⟨4, List.map (encRecord rn) r.1⟩)] ++ [(ob1_, ⟨4, List.map encRule r.2⟩)]) := by
 have hm0 := h; clear h; unfold M.spec_DrawNotScheduled at hm0
 try dsimp only at hm0
 refine Does.intro (N := 12) Try.func52 rfl rfl rfl rfl ?_
 intro w0 S0
 refine V.seq ?_
 refine V.region ?_
 refine VO.cons rfl (V1.assign rfl rfl rfl (ltb rfl) ?_)
 refine VO.cons rfl (V1.assign rfl rfl rfl (ltb rfl) ?_)
 refine VO.nil ?_
 refine V.seq ?_
 refine V.region ?_
 refine VO.cons rfl (V1.move rfl rfl rfl (ltb rfl) ?_)
 refine VO.cons rfl (V1.build rfl rfl zk_163 pl_163 rfl rfl (ltb rfl) ?_)
 refine VO.cons rfl (V1.boxN (n := 3) rfl rfl rfl rfl rfl (ltb rfl) ?_)
 intro b0
 refine VO.cons rfl (V1.assign rfl rfl rfl (ltb rfl) ?_)
 refine VO.nil ?_
 refine V.keep 12 [4] [0] (E0 := [(4, .ref b0 3 0 0)]) (H0 := [(b0, ⟨3, [.agg [.vl ρ0 1 (List.map encU8 code), .int .i64 (0 : Int), .int .u64 (0 : Int)]]⟩)]) rfl (⟨_, _, rfl, rfl, rfl⟩) (⟨_, _, rfl, rfl, rfl⟩) rfl ?_
 refine V.seq ?_
 replace hm0 := bindO hm0; rcases hm0 with ⟨y0, hh0, hm0⟩
 replace hm0 := bindO hm0; rcases hm0 with ⟨y1, hh1, hm0⟩
 refine V.region ?_
 refine VO.cons rfl (V1.move rfl rfl rfl (ltb rfl) ?_)
 refine VO.cons rfl (V1.callM 0 (rn + ρ0 + 1) [] [.ref b0 3 0 0] (p := (b0, ⟨3, [.agg [.vl ρ0 1 (List.map encU8 code), .int .i64 (0 : Int), .int .u64 (0 : Int)]]⟩)) rfl rfl rfl cok_185 rfl rfl ⟨_, _, rfl, .same _, rfl⟩ bwNil (ok_spec_l1Cur_held hh0) rfl (.inl rfl) (ltb rfl) ?_)
 rintro _ _ ⟨b1, rfl, rfl⟩
 refine VO.cons rfl (V1.move rfl rfl rfl (ltb rfl) ?_)
 refine VO.cons rfl (V1.callM 1 (rn + ρ0 + 1) [] [.ref b0 3 0 0] (p := (b0, ⟨3, [encCur ρ0 y0.2]⟩)) rfl rfl rfl cok_161 rfl rfl ⟨_, _, rfl, .same _, rfl⟩ bwNil (ok_spec_l1Cur_schedule hh1) rfl (.inl rfl) (ltb rfl) ?_)
 rintro _ _ ⟨b2, rfl, rfl⟩
 refine VO.cons rfl (V1.assign rfl rfl rfl (ltb rfl) ?_)
 refine VO.cons rfl (V1.assign rfl rfl rfl (ltb rfl) ?_)
 refine VO.nil ?_
 refine V.keep 12 [2, 3] [2, 0] (E0 := [(2, .sref b1 4 0 (List.length y0.1)), (3, .sref b2 4 0 (List.length y1.1))]) (H0 := [(b1, ⟨4, List.map (encRecord rn) y0.1⟩), (b2, ⟨4, List.map encRule y1.1⟩)]) rfl (⟨_, _, rfl, rfl, ⟨_, _, rfl, rfl, rfl⟩⟩) (⟨_, _, rfl, rfl, ⟨_, _, rfl, rfl, rfl⟩⟩) rfl ?_
 refine V.ret ?_
 obtain rfl := Option.some.inj hm0
 exact ⟨_, _, ⟨_, _, rfl, rfl, ⟨_, _, rfl, rfl, rfl⟩⟩, List.Sublist.refl _, b1, b2, rfl, rfl⟩

theorem ok_impl_NotScheduled {ρ0 σ0 ρ1 rn : Nat} {list : List Record} {schedule : List Rule} {r : List Int × Bool} (h : M.impl_NotScheduled list schedule = some r) : Does Try.prog 53 [.vl ρ0 4 (List.map (encRecord σ0) list), .vl ρ1 4 (List.map encRule schedule)] [] rn (fun x H => ∃ (ob0_ : Option Nat), (ob0_ = none → r.1 = []) ∧ x = .tup [optS 1 ob0_ (List.length r.1), .bool r.2] ∧ H = optH 1 ob0_ (List.map encInt r.1)) := by
 have hm0 := h; clear h; unfold M.impl_NotScheduled at hm0
 try dsimp only at hm0
 refine Does.intro (N := 32) Try.func53 rfl rfl rfl rfl ?_
 intro w0 S0
 refine V.seq ?_
 refine V.region ?_
 refine VO.cons rfl (V1.assign rfl rfl rfl (ltb rfl) ?_)
 refine VO.cons rfl (V1.assign rfl rfl rfl (ltb rfl) ?_)
 refine VO.nil ?_
 refine V.seq ?_
 refine V.seq ?_
 replace hm0 := bindO hm0; rcases hm0 with ⟨y0, hh0, hm0⟩
 refine V.region ?_
 refine VO.cons rfl (V1.move rfl rfl rfl (ltb rfl) ?_)
 refine VO.cons rfl (V1.move rfl rfl rfl (ltb rfl) ?_)
 refine VO.cons rfl (V1.call rfl rfl rfl cok_186 rfl (ok_impl_areAll hh0) rfl (ltb rfl) ?_)
 rintro _ _ ⟨rfl, rfl⟩
 refine VO.cons rfl (V1.not rfl rfl rfl (ltb rfl) ?_)
 refine VO.nil ?_
 refine V.keep 32 [0, 1, 12] [] (E0 := [(0, .vl ρ0 4 (List.map (encRecord σ0) list)), (1, .vl ρ1 4 (List.map encRule schedule)), (12, .bool (!y0))]) (H0 := []) rfl (⟨_, _, rfl, rfl, ⟨_, _, rfl, rfl, ⟨_, _, rfl, rfl, rfl⟩⟩⟩) (rfl) rfl ?_
 refine V.cond rfl (fun hc0 => ?_) (fun hc0 => ?_)
 ·
  replace hm0 := cond_t hc0 hm0
  refine V.seq ?_
  refine V.region ?_
  refine VO.cons rfl (V1.assign rfl rfl rfl (ltb rfl) ?_)
  refine VO.cons rfl (V1.assign rfl rfl rfl (ltb rfl) ?_)
  refine VO.nil ?_
  refine V.keep 32 [4, 5] [] (E0 := [(4, .nils), (5, .bool false)]) (H0 := []) rfl (⟨_, _, rfl, rfl, ⟨_, _, rfl, rfl, rfl⟩⟩) (rfl) rfl ?_
  refine V.ret ?_
  obtain rfl := Option.some.inj hm0
  exact ⟨_, _, ⟨_, _, rfl, rfl, ⟨_, _, rfl, rfl, rfl⟩⟩, List.Sublist.refl _, none, (fun _ => rfl), rfl, rfl⟩
 ·
  replace hm0 := cond_f hc0 hm0
  refine V.skip ?_
  refine V.seq ?_
  refine V.region ?_
  refine VO.cons rfl (V1.assign rfl rfl rfl (ltb rfl) ?_)
  refine VO.nil ?_
  refine V.seq ?_
  refine V.seq ?_
  refine V.region ?_
  refine VO.cons rfl (V1.move rfl rfl rfl (ltb rfl) ?_)
  refine VO.cons rfl (V1.lenMap rfl rfl rfl rfl rfl rfl isl_64 (ltb rfl) ?_)
  refine VO.cons rfl (V1.move rfl rfl rfl (ltb rfl) ?_)
  refine VO.nil ?_
  replace hm0 := bindO hm0; rcases hm0 with ⟨e0, he1, hm0⟩
  refine V.cutT (D := (List Int) × (Option Nat)) (fun ⟨ids, ob0⟩ => ⟨32, [(6, optS 1 ob0 (List.length ids))], optH 1 ob0 (List.map encInt ids)⟩) (fun ⟨ids, ob0⟩ => (ids = e0) ∧ (ob0 = none → ids = [])) ?_ ?_
  ·
   refine V.block ?_
   refine V.keep 32 [6, 15, 1, 13, 14] [] (E0 := [(6, .nils), (15, .int .i64 (0 : Int)), (1, .vl ρ1 4 (List.map encRule schedule)), (13, .vl ρ0 4 (List.map (encRecord σ0) list)), (14, .int .i64 (list.length : Int))]) (H0 := []) rfl (⟨_, _, rfl, rfl, ⟨_, _, rfl, rfl, ⟨_, _, rfl, rfl, ⟨_, _, rfl, rfl, ⟨_, _, rfl, rfl, rfl⟩⟩⟩⟩⟩) (rfl) rfl ?_
   refine V.loopE (D := Nat × (List Int × Int) × (Option Nat)) (fun ⟨n0, ⟨ids0, v⟩, ob1⟩ => [(6, optS 1 ob1 (List.length ids0)), (15, .int .i64 v)]) (fun ⟨n0, ⟨ids0, v⟩, ob1⟩ => optH 1 ob1 (List.map encInt ids0)) (fun ⟨n0, ⟨ids0, v⟩, ob1⟩ => loopO (M.impl_NotScheduled_l0 list schedule) n0 (ids0, v) = some e0 ∧ (ob1 = none → ids0 = [])) (fun ⟨n0, _, _⟩ => n0) (rounds, (([] : List Int), (0 : Int)), none) rfl ⟨he1, (fun _ => rfl)⟩ ?_
   rintro ⟨n0, ⟨ids0, v⟩, ob1⟩ ⟨hP0, hob1⟩
   obtain ⟨m0, y1, rfl, hm1, hl1, hr1⟩ := loop_head hP0
   unfold M.impl_NotScheduled_l0 at hm1; dsimp only at hm1
   rcases ob1 with _ | ob1
   ·
    replace hob1 := hob1 rfl
    show V _ _ _ ⟨32, [(6, .nils), (15, .int .i64 v), (1, .vl ρ1 4 (List.map encRule schedule)), (13, .vl ρ0 4 (List.map (encRecord σ0) list)), (14, .int .i64 (list.length : Int))], []⟩
    refine V.seq ?_
    refine V.region ?_
    refine VO.cons rfl (V1.int rfl rfl rfl rfl rfl (ltb rfl) ?_)
    refine VO.nil ?_
    refine V.seq ?_
    refine V.cond rfl (fun hc1 => ?_) (fun hc1 => ?_)
    ·
     replace hm1 := cond_t hc1 hm1
     refine V.skip ?_
     refine V.seq ?_
     replace hm1 := bindO hm1; rcases hm1 with ⟨j0, hm2, hm1⟩
     refine V.cutT (D := (List Int) × (Option Nat)) (fun ⟨ids1, ob2⟩ => ⟨32, [(6, optS 1 ob2 (List.length ids1)), (1, .vl ρ1 4 (List.map encRule schedule)), (13, .vl ρ0 4 (List.map (encRecord σ0) list)), (14, .int .i64 (list.length : Int)), (15, .int .i64 v)], optH 1 ob2 (List.map encInt ids1)⟩) (fun ⟨ids1, ob2⟩ => (ids1 = j0) ∧ (ob2 = none → ids1 = [])) ?_ ?_
     ·
      refine V.block ?_
      refine V.seq ?_
      replace hm2 := asrt_some hm2; rcases hm2 with ⟨hh1, hm2⟩
      refine V.region ?_
      refine VO.cons rfl (V1.indexI rfl rfl esz_64 rfl rfl hh1 (ltb rfl) ?_)
      refine VO.cons rfl (V1.loadPinAll rfl rfl tyk_26 rfl rfl (ltb rfl) ?_)
      refine VO.cons rfl (V1.alloc rfl rfl zk_26 (ltb rfl) ?_)
      intro b0
      refine VO.cons rfl (V1.storeRefAll (k := 0) rfl rfl tyk_26 rfl rfl rfl rfl rfl rfl ?_)
      refine VO.nil ?_
      refine V.seq ?_
      replace hm2 := bindO hm2; rcases hm2 with ⟨y2, hh2, hm2⟩
      refine V.region ?_
      refine VO.cons rfl (V1.move rfl rfl rfl (ltb rfl) ?_)
      refine VO.cons rfl (V1.fieldRef rfl rfl fo_26_1 rfl (ltb rfl) ?_)
      refine VO.cons rfl (V1.loadRef (k := 0) rfl rfl tyk_3 rfl rfl rfl rfl rfl (ltb rfl) ?_)
      refine VO.cons rfl (V1.call rfl rfl rfl cok_148 rfl (ok_impl_rulesFor hh2) rfl (ltb rfl) ?_)
      rintro _ _ ⟨ob3, hob3, rfl, rfl⟩
      refine VO.weakenK (Keeps.optVl 22 [] rn (f := encRule) (l := y2) (ob := ob3) (H1 := []) hob3 rfl rfl ⟨rfl, trivial⟩ (fun _ => rfl) rfl iNil) ?_
      refine VO.cons rfl (V1.lenMap rfl rfl rfl rfl rfl rfl isl_27 (ltb rfl) ?_)
      refine VO.cons rfl (V1.int rfl rfl rfl rfl rfl (ltb rfl) ?_)
      refine VO.nil ?_
      refine V.keep 32 [1, 6, 8, 13, 14, 15, 24] [0] (E0 := [(1, .vl ρ1 4 (List.map encRule schedule)), (6, .nils), (8, .ref b0 4 0 0), (13, .vl ρ0 4 (List.map (encRecord σ0) list)), (14, .int .i64 (list.length : Int)), (15, .int .i64 v), (24, .bool ((y2.length : Int) == (0 : Int)))]) (H0 := [(b0, ⟨4, [encRecord σ0 (list.getD (Int.toNat v) default)]⟩)]) rfl (⟨_, _, rfl, rfl, ⟨_, _, rfl, rfl, ⟨_, _, rfl, rfl, ⟨_, _, rfl, rfl, ⟨_, _, rfl, rfl, ⟨_, _, rfl, rfl, ⟨_, _, rfl, rfl, rfl⟩⟩⟩⟩⟩⟩⟩) (⟨_, _, rfl, rfl, rfl⟩) rfl ?_
      refine V.cond rfl (fun hc2 => ?_) (fun hc2 => ?_)
      ·
       replace hm2 := cond_t hc2 hm2
       replace hm2 := asrt_some hm2; rcases hm2 with ⟨hh3, hm2⟩
       refine V.region ?_
       refine VO.cons rfl (V1.move rfl rfl rfl (ltb rfl) ?_)
       refine VO.cons rfl (V1.fieldRef rfl rfl fo_26_0 rfl (ltb rfl) ?_)
       refine VO.cons rfl (V1.loadRef (k := 0) rfl rfl tyk_3 rfl rfl rfl rfl rfl (ltb rfl) ?_)
       refine VO.cons rfl (V1.buildSliceT (f := encInt) ([(list.getD (Int.toNat v) default).Id] : List Int) rfl rfl esz_30 zk_3 rfl rfl rfl rfl rfl rfl rfl (ltb rfl) ?_)
       intro b1
       refine VO.cons rfl (V1.appendNilE (f := encInt) (l := ids0) (m := ([(list.getD (Int.toNat v) default).Id] : List Int)) hob1 rfl rfl rfl rfl rfl esz_30 eby_30 zk_3 rfl rfl rfl (SrcOf.srMap (k := 0) rfl isl_30) rfl hh3 (ltb rfl) ?_)
       intro b2
       refine VO.cons rfl (V1.assign rfl rfl rfl (ltb rfl) ?_)
       refine VO.nil ?_
       exact ⟨((ids0 ++ ([(list.getD (Int.toNat v) default).Id] : List Int)), (some b2)), ⟨Option.some.inj hm2, (fun e => by cases e)⟩, Keeps.mk (ks := [0]) rfl ⟨rfl, rfl, rfl, rfl, rfl, trivial⟩ (⟨_, _, rfl, rfl, rfl⟩) rfl⟩
      ·
       replace hm2 := cond_f hc2 hm2
       refine V.skip ?_
       exact ⟨(ids0, none), ⟨Option.some.inj hm2, (fun _ => hob1)⟩, Keeps.mk (ks := []) rfl ⟨rfl, rfl, rfl, rfl, rfl, trivial⟩ (rfl) rfl⟩
     ·
      rintro ⟨ids1, ob2⟩ ⟨rfl, hob2⟩
      try dsimp only at hm1
      rcases ob2 with _ | ob2
      ·
       replace hob2 := hob2 rfl
       refine V.region ?_
       refine VO.cons rfl (V1.int rfl rfl rfl rfl rfl (ltb rfl) ?_)
       refine VO.cons rfl (V1.move rfl rfl rfl (ltb rfl) ?_)
       refine VO.nil ?_
       exact ⟨(m0, (ids1, (IntKind.i64.wrap (v + (1 : Int)))), none), ⟨hl1 _ (Option.some.inj hm1).symm, (fun _ => hob2)⟩, Nat.lt_succ_self _, Keeps.mk (ks := []) rfl ⟨rfl, rfl, rfl, rfl, rfl, trivial⟩ (rfl) rfl⟩
      ·
       refine V.region ?_
       refine VO.cons rfl (V1.int rfl rfl rfl rfl rfl (ltb rfl) ?_)
       refine VO.cons rfl (V1.move rfl rfl rfl (ltb rfl) ?_)
       refine VO.nil ?_
       exact ⟨(m0, (ids1, (IntKind.i64.wrap (v + (1 : Int)))), (some ob2)), ⟨hl1 _ (Option.some.inj hm1).symm, (fun e => by cases e)⟩, Nat.lt_succ_self _, Keeps.mk (ks := [0]) rfl ⟨rfl, rfl, rfl, rfl, rfl, trivial⟩ (⟨_, _, rfl, rfl, rfl⟩) rfl⟩
    ·
     replace hm1 := cond_f hc1 hm1
     refine V.exit ?_
     obtain rfl := hr1 _ (Option.some.inj hm1).symm
     exact ⟨(ids0, none), ⟨rfl, (fun _ => hob1)⟩, Keeps.mk (ks := []) rfl ⟨rfl, trivial⟩ (rfl) rfl⟩
   ·
    show V _ _ _ ⟨32, [(6, .sref ob1 1 0 (List.length ids0)), (15, .int .i64 v), (1, .vl ρ1 4 (List.map encRule schedule)), (13, .vl ρ0 4 (List.map (encRecord σ0) list)), (14, .int .i64 (list.length : Int))], [(ob1, ⟨1, List.map encInt ids0⟩)]⟩
    refine V.seq ?_
    refine V.region ?_
    refine VO.cons rfl (V1.int rfl rfl rfl rfl rfl (ltb rfl) ?_)
    refine VO.nil ?_
    refine V.seq ?_
    refine V.cond rfl (fun hc1 => ?_) (fun hc1 => ?_)
    ·
     replace hm1 := cond_t hc1 hm1
     refine V.skip ?_
     refine V.seq ?_
     replace hm1 := bindO hm1; rcases hm1 with ⟨j0, hm2, hm1⟩
     refine V.cutT (D := (List Int) × (Nat)) (fun ⟨ids1, b0⟩ => ⟨32, [(6, .sref b0 1 0 (List.length ids1)), (1, .vl ρ1 4 (List.map encRule schedule)), (13, .vl ρ0 4 (List.map (encRecord σ0) list)), (14, .int .i64 (list.length : Int)), (15, .int .i64 v)], [(b0, ⟨1, List.map encInt ids1⟩)]⟩) (fun ⟨ids1, b0⟩ => (ids1 = j0)) ?_ ?_
     ·
      refine V.block ?_
      refine V.seq ?_
      replace hm2 := asrt_some hm2; rcases hm2 with ⟨hh1, hm2⟩
      refine V.region ?_
      refine VO.cons rfl (V1.indexI rfl rfl esz_64 rfl rfl hh1 (ltb rfl) ?_)
      refine VO.cons rfl (V1.loadPinAll rfl rfl tyk_26 rfl rfl (ltb rfl) ?_)
      refine VO.cons rfl (V1.alloc rfl rfl zk_26 (ltb rfl) ?_)
      intro b1
      refine VO.cons rfl (V1.storeRefAll (k := 0) rfl rfl tyk_26 rfl rfl rfl rfl rfl rfl ?_)
      refine VO.nil ?_
      refine V.seq ?_
      replace hm2 := bindO hm2; rcases hm2 with ⟨y2, hh2, hm2⟩
      refine V.region ?_
      refine VO.cons rfl (V1.move rfl rfl rfl (ltb rfl) ?_)
      refine VO.cons rfl (V1.fieldRef rfl rfl fo_26_1 rfl (ltb rfl) ?_)
      refine VO.cons rfl (V1.loadRef (k := 0) rfl rfl tyk_3 rfl rfl rfl rfl rfl (ltb rfl) ?_)
      refine VO.cons rfl (V1.call rfl rfl rfl cok_148 rfl (ok_impl_rulesFor hh2) rfl (ltb rfl) ?_)
      rintro _ _ ⟨ob2, hob2, rfl, rfl⟩
      refine VO.weakenK (Keeps.optVl 22 [] rn (f := encRule) (l := y2) (ob := ob2) (H1 := []) hob2 rfl rfl ⟨rfl, trivial⟩ (fun _ => rfl) rfl iNil) ?_
      refine VO.cons rfl (V1.lenMap rfl rfl rfl rfl rfl rfl isl_27 (ltb rfl) ?_)
      refine VO.cons rfl (V1.int rfl rfl rfl rfl rfl (ltb rfl) ?_)
      refine VO.nil ?_
      refine V.keep 32 [1, 6, 8, 13, 14, 15, 24] [0, 1] (E0 := [(1, .vl ρ1 4 (List.map encRule schedule)), (6, .sref ob1 1 0 (List.length ids0)), (8, .ref b1 4 0 0), (13, .vl ρ0 4 (List.map (encRecord σ0) list)), (14, .int .i64 (list.length : Int)), (15, .int .i64 v), (24, .bool ((y2.length : Int) == (0 : Int)))]) (H0 := [(b1, ⟨4, [encRecord σ0 (list.getD (Int.toNat v) default)]⟩), (ob1, ⟨1, List.map encInt ids0⟩)]) rfl (⟨_, _, rfl, rfl, ⟨_, _, rfl, rfl, ⟨_, _, rfl, rfl, ⟨_, _, rfl, rfl, ⟨_, _, rfl, rfl, ⟨_, _, rfl, rfl, ⟨_, _, rfl, rfl, rfl⟩⟩⟩⟩⟩⟩⟩) (⟨_, _, rfl, rfl, ⟨_, _, rfl, rfl, rfl⟩⟩) rfl ?_
      refine V.cond rfl (fun hc2 => ?_) (fun hc2 => ?_)
      ·
       replace hm2 := cond_t hc2 hm2
       replace hm2 := asrt_some hm2; rcases hm2 with ⟨hh3, hm2⟩
       refine V.region ?_
       refine VO.cons rfl (V1.move rfl rfl rfl (ltb rfl) ?_)
       refine VO.cons rfl (V1.fieldRef rfl rfl fo_26_0 rfl (ltb rfl) ?_)
       refine VO.cons rfl (V1.loadRef (k := 0) rfl rfl tyk_3 rfl rfl rfl rfl rfl (ltb rfl) ?_)
       refine VO.cons rfl (V1.buildSliceT (f := encInt) ([(list.getD (Int.toNat v) default).Id] : List Int) rfl rfl esz_30 zk_3 rfl rfl rfl rfl rfl rfl rfl (ltb rfl) ?_)
       intro b2
       refine VO.cons rfl (V1.appendMap (k := 2) (f := encInt) (l := ids0) (m := ([(list.getD (Int.toNat v) default).Id] : List Int)) rfl rfl rfl rfl rfl esz_30 eby_30 zk_3 rfl rfl rfl (SrcOf.srMap (k := 0) rfl isl_30) hh3 (ltb rfl) ?_)
       intro b3
       refine VO.cons rfl (V1.assign rfl rfl rfl (ltb rfl) ?_)
       refine VO.nil ?_
       exact ⟨((ids0 ++ ([(list.getD (Int.toNat v) default).Id] : List Int)), b3), Option.some.inj hm2, Keeps.mk (ks := [0]) rfl ⟨rfl, rfl, rfl, rfl, rfl, trivial⟩ (⟨_, _, rfl, rfl, rfl⟩) rfl⟩
      ·
       replace hm2 := cond_f hc2 hm2
       refine V.skip ?_
       exact ⟨(ids0, ob1), Option.some.inj hm2, Keeps.mk (ks := [1]) rfl ⟨rfl, rfl, rfl, rfl, rfl, trivial⟩ (⟨_, _, rfl, rfl, rfl⟩) rfl⟩
     ·
      rintro ⟨ids1, b0⟩ rfl
      try dsimp only at hm1
      refine V.region ?_
      refine VO.cons rfl (V1.int rfl rfl rfl rfl rfl (ltb rfl) ?_)
      refine VO.cons rfl (V1.move rfl rfl rfl (ltb rfl) ?_)
      refine VO.nil ?_
      exact ⟨(m0, (ids1, (IntKind.i64.wrap (v + (1 : Int)))), (some b0)), ⟨hl1 _ (Option.some.inj hm1).symm, (fun e => by cases e)⟩, Nat.lt_succ_self _, Keeps.mk (ks := [0]) rfl ⟨rfl, rfl, rfl, rfl, rfl, trivial⟩ (⟨_, _, rfl, rfl, rfl⟩) rfl⟩
    ·
     replace hm1 := cond_f hc1 hm1
     refine V.exit ?_
     obtain rfl := hr1 _ (Option.some.inj hm1).symm
     exact ⟨(ids0, (some ob1)), ⟨rfl, (fun e => by cases e)⟩, Keeps.mk (ks := [0]) rfl ⟨rfl, trivial⟩ (⟨_, _, rfl, rfl, rfl⟩) rfl⟩
  ·
   rintro ⟨ids, ob0⟩ ⟨rfl, hob0⟩
   try dsimp only at hm0
   rcases ob0 with _ | ob0
   ·
    replace hob0 := hob0 rfl
    refine V.seq ?_
    refine V.region ?_
    refine VO.cons rfl (V1.move rfl rfl rfl (ltb rfl) ?_)
    refine VO.cons rfl (V1.assign rfl rfl rfl (ltb rfl) ?_)
    refine VO.cons rfl (V1.assign rfl rfl rfl (ltb rfl) ?_)
    refine VO.nil ?_
    refine V.keep 32 [4, 5] [] (E0 := [(4, .nils), (5, .bool true)]) (H0 := []) rfl (⟨_, _, rfl, rfl, ⟨_, _, rfl, rfl, rfl⟩⟩) (rfl) rfl ?_
    refine V.ret ?_
    obtain rfl := Option.some.inj hm0
    exact ⟨_, _, ⟨_, _, rfl, rfl, ⟨_, _, rfl, rfl, rfl⟩⟩, List.Sublist.refl _, none, (fun _ => hob0), rfl, rfl⟩
   ·
    refine V.seq ?_
    refine V.region ?_
    refine VO.cons rfl (V1.move rfl rfl rfl (ltb rfl) ?_)
    refine VO.cons rfl (V1.assign rfl rfl rfl (ltb rfl) ?_)
    refine VO.cons rfl (V1.assign rfl rfl rfl (ltb rfl) ?_)
    refine VO.nil ?_
    refine V.keep 32 [4, 5] [0] (E0 := [(4, .sref ob0 1 0 (List.length ids)), (5, .bool true)]) (H0 := [(ob0, ⟨1, List.map encInt ids⟩)]) rfl (⟨_, _, rfl, rfl, ⟨_, _, rfl, rfl, rfl⟩⟩) (⟨_, _, rfl, rfl, rfl⟩) rfl ?_
    refine V.ret ?_
    obtain rfl := Option.some.inj hm0
    exact ⟨_, _, ⟨_, _, rfl, rfl, ⟨_, _, rfl, rfl, rfl⟩⟩, List.Sublist.refl _, some ob0, (fun e => by cases e), rfl, rfl⟩

theorem ok_spec_NotScheduled {ρ0 σ0 ρ1 rn : Nat} {list : List Record} {schedule : List Rule} {r : List Int × Bool} (h : M.spec_NotScheduled list schedule = some r) : Does Try.prog 54 [.vl ρ0 4 (List.map (encRecord σ0) list), .vl ρ1 4 (List.map encRule schedule)] [] rn (fun x H => ∃ (ob0_ : Nat), x = .tup [PV.sref ob0_ 1 0 (List.length r.1), .bool r.2] ∧ H = [(ob0_, ⟨1, List.map encInt r.1⟩)]) := by
 have hm0 := h; clear h; unfold M.spec_NotScheduled at hm0
 try dsimp only at hm0
 refine Does.intro (N := 42) Try.func54 rfl rfl rfl rfl ?_
 intro w0 S0
 refine V.seq ?_
 refine V.region ?_
 refine VO.cons rfl (V1.assign rfl rfl rfl (ltb rfl) ?_)
 refine VO.cons rfl (V1.assign rfl rfl rfl (ltb rfl) ?_)
 refine VO.nil ?_
 refine V.seq ?_
 refine V.region ?_
 refine VO.cons rfl (V1.buildSliceT (f := encInt) ([] : List Int) rfl rfl esz_30 zk_3 rfl rfl rfl rfl rfl rfl rfl (ltb rfl) ?_)
 intro b0
 refine VO.cons rfl (V1.assign rfl rfl rfl (ltb rfl) ?_)
 refine VO.nil ?_
 refine V.seq ?_
 refine V.seq ?_
 replace hm0 := bindO hm0; rcases hm0 with ⟨y0, hh0, hm0⟩
 replace hm0 := bindO hm0; rcases hm0 with ⟨y1, hh1, hm0⟩
 refine V.region ?_
 refine VO.cons rfl (V1.move rfl rfl rfl (ltb rfl) ?_)
 refine VO.cons rfl (V1.call rfl rfl rfl cok_187 rfl (ok_spec_l2Records hh0) rfl (ltb rfl) ?_)
 rintro _ _ ⟨rfl, rfl⟩
 refine VO.cons rfl (V1.not rfl rfl rfl (ltb rfl) ?_)
 refine VO.cons rfl (V1.move rfl rfl rfl (ltb rfl) ?_)
 apply VO.or (n := 3) rfl rfl rfl rfl rfl rfl (ltb rfl) (.none rfl)
 ·
  intro hg0
  refine VO.step (.some rfl rfl rfl) (V1.move rfl rfl rfl (ltb rfl) ?_)
  refine VO.step (.some rfl rfl rfl) (V1.call rfl rfl rfl cok_160 rfl (ok_spec_l4Good (cond_f hg0 hh1)) rfl (ltb rfl) ?_)
  rintro _ _ ⟨rfl, rfl⟩
  refine VO.step (.some rfl rfl rfl) (V1.not rfl rfl rfl (ltb rfl) ?_)
  exact VO.nil ⟨rfl, rfl, rfl, rfl, .inr ⟨rfl, .inr ⟨rfl, .inr ⟨rfl, .inr ⟨rfl, .inl rfl⟩⟩⟩⟩⟩
 refine VO.nil ?_
 refine V.keep 42 [0, 1, 6, 16] [0] (E0 := [(0, .vl ρ0 4 (List.map (encRecord σ0) list)), (1, .vl ρ1 4 (List.map encRule schedule)), (6, .sref b0 1 0 (List.length ([] : List Int))), (16, .bool ((!y0) || (!y1)))]) (H0 := [(b0, ⟨1, List.map encInt ([] : List Int)⟩)]) rfl (⟨_, _, rfl, rfl, ⟨_, _, rfl, rfl, ⟨_, _, rfl, rfl, ⟨_, _, rfl, rfl, rfl⟩⟩⟩⟩) (⟨_, _, rfl, rfl, rfl⟩) rfl ?_
 refine V.cond rfl (fun hc0 => ?_) (fun hc0 => ?_)
 ·
  replace hm0 := cond_t hc0 hm0
  refine V.seq ?_
  refine V.region ?_
  refine VO.cons rfl (V1.move rfl rfl rfl (ltb rfl) ?_)
  refine VO.cons rfl (V1.assign rfl rfl rfl (ltb rfl) ?_)
  refine VO.cons rfl (V1.assign rfl rfl rfl (ltb rfl) ?_)
  refine VO.nil ?_
  refine V.keep 42 [4, 5] [0] (E0 := [(4, .sref b0 1 0 (List.length ([] : List Int))), (5, .bool false)]) (H0 := [(b0, ⟨1, List.map encInt ([] : List Int)⟩)]) rfl (⟨_, _, rfl, rfl, ⟨_, _, rfl, rfl, rfl⟩⟩) (⟨_, _, rfl, rfl, rfl⟩) rfl ?_
  refine V.ret ?_
  obtain rfl := Option.some.inj hm0
  exact ⟨_, _, ⟨_, _, rfl, rfl, ⟨_, _, rfl, rfl, rfl⟩⟩, List.Sublist.refl _, b0, rfl, rfl⟩
 ·
  replace hm0 := cond_f hc0 hm0
  refine V.skip ?_
  refine V.seq ?_
  refine V.seq ?_
  refine V.region ?_
  refine VO.cons rfl (V1.assign rfl rfl rfl (ltb rfl) ?_)
  refine VO.nil ?_
  replace hm0 := bindO hm0; rcases hm0 with ⟨e0, he1, hm0⟩
  refine V.cutT (D := (List Int) × (Nat)) (fun ⟨out_, b1⟩ => ⟨42, [(6, .sref b1 1 0 (List.length out_))], [(b1, ⟨1, List.map encInt out_⟩)]⟩) (fun ⟨out_, b1⟩ => (out_ = e0)) ?_ ?_
  ·
   refine V.block ?_
   refine V.keep 42 [6, 7, 0, 1] [0] (E0 := [(6, .sref b0 1 0 (List.length ([] : List Int))), (7, .int .i64 (0 : Int)), (0, .vl ρ0 4 (List.map (encRecord σ0) list)), (1, .vl ρ1 4 (List.map encRule schedule))]) (H0 := [(b0, ⟨1, List.map encInt ([] : List Int)⟩)]) rfl (⟨_, _, rfl, rfl, ⟨_, _, rfl, rfl, ⟨_, _, rfl, rfl, ⟨_, _, rfl, rfl, rfl⟩⟩⟩⟩) (⟨_, _, rfl, rfl, rfl⟩) rfl ?_
   refine V.loopE (D := Nat × (List Int × Int) × (Nat)) (fun ⟨n0, ⟨out_0, i⟩, b2⟩ => [(6, .sref b2 1 0 (List.length out_0)), (7, .int .i64 i)]) (fun ⟨n0, ⟨out_0, i⟩, b2⟩ => [(b2, ⟨1, List.map encInt out_0⟩)]) (fun ⟨n0, ⟨out_0, i⟩, b2⟩ => loopO (M.spec_NotScheduled_l0 list schedule) n0 (out_0, i) = some e0) (fun ⟨n0, _, _⟩ => n0) (rounds, (([] : List Int), (0 : Int)), b0) rfl he1 ?_
   rintro ⟨n0, ⟨out_0, i⟩, b2⟩ hP0
   obtain ⟨m0, y2, rfl, hm1, hl1, hr1⟩ := loop_head hP0
   unfold M.spec_NotScheduled_l0 at hm1; dsimp only at hm1
   show V _ _ _ ⟨42, [(6, .sref b2 1 0 (List.length out_0)), (7, .int .i64 i), (0, .vl ρ0 4 (List.map (encRecord σ0) list)), (1, .vl ρ1 4 (List.map encRule schedule))], [(b2, ⟨1, List.map encInt out_0⟩)]⟩
   refine V.seq ?_
   refine V.seq ?_
   refine V.region ?_
   refine VO.cons rfl (V1.move rfl rfl rfl (ltb rfl) ?_)
   refine VO.cons rfl (V1.move rfl rfl rfl (ltb rfl) ?_)
   refine VO.cons rfl (V1.lenMap rfl rfl rfl rfl rfl rfl isl_64 (ltb rfl) ?_)
   refine VO.cons rfl (V1.int rfl rfl rfl rfl rfl (ltb rfl) ?_)
   refine VO.nil ?_
   refine V.cond rfl (fun hc1 => ?_) (fun hc1 => ?_)
   ·
    replace hm1 := cond_t hc1 hm1
    refine V.skip ?_
    refine V.keep 42 [0, 1, 6, 7] [0] (E0 := [(0, .vl ρ0 4 (List.map (encRecord σ0) list)), (1, .vl ρ1 4 (List.map encRule schedule)), (6, .sref b2 1 0 (List.length out_0)), (7, .int .i64 i)]) (H0 := [(b2, ⟨1, List.map encInt out_0⟩)]) rfl (⟨_, _, rfl, rfl, ⟨_, _, rfl, rfl, ⟨_, _, rfl, rfl, ⟨_, _, rfl, rfl, rfl⟩⟩⟩⟩) (⟨_, _, rfl, rfl, rfl⟩) rfl ?_
    refine V.seq ?_
    replace hm1 := bindO hm1; rcases hm1 with ⟨j0, hm2, hm1⟩
    refine V.cutT (D := (List Int) × (Nat)) (fun ⟨out_1, b3⟩ => ⟨42, [(6, .sref b3 1 0 (List.length out_1)), (0, .vl ρ0 4 (List.map (encRecord σ0) list)), (1, .vl ρ1 4 (List.map encRule schedule)), (7, .int .i64 i)], [(b3, ⟨1, List.map encInt out_1⟩)]⟩) (fun ⟨out_1, b3⟩ => (out_1 = j0)) ?_ ?_
    ·
     refine V.block ?_
     refine V.seq ?_
     replace hm2 := asrt_some hm2; rcases hm2 with ⟨hh2, hm2⟩
     replace hm2 := bindO hm2; rcases hm2 with ⟨y3, hh3, hm2⟩
     refine V.region ?_
     refine VO.cons rfl (V1.move rfl rfl rfl (ltb rfl) ?_)
     refine VO.cons rfl (V1.move rfl rfl rfl (ltb rfl) ?_)
     refine VO.cons rfl (V1.move rfl rfl rfl (ltb rfl) ?_)
     refine VO.cons rfl (V1.indexI rfl rfl esz_64 rfl rfl hh2 (ltb rfl) ?_)
     refine VO.cons rfl (V1.fieldPin rfl rfl fo_26_1 rfl (ltb rfl) ?_)
     refine VO.cons rfl (V1.loadPin rfl rfl tyk_3 rfl rfl (ltb rfl) ?_)
     refine VO.cons rfl (V1.call rfl rfl rfl cok_151 rfl (ok_spec_l4For hh3) rfl (ltb rfl) ?_)
     rintro _ _ ⟨b4, rfl, rfl⟩
     refine VO.weakenK (Keeps.freezeG 0 rn [(30, .vl rn 4 (List.map encRule y3))] [(b2, ⟨1, List.map encInt out_0⟩)] (f := encRule) (l := y3) rfl (fun _ => rfl) ⟨⟨_, rfl, .here⟩, trivial⟩ ⟨_, _, rfl, rfl, .inl rfl, rfl⟩ rfl iNil) ?_
     refine VO.cons rfl (V1.lenMap rfl rfl rfl rfl rfl rfl isl_27 (ltb rfl) ?_)
     refine VO.cons rfl (V1.int rfl rfl rfl rfl rfl (ltb rfl) ?_)
     refine VO.nil ?_
     refine V.keep 42 [0, 1, 6, 7, 32] [0] (E0 := [(0, .vl ρ0 4 (List.map (encRecord σ0) list)), (1, .vl ρ1 4 (List.map encRule schedule)), (6, .sref b2 1 0 (List.length out_0)), (7, .int .i64 i), (32, .bool ((y3.length : Int) == (0 : Int)))]) (H0 := [(b2, ⟨1, List.map encInt out_0⟩)]) rfl (⟨_, _, rfl, rfl, ⟨_, _, rfl, rfl, ⟨_, _, rfl, rfl, ⟨_, _, rfl, rfl, ⟨_, _, rfl, rfl, rfl⟩⟩⟩⟩⟩) (⟨_, _, rfl, rfl, rfl⟩) rfl ?_
     refine V.cond rfl (fun hc2 => ?_) (fun hc2 => ?_)
     ·
      replace hm2 := cond_t hc2 hm2
      replace hm2 := asrt_some hm2; rcases hm2 with ⟨hh4, hm2⟩
      replace hm2 := asrt_some hm2; rcases hm2 with ⟨hh5, hm2⟩
      refine V.region ?_
      refine VO.cons rfl (V1.move rfl rfl rfl (ltb rfl) ?_)
      refine VO.cons rfl (V1.move rfl rfl rfl (ltb rfl) ?_)
      refine VO.cons rfl (V1.move rfl rfl rfl (ltb rfl) ?_)
      refine VO.cons rfl (V1.indexI rfl rfl esz_64 rfl rfl hh4 (ltb rfl) ?_)
      refine VO.cons rfl (V1.fieldPin rfl rfl fo_26_0 rfl (ltb rfl) ?_)
      refine VO.cons rfl (V1.loadPin rfl rfl tyk_3 rfl rfl (ltb rfl) ?_)
      refine VO.cons rfl (V1.buildSliceT (f := encInt) ([(list.getD (Int.toNat i) default).Id] : List Int) rfl rfl esz_30 zk_3 rfl rfl rfl rfl rfl rfl rfl (ltb rfl) ?_)
      intro b5
      refine VO.cons rfl (V1.appendMap (k := 1) (f := encInt) (l := out_0) (m := ([(list.getD (Int.toNat i) default).Id] : List Int)) rfl rfl rfl rfl rfl esz_30 eby_30 zk_3 rfl rfl rfl (SrcOf.srMap (k := 0) rfl isl_30) hh5 (ltb rfl) ?_)
      intro b6
      refine VO.cons rfl (V1.assign rfl rfl rfl (ltb rfl) ?_)
      refine VO.nil ?_
      exact ⟨((out_0 ++ ([(list.getD (Int.toNat i) default).Id] : List Int)), b6), Option.some.inj hm2, Keeps.mk (ks := [0]) rfl ⟨rfl, rfl, rfl, rfl, trivial⟩ (⟨_, _, rfl, rfl, rfl⟩) rfl⟩
     ·
      replace hm2 := cond_f hc2 hm2
      refine V.skip ?_
      exact ⟨(out_0, b2), Option.some.inj hm2, Keeps.mk (ks := [0]) rfl ⟨rfl, rfl, rfl, rfl, trivial⟩ (⟨_, _, rfl, rfl, rfl⟩) rfl⟩
    ·
     rintro ⟨out_1, b3⟩ rfl
     try dsimp only at hm1
     refine V.region ?_
     refine VO.cons rfl (V1.move rfl rfl rfl (ltb rfl) ?_)
     refine VO.cons rfl (V1.int rfl rfl rfl rfl rfl (ltb rfl) ?_)
     refine VO.cons rfl (V1.assign rfl rfl rfl (ltb rfl) ?_)
     refine VO.nil ?_
     exact ⟨(m0, (out_1, (IntKind.i64.wrap (i + (1 : Int)))), b3), hl1 _ (Option.some.inj hm1).symm, Nat.lt_succ_self _, Keeps.mk (ks := [0]) rfl ⟨rfl, rfl, rfl, rfl, trivial⟩ (⟨_, _, rfl, rfl, rfl⟩) rfl⟩
   ·
    replace hm1 := cond_f hc1 hm1
    refine V.exit ?_
    obtain rfl := hr1 _ (Option.some.inj hm1).symm
    exact ⟨(out_0, b2), rfl, Keeps.mk (ks := [0]) rfl ⟨rfl, trivial⟩ (⟨_, _, rfl, rfl, rfl⟩) rfl⟩
  ·
   rintro ⟨out_, b1⟩ rfl
   try dsimp only at hm0
   refine V.seq ?_
   refine V.region ?_
   refine VO.cons rfl (V1.move rfl rfl rfl (ltb rfl) ?_)
   refine VO.cons rfl (V1.assign rfl rfl rfl (ltb rfl) ?_)
   refine VO.cons rfl (V1.assign rfl rfl rfl (ltb rfl) ?_)
   refine VO.nil ?_
   refine V.keep 42 [4, 5] [0] (E0 := [(4, .sref b1 1 0 (List.length out_)), (5, .bool true)]) (H0 := [(b1, ⟨1, List.map encInt out_⟩)]) rfl (⟨_, _, rfl, rfl, ⟨_, _, rfl, rfl, rfl⟩⟩) (⟨_, _, rfl, rfl, rfl⟩) rfl ?_
   refine V.ret ?_
   obtain rfl := Option.some.inj hm0
   exact ⟨_, _, ⟨_, _, rfl, rfl, ⟨_, _, rfl, rfl, rfl⟩⟩, List.Sublist.refl _, b1, rfl, rfl⟩
end Go.Proofs.Ythffmnpbonkpaaa
