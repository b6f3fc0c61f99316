/- the functions do what their models say -/
import Derived.Test.YthfndefhmmfjaaaQh1
set_option linter.unusedSimpArgs false
set_option linter.unusedVariables false
set_option maxRecDepth 100000
set_option maxHeartbeats 4000000
namespace Go.Proofs.Ythfndefhmmfjaaa
open Go.VS

theorem ok_impl_AreCartons {ρ0 rn : Nat} {list : List Carton} {r : Bool} (h : M.impl_AreCartons list = some r) : Does Try.prog 12 [.vl ρ0 5 (List.map (encCarton ρ0) list)] [] rn (fun x H => x = .bool r ∧ H = []) := by
 have hm0 := h; clear h; unfold M.impl_AreCartons at hm0
 try dsimp only at hm0
 refine Does.intro (N := 59) Try.func12 rfl rfl rfl rfl ?_
 intro w0 S0
 refine V.seq ?_
 refine V.region ?_
 refine VO.cons rfl (V1.assign rfl rfl rfl (ltb rfl) ?_)
 refine VO.nil ?_
 refine V.seq ?_
 refine V.seq ?_
 refine V.region ?_
 refine VO.cons rfl (V1.move rfl rfl rfl (ltb rfl) ?_)
 refine VO.cons rfl (V1.lenMap rfl rfl rfl rfl rfl rfl isl_24 (ltb rfl) ?_)
 refine VO.cons rfl (V1.int rfl rfl rfl rfl rfl (ltb rfl) ?_)
 refine VO.nil ?_
 refine V.cond rfl (fun hc0 => ?_) (fun hc0 => ?_)
 ·
  replace hm0 := cond_t hc0 hm0
  refine V.seq ?_
  refine V.region ?_
  refine VO.cons rfl (V1.assign rfl rfl rfl (ltb rfl) ?_)
  refine VO.nil ?_
  refine V.ret ?_
  obtain rfl := Option.some.inj hm0
  exact ⟨_, [], ⟨_, _, rfl, rfl, rfl⟩, List.nil_sublist _, rfl, rfl⟩
 ·
  replace hm0 := cond_f hc0 hm0
  refine V.skip ?_
  refine V.keep 59 [0] [] (E0 := [(0, .vl ρ0 5 (List.map (encCarton ρ0) list))]) (H0 := []) rfl (⟨_, _, rfl, rfl, rfl⟩) (rfl) rfl ?_
  refine V.seq ?_
  refine V.seq ?_
  refine V.region ?_
  refine VO.cons rfl (V1.move rfl rfl rfl (ltb rfl) ?_)
  refine VO.cons rfl (V1.lenMap rfl rfl rfl rfl rfl rfl isl_24 (ltb rfl) ?_)
  refine VO.cons rfl (V1.move rfl rfl rfl (ltb rfl) ?_)
  refine VO.nil ?_
  replace hm0 := bindO hm0; rcases hm0 with ⟨e0, he1, hm0⟩
  refine V.cutT (D := (Unit) × (Unit)) (fun ⟨_, _⟩ => ⟨59, [], []⟩) (fun ⟨_, _⟩ => (.inl () = e0)) ?_ ?_
  ·
   refine V.block ?_
   refine V.keep 59 [12, 0, 10, 11] [] (E0 := [(12, .int .i64 (0 : Int)), (0, .vl ρ0 5 (List.map (encCarton ρ0) list)), (10, .vl ρ0 5 (List.map (encCarton ρ0) list)), (11, .int .i64 (list.length : Int))]) (H0 := []) rfl (⟨_, _, rfl, rfl, ⟨_, _, rfl, rfl, ⟨_, _, rfl, rfl, ⟨_, _, rfl, rfl, rfl⟩⟩⟩⟩) (rfl) rfl ?_
   refine V.loopE (D := Nat × (Int) × (Unit)) (fun ⟨n0, v, _⟩ => [(12, .int .i64 v)]) (fun ⟨n0, v, _⟩ => []) (fun ⟨n0, v, _⟩ => loopO (M.impl_AreCartons_l0 list) n0 v = some e0) (fun ⟨n0, _, _⟩ => n0) (rounds, (0 : Int), ()) rfl he1 ?_
   rintro ⟨n0, v, _⟩ hP0
   obtain ⟨m0, y0, rfl, hm1, hl1, hr1⟩ := loop_head hP0
   unfold M.impl_AreCartons_l0 at hm1; dsimp only at hm1
   show V _ _ _ ⟨59, [(12, .int .i64 v), (0, .vl ρ0 5 (List.map (encCarton ρ0) list)), (10, .vl ρ0 5 (List.map (encCarton ρ0) list)), (11, .int .i64 (list.length : Int))], []⟩
   refine V.seq ?_
   refine V.region ?_
   refine VO.cons rfl (V1.int rfl rfl rfl rfl rfl (ltb rfl) ?_)
   refine VO.nil ?_
   refine V.seq ?_
   refine V.cond rfl (fun hc1 => ?_) (fun hc1 => ?_)
   ·
    replace hm1 := cond_t hc1 hm1
    refine V.skip ?_
    refine V.seq ?_
    refine V.block ?_
    refine V.seq ?_
    replace hm1 := asrt_some hm1; rcases hm1 with ⟨hh0, hm1⟩
    refine V.region ?_
    refine VO.cons rfl (V1.move rfl rfl rfl (ltb rfl) ?_)
    refine VO.cons rfl (V1.indexI rfl rfl esz_24 rfl rfl hh0 (ltb rfl) ?_)
    refine VO.cons rfl (V1.loadPinAll rfl rfl tyk_40 rfl rfl (ltb rfl) ?_)
    refine VO.cons rfl (V1.alloc rfl rfl zk_40 (ltb rfl) ?_)
    intro b0
    refine VO.cons rfl (V1.assign rfl rfl rfl (ltb rfl) ?_)
    refine VO.cons rfl (V1.storeRefAll (k := 0) rfl rfl tyk_40 rfl rfl rfl rfl rfl rfl ?_)
    refine VO.nil ?_
    refine V.keep 59 [0, 3, 4, 10, 11, 12] [0] (E0 := [(0, .vl ρ0 5 (List.map (encCarton ρ0) list)), (3, .int .i64 v), (4, .ref b0 5 0 0), (10, .vl ρ0 5 (List.map (encCarton ρ0) list)), (11, .int .i64 (list.length : Int)), (12, .int .i64 v)]) (H0 := [(b0, ⟨5, [encCarton ρ0 (list.getD (Int.toNat v) default)]⟩)]) rfl (⟨_, _, rfl, rfl, ⟨_, _, rfl, rfl, ⟨_, _, rfl, rfl, ⟨_, _, rfl, rfl, ⟨_, _, rfl, rfl, ⟨_, _, rfl, rfl, rfl⟩⟩⟩⟩⟩⟩) (⟨_, _, rfl, rfl, rfl⟩) rfl ?_
    refine V.seq ?_
    refine V.seq ?_
    replace hm1 := bindO hm1; rcases hm1 with ⟨y1, hh1, hm1⟩
    replace hm1 := asrt_some hm1; rcases hm1 with ⟨hh2, hm1⟩
    refine V.regionM 59 18 [⟨[(4, none)], [], none⟩, ⟨[(17, some 0)], [], none⟩, ⟨[(18, some 0)], [], none⟩, ⟨[(19, some 0)], [], none⟩, ⟨[(3, none)], [(0, false)], none⟩, ⟨[(21, some 0)], [(1, false)], none⟩, ⟨[(22, some 0)], [(2, false)], none⟩, ⟨[(0, none)], [(0, true), (3, false)], none⟩, ⟨[(3, none)], [(1, true), (4, false)], none⟩, ⟨[(25, some 0)], [(2, true), (5, false)], none⟩, ⟨[(24, some 2), (26, some 0)], [(3, true), (6, false)], none⟩, ⟨[(27, some 0)], [(4, true), (7, false)], none⟩, ⟨[(28, some 0)], [(5, true), (8, false)], none⟩, ⟨[(4, none)], [(6, true), (9, false)], none⟩, ⟨[(30, some 0)], [(7, true), (10, false)], none⟩, ⟨[(29, some 2), (31, some 0)], [(8, true), (11, false)], none⟩, ⟨[], [(12, false)], some (true, 23, 32, 9, 0)⟩, ⟨[], [], some (false, 20, 33, 13, 0)⟩] [(0, none), (3, none), (4, none), (10, none), (11, none), (12, none), (34, some 0)] (⟨_, rfl, ⟨_, rfl, ⟨_, rfl, ⟨_, rfl, ⟨_, rfl, ⟨_, rfl, ⟨_, rfl, ⟨_, rfl, ⟨_, rfl, ⟨_, rfl, ⟨_, rfl, ⟨_, rfl, ⟨_, rfl, ⟨_, rfl, ⟨_, rfl, ⟨_, rfl, ⟨_, rfl, ⟨_, rfl, ⟨rfl, rfl⟩⟩⟩⟩⟩⟩⟩⟩⟩⟩⟩⟩⟩⟩⟩⟩⟩⟩⟩) mixed_orders rfl (by decide +kernel) (fun hck6 => ?_)
    refine VP.step (p := ?pv193) rfl rfl rfl (⟨_, _, rfl, rfl, rfl⟩) ?hv193 ?rest193 hck6
    case hv193 =>
     intro E1
     refine (V1.loadRefAll (k := 0) rfl rfl tyk_40 rfl rfl rfl rfl rfl (ltb rfl) ?_)
     exact rfl
    refine VP.step (p := ?pv194) rfl rfl rfl (⟨_, _, rfl, rfl, rfl⟩) ?hv194 ?rest194 hck6
    case hv194 =>
     intro E1
     refine (V1.call rfl rfl rfl cok_39 rfl (ok_impl_IsCarton hh1) rfl (ltb rfl) ?_)
     rintro _ _ ⟨rfl, rfl⟩
     exact rfl
    refine VP.step (p := ?pv195) rfl rfl rfl (⟨_, _, rfl, rfl, rfl⟩) ?hv195 ?rest195 hck6
    case hv195 =>
     intro E1
     refine (V1.not rfl rfl rfl (ltb rfl) ?_)
     exact rfl
    refine VP.step (p := ?pv196) rfl rfl rfl (⟨_, _, rfl, rfl, rfl⟩) ?hv196 ?rest196 hck6
    case hv196 =>
     intro E1
     refine (V1.move rfl rfl rfl (ltb rfl) ?_)
     exact rfl
    refine VP.step (p := ?pv197) rfl rfl rfl (⟨_, _, rfl, rfl, rfl⟩) ?hv197 ?rest197 hck6
    case hv197 =>
     refine ⟨_, rfl, fun hg0 => ?_⟩
     intro E1
     refine (V1.move rfl rfl rfl (ltb rfl) ?_)
     exact rfl
    refine VP.step (p := ?pv198) rfl rfl rfl (⟨_, _, rfl, rfl, rfl⟩) ?hv198 ?rest198 hck6
    case hv198 =>
     refine ⟨_, rfl, fun hg0 => ?_⟩
     intro E1
     refine (V1.int rfl rfl rfl rfl rfl (ltb rfl) ?_)
     exact rfl
    refine VP.step (p := ?pv199) rfl rfl rfl (⟨_, _, rfl, rfl, rfl⟩) ?hv199 ?rest199 hck6
    case hv199 =>
     refine ⟨_, rfl, fun hg0 => ?_⟩
     intro E1
     refine (V1.move rfl rfl rfl (ltb rfl) ?_)
     exact rfl
    refine VP.step (p := ?pv200) rfl rfl rfl (⟨_, _, rfl, rfl, rfl⟩) ?hv200 ?rest200 hck6
    case hv200 =>
     refine ⟨_, rfl, fun hg1 => ?_⟩
     refine ⟨_, rfl, fun hg0 => ?_⟩
     intro E1
     refine (V1.move rfl rfl rfl (ltb rfl) ?_)
     exact rfl
    refine VP.step (p := ?pv201) rfl rfl rfl (⟨_, _, rfl, rfl, rfl⟩) ?hv201 ?rest201 hck6
    case hv201 =>
     refine ⟨_, rfl, fun hg1 => ?_⟩
     refine ⟨_, rfl, fun hg0 => ?_⟩
     intro E1
     refine (V1.move rfl rfl rfl (ltb rfl) ?_)
     exact rfl
    refine VP.step (p := ?pv202) rfl rfl rfl (⟨_, _, rfl, rfl, rfl⟩) ?hv202 ?rest202 hck6
    case hv202 =>
     refine ⟨_, rfl, fun hg1 => ?_⟩
     refine ⟨_, rfl, fun hg0 => ?_⟩
     intro E1
     refine (V1.int rfl rfl rfl rfl rfl (ltb rfl) ?_)
     exact rfl
    refine VP.step (p := ?pv203) rfl rfl rfl (⟨_, _, rfl, rfl, ⟨_, _, rfl, rfl, rfl⟩⟩) ?hv203 ?rest203 hck6
    case hv203 =>
     refine ⟨_, rfl, fun hg1 => ?_⟩
     refine ⟨_, rfl, fun hg0 => ?_⟩
     intro E1
     refine (V1.indexI rfl rfl esz_24 rfl rfl (hh2 hg0 hg1) (ltb rfl) ?_)
     exact rfl
    refine VP.step (p := ?pv204) rfl rfl rfl (⟨_, _, rfl, rfl, rfl⟩) ?hv204 ?rest204 hck6
    case hv204 =>
     refine ⟨_, rfl, fun hg1 => ?_⟩
     refine ⟨_, rfl, fun hg0 => ?_⟩
     intro E1
     refine (V1.fieldPin rfl rfl fo_40_0 rfl (ltb rfl) ?_)
     exact rfl
    refine VP.step (p := ?pv205) rfl rfl rfl (⟨_, _, rfl, rfl, rfl⟩) ?hv205 ?rest205 hck6
    case hv205 =>
     refine ⟨_, rfl, fun hg1 => ?_⟩
     refine ⟨_, rfl, fun hg0 => ?_⟩
     intro E1
     refine (V1.loadPin rfl rfl tyk_3 rfl rfl (ltb rfl) ?_)
     exact rfl
    refine VP.step (p := ?pv206) rfl rfl rfl (⟨_, _, rfl, rfl, rfl⟩) ?hv206 ?rest206 hck6
    case hv206 =>
     refine ⟨_, rfl, fun hg1 => ?_⟩
     refine ⟨_, rfl, fun hg0 => ?_⟩
     intro E1
     refine (V1.fieldRef rfl rfl fo_40_0 rfl (ltb rfl) ?_)
     exact rfl
    refine VP.step (p := ?pv207) rfl rfl rfl (⟨_, _, rfl, rfl, rfl⟩) ?hv207 ?rest207 hck6
    case hv207 =>
     refine ⟨_, rfl, fun hg1 => ?_⟩
     refine ⟨_, rfl, fun hg0 => ?_⟩
     intro E1
     refine (V1.loadRef (k := 0) rfl rfl tyk_3 rfl rfl rfl rfl rfl (ltb rfl) ?_)
     exact rfl
    refine VP.step (p := ?pv208) rfl rfl rfl (⟨_, _, rfl, rfl, ⟨_, _, rfl, rfl, rfl⟩⟩) ?hv208 ?rest208 hck6
    case hv208 =>
     refine ⟨_, rfl, fun hg1 => ?_⟩
     refine ⟨_, rfl, fun hg0 => ?_⟩
     intro E1
     refine (V1.int rfl rfl rfl rfl rfl (ltb rfl) ?_)
     exact rfl
    refine VP.pickAnd rfl rfl rfl rfl rfl rfl (⟨_, rfl, fun _ => trivial⟩) ?_ hck6
    refine VP.pickOr rfl rfl rfl rfl rfl rfl (trivial) ?_ hck6
    refine VP.fin rfl (⟨_, _, rfl, rfl, ⟨_, _, rfl, rfl, ⟨_, _, rfl, rfl, ⟨_, _, rfl, rfl, ⟨_, _, rfl, rfl, ⟨_, _, rfl, rfl, ⟨_, _, rfl, rfl, rfl⟩⟩⟩⟩⟩⟩⟩) ?_
    refine VO.nil ?_
    refine V.cond rfl (fun hc2 => ?_) (fun hc2 => ?_)
    ·
     replace hm1 := cond_t hc2 hm1
     refine V.seq ?_
     refine V.region ?_
     refine VO.cons rfl (V1.assign rfl rfl rfl (ltb rfl) ?_)
     refine VO.nil ?_
     refine V.ret ?_
     obtain rfl := hr1 _ (Option.some.inj hm1).symm
     change some _ = some _ at hm0
     obtain rfl := Option.some.inj hm0
     exact ⟨_, [], ⟨_, _, rfl, rfl, rfl⟩, List.nil_sublist _, rfl, rfl⟩
    ·
     replace hm1 := cond_f hc2 hm1
     refine V.skip ?_
     refine V.seq ?_
     refine V.seq ?_
     replace hm1 := asrt_some hm1; rcases hm1 with ⟨hh3, hm1⟩
     refine V.region ?_
     refine VO.cons rfl (V1.move rfl rfl rfl (ltb rfl) ?_)
     refine VO.cons rfl (V1.move rfl rfl rfl (ltb rfl) ?_)
     refine VO.cons rfl (V1.sliceMap (a := (0 : Int)) (b := v) rfl rfl esz_24 rfl (Bnd.none _ _) (Bnd.some rfl (Int.le_trans hh3.1 hh3.2.1) _) hh3 (ltb rfl) ?_)
     refine VO.cons rfl (V1.lenMap rfl rfl rfl rfl rfl rfl isl_24 (ltb rfl) ?_)
     refine VO.cons rfl (V1.move rfl rfl rfl (ltb rfl) ?_)
     refine VO.nil ?_
     replace hm1 := bindO hm1; rcases hm1 with ⟨e1, he2, hm1⟩
     refine V.cutT (D := (Unit) × (Unit)) (fun ⟨_, _⟩ => ⟨59, [(0, .vl ρ0 5 (List.map (encCarton ρ0) list)), (3, .int .i64 v), (4, .ref b0 5 0 0), (10, .vl ρ0 5 (List.map (encCarton ρ0) list)), (11, .int .i64 (list.length : Int)), (12, .int .i64 v)], [(b0, ⟨5, [encCarton ρ0 (list.getD (Int.toNat v) default)]⟩)]⟩) (fun ⟨_, _⟩ => (.inl () = e1)) ?_ ?_
     ·
      refine V.block ?_
      refine V.keep 59 [39, 0, 3, 4, 10, 11, 12, 37, 38] [0] (E0 := [(39, .int .i64 (0 : Int)), (0, .vl ρ0 5 (List.map (encCarton ρ0) list)), (3, .int .i64 v), (4, .ref b0 5 0 0), (10, .vl ρ0 5 (List.map (encCarton ρ0) list)), (11, .int .i64 (list.length : Int)), (12, .int .i64 v), (37, .vl ρ0 5 (List.map (encCarton ρ0) (slc list (0 : Int) v))), (38, .int .i64 ((slc list (0 : Int) v).length : Int))]) (H0 := [(b0, ⟨5, [encCarton ρ0 (list.getD (Int.toNat v) default)]⟩)]) rfl (⟨_, _, rfl, rfl, ⟨_, _, rfl, rfl, ⟨_, _, rfl, rfl, ⟨_, _, rfl, rfl, ⟨_, _, rfl, rfl, ⟨_, _, rfl, rfl, ⟨_, _, rfl, rfl, ⟨_, _, rfl, rfl, ⟨_, _, rfl, rfl, rfl⟩⟩⟩⟩⟩⟩⟩⟩⟩) (⟨_, _, rfl, rfl, rfl⟩) rfl ?_
      refine V.loopE (D := Nat × (Int) × (Unit)) (fun ⟨n1, v0, _⟩ => [(39, .int .i64 v0)]) (fun ⟨n1, v0, _⟩ => []) (fun ⟨n1, v0, _⟩ => loopO (M.impl_AreCartons_l1 list v) n1 v0 = some e1) (fun ⟨n1, _, _⟩ => n1) (rounds, (0 : Int), ()) rfl he2 ?_
      rintro ⟨n1, v0, _⟩ hP1
      obtain ⟨m1, y2, rfl, hm2, hl2, hr2⟩ := loop_head hP1
      unfold M.impl_AreCartons_l1 at hm2; dsimp only at hm2
      show V _ _ _ ⟨59, [(39, .int .i64 v0), (0, .vl ρ0 5 (List.map (encCarton ρ0) list)), (3, .int .i64 v), (4, .ref b0 5 0 0), (10, .vl ρ0 5 (List.map (encCarton ρ0) list)), (11, .int .i64 (list.length : Int)), (12, .int .i64 v), (37, .vl ρ0 5 (List.map (encCarton ρ0) (slc list (0 : Int) v))), (38, .int .i64 ((slc list (0 : Int) v).length : Int))], [(b0, ⟨5, [encCarton ρ0 (list.getD (Int.toNat v) default)]⟩)]⟩
      refine V.seq ?_
      refine V.region ?_
      refine VO.cons rfl (V1.int rfl rfl rfl rfl rfl (ltb rfl) ?_)
      refine VO.nil ?_
      refine V.seq ?_
      refine V.cond rfl (fun hc3 => ?_) (fun hc3 => ?_)
      ·
       replace hm2 := cond_t hc3 hm2
       refine V.skip ?_
       refine V.seq ?_
       refine V.block ?_
       refine V.seq ?_
       replace hm2 := asrt_some hm2; rcases hm2 with ⟨hh4, hm2⟩
       refine V.region ?_
       refine VO.cons rfl (V1.indexI rfl rfl esz_24 rfl rfl hh4 (ltb rfl) ?_)
       refine VO.cons rfl (V1.loadPinAll rfl rfl tyk_40 rfl rfl (ltb rfl) ?_)
       refine VO.cons rfl (V1.alloc rfl rfl zk_40 (ltb rfl) ?_)
       intro b1
       refine VO.cons rfl (V1.storeRefAll (k := 0) rfl rfl tyk_40 rfl rfl rfl rfl rfl rfl ?_)
       refine VO.nil ?_
       refine V.seq ?_
       replace hm2 := bindO hm2; rcases hm2 with ⟨y3, hh5, hm2⟩
       refine V.region ?_
       refine VO.cons rfl (V1.fieldRef rfl rfl fo_40_3 rfl (ltb rfl) ?_)
       refine VO.cons rfl (V1.loadRef (k := 1) rfl rfl tyk_38 rfl rfl rfl rfl rfl (ltb rfl) ?_)
       refine VO.cons rfl (V1.makeFunc rfl rfl rfl (ltb rfl) ?_)
       refine VO.cons rfl (V1.callL (rn + 1) [b1] [.vl ρ0 1 (List.map encInt ((list.getD (Int.toNat v) default).Files)), .fn 74 [.pin (rn + 1) (encCarton ρ0 ((slc list (0 : Int) v).getD (Int.toNat v0) default)) 0]] rfl rfl rfl cok_73 rfl ⟨_, _, rfl, .same _, ⟨_, _, rfl, Lend.fn ⟨_, _, rfl, Lend.ref 0 rfl rfl rfl rfl (.head _), rfl⟩, rfl⟩⟩ (bwCons (k := 0) rfl bwNil) (ok_slices_ContainsFunc_int_int hh5 (fm := (fun x0 => M.impl_AreCartons_1 x0 ((slc list (0 : Int) v).getD (Int.toNat v0) default))) cok_74 (fun _ _ h => ok_impl_AreCartons_1 h)) rfl (⟨(by first | omega | (dsimp only; omega)), by rintro _ _ ⟨rfl, rfl⟩; exact ⟨rfl, by simp⟩⟩) (ltb rfl) ?_)
       rintro _ _ ⟨rfl, rfl⟩
       refine VO.nil ?_
       refine V.keep 59 [0, 3, 4, 10, 11, 12, 37, 38, 39, 46] [1] (E0 := [(0, .vl ρ0 5 (List.map (encCarton ρ0) list)), (3, .int .i64 v), (4, .ref b0 5 0 0), (10, .vl ρ0 5 (List.map (encCarton ρ0) list)), (11, .int .i64 (list.length : Int)), (12, .int .i64 v), (37, .vl ρ0 5 (List.map (encCarton ρ0) (slc list (0 : Int) v))), (38, .int .i64 ((slc list (0 : Int) v).length : Int)), (39, .int .i64 v0), (46, .bool y3)]) (H0 := [(b0, ⟨5, [encCarton ρ0 (list.getD (Int.toNat v) default)]⟩)]) rfl (⟨_, _, rfl, rfl, ⟨_, _, rfl, rfl, ⟨_, _, rfl, rfl, ⟨_, _, rfl, rfl, ⟨_, _, rfl, rfl, ⟨_, _, rfl, rfl, ⟨_, _, rfl, rfl, ⟨_, _, rfl, rfl, ⟨_, _, rfl, rfl, ⟨_, _, rfl, rfl, rfl⟩⟩⟩⟩⟩⟩⟩⟩⟩⟩) (⟨_, _, rfl, rfl, rfl⟩) rfl ?_
       refine V.cond rfl (fun hc4 => ?_) (fun hc4 => ?_)
       ·
        replace hm2 := cond_t hc4 hm2
        refine V.seq ?_
        refine V.region ?_
        refine VO.cons rfl (V1.assign rfl rfl rfl (ltb rfl) ?_)
        refine VO.nil ?_
        refine V.ret ?_
        obtain rfl := hr2 _ (Option.some.inj hm2).symm
        change some _ = some _ at hm1
        obtain rfl := hr1 _ (Option.some.inj hm1).symm
        change some _ = some _ at hm0
        obtain rfl := Option.some.inj hm0
        exact ⟨_, [], ⟨_, _, rfl, rfl, rfl⟩, List.nil_sublist _, rfl, rfl⟩
       ·
        replace hm2 := cond_f hc4 hm2
        refine V.skip ?_
        refine V.region ?_
        refine VO.cons rfl (V1.int rfl rfl rfl rfl rfl (ltb rfl) ?_)
        refine VO.cons rfl (V1.move rfl rfl rfl (ltb rfl) ?_)
        refine VO.nil ?_
        exact ⟨(m1, (IntKind.i64.wrap (v0 + (1 : Int))), ()), hl2 _ (Option.some.inj hm2).symm, Nat.lt_succ_self _, Keeps.mk (ks := [0]) rfl ⟨rfl, rfl, rfl, rfl, rfl, rfl, rfl, rfl, rfl, trivial⟩ (⟨_, _, rfl, rfl, rfl⟩) rfl⟩
      ·
       replace hm2 := cond_f hc3 hm2
       refine V.exit ?_
       obtain rfl := hr2 _ (Option.some.inj hm2).symm
       exact ⟨((), ()), rfl, Keeps.mk (ks := [0]) rfl ⟨rfl, rfl, rfl, rfl, rfl, rfl, trivial⟩ (⟨_, _, rfl, rfl, rfl⟩) rfl⟩
     ·
      rintro ⟨_, _⟩ rfl
      try dsimp only at hm1
      refine V.seq ?_
      replace hm1 := asrt_some hm1; rcases hm1 with ⟨hh6, hm1⟩
      replace hm1 := bindO hm1; rcases hm1 with ⟨y4, hh7, hm1⟩
      refine V.regionM 59 8 [⟨[(0, none)], [], none⟩, ⟨[(3, none)], [], none⟩, ⟨[(49, some 0)], [], none⟩, ⟨[(48, some 2), (50, some 0)], [], none⟩, ⟨[(4, none)], [], none⟩, ⟨[(52, some 0)], [], none⟩, ⟨[(4, none)], [], none⟩, ⟨[(54, some 0)], [], none⟩] [(0, none), (10, none), (11, none), (12, none), (51, some 4), (53, some 2), (55, some 0)] (⟨_, rfl, ⟨_, rfl, ⟨_, rfl, ⟨_, rfl, ⟨_, rfl, ⟨_, rfl, ⟨_, rfl, ⟨_, rfl, ⟨rfl, rfl⟩⟩⟩⟩⟩⟩⟩⟩⟩) mixed_orders rfl (by decide +kernel) (fun hck14 => ?_)
      refine VP.step (p := ?pv209) rfl rfl rfl (⟨_, _, rfl, rfl, rfl⟩) ?hv209 ?rest209 hck14
      case hv209 =>
       intro E1
       refine (V1.move rfl rfl rfl (ltb rfl) ?_)
       exact rfl
      refine VP.step (p := ?pv210) rfl rfl rfl (⟨_, _, rfl, rfl, rfl⟩) ?hv210 ?rest210 hck14
      case hv210 =>
       intro E1
       refine (V1.move rfl rfl rfl (ltb rfl) ?_)
       exact rfl
      refine VP.step (p := ?pv211) rfl rfl rfl (⟨_, _, rfl, rfl, rfl⟩) ?hv211 ?rest211 hck14
      case hv211 =>
       intro E1
       refine (V1.int rfl rfl rfl rfl rfl (ltb rfl) ?_)
       exact rfl
      refine VP.step (p := ?pv212) rfl rfl rfl (⟨_, _, rfl, rfl, ⟨_, _, rfl, rfl, rfl⟩⟩) ?hv212 ?rest212 hck14
      case hv212 =>
       intro E1
       refine (V1.sliceMap (a := (0 : Int)) (b := (IntKind.i64.wrap (v + (1 : Int)))) rfl rfl esz_24 rfl (Bnd.none _ _) (Bnd.some rfl (Int.le_trans hh6.1 hh6.2.1) _) hh6 (ltb rfl) ?_)
       exact rfl
      refine VP.step (p := ?pv213) rfl rfl rfl (⟨_, _, rfl, rfl, rfl⟩) ?hv213 ?rest213 hck14
      case hv213 =>
       intro E1
       refine (V1.fieldRef rfl rfl fo_40_2 rfl (ltb rfl) ?_)
       exact rfl
      refine VP.step (p := ?pv214) rfl rfl rfl (⟨_, _, rfl, rfl, rfl⟩) ?hv214 ?rest214 hck14
      case hv214 =>
       intro E1
       refine (V1.loadRef (k := 0) rfl rfl tyk_3 rfl rfl rfl rfl rfl (ltb rfl) ?_)
       exact rfl
      refine VP.step (p := ?pv215) rfl rfl rfl (⟨_, _, rfl, rfl, rfl⟩) ?hv215 ?rest215 hck14
      case hv215 =>
       intro E1
       refine (V1.fieldRef rfl rfl fo_40_1 rfl (ltb rfl) ?_)
       exact rfl
      refine VP.step (p := ?pv216) rfl rfl rfl (⟨_, _, rfl, rfl, rfl⟩) ?hv216 ?rest216 hck14
      case hv216 =>
       intro E1
       refine (V1.loadRef (k := 0) rfl rfl tyk_3 rfl rfl rfl rfl rfl (ltb rfl) ?_)
       exact rfl
      refine VP.fin rfl (⟨_, _, rfl, rfl, ⟨_, _, rfl, rfl, ⟨_, _, rfl, rfl, ⟨_, _, rfl, rfl, ⟨_, _, rfl, rfl, ⟨_, _, rfl, rfl, ⟨_, _, rfl, rfl, rfl⟩⟩⟩⟩⟩⟩⟩) ?_
      refine VO.cons rfl (V1.call rfl rfl rfl cok_76 rfl (ok_impl_freeOn hh7) rfl (ltb rfl) ?_)
      rintro _ _ ⟨rfl, rfl⟩
      refine VO.cons rfl (V1.int rfl rfl rfl rfl rfl (ltb rfl) ?_)
      refine VO.nil ?_
      refine V.keep 59 [0, 10, 11, 12, 57] [] (E0 := [(0, .vl ρ0 5 (List.map (encCarton ρ0) list)), (10, .vl ρ0 5 (List.map (encCarton ρ0) list)), (11, .int .i64 (list.length : Int)), (12, .int .i64 v), (57, .bool (decide (y4 < (0 : Int))))]) (H0 := []) rfl (⟨_, _, rfl, rfl, ⟨_, _, rfl, rfl, ⟨_, _, rfl, rfl, ⟨_, _, rfl, rfl, ⟨_, _, rfl, rfl, rfl⟩⟩⟩⟩⟩) (rfl) rfl ?_
      refine V.cond rfl (fun hc5 => ?_) (fun hc5 => ?_)
      ·
       replace hm1 := cond_t hc5 hm1
       refine V.seq ?_
       refine V.region ?_
       refine VO.cons rfl (V1.assign rfl rfl rfl (ltb rfl) ?_)
       refine VO.nil ?_
       refine V.ret ?_
       obtain rfl := hr1 _ (Option.some.inj hm1).symm
       change some _ = some _ at hm0
       obtain rfl := Option.some.inj hm0
       exact ⟨_, [], ⟨_, _, rfl, rfl, rfl⟩, List.nil_sublist _, rfl, rfl⟩
      ·
       replace hm1 := cond_f hc5 hm1
       refine V.skip ?_
       refine V.region ?_
       refine VO.cons rfl (V1.int rfl rfl rfl rfl rfl (ltb rfl) ?_)
       refine VO.cons rfl (V1.move rfl rfl rfl (ltb rfl) ?_)
       refine VO.nil ?_
       exact ⟨(m0, (IntKind.i64.wrap (v + (1 : Int))), ()), hl1 _ (Option.some.inj hm1).symm, Nat.lt_succ_self _, Keeps.mk (ks := []) rfl ⟨rfl, rfl, rfl, rfl, trivial⟩ (rfl) rfl⟩
   ·
    replace hm1 := cond_f hc1 hm1
    refine V.exit ?_
    obtain rfl := hr1 _ (Option.some.inj hm1).symm
    exact ⟨((), ()), rfl, Keeps.mk (ks := []) rfl trivial (rfl) rfl⟩
  ·
   rintro ⟨_, _⟩ rfl
   try dsimp only at hm0
   refine V.seq ?_
   refine V.region ?_
   refine VO.cons rfl (V1.assign rfl rfl rfl (ltb rfl) ?_)
   refine VO.nil ?_
   refine V.ret ?_
   obtain rfl := Option.some.inj hm0
   exact ⟨_, [], ⟨_, _, rfl, rfl, rfl⟩, List.nil_sublist _, rfl, rfl⟩

theorem ok_impl_BestShelf {ρ0 rn : Nat} {list : List Carton} {room : Int} {thick : Int} {r : Int × Bool} (h : M.impl_BestShelf list room thick = some r) : Does Try.prog 23 [.vl ρ0 5 (List.map (encCarton ρ0) list), .int .i64 room, .int .i64 thick] [] rn (fun x H => x = .tup [.int .i64 r.1, .bool r.2] ∧ H = []) := by
 have hm0 := h; clear h; unfold M.impl_BestShelf at hm0
 try dsimp only at hm0
 refine Does.intro (N := 47) Try.func23 rfl rfl rfl rfl ?_
 intro w0 S0
 refine V.seq ?_
 refine V.region ?_
 refine VO.cons rfl (V1.assign rfl rfl rfl (ltb rfl) ?_)
 refine VO.cons rfl (V1.assign rfl rfl rfl (ltb rfl) ?_)
 refine VO.nil ?_
 refine V.seq ?_
 refine V.seq ?_
 replace hm0 := bindO hm0; rcases hm0 with ⟨y0, hh0, hm0⟩
 replace hm0 := bindO hm0; rcases hm0 with ⟨y1, hh1, hm0⟩
 replace hm0 := bindO hm0; rcases hm0 with ⟨y2, hh2, hm0⟩
 refine V.region ?_
 refine VO.cons rfl (V1.move rfl rfl rfl (ltb rfl) ?_)
 refine VO.cons rfl (V1.call rfl rfl rfl cok_12 rfl (ok_impl_AreCartons hh0) rfl (ltb rfl) ?_)
 rintro _ _ ⟨rfl, rfl⟩
 refine VO.cons rfl (V1.not rfl rfl rfl (ltb rfl) ?_)
 refine VO.cons rfl (V1.move rfl rfl rfl (ltb rfl) ?_)
 apply VO.or (n := 3) rfl rfl rfl rfl rfl rfl (ltb rfl) (.none rfl)
 ·
  intro hg0
  refine VO.step (.some rfl rfl rfl) (V1.move rfl rfl rfl (ltb rfl) ?_)
  refine VO.step (.some rfl rfl rfl) (V1.call rfl rfl rfl cok_79 rfl (ok_impl_isRoom (cond_f hg0 hh1)) rfl (ltb rfl) ?_)
  rintro _ _ ⟨rfl, rfl⟩
  refine VO.step (.some rfl rfl rfl) (V1.not rfl rfl rfl (ltb rfl) ?_)
  exact VO.nil ⟨rfl, rfl, rfl, rfl, .inr ⟨rfl, .inr ⟨rfl, .inr ⟨rfl, .inr ⟨rfl, .inl rfl⟩⟩⟩⟩⟩
 refine VO.cons rfl (V1.move rfl rfl rfl (ltb rfl) ?_)
 apply VO.or (n := 3) rfl rfl rfl rfl rfl rfl (ltb rfl) (.none rfl)
 ·
  intro hg1
  refine VO.step (.some rfl rfl rfl) (V1.move rfl rfl rfl (ltb rfl) ?_)
  refine VO.step (.some rfl rfl rfl) (V1.call rfl rfl rfl cok_82 rfl (ok_impl_within (cond_f hg1 hh2)) rfl (ltb rfl) ?_)
  rintro _ _ ⟨rfl, rfl⟩
  refine VO.step (.some rfl rfl rfl) (V1.not rfl rfl rfl (ltb rfl) ?_)
  exact VO.nil ⟨rfl, rfl, rfl, rfl, .inr ⟨rfl, .inr ⟨rfl, .inr ⟨rfl, .inr ⟨rfl, .inl rfl⟩⟩⟩⟩⟩
 refine VO.nil ?_
 refine V.keep 47 [0, 1, 2, 24] [] (E0 := [(0, .vl ρ0 5 (List.map (encCarton ρ0) list)), (1, .int .i64 room), (2, .int .i64 thick), (24, .bool (((!y0) || (!y1)) || (!y2)))]) (H0 := []) rfl (⟨_, _, rfl, rfl, ⟨_, _, rfl, rfl, ⟨_, _, rfl, rfl, ⟨_, _, rfl, rfl, rfl⟩⟩⟩⟩) (rfl) rfl ?_
 refine V.cond rfl (fun hc0 => ?_) (fun hc0 => ?_)
 ·
  replace hm0 := cond_t hc0 hm0
  refine V.seq ?_
  refine V.region ?_
  refine VO.cons rfl (V1.assign rfl rfl rfl (ltb rfl) ?_)
  refine VO.cons rfl (V1.assign rfl rfl rfl (ltb rfl) ?_)
  refine VO.nil ?_
  refine V.ret ?_
  obtain rfl := Option.some.inj hm0
  exact ⟨_, [], ⟨_, _, rfl, rfl, ⟨_, _, rfl, rfl, rfl⟩⟩, List.nil_sublist _, rfl, rfl⟩
 ·
  replace hm0 := cond_f hc0 hm0
  refine V.skip ?_
  refine V.seq ?_
  refine V.region ?_
  refine VO.cons rfl (V1.assign rfl rfl rfl (ltb rfl) ?_)
  refine VO.cons rfl (V1.assign rfl rfl rfl (ltb rfl) ?_)
  refine VO.nil ?_
  refine V.seq ?_
  refine V.seq ?_
  refine V.region ?_
  refine VO.cons rfl (V1.assign rfl rfl rfl (ltb rfl) ?_)
  refine VO.nil ?_
  replace hm0 := bindO hm0; rcases hm0 with ⟨e0, he1, hm0⟩
  refine V.cutT (D := (Int) × (Unit)) (fun ⟨best, _⟩ => ⟨47, [(8, .int .i64 best)], []⟩) (fun ⟨best, _⟩ => (best = e0)) ?_ ?_
  ·
   refine V.block ?_
   refine V.keep 47 [8, 9, 10, 0, 1, 2] [] (E0 := [(8, .int .i64 (0 : Int)), (9, .int .i64 (101 : Int)), (10, .int .i64 (1 : Int)), (0, .vl ρ0 5 (List.map (encCarton ρ0) list)), (1, .int .i64 room), (2, .int .i64 thick)]) (H0 := []) rfl (⟨_, _, rfl, rfl, ⟨_, _, rfl, rfl, ⟨_, _, rfl, rfl, ⟨_, _, rfl, rfl, ⟨_, _, rfl, rfl, ⟨_, _, rfl, rfl, rfl⟩⟩⟩⟩⟩⟩) (rfl) rfl ?_
   refine V.loopE (D := Nat × (Int × Int × Int) × (Unit)) (fun ⟨n0, ⟨best0, least, shelf⟩, _⟩ => [(8, .int .i64 best0), (9, .int .i64 least), (10, .int .i64 shelf)]) (fun ⟨n0, ⟨best0, least, shelf⟩, _⟩ => []) (fun ⟨n0, ⟨best0, least, shelf⟩, _⟩ => loopO (M.impl_BestShelf_l0 list room thick) n0 (best0, least, shelf) = some e0) (fun ⟨n0, _, _⟩ => n0) (rounds, ((0 : Int), (101 : Int), (1 : Int)), ()) rfl he1 ?_
   rintro ⟨n0, ⟨best0, least, shelf⟩, _⟩ hP0
   obtain ⟨m0, y3, rfl, hm1, hl1, hr1⟩ := loop_head hP0
   unfold M.impl_BestShelf_l0 at hm1; dsimp only at hm1
   show V _ _ _ ⟨47, [(8, .int .i64 best0), (9, .int .i64 least), (10, .int .i64 shelf), (0, .vl ρ0 5 (List.map (encCarton ρ0) list)), (1, .int .i64 room), (2, .int .i64 thick)], []⟩
   refine V.seq ?_
   refine V.seq ?_
   refine V.region ?_
   refine VO.cons rfl (V1.move rfl rfl rfl (ltb rfl) ?_)
   refine VO.cons rfl (V1.int rfl rfl rfl rfl rfl (ltb rfl) ?_)
   refine VO.nil ?_
   refine V.cond rfl (fun hc1 => ?_) (fun hc1 => ?_)
   ·
    replace hm1 := cond_t hc1 hm1
    refine V.skip ?_
    refine V.seq ?_
    replace hm1 := bindO hm1; rcases hm1 with ⟨j0, hm2, hm1⟩
    refine V.cutT (D := (Int × Int) × (Unit)) (fun ⟨⟨best1, least0⟩, _⟩ => ⟨47, [(8, .int .i64 best1), (9, .int .i64 least0), (0, .vl ρ0 5 (List.map (encCarton ρ0) list)), (1, .int .i64 room), (2, .int .i64 thick), (10, .int .i64 shelf)], []⟩) (fun ⟨⟨best1, least0⟩, _⟩ => ((best1, least0) = j0)) ?_ ?_
    ·
     refine V.block ?_
     refine V.seq ?_
     replace hm2 := bindO hm2; rcases hm2 with ⟨y4, hh3, hm2⟩
     refine V.region ?_
     refine VO.cons rfl (V1.move rfl rfl rfl (ltb rfl) ?_)
     refine VO.cons rfl (V1.move rfl rfl rfl (ltb rfl) ?_)
     refine VO.cons rfl (V1.move rfl rfl rfl (ltb rfl) ?_)
     refine VO.cons rfl (V1.call rfl rfl rfl cok_76 rfl (ok_impl_freeOn hh3) rfl (ltb rfl) ?_)
     rintro _ _ ⟨rfl, rfl⟩
     refine VO.cons rfl (V1.move rfl rfl rfl (ltb rfl) ?_)
     refine VO.cons rfl (V1.int rfl rfl rfl rfl rfl (ltb rfl) ?_)
     refine VO.cons rfl (V1.assign rfl rfl rfl (ltb rfl) ?_)
     refine VO.nil ?_
     refine V.keep 47 [0, 1, 2, 8, 9, 10, 11] [] (E0 := [(0, .vl ρ0 5 (List.map (encCarton ρ0) list)), (1, .int .i64 room), (2, .int .i64 thick), (8, .int .i64 best0), (9, .int .i64 least), (10, .int .i64 shelf), (11, .int .i64 (IntKind.i64.wrap (y4 - thick)))]) (H0 := []) rfl (⟨_, _, rfl, rfl, ⟨_, _, rfl, rfl, ⟨_, _, rfl, rfl, ⟨_, _, rfl, rfl, ⟨_, _, rfl, rfl, ⟨_, _, rfl, rfl, ⟨_, _, rfl, rfl, rfl⟩⟩⟩⟩⟩⟩⟩) (rfl) rfl ?_
     refine V.seq ?_
     refine V.region ?_
     refine VO.cons rfl (V1.move rfl rfl rfl (ltb rfl) ?_)
     refine VO.cons rfl (V1.int rfl rfl rfl rfl rfl (ltb rfl) ?_)
     refine VO.cons rfl (V1.move rfl rfl rfl (ltb rfl) ?_)
     apply VO.and (n := 3) rfl rfl rfl rfl rfl rfl (ltb rfl) (.none rfl)
     ·
      intro hg2
      refine VO.step (.some rfl rfl rfl) (V1.move rfl rfl rfl (ltb rfl) ?_)
      refine VO.step (.some rfl rfl rfl) (V1.move rfl rfl rfl (ltb rfl) ?_)
      refine VO.step (.some rfl rfl rfl) (V1.int rfl rfl rfl rfl rfl (ltb rfl) ?_)
      exact VO.nil ⟨rfl, rfl, rfl, rfl, .inr ⟨rfl, .inr ⟨rfl, .inr ⟨rfl, .inr ⟨rfl, .inl rfl⟩⟩⟩⟩⟩
     refine VO.nil ?_
     refine V.cond rfl (fun hc2 => ?_) (fun hc2 => ?_)
     ·
      replace hm2 := cond_t hc2 hm2
      refine V.region ?_
      refine VO.cons rfl (V1.move rfl rfl rfl (ltb rfl) ?_)
      refine VO.cons rfl (V1.move rfl rfl rfl (ltb rfl) ?_)
      refine VO.cons rfl (V1.assign rfl rfl rfl (ltb rfl) ?_)
      refine VO.cons rfl (V1.assign rfl rfl rfl (ltb rfl) ?_)
      refine VO.nil ?_
      exact ⟨((shelf, (IntKind.i64.wrap (y4 - thick))), ()), Option.some.inj hm2, Keeps.mk (ks := []) rfl ⟨rfl, rfl, rfl, rfl, rfl, rfl, trivial⟩ (rfl) rfl⟩
     ·
      replace hm2 := cond_f hc2 hm2
      refine V.skip ?_
      exact ⟨((best0, least), ()), Option.some.inj hm2, Keeps.mk (ks := []) rfl ⟨rfl, rfl, rfl, rfl, rfl, rfl, trivial⟩ (rfl) rfl⟩
    ·
     rintro ⟨⟨best1, least0⟩, _⟩ rfl
     try dsimp only at hm1
     refine V.region ?_
     refine VO.cons rfl (V1.move rfl rfl rfl (ltb rfl) ?_)
     refine VO.cons rfl (V1.int rfl rfl rfl rfl rfl (ltb rfl) ?_)
     refine VO.cons rfl (V1.assign rfl rfl rfl (ltb rfl) ?_)
     refine VO.nil ?_
     exact ⟨(m0, (best1, least0, (IntKind.i64.wrap (shelf + (1 : Int)))), ()), hl1 _ (Option.some.inj hm1).symm, Nat.lt_succ_self _, Keeps.mk (ks := []) rfl ⟨rfl, rfl, rfl, rfl, rfl, rfl, trivial⟩ (rfl) rfl⟩
   ·
    replace hm1 := cond_f hc1 hm1
    refine V.exit ?_
    obtain rfl := hr1 _ (Option.some.inj hm1).symm
    exact ⟨(best0, ()), rfl, Keeps.mk (ks := []) rfl ⟨rfl, trivial⟩ (rfl) rfl⟩
  ·
   rintro ⟨best, _⟩ rfl
   try dsimp only at hm0
   refine V.seq ?_
   refine V.region ?_
   refine VO.cons rfl (V1.move rfl rfl rfl (ltb rfl) ?_)
   refine VO.cons rfl (V1.move rfl rfl rfl (ltb rfl) ?_)
   refine VO.cons rfl (V1.int rfl rfl rfl rfl rfl (ltb rfl) ?_)
   refine VO.cons rfl (V1.assign rfl rfl rfl (ltb rfl) ?_)
   refine VO.cons rfl (V1.assign rfl rfl rfl (ltb rfl) ?_)
   refine VO.nil ?_
   refine V.ret ?_
   obtain rfl := Option.some.inj hm0
   exact ⟨_, [], ⟨_, _, rfl, rfl, ⟨_, _, rfl, rfl, rfl⟩⟩, List.nil_sublist _, rfl, rfl⟩

theorem ok_spec_BestShelf {ρ0 σ0 rn : Nat} {list : List Carton} {room : Int} {thick : Int} {r : Int × Bool} (h : M.spec_BestShelf list room thick = some r) : Does Try.prog 24 [.vl ρ0 5 (List.map (encCarton σ0) list), .int .i64 room, .int .i64 thick] [] rn (fun x H => x = .tup [.int .i64 r.1, .bool r.2] ∧ H = []) := by
 have hm0 := h; clear h; unfold M.spec_BestShelf at hm0
 try dsimp only at hm0
 refine Does.intro (N := 52) Try.func24 rfl rfl rfl rfl ?_
 intro w0 S0
 refine V.seq ?_
 refine V.region ?_
 refine VO.cons rfl (V1.assign rfl rfl rfl (ltb rfl) ?_)
 refine VO.cons rfl (V1.assign rfl rfl rfl (ltb rfl) ?_)
 refine VO.nil ?_
 refine V.seq ?_
 refine V.seq ?_
 replace hm0 := bindO hm0; rcases hm0 with ⟨y0, hh0, hm0⟩
 replace hm0 := bindO hm0; rcases hm0 with ⟨y1, hh1, hm0⟩
 replace hm0 := bindO hm0; rcases hm0 with ⟨y2, hh2, hm0⟩
 refine V.region ?_
 refine VO.cons rfl (V1.move rfl rfl rfl (ltb rfl) ?_)
 refine VO.cons rfl (V1.call rfl rfl rfl cok_69 rfl (ok_spec_l18Good hh0) rfl (ltb rfl) ?_)
 rintro _ _ ⟨rfl, rfl⟩
 refine VO.cons rfl (V1.not rfl rfl rfl (ltb rfl) ?_)
 refine VO.cons rfl (V1.move rfl rfl rfl (ltb rfl) ?_)
 apply VO.or (n := 3) rfl rfl rfl rfl rfl rfl (ltb rfl) (.none rfl)
 ·
  intro hg0
  refine VO.step (.some rfl rfl rfl) (V1.move rfl rfl rfl (ltb rfl) ?_)
  refine VO.step (.some rfl rfl rfl) (V1.call rfl rfl rfl cok_83 rfl (ok_spec_l18Place (cond_f hg0 hh1)) rfl (ltb rfl) ?_)
  rintro _ _ ⟨rfl, rfl⟩
  refine VO.step (.some rfl rfl rfl) (V1.not rfl rfl rfl (ltb rfl) ?_)
  exact VO.nil ⟨rfl, rfl, rfl, rfl, .inr ⟨rfl, .inr ⟨rfl, .inr ⟨rfl, .inr ⟨rfl, .inl rfl⟩⟩⟩⟩⟩
 refine VO.cons rfl (V1.move rfl rfl rfl (ltb rfl) ?_)
 apply VO.or (n := 3) rfl rfl rfl rfl rfl rfl (ltb rfl) (.none rfl)
 ·
  intro hg1
  refine VO.step (.some rfl rfl rfl) (V1.move rfl rfl rfl (ltb rfl) ?_)
  refine VO.step (.some rfl rfl rfl) (V1.call rfl rfl rfl cok_84 rfl (ok_spec_l1In (cond_f hg1 hh2)) rfl (ltb rfl) ?_)
  rintro _ _ ⟨rfl, rfl⟩
  refine VO.step (.some rfl rfl rfl) (V1.not rfl rfl rfl (ltb rfl) ?_)
  exact VO.nil ⟨rfl, rfl, rfl, rfl, .inr ⟨rfl, .inr ⟨rfl, .inr ⟨rfl, .inr ⟨rfl, .inl rfl⟩⟩⟩⟩⟩
 refine VO.nil ?_
 refine V.keep 52 [0, 1, 2, 23] [] (E0 := [(0, .vl ρ0 5 (List.map (encCarton σ0) list)), (1, .int .i64 room), (2, .int .i64 thick), (23, .bool (((!y0) || (!y1)) || (!y2)))]) (H0 := []) rfl (⟨_, _, rfl, rfl, ⟨_, _, rfl, rfl, ⟨_, _, rfl, rfl, ⟨_, _, rfl, rfl, rfl⟩⟩⟩⟩) (rfl) rfl ?_
 refine V.cond rfl (fun hc0 => ?_) (fun hc0 => ?_)
 ·
  replace hm0 := cond_t hc0 hm0
  refine V.seq ?_
  refine V.region ?_
  refine VO.cons rfl (V1.assign rfl rfl rfl (ltb rfl) ?_)
  refine VO.cons rfl (V1.assign rfl rfl rfl (ltb rfl) ?_)
  refine VO.nil ?_
  refine V.ret ?_
  obtain rfl := Option.some.inj hm0
  exact ⟨_, [], ⟨_, _, rfl, rfl, ⟨_, _, rfl, rfl, rfl⟩⟩, List.nil_sublist _, rfl, rfl⟩
 ·
  replace hm0 := cond_f hc0 hm0
  refine V.skip ?_
  refine V.seq ?_
  refine V.region ?_
  refine VO.cons rfl (V1.assign rfl rfl rfl (ltb rfl) ?_)
  refine VO.nil ?_
  refine V.seq ?_
  refine V.seq ?_
  refine V.region ?_
  refine VO.cons rfl (V1.assign rfl rfl rfl (ltb rfl) ?_)
  refine VO.nil ?_
  replace hm0 := bindO hm0; rcases hm0 with ⟨e0, he1, hm0⟩
  refine V.cutT (D := (Int) × (Unit)) (fun ⟨best, _⟩ => ⟨52, [(8, .int .i64 best)], []⟩) (fun ⟨best, _⟩ => (best = e0)) ?_ ?_
  ·
   refine V.block ?_
   refine V.keep 52 [8, 9, 0, 1, 2] [] (E0 := [(8, .int .i64 (0 : Int)), (9, .int .i64 (1 : Int)), (0, .vl ρ0 5 (List.map (encCarton σ0) list)), (1, .int .i64 room), (2, .int .i64 thick)]) (H0 := []) rfl (⟨_, _, rfl, rfl, ⟨_, _, rfl, rfl, ⟨_, _, rfl, rfl, ⟨_, _, rfl, rfl, ⟨_, _, rfl, rfl, rfl⟩⟩⟩⟩⟩) (rfl) rfl ?_
   refine V.loopE (D := Nat × (Int × Int) × (Unit)) (fun ⟨n0, ⟨best0, shelf⟩, _⟩ => [(8, .int .i64 best0), (9, .int .i64 shelf)]) (fun ⟨n0, ⟨best0, shelf⟩, _⟩ => []) (fun ⟨n0, ⟨best0, shelf⟩, _⟩ => loopO (M.spec_BestShelf_l0 list room thick) n0 (best0, shelf) = some e0) (fun ⟨n0, _, _⟩ => n0) (rounds, ((0 : Int), (1 : Int)), ()) rfl he1 ?_
   rintro ⟨n0, ⟨best0, shelf⟩, _⟩ hP0
   obtain ⟨m0, y3, rfl, hm1, hl1, hr1⟩ := loop_head hP0
   unfold M.spec_BestShelf_l0 at hm1; dsimp only at hm1
   show V _ _ _ ⟨52, [(8, .int .i64 best0), (9, .int .i64 shelf), (0, .vl ρ0 5 (List.map (encCarton σ0) list)), (1, .int .i64 room), (2, .int .i64 thick)], []⟩
   refine V.seq ?_
   refine V.seq ?_
   refine V.region ?_
   refine VO.cons rfl (V1.move rfl rfl rfl (ltb rfl) ?_)
   refine VO.cons rfl (V1.int rfl rfl rfl rfl rfl (ltb rfl) ?_)
   refine VO.nil ?_
   refine V.cond rfl (fun hc1 => ?_) (fun hc1 => ?_)
   ·
    replace hm1 := cond_t hc1 hm1
    refine V.skip ?_
    refine V.seq ?_
    replace hm1 := bindO hm1; rcases hm1 with ⟨j0, hm2, hm1⟩
    refine V.cutT (D := (Int) × (Unit)) (fun ⟨best1, _⟩ => ⟨52, [(8, .int .i64 best1), (0, .vl ρ0 5 (List.map (encCarton σ0) list)), (1, .int .i64 room), (2, .int .i64 thick), (9, .int .i64 shelf)], []⟩) (fun ⟨best1, _⟩ => (best1 = j0)) ?_ ?_
    ·
     refine V.block ?_
     refine V.seq ?_
     replace hm2 := bindO hm2; rcases hm2 with ⟨y4, hh3, hm2⟩
     refine V.region ?_
     refine VO.cons rfl (V1.move rfl rfl rfl (ltb rfl) ?_)
     refine VO.cons rfl (V1.move rfl rfl rfl (ltb rfl) ?_)
     refine VO.cons rfl (V1.move rfl rfl rfl (ltb rfl) ?_)
     refine VO.cons rfl (V1.call rfl rfl rfl cok_85 rfl (ok_spec_l18Taken hh3) rfl (ltb rfl) ?_)
     rintro _ _ ⟨rfl, rfl⟩
     refine VO.cons rfl (V1.assign rfl rfl rfl (ltb rfl) ?_)
     refine VO.nil ?_
     refine V.keep 52 [0, 1, 2, 8, 9, 10] [] (E0 := [(0, .vl ρ0 5 (List.map (encCarton σ0) list)), (1, .int .i64 room), (2, .int .i64 thick), (8, .int .i64 best0), (9, .int .i64 shelf), (10, .int .i64 y4)]) (H0 := []) rfl (⟨_, _, rfl, rfl, ⟨_, _, rfl, rfl, ⟨_, _, rfl, rfl, ⟨_, _, rfl, rfl, ⟨_, _, rfl, rfl, ⟨_, _, rfl, rfl, rfl⟩⟩⟩⟩⟩⟩) (rfl) rfl ?_
     refine V.seq ?_
     replace hm2 := bindO hm2; rcases hm2 with ⟨y5, hh4, hm2⟩
     refine V.region ?_
     refine VO.cons rfl (V1.move rfl rfl rfl (ltb rfl) ?_)
     refine VO.cons rfl (V1.move rfl rfl rfl (ltb rfl) ?_)
     refine VO.cons rfl (V1.int rfl rfl rfl rfl rfl (ltb rfl) ?_)
     refine VO.cons rfl (V1.int rfl rfl rfl rfl rfl (ltb rfl) ?_)
     refine VO.cons rfl (V1.move rfl rfl rfl (ltb rfl) ?_)
     apply VO.and (n := 10) rfl rfl rfl rfl rfl rfl (ltb rfl) (.none rfl)
     ·
      intro hg2
      refine VO.step (.some rfl rfl rfl) (V1.move rfl rfl rfl (ltb rfl) ?_)
      refine VO.step (.some rfl rfl rfl) (V1.int rfl rfl rfl rfl rfl (ltb rfl) ?_)
      refine VO.step (.some rfl rfl rfl) (V1.move rfl rfl rfl (ltb rfl) ?_)
      apply VO.or (n := 6) rfl rfl rfl rfl rfl rfl (ltb rfl) (.some rfl rfl rfl)
      ·
       intro hg3
       refine VO.step (.some rfl rfl rfl) (V1.move rfl rfl rfl (ltb rfl) ?_)
       refine VO.step (.some rfl rfl rfl) (V1.move rfl rfl rfl (ltb rfl) ?_)
       refine VO.step (.some rfl rfl rfl) (V1.move rfl rfl rfl (ltb rfl) ?_)
       refine VO.step (.some rfl rfl rfl) (V1.move rfl rfl rfl (ltb rfl) ?_)
       refine VO.step (.some rfl rfl rfl) (V1.call rfl rfl rfl cok_85 rfl (ok_spec_l18Taken (cond_f hg3 (cond_t hg2 hh4))) rfl (ltb rfl) ?_)
       rintro _ _ ⟨rfl, rfl⟩
       refine VO.step (.some rfl rfl rfl) (V1.int rfl rfl rfl rfl rfl (ltb rfl) ?_)
       exact VO.nil ⟨rfl, rfl, rfl, rfl, .inr ⟨rfl, .inr ⟨rfl, .inr ⟨rfl, .inr ⟨rfl, .inr ⟨rfl, .inr ⟨rfl, .inr ⟨rfl, .inl rfl⟩⟩⟩⟩⟩⟩⟩⟩
      exact VO.nil ⟨rfl, rfl, rfl, rfl, .inr ⟨rfl, .inr ⟨rfl, .inr ⟨rfl, .inr ⟨rfl, .inr ⟨rfl, .inl rfl⟩⟩⟩⟩⟩⟩
     refine VO.nil ?_
     refine V.keep 52 [0, 1, 2, 8, 9, 47] [] (E0 := [(0, .vl ρ0 5 (List.map (encCarton σ0) list)), (1, .int .i64 room), (2, .int .i64 thick), (8, .int .i64 best0), (9, .int .i64 shelf), (47, .bool ((decide ((IntKind.i64.wrap (y4 + thick)) ≤ (100 : Int))) && ((best0 == (0 : Int)) || (decide (y4 > y5)))))]) (H0 := []) rfl (⟨_, _, rfl, rfl, ⟨_, _, rfl, rfl, ⟨_, _, rfl, rfl, ⟨_, _, rfl, rfl, ⟨_, _, rfl, rfl, ⟨_, _, rfl, rfl, rfl⟩⟩⟩⟩⟩⟩) (rfl) rfl ?_
     refine V.cond rfl (fun hc2 => ?_) (fun hc2 => ?_)
     ·
      replace hm2 := cond_t hc2 hm2
      refine V.region ?_
      refine VO.cons rfl (V1.move rfl rfl rfl (ltb rfl) ?_)
      refine VO.cons rfl (V1.assign rfl rfl rfl (ltb rfl) ?_)
      refine VO.nil ?_
      exact ⟨(shelf, ()), Option.some.inj hm2, Keeps.mk (ks := []) rfl ⟨rfl, rfl, rfl, rfl, rfl, trivial⟩ (rfl) rfl⟩
     ·
      replace hm2 := cond_f hc2 hm2
      refine V.skip ?_
      exact ⟨(best0, ()), Option.some.inj hm2, Keeps.mk (ks := []) rfl ⟨rfl, rfl, rfl, rfl, rfl, trivial⟩ (rfl) rfl⟩
    ·
     rintro ⟨best1, _⟩ rfl
     try dsimp only at hm1
     refine V.region ?_
     refine VO.cons rfl (V1.move rfl rfl rfl (ltb rfl) ?_)
     refine VO.cons rfl (V1.int rfl rfl rfl rfl rfl (ltb rfl) ?_)
     refine VO.cons rfl (V1.assign rfl rfl rfl (ltb rfl) ?_)
     refine VO.nil ?_
     exact ⟨(m0, (best1, (IntKind.i64.wrap (shelf + (1 : Int)))), ()), hl1 _ (Option.some.inj hm1).symm, Nat.lt_succ_self _, Keeps.mk (ks := []) rfl ⟨rfl, rfl, rfl, rfl, rfl, trivial⟩ (rfl) rfl⟩
   ·
    replace hm1 := cond_f hc1 hm1
    refine V.exit ?_
    obtain rfl := hr1 _ (Option.some.inj hm1).symm
    exact ⟨(best0, ()), rfl, Keeps.mk (ks := []) rfl ⟨rfl, trivial⟩ (rfl) rfl⟩
  ·
   rintro ⟨best, _⟩ rfl
   try dsimp only at hm0
   refine V.seq ?_
   refine V.region ?_
   refine VO.cons rfl (V1.move rfl rfl rfl (ltb rfl) ?_)
   refine VO.cons rfl (V1.move rfl rfl rfl (ltb rfl) ?_)
   refine VO.cons rfl (V1.int rfl rfl rfl rfl rfl (ltb rfl) ?_)
   refine VO.cons rfl (V1.assign rfl rfl rfl (ltb rfl) ?_)
   refine VO.cons rfl (V1.assign rfl rfl rfl (ltb rfl) ?_)
   refine VO.nil ?_
   refine V.ret ?_
   obtain rfl := Option.some.inj hm0
   exact ⟨_, [], ⟨_, _, rfl, rfl, ⟨_, _, rfl, rfl, rfl⟩⟩, List.nil_sublist _, rfl, rfl⟩

theorem ok_impl_FreeOn {ρ0 rn : Nat} {list : List Carton} {room : Int} {shelf : Int} {r : Int × Bool} (h : M.impl_FreeOn list room shelf = some r) : Does Try.prog 16 [.vl ρ0 5 (List.map (encCarton ρ0) list), .int .i64 room, .int .i64 shelf] [] rn (fun x H => x = .tup [.int .i64 r.1, .bool r.2] ∧ H = []) := by
 have hm0 := h; clear h; unfold M.impl_FreeOn at hm0
 try dsimp only at hm0
 refine Does.intro (N := 25) Try.func16 rfl rfl rfl rfl ?_
 intro w0 S0
 refine V.seq ?_
 refine V.region ?_
 refine VO.cons rfl (V1.assign rfl rfl rfl (ltb rfl) ?_)
 refine VO.cons rfl (V1.assign rfl rfl rfl (ltb rfl) ?_)
 refine VO.nil ?_
 refine V.seq ?_
 refine V.seq ?_
 replace hm0 := bindO hm0; rcases hm0 with ⟨y0, hh0, hm0⟩
 replace hm0 := bindO hm0; rcases hm0 with ⟨y1, hh1, hm0⟩
 replace hm0 := bindO hm0; rcases hm0 with ⟨y2, hh2, hm0⟩
 refine V.region ?_
 refine VO.cons rfl (V1.move rfl rfl rfl (ltb rfl) ?_)
 refine VO.cons rfl (V1.call rfl rfl rfl cok_12 rfl (ok_impl_AreCartons hh0) rfl (ltb rfl) ?_)
 rintro _ _ ⟨rfl, rfl⟩
 refine VO.cons rfl (V1.not rfl rfl rfl (ltb rfl) ?_)
 refine VO.cons rfl (V1.move rfl rfl rfl (ltb rfl) ?_)
 apply VO.or (n := 3) rfl rfl rfl rfl rfl rfl (ltb rfl) (.none rfl)
 ·
  intro hg0
  refine VO.step (.some rfl rfl rfl) (V1.move rfl rfl rfl (ltb rfl) ?_)
  refine VO.step (.some rfl rfl rfl) (V1.call rfl rfl rfl cok_79 rfl (ok_impl_isRoom (cond_f hg0 hh1)) rfl (ltb rfl) ?_)
  rintro _ _ ⟨rfl, rfl⟩
  refine VO.step (.some rfl rfl rfl) (V1.not rfl rfl rfl (ltb rfl) ?_)
  exact VO.nil ⟨rfl, rfl, rfl, rfl, .inr ⟨rfl, .inr ⟨rfl, .inr ⟨rfl, .inr ⟨rfl, .inl rfl⟩⟩⟩⟩⟩
 refine VO.cons rfl (V1.move rfl rfl rfl (ltb rfl) ?_)
 apply VO.or (n := 3) rfl rfl rfl rfl rfl rfl (ltb rfl) (.none rfl)
 ·
  intro hg1
  refine VO.step (.some rfl rfl rfl) (V1.move rfl rfl rfl (ltb rfl) ?_)
  refine VO.step (.some rfl rfl rfl) (V1.call rfl rfl rfl cok_80 rfl (ok_impl_isShelf (cond_f hg1 hh2)) rfl (ltb rfl) ?_)
  rintro _ _ ⟨rfl, rfl⟩
  refine VO.step (.some rfl rfl rfl) (V1.not rfl rfl rfl (ltb rfl) ?_)
  exact VO.nil ⟨rfl, rfl, rfl, rfl, .inr ⟨rfl, .inr ⟨rfl, .inr ⟨rfl, .inr ⟨rfl, .inl rfl⟩⟩⟩⟩⟩
 refine VO.nil ?_
 refine V.keep 25 [0, 1, 2, 20] [] (E0 := [(0, .vl ρ0 5 (List.map (encCarton ρ0) list)), (1, .int .i64 room), (2, .int .i64 shelf), (20, .bool (((!y0) || (!y1)) || (!y2)))]) (H0 := []) rfl (⟨_, _, rfl, rfl, ⟨_, _, rfl, rfl, ⟨_, _, rfl, rfl, ⟨_, _, rfl, rfl, rfl⟩⟩⟩⟩) (rfl) rfl ?_
 refine V.cond rfl (fun hc0 => ?_) (fun hc0 => ?_)
 ·
  replace hm0 := cond_t hc0 hm0
  refine V.seq ?_
  refine V.region ?_
  refine VO.cons rfl (V1.assign rfl rfl rfl (ltb rfl) ?_)
  refine VO.cons rfl (V1.assign rfl rfl rfl (ltb rfl) ?_)
  refine VO.nil ?_
  refine V.ret ?_
  obtain rfl := Option.some.inj hm0
  exact ⟨_, [], ⟨_, _, rfl, rfl, ⟨_, _, rfl, rfl, rfl⟩⟩, List.nil_sublist _, rfl, rfl⟩
 ·
  replace hm0 := cond_f hc0 hm0
  refine V.skip ?_
  refine V.seq ?_
  replace hm0 := bindO hm0; rcases hm0 with ⟨y3, hh3, hm0⟩
  refine V.region ?_
  refine VO.cons rfl (V1.move rfl rfl rfl (ltb rfl) ?_)
  refine VO.cons rfl (V1.move rfl rfl rfl (ltb rfl) ?_)
  refine VO.cons rfl (V1.move rfl rfl rfl (ltb rfl) ?_)
  refine VO.cons rfl (V1.call rfl rfl rfl cok_76 rfl (ok_impl_freeOn hh3) rfl (ltb rfl) ?_)
  rintro _ _ ⟨rfl, rfl⟩
  refine VO.cons rfl (V1.assign rfl rfl rfl (ltb rfl) ?_)
  refine VO.cons rfl (V1.assign rfl rfl rfl (ltb rfl) ?_)
  refine VO.nil ?_
  refine V.ret ?_
  obtain rfl := Option.some.inj hm0
  exact ⟨_, [], ⟨_, _, rfl, rfl, ⟨_, _, rfl, rfl, rfl⟩⟩, List.nil_sublist _, rfl, rfl⟩

theorem ok_spec_DrawPullList {ρ0 rn : Nat} {code : List Int} {r : List Carton × List Int} (h : M.spec_DrawPullList code = some r) : Does Try.prog 25 [.vl ρ0 1 (List.map encU8 code)] [] rn (fun x H => ∃ (ob0_ : Nat) (ob1_ : Nat), x = .tup [PV.sref ob0_ 5 0 (List.length r.1), PV.sref ob1_ 1 0 (List.length r.2)] ∧ H = [(ob0_, ⟨5, List.map (encCarton rn) r.1⟩)] ++ [(ob1_, ⟨1, List.map encInt r.2⟩)]) := by
 have hm0 := h; clear h; unfold M.spec_DrawPullList at hm0
 try dsimp only at hm0
 refine Does.intro (N := 59) Try.func25 rfl rfl rfl rfl ?_
 intro w0 S0
 refine V.seq ?_
 refine V.region ?_
 refine VO.cons rfl (V1.assign rfl rfl rfl (ltb rfl) ?_)
 refine VO.cons rfl (V1.assign rfl rfl rfl (ltb rfl) ?_)
 refine VO.nil ?_
 refine V.seq ?_
 refine V.region ?_
 refine VO.cons rfl (V1.move rfl rfl rfl (ltb rfl) ?_)
 refine VO.cons rfl (V1.build rfl rfl zk_77 pl_77 rfl rfl (ltb rfl) ?_)
 refine VO.cons rfl (V1.boxN (n := 3) rfl rfl rfl rfl rfl (ltb rfl) ?_)
 intro b0
 refine VO.cons rfl (V1.assign rfl rfl rfl (ltb rfl) ?_)
 refine VO.nil ?_
 refine V.keep 59 [4] [0] (E0 := [(4, .ref b0 3 0 0)]) (H0 := [(b0, ⟨3, [.agg [.vl ρ0 1 (List.map encU8 code), .int .i64 (0 : Int), .int .u64 (0 : Int)]]⟩)]) rfl (⟨_, _, rfl, rfl, rfl⟩) (⟨_, _, rfl, rfl, rfl⟩) rfl ?_
 refine V.seq ?_
 replace hm0 := bindO hm0; rcases hm0 with ⟨y0, hh0, hm0⟩
 refine V.region ?_
 refine VO.cons rfl (V1.move rfl rfl rfl (ltb rfl) ?_)
 refine VO.cons rfl (V1.callM 0 (rn + ρ0 + 1) [] [.ref b0 3 0 0] (p := (b0, ⟨3, [.agg [.vl ρ0 1 (List.map encU8 code), .int .i64 (0 : Int), .int .u64 (0 : Int)]]⟩)) rfl rfl rfl cok_58 rfl rfl ⟨_, _, rfl, .same _, rfl⟩ bwNil (ok_spec_l1Cur_cartons hh0) rfl (.inl rfl) (ltb rfl) ?_)
 rintro _ _ ⟨b1, rfl, rfl⟩
 refine VO.cons rfl (V1.assign rfl rfl rfl (ltb rfl) ?_)
 refine VO.nil ?_
 refine V.seq ?_
 refine V.region ?_
 refine VO.cons rfl (V1.buildSliceT (f := encInt) ([] : List Int) rfl rfl esz_38 zk_3 rfl rfl rfl rfl rfl rfl rfl (ltb rfl) ?_)
 intro b2
 refine VO.cons rfl (V1.assign rfl rfl rfl (ltb rfl) ?_)
 refine VO.nil ?_
 refine V.seq ?_
 refine V.seq ?_
 refine V.region ?_
 refine VO.cons rfl (V1.assign rfl rfl rfl (ltb rfl) ?_)
 refine VO.nil ?_
 replace hm0 := bindO hm0; rcases hm0 with ⟨e0, he1, hm0⟩
 refine V.cutT (D := (List Int × Cur) × (Nat)) (fun ⟨⟨files, c_⟩, b3⟩ => ⟨59, [(6, .sref b3 1 0 (List.length files)), (4, .ref b0 3 0 0), (5, .sref b1 5 0 (List.length y0.1))], [(b3, ⟨1, List.map encInt files⟩), (b0, ⟨3, [encCur ρ0 c_]⟩), (b1, ⟨5, List.map (encCarton rn) y0.1⟩)]⟩) (fun ⟨⟨files, c_⟩, b3⟩ => ((files, c_) = e0)) ?_ ?_
 ·
  refine V.block ?_
  refine V.keep 59 [6, 7, 4, 5] [0, 2, 1] (E0 := [(6, .sref b2 1 0 (List.length ([] : List Int))), (7, .int .i64 (0 : Int)), (4, .ref b0 3 0 0), (5, .sref b1 5 0 (List.length y0.1))]) (H0 := [(b2, ⟨1, List.map encInt ([] : List Int)⟩), (b0, ⟨3, [encCur ρ0 y0.2]⟩), (b1, ⟨5, List.map (encCarton rn) y0.1⟩)]) rfl (⟨_, _, rfl, rfl, ⟨_, _, rfl, rfl, ⟨_, _, rfl, rfl, ⟨_, _, rfl, rfl, rfl⟩⟩⟩⟩) (⟨_, _, rfl, rfl, ⟨_, _, rfl, rfl, ⟨_, _, rfl, rfl, rfl⟩⟩⟩) rfl ?_
  refine V.loopE (D := Nat × (List Int × Int × Cur) × (Nat)) (fun ⟨n0, ⟨files0, i, c_0⟩, b4⟩ => [(6, .sref b4 1 0 (List.length files0)), (7, .int .i64 i)]) (fun ⟨n0, ⟨files0, i, c_0⟩, b4⟩ => [(b4, ⟨1, List.map encInt files0⟩), (b0, ⟨3, [encCur ρ0 c_0]⟩)]) (fun ⟨n0, ⟨files0, i, c_0⟩, b4⟩ => loopO (M.spec_DrawPullList_l0 y0) n0 (files0, i, c_0) = some e0) (fun ⟨n0, _, _⟩ => n0) (rounds, (([] : List Int), (0 : Int), y0.2), b2) rfl he1 ?_
  rintro ⟨n0, ⟨files0, i, c_0⟩, b4⟩ hP0
  obtain ⟨m0, y1, rfl, hm1, hl1, hr1⟩ := loop_head hP0
  unfold M.spec_DrawPullList_l0 at hm1; dsimp only at hm1
  show V _ _ _ ⟨59, [(6, .sref b4 1 0 (List.length files0)), (7, .int .i64 i), (4, .ref b0 3 0 0), (5, .sref b1 5 0 (List.length y0.1))], [(b4, ⟨1, List.map encInt files0⟩), (b0, ⟨3, [encCur ρ0 c_0]⟩), (b1, ⟨5, List.map (encCarton rn) y0.1⟩)]⟩
  refine V.seq ?_
  refine V.seq ?_
  refine V.region ?_
  refine VO.cons rfl (V1.move rfl rfl rfl (ltb rfl) ?_)
  refine VO.cons rfl (V1.move rfl rfl rfl (ltb rfl) ?_)
  refine VO.cons rfl (V1.lenSref rfl rfl rfl rfl rfl rfl isl_24 (ltb rfl) ?_)
  refine VO.cons rfl (V1.int rfl rfl rfl rfl rfl (ltb rfl) ?_)
  refine VO.nil ?_
  refine V.cond rfl (fun hc0 => ?_) (fun hc0 => ?_)
  ·
   replace hm1 := cond_t hc0 hm1
   refine V.skip ?_
   refine V.keep 59 [4, 5, 6, 7] [0, 1, 2] (E0 := [(4, .ref b0 3 0 0), (5, .sref b1 5 0 (List.length y0.1)), (6, .sref b4 1 0 (List.length files0)), (7, .int .i64 i)]) (H0 := [(b4, ⟨1, List.map encInt files0⟩), (b0, ⟨3, [encCur ρ0 c_0]⟩), (b1, ⟨5, List.map (encCarton rn) y0.1⟩)]) rfl (⟨_, _, rfl, rfl, ⟨_, _, rfl, rfl, ⟨_, _, rfl, rfl, ⟨_, _, rfl, rfl, rfl⟩⟩⟩⟩) (⟨_, _, rfl, rfl, ⟨_, _, rfl, rfl, ⟨_, _, rfl, rfl, rfl⟩⟩⟩) rfl ?_
   refine V.seq ?_
   refine V.block ?_
   refine V.seq ?_
   refine V.region ?_
   refine VO.cons rfl (V1.assign rfl rfl rfl (ltb rfl) ?_)
   refine VO.nil ?_
   replace hm1 := bindO hm1; rcases hm1 with ⟨e1, he2, hm1⟩
   refine V.cutT (D := (List Int × Cur) × (Nat)) (fun ⟨⟨files1, c_1⟩, b5⟩ => ⟨59, [(6, .sref b5 1 0 (List.length files1)), (4, .ref b0 3 0 0), (5, .sref b1 5 0 (List.length y0.1)), (7, .int .i64 i)], [(b5, ⟨1, List.map encInt files1⟩), (b0, ⟨3, [encCur ρ0 c_1]⟩), (b1, ⟨5, List.map (encCarton rn) y0.1⟩)]⟩) (fun ⟨⟨files1, c_1⟩, b5⟩ => ((files1, c_1) = e1)) ?_ ?_
   ·
    refine V.block ?_
    refine V.keep 59 [6, 8, 4, 5, 7] [0, 1, 2] (E0 := [(6, .sref b4 1 0 (List.length files0)), (8, .int .i64 (0 : Int)), (4, .ref b0 3 0 0), (5, .sref b1 5 0 (List.length y0.1)), (7, .int .i64 i)]) (H0 := [(b4, ⟨1, List.map encInt files0⟩), (b0, ⟨3, [encCur ρ0 c_0]⟩), (b1, ⟨5, List.map (encCarton rn) y0.1⟩)]) rfl (⟨_, _, rfl, rfl, ⟨_, _, rfl, rfl, ⟨_, _, rfl, rfl, ⟨_, _, rfl, rfl, ⟨_, _, rfl, rfl, rfl⟩⟩⟩⟩⟩) (⟨_, _, rfl, rfl, ⟨_, _, rfl, rfl, ⟨_, _, rfl, rfl, rfl⟩⟩⟩) rfl ?_
    refine V.loopE (D := Nat × (List Int × Int × Cur) × (Nat)) (fun ⟨n1, ⟨files2, k, c_2⟩, b6⟩ => [(6, .sref b6 1 0 (List.length files2)), (8, .int .i64 k)]) (fun ⟨n1, ⟨files2, k, c_2⟩, b6⟩ => [(b6, ⟨1, List.map encInt files2⟩), (b0, ⟨3, [encCur ρ0 c_2]⟩)]) (fun ⟨n1, ⟨files2, k, c_2⟩, b6⟩ => loopO (M.spec_DrawPullList_l1 y0 i) n1 (files2, k, c_2) = some e1) (fun ⟨n1, _, _⟩ => n1) (rounds, (files0, (0 : Int), c_0), b4) rfl he2 ?_
    rintro ⟨n1, ⟨files2, k, c_2⟩, b6⟩ hP1
    obtain ⟨m1, y2, rfl, hm2, hl2, hr2⟩ := loop_head hP1
    unfold M.spec_DrawPullList_l1 at hm2; dsimp only at hm2
    show V _ _ _ ⟨59, [(6, .sref b6 1 0 (List.length files2)), (8, .int .i64 k), (4, .ref b0 3 0 0), (5, .sref b1 5 0 (List.length y0.1)), (7, .int .i64 i)], [(b6, ⟨1, List.map encInt files2⟩), (b0, ⟨3, [encCur ρ0 c_2]⟩), (b1, ⟨5, List.map (encCarton rn) y0.1⟩)]⟩
    refine V.seq ?_
    refine V.seq ?_
    replace hm2 := asrt_some hm2; rcases hm2 with ⟨hh1, hm2⟩
    refine V.region ?_
    refine VO.cons rfl (V1.move rfl rfl rfl (ltb rfl) ?_)
    refine VO.cons rfl (V1.move rfl rfl rfl (ltb rfl) ?_)
    refine VO.cons rfl (V1.move rfl rfl rfl (ltb rfl) ?_)
    refine VO.cons rfl (V1.indexSr rfl rfl esz_24 rfl rfl hh1 (ltb rfl) ?_)
    refine VO.cons rfl (V1.fieldRef rfl rfl fo_40_3 rfl (ltb rfl) ?_)
    refine VO.cons rfl (V1.loadMap (k := 2) (f := (encCarton rn)) rfl rfl tyk_38 rfl rfl (by simpa using natLt hh1.1 hh1.2) rfl (ltb rfl) ?_)
    refine VO.cons rfl (V1.lenMap rfl rfl rfl rfl rfl rfl isl_38 (ltb rfl) ?_)
    refine VO.cons rfl (V1.int rfl rfl rfl rfl rfl (ltb rfl) ?_)
    refine VO.nil ?_
    refine V.keep 59 [4, 5, 6, 7, 8, 28] [0, 1, 2] (E0 := [(4, .ref b0 3 0 0), (5, .sref b1 5 0 (List.length y0.1)), (6, .sref b6 1 0 (List.length files2)), (7, .int .i64 i), (8, .int .i64 k), (28, .bool (decide (k < (((y0.1.getD (Int.toNat i) default).Files).length : Int))))]) (H0 := [(b6, ⟨1, List.map encInt files2⟩), (b0, ⟨3, [encCur ρ0 c_2]⟩), (b1, ⟨5, List.map (encCarton rn) y0.1⟩)]) rfl (⟨_, _, rfl, rfl, ⟨_, _, rfl, rfl, ⟨_, _, rfl, rfl, ⟨_, _, rfl, rfl, ⟨_, _, rfl, rfl, ⟨_, _, rfl, rfl, rfl⟩⟩⟩⟩⟩⟩) (⟨_, _, rfl, rfl, ⟨_, _, rfl, rfl, ⟨_, _, rfl, rfl, rfl⟩⟩⟩) rfl ?_
    refine V.cond rfl (fun hc1 => ?_) (fun hc1 => ?_)
    ·
     replace hm2 := cond_t hc1 hm2
     refine V.skip ?_
     refine V.seq ?_
     replace hm2 := bindO hm2; rcases hm2 with ⟨j0, hm3, hm2⟩
     refine V.cutT (D := (List Int × Cur) × (Nat)) (fun ⟨⟨files3, c_3⟩, b7⟩ => ⟨59, [(6, .sref b7 1 0 (List.length files3)), (4, .ref b0 3 0 0), (5, .sref b1 5 0 (List.length y0.1)), (7, .int .i64 i), (8, .int .i64 k)], [(b7, ⟨1, List.map encInt files3⟩), (b0, ⟨3, [encCur ρ0 c_3]⟩), (b1, ⟨5, List.map (encCarton rn) y0.1⟩)]⟩) (fun ⟨⟨files3, c_3⟩, b7⟩ => ((files3, c_3) = j0)) ?_ ?_
     ·
      refine V.block ?_
      refine V.seq ?_
      replace hm3 := bindO hm3; rcases hm3 with ⟨y3, hh2, hm3⟩
      refine V.region ?_
      refine VO.cons rfl (V1.move rfl rfl rfl (ltb rfl) ?_)
      refine VO.cons rfl (V1.callM 1 (rn + ρ0 + 1) [] [.ref b0 3 0 0, .int .i64 (3 : Int)] (p := (b0, ⟨3, [encCur ρ0 c_2]⟩)) rfl rfl rfl cok_86 rfl rfl ⟨_, _, rfl, .same _, ⟨_, _, rfl, .same _, rfl⟩⟩ bwNil (ok_spec_l1Cur_one hh2) rfl (.inl rfl) (ltb rfl) ?_)
      rintro _ _ ⟨rfl, rfl⟩
      refine VO.cons rfl (V1.move rfl rfl rfl (ltb rfl) ?_)
      apply VO.and (n := 3) rfl rfl rfl rfl rfl rfl (ltb rfl) (.none rfl)
      ·
       intro hg0
       refine VO.step (.some rfl rfl rfl) (V1.move rfl rfl rfl (ltb rfl) ?_)
       refine VO.step (.some rfl rfl rfl) (V1.lenSref rfl rfl rfl rfl rfl rfl isl_38 (ltb rfl) ?_)
       refine VO.step (.some rfl rfl rfl) (V1.int rfl rfl rfl rfl rfl (ltb rfl) ?_)
       exact VO.nil ⟨rfl, rfl, rfl, rfl, .inr ⟨rfl, .inr ⟨rfl, .inr ⟨rfl, .inr ⟨rfl, .inl rfl⟩⟩⟩⟩⟩
      refine VO.nil ?_
      refine V.keep 59 [4, 5, 6, 7, 8, 37] [0, 1, 2] (E0 := [(4, .ref b0 3 0 0), (5, .sref b1 5 0 (List.length y0.1)), (6, .sref b6 1 0 (List.length files2)), (7, .int .i64 i), (8, .int .i64 k), (37, .bool (y3.1 && (decide ((files2.length : Int) < (20 : Int)))))]) (H0 := [(b0, ⟨3, [encCur ρ0 y3.2]⟩), (b6, ⟨1, List.map encInt files2⟩), (b1, ⟨5, List.map (encCarton rn) y0.1⟩)]) rfl (⟨_, _, rfl, rfl, ⟨_, _, rfl, rfl, ⟨_, _, rfl, rfl, ⟨_, _, rfl, rfl, ⟨_, _, rfl, rfl, ⟨_, _, rfl, rfl, rfl⟩⟩⟩⟩⟩⟩) (⟨_, _, rfl, rfl, ⟨_, _, rfl, rfl, ⟨_, _, rfl, rfl, rfl⟩⟩⟩) rfl ?_
      refine V.cond rfl (fun hc2 => ?_) (fun hc2 => ?_)
      ·
       replace hm3 := cond_t hc2 hm3
       replace hm3 := asrt_some hm3; rcases hm3 with ⟨hh3, hm3⟩
       replace hm3 := asrt_some hm3; rcases hm3 with ⟨hh4, hm3⟩
       replace hm3 := asrt_some hm3; rcases hm3 with ⟨hh5, hm3⟩
       refine V.region ?_
       refine VO.cons rfl (V1.move rfl rfl rfl (ltb rfl) ?_)
       refine VO.cons rfl (V1.move rfl rfl rfl (ltb rfl) ?_)
       refine VO.cons rfl (V1.move rfl rfl rfl (ltb rfl) ?_)
       refine VO.cons rfl (V1.indexSr rfl rfl esz_24 rfl rfl hh3 (ltb rfl) ?_)
       refine VO.cons rfl (V1.fieldRef rfl rfl fo_40_3 rfl (ltb rfl) ?_)
       refine VO.cons rfl (V1.loadMap (k := 2) (f := (encCarton rn)) rfl rfl tyk_38 rfl rfl (by simpa using natLt hh3.1 hh3.2) rfl (ltb rfl) ?_)
       refine VO.cons rfl (V1.move rfl rfl rfl (ltb rfl) ?_)
       refine VO.cons rfl (V1.indexI rfl rfl esz_38 rfl rfl hh4 (ltb rfl) ?_)
       refine VO.cons rfl (V1.loadPin rfl rfl tyk_3 rfl rfl (ltb rfl) ?_)
       refine VO.cons rfl (V1.buildSliceT (f := encInt) ([(((y0.1.getD (Int.toNat i) default).Files).getD (Int.toNat k) default)] : List Int) rfl rfl esz_38 zk_3 rfl rfl rfl rfl rfl rfl rfl (ltb rfl) ?_)
       intro b8
       refine VO.cons rfl (V1.appendMap (k := 2) (f := encInt) (l := files2) (m := ([(((y0.1.getD (Int.toNat i) default).Files).getD (Int.toNat k) default)] : List Int)) rfl rfl rfl rfl rfl esz_38 eby_38 zk_3 rfl rfl rfl (SrcOf.srMap (k := 0) rfl isl_38) hh5 (ltb rfl) ?_)
       intro b9
       refine VO.cons rfl (V1.assign rfl rfl rfl (ltb rfl) ?_)
       refine VO.nil ?_
       exact ⟨(((files2 ++ ([(((y0.1.getD (Int.toNat i) default).Files).getD (Int.toNat k) default)] : List Int)), y3.2), b9), Option.some.inj hm3, Keeps.mk (ks := [0, 2, 3]) rfl ⟨rfl, rfl, rfl, rfl, rfl, trivial⟩ (⟨_, _, rfl, rfl, ⟨_, _, rfl, rfl, ⟨_, _, rfl, rfl, rfl⟩⟩⟩) rfl⟩
      ·
       replace hm3 := cond_f hc2 hm3
       refine V.skip ?_
       exact ⟨((files2, y3.2), b6), Option.some.inj hm3, Keeps.mk (ks := [1, 0, 2]) rfl ⟨rfl, rfl, rfl, rfl, rfl, trivial⟩ (⟨_, _, rfl, rfl, ⟨_, _, rfl, rfl, ⟨_, _, rfl, rfl, rfl⟩⟩⟩) rfl⟩
     ·
      rintro ⟨⟨files3, c_3⟩, b7⟩ rfl
      try dsimp only at hm2
      refine V.region ?_
      refine VO.cons rfl (V1.move rfl rfl rfl (ltb rfl) ?_)
      refine VO.cons rfl (V1.int rfl rfl rfl rfl rfl (ltb rfl) ?_)
      refine VO.cons rfl (V1.assign rfl rfl rfl (ltb rfl) ?_)
      refine VO.nil ?_
      exact ⟨(m1, (files3, (IntKind.i64.wrap (k + (1 : Int))), c_3), b7), hl2 _ (Option.some.inj hm2).symm, Nat.lt_succ_self _, Keeps.mk (ks := [0, 1, 2]) rfl ⟨rfl, rfl, rfl, rfl, rfl, trivial⟩ (⟨_, _, rfl, rfl, ⟨_, _, rfl, rfl, ⟨_, _, rfl, rfl, rfl⟩⟩⟩) rfl⟩
    ·
     replace hm2 := cond_f hc1 hm2
     refine V.exit ?_
     obtain rfl := hr2 _ (Option.some.inj hm2).symm
     exact ⟨((files2, c_2), b6), rfl, Keeps.mk (ks := [0, 1, 2]) rfl ⟨rfl, rfl, rfl, rfl, trivial⟩ (⟨_, _, rfl, rfl, ⟨_, _, rfl, rfl, ⟨_, _, rfl, rfl, rfl⟩⟩⟩) rfl⟩
   ·
    rintro ⟨⟨files1, c_1⟩, b5⟩ rfl
    try dsimp only at hm1
    refine V.region ?_
    refine VO.cons rfl (V1.move rfl rfl rfl (ltb rfl) ?_)
    refine VO.cons rfl (V1.int rfl rfl rfl rfl rfl (ltb rfl) ?_)
    refine VO.cons rfl (V1.assign rfl rfl rfl (ltb rfl) ?_)
    refine VO.nil ?_
    exact ⟨(m0, (files1, (IntKind.i64.wrap (i + (1 : Int))), c_1), b5), hl1 _ (Option.some.inj hm1).symm, Nat.lt_succ_self _, Keeps.mk (ks := [0, 1, 2]) rfl ⟨rfl, rfl, rfl, rfl, trivial⟩ (⟨_, _, rfl, rfl, ⟨_, _, rfl, rfl, ⟨_, _, rfl, rfl, rfl⟩⟩⟩) rfl⟩
  ·
   replace hm1 := cond_f hc0 hm1
   refine V.exit ?_
   obtain rfl := hr1 _ (Option.some.inj hm1).symm
   exact ⟨((files0, c_0), b4), rfl, Keeps.mk (ks := [0, 1, 2]) rfl ⟨rfl, rfl, rfl, trivial⟩ (⟨_, _, rfl, rfl, ⟨_, _, rfl, rfl, ⟨_, _, rfl, rfl, rfl⟩⟩⟩) rfl⟩
 ·
  rintro ⟨⟨files, c_⟩, b3⟩ rfl
  try dsimp only at hm0
  refine V.seq ?_
  replace hm0 := bindO hm0; rcases hm0 with ⟨j1, hm1, hm0⟩
  refine V.cutT (D := (List Int × Cur) × (Nat)) (fun ⟨⟨files4, c_4⟩, b10⟩ => ⟨59, [(6, .sref b10 1 0 (List.length files4)), (5, .sref b1 5 0 (List.length y0.1))], [(b10, ⟨1, List.map encInt files4⟩), (b0, ⟨3, [encCur ρ0 c_4]⟩), (b1, ⟨5, List.map (encCarton rn) y0.1⟩)]⟩) (fun ⟨⟨files4, c_4⟩, b10⟩ => ((files4, c_4) = j1)) ?_ ?_
  ·
   refine V.seq ?_
   replace hm1 := bindO hm1; rcases hm1 with ⟨y4, hh6, hm1⟩
   refine V.region ?_
   refine VO.cons rfl (V1.move rfl rfl rfl (ltb rfl) ?_)
   refine VO.cons rfl (V1.callM 1 (rn + ρ0 + 1) [] [.ref b0 3 0 0, .int .i64 (16 : Int)] (p := (b0, ⟨3, [encCur ρ0 c_]⟩)) rfl rfl rfl cok_86 rfl rfl ⟨_, _, rfl, .same _, ⟨_, _, rfl, .same _, rfl⟩⟩ bwNil (ok_spec_l1Cur_one hh6) rfl (.inl rfl) (ltb rfl) ?_)
   rintro _ _ ⟨rfl, rfl⟩
   refine VO.nil ?_
   refine V.cond rfl (fun hc3 => ?_) (fun hc3 => ?_)
   ·
    replace hm1 := cond_t hc3 hm1
    replace hm1 := bindO hm1; rcases hm1 with ⟨y5, hh7, hm1⟩
    replace hm1 := asrt_some hm1; rcases hm1 with ⟨hh8, hm1⟩
    refine V.region ?_
    refine VO.cons rfl (V1.move rfl rfl rfl (ltb rfl) ?_)
    refine VO.cons rfl (V1.move rfl rfl rfl (ltb rfl) ?_)
    refine VO.cons rfl (V1.buildSliceT (f := encInt) ([(1 : Int), (998 : Int), (1000 : Int)] : List Int) rfl rfl esz_38 zk_3 rfl rfl rfl rfl rfl rfl rfl (ltb rfl) ?_)
    intro b11
    refine VO.cons rfl (V1.callM 1 (rn + ρ0 + 1) [b11] [.ref b0 3 0 0, .vl (rn + ρ0 + 1) 1 (List.map encInt ([(1 : Int), (998 : Int), (1000 : Int)] : List Int))] (p := (b0, ⟨3, [encCur ρ0 y4.2]⟩)) rfl rfl rfl cok_77 rfl rfl ⟨_, _, rfl, .same _, ⟨_, _, rfl, Lend.srMap 0 rfl (fun _ => rfl) (.head _), rfl⟩⟩ (bwCons (k := 0) rfl bwNil) (ok_spec_l1Cur_among hh7) rfl (.inr ⟨(by first | omega | (dsimp only; omega)), by rintro _ _ ⟨rfl, rfl⟩; exact ⟨by simp [PV.no, PV.noL, optS_no, noL_iff, nbeq] <;> omega, by intro b ob h; first | exact optH_no (noL_map (fun _ => by simp [PV.no, PV.noL, noL_iff, nbeq]) _) b ob h | (simp at h; obtain ⟨rfl, rfl⟩ := h; exact noL_map (fun _ => by simp [PV.no, PV.noL, noL_iff, nbeq]) _) | (simp at h; obtain ⟨rfl, rfl⟩ := h; simp [PV.no, PV.noL, optS_no, noL_iff, nbeq] <;> omega)⟩⟩) (ltb rfl) ?_)
    rintro _ _ ⟨rfl, rfl⟩
    refine VO.cons rfl (V1.buildSliceT (f := encInt) ([y5.1] : List Int) rfl rfl esz_38 zk_3 rfl rfl rfl rfl rfl rfl rfl (ltb rfl) ?_)
    intro b12
    refine VO.cons rfl (V1.appendMap (k := 3) (f := encInt) (l := files) (m := ([y5.1] : List Int)) rfl rfl rfl rfl rfl esz_38 eby_38 zk_3 rfl rfl rfl (SrcOf.srMap (k := 0) rfl isl_38) hh8 (ltb rfl) ?_)
    intro b13
    refine VO.cons rfl (V1.assign rfl rfl rfl (ltb rfl) ?_)
    refine VO.nil ?_
    exact ⟨(((files ++ ([y5.1] : List Int)), y5.2), b13), Option.some.inj hm1, Keeps.mk (ks := [0, 2, 4]) rfl ⟨rfl, rfl, trivial⟩ (⟨_, _, rfl, rfl, ⟨_, _, rfl, rfl, ⟨_, _, rfl, rfl, rfl⟩⟩⟩) rfl⟩
   ·
    replace hm1 := cond_f hc3 hm1
    refine V.skip ?_
    exact ⟨((files, y4.2), b3), Option.some.inj hm1, Keeps.mk (ks := [1, 0, 2]) rfl ⟨rfl, rfl, trivial⟩ (⟨_, _, rfl, rfl, ⟨_, _, rfl, rfl, ⟨_, _, rfl, rfl, rfl⟩⟩⟩) rfl⟩
  ·
   rintro ⟨⟨files4, c_4⟩, b10⟩ rfl
   try dsimp only at hm0
   refine V.seq ?_
   refine V.region ?_
   refine VO.cons rfl (V1.move rfl rfl rfl (ltb rfl) ?_)
   refine VO.cons rfl (V1.move rfl rfl rfl (ltb rfl) ?_)
   refine VO.cons rfl (V1.assign rfl rfl rfl (ltb rfl) ?_)
   refine VO.cons rfl (V1.assign rfl rfl rfl (ltb rfl) ?_)
   refine VO.nil ?_
   refine V.keep 59 [2, 3] [2, 0] (E0 := [(2, .sref b1 5 0 (List.length y0.1)), (3, .sref b10 1 0 (List.length files4))]) (H0 := [(b1, ⟨5, List.map (encCarton rn) y0.1⟩), (b10, ⟨1, List.map encInt files4⟩)]) rfl (⟨_, _, rfl, rfl, ⟨_, _, rfl, rfl, rfl⟩⟩) (⟨_, _, rfl, rfl, ⟨_, _, rfl, rfl, rfl⟩⟩) rfl ?_
   refine V.ret ?_
   obtain rfl := Option.some.inj hm0
   exact ⟨_, _, ⟨_, _, rfl, rfl, ⟨_, _, rfl, rfl, rfl⟩⟩, List.Sublist.refl _, b1, b10, rfl, rfl⟩

theorem ok_impl_cartonWith_1 {ρ0 τ1 rn : Nat} {x : Carton} {file : Int} {r : Bool} (h : M.impl_cartonWith_1 x file = some r) : Does Try.prog 114 [encCarton ρ0 x, .pin τ1 (.int .i64 file) 0] [] rn (fun x H => x = .bool r ∧ H = []) := by
 have hm0 := h; clear h; unfold M.impl_cartonWith_1 at hm0
 try dsimp only at hm0
 refine Does.intro (N := 8) Try.func114 rfl rfl rfl rfl ?_
 intro w0 S0
 refine V.seq ?_
 refine V.region ?_
 refine VO.cons rfl (V1.boxN (n := 5) rfl rfl rfl rfl rfl (ltb rfl) ?_)
 intro b0
 refine VO.cons rfl (V1.assign rfl rfl rfl (ltb rfl) ?_)
 refine VO.nil ?_
 refine V.seq ?_
 replace hm0 := bindO hm0; rcases hm0 with ⟨y0, hh0, hm0⟩
 refine V.region ?_
 refine VO.cons rfl (V1.fieldRef rfl rfl fo_40_3 rfl (ltb rfl) ?_)
 refine VO.cons rfl (V1.loadRef (k := 0) rfl rfl tyk_38 rfl rfl rfl rfl rfl (ltb rfl) ?_)
 refine VO.cons rfl (V1.loadPin rfl rfl tyk_3 rfl rfl (ltb rfl) ?_)
 refine VO.cons rfl (V1.call rfl rfl rfl cok_75 rfl (ok_slices_Contains_int_int hh0) rfl (ltb rfl) ?_)
 rintro _ _ ⟨rfl, rfl⟩
 refine VO.cons rfl (V1.assign rfl rfl rfl (ltb rfl) ?_)
 refine VO.nil ?_
 refine V.ret ?_
 obtain rfl := Option.some.inj hm0
 exact ⟨_, [], ⟨_, _, rfl, rfl, rfl⟩, List.nil_sublist _, rfl, rfl⟩

theorem ok_slices_IndexFunc_impl_Carton_impl_Carton {ρ0 σ0 rn : Nat} {s : List Carton} {f1 : Nat} {cs1 : List PV} {r : Int} {fm : Carton → Option Bool} (h : M.slices_IndexFunc_impl_Carton_impl_Carton s fm = some r) (hok1 : callOK Try.prog f1 = true) (hf1 : ∀ x0 r, fm x0 = some r → Does Try.prog f1 (encCarton σ0 x0 :: cs1) [] rn (fun x H => x = .bool r ∧ H = [])) : Does Try.prog 113 [.vl ρ0 5 (List.map (encCarton σ0) s), .fn f1 cs1] [] rn (fun x H => x = .int .i64 r ∧ H = []) := by
 have hm0 := h; clear h; unfold M.slices_IndexFunc_impl_Carton_impl_Carton at hm0
 try dsimp only at hm0
 refine Does.intro (N := 19) Try.func113 rfl rfl rfl rfl ?_
 intro w0 S0
 refine V.seq ?_
 refine V.region ?_
 refine VO.cons rfl (V1.assign rfl rfl rfl (ltb rfl) ?_)
 refine VO.nil ?_
 refine V.seq ?_
 refine V.seq ?_
 refine V.region ?_
 refine VO.cons rfl (V1.move rfl rfl rfl (ltb rfl) ?_)
 refine VO.cons rfl (V1.lenMap rfl rfl rfl rfl rfl rfl isl_24 (ltb rfl) ?_)
 refine VO.cons rfl (V1.move rfl rfl rfl (ltb rfl) ?_)
 refine VO.nil ?_
 replace hm0 := bindO hm0; rcases hm0 with ⟨e0, he1, hm0⟩
 refine V.cutT (D := (Unit) × (Unit)) (fun ⟨_, _⟩ => ⟨19, [], []⟩) (fun ⟨_, _⟩ => (.inl () = e0)) ?_ ?_
 ·
  refine V.block ?_
  refine V.keep 19 [8, 0, 1, 7] [] (E0 := [(8, .int .i64 (0 : Int)), (0, .vl ρ0 5 (List.map (encCarton σ0) s)), (1, .fn f1 cs1), (7, .int .i64 (s.length : Int))]) (H0 := []) rfl (⟨_, _, rfl, rfl, ⟨_, _, rfl, rfl, ⟨_, _, rfl, rfl, ⟨_, _, rfl, rfl, rfl⟩⟩⟩⟩) (rfl) rfl ?_
  refine V.loopE (D := Nat × (Int) × (Unit)) (fun ⟨n0, v, _⟩ => [(8, .int .i64 v)]) (fun ⟨n0, v, _⟩ => []) (fun ⟨n0, v, _⟩ => loopO (M.slices_IndexFunc_impl_Carton_impl_Carton_l0 s fm) n0 v = some e0) (fun ⟨n0, _, _⟩ => n0) (rounds, (0 : Int), ()) rfl he1 ?_
  rintro ⟨n0, v, _⟩ hP0
  obtain ⟨m0, y0, rfl, hm1, hl1, hr1⟩ := loop_head hP0
  unfold M.slices_IndexFunc_impl_Carton_impl_Carton_l0 at hm1; dsimp only at hm1
  show V _ _ _ ⟨19, [(8, .int .i64 v), (0, .vl ρ0 5 (List.map (encCarton σ0) s)), (1, .fn f1 cs1), (7, .int .i64 (s.length : Int))], []⟩
  refine V.seq ?_
  refine V.region ?_
  refine VO.cons rfl (V1.int rfl rfl rfl rfl rfl (ltb rfl) ?_)
  refine VO.nil ?_
  refine V.seq ?_
  refine V.cond rfl (fun hc0 => ?_) (fun hc0 => ?_)
  ·
   replace hm1 := cond_t hc0 hm1
   refine V.skip ?_
   refine V.seq ?_
   refine V.block ?_
   refine V.seq ?_
   refine V.region ?_
   refine VO.cons rfl (V1.move rfl rfl rfl (ltb rfl) ?_)
   refine VO.cons rfl (V1.assign rfl rfl rfl (ltb rfl) ?_)
   refine VO.nil ?_
   refine V.seq ?_
   replace hm1 := asrt_some hm1; rcases hm1 with ⟨hh0, hm1⟩
   replace hm1 := bindO hm1; rcases hm1 with ⟨y1, hh1, hm1⟩
   refine V.region ?_
   refine VO.cons rfl (V1.move rfl rfl rfl (ltb rfl) ?_)
   refine VO.cons rfl (V1.move rfl rfl rfl (ltb rfl) ?_)
   refine VO.cons rfl (V1.move rfl rfl rfl (ltb rfl) ?_)
   refine VO.cons rfl (V1.indexI rfl rfl esz_24 rfl rfl hh0 (ltb rfl) ?_)
   refine VO.cons rfl (V1.loadPinAll rfl rfl tyk_40 rfl rfl (ltb rfl) ?_)
   refine VO.cons rfl (V1.callG (τ := 0) (Bw := []) rfl (ltb rfl) (run_callFn rfl rfl rfl hok1 rfl) (.refl _) (Lends.same _) (fun _ h => by cases h) ((hf1 _  _) hh1) (.inl rfl) (.inl rfl) ?_)
   rintro _ _ ⟨rfl, rfl⟩
   refine VO.nil ?_
   refine V.keep 19 [0, 1, 5, 7, 8, 16] [] (E0 := [(0, .vl ρ0 5 (List.map (encCarton σ0) s)), (1, .fn f1 cs1), (5, .int .i64 v), (7, .int .i64 (s.length : Int)), (8, .int .i64 v), (16, .bool y1)]) (H0 := []) rfl (⟨_, _, rfl, rfl, ⟨_, _, rfl, rfl, ⟨_, _, rfl, rfl, ⟨_, _, rfl, rfl, ⟨_, _, rfl, rfl, ⟨_, _, rfl, rfl, rfl⟩⟩⟩⟩⟩⟩) (rfl) rfl ?_
   refine V.cond rfl (fun hc1 => ?_) (fun hc1 => ?_)
   ·
    replace hm1 := cond_t hc1 hm1
    refine V.seq ?_
    refine V.region ?_
    refine VO.cons rfl (V1.move rfl rfl rfl (ltb rfl) ?_)
    refine VO.cons rfl (V1.assign rfl rfl rfl (ltb rfl) ?_)
    refine VO.nil ?_
    refine V.ret ?_
    obtain rfl := hr1 _ (Option.some.inj hm1).symm
    change some _ = some _ at hm0
    obtain rfl := Option.some.inj hm0
    exact ⟨_, [], ⟨_, _, rfl, rfl, rfl⟩, List.nil_sublist _, rfl, rfl⟩
   ·
    replace hm1 := cond_f hc1 hm1
    refine V.skip ?_
    refine V.region ?_
    refine VO.cons rfl (V1.int rfl rfl rfl rfl rfl (ltb rfl) ?_)
    refine VO.cons rfl (V1.move rfl rfl rfl (ltb rfl) ?_)
    refine VO.nil ?_
    exact ⟨(m0, (IntKind.i64.wrap (v + (1 : Int))), ()), hl1 _ (Option.some.inj hm1).symm, Nat.lt_succ_self _, Keeps.mk (ks := []) rfl ⟨rfl, rfl, rfl, rfl, trivial⟩ (rfl) rfl⟩
  ·
   replace hm1 := cond_f hc0 hm1
   refine V.exit ?_
   obtain rfl := hr1 _ (Option.some.inj hm1).symm
   exact ⟨((), ()), rfl, Keeps.mk (ks := []) rfl trivial (rfl) rfl⟩
 ·
  rintro ⟨_, _⟩ rfl
  try dsimp only at hm0
  refine V.seq ?_
  refine V.region ?_
  refine VO.cons rfl (V1.assign rfl rfl rfl (ltb rfl) ?_)
  refine VO.nil ?_
  refine V.ret ?_
  obtain rfl := Option.some.inj hm0
  exact ⟨_, [], ⟨_, _, rfl, rfl, rfl⟩, List.nil_sublist _, rfl, rfl⟩

theorem ok_impl_cartonWith {ρ0 σ0 rn : Nat} {list : List Carton} {file : Int} {r : Int} (h : M.impl_cartonWith list file = some r) : Does Try.prog 61 [.vl ρ0 5 (List.map (encCarton σ0) list), .int .i64 file] [] rn (fun x H => x = .int .i64 r ∧ H = []) := by
 have hm0 := h; clear h; unfold M.impl_cartonWith at hm0
 try dsimp only at hm0
 refine Does.intro (N := 8) Try.func61 rfl rfl rfl rfl ?_
 intro w0 S0
 refine V.seq ?_
 refine V.region ?_
 refine VO.cons rfl (V1.boxN (n := 1) rfl rfl rfl rfl rfl (ltb rfl) ?_)
 intro b0
 refine VO.cons rfl (V1.assign rfl rfl rfl (ltb rfl) ?_)
 refine VO.nil ?_
 refine V.seq ?_
 replace hm0 := bindO hm0; rcases hm0 with ⟨y0, hh0, hm0⟩
 refine V.region ?_
 refine VO.cons rfl (V1.move rfl rfl rfl (ltb rfl) ?_)
 refine VO.cons rfl (V1.makeFunc rfl rfl rfl (ltb rfl) ?_)
 refine VO.cons rfl (V1.callL (rn + 1) [b0] [.vl ρ0 5 (List.map (encCarton σ0) list), .fn 114 [.pin (rn + 1) (.int .i64 file) 0]] rfl rfl rfl cok_113 rfl ⟨_, _, rfl, .same _, ⟨_, _, rfl, Lend.fn ⟨_, _, rfl, Lend.ref 0 rfl rfl rfl rfl (.head _), rfl⟩, rfl⟩⟩ (bwCons (k := 0) rfl bwNil) (ok_slices_IndexFunc_impl_Carton_impl_Carton hh0 (fm := (fun x0 => M.impl_cartonWith_1 x0 file)) cok_114 (fun _ _ h => ok_impl_cartonWith_1 h)) rfl (⟨(by first | omega | (dsimp only; omega)), by rintro _ _ ⟨rfl, rfl⟩; exact ⟨rfl, by simp⟩⟩) (ltb rfl) ?_)
 rintro _ _ ⟨rfl, rfl⟩
 refine VO.cons rfl (V1.assign rfl rfl rfl (ltb rfl) ?_)
 refine VO.nil ?_
 refine V.ret ?_
 obtain rfl := Option.some.inj hm0
 exact ⟨_, [], ⟨_, _, rfl, rfl, rfl⟩, List.nil_sublist _, rfl, rfl⟩

theorem ok_impl_cartonAt_1 {ρ0 τ1 rn : Nat} {x : Carton} {id_c : Int} {r : Bool} (h : M.impl_cartonAt_1 x id_c = some r) : Does Try.prog 115 [encCarton ρ0 x, .pin τ1 (.int .i64 id_c) 0] [] rn (fun x H => x = .bool r ∧ H = []) := by
 have hm0 := h; clear h; unfold M.impl_cartonAt_1 at hm0
 try dsimp only at hm0
 refine Does.intro (N := 8) Try.func115 rfl rfl rfl rfl ?_
 intro w0 S0
 refine V.seq ?_
 refine V.region ?_
 refine VO.cons rfl (V1.boxN (n := 5) rfl rfl rfl rfl rfl (ltb rfl) ?_)
 intro b0
 refine VO.cons rfl (V1.assign rfl rfl rfl (ltb rfl) ?_)
 refine VO.nil ?_
 refine V.seq ?_
 refine V.region ?_
 refine VO.cons rfl (V1.fieldRef rfl rfl fo_40_0 rfl (ltb rfl) ?_)
 refine VO.cons rfl (V1.loadRef (k := 0) rfl rfl tyk_3 rfl rfl rfl rfl rfl (ltb rfl) ?_)
 refine VO.cons rfl (V1.loadPin rfl rfl tyk_3 rfl rfl (ltb rfl) ?_)
 refine VO.cons rfl (V1.int rfl rfl rfl rfl rfl (ltb rfl) ?_)
 refine VO.cons rfl (V1.assign rfl rfl rfl (ltb rfl) ?_)
 refine VO.nil ?_
 refine V.ret ?_
 obtain rfl := Option.some.inj hm0
 exact ⟨_, [], ⟨_, _, rfl, rfl, rfl⟩, List.nil_sublist _, rfl, rfl⟩

theorem ok_impl_cartonAt {ρ0 σ0 rn : Nat} {list : List Carton} {id_ : Int} {r : Int} (h : M.impl_cartonAt list id_ = some r) : Does Try.prog 62 [.vl ρ0 5 (List.map (encCarton σ0) list), .int .i64 id_] [] rn (fun x H => x = .int .i64 r ∧ H = []) := by
 have hm0 := h; clear h; unfold M.impl_cartonAt at hm0
 try dsimp only at hm0
 refine Does.intro (N := 8) Try.func62 rfl rfl rfl rfl ?_
 intro w0 S0
 refine V.seq ?_
 refine V.region ?_
 refine VO.cons rfl (V1.boxN (n := 1) rfl rfl rfl rfl rfl (ltb rfl) ?_)
 intro b0
 refine VO.cons rfl (V1.assign rfl rfl rfl (ltb rfl) ?_)
 refine VO.nil ?_
 refine V.seq ?_
 replace hm0 := bindO hm0; rcases hm0 with ⟨y0, hh0, hm0⟩
 refine V.region ?_
 refine VO.cons rfl (V1.move rfl rfl rfl (ltb rfl) ?_)
 refine VO.cons rfl (V1.makeFunc rfl rfl rfl (ltb rfl) ?_)
 refine VO.cons rfl (V1.callL (rn + 1) [b0] [.vl ρ0 5 (List.map (encCarton σ0) list), .fn 115 [.pin (rn + 1) (.int .i64 id_) 0]] rfl rfl rfl cok_113 rfl ⟨_, _, rfl, .same _, ⟨_, _, rfl, Lend.fn ⟨_, _, rfl, Lend.ref 0 rfl rfl rfl rfl (.head _), rfl⟩, rfl⟩⟩ (bwCons (k := 0) rfl bwNil) (ok_slices_IndexFunc_impl_Carton_impl_Carton hh0 (fm := (fun x0 => M.impl_cartonAt_1 x0 id_)) cok_115 (fun _ _ h => ok_impl_cartonAt_1 h)) rfl (⟨(by first | omega | (dsimp only; omega)), by rintro _ _ ⟨rfl, rfl⟩; exact ⟨rfl, by simp⟩⟩) (ltb rfl) ?_)
 rintro _ _ ⟨rfl, rfl⟩
 refine VO.cons rfl (V1.assign rfl rfl rfl (ltb rfl) ?_)
 refine VO.nil ?_
 refine V.ret ?_
 obtain rfl := Option.some.inj hm0
 exact ⟨_, [], ⟨_, _, rfl, rfl, rfl⟩, List.nil_sublist _, rfl, rfl⟩

theorem ok_math_bits_Len32 {rn : Nat} {x : Int} {r : Int} (h : M.math_bits_Len32 x = some r) : Does Try.prog 138 [.int .u32 x] [] rn (fun x H => x = .int .i64 r ∧ H = []) := by
 have hm0 := h; clear h; unfold M.math_bits_Len32 at hm0
 try dsimp only at hm0
 refine Does.intro (N := 19) Try.func138 rfl rfl rfl rfl ?_
 intro w0 S0
 refine V.seq ?_
 refine V.region ?_
 refine VO.cons rfl (V1.assign rfl rfl rfl (ltb rfl) ?_)
 refine VO.nil ?_
 refine V.seq ?_
 replace hm0 := bindO hm0; rcases hm0 with ⟨j0, hm1, hm0⟩
 refine V.cutT (D := (Int × Int) × (Unit)) (fun ⟨⟨x0, n_⟩, _⟩ => ⟨19, [(0, .int .u32 x0), (2, .int .i64 n_)], []⟩) (fun ⟨⟨x0, n_⟩, _⟩ => ((x0, n_) = j0)) ?_ ?_
 ·
  refine V.seq ?_
  refine V.region ?_
  refine VO.cons rfl (V1.move rfl rfl rfl (ltb rfl) ?_)
  refine VO.cons rfl (V1.int rfl rfl rfl rfl rfl (ltb rfl) ?_)
  refine VO.nil ?_
  refine V.cond rfl (fun hc0 => ?_) (fun hc0 => ?_)
  ·
   replace hm1 := cond_t hc0 hm1
   refine V.seq ?_
   refine V.region ?_
   refine VO.cons rfl (V1.move rfl rfl rfl (ltb rfl) ?_)
   refine VO.cons rfl (V1.shr rfl rfl rfl rfl (by decide) (ltb rfl) ?_)
   refine VO.cons rfl (V1.assign rfl rfl rfl (ltb rfl) ?_)
   refine VO.nil ?_
   refine V.keep 19 [0] [] (E0 := [(0, .int .u32 (Int.fdiv x (2 ^ (min (Int.toNat (16 : Int)) IntKind.u32.bits))))]) (H0 := []) rfl (⟨_, _, rfl, rfl, rfl⟩) (rfl) rfl ?_
   refine V.region ?_
   refine VO.cons rfl (V1.assign rfl rfl rfl (ltb rfl) ?_)
   refine VO.nil ?_
   exact ⟨(((Int.fdiv x (2 ^ (min (Int.toNat (16 : Int)) IntKind.u32.bits))), (16 : Int)), ()), Option.some.inj hm1, Keeps.mk (ks := []) rfl ⟨rfl, rfl, trivial⟩ (rfl) rfl⟩
  ·
   replace hm1 := cond_f hc0 hm1
   refine V.skip ?_
   exact ⟨((x, (0 : Int)), ()), Option.some.inj hm1, Keeps.mk (ks := []) rfl ⟨rfl, rfl, trivial⟩ (rfl) rfl⟩
 ·
  rintro ⟨⟨x0, n_⟩, _⟩ rfl
  try dsimp only at hm0
  refine V.seq ?_
  replace hm0 := bindO hm0; rcases hm0 with ⟨j1, hm1, hm0⟩
  refine V.cutT (D := (Int × Int) × (Unit)) (fun ⟨⟨x1, n_0⟩, _⟩ => ⟨19, [(0, .int .u32 x1), (2, .int .i64 n_0)], []⟩) (fun ⟨⟨x1, n_0⟩, _⟩ => ((x1, n_0) = j1)) ?_ ?_
  ·
   refine V.seq ?_
   refine V.region ?_
   refine VO.cons rfl (V1.move rfl rfl rfl (ltb rfl) ?_)
   refine VO.cons rfl (V1.int rfl rfl rfl rfl rfl (ltb rfl) ?_)
   refine VO.nil ?_
   refine V.cond rfl (fun hc1 => ?_) (fun hc1 => ?_)
   ·
    replace hm1 := cond_t hc1 hm1
    refine V.seq ?_
    refine V.region ?_
    refine VO.cons rfl (V1.move rfl rfl rfl (ltb rfl) ?_)
    refine VO.cons rfl (V1.shr rfl rfl rfl rfl (by decide) (ltb rfl) ?_)
    refine VO.cons rfl (V1.assign rfl rfl rfl (ltb rfl) ?_)
    refine VO.nil ?_
    refine V.keep 19 [0, 2] [] (E0 := [(0, .int .u32 (Int.fdiv x0 (2 ^ (min (Int.toNat (8 : Int)) IntKind.u32.bits)))), (2, .int .i64 n_)]) (H0 := []) rfl (⟨_, _, rfl, rfl, ⟨_, _, rfl, rfl, rfl⟩⟩) (rfl) rfl ?_
    refine V.region ?_
    refine VO.cons rfl (V1.move rfl rfl rfl (ltb rfl) ?_)
    refine VO.cons rfl (V1.int rfl rfl rfl rfl rfl (ltb rfl) ?_)
    refine VO.cons rfl (V1.assign rfl rfl rfl (ltb rfl) ?_)
    refine VO.nil ?_
    exact ⟨(((Int.fdiv x0 (2 ^ (min (Int.toNat (8 : Int)) IntKind.u32.bits))), (IntKind.i64.wrap (n_ + (8 : Int)))), ()), Option.some.inj hm1, Keeps.mk (ks := []) rfl ⟨rfl, rfl, trivial⟩ (rfl) rfl⟩
   ·
    replace hm1 := cond_f hc1 hm1
    refine V.skip ?_
    exact ⟨((x0, n_), ()), Option.some.inj hm1, Keeps.mk (ks := []) rfl ⟨rfl, rfl, trivial⟩ (rfl) rfl⟩
  ·
   rintro ⟨⟨x1, n_0⟩, _⟩ rfl
   try dsimp only at hm0
   refine V.seq ?_
   replace hm0 := asrt_some hm0; rcases hm0 with ⟨hh0, hm0⟩
   refine V.region ?_
   refine VO.cons rfl (V1.move rfl rfl rfl (ltb rfl) ?_)
   refine VO.cons rfl (V1.move rfl rfl rfl (ltb rfl) ?_)
   refine VO.cons rfl (V1.conv rfl rfl und_126 und_5 rfl (ltb rfl) ?_)
   refine VO.cons rfl (V1.indexStrI rfl rfl istr_9 rfl rfl hh0 (ltb rfl) ?_)
   refine VO.cons rfl (V1.conv rfl rfl und_5 und_3 rfl (ltb rfl) ?_)
   refine VO.cons rfl (V1.int rfl rfl rfl rfl rfl (ltb rfl) ?_)
   refine VO.cons rfl (V1.assign rfl rfl rfl (ltb rfl) ?_)
   refine VO.nil ?_
   refine V.ret ?_
   obtain rfl := Option.some.inj hm0
   exact ⟨_, [], ⟨_, _, rfl, rfl, rfl⟩, List.nil_sublist _, rfl, rfl⟩

theorem ok_math_bits_Len64 {rn : Nat} {x : Int} {r : Int} (h : M.math_bits_Len64 x = some r) : Does Try.prog 139 [.int .u64 x] [] rn (fun x H => x = .int .i64 r ∧ H = []) := by
 have hm0 := h; clear h; unfold M.math_bits_Len64 at hm0
 try dsimp only at hm0
 refine Does.intro (N := 25) Try.func139 rfl rfl rfl rfl ?_
 intro w0 S0
 refine V.seq ?_
 refine V.region ?_
 refine VO.cons rfl (V1.assign rfl rfl rfl (ltb rfl) ?_)
 refine VO.nil ?_
 refine V.seq ?_
 replace hm0 := bindO hm0; rcases hm0 with ⟨j0, hm1, hm0⟩
 refine V.cutT (D := (Int × Int) × (Unit)) (fun ⟨⟨x0, n_⟩, _⟩ => ⟨25, [(0, .int .u64 x0), (2, .int .i64 n_)], []⟩) (fun ⟨⟨x0, n_⟩, _⟩ => ((x0, n_) = j0)) ?_ ?_
 ·
  refine V.seq ?_
  refine V.region ?_
  refine VO.cons rfl (V1.move rfl rfl rfl (ltb rfl) ?_)
  refine VO.cons rfl (V1.int rfl rfl rfl rfl rfl (ltb rfl) ?_)
  refine VO.nil ?_
  refine V.cond rfl (fun hc0 => ?_) (fun hc0 => ?_)
  ·
   replace hm1 := cond_t hc0 hm1
   refine V.seq ?_
   refine V.region ?_
   refine VO.cons rfl (V1.move rfl rfl rfl (ltb rfl) ?_)
   refine VO.cons rfl (V1.shr rfl rfl rfl rfl (by decide) (ltb rfl) ?_)
   refine VO.cons rfl (V1.assign rfl rfl rfl (ltb rfl) ?_)
   refine VO.nil ?_
   refine V.keep 25 [0] [] (E0 := [(0, .int .u64 (Int.fdiv x (2 ^ (min (Int.toNat (32 : Int)) IntKind.u64.bits))))]) (H0 := []) rfl (⟨_, _, rfl, rfl, rfl⟩) (rfl) rfl ?_
   refine V.region ?_
   refine VO.cons rfl (V1.assign rfl rfl rfl (ltb rfl) ?_)
   refine VO.nil ?_
   exact ⟨(((Int.fdiv x (2 ^ (min (Int.toNat (32 : Int)) IntKind.u64.bits))), (32 : Int)), ()), Option.some.inj hm1, Keeps.mk (ks := []) rfl ⟨rfl, rfl, trivial⟩ (rfl) rfl⟩
  ·
   replace hm1 := cond_f hc0 hm1
   refine V.skip ?_
   exact ⟨((x, (0 : Int)), ()), Option.some.inj hm1, Keeps.mk (ks := []) rfl ⟨rfl, rfl, trivial⟩ (rfl) rfl⟩
 ·
  rintro ⟨⟨x0, n_⟩, _⟩ rfl
  try dsimp only at hm0
  refine V.seq ?_
  replace hm0 := bindO hm0; rcases hm0 with ⟨j1, hm1, hm0⟩
  refine V.cutT (D := (Int × Int) × (Unit)) (fun ⟨⟨x1, n_0⟩, _⟩ => ⟨25, [(0, .int .u64 x1), (2, .int .i64 n_0)], []⟩) (fun ⟨⟨x1, n_0⟩, _⟩ => ((x1, n_0) = j1)) ?_ ?_
  ·
   refine V.seq ?_
   refine V.region ?_
   refine VO.cons rfl (V1.move rfl rfl rfl (ltb rfl) ?_)
   refine VO.cons rfl (V1.int rfl rfl rfl rfl rfl (ltb rfl) ?_)
   refine VO.nil ?_
   refine V.cond rfl (fun hc1 => ?_) (fun hc1 => ?_)
   ·
    replace hm1 := cond_t hc1 hm1
    refine V.seq ?_
    refine V.region ?_
    refine VO.cons rfl (V1.move rfl rfl rfl (ltb rfl) ?_)
    refine VO.cons rfl (V1.shr rfl rfl rfl rfl (by decide) (ltb rfl) ?_)
    refine VO.cons rfl (V1.assign rfl rfl rfl (ltb rfl) ?_)
    refine VO.nil ?_
    refine V.keep 25 [0, 2] [] (E0 := [(0, .int .u64 (Int.fdiv x0 (2 ^ (min (Int.toNat (16 : Int)) IntKind.u64.bits)))), (2, .int .i64 n_)]) (H0 := []) rfl (⟨_, _, rfl, rfl, ⟨_, _, rfl, rfl, rfl⟩⟩) (rfl) rfl ?_
    refine V.region ?_
    refine VO.cons rfl (V1.move rfl rfl rfl (ltb rfl) ?_)
    refine VO.cons rfl (V1.int rfl rfl rfl rfl rfl (ltb rfl) ?_)
    refine VO.cons rfl (V1.assign rfl rfl rfl (ltb rfl) ?_)
    refine VO.nil ?_
    exact ⟨(((Int.fdiv x0 (2 ^ (min (Int.toNat (16 : Int)) IntKind.u64.bits))), (IntKind.i64.wrap (n_ + (16 : Int)))), ()), Option.some.inj hm1, Keeps.mk (ks := []) rfl ⟨rfl, rfl, trivial⟩ (rfl) rfl⟩
   ·
    replace hm1 := cond_f hc1 hm1
    refine V.skip ?_
    exact ⟨((x0, n_), ()), Option.some.inj hm1, Keeps.mk (ks := []) rfl ⟨rfl, rfl, trivial⟩ (rfl) rfl⟩
  ·
   rintro ⟨⟨x1, n_0⟩, _⟩ rfl
   try dsimp only at hm0
   refine V.seq ?_
   replace hm0 := bindO hm0; rcases hm0 with ⟨j2, hm1, hm0⟩
   refine V.cutT (D := (Int × Int) × (Unit)) (fun ⟨⟨x2, n_1⟩, _⟩ => ⟨25, [(0, .int .u64 x2), (2, .int .i64 n_1)], []⟩) (fun ⟨⟨x2, n_1⟩, _⟩ => ((x2, n_1) = j2)) ?_ ?_
   ·
    refine V.seq ?_
    refine V.region ?_
    refine VO.cons rfl (V1.move rfl rfl rfl (ltb rfl) ?_)
    refine VO.cons rfl (V1.int rfl rfl rfl rfl rfl (ltb rfl) ?_)
    refine VO.nil ?_
    refine V.cond rfl (fun hc2 => ?_) (fun hc2 => ?_)
    ·
     replace hm1 := cond_t hc2 hm1
     refine V.seq ?_
     refine V.region ?_
     refine VO.cons rfl (V1.move rfl rfl rfl (ltb rfl) ?_)
     refine VO.cons rfl (V1.shr rfl rfl rfl rfl (by decide) (ltb rfl) ?_)
     refine VO.cons rfl (V1.assign rfl rfl rfl (ltb rfl) ?_)
     refine VO.nil ?_
     refine V.keep 25 [0, 2] [] (E0 := [(0, .int .u64 (Int.fdiv x1 (2 ^ (min (Int.toNat (8 : Int)) IntKind.u64.bits)))), (2, .int .i64 n_0)]) (H0 := []) rfl (⟨_, _, rfl, rfl, ⟨_, _, rfl, rfl, rfl⟩⟩) (rfl) rfl ?_
     refine V.region ?_
     refine VO.cons rfl (V1.move rfl rfl rfl (ltb rfl) ?_)
     refine VO.cons rfl (V1.int rfl rfl rfl rfl rfl (ltb rfl) ?_)
     refine VO.cons rfl (V1.assign rfl rfl rfl (ltb rfl) ?_)
     refine VO.nil ?_
     exact ⟨(((Int.fdiv x1 (2 ^ (min (Int.toNat (8 : Int)) IntKind.u64.bits))), (IntKind.i64.wrap (n_0 + (8 : Int)))), ()), Option.some.inj hm1, Keeps.mk (ks := []) rfl ⟨rfl, rfl, trivial⟩ (rfl) rfl⟩
    ·
     replace hm1 := cond_f hc2 hm1
     refine V.skip ?_
     exact ⟨((x1, n_0), ()), Option.some.inj hm1, Keeps.mk (ks := []) rfl ⟨rfl, rfl, trivial⟩ (rfl) rfl⟩
   ·
    rintro ⟨⟨x2, n_1⟩, _⟩ rfl
    try dsimp only at hm0
    refine V.seq ?_
    replace hm0 := asrt_some hm0; rcases hm0 with ⟨hh0, hm0⟩
    refine V.region ?_
    refine VO.cons rfl (V1.move rfl rfl rfl (ltb rfl) ?_)
    refine VO.cons rfl (V1.move rfl rfl rfl (ltb rfl) ?_)
    refine VO.cons rfl (V1.conv rfl rfl und_75 und_5 rfl (ltb rfl) ?_)
    refine VO.cons rfl (V1.indexStrI rfl rfl istr_9 rfl rfl hh0 (ltb rfl) ?_)
    refine VO.cons rfl (V1.conv rfl rfl und_5 und_3 rfl (ltb rfl) ?_)
    refine VO.cons rfl (V1.int rfl rfl rfl rfl rfl (ltb rfl) ?_)
    refine VO.cons rfl (V1.assign rfl rfl rfl (ltb rfl) ?_)
    refine VO.nil ?_
    refine V.ret ?_
    obtain rfl := Option.some.inj hm0
    exact ⟨_, [], ⟨_, _, rfl, rfl, rfl⟩, List.nil_sublist _, rfl, rfl⟩

theorem ok_math_bits_Len {rn : Nat} {x : Int} {r : Int} (h : M.math_bits_Len x = some r) : Does Try.prog 120 [.int .u64 x] [] rn (fun x H => x = .int .i64 r ∧ H = []) := by
 have hm0 := h; clear h; unfold M.math_bits_Len at hm0
 try dsimp only at hm0
 refine Does.intro (N := 8) Try.func120 rfl rfl rfl rfl ?_
 intro w0 S0
 refine V.seq ?_
 refine V.region ?_
 refine VO.cons rfl (V1.assign rfl rfl rfl (ltb rfl) ?_)
 refine VO.nil ?_
 refine V.seq ?_
 refine V.cond rfl (fun hc0 => ?_) (fun hc0 => ?_)
 ·
  replace hm0 := cond_t hc0 hm0
  refine V.seq ?_
  replace hm0 := bindO hm0; rcases hm0 with ⟨y0, hh0, hm0⟩
  refine V.region ?_
  refine VO.cons rfl (V1.move rfl rfl rfl (ltb rfl) ?_)
  refine VO.cons rfl (V1.conv rfl rfl und_113 und_126 rfl (ltb rfl) ?_)
  refine VO.cons rfl (V1.call rfl rfl rfl cok_138 rfl (ok_math_bits_Len32 hh0) rfl (ltb rfl) ?_)
  rintro _ _ ⟨rfl, rfl⟩
  refine VO.cons rfl (V1.assign rfl rfl rfl (ltb rfl) ?_)
  refine VO.nil ?_
  refine V.ret ?_
  obtain rfl := Option.some.inj hm0
  exact ⟨_, [], ⟨_, _, rfl, rfl, rfl⟩, List.nil_sublist _, rfl, rfl⟩
 ·
  replace hm0 := cond_f hc0 hm0
  refine V.skip ?_
  refine V.seq ?_
  replace hm0 := bindO hm0; rcases hm0 with ⟨y1, hh1, hm0⟩
  refine V.region ?_
  refine VO.cons rfl (V1.move rfl rfl rfl (ltb rfl) ?_)
  refine VO.cons rfl (V1.call rfl rfl rfl cok_139 rfl (ok_math_bits_Len64 hh1) rfl (ltb rfl) ?_)
  rintro _ _ ⟨rfl, rfl⟩
  refine VO.cons rfl (V1.assign rfl rfl rfl (ltb rfl) ?_)
  refine VO.nil ?_
  refine V.ret ?_
  obtain rfl := Option.some.inj hm0
  exact ⟨_, [], ⟨_, _, rfl, rfl, rfl⟩, List.nil_sublist _, rfl, rfl⟩

theorem ok_slices_insertionSortCmpFunc_impl_Carton {ρ0 rn : Nat} {oq : Option Nat} {data : List Carton} {a : Int} {b_ : Int} {f3 : Nat} {cs3 : List PV} {r : List Carton} {fm : Carton → Carton → Option Int} (h : M.slices_insertionSortCmpFunc_impl_Carton data a b_ fm = some r) (hoq : oq = none → data = []) (hok3 : callOK Try.prog f3 = true) (hf3 : ∀ x0 x1 r, fm x0 x1 = some r → Does Try.prog f3 (encCarton ρ0 x0 :: encCarton ρ0 x1 :: cs3) [] rn (fun x H => x = .int .i64 r ∧ H = [])) : Does Try.prog 140 [optS 5 oq (List.length data), .int .i64 a, .int .i64 b_, .fn f3 cs3] (optH 5 oq (List.map (encCarton ρ0) data)) rn (fun x H => x = .tup [] ∧ H = optH 5 oq (List.map (encCarton ρ0) r)) := by
 have hm0 := h; clear h; unfold M.slices_insertionSortCmpFunc_impl_Carton at hm0
 try dsimp only at hm0
 refine Does.intro (N := 53) Try.func140 rfl rfl rfl rfl ?_
 intro w0 S0
 rcases oq with _ | oq
 ·
  refine V.seq ?_
  refine V.region ?_
  refine VO.cons rfl (V1.move rfl rfl rfl (ltb rfl) ?_)
  refine VO.cons rfl (V1.int rfl rfl rfl rfl rfl (ltb rfl) ?_)
  refine VO.cons rfl (V1.assign rfl rfl rfl (ltb rfl) ?_)
  refine VO.nil ?_
  replace hm0 := bindO hm0; rcases hm0 with ⟨e0, he1, hm0⟩
  refine V.cutT (D := (List Carton) × (Unit)) (fun ⟨data0, _⟩ => ⟨53, [(0, .vl rn 5 (List.map (encCarton ρ0) data0))], []⟩) (fun ⟨data0, _⟩ => (data0 = e0)) ?_ ?_
  ·
   refine V.block ?_
   refine V.keep 53 [0, 8, 1, 2, 3] [] (E0 := [(0, .nils), (8, .int .i64 (IntKind.i64.wrap (a + (1 : Int)))), (1, .int .i64 a), (2, .int .i64 b_), (3, .fn f3 cs3)]) (H0 := []) rfl (⟨_, _, rfl, rfl, ⟨_, _, rfl, rfl, ⟨_, _, rfl, rfl, ⟨_, _, rfl, rfl, ⟨_, _, rfl, rfl, rfl⟩⟩⟩⟩⟩) (rfl) rfl ?_
   refine V.loopE (D := Nat × (List Carton × Int) × (Option Nat)) (fun ⟨n0, ⟨data1, i⟩, ob0⟩ => [(0, optS 5 ob0 (List.length data1)), (8, .int .i64 i)]) (fun ⟨n0, ⟨data1, i⟩, ob0⟩ => optH 5 ob0 (List.map (encCarton ρ0) data1)) (fun ⟨n0, ⟨data1, i⟩, ob0⟩ => loopO (M.slices_insertionSortCmpFunc_impl_Carton_l0 a b_ fm) n0 (data1, i) = some e0 ∧ (ob0 = none → data1 = [])) (fun ⟨n0, _, _⟩ => n0) (rounds, (data, (IntKind.i64.wrap (a + (1 : Int)))), none) rfl ⟨he1, (fun _ => (hoq rfl))⟩ ?_
   rintro ⟨n0, ⟨data1, i⟩, ob0⟩ ⟨hP0, hob0⟩
   obtain ⟨m0, y0, rfl, hm1, hl1, hr1⟩ := loop_head hP0
   unfold M.slices_insertionSortCmpFunc_impl_Carton_l0 at hm1; dsimp only at hm1
   rcases ob0 with _ | ob0
   ·
    replace hob0 := hob0 rfl
    show V _ _ _ ⟨53, [(0, .nils), (8, .int .i64 i), (1, .int .i64 a), (2, .int .i64 b_), (3, .fn f3 cs3)], []⟩
    refine V.seq ?_
    refine V.seq ?_
    refine V.region ?_
    refine VO.cons rfl (V1.move rfl rfl rfl (ltb rfl) ?_)
    refine VO.cons rfl (V1.move rfl rfl rfl (ltb rfl) ?_)
    refine VO.cons rfl (V1.int rfl rfl rfl rfl rfl (ltb rfl) ?_)
    refine VO.nil ?_
    refine V.cond rfl (fun hc0 => ?_) (fun hc0 => ?_)
    ·
     replace hm1 := cond_t hc0 hm1
     refine V.skip ?_
     refine V.seq ?_
     refine V.block ?_
     refine V.seq ?_
     refine V.region ?_
     refine VO.cons rfl (V1.move rfl rfl rfl (ltb rfl) ?_)
     refine VO.cons rfl (V1.assign rfl rfl rfl (ltb rfl) ?_)
     refine VO.nil ?_
     refine V.keep 53 [0, 1, 2, 3, 8, 9] [] (E0 := [(0, .nils), (1, .int .i64 a), (2, .int .i64 b_), (3, .fn f3 cs3), (8, .int .i64 i), (9, .int .i64 i)]) (H0 := []) rfl (⟨_, _, rfl, rfl, ⟨_, _, rfl, rfl, ⟨_, _, rfl, rfl, ⟨_, _, rfl, rfl, ⟨_, _, rfl, rfl, ⟨_, _, rfl, rfl, rfl⟩⟩⟩⟩⟩⟩) (rfl) rfl ?_
     replace hm1 := bindO hm1; rcases hm1 with ⟨e1, he2, hm1⟩
     refine V.cutT (D := (List Carton) × (Option Nat)) (fun ⟨data2, ob1⟩ => ⟨53, [(0, optS 5 ob1 (List.length data2)), (1, .int .i64 a), (2, .int .i64 b_), (3, .fn f3 cs3), (8, .int .i64 i)], optH 5 ob1 (List.map (encCarton ρ0) data2)⟩) (fun ⟨data2, ob1⟩ => (data2 = e1) ∧ (ob1 = none → data2 = [])) ?_ ?_
     ·
      refine V.block ?_
      refine V.keep 53 [0, 9, 1, 2, 3, 8] [] (E0 := [(0, .nils), (9, .int .i64 i), (1, .int .i64 a), (2, .int .i64 b_), (3, .fn f3 cs3), (8, .int .i64 i)]) (H0 := []) rfl (⟨_, _, rfl, rfl, ⟨_, _, rfl, rfl, ⟨_, _, rfl, rfl, ⟨_, _, rfl, rfl, ⟨_, _, rfl, rfl, ⟨_, _, rfl, rfl, rfl⟩⟩⟩⟩⟩⟩) (rfl) rfl ?_
      refine V.loopE (D := Nat × (List Carton × Int) × (Unit)) (fun ⟨n1, ⟨data3, j_⟩, _⟩ => [(0, .nils), (9, .int .i64 j_)]) (fun ⟨n1, ⟨data3, j_⟩, _⟩ => []) (fun ⟨n1, ⟨data3, j_⟩, _⟩ => loopO (M.slices_insertionSortCmpFunc_impl_Carton_l1 a fm) n1 (data3, j_) = some e1 ∧ data3 = []) (fun ⟨n1, _, _⟩ => n1) (rounds, (data1, i), ()) rfl ⟨he2, hob0⟩ ?_
      rintro ⟨n1, ⟨data3, j_⟩, _⟩ ⟨hP1, hn_data3⟩
      obtain ⟨m1, y1, rfl, hm2, hl2, hr2⟩ := loop_head hP1
      unfold M.slices_insertionSortCmpFunc_impl_Carton_l1 at hm2; dsimp only at hm2
      show V _ _ _ ⟨53, [(0, .nils), (9, .int .i64 j_), (1, .int .i64 a), (2, .int .i64 b_), (3, .fn f3 cs3), (8, .int .i64 i)], []⟩
      refine V.seq ?_
      refine V.seq ?_
      replace hm2 := asrt_some hm2; rcases hm2 with ⟨hh0, hm2⟩
      replace hm2 := asrt_some hm2; rcases hm2 with ⟨hh1, hm2⟩
      replace hm2 := bindO hm2; rcases hm2 with ⟨y2, hh2, hm2⟩
      refine V.regionM 53 17 [⟨[(9, none)], [], none⟩, ⟨[(1, none)], [], none⟩, ⟨[(18, some 1), (19, some 0)], [], none⟩, ⟨[(20, some 0)], [], none⟩, ⟨[(3, none)], [(0, true)], none⟩, ⟨[(0, none)], [(1, true)], none⟩, ⟨[(9, none)], [(2, true)], none⟩, ⟨[(23, some 1), (24, some 0)], [(3, true)], none⟩, ⟨[(25, some 0)], [(4, true)], none⟩, ⟨[(0, none)], [(5, true)], none⟩, ⟨[(9, none)], [(6, true)], none⟩, ⟨[(28, some 0)], [(7, true)], none⟩, ⟨[(27, some 2), (29, some 0)], [(8, true)], none⟩, ⟨[(30, some 0)], [(9, true)], none⟩, ⟨[(22, some 9), (26, some 5), (31, some 0)], [(10, true)], none⟩, ⟨[(32, some 0)], [(11, true)], none⟩, ⟨[], [], some (true, 21, 33, 12, 0)⟩] [(0, none), (1, none), (2, none), (3, none), (8, none), (9, none), (34, some 0)] (⟨_, rfl, ⟨_, rfl, ⟨_, rfl, ⟨_, rfl, ⟨_, rfl, ⟨_, rfl, ⟨_, rfl, ⟨_, rfl, ⟨_, rfl, ⟨_, rfl, ⟨_, rfl, ⟨_, rfl, ⟨_, rfl, ⟨_, rfl, ⟨_, rfl, ⟨_, rfl, ⟨_, rfl, ⟨rfl, rfl⟩⟩⟩⟩⟩⟩⟩⟩⟩⟩⟩⟩⟩⟩⟩⟩⟩⟩) mixed_orders rfl (by decide +kernel) (fun hck4 => ?_)
      refine VP.step (p := ?pv2929) rfl rfl rfl (⟨_, _, rfl, rfl, rfl⟩) ?hv2929 ?rest2929 hck4
      case hv2929 =>
       intro E1
       refine (V1.move rfl rfl rfl (ltb rfl) ?_)
       exact rfl
      refine VP.step (p := ?pv2930) rfl rfl rfl (⟨_, _, rfl, rfl, rfl⟩) ?hv2930 ?rest2930 hck4
      case hv2930 =>
       intro E1
       refine (V1.move rfl rfl rfl (ltb rfl) ?_)
       exact rfl
      refine VP.step (p := ?pv2931) rfl rfl rfl (⟨_, _, rfl, rfl, ⟨_, _, rfl, rfl, rfl⟩⟩) ?hv2931 ?rest2931 hck4
      case hv2931 =>
       intro E1
       refine (V1.int rfl rfl rfl rfl rfl (ltb rfl) ?_)
       exact rfl
      refine VP.step (p := ?pv2932) rfl rfl rfl (⟨_, _, rfl, rfl, rfl⟩) ?hv2932 ?rest2932 hck4
      case hv2932 =>
       intro E1
       refine (V1.move rfl rfl rfl (ltb rfl) ?_)
       exact rfl
      refine VP.step (p := ?pv2933) rfl rfl rfl (⟨_, _, rfl, rfl, rfl⟩) ?hv2933 ?rest2933 hck4
      case hv2933 =>
       refine ⟨_, rfl, fun hg0 => ?_⟩
       intro E1
       refine (V1.move rfl rfl rfl (ltb rfl) ?_)
       exact rfl
      refine VP.step (p := ?pv2934) rfl rfl rfl (⟨_, _, rfl, rfl, rfl⟩) ?hv2934 ?rest2934 hck4
      case hv2934 =>
       refine ⟨_, rfl, fun hg0 => ?_⟩
       intro E1
       refine (V1.move rfl rfl rfl (ltb rfl) ?_)
       exact rfl
      refine VP.step (p := ?pv2935) rfl rfl rfl (⟨_, _, rfl, rfl, rfl⟩) ?hv2935 ?rest2935 hck4
      case hv2935 =>
       refine ⟨_, rfl, fun hg0 => ?_⟩
       intro E1
       refine (V1.move rfl rfl rfl (ltb rfl) ?_)
       exact rfl
      refine VP.step (p := .pin rn ((encCarton rn) (data3.getD (Int.toNat j_) default)) 0) rfl rfl rfl (⟨_, _, rfl, rfl, ⟨_, _, rfl, rfl, rfl⟩⟩) ?hv2936 ?rest2936 hck4
      case hv2936 =>
       refine ⟨_, rfl, fun hg0 => ?_⟩
       intro E1
       exact ((nilsNo hn_data3 (hh0 hg0))).elim
      refine VP.step (p := encCarton rn (data3.getD (Int.toNat j_) default)) rfl rfl rfl (⟨_, _, rfl, rfl, rfl⟩) ?hv2937 ?rest2937 hck4
      case hv2937 =>
       refine ⟨_, rfl, fun hg0 => ?_⟩
       intro E1
       exact ((nilsNo hn_data3 (hh0 hg0))).elim
      refine VP.step (p := ?pv2938) rfl rfl rfl (⟨_, _, rfl, rfl, rfl⟩) ?hv2938 ?rest2938 hck4
      case hv2938 =>
       refine ⟨_, rfl, fun hg0 => ?_⟩
       intro E1
       refine (V1.move rfl rfl rfl (ltb rfl) ?_)
       exact rfl
      refine VP.step (p := ?pv2939) rfl rfl rfl (⟨_, _, rfl, rfl, rfl⟩) ?hv2939 ?rest2939 hck4
      case hv2939 =>
       refine ⟨_, rfl, fun hg0 => ?_⟩
       intro E1
       refine (V1.move rfl rfl rfl (ltb rfl) ?_)
       exact rfl
      refine VP.step (p := ?pv2940) rfl rfl rfl (⟨_, _, rfl, rfl, rfl⟩) ?hv2940 ?rest2940 hck4
      case hv2940 =>
       refine ⟨_, rfl, fun hg0 => ?_⟩
       intro E1
       refine (V1.int rfl rfl rfl rfl rfl (ltb rfl) ?_)
       exact rfl
      refine VP.step (p := .pin rn ((encCarton rn) (data3.getD (Int.toNat (IntKind.i64.wrap (j_ - (1 : Int)))) default)) 0) rfl rfl rfl (⟨_, _, rfl, rfl, ⟨_, _, rfl, rfl, rfl⟩⟩) ?hv2941 ?rest2941 hck4
      case hv2941 =>
       refine ⟨_, rfl, fun hg0 => ?_⟩
       intro E1
       exact ((nilsNo hn_data3 (hh1 hg0))).elim
      refine VP.step (p := encCarton rn (data3.getD (Int.toNat (IntKind.i64.wrap (j_ - (1 : Int)))) default)) rfl rfl rfl (⟨_, _, rfl, rfl, rfl⟩) ?hv2942 ?rest2942 hck4
      case hv2942 =>
       refine ⟨_, rfl, fun hg0 => ?_⟩
       intro E1
       exact ((nilsNo hn_data3 (hh1 hg0))).elim
      refine VP.step (p := .int .i64 y2) rfl rfl rfl (⟨_, _, rfl, rfl, ⟨_, _, rfl, rfl, ⟨_, _, rfl, rfl, rfl⟩⟩⟩) ?hv2943 ?rest2943 hck4
      case hv2943 =>
       refine ⟨_, rfl, fun hg0 => ?_⟩
       intro E1
       exact ((nilsNo hn_data3 (hh0 hg0))).elim
      refine VP.step (p := .bool (decide (y2 < (0 : Int)))) rfl rfl rfl (⟨_, _, rfl, rfl, rfl⟩) ?hv2944 ?rest2944 hck4
      case hv2944 =>
       refine ⟨_, rfl, fun hg0 => ?_⟩
       intro E1
       exact ((nilsNo hn_data3 (hh0 hg0))).elim
      refine VP.pickAnd rfl rfl rfl rfl rfl rfl (trivial) ?_ hck4
      refine VP.fin rfl (⟨_, _, rfl, rfl, ⟨_, _, rfl, rfl, ⟨_, _, rfl, rfl, ⟨_, _, rfl, rfl, ⟨_, _, rfl, rfl, ⟨_, _, rfl, rfl, ⟨_, _, rfl, rfl, rfl⟩⟩⟩⟩⟩⟩⟩) ?_
      refine VO.nil ?_
      refine V.cond rfl (fun hc1 => ?_) (fun hc1 => ?_)
      ·
       replace hm2 := cond_t hc1 hm2
       refine V.skip ?_
       refine V.seq ?_
       refine V.block ?_
       replace hm2 := asrt_some hm2; rcases hm2 with ⟨hh3, hm2⟩
       exact (nilsNo hn_data3 hh3).elim
      ·
       replace hm2 := cond_f hc1 hm2
       refine V.exit ?_
       obtain rfl := hr2 _ (Option.some.inj hm2).symm
       exact ⟨(data3, none), ⟨rfl, (fun _ => hn_data3)⟩, Keeps.mk (ks := []) rfl ⟨rfl, rfl, rfl, rfl, rfl, trivial⟩ (rfl) rfl⟩
     ·
      rintro ⟨data2, ob1⟩ ⟨rfl, hob1⟩
      try dsimp only at hm1
      rcases ob1 with _ | ob1
      ·
       replace hob1 := hob1 rfl
       refine V.region ?_
       refine VO.cons rfl (V1.move rfl rfl rfl (ltb rfl) ?_)
       refine VO.cons rfl (V1.int rfl rfl rfl rfl rfl (ltb rfl) ?_)
       refine VO.cons rfl (V1.assign rfl rfl rfl (ltb rfl) ?_)
       refine VO.nil ?_
       exact ⟨(m0, (data2, (IntKind.i64.wrap (i + (1 : Int)))), none), ⟨hl1 _ (Option.some.inj hm1).symm, (fun _ => hob1)⟩, Nat.lt_succ_self _, Keeps.mk (ks := []) rfl ⟨rfl, rfl, rfl, rfl, rfl, trivial⟩ (rfl) rfl⟩
      ·
       refine V.region ?_
       refine VO.cons rfl (V1.move rfl rfl rfl (ltb rfl) ?_)
       refine VO.cons rfl (V1.int rfl rfl rfl rfl rfl (ltb rfl) ?_)
       refine VO.cons rfl (V1.assign rfl rfl rfl (ltb rfl) ?_)
       refine VO.nil ?_
       exact ⟨(m0, (data2, (IntKind.i64.wrap (i + (1 : Int)))), (some ob1)), ⟨hl1 _ (Option.some.inj hm1).symm, (fun e => by cases e)⟩, Nat.lt_succ_self _, Keeps.mk (ks := [0]) rfl ⟨rfl, rfl, rfl, rfl, rfl, trivial⟩ (⟨_, _, rfl, rfl, rfl⟩) rfl⟩
    ·
     replace hm1 := cond_f hc0 hm1
     refine V.exit ?_
     obtain rfl := hr1 _ (Option.some.inj hm1).symm
     exact ⟨(data1, ()), rfl, Keeps.trans (Keeps.nilsE (l := data1) 0 rn 5 (encCarton ρ0) hob0 rfl rfl) (Keeps.mk (ks := []) rfl ⟨rfl, trivial⟩ (rfl) rfl)⟩
   ·
    show V _ _ _ ⟨53, [(0, .sref ob0 5 0 (List.length data1)), (8, .int .i64 i), (1, .int .i64 a), (2, .int .i64 b_), (3, .fn f3 cs3)], [(ob0, ⟨5, List.map (encCarton ρ0) data1⟩)]⟩
    refine V.seq ?_
    refine V.seq ?_
    refine V.region ?_
    refine VO.cons rfl (V1.move rfl rfl rfl (ltb rfl) ?_)
    refine VO.cons rfl (V1.move rfl rfl rfl (ltb rfl) ?_)
    refine VO.cons rfl (V1.int rfl rfl rfl rfl rfl (ltb rfl) ?_)
    refine VO.nil ?_
    refine V.cond rfl (fun hc0 => ?_) (fun hc0 => ?_)
    ·
     replace hm1 := cond_t hc0 hm1
     refine V.skip ?_
     refine V.seq ?_
     refine V.block ?_
     refine V.seq ?_
     refine V.region ?_
     refine VO.cons rfl (V1.move rfl rfl rfl (ltb rfl) ?_)
     refine VO.cons rfl (V1.assign rfl rfl rfl (ltb rfl) ?_)
     refine VO.nil ?_
     refine V.keep 53 [0, 1, 2, 3, 8, 9] [0] (E0 := [(0, .sref ob0 5 0 (List.length data1)), (1, .int .i64 a), (2, .int .i64 b_), (3, .fn f3 cs3), (8, .int .i64 i), (9, .int .i64 i)]) (H0 := [(ob0, ⟨5, List.map (encCarton ρ0) data1⟩)]) rfl (⟨_, _, rfl, rfl, ⟨_, _, rfl, rfl, ⟨_, _, rfl, rfl, ⟨_, _, rfl, rfl, ⟨_, _, rfl, rfl, ⟨_, _, rfl, rfl, rfl⟩⟩⟩⟩⟩⟩) (⟨_, _, rfl, rfl, rfl⟩) rfl ?_
     replace hm1 := bindO hm1; rcases hm1 with ⟨e1, he2, hm1⟩
     refine V.cutT (D := (List Carton) × (Unit)) (fun ⟨data2, _⟩ => ⟨53, [(0, .sref ob0 5 0 (List.length data2)), (1, .int .i64 a), (2, .int .i64 b_), (3, .fn f3 cs3), (8, .int .i64 i)], [(ob0, ⟨5, List.map (encCarton ρ0) data2⟩)]⟩) (fun ⟨data2, _⟩ => (data2 = e1)) ?_ ?_
     ·
      refine V.block ?_
      refine V.keep 53 [0, 9, 1, 2, 3, 8] [0] (E0 := [(0, .sref ob0 5 0 (List.length data1)), (9, .int .i64 i), (1, .int .i64 a), (2, .int .i64 b_), (3, .fn f3 cs3), (8, .int .i64 i)]) (H0 := [(ob0, ⟨5, List.map (encCarton ρ0) data1⟩)]) rfl (⟨_, _, rfl, rfl, ⟨_, _, rfl, rfl, ⟨_, _, rfl, rfl, ⟨_, _, rfl, rfl, ⟨_, _, rfl, rfl, ⟨_, _, rfl, rfl, rfl⟩⟩⟩⟩⟩⟩) (⟨_, _, rfl, rfl, rfl⟩) rfl ?_
      refine V.loopE (D := Nat × (List Carton × Int) × (Unit)) (fun ⟨n1, ⟨data3, j_⟩, _⟩ => [(0, .sref ob0 5 0 (List.length data3)), (9, .int .i64 j_)]) (fun ⟨n1, ⟨data3, j_⟩, _⟩ => [(ob0, ⟨5, List.map (encCarton ρ0) data3⟩)]) (fun ⟨n1, ⟨data3, j_⟩, _⟩ => loopO (M.slices_insertionSortCmpFunc_impl_Carton_l1 a fm) n1 (data3, j_) = some e1) (fun ⟨n1, _, _⟩ => n1) (rounds, (data1, i), ()) rfl he2 ?_
      rintro ⟨n1, ⟨data3, j_⟩, _⟩ hP1
      obtain ⟨m1, y1, rfl, hm2, hl2, hr2⟩ := loop_head hP1
      unfold M.slices_insertionSortCmpFunc_impl_Carton_l1 at hm2; dsimp only at hm2
      show V _ _ _ ⟨53, [(0, .sref ob0 5 0 (List.length data3)), (9, .int .i64 j_), (1, .int .i64 a), (2, .int .i64 b_), (3, .fn f3 cs3), (8, .int .i64 i)], [(ob0, ⟨5, List.map (encCarton ρ0) data3⟩)]⟩
      refine V.seq ?_
      refine V.seq ?_
      replace hm2 := asrt_some hm2; rcases hm2 with ⟨hh0, hm2⟩
      replace hm2 := asrt_some hm2; rcases hm2 with ⟨hh1, hm2⟩
      replace hm2 := bindO hm2; rcases hm2 with ⟨y2, hh2, hm2⟩
      refine V.regionM 53 17 [⟨[(9, none)], [], none⟩, ⟨[(1, none)], [], none⟩, ⟨[(18, some 1), (19, some 0)], [], none⟩, ⟨[(20, some 0)], [], none⟩, ⟨[(3, none)], [(0, true)], none⟩, ⟨[(0, none)], [(1, true)], none⟩, ⟨[(9, none)], [(2, true)], none⟩, ⟨[(23, some 1), (24, some 0)], [(3, true)], none⟩, ⟨[(25, some 0)], [(4, true)], none⟩, ⟨[(0, none)], [(5, true)], none⟩, ⟨[(9, none)], [(6, true)], none⟩, ⟨[(28, some 0)], [(7, true)], none⟩, ⟨[(27, some 2), (29, some 0)], [(8, true)], none⟩, ⟨[(30, some 0)], [(9, true)], none⟩, ⟨[(22, some 9), (26, some 5), (31, some 0)], [(10, true)], none⟩, ⟨[(32, some 0)], [(11, true)], none⟩, ⟨[], [], some (true, 21, 33, 12, 0)⟩] [(0, none), (1, none), (2, none), (3, none), (8, none), (9, none), (34, some 0)] (⟨_, rfl, ⟨_, rfl, ⟨_, rfl, ⟨_, rfl, ⟨_, rfl, ⟨_, rfl, ⟨_, rfl, ⟨_, rfl, ⟨_, rfl, ⟨_, rfl, ⟨_, rfl, ⟨_, rfl, ⟨_, rfl, ⟨_, rfl, ⟨_, rfl, ⟨_, rfl, ⟨_, rfl, ⟨rfl, rfl⟩⟩⟩⟩⟩⟩⟩⟩⟩⟩⟩⟩⟩⟩⟩⟩⟩⟩) mixed_orders rfl (by decide +kernel) (fun hck4 => ?_)
      refine VP.step (p := ?pv3077) rfl rfl rfl (⟨_, _, rfl, rfl, rfl⟩) ?hv3077 ?rest3077 hck4
      case hv3077 =>
       intro E1
       refine (V1.move rfl rfl rfl (ltb rfl) ?_)
       exact rfl
      refine VP.step (p := ?pv3078) rfl rfl rfl (⟨_, _, rfl, rfl, rfl⟩) ?hv3078 ?rest3078 hck4
      case hv3078 =>
       intro E1
       refine (V1.move rfl rfl rfl (ltb rfl) ?_)
       exact rfl
      refine VP.step (p := ?pv3079) rfl rfl rfl (⟨_, _, rfl, rfl, ⟨_, _, rfl, rfl, rfl⟩⟩) ?hv3079 ?rest3079 hck4
      case hv3079 =>
       intro E1
       refine (V1.int rfl rfl rfl rfl rfl (ltb rfl) ?_)
       exact rfl
      refine VP.step (p := ?pv3080) rfl rfl rfl (⟨_, _, rfl, rfl, rfl⟩) ?hv3080 ?rest3080 hck4
      case hv3080 =>
       intro E1
       refine (V1.move rfl rfl rfl (ltb rfl) ?_)
       exact rfl
      refine VP.step (p := ?pv3081) rfl rfl rfl (⟨_, _, rfl, rfl, rfl⟩) ?hv3081 ?rest3081 hck4
      case hv3081 =>
       refine ⟨_, rfl, fun hg0 => ?_⟩
       intro E1
       refine (V1.move rfl rfl rfl (ltb rfl) ?_)
       exact rfl
      refine VP.step (p := ?pv3082) rfl rfl rfl (⟨_, _, rfl, rfl, rfl⟩) ?hv3082 ?rest3082 hck4
      case hv3082 =>
       refine ⟨_, rfl, fun hg0 => ?_⟩
       intro E1
       refine (V1.move rfl rfl rfl (ltb rfl) ?_)
       exact rfl
      refine VP.step (p := ?pv3083) rfl rfl rfl (⟨_, _, rfl, rfl, rfl⟩) ?hv3083 ?rest3083 hck4
      case hv3083 =>
       refine ⟨_, rfl, fun hg0 => ?_⟩
       intro E1
       refine (V1.move rfl rfl rfl (ltb rfl) ?_)
       exact rfl
      refine VP.step (p := ?pv3084) rfl rfl rfl (⟨_, _, rfl, rfl, ⟨_, _, rfl, rfl, rfl⟩⟩) ?hv3084 ?rest3084 hck4
      case hv3084 =>
       refine ⟨_, rfl, fun hg0 => ?_⟩
       intro E1
       refine (V1.indexSr rfl rfl esz_24 rfl rfl (hh0 hg0) (ltb rfl) ?_)
       exact rfl
      refine VP.step (p := ?pv3085) rfl rfl rfl (⟨_, _, rfl, rfl, rfl⟩) ?hv3085 ?rest3085 hck4
      case hv3085 =>
       refine ⟨_, rfl, fun hg0 => ?_⟩
       intro E1
       refine (V1.loadMapAll (k := 0) (f := (encCarton ρ0)) rfl rfl tyk_40 rfl rfl (by simpa using natLt (hh0 hg0).1 (hh0 hg0).2) rfl (ltb rfl) ?_)
       exact rfl
      refine VP.step (p := ?pv3086) rfl rfl rfl (⟨_, _, rfl, rfl, rfl⟩) ?hv3086 ?rest3086 hck4
      case hv3086 =>
       refine ⟨_, rfl, fun hg0 => ?_⟩
       intro E1
       refine (V1.move rfl rfl rfl (ltb rfl) ?_)
       exact rfl
      refine VP.step (p := ?pv3087) rfl rfl rfl (⟨_, _, rfl, rfl, rfl⟩) ?hv3087 ?rest3087 hck4
      case hv3087 =>
       refine ⟨_, rfl, fun hg0 => ?_⟩
       intro E1
       refine (V1.move rfl rfl rfl (ltb rfl) ?_)
       exact rfl
      refine VP.step (p := ?pv3088) rfl rfl rfl (⟨_, _, rfl, rfl, rfl⟩) ?hv3088 ?rest3088 hck4
      case hv3088 =>
       refine ⟨_, rfl, fun hg0 => ?_⟩
       intro E1
       refine (V1.int rfl rfl rfl rfl rfl (ltb rfl) ?_)
       exact rfl
      refine VP.step (p := ?pv3089) rfl rfl rfl (⟨_, _, rfl, rfl, ⟨_, _, rfl, rfl, rfl⟩⟩) ?hv3089 ?rest3089 hck4
      case hv3089 =>
       refine ⟨_, rfl, fun hg0 => ?_⟩
       intro E1
       refine (V1.indexSr rfl rfl esz_24 rfl rfl (hh1 hg0) (ltb rfl) ?_)
       exact rfl
      refine VP.step (p := ?pv3090) rfl rfl rfl (⟨_, _, rfl, rfl, rfl⟩) ?hv3090 ?rest3090 hck4
      case hv3090 =>
       refine ⟨_, rfl, fun hg0 => ?_⟩
       intro E1
       refine (V1.loadMapAll (k := 0) (f := (encCarton ρ0)) rfl rfl tyk_40 rfl rfl (by simpa using natLt (hh1 hg0).1 (hh1 hg0).2) rfl (ltb rfl) ?_)
       exact rfl
      refine VP.step (p := ?pv3091) rfl rfl rfl (⟨_, _, rfl, rfl, ⟨_, _, rfl, rfl, ⟨_, _, rfl, rfl, rfl⟩⟩⟩) ?hv3091 ?rest3091 hck4
      case hv3091 =>
       refine ⟨_, rfl, fun hg0 => ?_⟩
       intro E1
       refine (V1.callG (τ := 0) (Bw := []) rfl (ltb rfl) (run_callFn rfl rfl rfl hok3 rfl) (.refl _) (Lends.same _) (fun _ h => by cases h) ((hf3 _ _  _) (cond_t hg0 hh2)) (.inl rfl) (.inl rfl) ?_)
       rintro _ _ ⟨rfl, rfl⟩
       exact rfl
      refine VP.step (p := ?pv3092) rfl rfl rfl (⟨_, _, rfl, rfl, rfl⟩) ?hv3092 ?rest3092 hck4
      case hv3092 =>
       refine ⟨_, rfl, fun hg0 => ?_⟩
       intro E1
       refine (V1.int rfl rfl rfl rfl rfl (ltb rfl) ?_)
       exact rfl
      refine VP.pickAnd rfl rfl rfl rfl rfl rfl (trivial) ?_ hck4
      refine VP.fin rfl (⟨_, _, rfl, rfl, ⟨_, _, rfl, rfl, ⟨_, _, rfl, rfl, ⟨_, _, rfl, rfl, ⟨_, _, rfl, rfl, ⟨_, _, rfl, rfl, ⟨_, _, rfl, rfl, rfl⟩⟩⟩⟩⟩⟩⟩) ?_
      refine VO.nil ?_
      refine V.cond rfl (fun hc1 => ?_) (fun hc1 => ?_)
      ·
       replace hm2 := cond_t hc1 hm2
       refine V.skip ?_
       refine V.seq ?_
       refine V.block ?_
       replace hm2 := asrt_some hm2; rcases hm2 with ⟨hh3, hm2⟩
       replace hm2 := asrt_some hm2; rcases hm2 with ⟨hh4, hm2⟩
       replace hm2 := asrt_some hm2; rcases hm2 with ⟨hh5, hm2⟩
       replace hm2 := asrt_some hm2; rcases hm2 with ⟨hh6, hm2⟩
       replace hm2 := bindO hm2; rcases hm2 with ⟨j0, hm3, hm2⟩
       refine V.cutT (D := (List Carton) × (Unit)) (fun ⟨data4, _⟩ => ⟨53, [(0, .sref ob0 5 0 (List.length data4)), (1, .int .i64 a), (2, .int .i64 b_), (3, .fn f3 cs3), (8, .int .i64 i), (9, .int .i64 j_)], [(ob0, ⟨5, List.map (encCarton ρ0) data4⟩)]⟩) (fun ⟨data4, _⟩ => (data4 = j0)) ?_ ?_
       ·
        refine V.regionS [] 53 16 [⟨[(0, none)], false⟩, ⟨[(9, none)], false⟩, ⟨[(0, none)], false⟩, ⟨[(9, none)], false⟩, ⟨[(40, some 3)], false⟩, ⟨[(0, none)], false⟩, ⟨[(9, none)], false⟩, ⟨[(43, some 6)], false⟩, ⟨[(42, some 5), (44, some 7)], false⟩, ⟨[(45, some 8)], true⟩, ⟨[(0, none)], false⟩, ⟨[(9, none)], false⟩, ⟨[(47, some 10), (48, some 11)], false⟩, ⟨[(49, some 12)], true⟩, ⟨[(37, some 0), (38, some 1)], false⟩, ⟨[(46, some 9), (51, some 14)], true⟩] [(0, none), (1, none), (2, none), (3, none), (8, none), (9, none), (39, some 2), (41, some 4), (50, some 13)] 3 (⟨_, rfl, ⟨_, rfl, ⟨_, rfl, ⟨_, rfl, ⟨_, rfl, ⟨_, rfl, ⟨_, rfl, ⟨_, rfl, ⟨_, rfl, ⟨_, rfl, ⟨_, rfl, ⟨_, rfl, ⟨_, rfl, ⟨_, rfl, ⟨_, rfl, ⟨_, rfl, ⟨rfl, rfl⟩⟩⟩⟩⟩⟩⟩⟩⟩⟩⟩⟩⟩⟩⟩⟩⟩) mixed_orders rfl (by decide +kernel) ?_
        refine WalkP.step (p := ?pv3107) 0 rfl rfl rfl rfl rfl (⟨_, _, rfl, rfl, rfl⟩) ?hv3107 ?rest3107
        case hv3107 =>
         intro E1 H1 hI1
         refine (V1.move rfl rfl rfl (ltb rfl) ?_)
         exact rfl
        refine WalkP.step (p := ?pv3108) 1 rfl rfl rfl rfl rfl (⟨_, _, rfl, rfl, rfl⟩) ?hv3108 ?rest3108
        case hv3108 =>
         intro E1 H1 hI1
         refine (V1.move rfl rfl rfl (ltb rfl) ?_)
         exact rfl
        refine WalkP.step (p := ?pv3109) 2 rfl rfl rfl rfl rfl (⟨_, _, rfl, rfl, rfl⟩) ?hv3109 ?rest3109
        case hv3109 =>
         intro E1 H1 hI1
         refine (V1.move rfl rfl rfl (ltb rfl) ?_)
         exact rfl
        refine WalkP.step (p := ?pv3110) 3 rfl rfl rfl rfl rfl (⟨_, _, rfl, rfl, rfl⟩) ?hv3110 ?rest3110
        case hv3110 =>
         intro E1 H1 hI1
         refine (V1.move rfl rfl rfl (ltb rfl) ?_)
         exact rfl
        refine WalkP.step (p := ?pv3111) 4 rfl rfl rfl rfl rfl (⟨_, _, rfl, rfl, rfl⟩) ?hv3111 ?rest3111
        case hv3111 =>
         intro E1 H1 hI1
         refine (V1.int rfl rfl rfl rfl rfl (ltb rfl) ?_)
         exact rfl
        refine WalkP.step (p := ?pv3112) 5 rfl rfl rfl rfl rfl (⟨_, _, rfl, rfl, rfl⟩) ?hv3112 ?rest3112
        case hv3112 =>
         intro E1 H1 hI1
         refine (V1.move rfl rfl rfl (ltb rfl) ?_)
         exact rfl
        refine WalkP.step (p := ?pv3113) 6 rfl rfl rfl rfl rfl (⟨_, _, rfl, rfl, rfl⟩) ?hv3113 ?rest3113
        case hv3113 =>
         intro E1 H1 hI1
         refine (V1.move rfl rfl rfl (ltb rfl) ?_)
         exact rfl
        refine WalkP.step (p := ?pv3114) 7 rfl rfl rfl rfl rfl (⟨_, _, rfl, rfl, rfl⟩) ?hv3114 ?rest3114
        case hv3114 =>
         intro E1 H1 hI1
         refine (V1.int rfl rfl rfl rfl rfl (ltb rfl) ?_)
         exact rfl
        refine WalkP.step (p := ?pv3115) 8 rfl rfl rfl rfl rfl (⟨_, _, rfl, rfl, ⟨_, _, rfl, rfl, rfl⟩⟩) ?hv3115 ?rest3115
        case hv3115 =>
         intro E1 H1 hI1
         refine (V1.indexSr rfl rfl esz_24 rfl rfl hh3 (ltb rfl) ?_)
         exact rfl
        refine WalkP.step (p := ?pv3116) 10 rfl rfl rfl rfl rfl (⟨_, _, rfl, rfl, rfl⟩) ?hv3116 ?rest3116
        case hv3116 =>
         intro E1 H1 hI1
         refine (V1.move rfl rfl rfl (ltb rfl) ?_)
         exact rfl
        refine WalkP.step (p := ?pv3117) 11 rfl rfl rfl rfl rfl (⟨_, _, rfl, rfl, rfl⟩) ?hv3117 ?rest3117
        case hv3117 =>
         intro E1 H1 hI1
         refine (V1.move rfl rfl rfl (ltb rfl) ?_)
         exact rfl
        refine WalkP.step (p := ?pv3118) 12 rfl rfl rfl rfl rfl (⟨_, _, rfl, rfl, ⟨_, _, rfl, rfl, rfl⟩⟩) ?hv3118 ?rest3118
        case hv3118 =>
         intro E1 H1 hI1
         refine (V1.indexSr rfl rfl esz_24 rfl rfl hh4 (ltb rfl) ?_)
         exact rfl
        refine WalkP.nil ?_
        refine NodeS.branch [9, 13] inNil rfl rfl rfl ⟨?_, ?_, trivial⟩
        ·
         refine ⟨_, _, _, _, rfl, rfl, rfl, (⟨_, _, rfl, rfl, rfl⟩), fun E1 => ?_⟩
         refine (V1.loadMapAll (k := 0) (f := (encCarton ρ0)) rfl rfl tyk_40 rfl rfl (by simpa using natLt hh3.1 hh3.2) rfl (ltb rfl) ?_)
         refine ⟨_, _, rfl, ?_⟩
         refine WalkP.nil ?_
         refine NodeS.branch [13] inNil rfl rfl rfl ⟨?_, trivial⟩
         ·
          refine ⟨_, _, _, _, rfl, rfl, rfl, (⟨_, _, rfl, rfl, rfl⟩), fun E1 => ?_⟩
          refine (V1.loadMapAll (k := 0) (f := (encCarton ρ0)) rfl rfl tyk_40 rfl rfl (by simpa using natLt hh4.1 hh4.2) rfl (ltb rfl) ?_)
          refine ⟨_, _, rfl, ?_⟩
          refine WalkP.step (p := ?pv3119) 14 rfl rfl rfl rfl rfl (⟨_, _, rfl, rfl, ⟨_, _, rfl, rfl, rfl⟩⟩) ?hv3119 ?rest3119
          case hv3119 =>
           intro E1 H1 hI1
           refine (V1.indexSr rfl rfl esz_24 rfl rfl hh5 (ltb rfl) ?_)
           exact rfl
          refine WalkP.nil ?_
          refine NodeS.branch [15] inNil rfl rfl rfl ⟨?_, trivial⟩
          ·
           refine ⟨_, _, _, _, rfl, rfl, rfl, (⟨_, _, rfl, rfl, ⟨_, _, rfl, rfl, rfl⟩⟩), fun E1 => ?_⟩
           refine (V1.storeMap (k := 0) (f := (encCarton ρ0)) (x := (data3.getD (Int.toNat (IntKind.i64.wrap (j_ - (1 : Int)))) default)) rfl rfl tyk_40 rfl rfl (by simpa using natLt hh5.1 hh5.2) rfl rfl ?_)
           refine ⟨.undef, _, rfl, ?_⟩
           refine WalkP.nil ?_
           refine NodeS.fin inNil rfl rfl rfl (⟨_, _, rfl, rfl, ⟨_, _, rfl, rfl, ⟨_, _, rfl, rfl, ⟨_, _, rfl, rfl, ⟨_, _, rfl, rfl, ⟨_, _, rfl, rfl, ⟨_, _, rfl, rfl, ⟨_, _, rfl, rfl, ⟨_, _, rfl, rfl, rfl⟩⟩⟩⟩⟩⟩⟩⟩⟩) ?_
           refine VO.weakenK (Keeps.say 0 (y := .sref ob0 5 0 (List.length (data3.set (Int.toNat j_) (data3.getD (Int.toNat (IntKind.i64.wrap (j_ - (1 : Int)))) default)))) rfl (by simp [optS])) ?_
           refine VO.weakenK (Keeps.say 39 (y := .sref ob0 5 0 (List.length (data3.set (Int.toNat j_) (data3.getD (Int.toNat (IntKind.i64.wrap (j_ - (1 : Int)))) default)))) rfl (by simp [optS])) ?_
           refine VO.cons rfl (V1.indexSr rfl rfl esz_24 rfl rfl hh6 (ltb rfl) ?_)
           refine VO.cons rfl (V1.storeMap (k := 0) (f := (encCarton ρ0)) (x := (data3.getD (Int.toNat j_) default)) rfl rfl tyk_40 rfl rfl (by simpa using natLt hh6.1 hh6.2) rfl rfl ?_)
           refine VO.weakenK (Keeps.say 0 (y := .sref ob0 5 0 (List.length ((data3.set (Int.toNat j_) (data3.getD (Int.toNat (IntKind.i64.wrap (j_ - (1 : Int)))) default)).set (Int.toNat (IntKind.i64.wrap (j_ - (1 : Int)))) (data3.getD (Int.toNat j_) default)))) rfl (by simp [optS])) ?_
           refine VO.nil ?_
           exact ⟨(((data3.set (Int.toNat j_) (data3.getD (Int.toNat (IntKind.i64.wrap (j_ - (1 : Int)))) default)).set (Int.toNat (IntKind.i64.wrap (j_ - (1 : Int)))) (data3.getD (Int.toNat j_) default)), ()), Option.some.inj hm3, Keeps.mk (ks := [0]) rfl ⟨(someSref (by simp)), rfl, rfl, rfl, rfl, rfl, trivial⟩ (⟨_, _, rfl, rfl, rfl⟩) rfl⟩
        ·
         refine ⟨_, _, _, _, rfl, rfl, rfl, (⟨_, _, rfl, rfl, rfl⟩), fun E1 => ?_⟩
         refine (V1.loadMapAll (k := 0) (f := (encCarton ρ0)) rfl rfl tyk_40 rfl rfl (by simpa using natLt hh4.1 hh4.2) rfl (ltb rfl) ?_)
         refine ⟨_, _, rfl, ?_⟩
         refine WalkP.nil ?_
         refine NodeS.branch [9] inNil rfl rfl rfl ⟨?_, trivial⟩
         ·
          refine ⟨_, _, _, _, rfl, rfl, rfl, (⟨_, _, rfl, rfl, rfl⟩), fun E1 => ?_⟩
          refine (V1.loadMapAll (k := 0) (f := (encCarton ρ0)) rfl rfl tyk_40 rfl rfl (by simpa using natLt hh3.1 hh3.2) rfl (ltb rfl) ?_)
          refine ⟨_, _, rfl, ?_⟩
          refine WalkP.step (p := ?pv3120) 14 rfl rfl rfl rfl rfl (⟨_, _, rfl, rfl, ⟨_, _, rfl, rfl, rfl⟩⟩) ?hv3120 ?rest3120
          case hv3120 =>
           intro E1 H1 hI1
           refine (V1.indexSr rfl rfl esz_24 rfl rfl hh5 (ltb rfl) ?_)
           exact rfl
          refine WalkP.nil ?_
          refine NodeS.branch [15] inNil rfl rfl rfl ⟨?_, trivial⟩
          ·
           refine ⟨_, _, _, _, rfl, rfl, rfl, (⟨_, _, rfl, rfl, ⟨_, _, rfl, rfl, rfl⟩⟩), fun E1 => ?_⟩
           refine (V1.storeMap (k := 0) (f := (encCarton ρ0)) (x := (data3.getD (Int.toNat (IntKind.i64.wrap (j_ - (1 : Int)))) default)) rfl rfl tyk_40 rfl rfl (by simpa using natLt hh5.1 hh5.2) rfl rfl ?_)
           refine ⟨.undef, _, rfl, ?_⟩
           refine WalkP.nil ?_
           refine NodeS.fin inNil rfl rfl rfl (⟨_, _, rfl, rfl, ⟨_, _, rfl, rfl, ⟨_, _, rfl, rfl, ⟨_, _, rfl, rfl, ⟨_, _, rfl, rfl, ⟨_, _, rfl, rfl, ⟨_, _, rfl, rfl, ⟨_, _, rfl, rfl, ⟨_, _, rfl, rfl, rfl⟩⟩⟩⟩⟩⟩⟩⟩⟩) ?_
           refine VO.weakenK (Keeps.say 0 (y := .sref ob0 5 0 (List.length (data3.set (Int.toNat j_) (data3.getD (Int.toNat (IntKind.i64.wrap (j_ - (1 : Int)))) default)))) rfl (by simp [optS])) ?_
           refine VO.weakenK (Keeps.say 39 (y := .sref ob0 5 0 (List.length (data3.set (Int.toNat j_) (data3.getD (Int.toNat (IntKind.i64.wrap (j_ - (1 : Int)))) default)))) rfl (by simp [optS])) ?_
           refine VO.cons rfl (V1.indexSr rfl rfl esz_24 rfl rfl hh6 (ltb rfl) ?_)
           refine VO.cons rfl (V1.storeMap (k := 0) (f := (encCarton ρ0)) (x := (data3.getD (Int.toNat j_) default)) rfl rfl tyk_40 rfl rfl (by simpa using natLt hh6.1 hh6.2) rfl rfl ?_)
           refine VO.weakenK (Keeps.say 0 (y := .sref ob0 5 0 (List.length ((data3.set (Int.toNat j_) (data3.getD (Int.toNat (IntKind.i64.wrap (j_ - (1 : Int)))) default)).set (Int.toNat (IntKind.i64.wrap (j_ - (1 : Int)))) (data3.getD (Int.toNat j_) default)))) rfl (by simp [optS])) ?_
           refine VO.nil ?_
           exact ⟨(((data3.set (Int.toNat j_) (data3.getD (Int.toNat (IntKind.i64.wrap (j_ - (1 : Int)))) default)).set (Int.toNat (IntKind.i64.wrap (j_ - (1 : Int)))) (data3.getD (Int.toNat j_) default)), ()), Option.some.inj hm3, Keeps.mk (ks := [0]) rfl ⟨(someSref (by simp)), rfl, rfl, rfl, rfl, rfl, trivial⟩ (⟨_, _, rfl, rfl, rfl⟩) rfl⟩
       ·
        rintro ⟨data4, _⟩ rfl
        try dsimp only at hm2
        refine V.region ?_
        refine VO.cons rfl (V1.move rfl rfl rfl (ltb rfl) ?_)
        refine VO.cons rfl (V1.int rfl rfl rfl rfl rfl (ltb rfl) ?_)
        refine VO.cons rfl (V1.assign rfl rfl rfl (ltb rfl) ?_)
        refine VO.nil ?_
        exact ⟨(m1, (data4, (IntKind.i64.wrap (j_ - (1 : Int)))), ()), hl2 _ (Option.some.inj hm2).symm, Nat.lt_succ_self _, Keeps.mk (ks := [0]) rfl ⟨(someSref (by simp)), rfl, rfl, rfl, rfl, rfl, trivial⟩ (⟨_, _, rfl, rfl, rfl⟩) rfl⟩
      ·
       replace hm2 := cond_f hc1 hm2
       refine V.exit ?_
       obtain rfl := hr2 _ (Option.some.inj hm2).symm
       exact ⟨(data3, ()), rfl, Keeps.mk (ks := [0]) rfl ⟨(someSref (by simp)), rfl, rfl, rfl, rfl, trivial⟩ (⟨_, _, rfl, rfl, rfl⟩) rfl⟩
     ·
      rintro ⟨data2, _⟩ rfl
      try dsimp only at hm1
      refine V.region ?_
      refine VO.cons rfl (V1.move rfl rfl rfl (ltb rfl) ?_)
      refine VO.cons rfl (V1.int rfl rfl rfl rfl rfl (ltb rfl) ?_)
      refine VO.cons rfl (V1.assign rfl rfl rfl (ltb rfl) ?_)
      refine VO.nil ?_
      exact ⟨(m0, (data2, (IntKind.i64.wrap (i + (1 : Int)))), (some ob0)), ⟨hl1 _ (Option.some.inj hm1).symm, (fun e => by cases e)⟩, Nat.lt_succ_self _, Keeps.mk (ks := [0]) rfl ⟨rfl, rfl, rfl, rfl, rfl, trivial⟩ (⟨_, _, rfl, rfl, rfl⟩) rfl⟩
    ·
     replace hm1 := cond_f hc0 hm1
     refine V.exit ?_
     obtain rfl := hr1 _ (Option.some.inj hm1).symm
     exact ⟨(data1, ()), rfl, Keeps.trans (Keeps.freezeG 0 rn [(0, .vl rn 5 (List.map (encCarton ρ0) data1))] [] (f := (encCarton ρ0)) (l := data1) rfl (fun _ => rfl) ⟨⟨_, rfl, .here⟩, trivial⟩ rfl rfl iNil) (Keeps.mk (ks := []) rfl ⟨rfl, trivial⟩ (rfl) rfl)⟩
  ·
   rintro ⟨data0, _⟩ rfl
   try dsimp only at hm0
   obtain rfl := Option.some.inj hm0
   exact ⟨_, [], rfl, List.nil_sublist _, rfl, rfl⟩
 ·
  refine V.seq ?_
  refine V.region ?_
  refine VO.cons rfl (V1.move rfl rfl rfl (ltb rfl) ?_)
  refine VO.cons rfl (V1.int rfl rfl rfl rfl rfl (ltb rfl) ?_)
  refine VO.cons rfl (V1.assign rfl rfl rfl (ltb rfl) ?_)
  refine VO.nil ?_
  replace hm0 := bindO hm0; rcases hm0 with ⟨e0, he1, hm0⟩
  refine V.cutT (D := (List Carton) × (Unit)) (fun ⟨data0, _⟩ => ⟨53, [(0, .sref oq 5 0 (List.length data0))], [(oq, ⟨5, List.map (encCarton ρ0) data0⟩)]⟩) (fun ⟨data0, _⟩ => (data0 = e0)) ?_ ?_
  ·
   refine V.block ?_
   refine V.keep 53 [0, 8, 1, 2, 3] [0] (E0 := [(0, .sref oq 5 0 (List.length data)), (8, .int .i64 (IntKind.i64.wrap (a + (1 : Int)))), (1, .int .i64 a), (2, .int .i64 b_), (3, .fn f3 cs3)]) (H0 := [(oq, ⟨5, List.map (encCarton ρ0) data⟩)]) rfl (⟨_, _, rfl, rfl, ⟨_, _, rfl, rfl, ⟨_, _, rfl, rfl, ⟨_, _, rfl, rfl, ⟨_, _, rfl, rfl, rfl⟩⟩⟩⟩⟩) (⟨_, _, rfl, rfl, rfl⟩) rfl ?_
   refine V.loopE (D := Nat × (List Carton × Int) × (Unit)) (fun ⟨n0, ⟨data1, i⟩, _⟩ => [(0, .sref oq 5 0 (List.length data1)), (8, .int .i64 i)]) (fun ⟨n0, ⟨data1, i⟩, _⟩ => [(oq, ⟨5, List.map (encCarton ρ0) data1⟩)]) (fun ⟨n0, ⟨data1, i⟩, _⟩ => loopO (M.slices_insertionSortCmpFunc_impl_Carton_l0 a b_ fm) n0 (data1, i) = some e0) (fun ⟨n0, _, _⟩ => n0) (rounds, (data, (IntKind.i64.wrap (a + (1 : Int)))), ()) rfl he1 ?_
   rintro ⟨n0, ⟨data1, i⟩, _⟩ hP0
   obtain ⟨m0, y0, rfl, hm1, hl1, hr1⟩ := loop_head hP0
   unfold M.slices_insertionSortCmpFunc_impl_Carton_l0 at hm1; dsimp only at hm1
   show V _ _ _ ⟨53, [(0, .sref oq 5 0 (List.length data1)), (8, .int .i64 i), (1, .int .i64 a), (2, .int .i64 b_), (3, .fn f3 cs3)], [(oq, ⟨5, List.map (encCarton ρ0) data1⟩)]⟩
   refine V.seq ?_
   refine V.seq ?_
   refine V.region ?_
   refine VO.cons rfl (V1.move rfl rfl rfl (ltb rfl) ?_)
   refine VO.cons rfl (V1.move rfl rfl rfl (ltb rfl) ?_)
   refine VO.cons rfl (V1.int rfl rfl rfl rfl rfl (ltb rfl) ?_)
   refine VO.nil ?_
   refine V.cond rfl (fun hc0 => ?_) (fun hc0 => ?_)
   ·
    replace hm1 := cond_t hc0 hm1
    refine V.skip ?_
    refine V.seq ?_
    refine V.block ?_
    refine V.seq ?_
    refine V.region ?_
    refine VO.cons rfl (V1.move rfl rfl rfl (ltb rfl) ?_)
    refine VO.cons rfl (V1.assign rfl rfl rfl (ltb rfl) ?_)
    refine VO.nil ?_
    refine V.keep 53 [0, 1, 2, 3, 8, 9] [0] (E0 := [(0, .sref oq 5 0 (List.length data1)), (1, .int .i64 a), (2, .int .i64 b_), (3, .fn f3 cs3), (8, .int .i64 i), (9, .int .i64 i)]) (H0 := [(oq, ⟨5, List.map (encCarton ρ0) data1⟩)]) rfl (⟨_, _, rfl, rfl, ⟨_, _, rfl, rfl, ⟨_, _, rfl, rfl, ⟨_, _, rfl, rfl, ⟨_, _, rfl, rfl, ⟨_, _, rfl, rfl, rfl⟩⟩⟩⟩⟩⟩) (⟨_, _, rfl, rfl, rfl⟩) rfl ?_
    replace hm1 := bindO hm1; rcases hm1 with ⟨e1, he2, hm1⟩
    refine V.cutT (D := (List Carton) × (Unit)) (fun ⟨data2, _⟩ => ⟨53, [(0, .sref oq 5 0 (List.length data2)), (1, .int .i64 a), (2, .int .i64 b_), (3, .fn f3 cs3), (8, .int .i64 i)], [(oq, ⟨5, List.map (encCarton ρ0) data2⟩)]⟩) (fun ⟨data2, _⟩ => (data2 = e1)) ?_ ?_
    ·
     refine V.block ?_
     refine V.keep 53 [0, 9, 1, 2, 3, 8] [0] (E0 := [(0, .sref oq 5 0 (List.length data1)), (9, .int .i64 i), (1, .int .i64 a), (2, .int .i64 b_), (3, .fn f3 cs3), (8, .int .i64 i)]) (H0 := [(oq, ⟨5, List.map (encCarton ρ0) data1⟩)]) rfl (⟨_, _, rfl, rfl, ⟨_, _, rfl, rfl, ⟨_, _, rfl, rfl, ⟨_, _, rfl, rfl, ⟨_, _, rfl, rfl, ⟨_, _, rfl, rfl, rfl⟩⟩⟩⟩⟩⟩) (⟨_, _, rfl, rfl, rfl⟩) rfl ?_
     refine V.loopE (D := Nat × (List Carton × Int) × (Unit)) (fun ⟨n1, ⟨data3, j_⟩, _⟩ => [(0, .sref oq 5 0 (List.length data3)), (9, .int .i64 j_)]) (fun ⟨n1, ⟨data3, j_⟩, _⟩ => [(oq, ⟨5, List.map (encCarton ρ0) data3⟩)]) (fun ⟨n1, ⟨data3, j_⟩, _⟩ => loopO (M.slices_insertionSortCmpFunc_impl_Carton_l1 a fm) n1 (data3, j_) = some e1) (fun ⟨n1, _, _⟩ => n1) (rounds, (data1, i), ()) rfl he2 ?_
     rintro ⟨n1, ⟨data3, j_⟩, _⟩ hP1
     obtain ⟨m1, y1, rfl, hm2, hl2, hr2⟩ := loop_head hP1
     unfold M.slices_insertionSortCmpFunc_impl_Carton_l1 at hm2; dsimp only at hm2
     show V _ _ _ ⟨53, [(0, .sref oq 5 0 (List.length data3)), (9, .int .i64 j_), (1, .int .i64 a), (2, .int .i64 b_), (3, .fn f3 cs3), (8, .int .i64 i)], [(oq, ⟨5, List.map (encCarton ρ0) data3⟩)]⟩
     refine V.seq ?_
     refine V.seq ?_
     replace hm2 := asrt_some hm2; rcases hm2 with ⟨hh0, hm2⟩
     replace hm2 := asrt_some hm2; rcases hm2 with ⟨hh1, hm2⟩
     replace hm2 := bindO hm2; rcases hm2 with ⟨y2, hh2, hm2⟩
     refine V.regionM 53 17 [⟨[(9, none)], [], none⟩, ⟨[(1, none)], [], none⟩, ⟨[(18, some 1), (19, some 0)], [], none⟩, ⟨[(20, some 0)], [], none⟩, ⟨[(3, none)], [(0, true)], none⟩, ⟨[(0, none)], [(1, true)], none⟩, ⟨[(9, none)], [(2, true)], none⟩, ⟨[(23, some 1), (24, some 0)], [(3, true)], none⟩, ⟨[(25, some 0)], [(4, true)], none⟩, ⟨[(0, none)], [(5, true)], none⟩, ⟨[(9, none)], [(6, true)], none⟩, ⟨[(28, some 0)], [(7, true)], none⟩, ⟨[(27, some 2), (29, some 0)], [(8, true)], none⟩, ⟨[(30, some 0)], [(9, true)], none⟩, ⟨[(22, some 9), (26, some 5), (31, some 0)], [(10, true)], none⟩, ⟨[(32, some 0)], [(11, true)], none⟩, ⟨[], [], some (true, 21, 33, 12, 0)⟩] [(0, none), (1, none), (2, none), (3, none), (8, none), (9, none), (34, some 0)] (⟨_, rfl, ⟨_, rfl, ⟨_, rfl, ⟨_, rfl, ⟨_, rfl, ⟨_, rfl, ⟨_, rfl, ⟨_, rfl, ⟨_, rfl, ⟨_, rfl, ⟨_, rfl, ⟨_, rfl, ⟨_, rfl, ⟨_, rfl, ⟨_, rfl, ⟨_, rfl, ⟨_, rfl, ⟨rfl, rfl⟩⟩⟩⟩⟩⟩⟩⟩⟩⟩⟩⟩⟩⟩⟩⟩⟩⟩) mixed_orders rfl (by decide +kernel) (fun hck4 => ?_)
     refine VP.step (p := ?pv3781) rfl rfl rfl (⟨_, _, rfl, rfl, rfl⟩) ?hv3781 ?rest3781 hck4
     case hv3781 =>
      intro E1
      refine (V1.move rfl rfl rfl (ltb rfl) ?_)
      exact rfl
     refine VP.step (p := ?pv3782) rfl rfl rfl (⟨_, _, rfl, rfl, rfl⟩) ?hv3782 ?rest3782 hck4
     case hv3782 =>
      intro E1
      refine (V1.move rfl rfl rfl (ltb rfl) ?_)
      exact rfl
     refine VP.step (p := ?pv3783) rfl rfl rfl (⟨_, _, rfl, rfl, ⟨_, _, rfl, rfl, rfl⟩⟩) ?hv3783 ?rest3783 hck4
     case hv3783 =>
      intro E1
      refine (V1.int rfl rfl rfl rfl rfl (ltb rfl) ?_)
      exact rfl
     refine VP.step (p := ?pv3784) rfl rfl rfl (⟨_, _, rfl, rfl, rfl⟩) ?hv3784 ?rest3784 hck4
     case hv3784 =>
      intro E1
      refine (V1.move rfl rfl rfl (ltb rfl) ?_)
      exact rfl
     refine VP.step (p := ?pv3785) rfl rfl rfl (⟨_, _, rfl, rfl, rfl⟩) ?hv3785 ?rest3785 hck4
     case hv3785 =>
      refine ⟨_, rfl, fun hg0 => ?_⟩
      intro E1
      refine (V1.move rfl rfl rfl (ltb rfl) ?_)
      exact rfl
     refine VP.step (p := ?pv3786) rfl rfl rfl (⟨_, _, rfl, rfl, rfl⟩) ?hv3786 ?rest3786 hck4
     case hv3786 =>
      refine ⟨_, rfl, fun hg0 => ?_⟩
      intro E1
      refine (V1.move rfl rfl rfl (ltb rfl) ?_)
      exact rfl
     refine VP.step (p := ?pv3787) rfl rfl rfl (⟨_, _, rfl, rfl, rfl⟩) ?hv3787 ?rest3787 hck4
     case hv3787 =>
      refine ⟨_, rfl, fun hg0 => ?_⟩
      intro E1
      refine (V1.move rfl rfl rfl (ltb rfl) ?_)
      exact rfl
     refine VP.step (p := ?pv3788) rfl rfl rfl (⟨_, _, rfl, rfl, ⟨_, _, rfl, rfl, rfl⟩⟩) ?hv3788 ?rest3788 hck4
     case hv3788 =>
      refine ⟨_, rfl, fun hg0 => ?_⟩
      intro E1
      refine (V1.indexSr rfl rfl esz_24 rfl rfl (hh0 hg0) (ltb rfl) ?_)
      exact rfl
     refine VP.step (p := ?pv3789) rfl rfl rfl (⟨_, _, rfl, rfl, rfl⟩) ?hv3789 ?rest3789 hck4
     case hv3789 =>
      refine ⟨_, rfl, fun hg0 => ?_⟩
      intro E1
      refine (V1.loadMapAll (k := 0) (f := (encCarton ρ0)) rfl rfl tyk_40 rfl rfl (by simpa using natLt (hh0 hg0).1 (hh0 hg0).2) rfl (ltb rfl) ?_)
      exact rfl
     refine VP.step (p := ?pv3790) rfl rfl rfl (⟨_, _, rfl, rfl, rfl⟩) ?hv3790 ?rest3790 hck4
     case hv3790 =>
      refine ⟨_, rfl, fun hg0 => ?_⟩
      intro E1
      refine (V1.move rfl rfl rfl (ltb rfl) ?_)
      exact rfl
     refine VP.step (p := ?pv3791) rfl rfl rfl (⟨_, _, rfl, rfl, rfl⟩) ?hv3791 ?rest3791 hck4
     case hv3791 =>
      refine ⟨_, rfl, fun hg0 => ?_⟩
      intro E1
      refine (V1.move rfl rfl rfl (ltb rfl) ?_)
      exact rfl
     refine VP.step (p := ?pv3792) rfl rfl rfl (⟨_, _, rfl, rfl, rfl⟩) ?hv3792 ?rest3792 hck4
     case hv3792 =>
      refine ⟨_, rfl, fun hg0 => ?_⟩
      intro E1
      refine (V1.int rfl rfl rfl rfl rfl (ltb rfl) ?_)
      exact rfl
     refine VP.step (p := ?pv3793) rfl rfl rfl (⟨_, _, rfl, rfl, ⟨_, _, rfl, rfl, rfl⟩⟩) ?hv3793 ?rest3793 hck4
     case hv3793 =>
      refine ⟨_, rfl, fun hg0 => ?_⟩
      intro E1
      refine (V1.indexSr rfl rfl esz_24 rfl rfl (hh1 hg0) (ltb rfl) ?_)
      exact rfl
     refine VP.step (p := ?pv3794) rfl rfl rfl (⟨_, _, rfl, rfl, rfl⟩) ?hv3794 ?rest3794 hck4
     case hv3794 =>
      refine ⟨_, rfl, fun hg0 => ?_⟩
      intro E1
      refine (V1.loadMapAll (k := 0) (f := (encCarton ρ0)) rfl rfl tyk_40 rfl rfl (by simpa using natLt (hh1 hg0).1 (hh1 hg0).2) rfl (ltb rfl) ?_)
      exact rfl
     refine VP.step (p := ?pv3795) rfl rfl rfl (⟨_, _, rfl, rfl, ⟨_, _, rfl, rfl, ⟨_, _, rfl, rfl, rfl⟩⟩⟩) ?hv3795 ?rest3795 hck4
     case hv3795 =>
      refine ⟨_, rfl, fun hg0 => ?_⟩
      intro E1
      refine (V1.callG (τ := 0) (Bw := []) rfl (ltb rfl) (run_callFn rfl rfl rfl hok3 rfl) (.refl _) (Lends.same _) (fun _ h => by cases h) ((hf3 _ _  _) (cond_t hg0 hh2)) (.inl rfl) (.inl rfl) ?_)
      rintro _ _ ⟨rfl, rfl⟩
      exact rfl
     refine VP.step (p := ?pv3796) rfl rfl rfl (⟨_, _, rfl, rfl, rfl⟩) ?hv3796 ?rest3796 hck4
     case hv3796 =>
      refine ⟨_, rfl, fun hg0 => ?_⟩
      intro E1
      refine (V1.int rfl rfl rfl rfl rfl (ltb rfl) ?_)
      exact rfl
     refine VP.pickAnd rfl rfl rfl rfl rfl rfl (trivial) ?_ hck4
     refine VP.fin rfl (⟨_, _, rfl, rfl, ⟨_, _, rfl, rfl, ⟨_, _, rfl, rfl, ⟨_, _, rfl, rfl, ⟨_, _, rfl, rfl, ⟨_, _, rfl, rfl, ⟨_, _, rfl, rfl, rfl⟩⟩⟩⟩⟩⟩⟩) ?_
     refine VO.nil ?_
     refine V.cond rfl (fun hc1 => ?_) (fun hc1 => ?_)
     ·
      replace hm2 := cond_t hc1 hm2
      refine V.skip ?_
      refine V.seq ?_
      refine V.block ?_
      replace hm2 := asrt_some hm2; rcases hm2 with ⟨hh3, hm2⟩
      replace hm2 := asrt_some hm2; rcases hm2 with ⟨hh4, hm2⟩
      replace hm2 := asrt_some hm2; rcases hm2 with ⟨hh5, hm2⟩
      replace hm2 := asrt_some hm2; rcases hm2 with ⟨hh6, hm2⟩
      replace hm2 := bindO hm2; rcases hm2 with ⟨j0, hm3, hm2⟩
      refine V.cutT (D := (List Carton) × (Unit)) (fun ⟨data4, _⟩ => ⟨53, [(0, .sref oq 5 0 (List.length data4)), (1, .int .i64 a), (2, .int .i64 b_), (3, .fn f3 cs3), (8, .int .i64 i), (9, .int .i64 j_)], [(oq, ⟨5, List.map (encCarton ρ0) data4⟩)]⟩) (fun ⟨data4, _⟩ => (data4 = j0)) ?_ ?_
      ·
       refine V.regionS [] 53 16 [⟨[(0, none)], false⟩, ⟨[(9, none)], false⟩, ⟨[(0, none)], false⟩, ⟨[(9, none)], false⟩, ⟨[(40, some 3)], false⟩, ⟨[(0, none)], false⟩, ⟨[(9, none)], false⟩, ⟨[(43, some 6)], false⟩, ⟨[(42, some 5), (44, some 7)], false⟩, ⟨[(45, some 8)], true⟩, ⟨[(0, none)], false⟩, ⟨[(9, none)], false⟩, ⟨[(47, some 10), (48, some 11)], false⟩, ⟨[(49, some 12)], true⟩, ⟨[(37, some 0), (38, some 1)], false⟩, ⟨[(46, some 9), (51, some 14)], true⟩] [(0, none), (1, none), (2, none), (3, none), (8, none), (9, none), (39, some 2), (41, some 4), (50, some 13)] 3 (⟨_, rfl, ⟨_, rfl, ⟨_, rfl, ⟨_, rfl, ⟨_, rfl, ⟨_, rfl, ⟨_, rfl, ⟨_, rfl, ⟨_, rfl, ⟨_, rfl, ⟨_, rfl, ⟨_, rfl, ⟨_, rfl, ⟨_, rfl, ⟨_, rfl, ⟨_, rfl, ⟨rfl, rfl⟩⟩⟩⟩⟩⟩⟩⟩⟩⟩⟩⟩⟩⟩⟩⟩⟩) mixed_orders rfl (by decide +kernel) ?_
       refine WalkP.step (p := ?pv3811) 0 rfl rfl rfl rfl rfl (⟨_, _, rfl, rfl, rfl⟩) ?hv3811 ?rest3811
       case hv3811 =>
        intro E1 H1 hI1
        refine (V1.move rfl rfl rfl (ltb rfl) ?_)
        exact rfl
       refine WalkP.step (p := ?pv3812) 1 rfl rfl rfl rfl rfl (⟨_, _, rfl, rfl, rfl⟩) ?hv3812 ?rest3812
       case hv3812 =>
        intro E1 H1 hI1
        refine (V1.move rfl rfl rfl (ltb rfl) ?_)
        exact rfl
       refine WalkP.step (p := ?pv3813) 2 rfl rfl rfl rfl rfl (⟨_, _, rfl, rfl, rfl⟩) ?hv3813 ?rest3813
       case hv3813 =>
        intro E1 H1 hI1
        refine (V1.move rfl rfl rfl (ltb rfl) ?_)
        exact rfl
       refine WalkP.step (p := ?pv3814) 3 rfl rfl rfl rfl rfl (⟨_, _, rfl, rfl, rfl⟩) ?hv3814 ?rest3814
       case hv3814 =>
        intro E1 H1 hI1
        refine (V1.move rfl rfl rfl (ltb rfl) ?_)
        exact rfl
       refine WalkP.step (p := ?pv3815) 4 rfl rfl rfl rfl rfl (⟨_, _, rfl, rfl, rfl⟩) ?hv3815 ?rest3815
       case hv3815 =>
        intro E1 H1 hI1
        refine (V1.int rfl rfl rfl rfl rfl (ltb rfl) ?_)
        exact rfl
       refine WalkP.step (p := ?pv3816) 5 rfl rfl rfl rfl rfl (⟨_, _, rfl, rfl, rfl⟩) ?hv3816 ?rest3816
       case hv3816 =>
        intro E1 H1 hI1
        refine (V1.move rfl rfl rfl (ltb rfl) ?_)
        exact rfl
       refine WalkP.step (p := ?pv3817) 6 rfl rfl rfl rfl rfl (⟨_, _, rfl, rfl, rfl⟩) ?hv3817 ?rest3817
       case hv3817 =>
        intro E1 H1 hI1
        refine (V1.move rfl rfl rfl (ltb rfl) ?_)
        exact rfl
       refine WalkP.step (p := ?pv3818) 7 rfl rfl rfl rfl rfl (⟨_, _, rfl, rfl, rfl⟩) ?hv3818 ?rest3818
       case hv3818 =>
        intro E1 H1 hI1
        refine (V1.int rfl rfl rfl rfl rfl (ltb rfl) ?_)
        exact rfl
       refine WalkP.step (p := ?pv3819) 8 rfl rfl rfl rfl rfl (⟨_, _, rfl, rfl, ⟨_, _, rfl, rfl, rfl⟩⟩) ?hv3819 ?rest3819
       case hv3819 =>
        intro E1 H1 hI1
        refine (V1.indexSr rfl rfl esz_24 rfl rfl hh3 (ltb rfl) ?_)
        exact rfl
       refine WalkP.step (p := ?pv3820) 10 rfl rfl rfl rfl rfl (⟨_, _, rfl, rfl, rfl⟩) ?hv3820 ?rest3820
       case hv3820 =>
        intro E1 H1 hI1
        refine (V1.move rfl rfl rfl (ltb rfl) ?_)
        exact rfl
       refine WalkP.step (p := ?pv3821) 11 rfl rfl rfl rfl rfl (⟨_, _, rfl, rfl, rfl⟩) ?hv3821 ?rest3821
       case hv3821 =>
        intro E1 H1 hI1
        refine (V1.move rfl rfl rfl (ltb rfl) ?_)
        exact rfl
       refine WalkP.step (p := ?pv3822) 12 rfl rfl rfl rfl rfl (⟨_, _, rfl, rfl, ⟨_, _, rfl, rfl, rfl⟩⟩) ?hv3822 ?rest3822
       case hv3822 =>
        intro E1 H1 hI1
        refine (V1.indexSr rfl rfl esz_24 rfl rfl hh4 (ltb rfl) ?_)
        exact rfl
       refine WalkP.nil ?_
       refine NodeS.branch [9, 13] inNil rfl rfl rfl ⟨?_, ?_, trivial⟩
       ·
        refine ⟨_, _, _, _, rfl, rfl, rfl, (⟨_, _, rfl, rfl, rfl⟩), fun E1 => ?_⟩
        refine (V1.loadMapAll (k := 0) (f := (encCarton ρ0)) rfl rfl tyk_40 rfl rfl (by simpa using natLt hh3.1 hh3.2) rfl (ltb rfl) ?_)
        refine ⟨_, _, rfl, ?_⟩
        refine WalkP.nil ?_
        refine NodeS.branch [13] inNil rfl rfl rfl ⟨?_, trivial⟩
        ·
         refine ⟨_, _, _, _, rfl, rfl, rfl, (⟨_, _, rfl, rfl, rfl⟩), fun E1 => ?_⟩
         refine (V1.loadMapAll (k := 0) (f := (encCarton ρ0)) rfl rfl tyk_40 rfl rfl (by simpa using natLt hh4.1 hh4.2) rfl (ltb rfl) ?_)
         refine ⟨_, _, rfl, ?_⟩
         refine WalkP.step (p := ?pv3823) 14 rfl rfl rfl rfl rfl (⟨_, _, rfl, rfl, ⟨_, _, rfl, rfl, rfl⟩⟩) ?hv3823 ?rest3823
         case hv3823 =>
          intro E1 H1 hI1
          refine (V1.indexSr rfl rfl esz_24 rfl rfl hh5 (ltb rfl) ?_)
          exact rfl
         refine WalkP.nil ?_
         refine NodeS.branch [15] inNil rfl rfl rfl ⟨?_, trivial⟩
         ·
          refine ⟨_, _, _, _, rfl, rfl, rfl, (⟨_, _, rfl, rfl, ⟨_, _, rfl, rfl, rfl⟩⟩), fun E1 => ?_⟩
          refine (V1.storeMap (k := 0) (f := (encCarton ρ0)) (x := (data3.getD (Int.toNat (IntKind.i64.wrap (j_ - (1 : Int)))) default)) rfl rfl tyk_40 rfl rfl (by simpa using natLt hh5.1 hh5.2) rfl rfl ?_)
          refine ⟨.undef, _, rfl, ?_⟩
          refine WalkP.nil ?_
          refine NodeS.fin inNil rfl rfl rfl (⟨_, _, rfl, rfl, ⟨_, _, rfl, rfl, ⟨_, _, rfl, rfl, ⟨_, _, rfl, rfl, ⟨_, _, rfl, rfl, ⟨_, _, rfl, rfl, ⟨_, _, rfl, rfl, ⟨_, _, rfl, rfl, ⟨_, _, rfl, rfl, rfl⟩⟩⟩⟩⟩⟩⟩⟩⟩) ?_
          refine VO.weakenK (Keeps.say 0 (y := .sref oq 5 0 (List.length (data3.set (Int.toNat j_) (data3.getD (Int.toNat (IntKind.i64.wrap (j_ - (1 : Int)))) default)))) rfl (by simp [optS])) ?_
          refine VO.weakenK (Keeps.say 39 (y := .sref oq 5 0 (List.length (data3.set (Int.toNat j_) (data3.getD (Int.toNat (IntKind.i64.wrap (j_ - (1 : Int)))) default)))) rfl (by simp [optS])) ?_
          refine VO.cons rfl (V1.indexSr rfl rfl esz_24 rfl rfl hh6 (ltb rfl) ?_)
          refine VO.cons rfl (V1.storeMap (k := 0) (f := (encCarton ρ0)) (x := (data3.getD (Int.toNat j_) default)) rfl rfl tyk_40 rfl rfl (by simpa using natLt hh6.1 hh6.2) rfl rfl ?_)
          refine VO.weakenK (Keeps.say 0 (y := .sref oq 5 0 (List.length ((data3.set (Int.toNat j_) (data3.getD (Int.toNat (IntKind.i64.wrap (j_ - (1 : Int)))) default)).set (Int.toNat (IntKind.i64.wrap (j_ - (1 : Int)))) (data3.getD (Int.toNat j_) default)))) rfl (by simp [optS])) ?_
          refine VO.nil ?_
          exact ⟨(((data3.set (Int.toNat j_) (data3.getD (Int.toNat (IntKind.i64.wrap (j_ - (1 : Int)))) default)).set (Int.toNat (IntKind.i64.wrap (j_ - (1 : Int)))) (data3.getD (Int.toNat j_) default)), ()), Option.some.inj hm3, Keeps.mk (ks := [0]) rfl ⟨(someSref (by simp)), rfl, rfl, rfl, rfl, rfl, trivial⟩ (⟨_, _, rfl, rfl, rfl⟩) rfl⟩
       ·
        refine ⟨_, _, _, _, rfl, rfl, rfl, (⟨_, _, rfl, rfl, rfl⟩), fun E1 => ?_⟩
        refine (V1.loadMapAll (k := 0) (f := (encCarton ρ0)) rfl rfl tyk_40 rfl rfl (by simpa using natLt hh4.1 hh4.2) rfl (ltb rfl) ?_)
        refine ⟨_, _, rfl, ?_⟩
        refine WalkP.nil ?_
        refine NodeS.branch [9] inNil rfl rfl rfl ⟨?_, trivial⟩
        ·
         refine ⟨_, _, _, _, rfl, rfl, rfl, (⟨_, _, rfl, rfl, rfl⟩), fun E1 => ?_⟩
         refine (V1.loadMapAll (k := 0) (f := (encCarton ρ0)) rfl rfl tyk_40 rfl rfl (by simpa using natLt hh3.1 hh3.2) rfl (ltb rfl) ?_)
         refine ⟨_, _, rfl, ?_⟩
         refine WalkP.step (p := ?pv3824) 14 rfl rfl rfl rfl rfl (⟨_, _, rfl, rfl, ⟨_, _, rfl, rfl, rfl⟩⟩) ?hv3824 ?rest3824
         case hv3824 =>
          intro E1 H1 hI1
          refine (V1.indexSr rfl rfl esz_24 rfl rfl hh5 (ltb rfl) ?_)
          exact rfl
         refine WalkP.nil ?_
         refine NodeS.branch [15] inNil rfl rfl rfl ⟨?_, trivial⟩
         ·
          refine ⟨_, _, _, _, rfl, rfl, rfl, (⟨_, _, rfl, rfl, ⟨_, _, rfl, rfl, rfl⟩⟩), fun E1 => ?_⟩
          refine (V1.storeMap (k := 0) (f := (encCarton ρ0)) (x := (data3.getD (Int.toNat (IntKind.i64.wrap (j_ - (1 : Int)))) default)) rfl rfl tyk_40 rfl rfl (by simpa using natLt hh5.1 hh5.2) rfl rfl ?_)
          refine ⟨.undef, _, rfl, ?_⟩
          refine WalkP.nil ?_
          refine NodeS.fin inNil rfl rfl rfl (⟨_, _, rfl, rfl, ⟨_, _, rfl, rfl, ⟨_, _, rfl, rfl, ⟨_, _, rfl, rfl, ⟨_, _, rfl, rfl, ⟨_, _, rfl, rfl, ⟨_, _, rfl, rfl, ⟨_, _, rfl, rfl, ⟨_, _, rfl, rfl, rfl⟩⟩⟩⟩⟩⟩⟩⟩⟩) ?_
          refine VO.weakenK (Keeps.say 0 (y := .sref oq 5 0 (List.length (data3.set (Int.toNat j_) (data3.getD (Int.toNat (IntKind.i64.wrap (j_ - (1 : Int)))) default)))) rfl (by simp [optS])) ?_
          refine VO.weakenK (Keeps.say 39 (y := .sref oq 5 0 (List.length (data3.set (Int.toNat j_) (data3.getD (Int.toNat (IntKind.i64.wrap (j_ - (1 : Int)))) default)))) rfl (by simp [optS])) ?_
          refine VO.cons rfl (V1.indexSr rfl rfl esz_24 rfl rfl hh6 (ltb rfl) ?_)
          refine VO.cons rfl (V1.storeMap (k := 0) (f := (encCarton ρ0)) (x := (data3.getD (Int.toNat j_) default)) rfl rfl tyk_40 rfl rfl (by simpa using natLt hh6.1 hh6.2) rfl rfl ?_)
          refine VO.weakenK (Keeps.say 0 (y := .sref oq 5 0 (List.length ((data3.set (Int.toNat j_) (data3.getD (Int.toNat (IntKind.i64.wrap (j_ - (1 : Int)))) default)).set (Int.toNat (IntKind.i64.wrap (j_ - (1 : Int)))) (data3.getD (Int.toNat j_) default)))) rfl (by simp [optS])) ?_
          refine VO.nil ?_
          exact ⟨(((data3.set (Int.toNat j_) (data3.getD (Int.toNat (IntKind.i64.wrap (j_ - (1 : Int)))) default)).set (Int.toNat (IntKind.i64.wrap (j_ - (1 : Int)))) (data3.getD (Int.toNat j_) default)), ()), Option.some.inj hm3, Keeps.mk (ks := [0]) rfl ⟨(someSref (by simp)), rfl, rfl, rfl, rfl, rfl, trivial⟩ (⟨_, _, rfl, rfl, rfl⟩) rfl⟩
      ·
       rintro ⟨data4, _⟩ rfl
       try dsimp only at hm2
       refine V.region ?_
       refine VO.cons rfl (V1.move rfl rfl rfl (ltb rfl) ?_)
       refine VO.cons rfl (V1.int rfl rfl rfl rfl rfl (ltb rfl) ?_)
       refine VO.cons rfl (V1.assign rfl rfl rfl (ltb rfl) ?_)
       refine VO.nil ?_
       exact ⟨(m1, (data4, (IntKind.i64.wrap (j_ - (1 : Int)))), ()), hl2 _ (Option.some.inj hm2).symm, Nat.lt_succ_self _, Keeps.mk (ks := [0]) rfl ⟨(someSref (by simp)), rfl, rfl, rfl, rfl, rfl, trivial⟩ (⟨_, _, rfl, rfl, rfl⟩) rfl⟩
     ·
      replace hm2 := cond_f hc1 hm2
      refine V.exit ?_
      obtain rfl := hr2 _ (Option.some.inj hm2).symm
      exact ⟨(data3, ()), rfl, Keeps.mk (ks := [0]) rfl ⟨(someSref (by simp)), rfl, rfl, rfl, rfl, trivial⟩ (⟨_, _, rfl, rfl, rfl⟩) rfl⟩
    ·
     rintro ⟨data2, _⟩ rfl
     try dsimp only at hm1
     refine V.region ?_
     refine VO.cons rfl (V1.move rfl rfl rfl (ltb rfl) ?_)
     refine VO.cons rfl (V1.int rfl rfl rfl rfl rfl (ltb rfl) ?_)
     refine VO.cons rfl (V1.assign rfl rfl rfl (ltb rfl) ?_)
     refine VO.nil ?_
     exact ⟨(m0, (data2, (IntKind.i64.wrap (i + (1 : Int)))), ()), hl1 _ (Option.some.inj hm1).symm, Nat.lt_succ_self _, Keeps.mk (ks := [0]) rfl ⟨(someSref (by simp)), rfl, rfl, rfl, rfl, trivial⟩ (⟨_, _, rfl, rfl, rfl⟩) rfl⟩
   ·
    replace hm1 := cond_f hc0 hm1
    refine V.exit ?_
    obtain rfl := hr1 _ (Option.some.inj hm1).symm
    exact ⟨(data1, ()), rfl, Keeps.mk (ks := [0]) rfl ⟨(someSref (by simp)), trivial⟩ (⟨_, _, rfl, rfl, rfl⟩) rfl⟩
  ·
   rintro ⟨data0, _⟩ rfl
   try dsimp only at hm0
   obtain rfl := Option.some.inj hm0
   exact ⟨_, _, rfl, (sub1 (k := 0) rfl), rfl, rfl⟩

theorem ok_slices_pdqsortCmpFunc_impl_Carton {ρ0 rn : Nat} {oq : Option Nat} {data : List Carton} {a : Int} {b_ : Int} {limit : Int} {f4 : Nat} {cs4 : List PV} {r : List Carton} {fm : Carton → Carton → Option Int} (h : M.slices_pdqsortCmpFunc_impl_Carton data a b_ limit fm = some r) (hoq : oq = none → data = []) (hok4 : callOK Try.prog f4 = true) (hf4 : ∀ x0 x1 r, fm x0 x1 = some r → Does Try.prog f4 (encCarton ρ0 x0 :: encCarton ρ0 x1 :: cs4) [] rn (fun x H => x = .int .i64 r ∧ H = [])) : Does Try.prog 124 [optS 5 oq (List.length data), .int .i64 a, .int .i64 b_, .int .i64 limit, .fn f4 cs4] (optH 5 oq (List.map (encCarton ρ0) data)) rn (fun x H => x = .tup [] ∧ H = optH 5 oq (List.map (encCarton ρ0) r)) := by
 have hm0 := h; clear h; unfold M.slices_pdqsortCmpFunc_impl_Carton at hm0
 try dsimp only at hm0
 refine Does.intro (N := 148) Try.func124 rfl rfl rfl rfl ?_
 intro w0 S0
 rcases oq with _ | oq
 ·
  refine V.seq ?_
  refine V.region ?_
  refine VO.cons rfl (V1.assign rfl rfl rfl (ltb rfl) ?_)
  refine VO.nil ?_
  refine V.seq ?_
  refine V.region ?_
  refine VO.cons rfl (V1.assign rfl rfl rfl (ltb rfl) ?_)
  refine VO.nil ?_
  replace hm0 := bindO hm0; rcases hm0 with ⟨e0, he1, hm0⟩
  refine V.block ?_
  refine V.keep 148 [1, 2, 3, 10, 11, 0, 4] [] (E0 := [(1, .int .i64 a), (2, .int .i64 b_), (3, .int .i64 limit), (10, .bool true), (11, .bool true), (0, .nils), (4, .fn f4 cs4)]) (H0 := []) rfl (⟨_, _, rfl, rfl, ⟨_, _, rfl, rfl, ⟨_, _, rfl, rfl, ⟨_, _, rfl, rfl, ⟨_, _, rfl, rfl, ⟨_, _, rfl, rfl, ⟨_, _, rfl, rfl, rfl⟩⟩⟩⟩⟩⟩⟩) (rfl) rfl ?_
  refine V.loopE (D := Nat × (Int × Int × Int × Bool × Bool) × (Unit)) (fun ⟨n0, ⟨a0, b_0, limit0, wasBalanced, wasPartitioned⟩, _⟩ => [(1, .int .i64 a0), (2, .int .i64 b_0), (3, .int .i64 limit0), (10, .bool wasBalanced), (11, .bool wasPartitioned)]) (fun ⟨n0, ⟨a0, b_0, limit0, wasBalanced, wasPartitioned⟩, _⟩ => []) (fun ⟨n0, ⟨a0, b_0, limit0, wasBalanced, wasPartitioned⟩, _⟩ => loopO (M.slices_pdqsortCmpFunc_impl_Carton_l0 data fm) n0 (a0, b_0, limit0, wasBalanced, wasPartitioned) = some e0) (fun ⟨n0, _, _⟩ => n0) (rounds, (a, b_, limit, true, true), ()) rfl he1 ?_
  rintro ⟨n0, ⟨a0, b_0, limit0, wasBalanced, wasPartitioned⟩, _⟩ hP0
  obtain ⟨m0, y0, rfl, hm1, hl1, hr1⟩ := loop_head hP0
  unfold M.slices_pdqsortCmpFunc_impl_Carton_l0 at hm1; dsimp only at hm1
  show V _ _ _ ⟨148, [(1, .int .i64 a0), (2, .int .i64 b_0), (3, .int .i64 limit0), (10, .bool wasBalanced), (11, .bool wasPartitioned), (0, .nils), (4, .fn f4 cs4)], []⟩
  refine V.block ?_
  refine V.seq ?_
  refine V.region ?_
  refine VO.cons rfl (V1.move rfl rfl rfl (ltb rfl) ?_)
  refine VO.cons rfl (V1.move rfl rfl rfl (ltb rfl) ?_)
  refine VO.cons rfl (V1.int rfl rfl rfl rfl rfl (ltb rfl) ?_)
  refine VO.cons rfl (V1.assign rfl rfl rfl (ltb rfl) ?_)
  refine VO.nil ?_
  refine V.seq ?_
  refine V.seq ?_
  refine V.region ?_
  refine VO.cons rfl (V1.move rfl rfl rfl (ltb rfl) ?_)
  refine VO.cons rfl (V1.int rfl rfl rfl rfl rfl (ltb rfl) ?_)
  refine VO.nil ?_
  refine V.keep 148 [0, 1, 2, 3, 4, 10, 11, 12, 25] [] (E0 := [(0, .nils), (1, .int .i64 a0), (2, .int .i64 b_0), (3, .int .i64 limit0), (4, .fn f4 cs4), (10, .bool wasBalanced), (11, .bool wasPartitioned), (12, .int .i64 (IntKind.i64.wrap (b_0 - a0))), (25, .bool (decide ((IntKind.i64.wrap (b_0 - a0)) ≤ (12 : Int))))]) (H0 := []) rfl (⟨_, _, rfl, rfl, ⟨_, _, rfl, rfl, ⟨_, _, rfl, rfl, ⟨_, _, rfl, rfl, ⟨_, _, rfl, rfl, ⟨_, _, rfl, rfl, ⟨_, _, rfl, rfl, ⟨_, _, rfl, rfl, ⟨_, _, rfl, rfl, rfl⟩⟩⟩⟩⟩⟩⟩⟩⟩) (rfl) rfl ?_
  replace hm1 := asrt_some hm1; rcases hm1 with ⟨hh0, hm1⟩
  refine V.cond rfl (fun _ => ?_) (fun hc => by rw [hh0] at hc; cases hc)
  refine V.seq ?_
  replace hm1 := bindO hm1; rcases hm1 with ⟨y1, hh1, hm1⟩
  replace hm1 := asrt_some hm1; rcases hm1 with ⟨hh2, hm1⟩
  refine V.region ?_
  refine VO.cons rfl (V1.move rfl rfl rfl (ltb rfl) ?_)
  refine VO.cons rfl (V1.move rfl rfl rfl (ltb rfl) ?_)
  refine VO.cons rfl (V1.move rfl rfl rfl (ltb rfl) ?_)
  refine VO.cons rfl (V1.move rfl rfl rfl (ltb rfl) ?_)
  refine VO.cons rfl (V1.call rfl rfl rfl cok_140 rfl (ok_slices_insertionSortCmpFunc_impl_Carton hh1 (oq := none) (data := data) (fun _ => (hoq rfl)) (ρ0 := ρ0) (fm := fm) hok4 hf4) rfl (ltb rfl) ?_)
  rintro _ _ ⟨rfl, rfl⟩
  refine VO.nil ?_
  refine V.keep 148 [] [] (E0 := []) (H0 := []) rfl (rfl) (rfl) rfl ?_
  refine V.ret ?_
  obtain rfl := hr1 _ (Option.some.inj hm1).symm
  change some _ = some _ at hm0
  obtain rfl := Option.some.inj hm0
  exact ⟨_, _, rfl, List.Sublist.refl _, rfl, rfl⟩
 ·
  refine V.seq ?_
  refine V.region ?_
  refine VO.cons rfl (V1.assign rfl rfl rfl (ltb rfl) ?_)
  refine VO.nil ?_
  refine V.seq ?_
  refine V.region ?_
  refine VO.cons rfl (V1.assign rfl rfl rfl (ltb rfl) ?_)
  refine VO.nil ?_
  replace hm0 := bindO hm0; rcases hm0 with ⟨e0, he1, hm0⟩
  refine V.block ?_
  refine V.keep 148 [1, 2, 3, 10, 11, 0, 4] [0] (E0 := [(1, .int .i64 a), (2, .int .i64 b_), (3, .int .i64 limit), (10, .bool true), (11, .bool true), (0, .sref oq 5 0 (List.length data)), (4, .fn f4 cs4)]) (H0 := [(oq, ⟨5, List.map (encCarton ρ0) data⟩)]) rfl (⟨_, _, rfl, rfl, ⟨_, _, rfl, rfl, ⟨_, _, rfl, rfl, ⟨_, _, rfl, rfl, ⟨_, _, rfl, rfl, ⟨_, _, rfl, rfl, ⟨_, _, rfl, rfl, rfl⟩⟩⟩⟩⟩⟩⟩) (⟨_, _, rfl, rfl, rfl⟩) rfl ?_
  refine V.loopE (D := Nat × (Int × Int × Int × Bool × Bool) × (Unit)) (fun ⟨n0, ⟨a0, b_0, limit0, wasBalanced, wasPartitioned⟩, _⟩ => [(1, .int .i64 a0), (2, .int .i64 b_0), (3, .int .i64 limit0), (10, .bool wasBalanced), (11, .bool wasPartitioned)]) (fun ⟨n0, ⟨a0, b_0, limit0, wasBalanced, wasPartitioned⟩, _⟩ => []) (fun ⟨n0, ⟨a0, b_0, limit0, wasBalanced, wasPartitioned⟩, _⟩ => loopO (M.slices_pdqsortCmpFunc_impl_Carton_l0 data fm) n0 (a0, b_0, limit0, wasBalanced, wasPartitioned) = some e0) (fun ⟨n0, _, _⟩ => n0) (rounds, (a, b_, limit, true, true), ()) rfl he1 ?_
  rintro ⟨n0, ⟨a0, b_0, limit0, wasBalanced, wasPartitioned⟩, _⟩ hP0
  obtain ⟨m0, y0, rfl, hm1, hl1, hr1⟩ := loop_head hP0
  unfold M.slices_pdqsortCmpFunc_impl_Carton_l0 at hm1; dsimp only at hm1
  show V _ _ _ ⟨148, [(1, .int .i64 a0), (2, .int .i64 b_0), (3, .int .i64 limit0), (10, .bool wasBalanced), (11, .bool wasPartitioned), (0, .sref oq 5 0 (List.length data)), (4, .fn f4 cs4)], [(oq, ⟨5, List.map (encCarton ρ0) data⟩)]⟩
  refine V.block ?_
  refine V.seq ?_
  refine V.region ?_
  refine VO.cons rfl (V1.move rfl rfl rfl (ltb rfl) ?_)
  refine VO.cons rfl (V1.move rfl rfl rfl (ltb rfl) ?_)
  refine VO.cons rfl (V1.int rfl rfl rfl rfl rfl (ltb rfl) ?_)
  refine VO.cons rfl (V1.assign rfl rfl rfl (ltb rfl) ?_)
  refine VO.nil ?_
  refine V.seq ?_
  refine V.seq ?_
  refine V.region ?_
  refine VO.cons rfl (V1.move rfl rfl rfl (ltb rfl) ?_)
  refine VO.cons rfl (V1.int rfl rfl rfl rfl rfl (ltb rfl) ?_)
  refine VO.nil ?_
  refine V.keep 148 [0, 1, 2, 3, 4, 10, 11, 12, 25] [0] (E0 := [(0, .sref oq 5 0 (List.length data)), (1, .int .i64 a0), (2, .int .i64 b_0), (3, .int .i64 limit0), (4, .fn f4 cs4), (10, .bool wasBalanced), (11, .bool wasPartitioned), (12, .int .i64 (IntKind.i64.wrap (b_0 - a0))), (25, .bool (decide ((IntKind.i64.wrap (b_0 - a0)) ≤ (12 : Int))))]) (H0 := [(oq, ⟨5, List.map (encCarton ρ0) data⟩)]) rfl (⟨_, _, rfl, rfl, ⟨_, _, rfl, rfl, ⟨_, _, rfl, rfl, ⟨_, _, rfl, rfl, ⟨_, _, rfl, rfl, ⟨_, _, rfl, rfl, ⟨_, _, rfl, rfl, ⟨_, _, rfl, rfl, ⟨_, _, rfl, rfl, rfl⟩⟩⟩⟩⟩⟩⟩⟩⟩) (⟨_, _, rfl, rfl, rfl⟩) rfl ?_
  replace hm1 := asrt_some hm1; rcases hm1 with ⟨hh0, hm1⟩
  refine V.cond rfl (fun _ => ?_) (fun hc => by rw [hh0] at hc; cases hc)
  refine V.seq ?_
  replace hm1 := bindO hm1; rcases hm1 with ⟨y1, hh1, hm1⟩
  replace hm1 := asrt_some hm1; rcases hm1 with ⟨hh2, hm1⟩
  refine V.region ?_
  refine VO.cons rfl (V1.move rfl rfl rfl (ltb rfl) ?_)
  refine VO.cons rfl (V1.move rfl rfl rfl (ltb rfl) ?_)
  refine VO.cons rfl (V1.move rfl rfl rfl (ltb rfl) ?_)
  refine VO.cons rfl (V1.move rfl rfl rfl (ltb rfl) ?_)
  refine VO.cons rfl (V1.callM 0 (rn + 1) [] [.sref oq 5 0 (List.length data), .int .i64 a0, .int .i64 b_0, .fn f4 cs4] (p := (oq, ⟨5, List.map (encCarton ρ0) data⟩)) rfl rfl rfl cok_140 rfl rfl ⟨_, _, rfl, .same _, ⟨_, _, rfl, .same _, ⟨_, _, rfl, .same _, ⟨_, _, rfl, .same _, rfl⟩⟩⟩⟩ bwNil (ok_slices_insertionSortCmpFunc_impl_Carton hh1 (oq := some oq) (fun e => by cases e) (fm := fm) hok4 hf4) rfl (.inl rfl) (ltb rfl) ?_)
  rintro _ _ ⟨rfl, rfl⟩
  refine VO.weakenK (Keeps.say 0 (y := .sref oq 5 0 (List.length y1)) rfl (congrArg (PV.sref oq 5 0) hh2.symm)) ?_
  refine VO.nil ?_
  refine V.keep 148 [] [0] (E0 := []) (H0 := [(oq, ⟨5, List.map (encCarton ρ0) y1⟩)]) rfl (rfl) (⟨_, _, rfl, rfl, rfl⟩) rfl ?_
  refine V.ret ?_
  obtain rfl := hr1 _ (Option.some.inj hm1).symm
  change some _ = some _ at hm0
  obtain rfl := Option.some.inj hm0
  exact ⟨_, _, rfl, List.Sublist.refl _, rfl, rfl⟩

theorem ok_slices_SortFunc_impl_Carton_impl_Carton {ρ0 rn : Nat} {oq : Option Nat} {x : List Carton} {f1 : Nat} {cs1 : List PV} {r : List Carton} {fm : Carton → Carton → Option Int} (h : M.slices_SortFunc_impl_Carton_impl_Carton x fm = some r) (hoq : oq = none → x = []) (hok1 : callOK Try.prog f1 = true) (hf1 : ∀ x0 x1 r, fm x0 x1 = some r → Does Try.prog f1 (encCarton ρ0 x0 :: encCarton ρ0 x1 :: cs1) [] rn (fun x H => x = .int .i64 r ∧ H = [])) : Does Try.prog 88 [optS 5 oq (List.length x), .fn f1 cs1] (optH 5 oq (List.map (encCarton ρ0) x)) rn (fun x H => x = .tup [] ∧ H = optH 5 oq (List.map (encCarton ρ0) r)) := by
 have hm0 := h; clear h; unfold M.slices_SortFunc_impl_Carton_impl_Carton at hm0
 try dsimp only at hm0
 refine Does.intro (N := 14) Try.func88 rfl rfl rfl rfl ?_
 intro w0 S0
 rcases oq with _ | oq
 ·
  refine V.seq ?_
  refine V.region ?_
  refine VO.cons rfl (V1.move rfl rfl rfl (ltb rfl) ?_)
  refine VO.cons rfl (V1.lenNilsE (l := x) (hoq rfl) rfl rfl rfl rfl rfl rfl isl_24 (ltb rfl) ?_)
  refine VO.cons rfl (V1.assign rfl rfl rfl (ltb rfl) ?_)
  refine VO.nil ?_
  replace hm0 := bindO hm0; rcases hm0 with ⟨y0, hh0, hm0⟩
  replace hm0 := bindO hm0; rcases hm0 with ⟨y1, hh1, hm0⟩
  replace hm0 := asrt_some hm0; rcases hm0 with ⟨hh2, hm0⟩
  refine V.region ?_
  refine VO.cons rfl (V1.move rfl rfl rfl (ltb rfl) ?_)
  refine VO.cons rfl (V1.move rfl rfl rfl (ltb rfl) ?_)
  refine VO.cons rfl (V1.move rfl rfl rfl (ltb rfl) ?_)
  refine VO.cons rfl (V1.conv rfl rfl und_3 und_113 rfl (ltb rfl) ?_)
  refine VO.cons rfl (V1.call rfl rfl rfl cok_120 rfl (ok_math_bits_Len hh0) rfl (ltb rfl) ?_)
  rintro _ _ ⟨rfl, rfl⟩
  refine VO.cons rfl (V1.move rfl rfl rfl (ltb rfl) ?_)
  refine VO.cons rfl (V1.call rfl rfl rfl cok_124 rfl (ok_slices_pdqsortCmpFunc_impl_Carton hh1 (oq := none) (data := x) (fun _ => (hoq rfl)) (ρ0 := ρ0) (fm := fm) hok1 hf1) rfl (ltb rfl) ?_)
  rintro _ _ ⟨rfl, rfl⟩
  refine VO.nil ?_
  obtain rfl := Option.some.inj hm0
  exact ⟨_, [], rfl, List.nil_sublist _, rfl, rfl⟩
 ·
  refine V.seq ?_
  refine V.region ?_
  refine VO.cons rfl (V1.move rfl rfl rfl (ltb rfl) ?_)
  refine VO.cons rfl (V1.lenSref rfl rfl rfl rfl rfl rfl isl_24 (ltb rfl) ?_)
  refine VO.cons rfl (V1.assign rfl rfl rfl (ltb rfl) ?_)
  refine VO.nil ?_
  replace hm0 := bindO hm0; rcases hm0 with ⟨y0, hh0, hm0⟩
  replace hm0 := bindO hm0; rcases hm0 with ⟨y1, hh1, hm0⟩
  replace hm0 := asrt_some hm0; rcases hm0 with ⟨hh2, hm0⟩
  refine V.region ?_
  refine VO.cons rfl (V1.move rfl rfl rfl (ltb rfl) ?_)
  refine VO.cons rfl (V1.move rfl rfl rfl (ltb rfl) ?_)
  refine VO.cons rfl (V1.move rfl rfl rfl (ltb rfl) ?_)
  refine VO.cons rfl (V1.conv rfl rfl und_3 und_113 rfl (ltb rfl) ?_)
  refine VO.cons rfl (V1.call rfl rfl rfl cok_120 rfl (ok_math_bits_Len hh0) rfl (ltb rfl) ?_)
  rintro _ _ ⟨rfl, rfl⟩
  refine VO.cons rfl (V1.move rfl rfl rfl (ltb rfl) ?_)
  refine VO.cons rfl (V1.callM 0 (rn + 1) [] [.sref oq 5 0 (List.length x), .int .i64 (0 : Int), .int .i64 (x.length : Int), .int .i64 y0, .fn f1 cs1] (p := (oq, ⟨5, List.map (encCarton ρ0) x⟩)) rfl rfl rfl cok_124 rfl rfl ⟨_, _, rfl, .same _, ⟨_, _, rfl, .same _, ⟨_, _, rfl, .same _, ⟨_, _, rfl, .same _, ⟨_, _, rfl, .same _, rfl⟩⟩⟩⟩⟩ bwNil (ok_slices_pdqsortCmpFunc_impl_Carton hh1 (oq := some oq) (fun e => by cases e) (fm := fm) hok1 hf1) rfl (.inl rfl) (ltb rfl) ?_)
  rintro _ _ ⟨rfl, rfl⟩
  refine VO.weakenK (Keeps.say 0 (y := .sref oq 5 0 (List.length y1)) rfl (congrArg (PV.sref oq 5 0) hh2.symm)) ?_
  refine VO.nil ?_
  obtain rfl := Option.some.inj hm0
  exact ⟨_, _, rfl, (sub1 (k := 0) rfl), rfl, rfl⟩

theorem ok_cmp_isNaN_int {rn : Nat} {x : Int} {r : Bool} (h : M.cmp_isNaN_int x = some r) : Does Try.prog 125 [.int .i64 x] [] rn (fun x H => x = .bool r ∧ H = []) := by
 have hm0 := h; clear h; unfold M.cmp_isNaN_int at hm0
 try dsimp only at hm0
 refine Does.intro (N := 6) Try.func125 rfl rfl rfl rfl ?_
 intro w0 S0
 refine V.seq ?_
 refine V.region ?_
 refine VO.cons rfl (V1.assign rfl rfl rfl (ltb rfl) ?_)
 refine VO.nil ?_
 refine V.seq ?_
 refine V.region ?_
 refine VO.cons rfl (V1.move rfl rfl rfl (ltb rfl) ?_)
 refine VO.cons rfl (V1.move rfl rfl rfl (ltb rfl) ?_)
 refine VO.cons rfl (V1.int rfl rfl rfl rfl rfl (ltb rfl) ?_)
 refine VO.cons rfl (V1.assign rfl rfl rfl (ltb rfl) ?_)
 refine VO.nil ?_
 refine V.ret ?_
 obtain rfl := Option.some.inj hm0
 exact ⟨_, [], ⟨_, _, rfl, rfl, rfl⟩, List.nil_sublist _, rfl, rfl⟩

theorem ok_cmp_Compare_int {rn : Nat} {x : Int} {y : Int} {r : Int} (h : M.cmp_Compare_int x y = some r) : Does Try.prog 91 [.int .i64 x, .int .i64 y] [] rn (fun x H => x = .int .i64 r ∧ H = []) := by
 have hm0 := h; clear h; unfold M.cmp_Compare_int at hm0
 try dsimp only at hm0
 refine Does.intro (N := 20) Try.func91 rfl rfl rfl rfl ?_
 intro w0 S0
 refine V.seq ?_
 refine V.region ?_
 refine VO.cons rfl (V1.assign rfl rfl rfl (ltb rfl) ?_)
 refine VO.nil ?_
 refine V.seq ?_
 replace hm0 := bindO hm0; rcases hm0 with ⟨y0, hh0, hm0⟩
 refine V.region ?_
 refine VO.cons rfl (V1.move rfl rfl rfl (ltb rfl) ?_)
 refine VO.cons rfl (V1.call rfl rfl rfl cok_125 rfl (ok_cmp_isNaN_int hh0) rfl (ltb rfl) ?_)
 rintro _ _ ⟨rfl, rfl⟩
 refine VO.cons rfl (V1.assign rfl rfl rfl (ltb rfl) ?_)
 refine VO.nil ?_
 refine V.seq ?_
 replace hm0 := bindO hm0; rcases hm0 with ⟨y1, hh1, hm0⟩
 refine V.region ?_
 refine VO.cons rfl (V1.move rfl rfl rfl (ltb rfl) ?_)
 refine VO.cons rfl (V1.call rfl rfl rfl cok_125 rfl (ok_cmp_isNaN_int hh1) rfl (ltb rfl) ?_)
 rintro _ _ ⟨rfl, rfl⟩
 refine VO.cons rfl (V1.assign rfl rfl rfl (ltb rfl) ?_)
 refine VO.nil ?_
 refine V.keep 20 [0, 1, 5, 6] [] (E0 := [(0, .int .i64 x), (1, .int .i64 y), (5, .bool y0), (6, .bool y1)]) (H0 := []) rfl (⟨_, _, rfl, rfl, ⟨_, _, rfl, rfl, ⟨_, _, rfl, rfl, ⟨_, _, rfl, rfl, rfl⟩⟩⟩⟩) (rfl) rfl ?_
 refine V.seq ?_
 refine V.seq ?_
 refine V.region ?_
 refine VO.cons rfl (V1.move rfl rfl rfl (ltb rfl) ?_)
 refine VO.nil ?_
 refine V.cond rfl (fun hc0 => ?_) (fun hc0 => ?_)
 ·
  replace hm0 := cond_t hc0 hm0
  refine V.seq ?_
  refine V.seq ?_
  refine V.region ?_
  refine VO.cons rfl (V1.move rfl rfl rfl (ltb rfl) ?_)
  refine VO.nil ?_
  refine V.keep 20 [12] [] (E0 := [(12, .bool y1)]) (H0 := []) rfl (⟨_, _, rfl, rfl, rfl⟩) (rfl) rfl ?_
  refine V.cond rfl (fun hc1 => ?_) (fun hc1 => ?_)
  ·
   replace hm0 := cond_t hc1 hm0
   refine V.seq ?_
   refine V.region ?_
   refine VO.cons rfl (V1.assign rfl rfl rfl (ltb rfl) ?_)
   refine VO.nil ?_
   refine V.ret ?_
   obtain rfl := Option.some.inj hm0
   exact ⟨_, [], ⟨_, _, rfl, rfl, rfl⟩, List.nil_sublist _, rfl, rfl⟩
  ·
   replace hm0 := cond_f hc1 hm0
   refine V.skip ?_
   refine V.seq ?_
   refine V.region ?_
   refine VO.cons rfl (V1.assign rfl rfl rfl (ltb rfl) ?_)
   refine VO.nil ?_
   refine V.ret ?_
   obtain rfl := Option.some.inj hm0
   exact ⟨_, [], ⟨_, _, rfl, rfl, rfl⟩, List.nil_sublist _, rfl, rfl⟩
 ·
  replace hm0 := cond_f hc0 hm0
  refine V.skip ?_
  refine V.seq ?_
  refine V.seq ?_
  refine V.region ?_
  refine VO.cons rfl (V1.move rfl rfl rfl (ltb rfl) ?_)
  refine VO.nil ?_
  refine V.cond rfl (fun hc2 => ?_) (fun hc2 => ?_)
  ·
   replace hm0 := cond_t hc2 hm0
   refine V.seq ?_
   refine V.region ?_
   refine VO.cons rfl (V1.assign rfl rfl rfl (ltb rfl) ?_)
   refine VO.nil ?_
   refine V.ret ?_
   obtain rfl := Option.some.inj hm0
   exact ⟨_, [], ⟨_, _, rfl, rfl, rfl⟩, List.nil_sublist _, rfl, rfl⟩
  ·
   replace hm0 := cond_f hc2 hm0
   refine V.skip ?_
   refine V.keep 20 [0, 1] [] (E0 := [(0, .int .i64 x), (1, .int .i64 y)]) (H0 := []) rfl (⟨_, _, rfl, rfl, ⟨_, _, rfl, rfl, rfl⟩⟩) (rfl) rfl ?_
   refine V.seq ?_
   refine V.seq ?_
   refine V.region ?_
   refine VO.cons rfl (V1.move rfl rfl rfl (ltb rfl) ?_)
   refine VO.cons rfl (V1.move rfl rfl rfl (ltb rfl) ?_)
   refine VO.cons rfl (V1.int rfl rfl rfl rfl rfl (ltb rfl) ?_)
   refine VO.nil ?_
   refine V.cond rfl (fun hc3 => ?_) (fun hc3 => ?_)
   ·
    replace hm0 := cond_t hc3 hm0
    refine V.seq ?_
    refine V.region ?_
    refine VO.cons rfl (V1.assign rfl rfl rfl (ltb rfl) ?_)
    refine VO.nil ?_
    refine V.ret ?_
    obtain rfl := Option.some.inj hm0
    exact ⟨_, [], ⟨_, _, rfl, rfl, rfl⟩, List.nil_sublist _, rfl, rfl⟩
   ·
    replace hm0 := cond_f hc3 hm0
    refine V.skip ?_
    refine V.seq ?_
    refine V.seq ?_
    refine V.region ?_
    refine VO.cons rfl (V1.move rfl rfl rfl (ltb rfl) ?_)
    refine VO.cons rfl (V1.move rfl rfl rfl (ltb rfl) ?_)
    refine VO.cons rfl (V1.int rfl rfl rfl rfl rfl (ltb rfl) ?_)
    refine VO.nil ?_
    refine V.keep 20 [19] [] (E0 := [(19, .bool (decide (x > y)))]) (H0 := []) rfl (⟨_, _, rfl, rfl, rfl⟩) (rfl) rfl ?_
    refine V.cond rfl (fun hc4 => ?_) (fun hc4 => ?_)
    ·
     replace hm0 := cond_t hc4 hm0
     refine V.seq ?_
     refine V.region ?_
     refine VO.cons rfl (V1.assign rfl rfl rfl (ltb rfl) ?_)
     refine VO.nil ?_
     refine V.ret ?_
     obtain rfl := Option.some.inj hm0
     exact ⟨_, [], ⟨_, _, rfl, rfl, rfl⟩, List.nil_sublist _, rfl, rfl⟩
    ·
     replace hm0 := cond_f hc4 hm0
     refine V.skip ?_
     refine V.seq ?_
     refine V.region ?_
     refine VO.cons rfl (V1.assign rfl rfl rfl (ltb rfl) ?_)
     refine VO.nil ?_
     refine V.ret ?_
     obtain rfl := Option.some.inj hm0
     exact ⟨_, [], ⟨_, _, rfl, rfl, rfl⟩, List.nil_sublist _, rfl, rfl⟩

theorem ok_cmp_Or_int {ρ0 rn : Nat} {vals : List Int} {r : Int} (h : M.cmp_Or_int vals = some r) : Does Try.prog 90 [.vl ρ0 1 (List.map encInt vals)] [] rn (fun x H => x = .int .i64 r ∧ H = []) := by
 have hm0 := h; clear h; unfold M.cmp_Or_int at hm0
 try dsimp only at hm0
 refine Does.intro (N := 18) Try.func90 rfl rfl rfl rfl ?_
 intro w0 S0
 refine V.seq ?_
 refine V.region ?_
 refine VO.cons rfl (V1.assign rfl rfl rfl (ltb rfl) ?_)
 refine VO.nil ?_
 refine V.seq ?_
 refine V.region ?_
 refine VO.cons rfl (V1.assign rfl rfl rfl (ltb rfl) ?_)
 refine VO.nil ?_
 refine V.seq ?_
 refine V.seq ?_
 refine V.region ?_
 refine VO.cons rfl (V1.move rfl rfl rfl (ltb rfl) ?_)
 refine VO.cons rfl (V1.lenMap rfl rfl rfl rfl rfl rfl isl_38 (ltb rfl) ?_)
 refine VO.cons rfl (V1.move rfl rfl rfl (ltb rfl) ?_)
 refine VO.nil ?_
 replace hm0 := bindO hm0; rcases hm0 with ⟨e0, he1, hm0⟩
 refine V.cutT (D := (Unit) × (Unit)) (fun ⟨_, _⟩ => ⟨18, [(3, .int .i64 (0 : Int))], []⟩) (fun ⟨_, _⟩ => (.inl () = e0)) ?_ ?_
 ·
  refine V.block ?_
  refine V.keep 18 [8, 3, 6, 7] [] (E0 := [(8, .int .i64 (0 : Int)), (3, .int .i64 (0 : Int)), (6, .vl ρ0 1 (List.map encInt vals)), (7, .int .i64 (vals.length : Int))]) (H0 := []) rfl (⟨_, _, rfl, rfl, ⟨_, _, rfl, rfl, ⟨_, _, rfl, rfl, ⟨_, _, rfl, rfl, rfl⟩⟩⟩⟩) (rfl) rfl ?_
  refine V.loopE (D := Nat × (Int) × (Unit)) (fun ⟨n0, v, _⟩ => [(8, .int .i64 v)]) (fun ⟨n0, v, _⟩ => []) (fun ⟨n0, v, _⟩ => loopO (M.cmp_Or_int_l0 vals) n0 v = some e0) (fun ⟨n0, _, _⟩ => n0) (rounds, (0 : Int), ()) rfl he1 ?_
  rintro ⟨n0, v, _⟩ hP0
  obtain ⟨m0, y0, rfl, hm1, hl1, hr1⟩ := loop_head hP0
  unfold M.cmp_Or_int_l0 at hm1; dsimp only at hm1
  show V _ _ _ ⟨18, [(8, .int .i64 v), (3, .int .i64 (0 : Int)), (6, .vl ρ0 1 (List.map encInt vals)), (7, .int .i64 (vals.length : Int))], []⟩
  refine V.seq ?_
  refine V.region ?_
  refine VO.cons rfl (V1.int rfl rfl rfl rfl rfl (ltb rfl) ?_)
  refine VO.nil ?_
  refine V.seq ?_
  refine V.cond rfl (fun hc0 => ?_) (fun hc0 => ?_)
  ·
   replace hm1 := cond_t hc0 hm1
   refine V.skip ?_
   refine V.seq ?_
   refine V.block ?_
   refine V.seq ?_
   replace hm1 := asrt_some hm1; rcases hm1 with ⟨hh0, hm1⟩
   refine V.region ?_
   refine VO.cons rfl (V1.indexI rfl rfl esz_38 rfl rfl hh0 (ltb rfl) ?_)
   refine VO.cons rfl (V1.loadPin rfl rfl tyk_3 rfl rfl (ltb rfl) ?_)
   refine VO.cons rfl (V1.assign rfl rfl rfl (ltb rfl) ?_)
   refine VO.nil ?_
   refine V.seq ?_
   refine V.region ?_
   refine VO.cons rfl (V1.move rfl rfl rfl (ltb rfl) ?_)
   refine VO.cons rfl (V1.move rfl rfl rfl (ltb rfl) ?_)
   refine VO.cons rfl (V1.int rfl rfl rfl rfl rfl (ltb rfl) ?_)
   refine VO.nil ?_
   refine V.keep 18 [3, 5, 6, 7, 8, 14] [] (E0 := [(3, .int .i64 (0 : Int)), (5, .int .i64 (vals.getD (Int.toNat v) default)), (6, .vl ρ0 1 (List.map encInt vals)), (7, .int .i64 (vals.length : Int)), (8, .int .i64 v), (14, .bool ((vals.getD (Int.toNat v) default) != (0 : Int)))]) (H0 := []) rfl (⟨_, _, rfl, rfl, ⟨_, _, rfl, rfl, ⟨_, _, rfl, rfl, ⟨_, _, rfl, rfl, ⟨_, _, rfl, rfl, ⟨_, _, rfl, rfl, rfl⟩⟩⟩⟩⟩⟩) (rfl) rfl ?_
   refine V.cond rfl (fun hc1 => ?_) (fun hc1 => ?_)
   ·
    replace hm1 := cond_t hc1 hm1
    refine V.seq ?_
    refine V.region ?_
    refine VO.cons rfl (V1.move rfl rfl rfl (ltb rfl) ?_)
    refine VO.cons rfl (V1.assign rfl rfl rfl (ltb rfl) ?_)
    refine VO.nil ?_
    refine V.ret ?_
    obtain rfl := hr1 _ (Option.some.inj hm1).symm
    change some _ = some _ at hm0
    obtain rfl := Option.some.inj hm0
    exact ⟨_, [], ⟨_, _, rfl, rfl, rfl⟩, List.nil_sublist _, rfl, rfl⟩
   ·
    replace hm1 := cond_f hc1 hm1
    refine V.skip ?_
    refine V.region ?_
    refine VO.cons rfl (V1.int rfl rfl rfl rfl rfl (ltb rfl) ?_)
    refine VO.cons rfl (V1.move rfl rfl rfl (ltb rfl) ?_)
    refine VO.nil ?_
    exact ⟨(m0, (IntKind.i64.wrap (v + (1 : Int))), ()), hl1 _ (Option.some.inj hm1).symm, Nat.lt_succ_self _, Keeps.mk (ks := []) rfl ⟨rfl, rfl, rfl, rfl, trivial⟩ (rfl) rfl⟩
  ·
   replace hm1 := cond_f hc0 hm1
   refine V.exit ?_
   obtain rfl := hr1 _ (Option.some.inj hm1).symm
   exact ⟨((), ()), rfl, Keeps.mk (ks := []) rfl ⟨rfl, trivial⟩ (rfl) rfl⟩
 ·
  rintro ⟨_, _⟩ rfl
  try dsimp only at hm0
  refine V.seq ?_
  refine V.region ?_
  refine VO.cons rfl (V1.move rfl rfl rfl (ltb rfl) ?_)
  refine VO.cons rfl (V1.assign rfl rfl rfl (ltb rfl) ?_)
  refine VO.nil ?_
  refine V.ret ?_
  obtain rfl := Option.some.inj hm0
  exact ⟨_, [], ⟨_, _, rfl, rfl, rfl⟩, List.nil_sublist _, rfl, rfl⟩

theorem ok_impl_PullList_1 {ρ0 ρ1 rn : Nat} {a : Carton} {b_ : Carton} {r : Int} (h : M.impl_PullList_1 a b_ = some r) : Does Try.prog 89 [encCarton ρ0 a, encCarton ρ1 b_] [] rn (fun x H => x = .int .i64 r ∧ H = []) := by
 have hm0 := h; clear h; unfold M.impl_PullList_1 at hm0
 try dsimp only at hm0
 refine Does.intro (N := 22) Try.func89 rfl rfl rfl rfl ?_
 intro w0 S0
 refine V.seq ?_
 refine V.region ?_
 refine VO.cons rfl (V1.boxN (n := 5) rfl rfl rfl rfl rfl (ltb rfl) ?_)
 intro b0
 refine VO.cons rfl (V1.boxN (n := 5) rfl rfl rfl rfl rfl (ltb rfl) ?_)
 intro b1
 refine VO.cons rfl (V1.assign rfl rfl rfl (ltb rfl) ?_)
 refine VO.nil ?_
 refine V.seq ?_
 replace hm0 := bindO hm0; rcases hm0 with ⟨y0, hh0, hm0⟩
 replace hm0 := bindO hm0; rcases hm0 with ⟨y1, hh1, hm0⟩
 replace hm0 := bindO hm0; rcases hm0 with ⟨y2, hh2, hm0⟩
 replace hm0 := bindO hm0; rcases hm0 with ⟨y3, hh3, hm0⟩
 refine V.regionS [(b1, ⟨5, [encCarton ρ1 b_]⟩), (b0, ⟨5, [encCarton ρ0 a]⟩)] 22 14 [⟨[(2, none)], false⟩, ⟨[(5, some 0)], false⟩, ⟨[(3, none)], false⟩, ⟨[(7, some 2)], false⟩, ⟨[(6, some 1), (8, some 3)], false⟩, ⟨[(2, none)], false⟩, ⟨[(10, some 5)], false⟩, ⟨[(3, none)], false⟩, ⟨[(12, some 7)], false⟩, ⟨[(11, some 6), (13, some 8)], false⟩, ⟨[(2, none)], false⟩, ⟨[(15, some 10)], false⟩, ⟨[(3, none)], false⟩, ⟨[(17, some 12)], false⟩] [(9, some 4), (14, some 9), (16, some 11), (18, some 13)] 0 (⟨_, rfl, ⟨_, rfl, ⟨_, rfl, ⟨_, rfl, ⟨_, rfl, ⟨_, rfl, ⟨_, rfl, ⟨_, rfl, ⟨_, rfl, ⟨_, rfl, ⟨_, rfl, ⟨_, rfl, ⟨_, rfl, ⟨_, rfl, ⟨rfl, rfl⟩⟩⟩⟩⟩⟩⟩⟩⟩⟩⟩⟩⟩⟩⟩) mixed_orders rfl (by decide +kernel) ?_
 refine WalkP.step (p := ?pv41) 0 rfl rfl rfl rfl rfl (⟨_, _, rfl, rfl, rfl⟩) ?hv41 ?rest41
 case hv41 =>
  intro E1 H1 hI1
  refine (V1.fieldRef rfl rfl fo_40_2 rfl (ltb rfl) ?_)
  exact rfl
 refine WalkP.step (p := ?pv42) 1 rfl rfl rfl rfl rfl (⟨_, _, rfl, rfl, rfl⟩) ?hv42 ?rest42
 case hv42 =>
  intro E1 H1 hI1
  obtain ⟨k43_, hk43_⟩ := inGet 1 rfl hI1
  refine (V1.loadRef (k := k43_) rfl rfl tyk_3 rfl hk43_ rfl rfl rfl (ltb rfl) ?_)
  exact rfl
 refine WalkP.step (p := ?pv44) 2 rfl rfl rfl rfl rfl (⟨_, _, rfl, rfl, rfl⟩) ?hv44 ?rest44
 case hv44 =>
  intro E1 H1 hI1
  refine (V1.fieldRef rfl rfl fo_40_2 rfl (ltb rfl) ?_)
  exact rfl
 refine WalkP.step (p := ?pv45) 3 rfl rfl rfl rfl rfl (⟨_, _, rfl, rfl, rfl⟩) ?hv45 ?rest45
 case hv45 =>
  intro E1 H1 hI1
  obtain ⟨k46_, hk46_⟩ := inGet 0 rfl hI1
  refine (V1.loadRef (k := k46_) rfl rfl tyk_3 rfl hk46_ rfl rfl rfl (ltb rfl) ?_)
  exact rfl
 refine WalkP.step (p := ?pv47) 4 rfl rfl rfl rfl rfl (⟨_, _, rfl, rfl, ⟨_, _, rfl, rfl, rfl⟩⟩) ?hv47 ?rest47
 case hv47 =>
  intro E1 H1 hI1
  refine (V1.call rfl rfl rfl cok_91 rfl (ok_cmp_Compare_int hh0) rfl (ltb rfl) ?_)
  rintro _ _ ⟨rfl, rfl⟩
  exact rfl
 refine WalkP.step (p := ?pv48) 5 rfl rfl rfl rfl rfl (⟨_, _, rfl, rfl, rfl⟩) ?hv48 ?rest48
 case hv48 =>
  intro E1 H1 hI1
  refine (V1.fieldRef rfl rfl fo_40_1 rfl (ltb rfl) ?_)
  exact rfl
 refine WalkP.step (p := ?pv49) 6 rfl rfl rfl rfl rfl (⟨_, _, rfl, rfl, rfl⟩) ?hv49 ?rest49
 case hv49 =>
  intro E1 H1 hI1
  obtain ⟨k50_, hk50_⟩ := inGet 1 rfl hI1
  refine (V1.loadRef (k := k50_) rfl rfl tyk_3 rfl hk50_ rfl rfl rfl (ltb rfl) ?_)
  exact rfl
 refine WalkP.step (p := ?pv51) 7 rfl rfl rfl rfl rfl (⟨_, _, rfl, rfl, rfl⟩) ?hv51 ?rest51
 case hv51 =>
  intro E1 H1 hI1
  refine (V1.fieldRef rfl rfl fo_40_1 rfl (ltb rfl) ?_)
  exact rfl
 refine WalkP.step (p := ?pv52) 8 rfl rfl rfl rfl rfl (⟨_, _, rfl, rfl, rfl⟩) ?hv52 ?rest52
 case hv52 =>
  intro E1 H1 hI1
  obtain ⟨k53_, hk53_⟩ := inGet 0 rfl hI1
  refine (V1.loadRef (k := k53_) rfl rfl tyk_3 rfl hk53_ rfl rfl rfl (ltb rfl) ?_)
  exact rfl
 refine WalkP.step (p := ?pv54) 9 rfl rfl rfl rfl rfl (⟨_, _, rfl, rfl, ⟨_, _, rfl, rfl, rfl⟩⟩) ?hv54 ?rest54
 case hv54 =>
  intro E1 H1 hI1
  refine (V1.call rfl rfl rfl cok_91 rfl (ok_cmp_Compare_int hh1) rfl (ltb rfl) ?_)
  rintro _ _ ⟨rfl, rfl⟩
  exact rfl
 refine WalkP.step (p := ?pv55) 10 rfl rfl rfl rfl rfl (⟨_, _, rfl, rfl, rfl⟩) ?hv55 ?rest55
 case hv55 =>
  intro E1 H1 hI1
  refine (V1.fieldRef rfl rfl fo_40_0 rfl (ltb rfl) ?_)
  exact rfl
 refine WalkP.step (p := ?pv56) 11 rfl rfl rfl rfl rfl (⟨_, _, rfl, rfl, rfl⟩) ?hv56 ?rest56
 case hv56 =>
  intro E1 H1 hI1
  obtain ⟨k57_, hk57_⟩ := inGet 1 rfl hI1
  refine (V1.loadRef (k := k57_) rfl rfl tyk_3 rfl hk57_ rfl rfl rfl (ltb rfl) ?_)
  exact rfl
 refine WalkP.step (p := ?pv58) 12 rfl rfl rfl rfl rfl (⟨_, _, rfl, rfl, rfl⟩) ?hv58 ?rest58
 case hv58 =>
  intro E1 H1 hI1
  refine (V1.fieldRef rfl rfl fo_40_0 rfl (ltb rfl) ?_)
  exact rfl
 refine WalkP.step (p := ?pv59) 13 rfl rfl rfl rfl rfl (⟨_, _, rfl, rfl, rfl⟩) ?hv59 ?rest59
 case hv59 =>
  intro E1 H1 hI1
  obtain ⟨k60_, hk60_⟩ := inGet 0 rfl hI1
  refine (V1.loadRef (k := k60_) rfl rfl tyk_3 rfl hk60_ rfl rfl rfl (ltb rfl) ?_)
  exact rfl
 refine WalkP.nil ?_
 refine NodeS.fin (inCons 0 rfl (inCons 1 rfl inNil)) rfl rfl rfl (⟨_, _, rfl, rfl, ⟨_, _, rfl, rfl, ⟨_, _, rfl, rfl, ⟨_, _, rfl, rfl, rfl⟩⟩⟩⟩) ?_
 refine VO.cons rfl (V1.call rfl rfl rfl cok_91 rfl (ok_cmp_Compare_int hh2) rfl (ltb rfl) ?_)
 rintro _ _ ⟨rfl, rfl⟩
 refine VO.cons rfl (V1.buildSliceT (f := encInt) ([y0, y1, y2] : List Int) rfl rfl esz_38 zk_3 rfl rfl rfl rfl rfl rfl rfl (ltb rfl) ?_)
 intro b3
 refine VO.cons rfl (V1.callL (rn + 1) [b3] [.vl (rn + 1) 1 (List.map encInt ([y0, y1, y2] : List Int))] rfl rfl rfl cok_90 rfl ⟨_, _, rfl, Lend.srMap 0 rfl (fun _ => rfl) (.head _), rfl⟩ (bwCons (k := 0) rfl bwNil) (ok_cmp_Or_int hh3) rfl (⟨(by first | omega | (dsimp only; omega)), by rintro _ _ ⟨rfl, rfl⟩; exact ⟨rfl, by simp⟩⟩) (ltb rfl) ?_)
 rintro _ _ ⟨rfl, rfl⟩
 refine VO.cons rfl (V1.assign rfl rfl rfl (ltb rfl) ?_)
 refine VO.nil ?_
 refine V.ret ?_
 obtain rfl := Option.some.inj hm0
 exact ⟨_, [], ⟨_, _, rfl, rfl, rfl⟩, List.nil_sublist _, rfl, rfl⟩

theorem ok_impl_PullList {ρ1 rn : Nat} {list : List Carton} {files : List Int} {r : List Int × Bool} (h : M.impl_PullList list files = some r) : Does Try.prog 26 [.vl rn 5 (List.map (encCarton rn) list), .vl ρ1 1 (List.map encInt files)] [] rn (fun x H => ∃ (ob0_ : Option Nat), (ob0_ = none → r.1 = []) ∧ x = .tup [optS 1 ob0_ (List.length r.1), .bool r.2] ∧ H = optH 1 ob0_ (List.map encInt r.1)) := by
 have hm0 := h; clear h; unfold M.impl_PullList at hm0
 try dsimp only at hm0
 refine Does.intro (N := 69) Try.func26 rfl rfl rfl rfl ?_
 intro w0 S0
 refine V.seq ?_
 refine V.region ?_
 refine VO.cons rfl (V1.assign rfl rfl rfl (ltb rfl) ?_)
 refine VO.cons rfl (V1.assign rfl rfl rfl (ltb rfl) ?_)
 refine VO.nil ?_
 refine V.seq ?_
 refine V.seq ?_
 replace hm0 := bindO hm0; rcases hm0 with ⟨y0, hh0, hm0⟩
 replace hm0 := bindO hm0; rcases hm0 with ⟨y1, hh1, hm0⟩
 replace hm0 := bindO hm0; rcases hm0 with ⟨y2, hh2, hm0⟩
 refine V.region ?_
 refine VO.cons rfl (V1.move rfl rfl rfl (ltb rfl) ?_)
 refine VO.cons rfl (V1.call rfl rfl rfl cok_12 rfl (ok_impl_AreCartons hh0) rfl (ltb rfl) ?_)
 rintro _ _ ⟨rfl, rfl⟩
 refine VO.cons rfl (V1.not rfl rfl rfl (ltb rfl) ?_)
 refine VO.cons rfl (V1.move rfl rfl rfl (ltb rfl) ?_)
 apply VO.or (n := 4) rfl rfl rfl rfl rfl rfl (ltb rfl) (.none rfl)
 ·
  intro hg0
  refine VO.step (.some rfl rfl rfl) (V1.move rfl rfl rfl (ltb rfl) ?_)
  refine VO.step (.some rfl rfl rfl) (V1.lenMap rfl rfl rfl rfl rfl rfl isl_38 (ltb rfl) ?_)
  refine VO.step (.some rfl rfl rfl) (V1.call rfl rfl rfl cok_82 rfl (ok_impl_within (cond_f hg0 hh1)) rfl (ltb rfl) ?_)
  rintro _ _ ⟨rfl, rfl⟩
  refine VO.step (.some rfl rfl rfl) (V1.not rfl rfl rfl (ltb rfl) ?_)
  exact VO.nil ⟨rfl, rfl, rfl, rfl, .inr ⟨rfl, .inr ⟨rfl, .inr ⟨rfl, .inr ⟨rfl, .inr ⟨rfl, .inl rfl⟩⟩⟩⟩⟩⟩
 refine VO.cons rfl (V1.move rfl rfl rfl (ltb rfl) ?_)
 apply VO.or (n := 3) rfl rfl rfl rfl rfl rfl (ltb rfl) (.none rfl)
 ·
  intro hg1
  refine VO.step (.some rfl rfl rfl) (V1.move rfl rfl rfl (ltb rfl) ?_)
  refine VO.step (.some rfl rfl rfl) (V1.call rfl rfl rfl cok_87 rfl (ok_impl_areRising (cond_f hg1 hh2)) rfl (ltb rfl) ?_)
  rintro _ _ ⟨rfl, rfl⟩
  refine VO.step (.some rfl rfl rfl) (V1.not rfl rfl rfl (ltb rfl) ?_)
  exact VO.nil ⟨rfl, rfl, rfl, rfl, .inr ⟨rfl, .inr ⟨rfl, .inr ⟨rfl, .inr ⟨rfl, .inl rfl⟩⟩⟩⟩⟩
 refine VO.nil ?_
 refine V.keep 69 [0, 1, 26] [] (E0 := [(0, .vl rn 5 (List.map (encCarton rn) list)), (1, .vl ρ1 1 (List.map encInt files)), (26, .bool (((!y0) || (!y1)) || (!y2)))]) (H0 := []) rfl (⟨_, _, rfl, rfl, ⟨_, _, rfl, rfl, ⟨_, _, rfl, rfl, rfl⟩⟩⟩) (rfl) rfl ?_
 refine V.cond rfl (fun hc0 => ?_) (fun hc0 => ?_)
 ·
  replace hm0 := cond_t hc0 hm0
  refine V.seq ?_
  refine V.region ?_
  refine VO.cons rfl (V1.assign rfl rfl rfl (ltb rfl) ?_)
  refine VO.cons rfl (V1.assign rfl rfl rfl (ltb rfl) ?_)
  refine VO.nil ?_
  refine V.keep 69 [4, 5] [] (E0 := [(4, .nils), (5, .bool false)]) (H0 := []) rfl (⟨_, _, rfl, rfl, ⟨_, _, rfl, rfl, rfl⟩⟩) (rfl) rfl ?_
  refine V.ret ?_
  obtain rfl := Option.some.inj hm0
  exact ⟨_, _, ⟨_, _, rfl, rfl, ⟨_, _, rfl, rfl, rfl⟩⟩, List.Sublist.refl _, none, (fun _ => rfl), rfl, rfl⟩
 ·
  replace hm0 := cond_f hc0 hm0
  refine V.skip ?_
  refine V.seq ?_
  refine V.region ?_
  refine VO.cons rfl (V1.assign rfl rfl rfl (ltb rfl) ?_)
  refine VO.nil ?_
  refine V.seq ?_
  refine V.seq ?_
  refine V.region ?_
  refine VO.cons rfl (V1.move rfl rfl rfl (ltb rfl) ?_)
  refine VO.cons rfl (V1.lenMap rfl rfl rfl rfl rfl rfl isl_38 (ltb rfl) ?_)
  refine VO.cons rfl (V1.move rfl rfl rfl (ltb rfl) ?_)
  refine VO.nil ?_
  replace hm0 := bindO hm0; rcases hm0 with ⟨e0, he1, hm0⟩
  refine V.cutT (D := (List Carton) × (Option Nat)) (fun ⟨cartons, ob0⟩ => ⟨69, [(6, optS 5 ob0 (List.length cartons))], optH 5 ob0 (List.map (encCarton rn) cartons)⟩) (fun ⟨cartons, ob0⟩ => (.inl cartons = e0) ∧ (ob0 = none → cartons = [])) ?_ ?_
  ·
   refine V.block ?_
   refine V.keep 69 [6, 29, 0, 27, 28] [] (E0 := [(6, .nils), (29, .int .i64 (0 : Int)), (0, .vl rn 5 (List.map (encCarton rn) list)), (27, .vl ρ1 1 (List.map encInt files)), (28, .int .i64 (files.length : Int))]) (H0 := []) rfl (⟨_, _, rfl, rfl, ⟨_, _, rfl, rfl, ⟨_, _, rfl, rfl, ⟨_, _, rfl, rfl, ⟨_, _, rfl, rfl, rfl⟩⟩⟩⟩⟩) (rfl) rfl ?_
   refine V.loopE (D := Nat × (List Carton × Int) × (Option Nat)) (fun ⟨n0, ⟨cartons0, v⟩, ob1⟩ => [(6, optS 5 ob1 (List.length cartons0)), (29, .int .i64 v)]) (fun ⟨n0, ⟨cartons0, v⟩, ob1⟩ => optH 5 ob1 (List.map (encCarton rn) cartons0)) (fun ⟨n0, ⟨cartons0, v⟩, ob1⟩ => loopO (M.impl_PullList_l0 list files) n0 (cartons0, v) = some e0 ∧ (ob1 = none → cartons0 = [])) (fun ⟨n0, _, _⟩ => n0) (rounds, (([] : List Carton), (0 : Int)), none) rfl ⟨he1, (fun _ => rfl)⟩ ?_
   rintro ⟨n0, ⟨cartons0, v⟩, ob1⟩ ⟨hP0, hob1⟩
   obtain ⟨m0, y3, rfl, hm1, hl1, hr1⟩ := loop_head hP0
   unfold M.impl_PullList_l0 at hm1; dsimp only at hm1
   rcases ob1 with _ | ob1
   ·
    replace hob1 := hob1 rfl
    show V _ _ _ ⟨69, [(6, .nils), (29, .int .i64 v), (0, .vl rn 5 (List.map (encCarton rn) list)), (27, .vl ρ1 1 (List.map encInt files)), (28, .int .i64 (files.length : Int))], []⟩
    refine V.seq ?_
    refine V.region ?_
    refine VO.cons rfl (V1.int rfl rfl rfl rfl rfl (ltb rfl) ?_)
    refine VO.nil ?_
    refine V.seq ?_
    refine V.cond rfl (fun hc1 => ?_) (fun hc1 => ?_)
    ·
     replace hm1 := cond_t hc1 hm1
     refine V.skip ?_
     refine V.seq ?_
     replace hm1 := bindO hm1; rcases hm1 with ⟨j0, hm2, hm1⟩
     refine V.cutT (D := (List Carton) × (Option Nat)) (fun ⟨cartons1, ob2⟩ => ⟨69, [(6, optS 5 ob2 (List.length cartons1)), (0, .vl rn 5 (List.map (encCarton rn) list)), (27, .vl ρ1 1 (List.map encInt files)), (28, .int .i64 (files.length : Int)), (29, .int .i64 v)], optH 5 ob2 (List.map (encCarton rn) cartons1)⟩) (fun ⟨cartons1, ob2⟩ => (.inl cartons1 = j0) ∧ (ob2 = none → cartons1 = [])) ?_ ?_
     ·
      refine V.block ?_
      refine V.seq ?_
      replace hm2 := asrt_some hm2; rcases hm2 with ⟨hh3, hm2⟩
      refine V.region ?_
      refine VO.cons rfl (V1.indexI rfl rfl esz_38 rfl rfl hh3 (ltb rfl) ?_)
      refine VO.cons rfl (V1.loadPin rfl rfl tyk_3 rfl rfl (ltb rfl) ?_)
      refine VO.cons rfl (V1.assign rfl rfl rfl (ltb rfl) ?_)
      refine VO.nil ?_
      refine V.seq ?_
      replace hm2 := bindO hm2; rcases hm2 with ⟨y4, hh4, hm2⟩
      refine V.region ?_
      refine VO.cons rfl (V1.move rfl rfl rfl (ltb rfl) ?_)
      refine VO.cons rfl (V1.move rfl rfl rfl (ltb rfl) ?_)
      refine VO.cons rfl (V1.call rfl rfl rfl cok_61 rfl (ok_impl_cartonWith hh4) rfl (ltb rfl) ?_)
      rintro _ _ ⟨rfl, rfl⟩
      refine VO.cons rfl (V1.assign rfl rfl rfl (ltb rfl) ?_)
      refine VO.nil ?_
      refine V.keep 69 [0, 6, 9, 27, 28, 29] [] (E0 := [(0, .vl rn 5 (List.map (encCarton rn) list)), (6, .nils), (9, .int .i64 y4), (27, .vl ρ1 1 (List.map encInt files)), (28, .int .i64 (files.length : Int)), (29, .int .i64 v)]) (H0 := []) rfl (⟨_, _, rfl, rfl, ⟨_, _, rfl, rfl, ⟨_, _, rfl, rfl, ⟨_, _, rfl, rfl, ⟨_, _, rfl, rfl, ⟨_, _, rfl, rfl, rfl⟩⟩⟩⟩⟩⟩) (rfl) rfl ?_
      refine V.seq ?_
      refine V.seq ?_
      refine V.region ?_
      refine VO.cons rfl (V1.move rfl rfl rfl (ltb rfl) ?_)
      refine VO.cons rfl (V1.int rfl rfl rfl rfl rfl (ltb rfl) ?_)
      refine VO.nil ?_
      refine V.cond rfl (fun hc2 => ?_) (fun hc2 => ?_)
      ·
       replace hm2 := cond_t hc2 hm2
       refine V.seq ?_
       refine V.region ?_
       refine VO.cons rfl (V1.assign rfl rfl rfl (ltb rfl) ?_)
       refine VO.cons rfl (V1.assign rfl rfl rfl (ltb rfl) ?_)
       refine VO.nil ?_
       refine V.keep 69 [4, 5] [] (E0 := [(4, .nils), (5, .bool false)]) (H0 := []) rfl (⟨_, _, rfl, rfl, ⟨_, _, rfl, rfl, rfl⟩⟩) (rfl) rfl ?_
       refine V.ret ?_
       obtain rfl := Option.some.inj hm2
       change some _ = some _ at hm1
       obtain rfl := hr1 _ (Option.some.inj hm1).symm
       change some _ = some _ at hm0
       obtain rfl := Option.some.inj hm0
       exact ⟨_, _, ⟨_, _, rfl, rfl, ⟨_, _, rfl, rfl, rfl⟩⟩, List.Sublist.refl _, none, (fun _ => rfl), rfl, rfl⟩
      ·
       replace hm2 := cond_f hc2 hm2
       refine V.skip ?_
       refine V.seq ?_
       replace hm2 := asrt_some hm2; rcases hm2 with ⟨hh5, hm2⟩
       replace hm2 := bindO hm2; rcases hm2 with ⟨y5, hh6, hm2⟩
       refine V.region ?_
       refine VO.cons rfl (V1.move rfl rfl rfl (ltb rfl) ?_)
       refine VO.cons rfl (V1.move rfl rfl rfl (ltb rfl) ?_)
       refine VO.cons rfl (V1.move rfl rfl rfl (ltb rfl) ?_)
       refine VO.cons rfl (V1.indexI rfl rfl esz_24 rfl rfl hh5 (ltb rfl) ?_)
       refine VO.cons rfl (V1.fieldPin rfl rfl fo_40_0 rfl (ltb rfl) ?_)
       refine VO.cons rfl (V1.loadPin rfl rfl tyk_3 rfl rfl (ltb rfl) ?_)
       refine VO.weakenK (Keeps.nilsE (l := cartons0) 38 rn 5 (encCarton rn) hob1 rfl rfl) ?_
       refine VO.cons rfl (V1.call rfl rfl rfl cok_62 rfl (ok_impl_cartonAt hh6) rfl (ltb rfl) ?_)
       rintro _ _ ⟨rfl, rfl⟩
       refine VO.cons rfl (V1.int rfl rfl rfl rfl rfl (ltb rfl) ?_)
       refine VO.nil ?_
       refine V.keep 69 [0, 6, 9, 27, 28, 29, 45] [] (E0 := [(0, .vl rn 5 (List.map (encCarton rn) list)), (6, .nils), (9, .int .i64 y4), (27, .vl ρ1 1 (List.map encInt files)), (28, .int .i64 (files.length : Int)), (29, .int .i64 v), (45, .bool (decide (y5 < (0 : Int))))]) (H0 := []) rfl (⟨_, _, rfl, rfl, ⟨_, _, rfl, rfl, ⟨_, _, rfl, rfl, ⟨_, _, rfl, rfl, ⟨_, _, rfl, rfl, ⟨_, _, rfl, rfl, ⟨_, _, rfl, rfl, rfl⟩⟩⟩⟩⟩⟩⟩) (rfl) rfl ?_
       refine V.cond rfl (fun hc3 => ?_) (fun hc3 => ?_)
       ·
        replace hm2 := cond_t hc3 hm2
        replace hm2 := asrt_some hm2; rcases hm2 with ⟨hh7, hm2⟩
        replace hm2 := asrt_some hm2; rcases hm2 with ⟨hh8, hm2⟩
        refine V.region ?_
        refine VO.cons rfl (V1.move rfl rfl rfl (ltb rfl) ?_)
        refine VO.cons rfl (V1.move rfl rfl rfl (ltb rfl) ?_)
        refine VO.cons rfl (V1.move rfl rfl rfl (ltb rfl) ?_)
        refine VO.cons rfl (V1.indexI rfl rfl esz_24 rfl rfl hh7 (ltb rfl) ?_)
        refine VO.cons rfl (V1.loadPinAll rfl rfl tyk_40 rfl rfl (ltb rfl) ?_)
        refine VO.cons rfl (V1.buildSliceT (f := (encCarton rn)) ([(list.getD (Int.toNat y4) default)] : List Carton) rfl rfl esz_24 zk_40 rfl rfl rfl rfl rfl rfl rfl (ltb rfl) ?_)
        intro b0
        refine VO.cons rfl (V1.appendNilE (f := (encCarton rn)) (l := cartons0) (m := ([(list.getD (Int.toNat y4) default)] : List Carton)) hob1 rfl rfl rfl rfl rfl esz_24 eby_24 zk_40 rfl rfl rfl (SrcOf.srMap (k := 0) rfl isl_24) rfl hh8 (ltb rfl) ?_)
        intro b1
        refine VO.cons rfl (V1.assign rfl rfl rfl (ltb rfl) ?_)
        refine VO.nil ?_
        exact ⟨((cartons0 ++ ([(list.getD (Int.toNat y4) default)] : List Carton)), (some b1)), ⟨Option.some.inj hm2, (fun e => by cases e)⟩, Keeps.mk (ks := [0]) rfl ⟨rfl, rfl, rfl, rfl, rfl, trivial⟩ (⟨_, _, rfl, rfl, rfl⟩) rfl⟩
       ·
        replace hm2 := cond_f hc3 hm2
        refine V.skip ?_
        exact ⟨(cartons0, none), ⟨Option.some.inj hm2, (fun _ => hob1)⟩, Keeps.mk (ks := []) rfl ⟨rfl, rfl, rfl, rfl, rfl, trivial⟩ (rfl) rfl⟩
     ·
      rintro ⟨cartons1, ob2⟩ ⟨rfl, hob2⟩
      try dsimp only at hm1
      rcases ob2 with _ | ob2
      ·
       replace hob2 := hob2 rfl
       refine V.region ?_
       refine VO.cons rfl (V1.int rfl rfl rfl rfl rfl (ltb rfl) ?_)
       refine VO.cons rfl (V1.move rfl rfl rfl (ltb rfl) ?_)
       refine VO.nil ?_
       exact ⟨(m0, (cartons1, (IntKind.i64.wrap (v + (1 : Int)))), none), ⟨hl1 _ (Option.some.inj hm1).symm, (fun _ => hob2)⟩, Nat.lt_succ_self _, Keeps.mk (ks := []) rfl ⟨rfl, rfl, rfl, rfl, rfl, trivial⟩ (rfl) rfl⟩
      ·
       refine V.region ?_
       refine VO.cons rfl (V1.int rfl rfl rfl rfl rfl (ltb rfl) ?_)
       refine VO.cons rfl (V1.move rfl rfl rfl (ltb rfl) ?_)
       refine VO.nil ?_
       exact ⟨(m0, (cartons1, (IntKind.i64.wrap (v + (1 : Int)))), (some ob2)), ⟨hl1 _ (Option.some.inj hm1).symm, (fun e => by cases e)⟩, Nat.lt_succ_self _, Keeps.mk (ks := [0]) rfl ⟨rfl, rfl, rfl, rfl, rfl, trivial⟩ (⟨_, _, rfl, rfl, rfl⟩) rfl⟩
    ·
     replace hm1 := cond_f hc1 hm1
     refine V.exit ?_
     obtain rfl := hr1 _ (Option.some.inj hm1).symm
     exact ⟨(cartons0, none), ⟨rfl, (fun _ => hob1)⟩, Keeps.mk (ks := []) rfl ⟨rfl, trivial⟩ (rfl) rfl⟩
   ·
    show V _ _ _ ⟨69, [(6, .sref ob1 5 0 (List.length cartons0)), (29, .int .i64 v), (0, .vl rn 5 (List.map (encCarton rn) list)), (27, .vl ρ1 1 (List.map encInt files)), (28, .int .i64 (files.length : Int))], [(ob1, ⟨5, List.map (encCarton rn) cartons0⟩)]⟩
    refine V.seq ?_
    refine V.region ?_
    refine VO.cons rfl (V1.int rfl rfl rfl rfl rfl (ltb rfl) ?_)
    refine VO.nil ?_
    refine V.seq ?_
    refine V.cond rfl (fun hc1 => ?_) (fun hc1 => ?_)
    ·
     replace hm1 := cond_t hc1 hm1
     refine V.skip ?_
     refine V.seq ?_
     replace hm1 := bindO hm1; rcases hm1 with ⟨j0, hm2, hm1⟩
     refine V.cutT (D := (List Carton) × (Nat)) (fun ⟨cartons1, b0⟩ => ⟨69, [(6, .sref b0 5 0 (List.length cartons1)), (0, .vl rn 5 (List.map (encCarton rn) list)), (27, .vl ρ1 1 (List.map encInt files)), (28, .int .i64 (files.length : Int)), (29, .int .i64 v)], [(b0, ⟨5, List.map (encCarton rn) cartons1⟩)]⟩) (fun ⟨cartons1, b0⟩ => (.inl cartons1 = j0)) ?_ ?_
     ·
      refine V.block ?_
      refine V.seq ?_
      replace hm2 := asrt_some hm2; rcases hm2 with ⟨hh3, hm2⟩
      refine V.region ?_
      refine VO.cons rfl (V1.indexI rfl rfl esz_38 rfl rfl hh3 (ltb rfl) ?_)
      refine VO.cons rfl (V1.loadPin rfl rfl tyk_3 rfl rfl (ltb rfl) ?_)
      refine VO.cons rfl (V1.assign rfl rfl rfl (ltb rfl) ?_)
      refine VO.nil ?_
      refine V.seq ?_
      replace hm2 := bindO hm2; rcases hm2 with ⟨y4, hh4, hm2⟩
      refine V.region ?_
      refine VO.cons rfl (V1.move rfl rfl rfl (ltb rfl) ?_)
      refine VO.cons rfl (V1.move rfl rfl rfl (ltb rfl) ?_)
      refine VO.cons rfl (V1.call rfl rfl rfl cok_61 rfl (ok_impl_cartonWith hh4) rfl (ltb rfl) ?_)
      rintro _ _ ⟨rfl, rfl⟩
      refine VO.cons rfl (V1.assign rfl rfl rfl (ltb rfl) ?_)
      refine VO.nil ?_
      refine V.keep 69 [0, 6, 9, 27, 28, 29] [0] (E0 := [(0, .vl rn 5 (List.map (encCarton rn) list)), (6, .sref ob1 5 0 (List.length cartons0)), (9, .int .i64 y4), (27, .vl ρ1 1 (List.map encInt files)), (28, .int .i64 (files.length : Int)), (29, .int .i64 v)]) (H0 := [(ob1, ⟨5, List.map (encCarton rn) cartons0⟩)]) rfl (⟨_, _, rfl, rfl, ⟨_, _, rfl, rfl, ⟨_, _, rfl, rfl, ⟨_, _, rfl, rfl, ⟨_, _, rfl, rfl, ⟨_, _, rfl, rfl, rfl⟩⟩⟩⟩⟩⟩) (⟨_, _, rfl, rfl, rfl⟩) rfl ?_
      refine V.seq ?_
      refine V.seq ?_
      refine V.region ?_
      refine VO.cons rfl (V1.move rfl rfl rfl (ltb rfl) ?_)
      refine VO.cons rfl (V1.int rfl rfl rfl rfl rfl (ltb rfl) ?_)
      refine VO.nil ?_
      refine V.cond rfl (fun hc2 => ?_) (fun hc2 => ?_)
      ·
       replace hm2 := cond_t hc2 hm2
       refine V.seq ?_
       refine V.region ?_
       refine VO.cons rfl (V1.assign rfl rfl rfl (ltb rfl) ?_)
       refine VO.cons rfl (V1.assign rfl rfl rfl (ltb rfl) ?_)
       refine VO.nil ?_
       refine V.keep 69 [4, 5] [] (E0 := [(4, .nils), (5, .bool false)]) (H0 := []) rfl (⟨_, _, rfl, rfl, ⟨_, _, rfl, rfl, rfl⟩⟩) (rfl) rfl ?_
       refine V.ret ?_
       obtain rfl := Option.some.inj hm2
       change some _ = some _ at hm1
       obtain rfl := hr1 _ (Option.some.inj hm1).symm
       change some _ = some _ at hm0
       obtain rfl := Option.some.inj hm0
       exact ⟨_, _, ⟨_, _, rfl, rfl, ⟨_, _, rfl, rfl, rfl⟩⟩, List.Sublist.refl _, none, (fun _ => rfl), rfl, rfl⟩
      ·
       replace hm2 := cond_f hc2 hm2
       refine V.skip ?_
       refine V.seq ?_
       replace hm2 := asrt_some hm2; rcases hm2 with ⟨hh5, hm2⟩
       replace hm2 := bindO hm2; rcases hm2 with ⟨y5, hh6, hm2⟩
       refine V.region ?_
       refine VO.cons rfl (V1.move rfl rfl rfl (ltb rfl) ?_)
       refine VO.cons rfl (V1.move rfl rfl rfl (ltb rfl) ?_)
       refine VO.cons rfl (V1.move rfl rfl rfl (ltb rfl) ?_)
       refine VO.cons rfl (V1.indexI rfl rfl esz_24 rfl rfl hh5 (ltb rfl) ?_)
       refine VO.cons rfl (V1.fieldPin rfl rfl fo_40_0 rfl (ltb rfl) ?_)
       refine VO.cons rfl (V1.loadPin rfl rfl tyk_3 rfl rfl (ltb rfl) ?_)
       refine VO.cons rfl (V1.callL (rn + 1) [ob1] [.vl (rn + 1) 5 (List.map (encCarton rn) cartons0), .int .i64 ((list.getD (Int.toNat y4) default).Id)] rfl rfl rfl cok_62 rfl ⟨_, _, rfl, Lend.srMap 0 rfl (fun _ => rfl) (.head _), ⟨_, _, rfl, .same _, rfl⟩⟩ (bwCons (k := 0) rfl bwNil) (ok_impl_cartonAt hh6) rfl (⟨(by first | omega | (dsimp only; omega)), by rintro _ _ ⟨rfl, rfl⟩; exact ⟨rfl, by simp⟩⟩) (ltb rfl) ?_)
       rintro _ _ ⟨rfl, rfl⟩
       refine VO.cons rfl (V1.int rfl rfl rfl rfl rfl (ltb rfl) ?_)
       refine VO.nil ?_
       refine V.keep 69 [0, 6, 9, 27, 28, 29, 45] [0] (E0 := [(0, .vl rn 5 (List.map (encCarton rn) list)), (6, .sref ob1 5 0 (List.length cartons0)), (9, .int .i64 y4), (27, .vl ρ1 1 (List.map encInt files)), (28, .int .i64 (files.length : Int)), (29, .int .i64 v), (45, .bool (decide (y5 < (0 : Int))))]) (H0 := [(ob1, ⟨5, List.map (encCarton rn) cartons0⟩)]) rfl (⟨_, _, rfl, rfl, ⟨_, _, rfl, rfl, ⟨_, _, rfl, rfl, ⟨_, _, rfl, rfl, ⟨_, _, rfl, rfl, ⟨_, _, rfl, rfl, ⟨_, _, rfl, rfl, rfl⟩⟩⟩⟩⟩⟩⟩) (⟨_, _, rfl, rfl, rfl⟩) rfl ?_
       refine V.cond rfl (fun hc3 => ?_) (fun hc3 => ?_)
       ·
        replace hm2 := cond_t hc3 hm2
        replace hm2 := asrt_some hm2; rcases hm2 with ⟨hh7, hm2⟩
        replace hm2 := asrt_some hm2; rcases hm2 with ⟨hh8, hm2⟩
        refine V.region ?_
        refine VO.cons rfl (V1.move rfl rfl rfl (ltb rfl) ?_)
        refine VO.cons rfl (V1.move rfl rfl rfl (ltb rfl) ?_)
        refine VO.cons rfl (V1.move rfl rfl rfl (ltb rfl) ?_)
        refine VO.cons rfl (V1.indexI rfl rfl esz_24 rfl rfl hh7 (ltb rfl) ?_)
        refine VO.cons rfl (V1.loadPinAll rfl rfl tyk_40 rfl rfl (ltb rfl) ?_)
        refine VO.cons rfl (V1.buildSliceT (f := (encCarton rn)) ([(list.getD (Int.toNat y4) default)] : List Carton) rfl rfl esz_24 zk_40 rfl rfl rfl rfl rfl rfl rfl (ltb rfl) ?_)
        intro b1
        refine VO.cons rfl (V1.appendMap (k := 1) (f := (encCarton rn)) (l := cartons0) (m := ([(list.getD (Int.toNat y4) default)] : List Carton)) rfl rfl rfl rfl rfl esz_24 eby_24 zk_40 rfl rfl rfl (SrcOf.srMap (k := 0) rfl isl_24) hh8 (ltb rfl) ?_)
        intro b2
        refine VO.cons rfl (V1.assign rfl rfl rfl (ltb rfl) ?_)
        refine VO.nil ?_
        exact ⟨((cartons0 ++ ([(list.getD (Int.toNat y4) default)] : List Carton)), b2), Option.some.inj hm2, Keeps.mk (ks := [0]) rfl ⟨rfl, rfl, rfl, rfl, rfl, trivial⟩ (⟨_, _, rfl, rfl, rfl⟩) rfl⟩
       ·
        replace hm2 := cond_f hc3 hm2
        refine V.skip ?_
        exact ⟨(cartons0, ob1), Option.some.inj hm2, Keeps.mk (ks := [0]) rfl ⟨rfl, rfl, rfl, rfl, rfl, trivial⟩ (⟨_, _, rfl, rfl, rfl⟩) rfl⟩
     ·
      rintro ⟨cartons1, b0⟩ rfl
      try dsimp only at hm1
      refine V.region ?_
      refine VO.cons rfl (V1.int rfl rfl rfl rfl rfl (ltb rfl) ?_)
      refine VO.cons rfl (V1.move rfl rfl rfl (ltb rfl) ?_)
      refine VO.nil ?_
      exact ⟨(m0, (cartons1, (IntKind.i64.wrap (v + (1 : Int)))), (some b0)), ⟨hl1 _ (Option.some.inj hm1).symm, (fun e => by cases e)⟩, Nat.lt_succ_self _, Keeps.mk (ks := [0]) rfl ⟨rfl, rfl, rfl, rfl, rfl, trivial⟩ (⟨_, _, rfl, rfl, rfl⟩) rfl⟩
    ·
     replace hm1 := cond_f hc1 hm1
     refine V.exit ?_
     obtain rfl := hr1 _ (Option.some.inj hm1).symm
     exact ⟨(cartons0, (some ob1)), ⟨rfl, (fun e => by cases e)⟩, Keeps.mk (ks := [0]) rfl ⟨rfl, trivial⟩ (⟨_, _, rfl, rfl, rfl⟩) rfl⟩
  ·
   rintro ⟨cartons, ob0⟩ ⟨rfl, hob0⟩
   try dsimp only at hm0
   rcases ob0 with _ | ob0
   ·
    replace hob0 := hob0 rfl
    refine V.seq ?_
    replace hm0 := bindO hm0; rcases hm0 with ⟨y6, hh9, hm0⟩
    replace hm0 := asrt_some hm0; rcases hm0 with ⟨hh10, hm0⟩
    refine V.region ?_
    refine VO.cons rfl (V1.move rfl rfl rfl (ltb rfl) ?_)
    refine VO.cons rfl (V1.call rfl rfl rfl cok_88 rfl (ok_slices_SortFunc_impl_Carton_impl_Carton hh9 (oq := none) (x := cartons) (fun _ => hob0) (ρ0 := rn) (fm := (fun x0 x1 => M.impl_PullList_1 x0 x1)) cok_89 (fun _ _ _ h => ok_impl_PullList_1 h)) rfl (ltb rfl) ?_)
    rintro _ _ ⟨rfl, rfl⟩
    refine VO.nil ?_
    refine V.seq ?_
    refine V.region ?_
    refine VO.cons rfl (V1.assign rfl rfl rfl (ltb rfl) ?_)
    refine VO.nil ?_
    refine V.seq ?_
    refine V.seq ?_
    refine V.region ?_
    refine VO.cons rfl (V1.move rfl rfl rfl (ltb rfl) ?_)
    refine VO.cons rfl (V1.lenNilsE (l := y6) (List.length_eq_zero_iff.1 (hh10.trans (congrArg List.length hob0))) rfl rfl rfl rfl rfl rfl isl_24 (ltb rfl) ?_)
    refine VO.cons rfl (V1.move rfl rfl rfl (ltb rfl) ?_)
    refine VO.nil ?_
    replace hm0 := bindO hm0; rcases hm0 with ⟨e1, he1, hm0⟩
    refine V.cutT (D := (List Int) × (Option Nat)) (fun ⟨ids, ob2⟩ => ⟨69, [(10, optS 1 ob2 (List.length ids))], optH 1 ob2 (List.map encInt ids)⟩) (fun ⟨ids, ob2⟩ => (ids = e1) ∧ (ob2 = none → ids = [])) ?_ ?_
    ·
     refine V.block ?_
     refine V.weakenK (Keeps.nilsE (l := y6) 56 rn 5 (encCarton rn) (List.length_eq_zero_iff.1 (hh10.trans (congrArg List.length hob0))) rfl rfl) ?_
     refine V.keep 69 [10, 58, 56, 57] [] (E0 := [(10, .nils), (58, .int .i64 (0 : Int)), (56, .vl rn 5 (List.map (encCarton rn) y6)), (57, .int .i64 (y6.length : Int))]) (H0 := []) rfl (⟨_, _, rfl, rfl, ⟨_, _, rfl, rfl, ⟨_, _, rfl, rfl, ⟨_, _, rfl, rfl, rfl⟩⟩⟩⟩) (rfl) rfl ?_
     refine V.loopE (D := Nat × (List Int × Int) × (Option Nat)) (fun ⟨n1, ⟨ids0, v0⟩, ob3⟩ => [(10, optS 1 ob3 (List.length ids0)), (58, .int .i64 v0)]) (fun ⟨n1, ⟨ids0, v0⟩, ob3⟩ => optH 1 ob3 (List.map encInt ids0)) (fun ⟨n1, ⟨ids0, v0⟩, ob3⟩ => loopO (M.impl_PullList_l1 y6) n1 (ids0, v0) = some e1 ∧ (ob3 = none → ids0 = [])) (fun ⟨n1, _, _⟩ => n1) (rounds, (([] : List Int), (0 : Int)), none) rfl ⟨he1, (fun _ => rfl)⟩ ?_
     rintro ⟨n1, ⟨ids0, v0⟩, ob3⟩ ⟨hP1, hob3⟩
     obtain ⟨m1, y7, rfl, hm1, hl1, hr1⟩ := loop_head hP1
     unfold M.impl_PullList_l1 at hm1; dsimp only at hm1
     rcases ob3 with _ | ob3
     ·
      replace hob3 := hob3 rfl
      show V _ _ _ ⟨69, [(10, .nils), (58, .int .i64 v0), (56, .vl rn 5 (List.map (encCarton rn) y6)), (57, .int .i64 (y6.length : Int))], []⟩
      refine V.seq ?_
      refine V.region ?_
      refine VO.cons rfl (V1.int rfl rfl rfl rfl rfl (ltb rfl) ?_)
      refine VO.nil ?_
      refine V.seq ?_
      refine V.cond rfl (fun hc4 => ?_) (fun hc4 => ?_)
      ·
       replace hm1 := cond_t hc4 hm1
       refine V.skip ?_
       refine V.seq ?_
       refine V.block ?_
       refine V.seq ?_
       replace hm1 := asrt_some hm1; rcases hm1 with ⟨hh11, hm1⟩
       refine V.region ?_
       refine VO.cons rfl (V1.indexI rfl rfl esz_24 rfl rfl hh11 (ltb rfl) ?_)
       refine VO.cons rfl (V1.loadPinAll rfl rfl tyk_40 rfl rfl (ltb rfl) ?_)
       refine VO.cons rfl (V1.alloc rfl rfl zk_40 (ltb rfl) ?_)
       intro b3
       refine VO.cons rfl (V1.storeRefAll (k := 0) rfl rfl tyk_40 rfl rfl rfl rfl rfl rfl ?_)
       refine VO.nil ?_
       replace hm1 := asrt_some hm1; rcases hm1 with ⟨hh12, hm1⟩
       refine V.region ?_
       refine VO.cons rfl (V1.move rfl rfl rfl (ltb rfl) ?_)
       refine VO.cons rfl (V1.fieldRef rfl rfl fo_40_0 rfl (ltb rfl) ?_)
       refine VO.cons rfl (V1.loadRef (k := 0) rfl rfl tyk_3 rfl rfl rfl rfl rfl (ltb rfl) ?_)
       refine VO.cons rfl (V1.buildSliceT (f := encInt) ([(y6.getD (Int.toNat v0) default).Id] : List Int) rfl rfl esz_38 zk_3 rfl rfl rfl rfl rfl rfl rfl (ltb rfl) ?_)
       intro b4
       refine VO.cons rfl (V1.appendNilE (f := encInt) (l := ids0) (m := ([(y6.getD (Int.toNat v0) default).Id] : List Int)) hob3 rfl rfl rfl rfl rfl esz_38 eby_38 zk_3 rfl rfl rfl (SrcOf.srMap (k := 0) rfl isl_38) rfl hh12 (ltb rfl) ?_)
       intro b5
       refine VO.cons rfl (V1.assign rfl rfl rfl (ltb rfl) ?_)
       refine VO.nil ?_
       refine V.keep 69 [10, 56, 57, 58] [0] (E0 := [(10, .sref b5 1 0 (List.length (ids0 ++ ([(y6.getD (Int.toNat v0) default).Id] : List Int)))), (56, .vl rn 5 (List.map (encCarton rn) y6)), (57, .int .i64 (y6.length : Int)), (58, .int .i64 v0)]) (H0 := [(b5, ⟨1, List.map encInt (ids0 ++ ([(y6.getD (Int.toNat v0) default).Id] : List Int))⟩)]) rfl (⟨_, _, rfl, rfl, ⟨_, _, rfl, rfl, ⟨_, _, rfl, rfl, ⟨_, _, rfl, rfl, rfl⟩⟩⟩⟩) (⟨_, _, rfl, rfl, rfl⟩) rfl ?_
       refine V.region ?_
       refine VO.cons rfl (V1.int rfl rfl rfl rfl rfl (ltb rfl) ?_)
       refine VO.cons rfl (V1.move rfl rfl rfl (ltb rfl) ?_)
       refine VO.nil ?_
       exact ⟨(m1, ((ids0 ++ ([(y6.getD (Int.toNat v0) default).Id] : List Int)), (IntKind.i64.wrap (v0 + (1 : Int)))), (some b5)), ⟨hl1 _ (Option.some.inj hm1).symm, (fun e => by cases e)⟩, Nat.lt_succ_self _, Keeps.mk (ks := [0]) rfl ⟨rfl, rfl, rfl, rfl, trivial⟩ (⟨_, _, rfl, rfl, rfl⟩) rfl⟩
      ·
       replace hm1 := cond_f hc4 hm1
       refine V.exit ?_
       obtain rfl := hr1 _ (Option.some.inj hm1).symm
       exact ⟨(ids0, none), ⟨rfl, (fun _ => hob3)⟩, Keeps.mk (ks := []) rfl ⟨rfl, trivial⟩ (rfl) rfl⟩
     ·
      show V _ _ _ ⟨69, [(10, .sref ob3 1 0 (List.length ids0)), (58, .int .i64 v0), (56, .vl rn 5 (List.map (encCarton rn) y6)), (57, .int .i64 (y6.length : Int))], [(ob3, ⟨1, List.map encInt ids0⟩)]⟩
      refine V.seq ?_
      refine V.region ?_
      refine VO.cons rfl (V1.int rfl rfl rfl rfl rfl (ltb rfl) ?_)
      refine VO.nil ?_
      refine V.seq ?_
      refine V.cond rfl (fun hc4 => ?_) (fun hc4 => ?_)
      ·
       replace hm1 := cond_t hc4 hm1
       refine V.skip ?_
       refine V.seq ?_
       refine V.block ?_
       refine V.seq ?_
       replace hm1 := asrt_some hm1; rcases hm1 with ⟨hh11, hm1⟩
       refine V.region ?_
       refine VO.cons rfl (V1.indexI rfl rfl esz_24 rfl rfl hh11 (ltb rfl) ?_)
       refine VO.cons rfl (V1.loadPinAll rfl rfl tyk_40 rfl rfl (ltb rfl) ?_)
       refine VO.cons rfl (V1.alloc rfl rfl zk_40 (ltb rfl) ?_)
       intro b3
       refine VO.cons rfl (V1.storeRefAll (k := 0) rfl rfl tyk_40 rfl rfl rfl rfl rfl rfl ?_)
       refine VO.nil ?_
       replace hm1 := asrt_some hm1; rcases hm1 with ⟨hh12, hm1⟩
       refine V.region ?_
       refine VO.cons rfl (V1.move rfl rfl rfl (ltb rfl) ?_)
       refine VO.cons rfl (V1.fieldRef rfl rfl fo_40_0 rfl (ltb rfl) ?_)
       refine VO.cons rfl (V1.loadRef (k := 0) rfl rfl tyk_3 rfl rfl rfl rfl rfl (ltb rfl) ?_)
       refine VO.cons rfl (V1.buildSliceT (f := encInt) ([(y6.getD (Int.toNat v0) default).Id] : List Int) rfl rfl esz_38 zk_3 rfl rfl rfl rfl rfl rfl rfl (ltb rfl) ?_)
       intro b4
       refine VO.cons rfl (V1.appendMap (k := 2) (f := encInt) (l := ids0) (m := ([(y6.getD (Int.toNat v0) default).Id] : List Int)) rfl rfl rfl rfl rfl esz_38 eby_38 zk_3 rfl rfl rfl (SrcOf.srMap (k := 0) rfl isl_38) hh12 (ltb rfl) ?_)
       intro b5
       refine VO.cons rfl (V1.assign rfl rfl rfl (ltb rfl) ?_)
       refine VO.nil ?_
       refine V.keep 69 [10, 56, 57, 58] [0] (E0 := [(10, .sref b5 1 0 (List.length (ids0 ++ ([(y6.getD (Int.toNat v0) default).Id] : List Int)))), (56, .vl rn 5 (List.map (encCarton rn) y6)), (57, .int .i64 (y6.length : Int)), (58, .int .i64 v0)]) (H0 := [(b5, ⟨1, List.map encInt (ids0 ++ ([(y6.getD (Int.toNat v0) default).Id] : List Int))⟩)]) rfl (⟨_, _, rfl, rfl, ⟨_, _, rfl, rfl, ⟨_, _, rfl, rfl, ⟨_, _, rfl, rfl, rfl⟩⟩⟩⟩) (⟨_, _, rfl, rfl, rfl⟩) rfl ?_
       refine V.region ?_
       refine VO.cons rfl (V1.int rfl rfl rfl rfl rfl (ltb rfl) ?_)
       refine VO.cons rfl (V1.move rfl rfl rfl (ltb rfl) ?_)
       refine VO.nil ?_
       exact ⟨(m1, ((ids0 ++ ([(y6.getD (Int.toNat v0) default).Id] : List Int)), (IntKind.i64.wrap (v0 + (1 : Int)))), (some b5)), ⟨hl1 _ (Option.some.inj hm1).symm, (fun e => by cases e)⟩, Nat.lt_succ_self _, Keeps.mk (ks := [0]) rfl ⟨rfl, rfl, rfl, rfl, trivial⟩ (⟨_, _, rfl, rfl, rfl⟩) rfl⟩
      ·
       replace hm1 := cond_f hc4 hm1
       refine V.exit ?_
       obtain rfl := hr1 _ (Option.some.inj hm1).symm
       exact ⟨(ids0, (some ob3)), ⟨rfl, (fun e => by cases e)⟩, Keeps.mk (ks := [0]) rfl ⟨rfl, trivial⟩ (⟨_, _, rfl, rfl, rfl⟩) rfl⟩
    ·
     rintro ⟨ids, ob2⟩ ⟨rfl, hob2⟩
     try dsimp only at hm0
     rcases ob2 with _ | ob2
     ·
      replace hob2 := hob2 rfl
      refine V.seq ?_
      refine V.region ?_
      refine VO.cons rfl (V1.move rfl rfl rfl (ltb rfl) ?_)
      refine VO.cons rfl (V1.assign rfl rfl rfl (ltb rfl) ?_)
      refine VO.cons rfl (V1.assign rfl rfl rfl (ltb rfl) ?_)
      refine VO.nil ?_
      refine V.keep 69 [4, 5] [] (E0 := [(4, .nils), (5, .bool true)]) (H0 := []) rfl (⟨_, _, rfl, rfl, ⟨_, _, rfl, rfl, rfl⟩⟩) (rfl) rfl ?_
      refine V.ret ?_
      obtain rfl := Option.some.inj hm0
      exact ⟨_, _, ⟨_, _, rfl, rfl, ⟨_, _, rfl, rfl, rfl⟩⟩, List.Sublist.refl _, none, (fun _ => hob2), rfl, rfl⟩
     ·
      refine V.seq ?_
      refine V.region ?_
      refine VO.cons rfl (V1.move rfl rfl rfl (ltb rfl) ?_)
      refine VO.cons rfl (V1.assign rfl rfl rfl (ltb rfl) ?_)
      refine VO.cons rfl (V1.assign rfl rfl rfl (ltb rfl) ?_)
      refine VO.nil ?_
      refine V.keep 69 [4, 5] [0] (E0 := [(4, .sref ob2 1 0 (List.length ids)), (5, .bool true)]) (H0 := [(ob2, ⟨1, List.map encInt ids⟩)]) rfl (⟨_, _, rfl, rfl, ⟨_, _, rfl, rfl, rfl⟩⟩) (⟨_, _, rfl, rfl, rfl⟩) rfl ?_
      refine V.ret ?_
      obtain rfl := Option.some.inj hm0
      exact ⟨_, _, ⟨_, _, rfl, rfl, ⟨_, _, rfl, rfl, rfl⟩⟩, List.Sublist.refl _, some ob2, (fun e => by cases e), rfl, rfl⟩
   ·
    refine V.seq ?_
    replace hm0 := bindO hm0; rcases hm0 with ⟨y6, hh9, hm0⟩
    replace hm0 := asrt_some hm0; rcases hm0 with ⟨hh10, hm0⟩
    refine V.region ?_
    refine VO.cons rfl (V1.move rfl rfl rfl (ltb rfl) ?_)
    refine VO.cons rfl (V1.callM 0 (rn + 1) [] [.sref ob0 5 0 (List.length cartons), .fn 89 []] (p := (ob0, ⟨5, List.map (encCarton rn) cartons⟩)) rfl rfl rfl cok_88 rfl rfl ⟨_, _, rfl, .same _, ⟨_, _, rfl, Lend.fn rfl, rfl⟩⟩ bwNil (ok_slices_SortFunc_impl_Carton_impl_Carton hh9 (oq := some ob0) (fun e => by cases e) (fm := (fun x0 x1 => M.impl_PullList_1 x0 x1)) cok_89 (fun _ _ _ h => ok_impl_PullList_1 h)) rfl (.inl rfl) (ltb rfl) ?_)
    rintro _ _ ⟨rfl, rfl⟩
    refine VO.weakenK (Keeps.say 6 (y := .sref ob0 5 0 (List.length y6)) rfl (congrArg (PV.sref ob0 5 0) hh10.symm)) ?_
    refine VO.nil ?_
    refine V.seq ?_
    refine V.region ?_
    refine VO.cons rfl (V1.assign rfl rfl rfl (ltb rfl) ?_)
    refine VO.nil ?_
    refine V.seq ?_
    refine V.seq ?_
    refine V.region ?_
    refine VO.cons rfl (V1.move rfl rfl rfl (ltb rfl) ?_)
    refine VO.cons rfl (V1.lenSref rfl rfl rfl rfl rfl rfl isl_24 (ltb rfl) ?_)
    refine VO.cons rfl (V1.move rfl rfl rfl (ltb rfl) ?_)
    refine VO.nil ?_
    replace hm0 := bindO hm0; rcases hm0 with ⟨e1, he1, hm0⟩
    refine V.cutT (D := (List Int) × (Option Nat)) (fun ⟨ids, ob2⟩ => ⟨69, [(10, optS 1 ob2 (List.length ids))], optH 1 ob2 (List.map encInt ids)⟩) (fun ⟨ids, ob2⟩ => (ids = e1) ∧ (ob2 = none → ids = [])) ?_ ?_
    ·
     refine V.block ?_
     refine V.keep 69 [10, 58, 56, 57] [0] (E0 := [(10, .nils), (58, .int .i64 (0 : Int)), (56, .sref ob0 5 0 (List.length y6)), (57, .int .i64 (y6.length : Int))]) (H0 := [(ob0, ⟨5, List.map (encCarton rn) y6⟩)]) rfl (⟨_, _, rfl, rfl, ⟨_, _, rfl, rfl, ⟨_, _, rfl, rfl, ⟨_, _, rfl, rfl, rfl⟩⟩⟩⟩) (⟨_, _, rfl, rfl, rfl⟩) rfl ?_
     refine V.loopE (D := Nat × (List Int × Int) × (Option Nat)) (fun ⟨n1, ⟨ids0, v0⟩, ob3⟩ => [(10, optS 1 ob3 (List.length ids0)), (58, .int .i64 v0)]) (fun ⟨n1, ⟨ids0, v0⟩, ob3⟩ => optH 1 ob3 (List.map encInt ids0)) (fun ⟨n1, ⟨ids0, v0⟩, ob3⟩ => loopO (M.impl_PullList_l1 y6) n1 (ids0, v0) = some e1 ∧ (ob3 = none → ids0 = [])) (fun ⟨n1, _, _⟩ => n1) (rounds, (([] : List Int), (0 : Int)), none) rfl ⟨he1, (fun _ => rfl)⟩ ?_
     rintro ⟨n1, ⟨ids0, v0⟩, ob3⟩ ⟨hP1, hob3⟩
     obtain ⟨m1, y7, rfl, hm1, hl1, hr1⟩ := loop_head hP1
     unfold M.impl_PullList_l1 at hm1; dsimp only at hm1
     rcases ob3 with _ | ob3
     ·
      replace hob3 := hob3 rfl
      show V _ _ _ ⟨69, [(10, .nils), (58, .int .i64 v0), (56, .sref ob0 5 0 (List.length y6)), (57, .int .i64 (y6.length : Int))], [(ob0, ⟨5, List.map (encCarton rn) y6⟩)]⟩
      refine V.seq ?_
      refine V.region ?_
      refine VO.cons rfl (V1.int rfl rfl rfl rfl rfl (ltb rfl) ?_)
      refine VO.nil ?_
      refine V.seq ?_
      refine V.cond rfl (fun hc4 => ?_) (fun hc4 => ?_)
      ·
       replace hm1 := cond_t hc4 hm1
       refine V.skip ?_
       refine V.seq ?_
       refine V.block ?_
       refine V.seq ?_
       replace hm1 := asrt_some hm1; rcases hm1 with ⟨hh11, hm1⟩
       refine V.region ?_
       refine VO.cons rfl (V1.indexSr rfl rfl esz_24 rfl rfl hh11 (ltb rfl) ?_)
       refine VO.cons rfl (V1.loadMapAll (k := 0) (f := (encCarton rn)) rfl rfl tyk_40 rfl rfl (by simpa using natLt hh11.1 hh11.2) rfl (ltb rfl) ?_)
       refine VO.cons rfl (V1.alloc rfl rfl zk_40 (ltb rfl) ?_)
       intro b3
       refine VO.cons rfl (V1.storeRefAll (k := 0) rfl rfl tyk_40 rfl rfl rfl rfl rfl rfl ?_)
       refine VO.nil ?_
       replace hm1 := asrt_some hm1; rcases hm1 with ⟨hh12, hm1⟩
       refine V.region ?_
       refine VO.cons rfl (V1.move rfl rfl rfl (ltb rfl) ?_)
       refine VO.cons rfl (V1.fieldRef rfl rfl fo_40_0 rfl (ltb rfl) ?_)
       refine VO.cons rfl (V1.loadRef (k := 0) rfl rfl tyk_3 rfl rfl rfl rfl rfl (ltb rfl) ?_)
       refine VO.cons rfl (V1.buildSliceT (f := encInt) ([(y6.getD (Int.toNat v0) default).Id] : List Int) rfl rfl esz_38 zk_3 rfl rfl rfl rfl rfl rfl rfl (ltb rfl) ?_)
       intro b4
       refine VO.cons rfl (V1.appendNilE (f := encInt) (l := ids0) (m := ([(y6.getD (Int.toNat v0) default).Id] : List Int)) hob3 rfl rfl rfl rfl rfl esz_38 eby_38 zk_3 rfl rfl rfl (SrcOf.srMap (k := 0) rfl isl_38) rfl hh12 (ltb rfl) ?_)
       intro b5
       refine VO.cons rfl (V1.assign rfl rfl rfl (ltb rfl) ?_)
       refine VO.nil ?_
       refine V.keep 69 [10, 56, 57, 58] [0, 3] (E0 := [(10, .sref b5 1 0 (List.length (ids0 ++ ([(y6.getD (Int.toNat v0) default).Id] : List Int)))), (56, .sref ob0 5 0 (List.length y6)), (57, .int .i64 (y6.length : Int)), (58, .int .i64 v0)]) (H0 := [(b5, ⟨1, List.map encInt (ids0 ++ ([(y6.getD (Int.toNat v0) default).Id] : List Int))⟩), (ob0, ⟨5, List.map (encCarton rn) y6⟩)]) rfl (⟨_, _, rfl, rfl, ⟨_, _, rfl, rfl, ⟨_, _, rfl, rfl, ⟨_, _, rfl, rfl, rfl⟩⟩⟩⟩) (⟨_, _, rfl, rfl, ⟨_, _, rfl, rfl, rfl⟩⟩) rfl ?_
       refine V.region ?_
       refine VO.cons rfl (V1.int rfl rfl rfl rfl rfl (ltb rfl) ?_)
       refine VO.cons rfl (V1.move rfl rfl rfl (ltb rfl) ?_)
       refine VO.nil ?_
       exact ⟨(m1, ((ids0 ++ ([(y6.getD (Int.toNat v0) default).Id] : List Int)), (IntKind.i64.wrap (v0 + (1 : Int)))), (some b5)), ⟨hl1 _ (Option.some.inj hm1).symm, (fun e => by cases e)⟩, Nat.lt_succ_self _, Keeps.mk (ks := [0, 1]) rfl ⟨rfl, rfl, rfl, rfl, trivial⟩ (⟨_, _, rfl, rfl, ⟨_, _, rfl, rfl, rfl⟩⟩) rfl⟩
      ·
       replace hm1 := cond_f hc4 hm1
       refine V.exit ?_
       obtain rfl := hr1 _ (Option.some.inj hm1).symm
       exact ⟨(ids0, none), ⟨rfl, (fun _ => hob3)⟩, Keeps.mk (ks := []) rfl ⟨rfl, trivial⟩ (rfl) rfl⟩
     ·
      show V _ _ _ ⟨69, [(10, .sref ob3 1 0 (List.length ids0)), (58, .int .i64 v0), (56, .sref ob0 5 0 (List.length y6)), (57, .int .i64 (y6.length : Int))], [(ob3, ⟨1, List.map encInt ids0⟩), (ob0, ⟨5, List.map (encCarton rn) y6⟩)]⟩
      refine V.seq ?_
      refine V.region ?_
      refine VO.cons rfl (V1.int rfl rfl rfl rfl rfl (ltb rfl) ?_)
      refine VO.nil ?_
      refine V.seq ?_
      refine V.cond rfl (fun hc4 => ?_) (fun hc4 => ?_)
      ·
       replace hm1 := cond_t hc4 hm1
       refine V.skip ?_
       refine V.seq ?_
       refine V.block ?_
       refine V.seq ?_
       replace hm1 := asrt_some hm1; rcases hm1 with ⟨hh11, hm1⟩
       refine V.region ?_
       refine VO.cons rfl (V1.indexSr rfl rfl esz_24 rfl rfl hh11 (ltb rfl) ?_)
       refine VO.cons rfl (V1.loadMapAll (k := 1) (f := (encCarton rn)) rfl rfl tyk_40 rfl rfl (by simpa using natLt hh11.1 hh11.2) rfl (ltb rfl) ?_)
       refine VO.cons rfl (V1.alloc rfl rfl zk_40 (ltb rfl) ?_)
       intro b3
       refine VO.cons rfl (V1.storeRefAll (k := 0) rfl rfl tyk_40 rfl rfl rfl rfl rfl rfl ?_)
       refine VO.nil ?_
       replace hm1 := asrt_some hm1; rcases hm1 with ⟨hh12, hm1⟩
       refine V.region ?_
       refine VO.cons rfl (V1.move rfl rfl rfl (ltb rfl) ?_)
       refine VO.cons rfl (V1.fieldRef rfl rfl fo_40_0 rfl (ltb rfl) ?_)
       refine VO.cons rfl (V1.loadRef (k := 0) rfl rfl tyk_3 rfl rfl rfl rfl rfl (ltb rfl) ?_)
       refine VO.cons rfl (V1.buildSliceT (f := encInt) ([(y6.getD (Int.toNat v0) default).Id] : List Int) rfl rfl esz_38 zk_3 rfl rfl rfl rfl rfl rfl rfl (ltb rfl) ?_)
       intro b4
       refine VO.cons rfl (V1.appendMap (k := 2) (f := encInt) (l := ids0) (m := ([(y6.getD (Int.toNat v0) default).Id] : List Int)) rfl rfl rfl rfl rfl esz_38 eby_38 zk_3 rfl rfl rfl (SrcOf.srMap (k := 0) rfl isl_38) hh12 (ltb rfl) ?_)
       intro b5
       refine VO.cons rfl (V1.assign rfl rfl rfl (ltb rfl) ?_)
       refine VO.nil ?_
       refine V.keep 69 [10, 56, 57, 58] [0, 3] (E0 := [(10, .sref b5 1 0 (List.length (ids0 ++ ([(y6.getD (Int.toNat v0) default).Id] : List Int)))), (56, .sref ob0 5 0 (List.length y6)), (57, .int .i64 (y6.length : Int)), (58, .int .i64 v0)]) (H0 := [(b5, ⟨1, List.map encInt (ids0 ++ ([(y6.getD (Int.toNat v0) default).Id] : List Int))⟩), (ob0, ⟨5, List.map (encCarton rn) y6⟩)]) rfl (⟨_, _, rfl, rfl, ⟨_, _, rfl, rfl, ⟨_, _, rfl, rfl, ⟨_, _, rfl, rfl, rfl⟩⟩⟩⟩) (⟨_, _, rfl, rfl, ⟨_, _, rfl, rfl, rfl⟩⟩) rfl ?_
       refine V.region ?_
       refine VO.cons rfl (V1.int rfl rfl rfl rfl rfl (ltb rfl) ?_)
       refine VO.cons rfl (V1.move rfl rfl rfl (ltb rfl) ?_)
       refine VO.nil ?_
       exact ⟨(m1, ((ids0 ++ ([(y6.getD (Int.toNat v0) default).Id] : List Int)), (IntKind.i64.wrap (v0 + (1 : Int)))), (some b5)), ⟨hl1 _ (Option.some.inj hm1).symm, (fun e => by cases e)⟩, Nat.lt_succ_self _, Keeps.mk (ks := [0, 1]) rfl ⟨rfl, rfl, rfl, rfl, trivial⟩ (⟨_, _, rfl, rfl, ⟨_, _, rfl, rfl, rfl⟩⟩) rfl⟩
      ·
       replace hm1 := cond_f hc4 hm1
       refine V.exit ?_
       obtain rfl := hr1 _ (Option.some.inj hm1).symm
       exact ⟨(ids0, (some ob3)), ⟨rfl, (fun e => by cases e)⟩, Keeps.mk (ks := [0]) rfl ⟨rfl, trivial⟩ (⟨_, _, rfl, rfl, rfl⟩) rfl⟩
    ·
     rintro ⟨ids, ob2⟩ ⟨rfl, hob2⟩
     try dsimp only at hm0
     rcases ob2 with _ | ob2
     ·
      replace hob2 := hob2 rfl
      refine V.seq ?_
      refine V.region ?_
      refine VO.cons rfl (V1.move rfl rfl rfl (ltb rfl) ?_)
      refine VO.cons rfl (V1.assign rfl rfl rfl (ltb rfl) ?_)
      refine VO.cons rfl (V1.assign rfl rfl rfl (ltb rfl) ?_)
      refine VO.nil ?_
      refine V.keep 69 [4, 5] [] (E0 := [(4, .nils), (5, .bool true)]) (H0 := []) rfl (⟨_, _, rfl, rfl, ⟨_, _, rfl, rfl, rfl⟩⟩) (rfl) rfl ?_
      refine V.ret ?_
      obtain rfl := Option.some.inj hm0
      exact ⟨_, _, ⟨_, _, rfl, rfl, ⟨_, _, rfl, rfl, rfl⟩⟩, List.Sublist.refl _, none, (fun _ => hob2), rfl, rfl⟩
     ·
      refine V.seq ?_
      refine V.region ?_
      refine VO.cons rfl (V1.move rfl rfl rfl (ltb rfl) ?_)
      refine VO.cons rfl (V1.assign rfl rfl rfl (ltb rfl) ?_)
      refine VO.cons rfl (V1.assign rfl rfl rfl (ltb rfl) ?_)
      refine VO.nil ?_
      refine V.keep 69 [4, 5] [0] (E0 := [(4, .sref ob2 1 0 (List.length ids)), (5, .bool true)]) (H0 := [(ob2, ⟨1, List.map encInt ids⟩)]) rfl (⟨_, _, rfl, rfl, ⟨_, _, rfl, rfl, rfl⟩⟩) (⟨_, _, rfl, rfl, rfl⟩) rfl ?_
      refine V.ret ?_
      obtain rfl := Option.some.inj hm0
      exact ⟨_, _, ⟨_, _, rfl, rfl, ⟨_, _, rfl, rfl, rfl⟩⟩, List.Sublist.refl _, some ob2, (fun e => by cases e), rfl, rfl⟩

theorem ok_spec_l1Put {rn : Nat} {l : List Int} {n : Int} {r : List Int} (h : M.spec_l1Put l n = some r) : Does Try.prog 72 [.vl rn 1 (List.map encInt l), .int .i64 n] [] rn (fun x H => x = .vl rn 1 (List.map encInt r) ∧ H = []) := by
 have hm0 := h; clear h; unfold M.spec_l1Put at hm0
 try dsimp only at hm0
 refine Does.intro (N := 45) Try.func72 rfl rfl rfl rfl ?_
 intro w0 S0
 refine V.seq ?_
 refine V.region ?_
 refine VO.cons rfl (V1.assign rfl rfl rfl (ltb rfl) ?_)
 refine VO.nil ?_
 refine V.seq ?_
 refine V.region ?_
 refine VO.cons rfl (V1.assign rfl rfl rfl (ltb rfl) ?_)
 refine VO.nil ?_
 refine V.seq ?_
 replace hm0 := bindO hm0; rcases hm0 with ⟨e0, he1, hm0⟩
 refine V.cutT (D := (Int) × (Unit)) (fun ⟨k, _⟩ => ⟨45, [(5, .int .i64 k), (0, .vl rn 1 (List.map encInt l)), (1, .int .i64 n)], []⟩) (fun ⟨k, _⟩ => (k = e0)) ?_ ?_
 ·
  refine V.block ?_
  refine V.keep 45 [5, 0, 1] [] (E0 := [(5, .int .i64 (0 : Int)), (0, .vl rn 1 (List.map encInt l)), (1, .int .i64 n)]) (H0 := []) rfl (⟨_, _, rfl, rfl, ⟨_, _, rfl, rfl, ⟨_, _, rfl, rfl, rfl⟩⟩⟩) (rfl) rfl ?_
  refine V.loopE (D := Nat × (Int) × (Unit)) (fun ⟨n0, k0, _⟩ => [(5, .int .i64 k0)]) (fun ⟨n0, k0, _⟩ => []) (fun ⟨n0, k0, _⟩ => loopO (M.spec_l1Put_l0 l n) n0 k0 = some e0) (fun ⟨n0, _, _⟩ => n0) (rounds, (0 : Int), ()) rfl he1 ?_
  rintro ⟨n0, k0, _⟩ hP0
  obtain ⟨m0, y0, rfl, hm1, hl1, hr1⟩ := loop_head hP0
  unfold M.spec_l1Put_l0 at hm1; dsimp only at hm1
  show V _ _ _ ⟨45, [(5, .int .i64 k0), (0, .vl rn 1 (List.map encInt l)), (1, .int .i64 n)], []⟩
  refine V.seq ?_
  refine V.seq ?_
  replace hm1 := asrt_some hm1; rcases hm1 with ⟨hh0, hm1⟩
  refine V.region ?_
  refine VO.cons rfl (V1.move rfl rfl rfl (ltb rfl) ?_)
  refine VO.cons rfl (V1.move rfl rfl rfl (ltb rfl) ?_)
  refine VO.cons rfl (V1.lenMap rfl rfl rfl rfl rfl rfl isl_38 (ltb rfl) ?_)
  refine VO.cons rfl (V1.int rfl rfl rfl rfl rfl (ltb rfl) ?_)
  refine VO.cons rfl (V1.move rfl rfl rfl (ltb rfl) ?_)
  apply VO.and (n := 6) rfl rfl rfl rfl rfl rfl (ltb rfl) (.none rfl)
  ·
   intro hg0
   refine VO.step (.some rfl rfl rfl) (V1.move rfl rfl rfl (ltb rfl) ?_)
   refine VO.step (.some rfl rfl rfl) (V1.move rfl rfl rfl (ltb rfl) ?_)
   refine VO.step (.some rfl rfl rfl) (V1.indexI rfl rfl esz_38 rfl rfl (hh0 hg0) (ltb rfl) ?_)
   refine VO.step (.some rfl rfl rfl) (V1.loadPin rfl rfl tyk_3 rfl rfl (ltb rfl) ?_)
   refine VO.step (.some rfl rfl rfl) (V1.move rfl rfl rfl (ltb rfl) ?_)
   refine VO.step (.some rfl rfl rfl) (V1.int rfl rfl rfl rfl rfl (ltb rfl) ?_)
   exact VO.nil ⟨rfl, rfl, rfl, rfl, .inr ⟨rfl, .inr ⟨rfl, .inr ⟨rfl, .inr ⟨rfl, .inr ⟨rfl, .inr ⟨rfl, .inr ⟨rfl, .inl rfl⟩⟩⟩⟩⟩⟩⟩⟩
  refine VO.nil ?_
  refine V.keep 45 [0, 1, 5, 17] [] (E0 := [(0, .vl rn 1 (List.map encInt l)), (1, .int .i64 n), (5, .int .i64 k0), (17, .bool ((decide (k0 < (l.length : Int))) && (decide ((l.getD (Int.toNat k0) default) < n))))]) (H0 := []) rfl (⟨_, _, rfl, rfl, ⟨_, _, rfl, rfl, ⟨_, _, rfl, rfl, ⟨_, _, rfl, rfl, rfl⟩⟩⟩⟩) (rfl) rfl ?_
  refine V.cond rfl (fun hc0 => ?_) (fun hc0 => ?_)
  ·
   replace hm1 := cond_t hc0 hm1
   refine V.skip ?_
   refine V.block ?_
   refine V.region ?_
   refine VO.cons rfl (V1.move rfl rfl rfl (ltb rfl) ?_)
   refine VO.cons rfl (V1.int rfl rfl rfl rfl rfl (ltb rfl) ?_)
   refine VO.cons rfl (V1.assign rfl rfl rfl (ltb rfl) ?_)
   refine VO.nil ?_
   exact ⟨(m0, (IntKind.i64.wrap (k0 + (1 : Int))), ()), hl1 _ (Option.some.inj hm1).symm, Nat.lt_succ_self _, Keeps.mk (ks := []) rfl ⟨rfl, rfl, rfl, trivial⟩ (rfl) rfl⟩
  ·
   replace hm1 := cond_f hc0 hm1
   refine V.exit ?_
   obtain rfl := hr1 _ (Option.some.inj hm1).symm
   exact ⟨(k0, ()), rfl, Keeps.mk (ks := []) rfl ⟨rfl, rfl, rfl, trivial⟩ (rfl) rfl⟩
 ·
  rintro ⟨k, _⟩ rfl
  try dsimp only at hm0
  refine V.seq ?_
  refine V.seq ?_
  replace hm0 := asrt_some hm0; rcases hm0 with ⟨hh1, hm0⟩
  refine V.region ?_
  refine VO.cons rfl (V1.move rfl rfl rfl (ltb rfl) ?_)
  refine VO.cons rfl (V1.move rfl rfl rfl (ltb rfl) ?_)
  refine VO.cons rfl (V1.lenMap rfl rfl rfl rfl rfl rfl isl_38 (ltb rfl) ?_)
  refine VO.cons rfl (V1.int rfl rfl rfl rfl rfl (ltb rfl) ?_)
  refine VO.cons rfl (V1.move rfl rfl rfl (ltb rfl) ?_)
  apply VO.and (n := 6) rfl rfl rfl rfl rfl rfl (ltb rfl) (.none rfl)
  ·
   intro hg1
   refine VO.step (.some rfl rfl rfl) (V1.move rfl rfl rfl (ltb rfl) ?_)
   refine VO.step (.some rfl rfl rfl) (V1.move rfl rfl rfl (ltb rfl) ?_)
   refine VO.step (.some rfl rfl rfl) (V1.indexI rfl rfl esz_38 rfl rfl (hh1 hg1) (ltb rfl) ?_)
   refine VO.step (.some rfl rfl rfl) (V1.loadPin rfl rfl tyk_3 rfl rfl (ltb rfl) ?_)
   refine VO.step (.some rfl rfl rfl) (V1.move rfl rfl rfl (ltb rfl) ?_)
   refine VO.step (.some rfl rfl rfl) (V1.int rfl rfl rfl rfl rfl (ltb rfl) ?_)
   exact VO.nil ⟨rfl, rfl, rfl, rfl, .inr ⟨rfl, .inr ⟨rfl, .inr ⟨rfl, .inr ⟨rfl, .inr ⟨rfl, .inr ⟨rfl, .inr ⟨rfl, .inl rfl⟩⟩⟩⟩⟩⟩⟩⟩
  refine VO.nil ?_
  refine V.keep 45 [0, 1, 5, 31] [] (E0 := [(0, .vl rn 1 (List.map encInt l)), (1, .int .i64 n), (5, .int .i64 k), (31, .bool ((decide (k < (l.length : Int))) && ((l.getD (Int.toNat k) default) == n)))]) (H0 := []) rfl (⟨_, _, rfl, rfl, ⟨_, _, rfl, rfl, ⟨_, _, rfl, rfl, ⟨_, _, rfl, rfl, rfl⟩⟩⟩⟩) (rfl) rfl ?_
  refine V.cond rfl (fun hc1 => ?_) (fun hc1 => ?_)
  ·
   replace hm0 := cond_t hc1 hm0
   refine V.seq ?_
   refine V.region ?_
   refine VO.cons rfl (V1.move rfl rfl rfl (ltb rfl) ?_)
   refine VO.cons rfl (V1.assign rfl rfl rfl (ltb rfl) ?_)
   refine VO.nil ?_
   refine V.ret ?_
   obtain rfl := Option.some.inj hm0
   exact ⟨_, [], ⟨_, _, rfl, rfl, rfl⟩, List.nil_sublist _, rfl, rfl⟩
  ·
   replace hm0 := cond_f hc1 hm0
   refine V.skip ?_
   refine V.seq ?_
   replace hm0 := asrt_some hm0; rcases hm0 with ⟨hh2, hm0⟩
   replace hm0 := asrt_some hm0; rcases hm0 with ⟨hh3, hm0⟩
   replace hm0 := asrt_some hm0; rcases hm0 with ⟨hh4, hm0⟩
   replace hm0 := asrt_some hm0; rcases hm0 with ⟨hh5, hm0⟩
   replace hm0 := asrt_some hm0; rcases hm0 with ⟨hh6, hm0⟩
   replace hm0 := bindO hm0; rcases hm0 with ⟨j0, hm1, hm0⟩
   refine V.cutT (D := (List Int) × (Nat)) (fun ⟨v, b5⟩ => ⟨45, [(4, .sref b5 1 0 (List.length v))], [(b5, ⟨1, List.map encInt v⟩)]⟩) (fun ⟨v, b5⟩ => (v = j0)) ?_ ?_
   ·
    refine V.regionS [] 45 11 [⟨[], true⟩, ⟨[(0, none)], false⟩, ⟨[(5, none)], false⟩, ⟨[(34, some 1), (35, some 2)], false⟩, ⟨[(33, some 0), (36, some 3)], true⟩, ⟨[(1, none)], false⟩, ⟨[(38, some 5)], true⟩, ⟨[(37, some 4), (39, some 6)], true⟩, ⟨[(0, none)], false⟩, ⟨[(5, none)], false⟩, ⟨[(41, some 8), (42, some 9)], false⟩] [(40, some 7), (43, some 10)] 4 (⟨_, rfl, ⟨_, rfl, ⟨_, rfl, ⟨_, rfl, ⟨_, rfl, ⟨_, rfl, ⟨_, rfl, ⟨_, rfl, ⟨_, rfl, ⟨_, rfl, ⟨_, rfl, ⟨rfl, rfl⟩⟩⟩⟩⟩⟩⟩⟩⟩⟩⟩⟩) mixed_orders rfl (by decide +kernel) ?_
    refine WalkP.step (p := ?pv36) 1 rfl rfl rfl rfl rfl (⟨_, _, rfl, rfl, rfl⟩) ?hv36 ?rest36
    case hv36 =>
     intro E1 H1 hI1
     refine (V1.move rfl rfl rfl (ltb rfl) ?_)
     exact rfl
    refine WalkP.step (p := ?pv37) 2 rfl rfl rfl rfl rfl (⟨_, _, rfl, rfl, rfl⟩) ?hv37 ?rest37
    case hv37 =>
     intro E1 H1 hI1
     refine (V1.move rfl rfl rfl (ltb rfl) ?_)
     exact rfl
    refine WalkP.step (p := ?pv38) 3 rfl rfl rfl rfl rfl (⟨_, _, rfl, rfl, ⟨_, _, rfl, rfl, rfl⟩⟩) ?hv38 ?rest38
    case hv38 =>
     intro E1 H1 hI1
     refine (V1.sliceMap (a := (0 : Int)) (b := k) rfl rfl esz_38 rfl (Bnd.none _ _) (Bnd.some rfl (Int.le_trans hh2.1 hh2.2.1) _) hh2 (ltb rfl) ?_)
     exact rfl
    refine WalkP.step (p := ?pv39) 5 rfl rfl rfl rfl rfl (⟨_, _, rfl, rfl, rfl⟩) ?hv39 ?rest39
    case hv39 =>
     intro E1 H1 hI1
     refine (V1.move rfl rfl rfl (ltb rfl) ?_)
     exact rfl
    refine WalkP.step (p := ?pv40) 8 rfl rfl rfl rfl rfl (⟨_, _, rfl, rfl, rfl⟩) ?hv40 ?rest40
    case hv40 =>
     intro E1 H1 hI1
     refine (V1.move rfl rfl rfl (ltb rfl) ?_)
     exact rfl
    refine WalkP.step (p := ?pv41) 9 rfl rfl rfl rfl rfl (⟨_, _, rfl, rfl, rfl⟩) ?hv41 ?rest41
    case hv41 =>
     intro E1 H1 hI1
     refine (V1.move rfl rfl rfl (ltb rfl) ?_)
     exact rfl
    refine WalkP.step (p := ?pv42) 10 rfl rfl rfl rfl rfl (⟨_, _, rfl, rfl, ⟨_, _, rfl, rfl, rfl⟩⟩) ?hv42 ?rest42
    case hv42 =>
     intro E1 H1 hI1
     refine (V1.sliceMap (a := k) (b := (l.length : Int)) rfl rfl esz_38 rfl (Bnd.some rfl hh5.1 _) (Bnd.none _ _) hh5 (ltb rfl) ?_)
     exact rfl
    refine WalkP.nil ?_
    refine NodeS.branch [0, 6] inNil rfl rfl rfl ⟨?_, ?_, trivial⟩
    ·
     refine ⟨_, _, _, _, rfl, rfl, rfl, (rfl), fun E1 => ?_⟩
     refine (V1.buildSliceT (f := encInt) ([] : List Int) rfl rfl esz_38 zk_3 rfl rfl rfl rfl rfl rfl rfl (ltb rfl) ?_)
     intro b6
     refine ⟨_, _, rfl, ?_⟩
     refine WalkP.nil ?_
     refine NodeS.branch [4, 6] inNil rfl rfl rfl ⟨?_, ?_, trivial⟩
     ·
      refine ⟨_, _, _, _, rfl, rfl, rfl, (⟨_, _, rfl, rfl, ⟨_, _, rfl, rfl, rfl⟩⟩), fun E1 => ?_⟩
      refine (V1.appendMap (k := 0) (f := encInt) (l := ([] : List Int)) (m := (slc l (0 : Int) k)) rfl rfl rfl rfl rfl esz_38 eby_38 zk_3 rfl rfl rfl (.vl isl_38) hh3 (ltb rfl) ?_)
      intro b7
      refine ⟨_, _, rfl, ?_⟩
      refine WalkP.nil ?_
      refine NodeS.branch [6] inNil rfl rfl rfl ⟨?_, trivial⟩
      ·
       refine ⟨_, _, _, _, rfl, rfl, rfl, (⟨_, _, rfl, rfl, rfl⟩), fun E1 => ?_⟩
       refine (V1.buildSliceT (f := encInt) ([n] : List Int) rfl rfl esz_38 zk_3 rfl rfl rfl rfl rfl rfl rfl (ltb rfl) ?_)
       intro b8
       refine ⟨_, _, rfl, ?_⟩
       refine WalkP.nil ?_
       refine NodeS.branch [7] inNil rfl rfl rfl ⟨?_, trivial⟩
       ·
        refine ⟨_, _, _, _, rfl, rfl, rfl, (⟨_, _, rfl, rfl, ⟨_, _, rfl, rfl, rfl⟩⟩), fun E1 => ?_⟩
        refine (V1.appendMap (k := 1) (f := encInt) (l := (([] : List Int) ++ (slc l (0 : Int) k))) (m := ([n] : List Int)) rfl rfl rfl rfl rfl esz_38 eby_38 zk_3 rfl rfl rfl (SrcOf.srMap (k := 0) rfl isl_38) hh4 (ltb rfl) ?_)
        intro b9
        refine ⟨_, _, rfl, ?_⟩
        refine WalkP.nil ?_
        refine NodeS.fin inNil rfl rfl rfl (⟨_, _, rfl, rfl, ⟨_, _, rfl, rfl, rfl⟩⟩) ?_
        refine VO.cons rfl (V1.appendMap (k := 0) (f := encInt) (l := ((([] : List Int) ++ (slc l (0 : Int) k)) ++ ([n] : List Int))) (m := (slc l k (l.length : Int))) rfl rfl rfl rfl rfl esz_38 eby_38 zk_3 rfl rfl rfl (.vl isl_38) hh6 (ltb rfl) ?_)
        intro b10
        refine VO.cons rfl (V1.assign rfl rfl rfl (ltb rfl) ?_)
        refine VO.nil ?_
        exact ⟨((((([] : List Int) ++ (slc l (0 : Int) k)) ++ ([n] : List Int)) ++ (slc l k (l.length : Int))), b10), Option.some.inj hm1, Keeps.mk (ks := [0]) rfl ⟨rfl, trivial⟩ (⟨_, _, rfl, rfl, rfl⟩) rfl⟩
     ·
      refine ⟨_, _, _, _, rfl, rfl, rfl, (⟨_, _, rfl, rfl, rfl⟩), fun E1 => ?_⟩
      refine (V1.buildSliceT (f := encInt) ([n] : List Int) rfl rfl esz_38 zk_3 rfl rfl rfl rfl rfl rfl rfl (ltb rfl) ?_)
      intro b11
      refine ⟨_, _, rfl, ?_⟩
      refine WalkP.nil ?_
      refine NodeS.branch [4] inNil rfl rfl rfl ⟨?_, trivial⟩
      ·
       refine ⟨_, _, _, _, rfl, rfl, rfl, (⟨_, _, rfl, rfl, ⟨_, _, rfl, rfl, rfl⟩⟩), fun E1 => ?_⟩
       refine (V1.appendMap (k := 1) (f := encInt) (l := ([] : List Int)) (m := (slc l (0 : Int) k)) rfl rfl rfl rfl rfl esz_38 eby_38 zk_3 rfl rfl rfl (.vl isl_38) hh3 (ltb rfl) ?_)
       intro b12
       refine ⟨_, _, rfl, ?_⟩
       refine WalkP.nil ?_
       refine NodeS.branch [7] inNil rfl rfl rfl ⟨?_, trivial⟩
       ·
        refine ⟨_, _, _, _, rfl, rfl, rfl, (⟨_, _, rfl, rfl, ⟨_, _, rfl, rfl, rfl⟩⟩), fun E1 => ?_⟩
        refine (V1.appendMap (k := 0) (f := encInt) (l := (([] : List Int) ++ (slc l (0 : Int) k))) (m := ([n] : List Int)) rfl rfl rfl rfl rfl esz_38 eby_38 zk_3 rfl rfl rfl (SrcOf.srMap (k := 1) rfl isl_38) hh4 (ltb rfl) ?_)
        intro b13
        refine ⟨_, _, rfl, ?_⟩
        refine WalkP.nil ?_
        refine NodeS.fin inNil rfl rfl rfl (⟨_, _, rfl, rfl, ⟨_, _, rfl, rfl, rfl⟩⟩) ?_
        refine VO.cons rfl (V1.appendMap (k := 0) (f := encInt) (l := ((([] : List Int) ++ (slc l (0 : Int) k)) ++ ([n] : List Int))) (m := (slc l k (l.length : Int))) rfl rfl rfl rfl rfl esz_38 eby_38 zk_3 rfl rfl rfl (.vl isl_38) hh6 (ltb rfl) ?_)
        intro b14
        refine VO.cons rfl (V1.assign rfl rfl rfl (ltb rfl) ?_)
        refine VO.nil ?_
        exact ⟨((((([] : List Int) ++ (slc l (0 : Int) k)) ++ ([n] : List Int)) ++ (slc l k (l.length : Int))), b14), Option.some.inj hm1, Keeps.mk (ks := [0]) rfl ⟨rfl, trivial⟩ (⟨_, _, rfl, rfl, rfl⟩) rfl⟩
    ·
     refine ⟨_, _, _, _, rfl, rfl, rfl, (⟨_, _, rfl, rfl, rfl⟩), fun E1 => ?_⟩
     refine (V1.buildSliceT (f := encInt) ([n] : List Int) rfl rfl esz_38 zk_3 rfl rfl rfl rfl rfl rfl rfl (ltb rfl) ?_)
     intro b15
     refine ⟨_, _, rfl, ?_⟩
     refine WalkP.nil ?_
     refine NodeS.branch [0] inNil rfl rfl rfl ⟨?_, trivial⟩
     ·
      refine ⟨_, _, _, _, rfl, rfl, rfl, (rfl), fun E1 => ?_⟩
      refine (V1.buildSliceT (f := encInt) ([] : List Int) rfl rfl esz_38 zk_3 rfl rfl rfl rfl rfl rfl rfl (ltb rfl) ?_)
      intro b16
      refine ⟨_, _, rfl, ?_⟩
      refine WalkP.nil ?_
      refine NodeS.branch [4] inNil rfl rfl rfl ⟨?_, trivial⟩
      ·
       refine ⟨_, _, _, _, rfl, rfl, rfl, (⟨_, _, rfl, rfl, ⟨_, _, rfl, rfl, rfl⟩⟩), fun E1 => ?_⟩
       refine (V1.appendMap (k := 0) (f := encInt) (l := ([] : List Int)) (m := (slc l (0 : Int) k)) rfl rfl rfl rfl rfl esz_38 eby_38 zk_3 rfl rfl rfl (.vl isl_38) hh3 (ltb rfl) ?_)
       intro b17
       refine ⟨_, _, rfl, ?_⟩
       refine WalkP.nil ?_
       refine NodeS.branch [7] inNil rfl rfl rfl ⟨?_, trivial⟩
       ·
        refine ⟨_, _, _, _, rfl, rfl, rfl, (⟨_, _, rfl, rfl, ⟨_, _, rfl, rfl, rfl⟩⟩), fun E1 => ?_⟩
        refine (V1.appendMap (k := 0) (f := encInt) (l := (([] : List Int) ++ (slc l (0 : Int) k))) (m := ([n] : List Int)) rfl rfl rfl rfl rfl esz_38 eby_38 zk_3 rfl rfl rfl (SrcOf.srMap (k := 1) rfl isl_38) hh4 (ltb rfl) ?_)
        intro b18
        refine ⟨_, _, rfl, ?_⟩
        refine WalkP.nil ?_
        refine NodeS.fin inNil rfl rfl rfl (⟨_, _, rfl, rfl, ⟨_, _, rfl, rfl, rfl⟩⟩) ?_
        refine VO.cons rfl (V1.appendMap (k := 0) (f := encInt) (l := ((([] : List Int) ++ (slc l (0 : Int) k)) ++ ([n] : List Int))) (m := (slc l k (l.length : Int))) rfl rfl rfl rfl rfl esz_38 eby_38 zk_3 rfl rfl rfl (.vl isl_38) hh6 (ltb rfl) ?_)
        intro b19
        refine VO.cons rfl (V1.assign rfl rfl rfl (ltb rfl) ?_)
        refine VO.nil ?_
        exact ⟨((((([] : List Int) ++ (slc l (0 : Int) k)) ++ ([n] : List Int)) ++ (slc l k (l.length : Int))), b19), Option.some.inj hm1, Keeps.mk (ks := [0]) rfl ⟨rfl, trivial⟩ (⟨_, _, rfl, rfl, rfl⟩) rfl⟩
   ·
    rintro ⟨v, b5⟩ rfl
    try dsimp only at hm0
    refine V.weakenK (Keeps.freezeG 0 rn [(4, .vl rn 1 (List.map encInt v))] [] (f := encInt) (l := v) rfl (fun _ => rfl) ⟨⟨_, rfl, .here⟩, trivial⟩ rfl rfl iNil) ?_
    refine V.ret ?_
    obtain rfl := Option.some.inj hm0
    exact ⟨_, [], ⟨_, _, rfl, rfl, rfl⟩, List.nil_sublist _, rfl, rfl⟩
end Go.Proofs.Ythfndefhmmfjaaa
