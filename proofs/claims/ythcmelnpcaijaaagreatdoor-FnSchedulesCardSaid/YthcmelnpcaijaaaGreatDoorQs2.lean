/- the functions do what their models say -/
import Derived.Test.YthcmelnpcaijaaaGreatDoorQs1
set_option linter.unusedSimpArgs false
set_option linter.unusedVariables false
set_option maxRecDepth 100000
set_option maxHeartbeats 4000000
namespace Go.Proofs.YthcmelnpcaijaaaGreatDoor
open Go.VS

theorem ok_spec_l1Cur_spoilt {ρ0 rn bp : Nat} {c : Cur} {t : List UInt8} {with_ : List UInt8} {r : List UInt8 × Cur} (h : M.spec_l1Cur_spoilt c t with_ = some r) : Does Tryz.prog 32 [.ref bp 3 0 0, .str t, .str with_] [(bp, ⟨3, [encCur ρ0 c]⟩)] rn (fun x H => x = .str r.1 ∧ H = [(bp, ⟨3, [encCur ρ0 r.2]⟩)]) := by
 have hm0 := h; clear h; unfold M.spec_l1Cur_spoilt at hm0
 try dsimp only at hm0
 refine Does.intro (N := 57) Tryz.func32 rfl rfl rfl rfl ?_
 intro w0 S0 L0
 refine V.seq ?_
 refine V.region ?_
 refine VO.cons rfl (V1.assign rfl rfl rfl lt0 ?_)
 refine VO.nil ?_
 refine V.seq ?_
 refine V.seq ?_
 refine V.region ?_
 refine VO.cons rfl (V1.move rfl rfl rfl lt0 ?_)
 refine VO.cons rfl (V1.str rfl rfl rfl rfl rfl lt0 ?_)
 refine VO.nil ?_
 refine V.cond rfl (fun hc0 => ?_) (fun hc0 => ?_)
 ·
  replace hm0 := cond_t hc0 hm0
  refine V.seq ?_
  replace hm0 := asrt_some hm0; rcases hm0 with ⟨hh0, hm0⟩
  refine V.region ?_
  refine VO.cons rfl (V1.move rfl rfl rfl lt0 ?_)
  refine VO.cons rfl (V1.sliceStrI (a := (0 : Int)) (b := (1 : Int)) rfl rfl istr_9 rfl (Bnd.none _ _) (Bnd.some rfl (Int.le_trans hh0.1 hh0.2.1) _) hh0 lt0 ?_)
  refine VO.cons rfl (V1.assign rfl rfl rfl lt0 ?_)
  refine VO.nil ?_
  refine V.ret ?_
  obtain rfl := Option.some.inj hm0
  exact ⟨_, _, ⟨_, _, rfl, rfl, rfl⟩, (sub1 (k := 0) rfl), rfl, rfl⟩
 ·
  replace hm0 := cond_f hc0 hm0
  refine V.skip ?_
  refine V.seq ?_
  replace hm0 := bindO hm0; rcases hm0 with ⟨y0, hh1, hm0⟩
  refine V.region ?_
  refine VO.cons rfl (V1.move rfl rfl rfl lt0 ?_)
  refine VO.cons rfl (V1.move rfl rfl rfl lt0 ?_)
  refine VO.cons rfl (V1.lenStr rfl rfl rfl rfl rfl rfl istr_9 lt0 ?_)
  refine VO.cons rfl (V1.callM 0 (rn + ρ0 + 1) [] [.ref bp 3 0 0, .int .i64 (t.length : Int)] (p := (bp, ⟨3, [encCur ρ0 c]⟩)) rfl rfl rfl cok_59 rfl rfl ⟨_, _, rfl, .same _, ⟨_, _, rfl, .same _, rfl⟩⟩ bwNil (ok_spec_l1Cur_pick hh1) rfl (.inl rfl) lt0 ?_)
  rintro _ _ ⟨rfl, rfl⟩
  refine VO.cons rfl (V1.assign rfl rfl rfl lt0 ?_)
  refine VO.nil ?_
  refine V.keep 57 [0, 1, 2, 7] [0] (E0 := [(0, .ref bp 3 0 0), (1, .str t), (2, .str with_), (7, .int .i64 y0.1)]) (H0 := [(bp, ⟨3, [encCur ρ0 y0.2]⟩)]) rfl (⟨_, _, rfl, rfl, _, _, rfl, rfl, _, _, rfl, rfl, _, _, rfl, rfl, rfl⟩) (⟨_, _, rfl, rfl, rfl⟩) rfl ?_
  refine V.seq ?_
  replace hm0 := bindO hm0; rcases hm0 with ⟨y1, hh2, hm0⟩
  replace hm0 := asrt_some hm0; rcases hm0 with ⟨hh3, hm0⟩
  replace hm0 := asrt_some hm0; rcases hm0 with ⟨hh4, hm0⟩
  refine V.region ?_
  refine VO.cons rfl (V1.move rfl rfl rfl lt0 ?_)
  refine VO.cons rfl (V1.move rfl rfl rfl lt0 ?_)
  refine VO.cons rfl (V1.move rfl rfl rfl lt0 ?_)
  refine VO.cons rfl (V1.lenStr rfl rfl rfl rfl rfl rfl istr_9 lt0 ?_)
  refine VO.cons rfl (V1.callM 0 (rn + ρ0 + 1) [] [.ref bp 3 0 0, .int .i64 (with_.length : Int)] (p := (bp, ⟨3, [encCur ρ0 y0.2]⟩)) rfl rfl rfl cok_59 rfl rfl ⟨_, _, rfl, .same _, ⟨_, _, rfl, .same _, rfl⟩⟩ bwNil (ok_spec_l1Cur_pick hh2) rfl (.inl rfl) lt0 ?_)
  rintro _ _ ⟨rfl, rfl⟩
  refine VO.cons rfl (V1.sliceStrI (a := y1.1) (b := (with_.length : Int)) rfl rfl istr_9 rfl (Bnd.some rfl hh3.1 _) (Bnd.none _ _) hh3 lt0 ?_)
  refine VO.cons rfl (V1.sliceStrI (a := (0 : Int)) (b := (1 : Int)) rfl rfl istr_9 rfl (Bnd.none _ _) (Bnd.some rfl (Int.le_trans hh4.1 hh4.2.1) _) hh4 lt0 ?_)
  refine VO.cons rfl (V1.assign rfl rfl rfl lt0 ?_)
  refine VO.nil ?_
  refine V.keep 57 [0, 1, 7, 8] [0] (E0 := [(0, .ref bp 3 0 0), (1, .str t), (7, .int .i64 y0.1), (8, .str (slc (slc with_ y1.1 (with_.length : Int)) (0 : Int) (1 : Int)))]) (H0 := [(bp, ⟨3, [encCur ρ0 y1.2]⟩)]) rfl (⟨_, _, rfl, rfl, _, _, rfl, rfl, _, _, rfl, rfl, _, _, rfl, rfl, rfl⟩) (⟨_, _, rfl, rfl, rfl⟩) rfl ?_
  refine V.seq ?_
  refine V.seq ?_
  replace hm0 := bindO hm0; rcases hm0 with ⟨y2, hh5, hm0⟩
  refine V.region ?_
  refine VO.cons rfl (V1.move rfl rfl rfl lt0 ?_)
  refine VO.cons rfl (V1.callM 0 (rn + ρ0 + 1) [] [.ref bp 3 0 0, .int .i64 (3 : Int)] (p := (bp, ⟨3, [encCur ρ0 y1.2]⟩)) rfl rfl rfl cok_59 rfl rfl ⟨_, _, rfl, .same _, ⟨_, _, rfl, .same _, rfl⟩⟩ bwNil (ok_spec_l1Cur_pick hh5) rfl (.inl rfl) lt0 ?_)
  rintro _ _ ⟨rfl, rfl⟩
  refine VO.nil ?_
  refine V.block ?_
  refine V.seq ?_
  refine V.region ?_
  refine VO.cons rfl (V1.int rfl rfl rfl rfl rfl lt0 ?_)
  refine VO.cons rfl (V1.assign rfl rfl rfl lt0 ?_)
  refine VO.nil ?_
  refine V.cond rfl (fun hc1 => ?_) (fun hc1 => ?_)
  ·
   replace hm0 := cond_t hc1 hm0
   refine V.seq ?_
   replace hm0 := asrt_some hm0; rcases hm0 with ⟨hh6, hm0⟩
   replace hm0 := asrt_some hm0; rcases hm0 with ⟨hh7, hm0⟩
   replace hm0 := asrt_some hm0; rcases hm0 with ⟨hh8, hm0⟩
   replace hm0 := asrt_some hm0; rcases hm0 with ⟨hh9, hm0⟩
   refine V.regionM 57 8 [⟨[(1, none)], [], none⟩, ⟨[(7, none)], [], none⟩, ⟨[(28, some 1), (29, some 0)], [], none⟩, ⟨[(8, none)], [], none⟩, ⟨[(30, some 1), (31, some 0)], [], none⟩, ⟨[(1, none)], [], none⟩, ⟨[(7, none)], [], none⟩, ⟨[(33, some 1), (34, some 0)], [], none⟩] [(32, some 3), (35, some 0)] (⟨_, rfl, ⟨_, rfl, ⟨_, rfl, ⟨_, rfl, ⟨_, rfl, ⟨_, rfl, ⟨_, rfl, ⟨_, rfl, ⟨rfl, rfl⟩⟩⟩⟩⟩⟩⟩⟩⟩) mixed_orders rfl (by decide +kernel) (fun hck7 => ?_)
   refine VP.step (p := ?pv58) rfl rfl rfl (⟨_, _, rfl, rfl, rfl⟩) ?hv58 ?rest58 hck7
   case hv58 =>
    intro E1
    refine (V1.move rfl rfl rfl lt0 ?_)
    exact rfl
   refine VP.step (p := ?pv59) rfl rfl rfl (⟨_, _, rfl, rfl, rfl⟩) ?hv59 ?rest59 hck7
   case hv59 =>
    intro E1
    refine (V1.move rfl rfl rfl lt0 ?_)
    exact rfl
   refine VP.step (p := ?pv60) rfl rfl rfl (⟨_, _, rfl, rfl, _, _, rfl, rfl, rfl⟩) ?hv60 ?rest60 hck7
   case hv60 =>
    intro E1
    refine (V1.sliceStrI (a := (0 : Int)) (b := y0.1) rfl rfl istr_9 rfl (Bnd.none _ _) (Bnd.some rfl (Int.le_trans hh6.1 hh6.2.1) _) hh6 lt0 ?_)
    exact rfl
   refine VP.step (p := ?pv61) rfl rfl rfl (⟨_, _, rfl, rfl, rfl⟩) ?hv61 ?rest61 hck7
   case hv61 =>
    intro E1
    refine (V1.move rfl rfl rfl lt0 ?_)
    exact rfl
   refine VP.step (p := ?pv62) rfl rfl rfl (⟨_, _, rfl, rfl, _, _, rfl, rfl, rfl⟩) ?hv62 ?rest62 hck7
   case hv62 =>
    intro E1
    refine (V1.strAdd rfl rfl rfl rfl hh7 lt0 ?_)
    exact rfl
   refine VP.step (p := ?pv63) rfl rfl rfl (⟨_, _, rfl, rfl, rfl⟩) ?hv63 ?rest63 hck7
   case hv63 =>
    intro E1
    refine (V1.move rfl rfl rfl lt0 ?_)
    exact rfl
   refine VP.step (p := ?pv64) rfl rfl rfl (⟨_, _, rfl, rfl, rfl⟩) ?hv64 ?rest64 hck7
   case hv64 =>
    intro E1
    refine (V1.move rfl rfl rfl lt0 ?_)
    exact rfl
   refine VP.step (p := ?pv65) rfl rfl rfl (⟨_, _, rfl, rfl, _, _, rfl, rfl, rfl⟩) ?hv65 ?rest65 hck7
   case hv65 =>
    intro E1
    refine (V1.sliceStrI (a := y0.1) (b := (t.length : Int)) rfl rfl istr_9 rfl (Bnd.some rfl hh8.1 _) (Bnd.none _ _) hh8 lt0 ?_)
    exact rfl
   refine VP.fin rfl (⟨_, _, rfl, rfl, _, _, rfl, rfl, rfl⟩) ?_
   refine VO.cons rfl (V1.strAdd rfl rfl rfl rfl hh9 lt0 ?_)
   refine VO.cons rfl (V1.assign rfl rfl rfl lt0 ?_)
   refine VO.nil ?_
   refine V.ret ?_
   obtain rfl := Option.some.inj hm0
   exact ⟨_, _, ⟨_, _, rfl, rfl, rfl⟩, (sub1 (k := 0) rfl), rfl, rfl⟩
  ·
   replace hm0 := cond_f hc1 hm0
   refine V.seq ?_
   refine V.region ?_
   refine VO.cons rfl (V1.int rfl rfl rfl rfl rfl lt0 ?_)
   refine VO.cons rfl (V1.assign rfl rfl rfl lt0 ?_)
   refine VO.nil ?_
   refine V.keep 57 [1, 7, 8, 37] [0] (E0 := [(1, .str t), (7, .int .i64 y0.1), (8, .str (slc (slc with_ y1.1 (with_.length : Int)) (0 : Int) (1 : Int))), (37, .bool (y2.1 == (1 : Int)))]) (H0 := [(bp, ⟨3, [encCur ρ0 y2.2]⟩)]) rfl (⟨_, _, rfl, rfl, _, _, rfl, rfl, _, _, rfl, rfl, _, _, rfl, rfl, rfl⟩) (⟨_, _, rfl, rfl, rfl⟩) rfl ?_
   refine V.cond rfl (fun hc2 => ?_) (fun hc2 => ?_)
   ·
    replace hm0 := cond_t hc2 hm0
    refine V.seq ?_
    replace hm0 := asrt_some hm0; rcases hm0 with ⟨hh10, hm0⟩
    replace hm0 := asrt_some hm0; rcases hm0 with ⟨hh11, hm0⟩
    replace hm0 := asrt_some hm0; rcases hm0 with ⟨hh12, hm0⟩
    replace hm0 := asrt_some hm0; rcases hm0 with ⟨hh13, hm0⟩
    refine V.regionM 57 9 [⟨[(1, none)], [], none⟩, ⟨[(7, none)], [], none⟩, ⟨[(39, some 1), (40, some 0)], [], none⟩, ⟨[(8, none)], [], none⟩, ⟨[(41, some 1), (42, some 0)], [], none⟩, ⟨[(1, none)], [], none⟩, ⟨[(7, none)], [], none⟩, ⟨[(45, some 0)], [], none⟩, ⟨[(44, some 2), (46, some 0)], [], none⟩] [(43, some 4), (47, some 0)] (⟨_, rfl, ⟨_, rfl, ⟨_, rfl, ⟨_, rfl, ⟨_, rfl, ⟨_, rfl, ⟨_, rfl, ⟨_, rfl, ⟨_, rfl, ⟨rfl, rfl⟩⟩⟩⟩⟩⟩⟩⟩⟩⟩) mixed_orders rfl (by decide +kernel) (fun hck9 => ?_)
    refine VP.step (p := ?pv66) rfl rfl rfl (⟨_, _, rfl, rfl, rfl⟩) ?hv66 ?rest66 hck9
    case hv66 =>
     intro E1
     refine (V1.move rfl rfl rfl lt0 ?_)
     exact rfl
    refine VP.step (p := ?pv67) rfl rfl rfl (⟨_, _, rfl, rfl, rfl⟩) ?hv67 ?rest67 hck9
    case hv67 =>
     intro E1
     refine (V1.move rfl rfl rfl lt0 ?_)
     exact rfl
    refine VP.step (p := ?pv68) rfl rfl rfl (⟨_, _, rfl, rfl, _, _, rfl, rfl, rfl⟩) ?hv68 ?rest68 hck9
    case hv68 =>
     intro E1
     refine (V1.sliceStrI (a := (0 : Int)) (b := y0.1) rfl rfl istr_9 rfl (Bnd.none _ _) (Bnd.some rfl (Int.le_trans hh10.1 hh10.2.1) _) hh10 lt0 ?_)
     exact rfl
    refine VP.step (p := ?pv69) rfl rfl rfl (⟨_, _, rfl, rfl, rfl⟩) ?hv69 ?rest69 hck9
    case hv69 =>
     intro E1
     refine (V1.move rfl rfl rfl lt0 ?_)
     exact rfl
    refine VP.step (p := ?pv70) rfl rfl rfl (⟨_, _, rfl, rfl, _, _, rfl, rfl, rfl⟩) ?hv70 ?rest70 hck9
    case hv70 =>
     intro E1
     refine (V1.strAdd rfl rfl rfl rfl hh11 lt0 ?_)
     exact rfl
    refine VP.step (p := ?pv71) rfl rfl rfl (⟨_, _, rfl, rfl, rfl⟩) ?hv71 ?rest71 hck9
    case hv71 =>
     intro E1
     refine (V1.move rfl rfl rfl lt0 ?_)
     exact rfl
    refine VP.step (p := ?pv72) rfl rfl rfl (⟨_, _, rfl, rfl, rfl⟩) ?hv72 ?rest72 hck9
    case hv72 =>
     intro E1
     refine (V1.move rfl rfl rfl lt0 ?_)
     exact rfl
    refine VP.step (p := ?pv73) rfl rfl rfl (⟨_, _, rfl, rfl, rfl⟩) ?hv73 ?rest73 hck9
    case hv73 =>
     intro E1
     refine (V1.int rfl rfl rfl rfl rfl lt0 ?_)
     exact rfl
    refine VP.step (p := ?pv74) rfl rfl rfl (⟨_, _, rfl, rfl, _, _, rfl, rfl, rfl⟩) ?hv74 ?rest74 hck9
    case hv74 =>
     intro E1
     refine (V1.sliceStrI (a := (IntKind.i64.wrap (y0.1 + (1 : Int)))) (b := (t.length : Int)) rfl rfl istr_9 rfl (Bnd.some rfl hh12.1 _) (Bnd.none _ _) hh12 lt0 ?_)
     exact rfl
    refine VP.fin rfl (⟨_, _, rfl, rfl, _, _, rfl, rfl, rfl⟩) ?_
    refine VO.cons rfl (V1.strAdd rfl rfl rfl rfl hh13 lt0 ?_)
    refine VO.cons rfl (V1.assign rfl rfl rfl lt0 ?_)
    refine VO.nil ?_
    refine V.ret ?_
    obtain rfl := Option.some.inj hm0
    exact ⟨_, _, ⟨_, _, rfl, rfl, rfl⟩, (sub1 (k := 0) rfl), rfl, rfl⟩
   ·
    replace hm0 := cond_f hc2 hm0
    refine V.skip ?_
    refine V.seq ?_
    replace hm0 := asrt_some hm0; rcases hm0 with ⟨hh14, hm0⟩
    replace hm0 := asrt_some hm0; rcases hm0 with ⟨hh15, hm0⟩
    replace hm0 := asrt_some hm0; rcases hm0 with ⟨hh16, hm0⟩
    refine V.regionM 57 7 [⟨[(1, none)], [], none⟩, ⟨[(7, none)], [], none⟩, ⟨[(49, some 1), (50, some 0)], [], none⟩, ⟨[(1, none)], [], none⟩, ⟨[(7, none)], [], none⟩, ⟨[(53, some 0)], [], none⟩, ⟨[(52, some 2), (54, some 0)], [], none⟩] [(51, some 4), (55, some 0)] (⟨_, rfl, ⟨_, rfl, ⟨_, rfl, ⟨_, rfl, ⟨_, rfl, ⟨_, rfl, ⟨_, rfl, ⟨rfl, rfl⟩⟩⟩⟩⟩⟩⟩⟩) mixed_orders rfl (by decide +kernel) (fun hck10 => ?_)
    refine VP.step (p := ?pv75) rfl rfl rfl (⟨_, _, rfl, rfl, rfl⟩) ?hv75 ?rest75 hck10
    case hv75 =>
     intro E1
     refine (V1.move rfl rfl rfl lt0 ?_)
     exact rfl
    refine VP.step (p := ?pv76) rfl rfl rfl (⟨_, _, rfl, rfl, rfl⟩) ?hv76 ?rest76 hck10
    case hv76 =>
     intro E1
     refine (V1.move rfl rfl rfl lt0 ?_)
     exact rfl
    refine VP.step (p := ?pv77) rfl rfl rfl (⟨_, _, rfl, rfl, _, _, rfl, rfl, rfl⟩) ?hv77 ?rest77 hck10
    case hv77 =>
     intro E1
     refine (V1.sliceStrI (a := (0 : Int)) (b := y0.1) rfl rfl istr_9 rfl (Bnd.none _ _) (Bnd.some rfl (Int.le_trans hh14.1 hh14.2.1) _) hh14 lt0 ?_)
     exact rfl
    refine VP.step (p := ?pv78) rfl rfl rfl (⟨_, _, rfl, rfl, rfl⟩) ?hv78 ?rest78 hck10
    case hv78 =>
     intro E1
     refine (V1.move rfl rfl rfl lt0 ?_)
     exact rfl
    refine VP.step (p := ?pv79) rfl rfl rfl (⟨_, _, rfl, rfl, rfl⟩) ?hv79 ?rest79 hck10
    case hv79 =>
     intro E1
     refine (V1.move rfl rfl rfl lt0 ?_)
     exact rfl
    refine VP.step (p := ?pv80) rfl rfl rfl (⟨_, _, rfl, rfl, rfl⟩) ?hv80 ?rest80 hck10
    case hv80 =>
     intro E1
     refine (V1.int rfl rfl rfl rfl rfl lt0 ?_)
     exact rfl
    refine VP.step (p := ?pv81) rfl rfl rfl (⟨_, _, rfl, rfl, _, _, rfl, rfl, rfl⟩) ?hv81 ?rest81 hck10
    case hv81 =>
     intro E1
     refine (V1.sliceStrI (a := (IntKind.i64.wrap (y0.1 + (1 : Int)))) (b := (t.length : Int)) rfl rfl istr_9 rfl (Bnd.some rfl hh15.1 _) (Bnd.none _ _) hh15 lt0 ?_)
     exact rfl
    refine VP.fin rfl (⟨_, _, rfl, rfl, _, _, rfl, rfl, rfl⟩) ?_
    refine VO.cons rfl (V1.strAdd rfl rfl rfl rfl hh16 lt0 ?_)
    refine VO.cons rfl (V1.assign rfl rfl rfl lt0 ?_)
    refine VO.nil ?_
    refine V.ret ?_
    obtain rfl := Option.some.inj hm0
    exact ⟨_, _, ⟨_, _, rfl, rfl, rfl⟩, (sub1 (k := 0) rfl), rfl, rfl⟩

theorem ok_spec_DrawParseSchedule {ρ0 rn : Nat} {code : List Int} {r : List UInt8} (h : M.spec_DrawParseSchedule code = some r) : Does Tryz.prog 11 [.vl ρ0 1 (List.map encU8 code)] [] rn (fun x H => x = .str r ∧ H = []) := by
 have hm0 := h; clear h; unfold M.spec_DrawParseSchedule at hm0
 try dsimp only at hm0
 refine Does.intro (N := 21) Tryz.func11 rfl rfl rfl rfl ?_
 intro w0 S0 L0
 refine V.seq ?_
 refine V.region ?_
 refine VO.cons rfl (V1.assign rfl rfl rfl lt0 ?_)
 refine VO.nil ?_
 refine V.seq ?_
 refine V.region ?_
 refine VO.cons rfl (V1.move rfl rfl rfl lt0 ?_)
 refine VO.cons rfl (V1.build rfl rfl zk_56 pl_56 rfl rfl lt0 ?_)
 refine VO.cons rfl (V1.boxN (n := 3) rfl rfl rfl rfl rfl lt0 ?_)
 intro b0
 refine VO.cons rfl (V1.assign rfl rfl rfl lt0 ?_)
 refine VO.nil ?_
 refine V.keep 21 [3] [0] (E0 := [(3, .ref b0 3 0 0)]) (H0 := [(b0, ⟨3, [.agg [.vl ρ0 1 (List.map encU8 code), .int .i64 (0 : Int), .int .u64 (0 : Int)]]⟩)]) rfl (⟨_, _, rfl, rfl, rfl⟩) (⟨_, _, rfl, rfl, rfl⟩) rfl ?_
 refine V.seq ?_
 refine V.region ?_
 refine VO.cons rfl (V1.assign rfl rfl rfl lt0 ?_)
 refine VO.nil ?_
 refine V.seq ?_
 replace hm0 := bindO hm0; rcases hm0 with ⟨j0, hm1, hm0⟩
 refine V.cutT (D := (List UInt8 × Cur) × (Unit)) (fun ⟨⟨s, c_⟩, _⟩ => ⟨21, [(4, .str s), (3, .ref b0 3 0 0)], [(b0, ⟨3, [encCur ρ0 c_]⟩)]⟩) (fun ⟨⟨s, c_⟩, _⟩ => ((s, c_) = j0)) ?_ ?_
 ·
  refine V.seq ?_
  replace hm1 := bindO hm1; rcases hm1 with ⟨y0, hh0, hm1⟩
  refine V.region ?_
  refine VO.cons rfl (V1.move rfl rfl rfl lt0 ?_)
  refine VO.cons rfl (V1.callM 0 (rn + ρ0 + 1) [] [.ref b0 3 0 0] (p := (b0, ⟨3, [.agg [.vl ρ0 1 (List.map encU8 code), .int .i64 (0 : Int), .int .u64 (0 : Int)]]⟩)) rfl rfl rfl cok_30 rfl rfl ⟨_, _, rfl, .same _, rfl⟩ bwNil (ok_spec_l1Cur_schedule hh0) rfl (.inl rfl) lt0 ?_)
  rintro _ _ ⟨b1, rfl, rfl⟩
  refine VO.weakenK (Keeps.freezeG 0 rn [(10, .vl rn 4 (List.map encRule y0.1))] ([(b0, ⟨3, [encCur ρ0 y0.2]⟩)]) (f := encRule) (l := y0.1) rfl (fun _ => rfl) ⟨⟨_, rfl, .here⟩, trivial⟩ ⟨_, _, rfl, rfl, .inl rfl, rfl⟩ rfl iNil) ?_
  refine VO.cons rfl (V1.assign rfl rfl rfl lt0 ?_)
  refine VO.nil ?_
  refine V.seq ?_
  replace hm1 := bindO hm1; rcases hm1 with ⟨y1, hh1, hm1⟩
  refine V.region ?_
  refine VO.cons rfl (V1.move rfl rfl rfl lt0 ?_)
  refine VO.cons rfl (V1.call rfl rfl rfl cok_26 rfl (ok_spec_l4Good hh1) rfl lt0 ?_)
  rintro _ _ ⟨rfl, rfl⟩
  refine VO.nil ?_
  refine V.cond rfl (fun hc0 => ?_) (fun hc0 => ?_)
  ·
   replace hm1 := cond_t hc0 hm1
   replace hm1 := bindO hm1; rcases hm1 with ⟨y2, hh2, hm1⟩
   refine V.region ?_
   refine VO.cons rfl (V1.move rfl rfl rfl lt0 ?_)
   refine VO.cons rfl (V1.call rfl rfl rfl cok_27 rfl (ok_spec_l4Text hh2) rfl lt0 ?_)
   rintro _ _ ⟨rfl, rfl⟩
   refine VO.cons rfl (V1.assign rfl rfl rfl lt0 ?_)
   refine VO.nil ?_
   exact ⟨((y2, y0.2), ()), Option.some.inj hm1, Keeps.mk (ks := [0]) rfl ⟨rfl, rfl, trivial⟩ (⟨_, _, rfl, rfl, rfl⟩) rfl⟩
  ·
   replace hm1 := cond_f hc0 hm1
   refine V.skip ?_
   exact ⟨(([51, 46, 48, 43, 51, 54, 53, 48, 100, 32, 51, 46, 49, 43, 52, 48, 48, 116], y0.2), ()), Option.some.inj hm1, Keeps.mk (ks := [0]) rfl ⟨rfl, rfl, trivial⟩ (⟨_, _, rfl, rfl, rfl⟩) rfl⟩
 ·
  rintro ⟨⟨s, c_⟩, _⟩ rfl
  try dsimp only at hm0
  refine V.seq ?_
  refine V.seq ?_
  replace hm0 := bindO hm0; rcases hm0 with ⟨y3, hh3, hm0⟩
  refine V.region ?_
  refine VO.cons rfl (V1.move rfl rfl rfl lt0 ?_)
  refine VO.cons rfl (V1.callM 0 (rn + ρ0 + 1) [] [.ref b0 3 0 0, .int .i64 (4 : Int)] (p := (b0, ⟨3, [encCur ρ0 c_]⟩)) rfl rfl rfl cok_31 rfl rfl ⟨_, _, rfl, .same _, ⟨_, _, rfl, .same _, rfl⟩⟩ bwNil (ok_spec_l1Cur_one hh3) rfl (.inl rfl) lt0 ?_)
  rintro _ _ ⟨rfl, rfl⟩
  refine VO.nil ?_
  refine V.cond rfl (fun hc1 => ?_) (fun hc1 => ?_)
  ·
   replace hm0 := cond_t hc1 hm0
   replace hm0 := bindO hm0; rcases hm0 with ⟨y4, hh4, hm0⟩
   refine V.region ?_
   refine VO.cons rfl (V1.move rfl rfl rfl lt0 ?_)
   refine VO.cons rfl (V1.move rfl rfl rfl lt0 ?_)
   refine VO.cons rfl (V1.callM 0 (rn + ρ0 + 1) [] [.ref b0 3 0 0, .str s, .str ([46, 43, 107, 116, 100, 32, 48, 49])] (p := (b0, ⟨3, [encCur ρ0 y3.2]⟩)) rfl rfl rfl cok_32 rfl rfl ⟨_, _, rfl, .same _, ⟨_, _, rfl, .same _, ⟨_, _, rfl, .same _, rfl⟩⟩⟩ bwNil (ok_spec_l1Cur_spoilt hh4) rfl (.inl rfl) lt0 ?_)
   rintro _ _ ⟨rfl, rfl⟩
   refine VO.cons rfl (V1.assign rfl rfl rfl lt0 ?_)
   refine VO.nil ?_
   refine V.keep 21 [4] [] (E0 := [(4, .str y4.1)]) (H0 := []) rfl (⟨_, _, rfl, rfl, rfl⟩) (rfl) rfl ?_
   refine V.seq ?_
   refine V.region ?_
   refine VO.cons rfl (V1.move rfl rfl rfl lt0 ?_)
   refine VO.cons rfl (V1.assign rfl rfl rfl lt0 ?_)
   refine VO.nil ?_
   refine V.ret ?_
   obtain rfl := Option.some.inj hm0
   exact ⟨_, [], ⟨_, _, rfl, rfl, rfl⟩, List.nil_sublist _, rfl, rfl⟩
  ·
   replace hm0 := cond_f hc1 hm0
   refine V.skip ?_
   refine V.seq ?_
   refine V.region ?_
   refine VO.cons rfl (V1.move rfl rfl rfl lt0 ?_)
   refine VO.cons rfl (V1.assign rfl rfl rfl lt0 ?_)
   refine VO.nil ?_
   refine V.ret ?_
   obtain rfl := Option.some.inj hm0
   exact ⟨_, [], ⟨_, _, rfl, rfl, rfl⟩, List.nil_sublist _, rfl, rfl⟩

theorem ok_spec_l1Split {rn : Nat} {s : List UInt8} {b_ : Int} {r : List (List UInt8)} (h : M.spec_l1Split s b_ = some r) : Does Tryz.prog 33 [.str s, .int .u8 b_] [] rn (fun x H => ∃ (ob0_ : Nat), x = PV.sref ob0_ 1 0 (List.length r) ∧ H = [(ob0_, ⟨1, List.map encStr r⟩)]) := by
 have hm0 := h; clear h; unfold M.spec_l1Split at hm0
 try dsimp only at hm0
 refine Does.intro (N := 35) Tryz.func33 rfl rfl rfl rfl ?_
 intro w0 S0 L0
 refine V.seq ?_
 refine V.region ?_
 refine VO.cons rfl (V1.assign rfl rfl rfl lt0 ?_)
 refine VO.nil ?_
 refine V.seq ?_
 refine V.region ?_
 refine VO.cons rfl (V1.buildSliceT (f := encStr) ([] : List (List UInt8)) rfl rfl esz_59 zk_9 rfl rfl rfl rfl rfl rfl rfl lt0 ?_)
 intro b0
 refine VO.cons rfl (V1.assign rfl rfl rfl lt0 ?_)
 refine VO.nil ?_
 refine V.seq ?_
 refine V.region ?_
 refine VO.cons rfl (V1.assign rfl rfl rfl lt0 ?_)
 refine VO.nil ?_
 refine V.seq ?_
 refine V.seq ?_
 refine V.region ?_
 refine VO.cons rfl (V1.assign rfl rfl rfl lt0 ?_)
 refine VO.nil ?_
 replace hm0 := bindO hm0; rcases hm0 with ⟨e0, he1, hm0⟩
 refine V.cutT (D := (List (List UInt8) × Int) × (Nat)) (fun ⟨⟨out_, from_⟩, b1⟩ => ⟨35, [(5, .sref b1 1 0 (List.length out_)), (6, .int .i64 from_), (0, .str s)], [(b1, ⟨1, List.map encStr out_⟩)]⟩) (fun ⟨⟨out_, from_⟩, b1⟩ => ((out_, from_) = e0)) ?_ ?_
 ·
  refine V.block ?_
  refine V.keep 35 [5, 6, 7, 0, 1] [0] (E0 := [(5, .sref b0 1 0 (List.length ([] : List (List UInt8)))), (6, .int .i64 (0 : Int)), (7, .int .i64 (0 : Int)), (0, .str s), (1, .int .u8 b_)]) (H0 := [(b0, ⟨1, List.map encStr ([] : List (List UInt8))⟩)]) rfl (⟨_, _, rfl, rfl, _, _, rfl, rfl, _, _, rfl, rfl, _, _, rfl, rfl, _, _, rfl, rfl, rfl⟩) (⟨_, _, rfl, rfl, rfl⟩) rfl ?_
  refine V.loopE (D := Nat × (List (List UInt8) × Int × Int) × (Nat)) (fun ⟨n0, ⟨out_0, from_0, i⟩, b2⟩ => [(5, .sref b2 1 0 (List.length out_0)), (6, .int .i64 from_0), (7, .int .i64 i)]) (fun ⟨n0, ⟨out_0, from_0, i⟩, b2⟩ => [(b2, ⟨1, List.map encStr out_0⟩)]) (fun ⟨n0, ⟨out_0, from_0, i⟩, b2⟩ => loopO (M.spec_l1Split_l0 s b_) n0 (out_0, from_0, i) = some e0) (fun ⟨n0, _, _⟩ => n0) (rounds, (([] : List (List UInt8)), (0 : Int), (0 : Int)), b0) rfl he1 ?_
  rintro ⟨n0, ⟨out_0, from_0, i⟩, b2⟩ hP0
  obtain ⟨m0, y0, rfl, hm1, hl1, hr1⟩ := loop_head hP0
  unfold M.spec_l1Split_l0 at hm1; dsimp only at hm1
  show V _ _ _ ⟨35, [(5, .sref b2 1 0 (List.length out_0)), (6, .int .i64 from_0), (7, .int .i64 i), (0, .str s), (1, .int .u8 b_)], [(b2, ⟨1, List.map encStr out_0⟩)]⟩
  refine V.seq ?_
  refine V.seq ?_
  refine V.region ?_
  refine VO.cons rfl (V1.move rfl rfl rfl lt0 ?_)
  refine VO.cons rfl (V1.move rfl rfl rfl lt0 ?_)
  refine VO.cons rfl (V1.lenStr rfl rfl rfl rfl rfl rfl istr_9 lt0 ?_)
  refine VO.cons rfl (V1.int rfl rfl rfl rfl rfl lt0 ?_)
  refine VO.nil ?_
  refine V.cond rfl (fun hc0 => ?_) (fun hc0 => ?_)
  ·
   replace hm1 := cond_t hc0 hm1
   refine V.skip ?_
   refine V.keep 35 [0, 1, 5, 6, 7] [0] (E0 := [(0, .str s), (1, .int .u8 b_), (5, .sref b2 1 0 (List.length out_0)), (6, .int .i64 from_0), (7, .int .i64 i)]) (H0 := [(b2, ⟨1, List.map encStr out_0⟩)]) rfl (⟨_, _, rfl, rfl, _, _, rfl, rfl, _, _, rfl, rfl, _, _, rfl, rfl, _, _, rfl, rfl, rfl⟩) (⟨_, _, rfl, rfl, rfl⟩) rfl ?_
   refine V.seq ?_
   replace hm1 := bindO hm1; rcases hm1 with ⟨j0, hm2, hm1⟩
   refine V.cutT (D := (List (List UInt8) × Int) × (Nat)) (fun ⟨⟨out_1, from_1⟩, b3⟩ => ⟨35, [(5, .sref b3 1 0 (List.length out_1)), (6, .int .i64 from_1), (0, .str s), (1, .int .u8 b_), (7, .int .i64 i)], [(b3, ⟨1, List.map encStr out_1⟩)]⟩) (fun ⟨⟨out_1, from_1⟩, b3⟩ => ((out_1, from_1) = j0)) ?_ ?_
   ·
    refine V.block ?_
    refine V.seq ?_
    replace hm2 := asrt_some hm2; rcases hm2 with ⟨hh0, hm2⟩
    refine V.region ?_
    refine VO.cons rfl (V1.move rfl rfl rfl lt0 ?_)
    refine VO.cons rfl (V1.move rfl rfl rfl lt0 ?_)
    refine VO.cons rfl (V1.indexStrI rfl rfl istr_9 rfl rfl hh0 lt0 ?_)
    refine VO.cons rfl (V1.move rfl rfl rfl lt0 ?_)
    refine VO.cons rfl (V1.int rfl rfl rfl rfl rfl lt0 ?_)
    refine VO.nil ?_
    refine V.keep 35 [0, 1, 5, 6, 7, 19] [0] (E0 := [(0, .str s), (1, .int .u8 b_), (5, .sref b2 1 0 (List.length out_0)), (6, .int .i64 from_0), (7, .int .i64 i), (19, .bool (((s.getD (Int.toNat i) 0).toNat : Int) == b_))]) (H0 := [(b2, ⟨1, List.map encStr out_0⟩)]) rfl (⟨_, _, rfl, rfl, _, _, rfl, rfl, _, _, rfl, rfl, _, _, rfl, rfl, _, _, rfl, rfl, _, _, rfl, rfl, rfl⟩) (⟨_, _, rfl, rfl, rfl⟩) rfl ?_
    refine V.cond rfl (fun hc1 => ?_) (fun hc1 => ?_)
    ·
     replace hm2 := cond_t hc1 hm2
     refine V.seq ?_
     replace hm2 := asrt_some hm2; rcases hm2 with ⟨hh1, hm2⟩
     replace hm2 := asrt_some hm2; rcases hm2 with ⟨hh2, hm2⟩
     refine V.region ?_
     refine VO.cons rfl (V1.move rfl rfl rfl lt0 ?_)
     refine VO.cons rfl (V1.move rfl rfl rfl lt0 ?_)
     refine VO.cons rfl (V1.move rfl rfl rfl lt0 ?_)
     refine VO.cons rfl (V1.move rfl rfl rfl lt0 ?_)
     refine VO.cons rfl (V1.sliceStrI (a := from_0) (b := i) rfl rfl istr_9 rfl (Bnd.some rfl hh1.1 _) (Bnd.some rfl (Int.le_trans hh1.1 hh1.2.1) _) hh1 lt0 ?_)
     refine VO.cons rfl (V1.buildSliceT (f := encStr) ([(slc s from_0 i)] : List (List UInt8)) rfl rfl esz_59 zk_9 rfl rfl rfl rfl rfl rfl rfl lt0 ?_)
     intro b4
     refine VO.cons rfl (V1.appendMap (k := 1) (f := encStr) (l := out_0) (m := ([(slc s from_0 i)] : List (List UInt8))) rfl rfl rfl rfl rfl esz_59 eby_59 zk_9 rfl rfl rfl (SrcOf.srMap (k := 0) rfl isl_59) hh2 lt0 ?_)
     intro b5
     refine VO.cons rfl (V1.assign rfl rfl rfl lt0 ?_)
     refine VO.nil ?_
     refine V.keep 35 [0, 1, 5, 7] [0] (E0 := [(0, .str s), (1, .int .u8 b_), (5, .sref b5 1 0 (List.length (out_0 ++ ([(slc s from_0 i)] : List (List UInt8))))), (7, .int .i64 i)]) (H0 := [(b5, ⟨1, List.map encStr (out_0 ++ ([(slc s from_0 i)] : List (List UInt8)))⟩)]) rfl (⟨_, _, rfl, rfl, _, _, rfl, rfl, _, _, rfl, rfl, _, _, rfl, rfl, rfl⟩) (⟨_, _, rfl, rfl, rfl⟩) rfl ?_
     refine V.region ?_
     refine VO.cons rfl (V1.move rfl rfl rfl lt0 ?_)
     refine VO.cons rfl (V1.int rfl rfl rfl rfl rfl lt0 ?_)
     refine VO.cons rfl (V1.assign rfl rfl rfl lt0 ?_)
     refine VO.nil ?_
     exact ⟨(((out_0 ++ ([(slc s from_0 i)] : List (List UInt8))), (IntKind.i64.wrap (i + (1 : Int)))), b5), Option.some.inj hm2, Keeps.mk (ks := [0]) rfl ⟨rfl, rfl, rfl, rfl, rfl, trivial⟩ (⟨_, _, rfl, rfl, rfl⟩) rfl⟩
    ·
     replace hm2 := cond_f hc1 hm2
     refine V.skip ?_
     exact ⟨((out_0, from_0), b2), Option.some.inj hm2, Keeps.mk (ks := [0]) rfl ⟨rfl, rfl, rfl, rfl, rfl, trivial⟩ (⟨_, _, rfl, rfl, rfl⟩) rfl⟩
   ·
    rintro ⟨⟨out_1, from_1⟩, b3⟩ rfl
    try dsimp only at hm1
    refine V.region ?_
    refine VO.cons rfl (V1.move rfl rfl rfl lt0 ?_)
    refine VO.cons rfl (V1.int rfl rfl rfl rfl rfl lt0 ?_)
    refine VO.cons rfl (V1.assign rfl rfl rfl lt0 ?_)
    refine VO.nil ?_
    exact ⟨(m0, (out_1, from_1, (IntKind.i64.wrap (i + (1 : Int)))), b3), hl1 _ (Option.some.inj hm1).symm, Nat.lt_succ_self _, Keeps.mk (ks := [0]) rfl ⟨rfl, rfl, rfl, rfl, rfl, trivial⟩ (⟨_, _, rfl, rfl, rfl⟩) rfl⟩
  ·
   replace hm1 := cond_f hc0 hm1
   refine V.exit ?_
   obtain rfl := hr1 _ (Option.some.inj hm1).symm
   exact ⟨((out_0, from_0), b2), rfl, Keeps.mk (ks := [0]) rfl ⟨rfl, rfl, rfl, trivial⟩ (⟨_, _, rfl, rfl, rfl⟩) rfl⟩
 ·
  rintro ⟨⟨out_, from_⟩, b1⟩ rfl
  try dsimp only at hm0
  refine V.seq ?_
  replace hm0 := asrt_some hm0; rcases hm0 with ⟨hh3, hm0⟩
  replace hm0 := asrt_some hm0; rcases hm0 with ⟨hh4, hm0⟩
  refine V.region ?_
  refine VO.cons rfl (V1.move rfl rfl rfl lt0 ?_)
  refine VO.cons rfl (V1.move rfl rfl rfl lt0 ?_)
  refine VO.cons rfl (V1.move rfl rfl rfl lt0 ?_)
  refine VO.cons rfl (V1.sliceStrI (a := from_) (b := (s.length : Int)) rfl rfl istr_9 rfl (Bnd.some rfl hh3.1 _) (Bnd.none _ _) hh3 lt0 ?_)
  refine VO.cons rfl (V1.buildSliceT (f := encStr) ([(slc s from_ (s.length : Int))] : List (List UInt8)) rfl rfl esz_59 zk_9 rfl rfl rfl rfl rfl rfl rfl lt0 ?_)
  intro b6
  refine VO.cons rfl (V1.appendMap (k := 1) (f := encStr) (l := out_) (m := ([(slc s from_ (s.length : Int))] : List (List UInt8))) rfl rfl rfl rfl rfl esz_59 eby_59 zk_9 rfl rfl rfl (SrcOf.srMap (k := 0) rfl isl_59) hh4 lt0 ?_)
  intro b7
  refine VO.cons rfl (V1.assign rfl rfl rfl lt0 ?_)
  refine VO.nil ?_
  refine V.keep 35 [4] [0] (E0 := [(4, .sref b7 1 0 (List.length (out_ ++ ([(slc s from_ (s.length : Int))] : List (List UInt8)))))]) (H0 := [(b7, ⟨1, List.map encStr (out_ ++ ([(slc s from_ (s.length : Int))] : List (List UInt8)))⟩)]) rfl (⟨_, _, rfl, rfl, rfl⟩) (⟨_, _, rfl, rfl, rfl⟩) rfl ?_
  refine V.ret ?_
  obtain rfl := Option.some.inj hm0
  exact ⟨_, _, ⟨_, _, rfl, rfl, rfl⟩, List.Sublist.refl _, b7, rfl, rfl⟩

theorem ok_spec_l1Read {rn : Nat} {s : List UInt8} {r : Int × Bool} (h : M.spec_l1Read s = some r) : Does Tryz.prog 62 [.str s] [] rn (fun x H => x = .tup [.int .i64 r.1, .bool r.2] ∧ H = []) := by
 have hm0 := h; clear h; unfold M.spec_l1Read at hm0
 try dsimp only at hm0
 refine Does.intro (N := 58) Tryz.func62 rfl rfl rfl rfl ?_
 intro w0 S0 L0
 refine V.seq ?_
 refine V.region ?_
 refine VO.cons rfl (V1.assign rfl rfl rfl lt0 ?_)
 refine VO.cons rfl (V1.assign rfl rfl rfl lt0 ?_)
 refine VO.nil ?_
 refine V.seq ?_
 refine V.region ?_
 refine VO.cons rfl (V1.move rfl rfl rfl lt0 ?_)
 refine VO.cons rfl (V1.assign rfl rfl rfl lt0 ?_)
 refine VO.nil ?_
 refine V.seq ?_
 replace hm0 := bindO hm0; rcases hm0 with ⟨j0, hm1, hm0⟩
 refine V.cutT (D := (List UInt8) × (Unit)) (fun ⟨t_, _⟩ => ⟨58, [(4, .str t_), (0, .str s)], []⟩) (fun ⟨t_, _⟩ => (t_ = j0)) ?_ ?_
 ·
  refine V.seq ?_
  replace hm1 := asrt_some hm1; rcases hm1 with ⟨hh0, hm1⟩
  refine V.region ?_
  refine VO.cons rfl (V1.move rfl rfl rfl lt0 ?_)
  refine VO.cons rfl (V1.lenStr rfl rfl rfl rfl rfl rfl istr_9 lt0 ?_)
  refine VO.cons rfl (V1.int rfl rfl rfl rfl rfl lt0 ?_)
  refine VO.cons rfl (V1.move rfl rfl rfl lt0 ?_)
  apply VO.and (n := 3) rfl rfl rfl rfl rfl rfl lt0 (.none rfl)
  ·
   intro hg0
   refine VO.step (.some rfl rfl rfl) (V1.move rfl rfl rfl lt0 ?_)
   refine VO.step (.some rfl rfl rfl) (V1.indexStrI rfl rfl istr_9 rfl rfl (hh0 hg0) lt0 ?_)
   refine VO.step (.some rfl rfl rfl) (V1.int rfl rfl rfl rfl rfl lt0 ?_)
   exact VO.nil ⟨rfl, rfl, rfl, rfl, .inr ⟨rfl, .inr ⟨rfl, .inr ⟨rfl, .inr ⟨rfl, .inl rfl⟩⟩⟩⟩⟩
  refine VO.nil ?_
  refine V.keep 58 [0, 4, 15] [] (E0 := [(0, .str s), (4, .str s), (15, .bool ((decide ((s.length : Int) > (1 : Int))) && (((s.getD (Int.toNat (0 : Int)) 0).toNat : Int) == (45 : Int))))]) (H0 := []) rfl (⟨_, _, rfl, rfl, _, _, rfl, rfl, _, _, rfl, rfl, rfl⟩) (rfl) rfl ?_
  refine V.cond rfl (fun hc0 => ?_) (fun hc0 => ?_)
  ·
   replace hm1 := cond_t hc0 hm1
   replace hm1 := asrt_some hm1; rcases hm1 with ⟨hh1, hm1⟩
   refine V.region ?_
   refine VO.cons rfl (V1.move rfl rfl rfl lt0 ?_)
   refine VO.cons rfl (V1.sliceStrI (a := (1 : Int)) (b := (s.length : Int)) rfl rfl istr_9 rfl (Bnd.some rfl hh1.1 _) (Bnd.none _ _) hh1 lt0 ?_)
   refine VO.cons rfl (V1.assign rfl rfl rfl lt0 ?_)
   refine VO.nil ?_
   exact ⟨((slc s (1 : Int) (s.length : Int)), ()), Option.some.inj hm1, Keeps.mk (ks := []) rfl ⟨rfl, rfl, trivial⟩ (rfl) rfl⟩
  ·
   replace hm1 := cond_f hc0 hm1
   refine V.skip ?_
   exact ⟨(s, ()), Option.some.inj hm1, Keeps.mk (ks := []) rfl ⟨rfl, rfl, trivial⟩ (rfl) rfl⟩
 ·
  rintro ⟨t_, _⟩ rfl
  try dsimp only at hm0
  refine V.seq ?_
  refine V.seq ?_
  replace hm0 := bindO hm0; rcases hm0 with ⟨y0, hh2, hm0⟩
  refine V.region ?_
  refine VO.cons rfl (V1.move rfl rfl rfl lt0 ?_)
  refine VO.cons rfl (V1.lenStr rfl rfl rfl rfl rfl rfl istr_9 lt0 ?_)
  refine VO.cons rfl (V1.call rfl rfl rfl cok_40 rfl (ok_spec_l1In hh2) rfl lt0 ?_)
  rintro _ _ ⟨rfl, rfl⟩
  refine VO.cons rfl (V1.not rfl rfl rfl lt0 ?_)
  refine VO.nil ?_
  refine V.cond rfl (fun hc1 => ?_) (fun hc1 => ?_)
  ·
   replace hm0 := cond_t hc1 hm0
   refine V.seq ?_
   refine V.region ?_
   refine VO.cons rfl (V1.assign rfl rfl rfl lt0 ?_)
   refine VO.cons rfl (V1.assign rfl rfl rfl lt0 ?_)
   refine VO.nil ?_
   refine V.ret ?_
   obtain rfl := Option.some.inj hm0
   exact ⟨_, [], ⟨_, _, rfl, rfl, _, _, rfl, rfl, rfl⟩, List.nil_sublist _, rfl, rfl⟩
  ·
   replace hm0 := cond_f hc1 hm0
   refine V.skip ?_
   refine V.keep 58 [0, 4] [] (E0 := [(0, .str s), (4, .str t_)]) (H0 := []) rfl (⟨_, _, rfl, rfl, _, _, rfl, rfl, rfl⟩) (rfl) rfl ?_
   refine V.seq ?_
   refine V.region ?_
   refine VO.cons rfl (V1.assign rfl rfl rfl lt0 ?_)
   refine VO.nil ?_
   refine V.seq ?_
   refine V.seq ?_
   refine V.region ?_
   refine VO.cons rfl (V1.assign rfl rfl rfl lt0 ?_)
   refine VO.nil ?_
   replace hm0 := bindO hm0; rcases hm0 with ⟨e0, he1, hm0⟩
   refine V.cutT (D := (Int) × (Unit)) (fun ⟨n_, _⟩ => ⟨58, [(5, .int .i64 n_), (0, .str s), (4, .str t_)], []⟩) (fun ⟨n_, _⟩ => (.inl n_ = e0)) ?_ ?_
   ·
    refine V.block ?_
    refine V.keep 58 [5, 6, 0, 4] [] (E0 := [(5, .int .i64 (0 : Int)), (6, .int .i64 (0 : Int)), (0, .str s), (4, .str t_)]) (H0 := []) rfl (⟨_, _, rfl, rfl, _, _, rfl, rfl, _, _, rfl, rfl, _, _, rfl, rfl, rfl⟩) (rfl) rfl ?_
    refine V.loopE (D := Nat × (Int × Int) × (Unit)) (fun ⟨n0, ⟨n_0, i⟩, _⟩ => [(5, .int .i64 n_0), (6, .int .i64 i)]) (fun ⟨n0, ⟨n_0, i⟩, _⟩ => []) (fun ⟨n0, ⟨n_0, i⟩, _⟩ => loopO (M.spec_l1Read_l0 t_) n0 (n_0, i) = some e0) (fun ⟨n0, _, _⟩ => n0) (rounds, ((0 : Int), (0 : Int)), ()) rfl he1 ?_
    rintro ⟨n0, ⟨n_0, i⟩, _⟩ hP0
    obtain ⟨m0, y1, rfl, hm1, hl1, hr1⟩ := loop_head hP0
    unfold M.spec_l1Read_l0 at hm1; dsimp only at hm1
    show V _ _ _ ⟨58, [(5, .int .i64 n_0), (6, .int .i64 i), (0, .str s), (4, .str t_)], []⟩
    refine V.seq ?_
    refine V.seq ?_
    refine V.region ?_
    refine VO.cons rfl (V1.move rfl rfl rfl lt0 ?_)
    refine VO.cons rfl (V1.move rfl rfl rfl lt0 ?_)
    refine VO.cons rfl (V1.lenStr rfl rfl rfl rfl rfl rfl istr_9 lt0 ?_)
    refine VO.cons rfl (V1.int rfl rfl rfl rfl rfl lt0 ?_)
    refine VO.nil ?_
    refine V.cond rfl (fun hc2 => ?_) (fun hc2 => ?_)
    ·
     replace hm1 := cond_t hc2 hm1
     refine V.skip ?_
     refine V.keep 58 [0, 4, 5, 6] [] (E0 := [(0, .str s), (4, .str t_), (5, .int .i64 n_0), (6, .int .i64 i)]) (H0 := []) rfl (⟨_, _, rfl, rfl, _, _, rfl, rfl, _, _, rfl, rfl, _, _, rfl, rfl, rfl⟩) (rfl) rfl ?_
     refine V.seq ?_
     refine V.block ?_
     refine V.seq ?_
     refine V.seq ?_
     replace hm1 := asrt_some hm1; rcases hm1 with ⟨hh3, hm1⟩
     replace hm1 := asrt_some hm1; rcases hm1 with ⟨hh4, hm1⟩
     refine V.region ?_
     refine VO.cons rfl (V1.move rfl rfl rfl lt0 ?_)
     refine VO.cons rfl (V1.move rfl rfl rfl lt0 ?_)
     refine VO.cons rfl (V1.indexStrI rfl rfl istr_9 rfl rfl hh3 lt0 ?_)
     refine VO.cons rfl (V1.int rfl rfl rfl rfl rfl lt0 ?_)
     refine VO.cons rfl (V1.move rfl rfl rfl lt0 ?_)
     apply VO.or (n := 4) rfl rfl rfl rfl rfl rfl lt0 (.none rfl)
     ·
      intro hg1
      refine VO.step (.some rfl rfl rfl) (V1.move rfl rfl rfl lt0 ?_)
      refine VO.step (.some rfl rfl rfl) (V1.move rfl rfl rfl lt0 ?_)
      refine VO.step (.some rfl rfl rfl) (V1.indexStrI rfl rfl istr_9 rfl rfl (hh4 hg1) lt0 ?_)
      refine VO.step (.some rfl rfl rfl) (V1.int rfl rfl rfl rfl rfl lt0 ?_)
      exact VO.nil ⟨rfl, rfl, rfl, rfl, .inr ⟨rfl, .inr ⟨rfl, .inr ⟨rfl, .inr ⟨rfl, .inr ⟨rfl, .inl rfl⟩⟩⟩⟩⟩⟩
     refine VO.nil ?_
     refine V.keep 58 [0, 4, 5, 6, 37] [] (E0 := [(0, .str s), (4, .str t_), (5, .int .i64 n_0), (6, .int .i64 i), (37, .bool ((decide (((t_.getD (Int.toNat i) 0).toNat : Int) < (48 : Int))) || (decide (((t_.getD (Int.toNat i) 0).toNat : Int) > (57 : Int)))))]) (H0 := []) rfl (⟨_, _, rfl, rfl, _, _, rfl, rfl, _, _, rfl, rfl, _, _, rfl, rfl, _, _, rfl, rfl, rfl⟩) (rfl) rfl ?_
     refine V.cond rfl (fun hc3 => ?_) (fun hc3 => ?_)
     ·
      replace hm1 := cond_t hc3 hm1
      refine V.seq ?_
      refine V.region ?_
      refine VO.cons rfl (V1.assign rfl rfl rfl lt0 ?_)
      refine VO.cons rfl (V1.assign rfl rfl rfl lt0 ?_)
      refine VO.nil ?_
      refine V.ret ?_
      obtain rfl := hr1 _ (Option.some.inj hm1).symm
      change some _ = some _ at hm0
      obtain rfl := Option.some.inj hm0
      exact ⟨_, [], ⟨_, _, rfl, rfl, _, _, rfl, rfl, rfl⟩, List.nil_sublist _, rfl, rfl⟩
     ·
      replace hm1 := cond_f hc3 hm1
      refine V.skip ?_
      replace hm1 := asrt_some hm1; rcases hm1 with ⟨hh5, hm1⟩
      refine V.region ?_
      refine VO.cons rfl (V1.move rfl rfl rfl lt0 ?_)
      refine VO.cons rfl (V1.int rfl rfl rfl rfl rfl lt0 ?_)
      refine VO.cons rfl (V1.move rfl rfl rfl lt0 ?_)
      refine VO.cons rfl (V1.move rfl rfl rfl lt0 ?_)
      refine VO.cons rfl (V1.indexStrI rfl rfl istr_9 rfl rfl hh5 lt0 ?_)
      refine VO.cons rfl (V1.int rfl rfl rfl rfl rfl lt0 ?_)
      refine VO.cons rfl (V1.conv rfl rfl und_5 und_3 rfl lt0 ?_)
      refine VO.cons rfl (V1.int rfl rfl rfl rfl rfl lt0 ?_)
      refine VO.cons rfl (V1.assign rfl rfl rfl lt0 ?_)
      refine VO.nil ?_
      refine V.keep 58 [0, 4, 5, 6] [] (E0 := [(0, .str s), (4, .str t_), (5, .int .i64 (IntKind.i64.wrap ((IntKind.i64.wrap ((10 : Int) * n_0)) + (IntKind.i64.wrap (IntKind.u8.wrap (((t_.getD (Int.toNat i) 0).toNat : Int) - (48 : Int))))))), (6, .int .i64 i)]) (H0 := []) rfl (⟨_, _, rfl, rfl, _, _, rfl, rfl, _, _, rfl, rfl, _, _, rfl, rfl, rfl⟩) (rfl) rfl ?_
      refine V.region ?_
      refine VO.cons rfl (V1.move rfl rfl rfl lt0 ?_)
      refine VO.cons rfl (V1.int rfl rfl rfl rfl rfl lt0 ?_)
      refine VO.cons rfl (V1.assign rfl rfl rfl lt0 ?_)
      refine VO.nil ?_
      exact ⟨(m0, ((IntKind.i64.wrap ((IntKind.i64.wrap ((10 : Int) * n_0)) + (IntKind.i64.wrap (IntKind.u8.wrap (((t_.getD (Int.toNat i) 0).toNat : Int) - (48 : Int)))))), (IntKind.i64.wrap (i + (1 : Int)))), ()), hl1 _ (Option.some.inj hm1).symm, Nat.lt_succ_self _, Keeps.mk (ks := []) rfl ⟨rfl, rfl, rfl, rfl, trivial⟩ (rfl) rfl⟩
    ·
     replace hm1 := cond_f hc2 hm1
     refine V.exit ?_
     obtain rfl := hr1 _ (Option.some.inj hm1).symm
     exact ⟨(n_0, ()), rfl, Keeps.mk (ks := []) rfl ⟨rfl, rfl, rfl, trivial⟩ (rfl) rfl⟩
   ·
    rintro ⟨n_, _⟩ rfl
    try dsimp only at hm0
    refine V.seq ?_
    replace hm0 := bindO hm0; rcases hm0 with ⟨j1, hm1, hm0⟩
    refine V.cutT (D := (Int) × (Unit)) (fun ⟨n_1, _⟩ => ⟨58, [(5, .int .i64 n_1), (0, .str s)], []⟩) (fun ⟨n_1, _⟩ => (n_1 = j1)) ?_ ?_
    ·
     refine V.seq ?_
     refine V.region ?_
     refine VO.cons rfl (V1.move rfl rfl rfl lt0 ?_)
     refine VO.cons rfl (V1.lenStr rfl rfl rfl rfl rfl rfl istr_9 lt0 ?_)
     refine VO.cons rfl (V1.move rfl rfl rfl lt0 ?_)
     refine VO.cons rfl (V1.lenStr rfl rfl rfl rfl rfl rfl istr_9 lt0 ?_)
     refine VO.cons rfl (V1.int rfl rfl rfl rfl rfl lt0 ?_)
     refine VO.nil ?_
     refine V.keep 58 [0, 5, 50] [] (E0 := [(0, .str s), (5, .int .i64 n_), (50, .bool (decide ((t_.length : Int) < (s.length : Int))))]) (H0 := []) rfl (⟨_, _, rfl, rfl, _, _, rfl, rfl, _, _, rfl, rfl, rfl⟩) (rfl) rfl ?_
     refine V.cond rfl (fun hc4 => ?_) (fun hc4 => ?_)
     ·
      replace hm1 := cond_t hc4 hm1
      refine V.region ?_
      refine VO.cons rfl (V1.move rfl rfl rfl lt0 ?_)
      refine VO.cons rfl (V1.neg rfl rfl rfl lt0 ?_)
      refine VO.cons rfl (V1.assign rfl rfl rfl lt0 ?_)
      refine VO.nil ?_
      exact ⟨((IntKind.i64.wrap (0 - n_)), ()), Option.some.inj hm1, Keeps.mk (ks := []) rfl ⟨rfl, rfl, trivial⟩ (rfl) rfl⟩
     ·
      replace hm1 := cond_f hc4 hm1
      refine V.skip ?_
      exact ⟨(n_, ()), Option.some.inj hm1, Keeps.mk (ks := []) rfl ⟨rfl, rfl, trivial⟩ (rfl) rfl⟩
    ·
     rintro ⟨n_1, _⟩ rfl
     try dsimp only at hm0
     refine V.seq ?_
     refine V.seq ?_
     replace hm0 := bindO hm0; rcases hm0 with ⟨y2, hh6, hm0⟩
     refine V.region ?_
     refine VO.cons rfl (V1.move rfl rfl rfl lt0 ?_)
     refine VO.cons rfl (V1.call rfl rfl rfl cok_54 rfl (ok_spec_l1Num hh6) rfl lt0 ?_)
     rintro _ _ ⟨rfl, rfl⟩
     refine VO.cons rfl (V1.move rfl rfl rfl lt0 ?_)
     refine VO.cons rfl (V1.str rfl rfl rfl rfl rfl lt0 ?_)
     refine VO.nil ?_
     refine V.keep 58 [5, 56] [] (E0 := [(5, .int .i64 n_1), (56, .bool (!(y2 == s)))]) (H0 := []) rfl (⟨_, _, rfl, rfl, _, _, rfl, rfl, rfl⟩) (rfl) rfl ?_
     refine V.cond rfl (fun hc5 => ?_) (fun hc5 => ?_)
     ·
      replace hm0 := cond_t hc5 hm0
      refine V.seq ?_
      refine V.region ?_
      refine VO.cons rfl (V1.assign rfl rfl rfl lt0 ?_)
      refine VO.cons rfl (V1.assign rfl rfl rfl lt0 ?_)
      refine VO.nil ?_
      refine V.ret ?_
      obtain rfl := Option.some.inj hm0
      exact ⟨_, [], ⟨_, _, rfl, rfl, _, _, rfl, rfl, rfl⟩, List.nil_sublist _, rfl, rfl⟩
     ·
      replace hm0 := cond_f hc5 hm0
      refine V.skip ?_
      refine V.seq ?_
      refine V.region ?_
      refine VO.cons rfl (V1.move rfl rfl rfl lt0 ?_)
      refine VO.cons rfl (V1.assign rfl rfl rfl lt0 ?_)
      refine VO.cons rfl (V1.assign rfl rfl rfl lt0 ?_)
      refine VO.nil ?_
      refine V.ret ?_
      obtain rfl := Option.some.inj hm0
      exact ⟨_, [], ⟨_, _, rfl, rfl, _, _, rfl, rfl, rfl⟩, List.nil_sublist _, rfl, rfl⟩

theorem ok_spec_l4Read {rn : Nat} {word : List UInt8} {r : Rule} (h : M.spec_l4Read word = some r) : Does Tryz.prog 34 [.str word] [] rn (fun x H => x = encRule r ∧ H = []) := by
 have hm0 := h; clear h; unfold M.spec_l4Read at hm0
 try dsimp only at hm0
 refine Does.intro (N := 69) Tryz.func34 rfl rfl rfl rfl ?_
 intro w0 S0 L0
 refine V.seq ?_
 refine V.region ?_
 refine VO.cons rfl (V1.alloc rfl rfl zk_50 lt0 ?_)
 intro b0
 refine VO.nil ?_
 refine V.seq ?_
 refine V.region ?_
 refine VO.cons rfl (V1.build rfl rfl zk_50 pl_50 rfl rfl lt0 ?_)
 refine VO.cons rfl (V1.move rfl rfl rfl lt0 ?_)
 refine VO.cons rfl (V1.lenStr rfl rfl rfl rfl rfl rfl istr_9 lt0 ?_)
 refine VO.cons rfl (V1.alloc rfl rfl zk_50 lt0 ?_)
 intro b1
 refine VO.cons rfl (V1.storeRefAll (k := 0) rfl rfl tyk_50 rfl rfl rfl rfl rfl rfl ?_)
 refine VO.cons rfl (V1.assign rfl rfl rfl lt0 ?_)
 refine VO.nil ?_
 refine V.seq ?_
 refine V.seq ?_
 refine V.region ?_
 refine VO.cons rfl (V1.move rfl rfl rfl lt0 ?_)
 refine VO.cons rfl (V1.int rfl rfl rfl rfl rfl lt0 ?_)
 refine VO.nil ?_
 refine V.keep 69 [0, 2, 3, 4, 11] [0, 1] (E0 := [(0, .str word), (2, .ref b0 4 0 0), (3, .ref b1 4 0 0), (4, .int .i64 (word.length : Int)), (11, .bool ((word.length : Int) == (0 : Int)))]) (H0 := [(b1, ⟨4, [.agg [.int .i64 (0 : Int), .int .i64 (0 : Int), .int .i64 (0 : Int), .int .i64 (0 : Int)]]⟩), (b0, ⟨4, [.agg [.int .i64 (0 : Int), .int .i64 (0 : Int), .int .i64 (0 : Int), .int .i64 (0 : Int)]]⟩)]) rfl (⟨_, _, rfl, rfl, _, _, rfl, rfl, _, _, rfl, rfl, _, _, rfl, rfl, _, _, rfl, rfl, rfl⟩) (⟨_, _, rfl, rfl, _, _, rfl, rfl, rfl⟩) rfl ?_
 refine V.cond rfl (fun hc0 => ?_) (fun hc0 => ?_)
 ·
  replace hm0 := cond_t hc0 hm0
  refine V.seq ?_
  refine V.region ?_
  refine VO.cons rfl (V1.loadRefAll (k := 0) rfl rfl tyk_50 rfl rfl rfl rfl rfl lt0 ?_)
  refine VO.cons rfl (V1.storeRefAll (k := 1) rfl rfl tyk_50 rfl rfl rfl rfl rfl rfl ?_)
  refine VO.nil ?_
  refine V.ret ?_
  obtain rfl := Option.some.inj hm0
  exact ⟨_, [], ⟨_, _, rfl, ⟨_, _, 1, _, rfl, rfl, rfl, rfl, tyk_50, rfl⟩, rfl⟩, List.nil_sublist _, rfl, rfl⟩
 ·
  replace hm0 := cond_f hc0 hm0
  refine V.skip ?_
  refine V.seq ?_
  replace hm0 := bindO hm0; rcases hm0 with ⟨j0, hm1, hm0⟩
  refine V.cutT (D := (Rule) × (Unit)) (fun ⟨r_, _⟩ => ⟨69, [(0, .str word), (2, .ref b0 4 0 0), (3, .ref b1 4 0 0), (4, .int .i64 (word.length : Int))], [(b1, ⟨4, [encRule r_]⟩), (b0, ⟨4, [.agg [.int .i64 (0 : Int), .int .i64 (0 : Int), .int .i64 (0 : Int), .int .i64 (0 : Int)]]⟩)]⟩) (fun ⟨r_, _⟩ => (r_ = j0)) ?_ ?_
  ·
   refine V.seq ?_
   replace hm1 := asrt_some hm1; rcases hm1 with ⟨hh0, hm1⟩
   refine V.region ?_
   refine VO.cons rfl (V1.move rfl rfl rfl lt0 ?_)
   refine VO.cons rfl (V1.move rfl rfl rfl lt0 ?_)
   refine VO.cons rfl (V1.int rfl rfl rfl rfl rfl lt0 ?_)
   refine VO.cons rfl (V1.indexStrI rfl rfl istr_9 rfl rfl hh0 lt0 ?_)
   refine VO.nil ?_
   refine V.keep 69 [0, 2, 3, 4, 16] [0, 1] (E0 := [(0, .str word), (2, .ref b0 4 0 0), (3, .ref b1 4 0 0), (4, .int .i64 (word.length : Int)), (16, .int .u8 ((word.getD (Int.toNat (IntKind.i64.wrap ((word.length : Int) - (1 : Int)))) 0).toNat : Int))]) (H0 := [(b1, ⟨4, [.agg [.int .i64 (0 : Int), .int .i64 (0 : Int), .int .i64 (0 : Int), .int .i64 (0 : Int)]]⟩), (b0, ⟨4, [.agg [.int .i64 (0 : Int), .int .i64 (0 : Int), .int .i64 (0 : Int), .int .i64 (0 : Int)]]⟩)]) rfl (⟨_, _, rfl, rfl, _, _, rfl, rfl, _, _, rfl, rfl, _, _, rfl, rfl, _, _, rfl, rfl, rfl⟩) (⟨_, _, rfl, rfl, _, _, rfl, rfl, rfl⟩) rfl ?_
   replace hm1 := bindO hm1; rcases hm1 with ⟨j1, hm2, hm1⟩
   refine V.cutT (D := (Rule) × (Unit)) (fun ⟨r_0, _⟩ => ⟨69, [(0, .str word), (2, .ref b0 4 0 0), (3, .ref b1 4 0 0), (4, .int .i64 (word.length : Int))], [(b1, ⟨4, [encRule r_0]⟩), (b0, ⟨4, [.agg [.int .i64 (0 : Int), .int .i64 (0 : Int), .int .i64 (0 : Int), .int .i64 (0 : Int)]]⟩)]⟩) (fun ⟨r_0, _⟩ => (r_0 = j1)) ?_ ?_
   ·
    refine V.block ?_
    refine V.seq ?_
    refine V.region ?_
    refine VO.cons rfl (V1.int rfl rfl rfl rfl rfl lt0 ?_)
    refine VO.cons rfl (V1.assign rfl rfl rfl lt0 ?_)
    refine VO.nil ?_
    refine V.cond rfl (fun hc1 => ?_) (fun hc1 => ?_)
    ·
     replace hm2 := cond_t hc1 hm2
     refine V.region ?_
     refine VO.cons rfl (V1.fieldRef rfl rfl fo_50_3 rfl lt0 ?_)
     refine VO.cons rfl (V1.storeRef (k := 0) rfl rfl tyk_3 rfl rfl rfl rfl rfl rfl rfl rfl rfl ?_)
     refine VO.nil ?_
     exact ⟨((⟨(0 : Int), (0 : Int), (0 : Int), (1 : Int)⟩ : Rule), ()), Option.some.inj hm2, Keeps.mk (ks := [0, 1]) rfl ⟨rfl, rfl, rfl, rfl, trivial⟩ (⟨_, _, rfl, rfl, _, _, rfl, rfl, rfl⟩) rfl⟩
    ·
     replace hm2 := cond_f hc1 hm2
     refine V.seq ?_
     refine V.region ?_
     refine VO.cons rfl (V1.int rfl rfl rfl rfl rfl lt0 ?_)
     refine VO.cons rfl (V1.assign rfl rfl rfl lt0 ?_)
     refine VO.nil ?_
     refine V.cond rfl (fun hc2 => ?_) (fun hc2 => ?_)
     ·
      replace hm2 := cond_t hc2 hm2
      refine V.region ?_
      refine VO.cons rfl (V1.fieldRef rfl rfl fo_50_3 rfl lt0 ?_)
      refine VO.cons rfl (V1.storeRef (k := 0) rfl rfl tyk_3 rfl rfl rfl rfl rfl rfl rfl rfl rfl ?_)
      refine VO.nil ?_
      exact ⟨((⟨(0 : Int), (0 : Int), (0 : Int), (2 : Int)⟩ : Rule), ()), Option.some.inj hm2, Keeps.mk (ks := [0, 1]) rfl ⟨rfl, rfl, rfl, rfl, trivial⟩ (⟨_, _, rfl, rfl, _, _, rfl, rfl, rfl⟩) rfl⟩
     ·
      replace hm2 := cond_f hc2 hm2
      refine V.seq ?_
      refine V.region ?_
      refine VO.cons rfl (V1.int rfl rfl rfl rfl rfl lt0 ?_)
      refine VO.cons rfl (V1.assign rfl rfl rfl lt0 ?_)
      refine VO.nil ?_
      refine V.keep 69 [0, 2, 3, 4, 23] [0, 1] (E0 := [(0, .str word), (2, .ref b0 4 0 0), (3, .ref b1 4 0 0), (4, .int .i64 (word.length : Int)), (23, .bool (((word.getD (Int.toNat (IntKind.i64.wrap ((word.length : Int) - (1 : Int)))) 0).toNat : Int) == (100 : Int)))]) (H0 := [(b1, ⟨4, [.agg [.int .i64 (0 : Int), .int .i64 (0 : Int), .int .i64 (0 : Int), .int .i64 (0 : Int)]]⟩), (b0, ⟨4, [.agg [.int .i64 (0 : Int), .int .i64 (0 : Int), .int .i64 (0 : Int), .int .i64 (0 : Int)]]⟩)]) rfl (⟨_, _, rfl, rfl, _, _, rfl, rfl, _, _, rfl, rfl, _, _, rfl, rfl, _, _, rfl, rfl, rfl⟩) (⟨_, _, rfl, rfl, _, _, rfl, rfl, rfl⟩) rfl ?_
      refine V.cond rfl (fun hc3 => ?_) (fun hc3 => ?_)
      ·
       replace hm2 := cond_t hc3 hm2
       refine V.region ?_
       refine VO.cons rfl (V1.fieldRef rfl rfl fo_50_3 rfl lt0 ?_)
       refine VO.cons rfl (V1.storeRef (k := 0) rfl rfl tyk_3 rfl rfl rfl rfl rfl rfl rfl rfl rfl ?_)
       refine VO.nil ?_
       exact ⟨((⟨(0 : Int), (0 : Int), (0 : Int), (3 : Int)⟩ : Rule), ()), Option.some.inj hm2, Keeps.mk (ks := [0, 1]) rfl ⟨rfl, rfl, rfl, rfl, trivial⟩ (⟨_, _, rfl, rfl, _, _, rfl, rfl, rfl⟩) rfl⟩
      ·
       replace hm2 := cond_f hc3 hm2
       refine V.skip ?_
       exact ⟨((⟨(0 : Int), (0 : Int), (0 : Int), (0 : Int)⟩ : Rule), ()), Option.some.inj hm2, Keeps.mk (ks := [0, 1]) rfl ⟨rfl, rfl, rfl, rfl, trivial⟩ (⟨_, _, rfl, rfl, _, _, rfl, rfl, rfl⟩) rfl⟩
   ·
    rintro ⟨r_0, _⟩ rfl
    try dsimp only at hm1
    exact ⟨(r_0, ()), Option.some.inj hm1, Keeps.mk (ks := [0, 1]) rfl ⟨rfl, rfl, rfl, rfl, trivial⟩ (⟨_, _, rfl, rfl, _, _, rfl, rfl, rfl⟩) rfl⟩
  ·
   rintro ⟨r_, _⟩ rfl
   try dsimp only at hm0
   refine V.seq ?_
   replace hm0 := asrt_some hm0; rcases hm0 with ⟨hh1, hm0⟩
   replace hm0 := bindO hm0; rcases hm0 with ⟨y0, hh2, hm0⟩
   refine V.region ?_
   refine VO.cons rfl (V1.move rfl rfl rfl lt0 ?_)
   refine VO.cons rfl (V1.move rfl rfl rfl lt0 ?_)
   refine VO.cons rfl (V1.int rfl rfl rfl rfl rfl lt0 ?_)
   refine VO.cons rfl (V1.sliceStrI (a := (0 : Int)) (b := (IntKind.i64.wrap ((word.length : Int) - (1 : Int)))) rfl rfl istr_9 rfl (Bnd.none _ _) (Bnd.some rfl (Int.le_trans hh1.1 hh1.2.1) _) hh1 lt0 ?_)
   refine VO.cons rfl (V1.call rfl rfl rfl cok_33 rfl (ok_spec_l1Split hh2) rfl lt0 ?_)
   rintro _ _ ⟨b2, rfl, rfl⟩
   refine VO.weakenK (Keeps.freezeG 0 rn [(30, .vl rn 1 (List.map encStr y0))] ([(b1, ⟨4, [encRule r_]⟩), (b0, ⟨4, [.agg [.int .i64 (0 : Int), .int .i64 (0 : Int), .int .i64 (0 : Int), .int .i64 (0 : Int)]]⟩)]) (f := encStr) (l := y0) rfl (fun _ => rfl) ⟨⟨_, rfl, .here⟩, trivial⟩ ⟨_, _, rfl, rfl, .inl rfl, ⟨_, _, rfl, rfl, .inl rfl, rfl⟩⟩ rfl iNil) ?_
   refine VO.cons rfl (V1.assign rfl rfl rfl lt0 ?_)
   refine VO.nil ?_
   refine V.keep 69 [2, 3, 5] [0, 1] (E0 := [(2, .ref b0 4 0 0), (3, .ref b1 4 0 0), (5, .vl rn 1 (List.map encStr y0))]) (H0 := [(b1, ⟨4, [encRule r_]⟩), (b0, ⟨4, [.agg [.int .i64 (0 : Int), .int .i64 (0 : Int), .int .i64 (0 : Int), .int .i64 (0 : Int)]]⟩)]) rfl (⟨_, _, rfl, rfl, _, _, rfl, rfl, _, _, rfl, rfl, rfl⟩) (⟨_, _, rfl, rfl, _, _, rfl, rfl, rfl⟩) rfl ?_
   refine V.seq ?_
   replace hm0 := asrt_some hm0; rcases hm0 with ⟨hh3, hm0⟩
   replace hm0 := bindO hm0; rcases hm0 with ⟨y1, hh4, hm0⟩
   refine V.region ?_
   refine VO.cons rfl (V1.move rfl rfl rfl lt0 ?_)
   refine VO.cons rfl (V1.indexI rfl rfl esz_59 rfl rfl hh3 lt0 ?_)
   refine VO.cons rfl (V1.loadPin rfl rfl tyk_9 rfl rfl lt0 ?_)
   refine VO.cons rfl (V1.call rfl rfl rfl cok_33 rfl (ok_spec_l1Split hh4) rfl lt0 ?_)
   rintro _ _ ⟨b3, rfl, rfl⟩
   refine VO.weakenK (Keeps.freezeG 0 rn [(34, .vl rn 1 (List.map encStr y1))] ([(b1, ⟨4, [encRule r_]⟩), (b0, ⟨4, [.agg [.int .i64 (0 : Int), .int .i64 (0 : Int), .int .i64 (0 : Int), .int .i64 (0 : Int)]]⟩)]) (f := encStr) (l := y1) rfl (fun _ => rfl) ⟨⟨_, rfl, .here⟩, trivial⟩ ⟨_, _, rfl, rfl, .inl rfl, ⟨_, _, rfl, rfl, .inl rfl, rfl⟩⟩ rfl iNil) ?_
   refine VO.cons rfl (V1.assign rfl rfl rfl lt0 ?_)
   refine VO.nil ?_
   refine V.keep 69 [2, 3, 5, 6] [0, 1] (E0 := [(2, .ref b0 4 0 0), (3, .ref b1 4 0 0), (5, .vl rn 1 (List.map encStr y0)), (6, .vl rn 1 (List.map encStr y1))]) (H0 := [(b1, ⟨4, [encRule r_]⟩), (b0, ⟨4, [.agg [.int .i64 (0 : Int), .int .i64 (0 : Int), .int .i64 (0 : Int), .int .i64 (0 : Int)]]⟩)]) rfl (⟨_, _, rfl, rfl, _, _, rfl, rfl, _, _, rfl, rfl, _, _, rfl, rfl, rfl⟩) (⟨_, _, rfl, rfl, _, _, rfl, rfl, rfl⟩) rfl ?_
   refine V.seq ?_
   refine V.seq ?_
   refine V.region ?_
   refine VO.cons rfl (V1.move rfl rfl rfl lt0 ?_)
   refine VO.cons rfl (V1.lenMap rfl rfl rfl rfl rfl rfl isl_59 lt0 ?_)
   refine VO.cons rfl (V1.int rfl rfl rfl rfl rfl lt0 ?_)
   refine VO.cons rfl (V1.move rfl rfl rfl lt0 ?_)
   apply VO.or (n := 3) rfl rfl rfl rfl rfl rfl lt0 (.none rfl)
   ·
    intro hg0
    refine VO.step (.some rfl rfl rfl) (V1.move rfl rfl rfl lt0 ?_)
    refine VO.step (.some rfl rfl rfl) (V1.lenMap rfl rfl rfl rfl rfl rfl isl_59 lt0 ?_)
    refine VO.step (.some rfl rfl rfl) (V1.int rfl rfl rfl rfl rfl lt0 ?_)
    exact VO.nil ⟨rfl, rfl, rfl, rfl, .inr ⟨rfl, .inr ⟨rfl, .inr ⟨rfl, .inr ⟨rfl, .inl rfl⟩⟩⟩⟩⟩
   refine VO.nil ?_
   refine V.keep 69 [2, 3, 5, 6, 42] [0, 1] (E0 := [(2, .ref b0 4 0 0), (3, .ref b1 4 0 0), (5, .vl rn 1 (List.map encStr y0)), (6, .vl rn 1 (List.map encStr y1)), (42, .bool (((y0.length : Int) != (2 : Int)) || ((y1.length : Int) != (2 : Int))))]) (H0 := [(b1, ⟨4, [encRule r_]⟩), (b0, ⟨4, [.agg [.int .i64 (0 : Int), .int .i64 (0 : Int), .int .i64 (0 : Int), .int .i64 (0 : Int)]]⟩)]) rfl (⟨_, _, rfl, rfl, _, _, rfl, rfl, _, _, rfl, rfl, _, _, rfl, rfl, _, _, rfl, rfl, rfl⟩) (⟨_, _, rfl, rfl, _, _, rfl, rfl, rfl⟩) rfl ?_
   refine V.cond rfl (fun hc4 => ?_) (fun hc4 => ?_)
   ·
    replace hm0 := cond_t hc4 hm0
    refine V.seq ?_
    refine V.region ?_
    refine VO.cons rfl (V1.build rfl rfl zk_50 pl_50 rfl rfl lt0 ?_)
    refine VO.cons rfl (V1.storeRefAll (k := 1) rfl rfl tyk_50 rfl rfl rfl rfl rfl rfl ?_)
    refine VO.nil ?_
    refine V.ret ?_
    obtain rfl := Option.some.inj hm0
    exact ⟨_, [], ⟨_, _, rfl, ⟨_, _, 1, _, rfl, rfl, rfl, rfl, tyk_50, rfl⟩, rfl⟩, List.nil_sublist _, rfl, rfl⟩
   ·
    replace hm0 := cond_f hc4 hm0
    refine V.skip ?_
    refine V.seq ?_
    replace hm0 := asrt_some hm0; rcases hm0 with ⟨hh5, hm0⟩
    replace hm0 := bindO hm0; rcases hm0 with ⟨y2, hh6, hm0⟩
    refine V.region ?_
    refine VO.cons rfl (V1.move rfl rfl rfl lt0 ?_)
    refine VO.cons rfl (V1.indexI rfl rfl esz_59 rfl rfl hh5 lt0 ?_)
    refine VO.cons rfl (V1.loadPin rfl rfl tyk_9 rfl rfl lt0 ?_)
    refine VO.cons rfl (V1.call rfl rfl rfl cok_62 rfl (ok_spec_l1Read hh6) rfl lt0 ?_)
    rintro _ _ ⟨rfl, rfl⟩
    refine VO.cons rfl (V1.move rfl rfl rfl lt0 ?_)
    refine VO.cons rfl (V1.extract rfl rfl rfl rfl lt0 ?_)
    refine VO.cons rfl (V1.extract rfl rfl rfl rfl lt0 ?_)
    refine VO.cons rfl (V1.fieldRef rfl rfl fo_50_0 rfl lt0 ?_)
    refine VO.cons rfl (V1.storeRef (k := 0) rfl rfl tyk_3 rfl rfl rfl rfl rfl rfl rfl rfl rfl ?_)
    refine VO.nil ?_
    refine V.keep 69 [2, 3, 5, 6] [0, 1] (E0 := [(2, .ref b0 4 0 0), (3, .ref b1 4 0 0), (5, .vl rn 1 (List.map encStr y0)), (6, .vl rn 1 (List.map encStr y1))]) (H0 := [(b1, ⟨4, [.agg [.int .i64 y2.1, .int .i64 r_.Event, .int .i64 r_.Days, .int .i64 r_.Act]]⟩), (b0, ⟨4, [.agg [.int .i64 (0 : Int), .int .i64 (0 : Int), .int .i64 (0 : Int), .int .i64 (0 : Int)]]⟩)]) rfl (⟨_, _, rfl, rfl, _, _, rfl, rfl, _, _, rfl, rfl, _, _, rfl, rfl, rfl⟩) (⟨_, _, rfl, rfl, _, _, rfl, rfl, rfl⟩) rfl ?_
    refine V.seq ?_
    replace hm0 := asrt_some hm0; rcases hm0 with ⟨hh7, hm0⟩
    replace hm0 := bindO hm0; rcases hm0 with ⟨y3, hh8, hm0⟩
    refine V.region ?_
    refine VO.cons rfl (V1.move rfl rfl rfl lt0 ?_)
    refine VO.cons rfl (V1.indexI rfl rfl esz_59 rfl rfl hh7 lt0 ?_)
    refine VO.cons rfl (V1.loadPin rfl rfl tyk_9 rfl rfl lt0 ?_)
    refine VO.cons rfl (V1.call rfl rfl rfl cok_62 rfl (ok_spec_l1Read hh8) rfl lt0 ?_)
    rintro _ _ ⟨rfl, rfl⟩
    refine VO.cons rfl (V1.move rfl rfl rfl lt0 ?_)
    refine VO.cons rfl (V1.extract rfl rfl rfl rfl lt0 ?_)
    refine VO.cons rfl (V1.extract rfl rfl rfl rfl lt0 ?_)
    refine VO.cons rfl (V1.fieldRef rfl rfl fo_50_1 rfl lt0 ?_)
    refine VO.cons rfl (V1.storeRef (k := 0) rfl rfl tyk_3 rfl rfl rfl rfl rfl rfl rfl rfl rfl ?_)
    refine VO.nil ?_
    refine V.keep 69 [2, 3, 5] [0, 1] (E0 := [(2, .ref b0 4 0 0), (3, .ref b1 4 0 0), (5, .vl rn 1 (List.map encStr y0))]) (H0 := [(b1, ⟨4, [.agg [.int .i64 y2.1, .int .i64 y3.1, .int .i64 r_.Days, .int .i64 r_.Act]]⟩), (b0, ⟨4, [.agg [.int .i64 (0 : Int), .int .i64 (0 : Int), .int .i64 (0 : Int), .int .i64 (0 : Int)]]⟩)]) rfl (⟨_, _, rfl, rfl, _, _, rfl, rfl, _, _, rfl, rfl, rfl⟩) (⟨_, _, rfl, rfl, _, _, rfl, rfl, rfl⟩) rfl ?_
    refine V.seq ?_
    replace hm0 := asrt_some hm0; rcases hm0 with ⟨hh9, hm0⟩
    replace hm0 := bindO hm0; rcases hm0 with ⟨y4, hh10, hm0⟩
    refine V.region ?_
    refine VO.cons rfl (V1.move rfl rfl rfl lt0 ?_)
    refine VO.cons rfl (V1.indexI rfl rfl esz_59 rfl rfl hh9 lt0 ?_)
    refine VO.cons rfl (V1.loadPin rfl rfl tyk_9 rfl rfl lt0 ?_)
    refine VO.cons rfl (V1.call rfl rfl rfl cok_62 rfl (ok_spec_l1Read hh10) rfl lt0 ?_)
    rintro _ _ ⟨rfl, rfl⟩
    refine VO.cons rfl (V1.move rfl rfl rfl lt0 ?_)
    refine VO.cons rfl (V1.extract rfl rfl rfl rfl lt0 ?_)
    refine VO.cons rfl (V1.extract rfl rfl rfl rfl lt0 ?_)
    refine VO.cons rfl (V1.fieldRef rfl rfl fo_50_2 rfl lt0 ?_)
    refine VO.cons rfl (V1.storeRef (k := 0) rfl rfl tyk_3 rfl rfl rfl rfl rfl rfl rfl rfl rfl ?_)
    refine VO.nil ?_
    refine V.keep 69 [2, 3] [0, 1] (E0 := [(2, .ref b0 4 0 0), (3, .ref b1 4 0 0)]) (H0 := [(b1, ⟨4, [.agg [.int .i64 y2.1, .int .i64 y3.1, .int .i64 y4.1, .int .i64 r_.Act]]⟩), (b0, ⟨4, [.agg [.int .i64 (0 : Int), .int .i64 (0 : Int), .int .i64 (0 : Int), .int .i64 (0 : Int)]]⟩)]) rfl (⟨_, _, rfl, rfl, _, _, rfl, rfl, rfl⟩) (⟨_, _, rfl, rfl, _, _, rfl, rfl, rfl⟩) rfl ?_
    refine V.seq ?_
    refine V.region ?_
    refine VO.cons rfl (V1.loadRefAll (k := 0) rfl rfl tyk_50 rfl rfl rfl rfl rfl lt0 ?_)
    refine VO.cons rfl (V1.storeRefAll (k := 1) rfl rfl tyk_50 rfl rfl rfl rfl rfl rfl ?_)
    refine VO.nil ?_
    refine V.ret ?_
    obtain rfl := Option.some.inj hm0
    exact ⟨_, [], ⟨_, _, rfl, ⟨_, _, 1, _, rfl, rfl, rfl, rfl, tyk_50, rfl⟩, rfl⟩, List.nil_sublist _, rfl, rfl⟩

theorem ok_spec_ParseSchedule {rn : Nat} {s : List UInt8} {r : List Rule × Bool} (h : M.spec_ParseSchedule s = some r) : Does Tryz.prog 12 [.str s] [] rn (fun x H => ∃ (ob0_ : Nat), x = .tup [PV.sref ob0_ 4 0 (List.length r.1), .bool r.2] ∧ H = [(ob0_, ⟨4, List.map encRule r.1⟩)]) := by
 have hm0 := h; clear h; unfold M.spec_ParseSchedule at hm0
 try dsimp only at hm0
 refine Does.intro (N := 42) Tryz.func12 rfl rfl rfl rfl ?_
 intro w0 S0 L0
 refine V.seq ?_
 refine V.region ?_
 refine VO.cons rfl (V1.assign rfl rfl rfl lt0 ?_)
 refine VO.cons rfl (V1.assign rfl rfl rfl lt0 ?_)
 refine VO.nil ?_
 refine V.seq ?_
 refine V.region ?_
 refine VO.cons rfl (V1.buildSliceT (f := encRule) ([] : List Rule) rfl rfl esz_24 zk_50 rfl rfl rfl rfl rfl rfl rfl lt0 ?_)
 intro b0
 refine VO.cons rfl (V1.assign rfl rfl rfl lt0 ?_)
 refine VO.nil ?_
 refine V.seq ?_
 refine V.seq ?_
 refine V.region ?_
 refine VO.cons rfl (V1.move rfl rfl rfl lt0 ?_)
 refine VO.cons rfl (V1.str rfl rfl rfl rfl rfl lt0 ?_)
 refine VO.nil ?_
 refine V.keep 42 [0, 4, 9] [0] (E0 := [(0, .str s), (4, .sref b0 4 0 (List.length ([] : List Rule))), (9, .bool (s == ([])))]) (H0 := [(b0, ⟨4, List.map encRule ([] : List Rule)⟩)]) rfl (⟨_, _, rfl, rfl, _, _, rfl, rfl, _, _, rfl, rfl, rfl⟩) (⟨_, _, rfl, rfl, rfl⟩) rfl ?_
 refine V.cond rfl (fun hc0 => ?_) (fun hc0 => ?_)
 ·
  replace hm0 := cond_t hc0 hm0
  refine V.seq ?_
  refine V.region ?_
  refine VO.cons rfl (V1.move rfl rfl rfl lt0 ?_)
  refine VO.cons rfl (V1.assign rfl rfl rfl lt0 ?_)
  refine VO.cons rfl (V1.assign rfl rfl rfl lt0 ?_)
  refine VO.nil ?_
  refine V.keep 42 [2, 3] [0] (E0 := [(2, .sref b0 4 0 (List.length ([] : List Rule))), (3, .bool true)]) (H0 := [(b0, ⟨4, List.map encRule ([] : List Rule)⟩)]) rfl (⟨_, _, rfl, rfl, _, _, rfl, rfl, rfl⟩) (⟨_, _, rfl, rfl, rfl⟩) rfl ?_
  refine V.ret ?_
  obtain rfl := Option.some.inj hm0
  exact ⟨_, _, ⟨_, _, rfl, rfl, _, _, rfl, rfl, rfl⟩, List.Sublist.refl _, b0, rfl, rfl⟩
 ·
  replace hm0 := cond_f hc0 hm0
  refine V.skip ?_
  refine V.seq ?_
  replace hm0 := bindO hm0; rcases hm0 with ⟨y0, hh0, hm0⟩
  refine V.region ?_
  refine VO.cons rfl (V1.move rfl rfl rfl lt0 ?_)
  refine VO.cons rfl (V1.call rfl rfl rfl cok_33 rfl (ok_spec_l1Split hh0) rfl lt0 ?_)
  rintro _ _ ⟨b1, rfl, rfl⟩
  refine VO.weakenK (Keeps.freezeG 0 rn [(12, .vl rn 1 (List.map encStr y0))] ([(b0, ⟨4, List.map encRule ([] : List Rule)⟩)]) (f := encStr) (l := y0) rfl (fun _ => rfl) ⟨⟨_, rfl, .here⟩, trivial⟩ ⟨_, _, rfl, rfl, .inl rfl, rfl⟩ rfl iNil) ?_
  refine VO.cons rfl (V1.assign rfl rfl rfl lt0 ?_)
  refine VO.nil ?_
  refine V.seq ?_
  refine V.seq ?_
  refine V.region ?_
  refine VO.cons rfl (V1.assign rfl rfl rfl lt0 ?_)
  refine VO.nil ?_
  replace hm0 := bindO hm0; rcases hm0 with ⟨e0, he1, hm0⟩
  refine V.cutT (D := (List Rule) × (Nat)) (fun ⟨out_, b2⟩ => ⟨42, [(4, .sref b2 4 0 (List.length out_)), (0, .str s)], [(b2, ⟨4, List.map encRule out_⟩)]⟩) (fun ⟨out_, b2⟩ => (out_ = e0)) ?_ ?_
  ·
   refine V.block ?_
   refine V.keep 42 [4, 6, 0, 5] [0] (E0 := [(4, .sref b0 4 0 (List.length ([] : List Rule))), (6, .int .i64 (0 : Int)), (0, .str s), (5, .vl rn 1 (List.map encStr y0))]) (H0 := [(b0, ⟨4, List.map encRule ([] : List Rule)⟩)]) rfl (⟨_, _, rfl, rfl, _, _, rfl, rfl, _, _, rfl, rfl, _, _, rfl, rfl, rfl⟩) (⟨_, _, rfl, rfl, rfl⟩) rfl ?_
   refine V.loopE (D := Nat × (List Rule × Int) × (Nat)) (fun ⟨n0, ⟨out_0, i⟩, b3⟩ => [(4, .sref b3 4 0 (List.length out_0)), (6, .int .i64 i)]) (fun ⟨n0, ⟨out_0, i⟩, b3⟩ => [(b3, ⟨4, List.map encRule out_0⟩)]) (fun ⟨n0, ⟨out_0, i⟩, b3⟩ => loopO (M.spec_ParseSchedule_l0 y0) n0 (out_0, i) = some e0) (fun ⟨n0, _, _⟩ => n0) (rounds, (([] : List Rule), (0 : Int)), b0) rfl he1 ?_
   rintro ⟨n0, ⟨out_0, i⟩, b3⟩ hP0
   obtain ⟨m0, y1, rfl, hm1, hl1, hr1⟩ := loop_head hP0
   unfold M.spec_ParseSchedule_l0 at hm1; dsimp only at hm1
   show V _ _ _ ⟨42, [(4, .sref b3 4 0 (List.length out_0)), (6, .int .i64 i), (0, .str s), (5, .vl rn 1 (List.map encStr y0))], [(b3, ⟨4, List.map encRule out_0⟩)]⟩
   refine V.seq ?_
   refine V.seq ?_
   refine V.region ?_
   refine VO.cons rfl (V1.move rfl rfl rfl lt0 ?_)
   refine VO.cons rfl (V1.move rfl rfl rfl lt0 ?_)
   refine VO.cons rfl (V1.lenMap rfl rfl rfl rfl rfl rfl isl_59 lt0 ?_)
   refine VO.cons rfl (V1.int rfl rfl rfl rfl rfl lt0 ?_)
   refine VO.cons rfl (V1.move rfl rfl rfl lt0 ?_)
   apply VO.and (n := 2) rfl rfl rfl rfl rfl rfl lt0 (.none rfl)
   ·
    intro hg0
    refine VO.step (.some rfl rfl rfl) (V1.move rfl rfl rfl lt0 ?_)
    refine VO.step (.some rfl rfl rfl) (V1.int rfl rfl rfl rfl rfl lt0 ?_)
    exact VO.nil ⟨rfl, rfl, rfl, rfl, .inr ⟨rfl, .inr ⟨rfl, .inr ⟨rfl, .inl rfl⟩⟩⟩⟩
   refine VO.nil ?_
   refine V.keep 42 [0, 4, 5, 6, 20] [0] (E0 := [(0, .str s), (4, .sref b3 4 0 (List.length out_0)), (5, .vl rn 1 (List.map encStr y0)), (6, .int .i64 i), (20, .bool ((decide (i < (y0.length : Int))) && (decide (i ≤ (8 : Int)))))]) (H0 := [(b3, ⟨4, List.map encRule out_0⟩)]) rfl (⟨_, _, rfl, rfl, _, _, rfl, rfl, _, _, rfl, rfl, _, _, rfl, rfl, _, _, rfl, rfl, rfl⟩) (⟨_, _, rfl, rfl, rfl⟩) rfl ?_
   refine V.cond rfl (fun hc1 => ?_) (fun hc1 => ?_)
   ·
    replace hm1 := cond_t hc1 hm1
    refine V.skip ?_
    refine V.seq ?_
    refine V.block ?_
    replace hm1 := asrt_some hm1; rcases hm1 with ⟨hh1, hm1⟩
    replace hm1 := bindO hm1; rcases hm1 with ⟨y2, hh2, hm1⟩
    replace hm1 := asrt_some hm1; rcases hm1 with ⟨hh3, hm1⟩
    refine V.region ?_
    refine VO.cons rfl (V1.move rfl rfl rfl lt0 ?_)
    refine VO.cons rfl (V1.move rfl rfl rfl lt0 ?_)
    refine VO.cons rfl (V1.move rfl rfl rfl lt0 ?_)
    refine VO.cons rfl (V1.indexI rfl rfl esz_59 rfl rfl hh1 lt0 ?_)
    refine VO.cons rfl (V1.loadPin rfl rfl tyk_9 rfl rfl lt0 ?_)
    refine VO.cons rfl (V1.call rfl rfl rfl cok_34 rfl (ok_spec_l4Read hh2) rfl lt0 ?_)
    rintro _ _ ⟨rfl, rfl⟩
    refine VO.cons rfl (V1.buildSliceT (f := encRule) ([y2] : List Rule) rfl rfl esz_24 zk_50 rfl rfl rfl rfl rfl rfl rfl lt0 ?_)
    intro b4
    refine VO.cons rfl (V1.appendMap (k := 1) (f := encRule) (l := out_0) (m := ([y2] : List Rule)) rfl rfl rfl rfl rfl esz_24 eby_24 zk_50 rfl rfl rfl (SrcOf.srMap (k := 0) rfl isl_24) hh3 lt0 ?_)
    intro b5
    refine VO.cons rfl (V1.assign rfl rfl rfl lt0 ?_)
    refine VO.nil ?_
    refine V.keep 42 [0, 4, 5, 6] [0] (E0 := [(0, .str s), (4, .sref b5 4 0 (List.length (out_0 ++ ([y2] : List Rule)))), (5, .vl rn 1 (List.map encStr y0)), (6, .int .i64 i)]) (H0 := [(b5, ⟨4, List.map encRule (out_0 ++ ([y2] : List Rule))⟩)]) rfl (⟨_, _, rfl, rfl, _, _, rfl, rfl, _, _, rfl, rfl, _, _, rfl, rfl, rfl⟩) (⟨_, _, rfl, rfl, rfl⟩) rfl ?_
    refine V.region ?_
    refine VO.cons rfl (V1.move rfl rfl rfl lt0 ?_)
    refine VO.cons rfl (V1.int rfl rfl rfl rfl rfl lt0 ?_)
    refine VO.cons rfl (V1.assign rfl rfl rfl lt0 ?_)
    refine VO.nil ?_
    exact ⟨(m0, ((out_0 ++ ([y2] : List Rule)), (IntKind.i64.wrap (i + (1 : Int)))), b5), hl1 _ (Option.some.inj hm1).symm, Nat.lt_succ_self _, Keeps.mk (ks := [0]) rfl ⟨rfl, rfl, rfl, rfl, trivial⟩ (⟨_, _, rfl, rfl, rfl⟩) rfl⟩
   ·
    replace hm1 := cond_f hc1 hm1
    refine V.exit ?_
    obtain rfl := hr1 _ (Option.some.inj hm1).symm
    exact ⟨(out_0, b3), rfl, Keeps.mk (ks := [0]) rfl ⟨rfl, rfl, trivial⟩ (⟨_, _, rfl, rfl, rfl⟩) rfl⟩
  ·
   rintro ⟨out_, b2⟩ rfl
   try dsimp only at hm0
   refine V.seq ?_
   refine V.seq ?_
   replace hm0 := bindO hm0; rcases hm0 with ⟨y3, hh4, hm0⟩
   replace hm0 := bindO hm0; rcases hm0 with ⟨y4, hh5, hm0⟩
   refine V.region ?_
   refine VO.cons rfl (V1.move rfl rfl rfl lt0 ?_)
   refine VO.cons rfl (V1.callL (rn + 1) [b2] [.vl (rn + 1) 4 (List.map encRule out_)] rfl rfl rfl cok_26 rfl ⟨_, _, rfl, Lend.srMap 0 rfl (fun _ => rfl) (.head _), rfl⟩ (bwCons (k := 0) rfl bwNil) (ok_spec_l4Good hh4) rfl (⟨(by first | omega | (dsimp only; omega)), by rintro _ _ ⟨rfl, rfl⟩; exact ⟨rfl, by simp⟩⟩) lt0 ?_)
   rintro _ _ ⟨rfl, rfl⟩
   refine VO.cons rfl (V1.not rfl rfl rfl lt0 ?_)
   refine VO.cons rfl (V1.move rfl rfl rfl lt0 ?_)
   apply VO.or (n := 4) rfl rfl rfl rfl rfl rfl lt0 (.none rfl)
   ·
    intro hg1
    refine VO.step (.some rfl rfl rfl) (V1.move rfl rfl rfl lt0 ?_)
    refine VO.step (.some rfl rfl rfl) (V1.callL (rn + 1) [b2] [.vl (rn + 1) 4 (List.map encRule out_)] rfl rfl rfl cok_27 rfl ⟨_, _, rfl, Lend.srMap 0 rfl (fun _ => rfl) (.head _), rfl⟩ (bwCons (k := 0) rfl bwNil) (ok_spec_l4Text (cond_f hg1 hh5)) rfl (⟨(by first | omega | (dsimp only; omega)), by rintro _ _ ⟨rfl, rfl⟩; exact ⟨rfl, by simp⟩⟩) lt0 ?_)
    rintro _ _ ⟨rfl, rfl⟩
    refine VO.step (.some rfl rfl rfl) (V1.move rfl rfl rfl lt0 ?_)
    refine VO.step (.some rfl rfl rfl) (V1.str rfl rfl rfl rfl rfl lt0 ?_)
    exact VO.nil ⟨rfl, rfl, rfl, rfl, .inr ⟨rfl, .inr ⟨rfl, .inr ⟨rfl, .inr ⟨rfl, .inr ⟨rfl, .inl rfl⟩⟩⟩⟩⟩⟩
   refine VO.nil ?_
   refine V.keep 42 [4, 39] [0] (E0 := [(4, .sref b2 4 0 (List.length out_)), (39, .bool ((!y3) || (!(y4 == s))))]) (H0 := [(b2, ⟨4, List.map encRule out_⟩)]) rfl (⟨_, _, rfl, rfl, _, _, rfl, rfl, rfl⟩) (⟨_, _, rfl, rfl, rfl⟩) rfl ?_
   refine V.cond rfl (fun hc2 => ?_) (fun hc2 => ?_)
   ·
    replace hm0 := cond_t hc2 hm0
    refine V.seq ?_
    refine V.region ?_
    refine VO.cons rfl (V1.buildSliceT (f := encRule) ([] : List Rule) rfl rfl esz_24 zk_50 rfl rfl rfl rfl rfl rfl rfl lt0 ?_)
    intro b6
    refine VO.cons rfl (V1.assign rfl rfl rfl lt0 ?_)
    refine VO.cons rfl (V1.assign rfl rfl rfl lt0 ?_)
    refine VO.nil ?_
    refine V.keep 42 [2, 3] [0] (E0 := [(2, .sref b6 4 0 (List.length ([] : List Rule))), (3, .bool false)]) (H0 := [(b6, ⟨4, List.map encRule ([] : List Rule)⟩)]) rfl (⟨_, _, rfl, rfl, _, _, rfl, rfl, rfl⟩) (⟨_, _, rfl, rfl, rfl⟩) rfl ?_
    refine V.ret ?_
    obtain rfl := Option.some.inj hm0
    exact ⟨_, _, ⟨_, _, rfl, rfl, _, _, rfl, rfl, rfl⟩, List.Sublist.refl _, b6, rfl, rfl⟩
   ·
    replace hm0 := cond_f hc2 hm0
    refine V.skip ?_
    refine V.seq ?_
    refine V.region ?_
    refine VO.cons rfl (V1.move rfl rfl rfl lt0 ?_)
    refine VO.cons rfl (V1.assign rfl rfl rfl lt0 ?_)
    refine VO.cons rfl (V1.assign rfl rfl rfl lt0 ?_)
    refine VO.nil ?_
    refine V.keep 42 [2, 3] [0] (E0 := [(2, .sref b2 4 0 (List.length out_)), (3, .bool true)]) (H0 := [(b2, ⟨4, List.map encRule out_⟩)]) rfl (⟨_, _, rfl, rfl, _, _, rfl, rfl, rfl⟩) (⟨_, _, rfl, rfl, rfl⟩) rfl ?_
    refine V.ret ?_
    obtain rfl := Option.some.inj hm0
    exact ⟨_, _, ⟨_, _, rfl, rfl, _, _, rfl, rfl, rfl⟩, List.Sublist.refl _, b2, rfl, rfl⟩

theorem ok_slices_Index_int_int {ρ0 rn : Nat} {s : List Int} {v : Int} {r : Int} (h : M.slices_Index_int_int s v = some r) : Does Tryz.prog 83 [.vl ρ0 1 (List.map encInt s), .int .i64 v] [] rn (fun x H => x = .int .i64 r ∧ H = []) := by
 have hm0 := h; clear h; unfold M.slices_Index_int_int at hm0
 try dsimp only at hm0
 refine Does.intro (N := 19) Tryz.func83 rfl rfl rfl rfl ?_
 intro w0 S0 L0
 refine V.seq ?_
 refine V.region ?_
 refine VO.cons rfl (V1.assign rfl rfl rfl lt0 ?_)
 refine VO.nil ?_
 refine V.seq ?_
 refine V.seq ?_
 refine V.region ?_
 refine VO.cons rfl (V1.move rfl rfl rfl lt0 ?_)
 refine VO.cons rfl (V1.lenMap rfl rfl rfl rfl rfl rfl isl_33 lt0 ?_)
 refine VO.cons rfl (V1.move rfl rfl rfl lt0 ?_)
 refine VO.nil ?_
 replace hm0 := bindO hm0; rcases hm0 with ⟨e0, he1, hm0⟩
 refine V.cutT (D := (Unit) × (Unit)) (fun ⟨_, _⟩ => ⟨19, [], []⟩) (fun ⟨_, _⟩ => (.inl () = e0)) ?_ ?_
 ·
  refine V.block ?_
  refine V.keep 19 [8, 0, 1, 7] [] (E0 := [(8, .int .i64 (0 : Int)), (0, .vl ρ0 1 (List.map encInt s)), (1, .int .i64 v), (7, .int .i64 (s.length : Int))]) (H0 := []) rfl (⟨_, _, rfl, rfl, _, _, rfl, rfl, _, _, rfl, rfl, _, _, rfl, rfl, rfl⟩) (rfl) rfl ?_
  refine V.loopE (D := Nat × (Int) × (Unit)) (fun ⟨n0, v0, _⟩ => [(8, .int .i64 v0)]) (fun ⟨n0, v0, _⟩ => []) (fun ⟨n0, v0, _⟩ => loopO (M.slices_Index_int_int_l0 s v) n0 v0 = some e0) (fun ⟨n0, _, _⟩ => n0) (rounds, (0 : Int), ()) rfl he1 ?_
  rintro ⟨n0, v0, _⟩ hP0
  obtain ⟨m0, y0, rfl, hm1, hl1, hr1⟩ := loop_head hP0
  unfold M.slices_Index_int_int_l0 at hm1; dsimp only at hm1
  show V _ _ _ ⟨19, [(8, .int .i64 v0), (0, .vl ρ0 1 (List.map encInt s)), (1, .int .i64 v), (7, .int .i64 (s.length : Int))], []⟩
  refine V.seq ?_
  refine V.region ?_
  refine VO.cons rfl (V1.int rfl rfl rfl rfl rfl lt0 ?_)
  refine VO.nil ?_
  refine V.seq ?_
  refine V.cond rfl (fun hc0 => ?_) (fun hc0 => ?_)
  ·
   replace hm1 := cond_t hc0 hm1
   refine V.skip ?_
   refine V.seq ?_
   refine V.block ?_
   refine V.seq ?_
   refine V.region ?_
   refine VO.cons rfl (V1.move rfl rfl rfl lt0 ?_)
   refine VO.cons rfl (V1.assign rfl rfl rfl lt0 ?_)
   refine VO.nil ?_
   refine V.seq ?_
   replace hm1 := asrt_some hm1; rcases hm1 with ⟨hh0, hm1⟩
   refine V.region ?_
   refine VO.cons rfl (V1.move rfl rfl rfl lt0 ?_)
   refine VO.cons rfl (V1.move rfl rfl rfl lt0 ?_)
   refine VO.cons rfl (V1.move rfl rfl rfl lt0 ?_)
   refine VO.cons rfl (V1.indexI rfl rfl esz_33 rfl rfl hh0 lt0 ?_)
   refine VO.cons rfl (V1.loadPin rfl rfl tyk_3 rfl rfl lt0 ?_)
   refine VO.cons rfl (V1.int rfl rfl rfl rfl rfl lt0 ?_)
   refine VO.nil ?_
   refine V.keep 19 [0, 1, 5, 7, 8, 16] [] (E0 := [(0, .vl ρ0 1 (List.map encInt s)), (1, .int .i64 v), (5, .int .i64 v0), (7, .int .i64 (s.length : Int)), (8, .int .i64 v0), (16, .bool (v == (s.getD (Int.toNat v0) default)))]) (H0 := []) rfl (⟨_, _, rfl, rfl, _, _, rfl, rfl, _, _, rfl, rfl, _, _, rfl, rfl, _, _, rfl, rfl, _, _, rfl, rfl, rfl⟩) (rfl) rfl ?_
   refine V.cond rfl (fun hc1 => ?_) (fun hc1 => ?_)
   ·
    replace hm1 := cond_t hc1 hm1
    refine V.seq ?_
    refine V.region ?_
    refine VO.cons rfl (V1.move rfl rfl rfl lt0 ?_)
    refine VO.cons rfl (V1.assign rfl rfl rfl lt0 ?_)
    refine VO.nil ?_
    refine V.ret ?_
    obtain rfl := hr1 _ (Option.some.inj hm1).symm
    change some _ = some _ at hm0
    obtain rfl := Option.some.inj hm0
    exact ⟨_, [], ⟨_, _, rfl, rfl, rfl⟩, List.nil_sublist _, rfl, rfl⟩
   ·
    replace hm1 := cond_f hc1 hm1
    refine V.skip ?_
    refine V.region ?_
    refine VO.cons rfl (V1.int rfl rfl rfl rfl rfl lt0 ?_)
    refine VO.cons rfl (V1.move rfl rfl rfl lt0 ?_)
    refine VO.nil ?_
    exact ⟨(m0, (IntKind.i64.wrap (v0 + (1 : Int))), ()), hl1 _ (Option.some.inj hm1).symm, Nat.lt_succ_self _, Keeps.mk (ks := []) rfl ⟨rfl, rfl, rfl, rfl, trivial⟩ (rfl) rfl⟩
  ·
   replace hm1 := cond_f hc0 hm1
   refine V.exit ?_
   obtain rfl := hr1 _ (Option.some.inj hm1).symm
   exact ⟨((), ()), rfl, Keeps.mk (ks := []) rfl trivial (rfl) rfl⟩
 ·
  rintro ⟨_, _⟩ rfl
  try dsimp only at hm0
  refine V.seq ?_
  refine V.region ?_
  refine VO.cons rfl (V1.assign rfl rfl rfl lt0 ?_)
  refine VO.nil ?_
  refine V.ret ?_
  obtain rfl := Option.some.inj hm0
  exact ⟨_, [], ⟨_, _, rfl, rfl, rfl⟩, List.nil_sublist _, rfl, rfl⟩

theorem ok_slices_Contains_int_int {ρ0 rn : Nat} {s : List Int} {v : Int} {r : Bool} (h : M.slices_Contains_int_int s v = some r) : Does Tryz.prog 63 [.vl ρ0 1 (List.map encInt s), .int .i64 v] [] rn (fun x H => x = .bool r ∧ H = []) := by
 have hm0 := h; clear h; unfold M.slices_Contains_int_int at hm0
 try dsimp only at hm0
 refine Does.intro (N := 9) Tryz.func63 rfl rfl rfl rfl ?_
 intro w0 S0 L0
 refine V.seq ?_
 refine V.region ?_
 refine VO.cons rfl (V1.assign rfl rfl rfl lt0 ?_)
 refine VO.nil ?_
 refine V.seq ?_
 replace hm0 := bindO hm0; rcases hm0 with ⟨y0, hh0, hm0⟩
 refine V.region ?_
 refine VO.cons rfl (V1.move rfl rfl rfl lt0 ?_)
 refine VO.cons rfl (V1.move rfl rfl rfl lt0 ?_)
 refine VO.cons rfl (V1.call rfl rfl rfl cok_83 rfl (ok_slices_Index_int_int hh0) rfl lt0 ?_)
 rintro _ _ ⟨rfl, rfl⟩
 refine VO.cons rfl (V1.int rfl rfl rfl rfl rfl lt0 ?_)
 refine VO.cons rfl (V1.assign rfl rfl rfl lt0 ?_)
 refine VO.nil ?_
 refine V.ret ?_
 obtain rfl := Option.some.inj hm0
 exact ⟨_, [], ⟨_, _, rfl, rfl, rfl⟩, List.nil_sublist _, rfl, rfl⟩

theorem ok_impl_seriesIn {ρ0 rn : Nat} {list : List Rule} {r : List Int} (h : M.impl_seriesIn list = some r) : Does Tryz.prog 35 [.vl ρ0 4 (List.map encRule list)] [] rn (fun x H => ∃ (ob0_ : Option Nat), (ob0_ = none → r = []) ∧ x = optS 1 ob0_ (List.length r) ∧ H = optH 1 ob0_ (List.map encInt r)) := by
 have hm0 := h; clear h; unfold M.impl_seriesIn at hm0
 try dsimp only at hm0
 refine Does.intro (N := 24) Tryz.func35 rfl rfl rfl rfl ?_
 intro w0 S0 L0
 refine V.seq ?_
 refine V.region ?_
 refine VO.cons rfl (V1.assign rfl rfl rfl lt0 ?_)
 refine VO.nil ?_
 refine V.seq ?_
 refine V.region ?_
 refine VO.cons rfl (V1.assign rfl rfl rfl lt0 ?_)
 refine VO.nil ?_
 refine V.seq ?_
 refine V.seq ?_
 refine V.region ?_
 refine VO.cons rfl (V1.move rfl rfl rfl lt0 ?_)
 refine VO.cons rfl (V1.lenMap rfl rfl rfl rfl rfl rfl isl_24 lt0 ?_)
 refine VO.cons rfl (V1.move rfl rfl rfl lt0 ?_)
 refine VO.nil ?_
 replace hm0 := bindO hm0; rcases hm0 with ⟨e0, he1, hm0⟩
 refine V.cutT (D := (List Int) × (Option Nat)) (fun ⟨out_, ob0⟩ => ⟨24, [(3, optS 1 ob0 (List.length out_))], optH 1 ob0 (List.map encInt out_)⟩) (fun ⟨out_, ob0⟩ => (out_ = e0) ∧ (ob0 = none → out_ = [])) ?_ ?_
 ·
  refine V.block ?_
  refine V.keep 24 [3, 8, 6, 7] [] (E0 := [(3, .nils), (8, .int .i64 (0 : Int)), (6, .vl ρ0 4 (List.map encRule list)), (7, .int .i64 (list.length : Int))]) (H0 := []) rfl (⟨_, _, rfl, rfl, _, _, rfl, rfl, _, _, rfl, rfl, _, _, rfl, rfl, rfl⟩) (rfl) rfl ?_
  refine V.loopE (D := Nat × (List Int × Int) × (Option Nat)) (fun ⟨n0, ⟨out_0, v⟩, ob1⟩ => [(3, optS 1 ob1 (List.length out_0)), (8, .int .i64 v)]) (fun ⟨n0, ⟨out_0, v⟩, ob1⟩ => optH 1 ob1 (List.map encInt out_0)) (fun ⟨n0, ⟨out_0, v⟩, ob1⟩ => loopO (M.impl_seriesIn_l0 list) n0 (out_0, v) = some e0 ∧ (ob1 = none → out_0 = [])) (fun ⟨n0, _, _⟩ => n0) (rounds, (([] : List Int), (0 : Int)), none) rfl ⟨he1, (fun _ => rfl)⟩ ?_
  rintro ⟨n0, ⟨out_0, v⟩, ob1⟩ ⟨hP0, hob1⟩
  obtain ⟨m0, y0, rfl, hm1, hl1, hr1⟩ := loop_head hP0
  unfold M.impl_seriesIn_l0 at hm1; dsimp only at hm1
  rcases ob1 with _ | ob1
  ·
   replace hob1 := hob1 rfl
   show V _ _ _ ⟨24, [(3, .nils), (8, .int .i64 v), (6, .vl ρ0 4 (List.map encRule list)), (7, .int .i64 (list.length : Int))], []⟩
   refine V.seq ?_
   refine V.region ?_
   refine VO.cons rfl (V1.int rfl rfl rfl rfl rfl lt0 ?_)
   refine VO.nil ?_
   refine V.seq ?_
   refine V.cond rfl (fun hc0 => ?_) (fun hc0 => ?_)
   ·
    replace hm1 := cond_t hc0 hm1
    refine V.skip ?_
    refine V.seq ?_
    replace hm1 := bindO hm1; rcases hm1 with ⟨j0, hm2, hm1⟩
    refine V.cutT (D := (List Int) × (Option Nat)) (fun ⟨out_1, ob2⟩ => ⟨24, [(3, optS 1 ob2 (List.length out_1)), (6, .vl ρ0 4 (List.map encRule list)), (7, .int .i64 (list.length : Int)), (8, .int .i64 v)], optH 1 ob2 (List.map encInt out_1)⟩) (fun ⟨out_1, ob2⟩ => (out_1 = j0) ∧ (ob2 = none → out_1 = [])) ?_ ?_
    ·
     refine V.block ?_
     refine V.seq ?_
     replace hm2 := asrt_some hm2; rcases hm2 with ⟨hh0, hm2⟩
     refine V.region ?_
     refine VO.cons rfl (V1.indexI rfl rfl esz_24 rfl rfl hh0 lt0 ?_)
     refine VO.cons rfl (V1.loadPinAll rfl rfl tyk_50 rfl rfl lt0 ?_)
     refine VO.cons rfl (V1.alloc rfl rfl zk_50 lt0 ?_)
     intro b0
     refine VO.cons rfl (V1.storeRefAll (k := 0) rfl rfl tyk_50 rfl rfl rfl rfl rfl rfl ?_)
     refine VO.nil ?_
     refine V.seq ?_
     replace hm2 := bindO hm2; rcases hm2 with ⟨y1, hh1, hm2⟩
     refine V.region ?_
     refine VO.cons rfl (V1.move rfl rfl rfl lt0 ?_)
     refine VO.cons rfl (V1.fieldRef rfl rfl fo_50_0 rfl lt0 ?_)
     refine VO.cons rfl (V1.loadRef (k := 0) rfl rfl tyk_3 rfl rfl rfl rfl rfl lt0 ?_)
     refine VO.weakenK (Keeps.nilsE (l := out_0) 12 rn 1 encInt hob1 rfl rfl) ?_
     refine VO.cons rfl (V1.call rfl rfl rfl cok_63 rfl (ok_slices_Contains_int_int hh1) rfl lt0 ?_)
     rintro _ _ ⟨rfl, rfl⟩
     refine VO.cons rfl (V1.not rfl rfl rfl lt0 ?_)
     refine VO.nil ?_
     refine V.keep 24 [3, 5, 6, 7, 8, 16] [0] (E0 := [(3, .nils), (5, .ref b0 4 0 0), (6, .vl ρ0 4 (List.map encRule list)), (7, .int .i64 (list.length : Int)), (8, .int .i64 v), (16, .bool (!y1))]) (H0 := [(b0, ⟨4, [encRule (list.getD (Int.toNat v) default)]⟩)]) rfl (⟨_, _, rfl, rfl, _, _, rfl, rfl, _, _, rfl, rfl, _, _, rfl, rfl, _, _, rfl, rfl, _, _, rfl, rfl, rfl⟩) (⟨_, _, rfl, rfl, rfl⟩) rfl ?_
     refine V.cond rfl (fun hc1 => ?_) (fun hc1 => ?_)
     ·
      replace hm2 := cond_t hc1 hm2
      replace hm2 := asrt_some hm2; rcases hm2 with ⟨hh2, hm2⟩
      refine V.region ?_
      refine VO.cons rfl (V1.move rfl rfl rfl lt0 ?_)
      refine VO.cons rfl (V1.fieldRef rfl rfl fo_50_0 rfl lt0 ?_)
      refine VO.cons rfl (V1.loadRef (k := 0) rfl rfl tyk_3 rfl rfl rfl rfl rfl lt0 ?_)
      refine VO.cons rfl (V1.buildSliceT (f := encInt) ([(list.getD (Int.toNat v) default).Series] : List Int) rfl rfl esz_33 zk_3 rfl rfl rfl rfl rfl rfl rfl lt0 ?_)
      intro b1
      refine VO.cons rfl (V1.appendNilE (f := encInt) (l := out_0) (m := ([(list.getD (Int.toNat v) default).Series] : List Int)) hob1 rfl rfl rfl rfl rfl esz_33 eby_33 zk_3 rfl rfl rfl (SrcOf.srMap (k := 0) rfl isl_33) rfl hh2 lt0 ?_)
      intro b2
      refine VO.cons rfl (V1.assign rfl rfl rfl lt0 ?_)
      refine VO.nil ?_
      exact ⟨((out_0 ++ ([(list.getD (Int.toNat v) default).Series] : List Int)), (some b2)), ⟨Option.some.inj hm2, (fun e => by cases e)⟩, Keeps.mk (ks := [0]) rfl ⟨rfl, rfl, rfl, rfl, trivial⟩ (⟨_, _, rfl, rfl, rfl⟩) rfl⟩
     ·
      replace hm2 := cond_f hc1 hm2
      refine V.skip ?_
      exact ⟨(out_0, none), ⟨Option.some.inj hm2, (fun _ => hob1)⟩, Keeps.mk (ks := []) rfl ⟨rfl, rfl, rfl, rfl, trivial⟩ (rfl) rfl⟩
    ·
     rintro ⟨out_1, ob2⟩ ⟨rfl, hob2⟩
     try dsimp only at hm1
     rcases ob2 with _ | ob2
     ·
      replace hob2 := hob2 rfl
      refine V.region ?_
      refine VO.cons rfl (V1.int rfl rfl rfl rfl rfl lt0 ?_)
      refine VO.cons rfl (V1.move rfl rfl rfl lt0 ?_)
      refine VO.nil ?_
      exact ⟨(m0, (out_1, (IntKind.i64.wrap (v + (1 : Int)))), none), ⟨hl1 _ (Option.some.inj hm1).symm, (fun _ => hob2)⟩, Nat.lt_succ_self _, Keeps.mk (ks := []) rfl ⟨rfl, rfl, rfl, rfl, trivial⟩ (rfl) rfl⟩
     ·
      refine V.region ?_
      refine VO.cons rfl (V1.int rfl rfl rfl rfl rfl lt0 ?_)
      refine VO.cons rfl (V1.move rfl rfl rfl lt0 ?_)
      refine VO.nil ?_
      exact ⟨(m0, (out_1, (IntKind.i64.wrap (v + (1 : Int)))), (some ob2)), ⟨hl1 _ (Option.some.inj hm1).symm, (fun e => by cases e)⟩, Nat.lt_succ_self _, Keeps.mk (ks := [0]) rfl ⟨rfl, rfl, rfl, rfl, trivial⟩ (⟨_, _, rfl, rfl, rfl⟩) rfl⟩
   ·
    replace hm1 := cond_f hc0 hm1
    refine V.exit ?_
    obtain rfl := hr1 _ (Option.some.inj hm1).symm
    exact ⟨(out_0, none), ⟨rfl, (fun _ => hob1)⟩, Keeps.mk (ks := []) rfl ⟨rfl, trivial⟩ (rfl) rfl⟩
  ·
   show V _ _ _ ⟨24, [(3, .sref ob1 1 0 (List.length out_0)), (8, .int .i64 v), (6, .vl ρ0 4 (List.map encRule list)), (7, .int .i64 (list.length : Int))], [(ob1, ⟨1, List.map encInt out_0⟩)]⟩
   refine V.seq ?_
   refine V.region ?_
   refine VO.cons rfl (V1.int rfl rfl rfl rfl rfl lt0 ?_)
   refine VO.nil ?_
   refine V.seq ?_
   refine V.cond rfl (fun hc0 => ?_) (fun hc0 => ?_)
   ·
    replace hm1 := cond_t hc0 hm1
    refine V.skip ?_
    refine V.seq ?_
    replace hm1 := bindO hm1; rcases hm1 with ⟨j0, hm2, hm1⟩
    refine V.cutT (D := (List Int) × (Nat)) (fun ⟨out_1, b0⟩ => ⟨24, [(3, .sref b0 1 0 (List.length out_1)), (6, .vl ρ0 4 (List.map encRule list)), (7, .int .i64 (list.length : Int)), (8, .int .i64 v)], [(b0, ⟨1, List.map encInt out_1⟩)]⟩) (fun ⟨out_1, b0⟩ => (out_1 = j0)) ?_ ?_
    ·
     refine V.block ?_
     refine V.seq ?_
     replace hm2 := asrt_some hm2; rcases hm2 with ⟨hh0, hm2⟩
     refine V.region ?_
     refine VO.cons rfl (V1.indexI rfl rfl esz_24 rfl rfl hh0 lt0 ?_)
     refine VO.cons rfl (V1.loadPinAll rfl rfl tyk_50 rfl rfl lt0 ?_)
     refine VO.cons rfl (V1.alloc rfl rfl zk_50 lt0 ?_)
     intro b1
     refine VO.cons rfl (V1.storeRefAll (k := 0) rfl rfl tyk_50 rfl rfl rfl rfl rfl rfl ?_)
     refine VO.nil ?_
     refine V.seq ?_
     replace hm2 := bindO hm2; rcases hm2 with ⟨y1, hh1, hm2⟩
     refine V.region ?_
     refine VO.cons rfl (V1.move rfl rfl rfl lt0 ?_)
     refine VO.cons rfl (V1.fieldRef rfl rfl fo_50_0 rfl lt0 ?_)
     refine VO.cons rfl (V1.loadRef (k := 0) rfl rfl tyk_3 rfl rfl rfl rfl rfl lt0 ?_)
     refine VO.cons rfl (V1.callL (rn + 1) [ob1] [.vl (rn + 1) 1 (List.map encInt out_0), .int .i64 ((list.getD (Int.toNat v) default).Series)] rfl rfl rfl cok_63 rfl ⟨_, _, rfl, Lend.srMap 1 rfl (fun _ => rfl) (.head _), ⟨_, _, rfl, .same _, rfl⟩⟩ (bwCons (k := 1) rfl bwNil) (ok_slices_Contains_int_int hh1) rfl (⟨(by first | omega | (dsimp only; omega)), by rintro _ _ ⟨rfl, rfl⟩; exact ⟨rfl, by simp⟩⟩) lt0 ?_)
     rintro _ _ ⟨rfl, rfl⟩
     refine VO.cons rfl (V1.not rfl rfl rfl lt0 ?_)
     refine VO.nil ?_
     refine V.keep 24 [3, 5, 6, 7, 8, 16] [0, 1] (E0 := [(3, .sref ob1 1 0 (List.length out_0)), (5, .ref b1 4 0 0), (6, .vl ρ0 4 (List.map encRule list)), (7, .int .i64 (list.length : Int)), (8, .int .i64 v), (16, .bool (!y1))]) (H0 := [(b1, ⟨4, [encRule (list.getD (Int.toNat v) default)]⟩), (ob1, ⟨1, List.map encInt out_0⟩)]) rfl (⟨_, _, rfl, rfl, _, _, rfl, rfl, _, _, rfl, rfl, _, _, rfl, rfl, _, _, rfl, rfl, _, _, rfl, rfl, rfl⟩) (⟨_, _, rfl, rfl, _, _, rfl, rfl, rfl⟩) rfl ?_
     refine V.cond rfl (fun hc1 => ?_) (fun hc1 => ?_)
     ·
      replace hm2 := cond_t hc1 hm2
      replace hm2 := asrt_some hm2; rcases hm2 with ⟨hh2, hm2⟩
      refine V.region ?_
      refine VO.cons rfl (V1.move rfl rfl rfl lt0 ?_)
      refine VO.cons rfl (V1.fieldRef rfl rfl fo_50_0 rfl lt0 ?_)
      refine VO.cons rfl (V1.loadRef (k := 0) rfl rfl tyk_3 rfl rfl rfl rfl rfl lt0 ?_)
      refine VO.cons rfl (V1.buildSliceT (f := encInt) ([(list.getD (Int.toNat v) default).Series] : List Int) rfl rfl esz_33 zk_3 rfl rfl rfl rfl rfl rfl rfl lt0 ?_)
      intro b2
      refine VO.cons rfl (V1.appendMap (k := 2) (f := encInt) (l := out_0) (m := ([(list.getD (Int.toNat v) default).Series] : List Int)) rfl rfl rfl rfl rfl esz_33 eby_33 zk_3 rfl rfl rfl (SrcOf.srMap (k := 0) rfl isl_33) hh2 lt0 ?_)
      intro b3
      refine VO.cons rfl (V1.assign rfl rfl rfl lt0 ?_)
      refine VO.nil ?_
      exact ⟨((out_0 ++ ([(list.getD (Int.toNat v) default).Series] : List Int)), b3), Option.some.inj hm2, Keeps.mk (ks := [0]) rfl ⟨rfl, rfl, rfl, rfl, trivial⟩ (⟨_, _, rfl, rfl, rfl⟩) rfl⟩
     ·
      replace hm2 := cond_f hc1 hm2
      refine V.skip ?_
      exact ⟨(out_0, ob1), Option.some.inj hm2, Keeps.mk (ks := [1]) rfl ⟨rfl, rfl, rfl, rfl, trivial⟩ (⟨_, _, rfl, rfl, rfl⟩) rfl⟩
    ·
     rintro ⟨out_1, b0⟩ rfl
     try dsimp only at hm1
     refine V.region ?_
     refine VO.cons rfl (V1.int rfl rfl rfl rfl rfl lt0 ?_)
     refine VO.cons rfl (V1.move rfl rfl rfl lt0 ?_)
     refine VO.nil ?_
     exact ⟨(m0, (out_1, (IntKind.i64.wrap (v + (1 : Int)))), (some b0)), ⟨hl1 _ (Option.some.inj hm1).symm, (fun e => by cases e)⟩, Nat.lt_succ_self _, Keeps.mk (ks := [0]) rfl ⟨rfl, rfl, rfl, rfl, trivial⟩ (⟨_, _, rfl, rfl, rfl⟩) rfl⟩
   ·
    replace hm1 := cond_f hc0 hm1
    refine V.exit ?_
    obtain rfl := hr1 _ (Option.some.inj hm1).symm
    exact ⟨(out_0, (some ob1)), ⟨rfl, (fun e => by cases e)⟩, Keeps.mk (ks := [0]) rfl ⟨rfl, trivial⟩ (⟨_, _, rfl, rfl, rfl⟩) rfl⟩
 ·
  rintro ⟨out_, ob0⟩ ⟨rfl, hob0⟩
  try dsimp only at hm0
  rcases ob0 with _ | ob0
  ·
   replace hob0 := hob0 rfl
   refine V.seq ?_
   refine V.region ?_
   refine VO.cons rfl (V1.move rfl rfl rfl lt0 ?_)
   refine VO.cons rfl (V1.assign rfl rfl rfl lt0 ?_)
   refine VO.nil ?_
   refine V.keep 24 [2] [] (E0 := [(2, .nils)]) (H0 := []) rfl (⟨_, _, rfl, rfl, rfl⟩) (rfl) rfl ?_
   refine V.ret ?_
   obtain rfl := Option.some.inj hm0
   exact ⟨_, _, ⟨_, _, rfl, rfl, rfl⟩, List.Sublist.refl _, none, (fun _ => hob0), rfl, rfl⟩
  ·
   refine V.seq ?_
   refine V.region ?_
   refine VO.cons rfl (V1.move rfl rfl rfl lt0 ?_)
   refine VO.cons rfl (V1.assign rfl rfl rfl lt0 ?_)
   refine VO.nil ?_
   refine V.keep 24 [2] [0] (E0 := [(2, .sref ob0 1 0 (List.length out_))]) (H0 := [(ob0, ⟨1, List.map encInt out_⟩)]) rfl (⟨_, _, rfl, rfl, rfl⟩) (⟨_, _, rfl, rfl, rfl⟩) rfl ?_
   refine V.ret ?_
   obtain rfl := Option.some.inj hm0
   exact ⟨_, _, ⟨_, _, rfl, rfl, rfl⟩, List.Sublist.refl _, some ob0, (fun e => by cases e), rfl, rfl⟩

theorem okz_impl_seriesIn {ρ0 rn : Nat} {list : List Rule} {r : List Int} (h : M.impl_seriesIn list = some r) : Does Tryz.prog 35 [.vl ρ0 4 (List.map encRule list)] [] rn (fun x H => x = .vl rn 1 (List.map encInt r) ∧ H = []) := by
 have hm0 := h; clear h; unfold M.impl_seriesIn at hm0
 try dsimp only at hm0
 refine Does.intro (N := 24) Tryz.func35 rfl rfl rfl rfl ?_
 intro w0 S0 L0
 refine V.seq ?_
 refine V.region ?_
 refine VO.cons rfl (V1.assign rfl rfl rfl lt0 ?_)
 refine VO.nil ?_
 refine V.seq ?_
 refine V.region ?_
 refine VO.cons rfl (V1.assign rfl rfl rfl lt0 ?_)
 refine VO.nil ?_
 refine V.seq ?_
 refine V.seq ?_
 refine V.region ?_
 refine VO.cons rfl (V1.move rfl rfl rfl lt0 ?_)
 refine VO.cons rfl (V1.lenMap rfl rfl rfl rfl rfl rfl isl_24 lt0 ?_)
 refine VO.cons rfl (V1.move rfl rfl rfl lt0 ?_)
 refine VO.nil ?_
 replace hm0 := bindO hm0; rcases hm0 with ⟨e0, he1, hm0⟩
 refine V.cutT (D := (List Int) × (Unit)) (fun ⟨out_, _⟩ => ⟨24, [(3, .vl rn 1 (List.map encInt out_))], []⟩) (fun ⟨out_, _⟩ => (out_ = e0)) ?_ ?_
 ·
  refine V.block ?_
  refine V.keep 24 [3, 8, 6, 7] [] (E0 := [(3, .nils), (8, .int .i64 (0 : Int)), (6, .vl ρ0 4 (List.map encRule list)), (7, .int .i64 (list.length : Int))]) (H0 := []) rfl (⟨_, _, rfl, rfl, _, _, rfl, rfl, _, _, rfl, rfl, _, _, rfl, rfl, rfl⟩) (rfl) rfl ?_
  refine V.loopE (D := Nat × (List Int × Int) × (Option Nat)) (fun ⟨n0, ⟨out_0, v⟩, ob0⟩ => [(3, optS 1 ob0 (List.length out_0)), (8, .int .i64 v)]) (fun ⟨n0, ⟨out_0, v⟩, ob0⟩ => optH 1 ob0 (List.map encInt out_0)) (fun ⟨n0, ⟨out_0, v⟩, ob0⟩ => loopO (M.impl_seriesIn_l0 list) n0 (out_0, v) = some e0 ∧ (ob0 = none → out_0 = [])) (fun ⟨n0, _, _⟩ => n0) (rounds, (([] : List Int), (0 : Int)), none) rfl ⟨he1, (fun _ => rfl)⟩ ?_
  rintro ⟨n0, ⟨out_0, v⟩, ob0⟩ ⟨hP0, hob0⟩
  obtain ⟨m0, y0, rfl, hm1, hl1, hr1⟩ := loop_head hP0
  unfold M.impl_seriesIn_l0 at hm1; dsimp only at hm1
  rcases ob0 with _ | ob0
  ·
   replace hob0 := hob0 rfl
   show V _ _ _ ⟨24, [(3, .nils), (8, .int .i64 v), (6, .vl ρ0 4 (List.map encRule list)), (7, .int .i64 (list.length : Int))], []⟩
   refine V.seq ?_
   refine V.region ?_
   refine VO.cons rfl (V1.int rfl rfl rfl rfl rfl lt0 ?_)
   refine VO.nil ?_
   refine V.seq ?_
   refine V.cond rfl (fun hc0 => ?_) (fun hc0 => ?_)
   ·
    replace hm1 := cond_t hc0 hm1
    refine V.skip ?_
    refine V.seq ?_
    replace hm1 := bindO hm1; rcases hm1 with ⟨j0, hm2, hm1⟩
    refine V.cutT (D := (List Int) × (Option Nat)) (fun ⟨out_1, ob1⟩ => ⟨24, [(3, optS 1 ob1 (List.length out_1)), (6, .vl ρ0 4 (List.map encRule list)), (7, .int .i64 (list.length : Int)), (8, .int .i64 v)], optH 1 ob1 (List.map encInt out_1)⟩) (fun ⟨out_1, ob1⟩ => (out_1 = j0) ∧ (ob1 = none → out_1 = [])) ?_ ?_
    ·
     refine V.block ?_
     refine V.seq ?_
     replace hm2 := asrt_some hm2; rcases hm2 with ⟨hh0, hm2⟩
     refine V.region ?_
     refine VO.cons rfl (V1.indexI rfl rfl esz_24 rfl rfl hh0 lt0 ?_)
     refine VO.cons rfl (V1.loadPinAll rfl rfl tyk_50 rfl rfl lt0 ?_)
     refine VO.cons rfl (V1.alloc rfl rfl zk_50 lt0 ?_)
     intro b0
     refine VO.cons rfl (V1.storeRefAll (k := 0) rfl rfl tyk_50 rfl rfl rfl rfl rfl rfl ?_)
     refine VO.nil ?_
     refine V.seq ?_
     replace hm2 := bindO hm2; rcases hm2 with ⟨y1, hh1, hm2⟩
     refine V.region ?_
     refine VO.cons rfl (V1.move rfl rfl rfl lt0 ?_)
     refine VO.cons rfl (V1.fieldRef rfl rfl fo_50_0 rfl lt0 ?_)
     refine VO.cons rfl (V1.loadRef (k := 0) rfl rfl tyk_3 rfl rfl rfl rfl rfl lt0 ?_)
     refine VO.weakenK (Keeps.nilsE (l := out_0) 12 rn 1 encInt hob0 rfl rfl) ?_
     refine VO.cons rfl (V1.call rfl rfl rfl cok_63 rfl (ok_slices_Contains_int_int hh1) rfl lt0 ?_)
     rintro _ _ ⟨rfl, rfl⟩
     refine VO.cons rfl (V1.not rfl rfl rfl lt0 ?_)
     refine VO.nil ?_
     refine V.keep 24 [3, 5, 6, 7, 8, 16] [0] (E0 := [(3, .nils), (5, .ref b0 4 0 0), (6, .vl ρ0 4 (List.map encRule list)), (7, .int .i64 (list.length : Int)), (8, .int .i64 v), (16, .bool (!y1))]) (H0 := [(b0, ⟨4, [encRule (list.getD (Int.toNat v) default)]⟩)]) rfl (⟨_, _, rfl, rfl, _, _, rfl, rfl, _, _, rfl, rfl, _, _, rfl, rfl, _, _, rfl, rfl, _, _, rfl, rfl, rfl⟩) (⟨_, _, rfl, rfl, rfl⟩) rfl ?_
     refine V.cond rfl (fun hc1 => ?_) (fun hc1 => ?_)
     ·
      replace hm2 := cond_t hc1 hm2
      replace hm2 := asrt_some hm2; rcases hm2 with ⟨hh2, hm2⟩
      refine V.region ?_
      refine VO.cons rfl (V1.move rfl rfl rfl lt0 ?_)
      refine VO.cons rfl (V1.fieldRef rfl rfl fo_50_0 rfl lt0 ?_)
      refine VO.cons rfl (V1.loadRef (k := 0) rfl rfl tyk_3 rfl rfl rfl rfl rfl lt0 ?_)
      refine VO.cons rfl (V1.buildSliceT (f := encInt) ([(list.getD (Int.toNat v) default).Series] : List Int) rfl rfl esz_33 zk_3 rfl rfl rfl rfl rfl rfl rfl lt0 ?_)
      intro b1
      refine VO.cons rfl (V1.appendNilE (f := encInt) (l := out_0) (m := ([(list.getD (Int.toNat v) default).Series] : List Int)) hob0 rfl rfl rfl rfl rfl esz_33 eby_33 zk_3 rfl rfl rfl (SrcOf.srMap (k := 0) rfl isl_33) rfl hh2 lt0 ?_)
      intro b2
      refine VO.cons rfl (V1.assign rfl rfl rfl lt0 ?_)
      refine VO.nil ?_
      exact ⟨((out_0 ++ ([(list.getD (Int.toNat v) default).Series] : List Int)), (some b2)), ⟨Option.some.inj hm2, (fun e => by cases e)⟩, Keeps.mk (ks := [0]) rfl ⟨rfl, rfl, rfl, rfl, trivial⟩ (⟨_, _, rfl, rfl, rfl⟩) rfl⟩
     ·
      replace hm2 := cond_f hc1 hm2
      refine V.skip ?_
      exact ⟨(out_0, none), ⟨Option.some.inj hm2, (fun _ => hob0)⟩, Keeps.mk (ks := []) rfl ⟨rfl, rfl, rfl, rfl, trivial⟩ (rfl) rfl⟩
    ·
     rintro ⟨out_1, ob1⟩ ⟨rfl, hob1⟩
     try dsimp only at hm1
     rcases ob1 with _ | ob1
     ·
      replace hob1 := hob1 rfl
      refine V.region ?_
      refine VO.cons rfl (V1.int rfl rfl rfl rfl rfl lt0 ?_)
      refine VO.cons rfl (V1.move rfl rfl rfl lt0 ?_)
      refine VO.nil ?_
      exact ⟨(m0, (out_1, (IntKind.i64.wrap (v + (1 : Int)))), none), ⟨hl1 _ (Option.some.inj hm1).symm, (fun _ => hob1)⟩, Nat.lt_succ_self _, Keeps.mk (ks := []) rfl ⟨rfl, rfl, rfl, rfl, trivial⟩ (rfl) rfl⟩
     ·
      refine V.region ?_
      refine VO.cons rfl (V1.int rfl rfl rfl rfl rfl lt0 ?_)
      refine VO.cons rfl (V1.move rfl rfl rfl lt0 ?_)
      refine VO.nil ?_
      exact ⟨(m0, (out_1, (IntKind.i64.wrap (v + (1 : Int)))), (some ob1)), ⟨hl1 _ (Option.some.inj hm1).symm, (fun e => by cases e)⟩, Nat.lt_succ_self _, Keeps.mk (ks := [0]) rfl ⟨rfl, rfl, rfl, rfl, trivial⟩ (⟨_, _, rfl, rfl, rfl⟩) rfl⟩
   ·
    replace hm1 := cond_f hc0 hm1
    refine V.exit ?_
    obtain rfl := hr1 _ (Option.some.inj hm1).symm
    exact ⟨(out_0, ()), rfl, Keeps.trans (Keeps.nilsE (l := out_0) 3 rn 1 encInt hob0 rfl rfl) (Keeps.mk (ks := []) rfl ⟨rfl, trivial⟩ (rfl) rfl)⟩
  ·
   show V _ _ _ ⟨24, [(3, .sref ob0 1 0 (List.length out_0)), (8, .int .i64 v), (6, .vl ρ0 4 (List.map encRule list)), (7, .int .i64 (list.length : Int))], [(ob0, ⟨1, List.map encInt out_0⟩)]⟩
   refine V.seq ?_
   refine V.region ?_
   refine VO.cons rfl (V1.int rfl rfl rfl rfl rfl lt0 ?_)
   refine VO.nil ?_
   refine V.seq ?_
   refine V.cond rfl (fun hc0 => ?_) (fun hc0 => ?_)
   ·
    replace hm1 := cond_t hc0 hm1
    refine V.skip ?_
    refine V.seq ?_
    replace hm1 := bindO hm1; rcases hm1 with ⟨j0, hm2, hm1⟩
    refine V.cutT (D := (List Int) × (Nat)) (fun ⟨out_1, b0⟩ => ⟨24, [(3, .sref b0 1 0 (List.length out_1)), (6, .vl ρ0 4 (List.map encRule list)), (7, .int .i64 (list.length : Int)), (8, .int .i64 v)], [(b0, ⟨1, List.map encInt out_1⟩)]⟩) (fun ⟨out_1, b0⟩ => (out_1 = j0)) ?_ ?_
    ·
     refine V.block ?_
     refine V.seq ?_
     replace hm2 := asrt_some hm2; rcases hm2 with ⟨hh0, hm2⟩
     refine V.region ?_
     refine VO.cons rfl (V1.indexI rfl rfl esz_24 rfl rfl hh0 lt0 ?_)
     refine VO.cons rfl (V1.loadPinAll rfl rfl tyk_50 rfl rfl lt0 ?_)
     refine VO.cons rfl (V1.alloc rfl rfl zk_50 lt0 ?_)
     intro b1
     refine VO.cons rfl (V1.storeRefAll (k := 0) rfl rfl tyk_50 rfl rfl rfl rfl rfl rfl ?_)
     refine VO.nil ?_
     refine V.seq ?_
     replace hm2 := bindO hm2; rcases hm2 with ⟨y1, hh1, hm2⟩
     refine V.region ?_
     refine VO.cons rfl (V1.move rfl rfl rfl lt0 ?_)
     refine VO.cons rfl (V1.fieldRef rfl rfl fo_50_0 rfl lt0 ?_)
     refine VO.cons rfl (V1.loadRef (k := 0) rfl rfl tyk_3 rfl rfl rfl rfl rfl lt0 ?_)
     refine VO.cons rfl (V1.callL (rn + 1) [ob0] [.vl (rn + 1) 1 (List.map encInt out_0), .int .i64 ((list.getD (Int.toNat v) default).Series)] rfl rfl rfl cok_63 rfl ⟨_, _, rfl, Lend.srMap 1 rfl (fun _ => rfl) (.head _), ⟨_, _, rfl, .same _, rfl⟩⟩ (bwCons (k := 1) rfl bwNil) (ok_slices_Contains_int_int hh1) rfl (⟨(by first | omega | (dsimp only; omega)), by rintro _ _ ⟨rfl, rfl⟩; exact ⟨rfl, by simp⟩⟩) lt0 ?_)
     rintro _ _ ⟨rfl, rfl⟩
     refine VO.cons rfl (V1.not rfl rfl rfl lt0 ?_)
     refine VO.nil ?_
     refine V.keep 24 [3, 5, 6, 7, 8, 16] [0, 1] (E0 := [(3, .sref ob0 1 0 (List.length out_0)), (5, .ref b1 4 0 0), (6, .vl ρ0 4 (List.map encRule list)), (7, .int .i64 (list.length : Int)), (8, .int .i64 v), (16, .bool (!y1))]) (H0 := [(b1, ⟨4, [encRule (list.getD (Int.toNat v) default)]⟩), (ob0, ⟨1, List.map encInt out_0⟩)]) rfl (⟨_, _, rfl, rfl, _, _, rfl, rfl, _, _, rfl, rfl, _, _, rfl, rfl, _, _, rfl, rfl, _, _, rfl, rfl, rfl⟩) (⟨_, _, rfl, rfl, _, _, rfl, rfl, rfl⟩) rfl ?_
     refine V.cond rfl (fun hc1 => ?_) (fun hc1 => ?_)
     ·
      replace hm2 := cond_t hc1 hm2
      replace hm2 := asrt_some hm2; rcases hm2 with ⟨hh2, hm2⟩
      refine V.region ?_
      refine VO.cons rfl (V1.move rfl rfl rfl lt0 ?_)
      refine VO.cons rfl (V1.fieldRef rfl rfl fo_50_0 rfl lt0 ?_)
      refine VO.cons rfl (V1.loadRef (k := 0) rfl rfl tyk_3 rfl rfl rfl rfl rfl lt0 ?_)
      refine VO.cons rfl (V1.buildSliceT (f := encInt) ([(list.getD (Int.toNat v) default).Series] : List Int) rfl rfl esz_33 zk_3 rfl rfl rfl rfl rfl rfl rfl lt0 ?_)
      intro b2
      refine VO.cons rfl (V1.appendMap (k := 2) (f := encInt) (l := out_0) (m := ([(list.getD (Int.toNat v) default).Series] : List Int)) rfl rfl rfl rfl rfl esz_33 eby_33 zk_3 rfl rfl rfl (SrcOf.srMap (k := 0) rfl isl_33) hh2 lt0 ?_)
      intro b3
      refine VO.cons rfl (V1.assign rfl rfl rfl lt0 ?_)
      refine VO.nil ?_
      exact ⟨((out_0 ++ ([(list.getD (Int.toNat v) default).Series] : List Int)), b3), Option.some.inj hm2, Keeps.mk (ks := [0]) rfl ⟨rfl, rfl, rfl, rfl, trivial⟩ (⟨_, _, rfl, rfl, rfl⟩) rfl⟩
     ·
      replace hm2 := cond_f hc1 hm2
      refine V.skip ?_
      exact ⟨(out_0, ob0), Option.some.inj hm2, Keeps.mk (ks := [1]) rfl ⟨rfl, rfl, rfl, rfl, trivial⟩ (⟨_, _, rfl, rfl, rfl⟩) rfl⟩
    ·
     rintro ⟨out_1, b0⟩ rfl
     try dsimp only at hm1
     refine V.region ?_
     refine VO.cons rfl (V1.int rfl rfl rfl rfl rfl lt0 ?_)
     refine VO.cons rfl (V1.move rfl rfl rfl lt0 ?_)
     refine VO.nil ?_
     exact ⟨(m0, (out_1, (IntKind.i64.wrap (v + (1 : Int)))), (some b0)), ⟨hl1 _ (Option.some.inj hm1).symm, (fun e => by cases e)⟩, Nat.lt_succ_self _, Keeps.mk (ks := [0]) rfl ⟨rfl, rfl, rfl, rfl, trivial⟩ (⟨_, _, rfl, rfl, rfl⟩) rfl⟩
   ·
    replace hm1 := cond_f hc0 hm1
    refine V.exit ?_
    obtain rfl := hr1 _ (Option.some.inj hm1).symm
    exact ⟨(out_0, ()), rfl, Keeps.trans (Keeps.freezeG 0 rn [(3, .vl rn 1 (List.map encInt out_0))] ([]) (f := encInt) (l := out_0) rfl (fun _ => rfl) ⟨⟨_, rfl, .here⟩, trivial⟩ rfl rfl iNil) (Keeps.mk (ks := []) rfl ⟨rfl, trivial⟩ (rfl) rfl)⟩
 ·
  rintro ⟨out_, _⟩ rfl
  try dsimp only at hm0
  refine V.seq ?_
  refine V.region ?_
  refine VO.cons rfl (V1.move rfl rfl rfl lt0 ?_)
  refine VO.cons rfl (V1.assign rfl rfl rfl lt0 ?_)
  refine VO.nil ?_
  refine V.ret ?_
  obtain rfl := Option.some.inj hm0
  exact ⟨_, [], ⟨_, _, rfl, rfl, rfl⟩, List.nil_sublist _, rfl, rfl⟩

theorem ok_impl_SeriesIn {ρ0 rn : Nat} {list : List Rule} {r : List Int × Bool} (h : M.impl_SeriesIn list = some r) : Does Tryz.prog 13 [.vl ρ0 4 (List.map encRule list)] [] rn (fun x H => ∃ (ob0_ : Option Nat), (ob0_ = none → r.1 = []) ∧ x = .tup [optS 1 ob0_ (List.length r.1), .bool r.2] ∧ H = optH 1 ob0_ (List.map encInt r.1)) := by
 have hm0 := h; clear h; unfold M.impl_SeriesIn at hm0
 try dsimp only at hm0
 refine Does.intro (N := 9) Tryz.func13 rfl rfl rfl rfl ?_
 intro w0 S0 L0
 refine V.seq ?_
 refine V.region ?_
 refine VO.cons rfl (V1.assign rfl rfl rfl lt0 ?_)
 refine VO.cons rfl (V1.assign rfl rfl rfl lt0 ?_)
 refine VO.nil ?_
 refine V.seq ?_
 refine V.seq ?_
 replace hm0 := bindO hm0; rcases hm0 with ⟨y0, hh0, hm0⟩
 refine V.region ?_
 refine VO.cons rfl (V1.move rfl rfl rfl lt0 ?_)
 refine VO.cons rfl (V1.call rfl rfl rfl cok_9 rfl (ok_impl_IsSchedule hh0) rfl lt0 ?_)
 rintro _ _ ⟨rfl, rfl⟩
 refine VO.cons rfl (V1.not rfl rfl rfl lt0 ?_)
 refine VO.nil ?_
 refine V.keep 9 [0, 6] [] (E0 := [(0, .vl ρ0 4 (List.map encRule list)), (6, .bool (!y0))]) (H0 := []) rfl (⟨_, _, rfl, rfl, _, _, rfl, rfl, rfl⟩) (rfl) rfl ?_
 refine V.cond rfl (fun hc0 => ?_) (fun hc0 => ?_)
 ·
  replace hm0 := cond_t hc0 hm0
  refine V.seq ?_
  refine V.region ?_
  refine VO.cons rfl (V1.assign rfl rfl rfl lt0 ?_)
  refine VO.cons rfl (V1.assign rfl rfl rfl lt0 ?_)
  refine VO.nil ?_
  refine V.keep 9 [2, 3] [] (E0 := [(2, .nils), (3, .bool false)]) (H0 := []) rfl (⟨_, _, rfl, rfl, _, _, rfl, rfl, rfl⟩) (rfl) rfl ?_
  refine V.ret ?_
  obtain rfl := Option.some.inj hm0
  exact ⟨_, _, ⟨_, _, rfl, rfl, _, _, rfl, rfl, rfl⟩, List.Sublist.refl _, none, (fun _ => rfl), rfl, rfl⟩
 ·
  replace hm0 := cond_f hc0 hm0
  refine V.skip ?_
  refine V.seq ?_
  replace hm0 := bindO hm0; rcases hm0 with ⟨y1, hh1, hm0⟩
  refine V.region ?_
  refine VO.cons rfl (V1.move rfl rfl rfl lt0 ?_)
  refine VO.cons rfl (V1.permK (V1.call rfl rfl rfl cok_35 rfl (ok_impl_seriesIn hh1) rfl lt0 ?_))
  rintro _ _ ⟨ob0, hob0, rfl, rfl⟩
  refine ⟨_, ?_, Keeps.optBack (n := 1) (ob := ob0) (xs := List.map encInt y1) (H1 := []) (H2 := []) rfl⟩
  refine VO.cons rfl (V1.assign rfl rfl rfl lt0 ?_)
  refine VO.cons rfl (V1.assign rfl rfl rfl lt0 ?_)
  refine VO.nil ?_
  rcases ob0 with _ | ob0
  ·
   refine V.keep 9 [2, 3] [] (E0 := [(2, .nils), (3, .bool true)]) (H0 := []) rfl (⟨_, _, rfl, rfl, _, _, rfl, rfl, rfl⟩) (rfl) rfl ?_
   refine V.ret ?_
   obtain rfl := Option.some.inj hm0
   exact ⟨_, _, ⟨_, _, rfl, rfl, _, _, rfl, rfl, rfl⟩, List.Sublist.refl _, none, (fun _ => (hob0 rfl)), rfl, rfl⟩
  ·
   refine V.keep 9 [2, 3] [0] (E0 := [(2, .sref ob0 1 0 (List.length y1)), (3, .bool true)]) (H0 := [(ob0, ⟨1, List.map encInt y1⟩)]) rfl (⟨_, _, rfl, rfl, _, _, rfl, rfl, rfl⟩) (⟨_, _, rfl, rfl, rfl⟩) rfl ?_
   refine V.ret ?_
   obtain rfl := Option.some.inj hm0
   exact ⟨_, _, ⟨_, _, rfl, rfl, _, _, rfl, rfl, rfl⟩, List.Sublist.refl _, some ob0, (fun e => by cases e), rfl, rfl⟩

theorem ok_spec_l1Has {ρ0 rn : Nat} {l : List Int} {n : Int} {r : Bool} (h : M.spec_l1Has l n = some r) : Does Tryz.prog 36 [.vl ρ0 1 (List.map encInt l), .int .i64 n] [] rn (fun x H => x = .bool r ∧ H = []) := by
 have hm0 := h; clear h; unfold M.spec_l1Has at hm0
 try dsimp only at hm0
 refine Does.intro (N := 18) Tryz.func36 rfl rfl rfl rfl ?_
 intro w0 S0 L0
 refine V.seq ?_
 refine V.region ?_
 refine VO.cons rfl (V1.assign rfl rfl rfl lt0 ?_)
 refine VO.nil ?_
 refine V.seq ?_
 refine V.seq ?_
 refine V.region ?_
 refine VO.cons rfl (V1.assign rfl rfl rfl lt0 ?_)
 refine VO.nil ?_
 replace hm0 := bindO hm0; rcases hm0 with ⟨e0, he1, hm0⟩
 refine V.cutT (D := (Unit) × (Unit)) (fun ⟨_, _⟩ => ⟨18, [], []⟩) (fun ⟨_, _⟩ => (.inl () = e0)) ?_ ?_
 ·
  refine V.block ?_
  refine V.keep 18 [5, 0, 1] [] (E0 := [(5, .int .i64 (0 : Int)), (0, .vl ρ0 1 (List.map encInt l)), (1, .int .i64 n)]) (H0 := []) rfl (⟨_, _, rfl, rfl, _, _, rfl, rfl, _, _, rfl, rfl, rfl⟩) (rfl) rfl ?_
  refine V.loopE (D := Nat × (Int) × (Unit)) (fun ⟨n0, i, _⟩ => [(5, .int .i64 i)]) (fun ⟨n0, i, _⟩ => []) (fun ⟨n0, i, _⟩ => loopO (M.spec_l1Has_l0 l n) n0 i = some e0) (fun ⟨n0, _, _⟩ => n0) (rounds, (0 : Int), ()) rfl he1 ?_
  rintro ⟨n0, i, _⟩ hP0
  obtain ⟨m0, y0, rfl, hm1, hl1, hr1⟩ := loop_head hP0
  unfold M.spec_l1Has_l0 at hm1; dsimp only at hm1
  show V _ _ _ ⟨18, [(5, .int .i64 i), (0, .vl ρ0 1 (List.map encInt l)), (1, .int .i64 n)], []⟩
  refine V.seq ?_
  refine V.seq ?_
  refine V.region ?_
  refine VO.cons rfl (V1.move rfl rfl rfl lt0 ?_)
  refine VO.cons rfl (V1.move rfl rfl rfl lt0 ?_)
  refine VO.cons rfl (V1.lenMap rfl rfl rfl rfl rfl rfl isl_33 lt0 ?_)
  refine VO.cons rfl (V1.int rfl rfl rfl rfl rfl lt0 ?_)
  refine VO.nil ?_
  refine V.cond rfl (fun hc0 => ?_) (fun hc0 => ?_)
  ·
   replace hm1 := cond_t hc0 hm1
   refine V.skip ?_
   refine V.keep 18 [0, 1, 5] [] (E0 := [(0, .vl ρ0 1 (List.map encInt l)), (1, .int .i64 n), (5, .int .i64 i)]) (H0 := []) rfl (⟨_, _, rfl, rfl, _, _, rfl, rfl, _, _, rfl, rfl, rfl⟩) (rfl) rfl ?_
   refine V.seq ?_
   refine V.block ?_
   refine V.seq ?_
   replace hm1 := asrt_some hm1; rcases hm1 with ⟨hh0, hm1⟩
   refine V.region ?_
   refine VO.cons rfl (V1.move rfl rfl rfl lt0 ?_)
   refine VO.cons rfl (V1.move rfl rfl rfl lt0 ?_)
   refine VO.cons rfl (V1.indexI rfl rfl esz_33 rfl rfl hh0 lt0 ?_)
   refine VO.cons rfl (V1.loadPin rfl rfl tyk_3 rfl rfl lt0 ?_)
   refine VO.cons rfl (V1.move rfl rfl rfl lt0 ?_)
   refine VO.cons rfl (V1.int rfl rfl rfl rfl rfl lt0 ?_)
   refine VO.nil ?_
   refine V.keep 18 [0, 1, 5, 17] [] (E0 := [(0, .vl ρ0 1 (List.map encInt l)), (1, .int .i64 n), (5, .int .i64 i), (17, .bool ((l.getD (Int.toNat i) default) == n))]) (H0 := []) rfl (⟨_, _, rfl, rfl, _, _, rfl, rfl, _, _, rfl, rfl, _, _, rfl, rfl, rfl⟩) (rfl) rfl ?_
   refine V.cond rfl (fun hc1 => ?_) (fun hc1 => ?_)
   ·
    replace hm1 := cond_t hc1 hm1
    refine V.seq ?_
    refine V.region ?_
    refine VO.cons rfl (V1.assign rfl rfl rfl lt0 ?_)
    refine VO.nil ?_
    refine V.ret ?_
    obtain rfl := hr1 _ (Option.some.inj hm1).symm
    change some _ = some _ at hm0
    obtain rfl := Option.some.inj hm0
    exact ⟨_, [], ⟨_, _, rfl, rfl, rfl⟩, List.nil_sublist _, rfl, rfl⟩
   ·
    replace hm1 := cond_f hc1 hm1
    refine V.skip ?_
    refine V.region ?_
    refine VO.cons rfl (V1.move rfl rfl rfl lt0 ?_)
    refine VO.cons rfl (V1.int rfl rfl rfl rfl rfl lt0 ?_)
    refine VO.cons rfl (V1.assign rfl rfl rfl lt0 ?_)
    refine VO.nil ?_
    exact ⟨(m0, (IntKind.i64.wrap (i + (1 : Int))), ()), hl1 _ (Option.some.inj hm1).symm, Nat.lt_succ_self _, Keeps.mk (ks := []) rfl ⟨rfl, rfl, rfl, trivial⟩ (rfl) rfl⟩
  ·
   replace hm1 := cond_f hc0 hm1
   refine V.exit ?_
   obtain rfl := hr1 _ (Option.some.inj hm1).symm
   exact ⟨((), ()), rfl, Keeps.mk (ks := []) rfl trivial (rfl) rfl⟩
 ·
  rintro ⟨_, _⟩ rfl
  try dsimp only at hm0
  refine V.seq ?_
  refine V.region ?_
  refine VO.cons rfl (V1.assign rfl rfl rfl lt0 ?_)
  refine VO.nil ?_
  refine V.ret ?_
  obtain rfl := Option.some.inj hm0
  exact ⟨_, [], ⟨_, _, rfl, rfl, rfl⟩, List.nil_sublist _, rfl, rfl⟩

theorem ok_spec_SeriesIn {ρ0 rn : Nat} {list : List Rule} {r : List Int × Bool} (h : M.spec_SeriesIn list = some r) : Does Tryz.prog 14 [.vl ρ0 4 (List.map encRule list)] [] rn (fun x H => ∃ (ob0_ : Nat), x = .tup [PV.sref ob0_ 1 0 (List.length r.1), .bool r.2] ∧ H = [(ob0_, ⟨1, List.map encInt r.1⟩)]) := by
 have hm0 := h; clear h; unfold M.spec_SeriesIn at hm0
 try dsimp only at hm0
 refine Does.intro (N := 34) Tryz.func14 rfl rfl rfl rfl ?_
 intro w0 S0 L0
 refine V.seq ?_
 refine V.region ?_
 refine VO.cons rfl (V1.assign rfl rfl rfl lt0 ?_)
 refine VO.cons rfl (V1.assign rfl rfl rfl lt0 ?_)
 refine VO.nil ?_
 refine V.seq ?_
 refine V.region ?_
 refine VO.cons rfl (V1.buildSliceT (f := encInt) ([] : List Int) rfl rfl esz_33 zk_3 rfl rfl rfl rfl rfl rfl rfl lt0 ?_)
 intro b0
 refine VO.cons rfl (V1.assign rfl rfl rfl lt0 ?_)
 refine VO.nil ?_
 refine V.seq ?_
 refine V.seq ?_
 replace hm0 := bindO hm0; rcases hm0 with ⟨y0, hh0, hm0⟩
 refine V.region ?_
 refine VO.cons rfl (V1.move rfl rfl rfl lt0 ?_)
 refine VO.cons rfl (V1.call rfl rfl rfl cok_26 rfl (ok_spec_l4Good hh0) rfl lt0 ?_)
 rintro _ _ ⟨rfl, rfl⟩
 refine VO.cons rfl (V1.not rfl rfl rfl lt0 ?_)
 refine VO.nil ?_
 refine V.keep 34 [0, 4, 9] [0] (E0 := [(0, .vl ρ0 4 (List.map encRule list)), (4, .sref b0 1 0 (List.length ([] : List Int))), (9, .bool (!y0))]) (H0 := [(b0, ⟨1, List.map encInt ([] : List Int)⟩)]) rfl (⟨_, _, rfl, rfl, _, _, rfl, rfl, _, _, rfl, rfl, rfl⟩) (⟨_, _, rfl, rfl, rfl⟩) rfl ?_
 refine V.cond rfl (fun hc0 => ?_) (fun hc0 => ?_)
 ·
  replace hm0 := cond_t hc0 hm0
  refine V.seq ?_
  refine V.region ?_
  refine VO.cons rfl (V1.move rfl rfl rfl lt0 ?_)
  refine VO.cons rfl (V1.assign rfl rfl rfl lt0 ?_)
  refine VO.cons rfl (V1.assign rfl rfl rfl lt0 ?_)
  refine VO.nil ?_
  refine V.keep 34 [2, 3] [0] (E0 := [(2, .sref b0 1 0 (List.length ([] : List Int))), (3, .bool false)]) (H0 := [(b0, ⟨1, List.map encInt ([] : List Int)⟩)]) rfl (⟨_, _, rfl, rfl, _, _, rfl, rfl, rfl⟩) (⟨_, _, rfl, rfl, rfl⟩) rfl ?_
  refine V.ret ?_
  obtain rfl := Option.some.inj hm0
  exact ⟨_, _, ⟨_, _, rfl, rfl, _, _, rfl, rfl, rfl⟩, List.Sublist.refl _, b0, rfl, rfl⟩
 ·
  replace hm0 := cond_f hc0 hm0
  refine V.skip ?_
  refine V.seq ?_
  refine V.seq ?_
  refine V.region ?_
  refine VO.cons rfl (V1.assign rfl rfl rfl lt0 ?_)
  refine VO.nil ?_
  replace hm0 := bindO hm0; rcases hm0 with ⟨e0, he1, hm0⟩
  refine V.cutT (D := (List Int) × (Nat)) (fun ⟨out_, b1⟩ => ⟨34, [(4, .sref b1 1 0 (List.length out_))], [(b1, ⟨1, List.map encInt out_⟩)]⟩) (fun ⟨out_, b1⟩ => (out_ = e0)) ?_ ?_
  ·
   refine V.block ?_
   refine V.keep 34 [4, 5, 0] [0] (E0 := [(4, .sref b0 1 0 (List.length ([] : List Int))), (5, .int .i64 (0 : Int)), (0, .vl ρ0 4 (List.map encRule list))]) (H0 := [(b0, ⟨1, List.map encInt ([] : List Int)⟩)]) rfl (⟨_, _, rfl, rfl, _, _, rfl, rfl, _, _, rfl, rfl, rfl⟩) (⟨_, _, rfl, rfl, rfl⟩) rfl ?_
   refine V.loopE (D := Nat × (List Int × Int) × (Nat)) (fun ⟨n0, ⟨out_0, i⟩, b2⟩ => [(4, .sref b2 1 0 (List.length out_0)), (5, .int .i64 i)]) (fun ⟨n0, ⟨out_0, i⟩, b2⟩ => [(b2, ⟨1, List.map encInt out_0⟩)]) (fun ⟨n0, ⟨out_0, i⟩, b2⟩ => loopO (M.spec_SeriesIn_l0 list) n0 (out_0, i) = some e0) (fun ⟨n0, _, _⟩ => n0) (rounds, (([] : List Int), (0 : Int)), b0) rfl he1 ?_
   rintro ⟨n0, ⟨out_0, i⟩, b2⟩ hP0
   obtain ⟨m0, y1, rfl, hm1, hl1, hr1⟩ := loop_head hP0
   unfold M.spec_SeriesIn_l0 at hm1; dsimp only at hm1
   show V _ _ _ ⟨34, [(4, .sref b2 1 0 (List.length out_0)), (5, .int .i64 i), (0, .vl ρ0 4 (List.map encRule list))], [(b2, ⟨1, List.map encInt out_0⟩)]⟩
   refine V.seq ?_
   refine V.seq ?_
   refine V.region ?_
   refine VO.cons rfl (V1.move rfl rfl rfl lt0 ?_)
   refine VO.cons rfl (V1.move rfl rfl rfl lt0 ?_)
   refine VO.cons rfl (V1.lenMap rfl rfl rfl rfl rfl rfl isl_24 lt0 ?_)
   refine VO.cons rfl (V1.int rfl rfl rfl rfl rfl lt0 ?_)
   refine VO.nil ?_
   refine V.cond rfl (fun hc1 => ?_) (fun hc1 => ?_)
   ·
    replace hm1 := cond_t hc1 hm1
    refine V.skip ?_
    refine V.keep 34 [0, 4, 5] [0] (E0 := [(0, .vl ρ0 4 (List.map encRule list)), (4, .sref b2 1 0 (List.length out_0)), (5, .int .i64 i)]) (H0 := [(b2, ⟨1, List.map encInt out_0⟩)]) rfl (⟨_, _, rfl, rfl, _, _, rfl, rfl, _, _, rfl, rfl, rfl⟩) (⟨_, _, rfl, rfl, rfl⟩) rfl ?_
    refine V.seq ?_
    replace hm1 := bindO hm1; rcases hm1 with ⟨j0, hm2, hm1⟩
    refine V.cutT (D := (List Int) × (Nat)) (fun ⟨out_1, b3⟩ => ⟨34, [(4, .sref b3 1 0 (List.length out_1)), (0, .vl ρ0 4 (List.map encRule list)), (5, .int .i64 i)], [(b3, ⟨1, List.map encInt out_1⟩)]⟩) (fun ⟨out_1, b3⟩ => (out_1 = j0)) ?_ ?_
    ·
     refine V.block ?_
     refine V.seq ?_
     replace hm2 := asrt_some hm2; rcases hm2 with ⟨hh1, hm2⟩
     replace hm2 := bindO hm2; rcases hm2 with ⟨y2, hh2, hm2⟩
     refine V.region ?_
     refine VO.cons rfl (V1.move rfl rfl rfl lt0 ?_)
     refine VO.cons rfl (V1.move rfl rfl rfl lt0 ?_)
     refine VO.cons rfl (V1.move rfl rfl rfl lt0 ?_)
     refine VO.cons rfl (V1.indexI rfl rfl esz_24 rfl rfl hh1 lt0 ?_)
     refine VO.cons rfl (V1.fieldPin rfl rfl fo_50_0 rfl lt0 ?_)
     refine VO.cons rfl (V1.loadPin rfl rfl tyk_3 rfl rfl lt0 ?_)
     refine VO.cons rfl (V1.callL (rn + 1) [b2] [.vl (rn + 1) 1 (List.map encInt out_0), .int .i64 ((list.getD (Int.toNat i) default).Series)] rfl rfl rfl cok_36 rfl ⟨_, _, rfl, Lend.srMap 0 rfl (fun _ => rfl) (.head _), ⟨_, _, rfl, .same _, rfl⟩⟩ (bwCons (k := 0) rfl bwNil) (ok_spec_l1Has hh2) rfl (⟨(by first | omega | (dsimp only; omega)), by rintro _ _ ⟨rfl, rfl⟩; exact ⟨rfl, by simp⟩⟩) lt0 ?_)
     rintro _ _ ⟨rfl, rfl⟩
     refine VO.cons rfl (V1.not rfl rfl rfl lt0 ?_)
     refine VO.nil ?_
     refine V.keep 34 [0, 4, 5, 24] [0] (E0 := [(0, .vl ρ0 4 (List.map encRule list)), (4, .sref b2 1 0 (List.length out_0)), (5, .int .i64 i), (24, .bool (!y2))]) (H0 := [(b2, ⟨1, List.map encInt out_0⟩)]) rfl (⟨_, _, rfl, rfl, _, _, rfl, rfl, _, _, rfl, rfl, _, _, rfl, rfl, rfl⟩) (⟨_, _, rfl, rfl, rfl⟩) rfl ?_
     refine V.cond rfl (fun hc2 => ?_) (fun hc2 => ?_)
     ·
      replace hm2 := cond_t hc2 hm2
      replace hm2 := asrt_some hm2; rcases hm2 with ⟨hh3, hm2⟩
      replace hm2 := asrt_some hm2; rcases hm2 with ⟨hh4, hm2⟩
      refine V.region ?_
      refine VO.cons rfl (V1.move rfl rfl rfl lt0 ?_)
      refine VO.cons rfl (V1.move rfl rfl rfl lt0 ?_)
      refine VO.cons rfl (V1.move rfl rfl rfl lt0 ?_)
      refine VO.cons rfl (V1.indexI rfl rfl esz_24 rfl rfl hh3 lt0 ?_)
      refine VO.cons rfl (V1.fieldPin rfl rfl fo_50_0 rfl lt0 ?_)
      refine VO.cons rfl (V1.loadPin rfl rfl tyk_3 rfl rfl lt0 ?_)
      refine VO.cons rfl (V1.buildSliceT (f := encInt) ([(list.getD (Int.toNat i) default).Series] : List Int) rfl rfl esz_33 zk_3 rfl rfl rfl rfl rfl rfl rfl lt0 ?_)
      intro b4
      refine VO.cons rfl (V1.appendMap (k := 1) (f := encInt) (l := out_0) (m := ([(list.getD (Int.toNat i) default).Series] : List Int)) rfl rfl rfl rfl rfl esz_33 eby_33 zk_3 rfl rfl rfl (SrcOf.srMap (k := 0) rfl isl_33) hh4 lt0 ?_)
      intro b5
      refine VO.cons rfl (V1.assign rfl rfl rfl lt0 ?_)
      refine VO.nil ?_
      exact ⟨((out_0 ++ ([(list.getD (Int.toNat i) default).Series] : List Int)), b5), Option.some.inj hm2, Keeps.mk (ks := [0]) rfl ⟨rfl, rfl, rfl, trivial⟩ (⟨_, _, rfl, rfl, rfl⟩) rfl⟩
     ·
      replace hm2 := cond_f hc2 hm2
      refine V.skip ?_
      exact ⟨(out_0, b2), Option.some.inj hm2, Keeps.mk (ks := [0]) rfl ⟨rfl, rfl, rfl, trivial⟩ (⟨_, _, rfl, rfl, rfl⟩) rfl⟩
    ·
     rintro ⟨out_1, b3⟩ rfl
     try dsimp only at hm1
     refine V.region ?_
     refine VO.cons rfl (V1.move rfl rfl rfl lt0 ?_)
     refine VO.cons rfl (V1.int rfl rfl rfl rfl rfl lt0 ?_)
     refine VO.cons rfl (V1.assign rfl rfl rfl lt0 ?_)
     refine VO.nil ?_
     exact ⟨(m0, (out_1, (IntKind.i64.wrap (i + (1 : Int)))), b3), hl1 _ (Option.some.inj hm1).symm, Nat.lt_succ_self _, Keeps.mk (ks := [0]) rfl ⟨rfl, rfl, rfl, trivial⟩ (⟨_, _, rfl, rfl, rfl⟩) rfl⟩
   ·
    replace hm1 := cond_f hc1 hm1
    refine V.exit ?_
    obtain rfl := hr1 _ (Option.some.inj hm1).symm
    exact ⟨(out_0, b2), rfl, Keeps.mk (ks := [0]) rfl ⟨rfl, trivial⟩ (⟨_, _, rfl, rfl, rfl⟩) rfl⟩
  ·
   rintro ⟨out_, b1⟩ rfl
   try dsimp only at hm0
   refine V.seq ?_
   refine V.region ?_
   refine VO.cons rfl (V1.move rfl rfl rfl lt0 ?_)
   refine VO.cons rfl (V1.assign rfl rfl rfl lt0 ?_)
   refine VO.cons rfl (V1.assign rfl rfl rfl lt0 ?_)
   refine VO.nil ?_
   refine V.keep 34 [2, 3] [0] (E0 := [(2, .sref b1 1 0 (List.length out_)), (3, .bool true)]) (H0 := [(b1, ⟨1, List.map encInt out_⟩)]) rfl (⟨_, _, rfl, rfl, _, _, rfl, rfl, rfl⟩) (⟨_, _, rfl, rfl, rfl⟩) rfl ?_
   refine V.ret ?_
   obtain rfl := Option.some.inj hm0
   exact ⟨_, _, ⟨_, _, rfl, rfl, _, _, rfl, rfl, rfl⟩, List.Sublist.refl _, b1, rfl, rfl⟩

theorem ok_laws_vInts {ρ0 ρ1 rn : Nat} {a : List Int} {b_ : List Int} {r : Bool} (h : M.laws_vInts a b_ = some r) : Does Tryz.prog 15 [.vl ρ0 1 (List.map encInt a), .vl ρ1 1 (List.map encInt b_)] [] rn (fun x H => x = .bool r ∧ H = []) := by
 have hm0 := h; clear h; unfold M.laws_vInts at hm0
 try dsimp only at hm0
 refine Does.intro (N := 26) Tryz.func15 rfl rfl rfl rfl ?_
 intro w0 S0 L0
 refine V.seq ?_
 refine V.region ?_
 refine VO.cons rfl (V1.assign rfl rfl rfl lt0 ?_)
 refine VO.nil ?_
 refine V.seq ?_
 refine V.seq ?_
 refine V.region ?_
 refine VO.cons rfl (V1.move rfl rfl rfl lt0 ?_)
 refine VO.cons rfl (V1.lenMap rfl rfl rfl rfl rfl rfl isl_33 lt0 ?_)
 refine VO.cons rfl (V1.move rfl rfl rfl lt0 ?_)
 refine VO.cons rfl (V1.lenMap rfl rfl rfl rfl rfl rfl isl_33 lt0 ?_)
 refine VO.cons rfl (V1.int rfl rfl rfl rfl rfl lt0 ?_)
 refine VO.nil ?_
 refine V.keep 26 [0, 1, 10] [] (E0 := [(0, .vl ρ0 1 (List.map encInt a)), (1, .vl ρ1 1 (List.map encInt b_)), (10, .bool ((a.length : Int) != (b_.length : Int)))]) (H0 := []) rfl (⟨_, _, rfl, rfl, _, _, rfl, rfl, _, _, rfl, rfl, rfl⟩) (rfl) rfl ?_
 refine V.cond rfl (fun hc0 => ?_) (fun hc0 => ?_)
 ·
  replace hm0 := cond_t hc0 hm0
  refine V.seq ?_
  refine V.region ?_
  refine VO.cons rfl (V1.assign rfl rfl rfl lt0 ?_)
  refine VO.nil ?_
  refine V.ret ?_
  obtain rfl := Option.some.inj hm0
  exact ⟨_, [], ⟨_, _, rfl, rfl, rfl⟩, List.nil_sublist _, rfl, rfl⟩
 ·
  replace hm0 := cond_f hc0 hm0
  refine V.skip ?_
  refine V.seq ?_
  refine V.seq ?_
  refine V.region ?_
  refine VO.cons rfl (V1.assign rfl rfl rfl lt0 ?_)
  refine VO.nil ?_
  replace hm0 := bindO hm0; rcases hm0 with ⟨e0, he1, hm0⟩
  refine V.cutT (D := (Unit) × (Unit)) (fun ⟨_, _⟩ => ⟨26, [], []⟩) (fun ⟨_, _⟩ => (.inl () = e0)) ?_ ?_
  ·
   refine V.block ?_
   refine V.keep 26 [5, 0, 1] [] (E0 := [(5, .int .i64 (0 : Int)), (0, .vl ρ0 1 (List.map encInt a)), (1, .vl ρ1 1 (List.map encInt b_))]) (H0 := []) rfl (⟨_, _, rfl, rfl, _, _, rfl, rfl, _, _, rfl, rfl, rfl⟩) (rfl) rfl ?_
   refine V.loopE (D := Nat × (Int) × (Unit)) (fun ⟨n0, i, _⟩ => [(5, .int .i64 i)]) (fun ⟨n0, i, _⟩ => []) (fun ⟨n0, i, _⟩ => loopO (M.laws_vInts_l0 a b_) n0 i = some e0) (fun ⟨n0, _, _⟩ => n0) (rounds, (0 : Int), ()) rfl he1 ?_
   rintro ⟨n0, i, _⟩ hP0
   obtain ⟨m0, y0, rfl, hm1, hl1, hr1⟩ := loop_head hP0
   unfold M.laws_vInts_l0 at hm1; dsimp only at hm1
   show V _ _ _ ⟨26, [(5, .int .i64 i), (0, .vl ρ0 1 (List.map encInt a)), (1, .vl ρ1 1 (List.map encInt b_))], []⟩
   refine V.seq ?_
   refine V.seq ?_
   refine V.region ?_
   refine VO.cons rfl (V1.move rfl rfl rfl lt0 ?_)
   refine VO.cons rfl (V1.move rfl rfl rfl lt0 ?_)
   refine VO.cons rfl (V1.lenMap rfl rfl rfl rfl rfl rfl isl_33 lt0 ?_)
   refine VO.cons rfl (V1.int rfl rfl rfl rfl rfl lt0 ?_)
   refine VO.nil ?_
   refine V.cond rfl (fun hc1 => ?_) (fun hc1 => ?_)
   ·
    replace hm1 := cond_t hc1 hm1
    refine V.skip ?_
    refine V.keep 26 [0, 1, 5] [] (E0 := [(0, .vl ρ0 1 (List.map encInt a)), (1, .vl ρ1 1 (List.map encInt b_)), (5, .int .i64 i)]) (H0 := []) rfl (⟨_, _, rfl, rfl, _, _, rfl, rfl, _, _, rfl, rfl, rfl⟩) (rfl) rfl ?_
    refine V.seq ?_
    refine V.block ?_
    refine V.seq ?_
    replace hm1 := asrt_some hm1; rcases hm1 with ⟨hh0, hm1⟩
    replace hm1 := asrt_some hm1; rcases hm1 with ⟨hh1, hm1⟩
    refine V.regionM 26 8 [⟨[(0, none)], [], none⟩, ⟨[(5, none)], [], none⟩, ⟨[(17, some 1), (18, some 0)], [], none⟩, ⟨[(19, some 0)], [], none⟩, ⟨[(1, none)], [], none⟩, ⟨[(5, none)], [], none⟩, ⟨[(21, some 1), (22, some 0)], [], none⟩, ⟨[(23, some 0)], [], none⟩] [(0, none), (1, none), (5, none), (20, some 4), (24, some 0)] (⟨_, rfl, ⟨_, rfl, ⟨_, rfl, ⟨_, rfl, ⟨_, rfl, ⟨_, rfl, ⟨_, rfl, ⟨_, rfl, ⟨rfl, rfl⟩⟩⟩⟩⟩⟩⟩⟩⟩) mixed_orders rfl (by decide +kernel) (fun hck6 => ?_)
    refine VP.step (p := ?pv65) rfl rfl rfl (⟨_, _, rfl, rfl, rfl⟩) ?hv65 ?rest65 hck6
    case hv65 =>
     intro E1
     refine (V1.move rfl rfl rfl lt0 ?_)
     exact rfl
    refine VP.step (p := ?pv66) rfl rfl rfl (⟨_, _, rfl, rfl, rfl⟩) ?hv66 ?rest66 hck6
    case hv66 =>
     intro E1
     refine (V1.move rfl rfl rfl lt0 ?_)
     exact rfl
    refine VP.step (p := ?pv67) rfl rfl rfl (⟨_, _, rfl, rfl, _, _, rfl, rfl, rfl⟩) ?hv67 ?rest67 hck6
    case hv67 =>
     intro E1
     refine (V1.indexI rfl rfl esz_33 rfl rfl hh0 lt0 ?_)
     exact rfl
    refine VP.step (p := ?pv68) rfl rfl rfl (⟨_, _, rfl, rfl, rfl⟩) ?hv68 ?rest68 hck6
    case hv68 =>
     intro E1
     refine (V1.loadPin rfl rfl tyk_3 rfl rfl lt0 ?_)
     exact rfl
    refine VP.step (p := ?pv69) rfl rfl rfl (⟨_, _, rfl, rfl, rfl⟩) ?hv69 ?rest69 hck6
    case hv69 =>
     intro E1
     refine (V1.move rfl rfl rfl lt0 ?_)
     exact rfl
    refine VP.step (p := ?pv70) rfl rfl rfl (⟨_, _, rfl, rfl, rfl⟩) ?hv70 ?rest70 hck6
    case hv70 =>
     intro E1
     refine (V1.move rfl rfl rfl lt0 ?_)
     exact rfl
    refine VP.step (p := ?pv71) rfl rfl rfl (⟨_, _, rfl, rfl, _, _, rfl, rfl, rfl⟩) ?hv71 ?rest71 hck6
    case hv71 =>
     intro E1
     refine (V1.indexI rfl rfl esz_33 rfl rfl hh1 lt0 ?_)
     exact rfl
    refine VP.step (p := ?pv72) rfl rfl rfl (⟨_, _, rfl, rfl, rfl⟩) ?hv72 ?rest72 hck6
    case hv72 =>
     intro E1
     refine (V1.loadPin rfl rfl tyk_3 rfl rfl lt0 ?_)
     exact rfl
    refine VP.fin rfl (⟨_, _, rfl, rfl, _, _, rfl, rfl, _, _, rfl, rfl, _, _, rfl, rfl, _, _, rfl, rfl, rfl⟩) ?_
    refine VO.cons rfl (V1.int rfl rfl rfl rfl rfl lt0 ?_)
    refine VO.nil ?_
    refine V.cond rfl (fun hc2 => ?_) (fun hc2 => ?_)
    ·
     replace hm1 := cond_t hc2 hm1
     refine V.seq ?_
     refine V.region ?_
     refine VO.cons rfl (V1.assign rfl rfl rfl lt0 ?_)
     refine VO.nil ?_
     refine V.ret ?_
     obtain rfl := hr1 _ (Option.some.inj hm1).symm
     change some _ = some _ at hm0
     obtain rfl := Option.some.inj hm0
     exact ⟨_, [], ⟨_, _, rfl, rfl, rfl⟩, List.nil_sublist _, rfl, rfl⟩
    ·
     replace hm1 := cond_f hc2 hm1
     refine V.skip ?_
     refine V.region ?_
     refine VO.cons rfl (V1.move rfl rfl rfl lt0 ?_)
     refine VO.cons rfl (V1.int rfl rfl rfl rfl rfl lt0 ?_)
     refine VO.cons rfl (V1.assign rfl rfl rfl lt0 ?_)
     refine VO.nil ?_
     exact ⟨(m0, (IntKind.i64.wrap (i + (1 : Int))), ()), hl1 _ (Option.some.inj hm1).symm, Nat.lt_succ_self _, Keeps.mk (ks := []) rfl ⟨rfl, rfl, rfl, trivial⟩ (rfl) rfl⟩
   ·
    replace hm1 := cond_f hc1 hm1
    refine V.exit ?_
    obtain rfl := hr1 _ (Option.some.inj hm1).symm
    exact ⟨((), ()), rfl, Keeps.mk (ks := []) rfl trivial (rfl) rfl⟩
  ·
   rintro ⟨_, _⟩ rfl
   try dsimp only at hm0
   refine V.seq ?_
   refine V.region ?_
   refine VO.cons rfl (V1.assign rfl rfl rfl lt0 ?_)
   refine VO.nil ?_
   refine V.ret ?_
   obtain rfl := Option.some.inj hm0
   exact ⟨_, [], ⟨_, _, rfl, rfl, rfl⟩, List.nil_sublist _, rfl, rfl⟩

theorem ok_impl_rulesFor {ρ0 rn : Nat} {list : List Rule} {series : Int} {r : List Rule} (h : M.impl_rulesFor list series = some r) : Does Tryz.prog 38 [.vl ρ0 4 (List.map encRule list), .int .i64 series] [] rn (fun x H => ∃ (ob0_ : Option Nat), (ob0_ = none → r = []) ∧ x = optS 4 ob0_ (List.length r) ∧ H = optH 4 ob0_ (List.map encRule r)) := by
 have hm0 := h; clear h; unfold M.impl_rulesFor at hm0
 try dsimp only at hm0
 refine Does.intro (N := 24) Tryz.func38 rfl rfl rfl rfl ?_
 intro w0 S0 L0
 refine V.seq ?_
 refine V.region ?_
 refine VO.cons rfl (V1.assign rfl rfl rfl lt0 ?_)
 refine VO.nil ?_
 refine V.seq ?_
 refine V.region ?_
 refine VO.cons rfl (V1.assign rfl rfl rfl lt0 ?_)
 refine VO.nil ?_
 refine V.seq ?_
 refine V.seq ?_
 refine V.region ?_
 refine VO.cons rfl (V1.move rfl rfl rfl lt0 ?_)
 refine VO.cons rfl (V1.lenMap rfl rfl rfl rfl rfl rfl isl_24 lt0 ?_)
 refine VO.cons rfl (V1.move rfl rfl rfl lt0 ?_)
 refine VO.nil ?_
 replace hm0 := bindO hm0; rcases hm0 with ⟨e0, he1, hm0⟩
 refine V.cutT (D := (List Rule) × (Option Nat)) (fun ⟨out_, ob0⟩ => ⟨24, [(5, optS 4 ob0 (List.length out_))], optH 4 ob0 (List.map encRule out_)⟩) (fun ⟨out_, ob0⟩ => (out_ = e0) ∧ (ob0 = none → out_ = [])) ?_ ?_
 ·
  refine V.block ?_
  refine V.keep 24 [5, 10, 1, 8, 9] [] (E0 := [(5, .nils), (10, .int .i64 (0 : Int)), (1, .int .i64 series), (8, .vl ρ0 4 (List.map encRule list)), (9, .int .i64 (list.length : Int))]) (H0 := []) rfl (⟨_, _, rfl, rfl, _, _, rfl, rfl, _, _, rfl, rfl, _, _, rfl, rfl, _, _, rfl, rfl, rfl⟩) (rfl) rfl ?_
  refine V.loopE (D := Nat × (List Rule × Int) × (Option Nat)) (fun ⟨n0, ⟨out_0, v⟩, ob1⟩ => [(5, optS 4 ob1 (List.length out_0)), (10, .int .i64 v)]) (fun ⟨n0, ⟨out_0, v⟩, ob1⟩ => optH 4 ob1 (List.map encRule out_0)) (fun ⟨n0, ⟨out_0, v⟩, ob1⟩ => loopO (M.impl_rulesFor_l0 list series) n0 (out_0, v) = some e0 ∧ (ob1 = none → out_0 = [])) (fun ⟨n0, _, _⟩ => n0) (rounds, (([] : List Rule), (0 : Int)), none) rfl ⟨he1, (fun _ => rfl)⟩ ?_
  rintro ⟨n0, ⟨out_0, v⟩, ob1⟩ ⟨hP0, hob1⟩
  obtain ⟨m0, y0, rfl, hm1, hl1, hr1⟩ := loop_head hP0
  unfold M.impl_rulesFor_l0 at hm1; dsimp only at hm1
  rcases ob1 with _ | ob1
  ·
   replace hob1 := hob1 rfl
   show V _ _ _ ⟨24, [(5, .nils), (10, .int .i64 v), (1, .int .i64 series), (8, .vl ρ0 4 (List.map encRule list)), (9, .int .i64 (list.length : Int))], []⟩
   refine V.seq ?_
   refine V.region ?_
   refine VO.cons rfl (V1.int rfl rfl rfl rfl rfl lt0 ?_)
   refine VO.nil ?_
   refine V.seq ?_
   refine V.cond rfl (fun hc0 => ?_) (fun hc0 => ?_)
   ·
    replace hm1 := cond_t hc0 hm1
    refine V.skip ?_
    refine V.seq ?_
    replace hm1 := bindO hm1; rcases hm1 with ⟨j0, hm2, hm1⟩
    refine V.cutT (D := (List Rule) × (Option Nat)) (fun ⟨out_1, ob2⟩ => ⟨24, [(5, optS 4 ob2 (List.length out_1)), (1, .int .i64 series), (8, .vl ρ0 4 (List.map encRule list)), (9, .int .i64 (list.length : Int)), (10, .int .i64 v)], optH 4 ob2 (List.map encRule out_1)⟩) (fun ⟨out_1, ob2⟩ => (out_1 = j0) ∧ (ob2 = none → out_1 = [])) ?_ ?_
    ·
     refine V.block ?_
     refine V.seq ?_
     replace hm2 := asrt_some hm2; rcases hm2 with ⟨hh0, hm2⟩
     refine V.region ?_
     refine VO.cons rfl (V1.indexI rfl rfl esz_24 rfl rfl hh0 lt0 ?_)
     refine VO.cons rfl (V1.loadPinAll rfl rfl tyk_50 rfl rfl lt0 ?_)
     refine VO.cons rfl (V1.alloc rfl rfl zk_50 lt0 ?_)
     intro b0
     refine VO.cons rfl (V1.storeRefAll (k := 0) rfl rfl tyk_50 rfl rfl rfl rfl rfl rfl ?_)
     refine VO.nil ?_
     refine V.seq ?_
     refine V.region ?_
     refine VO.cons rfl (V1.fieldRef rfl rfl fo_50_0 rfl lt0 ?_)
     refine VO.cons rfl (V1.loadRef (k := 0) rfl rfl tyk_3 rfl rfl rfl rfl rfl lt0 ?_)
     refine VO.cons rfl (V1.move rfl rfl rfl lt0 ?_)
     refine VO.cons rfl (V1.int rfl rfl rfl rfl rfl lt0 ?_)
     refine VO.nil ?_
     refine V.keep 24 [1, 5, 7, 8, 9, 10, 17] [0] (E0 := [(1, .int .i64 series), (5, .nils), (7, .ref b0 4 0 0), (8, .vl ρ0 4 (List.map encRule list)), (9, .int .i64 (list.length : Int)), (10, .int .i64 v), (17, .bool (((list.getD (Int.toNat v) default).Series) == series))]) (H0 := [(b0, ⟨4, [encRule (list.getD (Int.toNat v) default)]⟩)]) rfl (⟨_, _, rfl, rfl, _, _, rfl, rfl, _, _, rfl, rfl, _, _, rfl, rfl, _, _, rfl, rfl, _, _, rfl, rfl, _, _, rfl, rfl, rfl⟩) (⟨_, _, rfl, rfl, rfl⟩) rfl ?_
     refine V.cond rfl (fun hc1 => ?_) (fun hc1 => ?_)
     ·
      replace hm2 := cond_t hc1 hm2
      replace hm2 := asrt_some hm2; rcases hm2 with ⟨hh1, hm2⟩
      refine V.region ?_
      refine VO.cons rfl (V1.move rfl rfl rfl lt0 ?_)
      refine VO.cons rfl (V1.loadRefAll (k := 0) rfl rfl tyk_50 rfl rfl rfl rfl rfl lt0 ?_)
      refine VO.cons rfl (V1.buildSliceT (f := encRule) ([(list.getD (Int.toNat v) default)] : List Rule) rfl rfl esz_24 zk_50 rfl rfl rfl rfl rfl rfl rfl lt0 ?_)
      intro b1
      refine VO.cons rfl (V1.appendNilE (f := encRule) (l := out_0) (m := ([(list.getD (Int.toNat v) default)] : List Rule)) hob1 rfl rfl rfl rfl rfl esz_24 eby_24 zk_50 rfl rfl rfl (SrcOf.srMap (k := 0) rfl isl_24) rfl hh1 lt0 ?_)
      intro b2
      refine VO.cons rfl (V1.assign rfl rfl rfl lt0 ?_)
      refine VO.nil ?_
      exact ⟨((out_0 ++ ([(list.getD (Int.toNat v) default)] : List Rule)), (some b2)), ⟨Option.some.inj hm2, (fun e => by cases e)⟩, Keeps.mk (ks := [0]) rfl ⟨rfl, rfl, rfl, rfl, rfl, trivial⟩ (⟨_, _, rfl, rfl, rfl⟩) rfl⟩
     ·
      replace hm2 := cond_f hc1 hm2
      refine V.skip ?_
      exact ⟨(out_0, none), ⟨Option.some.inj hm2, (fun _ => hob1)⟩, Keeps.mk (ks := []) rfl ⟨rfl, rfl, rfl, rfl, rfl, trivial⟩ (rfl) rfl⟩
    ·
     rintro ⟨out_1, ob2⟩ ⟨rfl, hob2⟩
     try dsimp only at hm1
     rcases ob2 with _ | ob2
     ·
      replace hob2 := hob2 rfl
      refine V.region ?_
      refine VO.cons rfl (V1.int rfl rfl rfl rfl rfl lt0 ?_)
      refine VO.cons rfl (V1.move rfl rfl rfl lt0 ?_)
      refine VO.nil ?_
      exact ⟨(m0, (out_1, (IntKind.i64.wrap (v + (1 : Int)))), none), ⟨hl1 _ (Option.some.inj hm1).symm, (fun _ => hob2)⟩, Nat.lt_succ_self _, Keeps.mk (ks := []) rfl ⟨rfl, rfl, rfl, rfl, rfl, trivial⟩ (rfl) rfl⟩
     ·
      refine V.region ?_
      refine VO.cons rfl (V1.int rfl rfl rfl rfl rfl lt0 ?_)
      refine VO.cons rfl (V1.move rfl rfl rfl lt0 ?_)
      refine VO.nil ?_
      exact ⟨(m0, (out_1, (IntKind.i64.wrap (v + (1 : Int)))), (some ob2)), ⟨hl1 _ (Option.some.inj hm1).symm, (fun e => by cases e)⟩, Nat.lt_succ_self _, Keeps.mk (ks := [0]) rfl ⟨rfl, rfl, rfl, rfl, rfl, trivial⟩ (⟨_, _, rfl, rfl, rfl⟩) rfl⟩
   ·
    replace hm1 := cond_f hc0 hm1
    refine V.exit ?_
    obtain rfl := hr1 _ (Option.some.inj hm1).symm
    exact ⟨(out_0, none), ⟨rfl, (fun _ => hob1)⟩, Keeps.mk (ks := []) rfl ⟨rfl, trivial⟩ (rfl) rfl⟩
  ·
   show V _ _ _ ⟨24, [(5, .sref ob1 4 0 (List.length out_0)), (10, .int .i64 v), (1, .int .i64 series), (8, .vl ρ0 4 (List.map encRule list)), (9, .int .i64 (list.length : Int))], [(ob1, ⟨4, List.map encRule out_0⟩)]⟩
   refine V.seq ?_
   refine V.region ?_
   refine VO.cons rfl (V1.int rfl rfl rfl rfl rfl lt0 ?_)
   refine VO.nil ?_
   refine V.seq ?_
   refine V.cond rfl (fun hc0 => ?_) (fun hc0 => ?_)
   ·
    replace hm1 := cond_t hc0 hm1
    refine V.skip ?_
    refine V.seq ?_
    replace hm1 := bindO hm1; rcases hm1 with ⟨j0, hm2, hm1⟩
    refine V.cutT (D := (List Rule) × (Nat)) (fun ⟨out_1, b0⟩ => ⟨24, [(5, .sref b0 4 0 (List.length out_1)), (1, .int .i64 series), (8, .vl ρ0 4 (List.map encRule list)), (9, .int .i64 (list.length : Int)), (10, .int .i64 v)], [(b0, ⟨4, List.map encRule out_1⟩)]⟩) (fun ⟨out_1, b0⟩ => (out_1 = j0)) ?_ ?_
    ·
     refine V.block ?_
     refine V.seq ?_
     replace hm2 := asrt_some hm2; rcases hm2 with ⟨hh0, hm2⟩
     refine V.region ?_
     refine VO.cons rfl (V1.indexI rfl rfl esz_24 rfl rfl hh0 lt0 ?_)
     refine VO.cons rfl (V1.loadPinAll rfl rfl tyk_50 rfl rfl lt0 ?_)
     refine VO.cons rfl (V1.alloc rfl rfl zk_50 lt0 ?_)
     intro b1
     refine VO.cons rfl (V1.storeRefAll (k := 0) rfl rfl tyk_50 rfl rfl rfl rfl rfl rfl ?_)
     refine VO.nil ?_
     refine V.seq ?_
     refine V.region ?_
     refine VO.cons rfl (V1.fieldRef rfl rfl fo_50_0 rfl lt0 ?_)
     refine VO.cons rfl (V1.loadRef (k := 0) rfl rfl tyk_3 rfl rfl rfl rfl rfl lt0 ?_)
     refine VO.cons rfl (V1.move rfl rfl rfl lt0 ?_)
     refine VO.cons rfl (V1.int rfl rfl rfl rfl rfl lt0 ?_)
     refine VO.nil ?_
     refine V.keep 24 [1, 5, 7, 8, 9, 10, 17] [0, 1] (E0 := [(1, .int .i64 series), (5, .sref ob1 4 0 (List.length out_0)), (7, .ref b1 4 0 0), (8, .vl ρ0 4 (List.map encRule list)), (9, .int .i64 (list.length : Int)), (10, .int .i64 v), (17, .bool (((list.getD (Int.toNat v) default).Series) == series))]) (H0 := [(b1, ⟨4, [encRule (list.getD (Int.toNat v) default)]⟩), (ob1, ⟨4, List.map encRule out_0⟩)]) rfl (⟨_, _, rfl, rfl, _, _, rfl, rfl, _, _, rfl, rfl, _, _, rfl, rfl, _, _, rfl, rfl, _, _, rfl, rfl, _, _, rfl, rfl, rfl⟩) (⟨_, _, rfl, rfl, _, _, rfl, rfl, rfl⟩) rfl ?_
     refine V.cond rfl (fun hc1 => ?_) (fun hc1 => ?_)
     ·
      replace hm2 := cond_t hc1 hm2
      replace hm2 := asrt_some hm2; rcases hm2 with ⟨hh1, hm2⟩
      refine V.region ?_
      refine VO.cons rfl (V1.move rfl rfl rfl lt0 ?_)
      refine VO.cons rfl (V1.loadRefAll (k := 0) rfl rfl tyk_50 rfl rfl rfl rfl rfl lt0 ?_)
      refine VO.cons rfl (V1.buildSliceT (f := encRule) ([(list.getD (Int.toNat v) default)] : List Rule) rfl rfl esz_24 zk_50 rfl rfl rfl rfl rfl rfl rfl lt0 ?_)
      intro b2
      refine VO.cons rfl (V1.appendMap (k := 2) (f := encRule) (l := out_0) (m := ([(list.getD (Int.toNat v) default)] : List Rule)) rfl rfl rfl rfl rfl esz_24 eby_24 zk_50 rfl rfl rfl (SrcOf.srMap (k := 0) rfl isl_24) hh1 lt0 ?_)
      intro b3
      refine VO.cons rfl (V1.assign rfl rfl rfl lt0 ?_)
      refine VO.nil ?_
      exact ⟨((out_0 ++ ([(list.getD (Int.toNat v) default)] : List Rule)), b3), Option.some.inj hm2, Keeps.mk (ks := [0]) rfl ⟨rfl, rfl, rfl, rfl, rfl, trivial⟩ (⟨_, _, rfl, rfl, rfl⟩) rfl⟩
     ·
      replace hm2 := cond_f hc1 hm2
      refine V.skip ?_
      exact ⟨(out_0, ob1), Option.some.inj hm2, Keeps.mk (ks := [1]) rfl ⟨rfl, rfl, rfl, rfl, rfl, trivial⟩ (⟨_, _, rfl, rfl, rfl⟩) rfl⟩
    ·
     rintro ⟨out_1, b0⟩ rfl
     try dsimp only at hm1
     refine V.region ?_
     refine VO.cons rfl (V1.int rfl rfl rfl rfl rfl lt0 ?_)
     refine VO.cons rfl (V1.move rfl rfl rfl lt0 ?_)
     refine VO.nil ?_
     exact ⟨(m0, (out_1, (IntKind.i64.wrap (v + (1 : Int)))), (some b0)), ⟨hl1 _ (Option.some.inj hm1).symm, (fun e => by cases e)⟩, Nat.lt_succ_self _, Keeps.mk (ks := [0]) rfl ⟨rfl, rfl, rfl, rfl, rfl, trivial⟩ (⟨_, _, rfl, rfl, rfl⟩) rfl⟩
   ·
    replace hm1 := cond_f hc0 hm1
    refine V.exit ?_
    obtain rfl := hr1 _ (Option.some.inj hm1).symm
    exact ⟨(out_0, (some ob1)), ⟨rfl, (fun e => by cases e)⟩, Keeps.mk (ks := [0]) rfl ⟨rfl, trivial⟩ (⟨_, _, rfl, rfl, rfl⟩) rfl⟩
 ·
  rintro ⟨out_, ob0⟩ ⟨rfl, hob0⟩
  try dsimp only at hm0
  rcases ob0 with _ | ob0
  ·
   replace hob0 := hob0 rfl
   refine V.seq ?_
   refine V.region ?_
   refine VO.cons rfl (V1.move rfl rfl rfl lt0 ?_)
   refine VO.cons rfl (V1.assign rfl rfl rfl lt0 ?_)
   refine VO.nil ?_
   refine V.keep 24 [4] [] (E0 := [(4, .nils)]) (H0 := []) rfl (⟨_, _, rfl, rfl, rfl⟩) (rfl) rfl ?_
   refine V.ret ?_
   obtain rfl := Option.some.inj hm0
   exact ⟨_, _, ⟨_, _, rfl, rfl, rfl⟩, List.Sublist.refl _, none, (fun _ => hob0), rfl, rfl⟩
  ·
   refine V.seq ?_
   refine V.region ?_
   refine VO.cons rfl (V1.move rfl rfl rfl lt0 ?_)
   refine VO.cons rfl (V1.assign rfl rfl rfl lt0 ?_)
   refine VO.nil ?_
   refine V.keep 24 [4] [0] (E0 := [(4, .sref ob0 4 0 (List.length out_))]) (H0 := [(ob0, ⟨4, List.map encRule out_⟩)]) rfl (⟨_, _, rfl, rfl, rfl⟩) (⟨_, _, rfl, rfl, rfl⟩) rfl ?_
   refine V.ret ?_
   obtain rfl := Option.some.inj hm0
   exact ⟨_, _, ⟨_, _, rfl, rfl, rfl⟩, List.Sublist.refl _, some ob0, (fun e => by cases e), rfl, rfl⟩

theorem okz_impl_rulesFor {ρ0 rn : Nat} {list : List Rule} {series : Int} {r : List Rule} (h : M.impl_rulesFor list series = some r) : Does Tryz.prog 38 [.vl ρ0 4 (List.map encRule list), .int .i64 series] [] rn (fun x H => x = .vl rn 4 (List.map encRule r) ∧ H = []) := by
 have hm0 := h; clear h; unfold M.impl_rulesFor at hm0
 try dsimp only at hm0
 refine Does.intro (N := 24) Tryz.func38 rfl rfl rfl rfl ?_
 intro w0 S0 L0
 refine V.seq ?_
 refine V.region ?_
 refine VO.cons rfl (V1.assign rfl rfl rfl lt0 ?_)
 refine VO.nil ?_
 refine V.seq ?_
 refine V.region ?_
 refine VO.cons rfl (V1.assign rfl rfl rfl lt0 ?_)
 refine VO.nil ?_
 refine V.seq ?_
 refine V.seq ?_
 refine V.region ?_
 refine VO.cons rfl (V1.move rfl rfl rfl lt0 ?_)
 refine VO.cons rfl (V1.lenMap rfl rfl rfl rfl rfl rfl isl_24 lt0 ?_)
 refine VO.cons rfl (V1.move rfl rfl rfl lt0 ?_)
 refine VO.nil ?_
 replace hm0 := bindO hm0; rcases hm0 with ⟨e0, he1, hm0⟩
 refine V.cutT (D := (List Rule) × (Unit)) (fun ⟨out_, _⟩ => ⟨24, [(5, .vl rn 4 (List.map encRule out_))], []⟩) (fun ⟨out_, _⟩ => (out_ = e0)) ?_ ?_
 ·
  refine V.block ?_
  refine V.keep 24 [5, 10, 1, 8, 9] [] (E0 := [(5, .nils), (10, .int .i64 (0 : Int)), (1, .int .i64 series), (8, .vl ρ0 4 (List.map encRule list)), (9, .int .i64 (list.length : Int))]) (H0 := []) rfl (⟨_, _, rfl, rfl, _, _, rfl, rfl, _, _, rfl, rfl, _, _, rfl, rfl, _, _, rfl, rfl, rfl⟩) (rfl) rfl ?_
  refine V.loopE (D := Nat × (List Rule × Int) × (Option Nat)) (fun ⟨n0, ⟨out_0, v⟩, ob0⟩ => [(5, optS 4 ob0 (List.length out_0)), (10, .int .i64 v)]) (fun ⟨n0, ⟨out_0, v⟩, ob0⟩ => optH 4 ob0 (List.map encRule out_0)) (fun ⟨n0, ⟨out_0, v⟩, ob0⟩ => loopO (M.impl_rulesFor_l0 list series) n0 (out_0, v) = some e0 ∧ (ob0 = none → out_0 = [])) (fun ⟨n0, _, _⟩ => n0) (rounds, (([] : List Rule), (0 : Int)), none) rfl ⟨he1, (fun _ => rfl)⟩ ?_
  rintro ⟨n0, ⟨out_0, v⟩, ob0⟩ ⟨hP0, hob0⟩
  obtain ⟨m0, y0, rfl, hm1, hl1, hr1⟩ := loop_head hP0
  unfold M.impl_rulesFor_l0 at hm1; dsimp only at hm1
  rcases ob0 with _ | ob0
  ·
   replace hob0 := hob0 rfl
   show V _ _ _ ⟨24, [(5, .nils), (10, .int .i64 v), (1, .int .i64 series), (8, .vl ρ0 4 (List.map encRule list)), (9, .int .i64 (list.length : Int))], []⟩
   refine V.seq ?_
   refine V.region ?_
   refine VO.cons rfl (V1.int rfl rfl rfl rfl rfl lt0 ?_)
   refine VO.nil ?_
   refine V.seq ?_
   refine V.cond rfl (fun hc0 => ?_) (fun hc0 => ?_)
   ·
    replace hm1 := cond_t hc0 hm1
    refine V.skip ?_
    refine V.seq ?_
    replace hm1 := bindO hm1; rcases hm1 with ⟨j0, hm2, hm1⟩
    refine V.cutT (D := (List Rule) × (Option Nat)) (fun ⟨out_1, ob1⟩ => ⟨24, [(5, optS 4 ob1 (List.length out_1)), (1, .int .i64 series), (8, .vl ρ0 4 (List.map encRule list)), (9, .int .i64 (list.length : Int)), (10, .int .i64 v)], optH 4 ob1 (List.map encRule out_1)⟩) (fun ⟨out_1, ob1⟩ => (out_1 = j0) ∧ (ob1 = none → out_1 = [])) ?_ ?_
    ·
     refine V.block ?_
     refine V.seq ?_
     replace hm2 := asrt_some hm2; rcases hm2 with ⟨hh0, hm2⟩
     refine V.region ?_
     refine VO.cons rfl (V1.indexI rfl rfl esz_24 rfl rfl hh0 lt0 ?_)
     refine VO.cons rfl (V1.loadPinAll rfl rfl tyk_50 rfl rfl lt0 ?_)
     refine VO.cons rfl (V1.alloc rfl rfl zk_50 lt0 ?_)
     intro b0
     refine VO.cons rfl (V1.storeRefAll (k := 0) rfl rfl tyk_50 rfl rfl rfl rfl rfl rfl ?_)
     refine VO.nil ?_
     refine V.seq ?_
     refine V.region ?_
     refine VO.cons rfl (V1.fieldRef rfl rfl fo_50_0 rfl lt0 ?_)
     refine VO.cons rfl (V1.loadRef (k := 0) rfl rfl tyk_3 rfl rfl rfl rfl rfl lt0 ?_)
     refine VO.cons rfl (V1.move rfl rfl rfl lt0 ?_)
     refine VO.cons rfl (V1.int rfl rfl rfl rfl rfl lt0 ?_)
     refine VO.nil ?_
     refine V.keep 24 [1, 5, 7, 8, 9, 10, 17] [0] (E0 := [(1, .int .i64 series), (5, .nils), (7, .ref b0 4 0 0), (8, .vl ρ0 4 (List.map encRule list)), (9, .int .i64 (list.length : Int)), (10, .int .i64 v), (17, .bool (((list.getD (Int.toNat v) default).Series) == series))]) (H0 := [(b0, ⟨4, [encRule (list.getD (Int.toNat v) default)]⟩)]) rfl (⟨_, _, rfl, rfl, _, _, rfl, rfl, _, _, rfl, rfl, _, _, rfl, rfl, _, _, rfl, rfl, _, _, rfl, rfl, _, _, rfl, rfl, rfl⟩) (⟨_, _, rfl, rfl, rfl⟩) rfl ?_
     refine V.cond rfl (fun hc1 => ?_) (fun hc1 => ?_)
     ·
      replace hm2 := cond_t hc1 hm2
      replace hm2 := asrt_some hm2; rcases hm2 with ⟨hh1, hm2⟩
      refine V.region ?_
      refine VO.cons rfl (V1.move rfl rfl rfl lt0 ?_)
      refine VO.cons rfl (V1.loadRefAll (k := 0) rfl rfl tyk_50 rfl rfl rfl rfl rfl lt0 ?_)
      refine VO.cons rfl (V1.buildSliceT (f := encRule) ([(list.getD (Int.toNat v) default)] : List Rule) rfl rfl esz_24 zk_50 rfl rfl rfl rfl rfl rfl rfl lt0 ?_)
      intro b1
      refine VO.cons rfl (V1.appendNilE (f := encRule) (l := out_0) (m := ([(list.getD (Int.toNat v) default)] : List Rule)) hob0 rfl rfl rfl rfl rfl esz_24 eby_24 zk_50 rfl rfl rfl (SrcOf.srMap (k := 0) rfl isl_24) rfl hh1 lt0 ?_)
      intro b2
      refine VO.cons rfl (V1.assign rfl rfl rfl lt0 ?_)
      refine VO.nil ?_
      exact ⟨((out_0 ++ ([(list.getD (Int.toNat v) default)] : List Rule)), (some b2)), ⟨Option.some.inj hm2, (fun e => by cases e)⟩, Keeps.mk (ks := [0]) rfl ⟨rfl, rfl, rfl, rfl, rfl, trivial⟩ (⟨_, _, rfl, rfl, rfl⟩) rfl⟩
     ·
      replace hm2 := cond_f hc1 hm2
      refine V.skip ?_
      exact ⟨(out_0, none), ⟨Option.some.inj hm2, (fun _ => hob0)⟩, Keeps.mk (ks := []) rfl ⟨rfl, rfl, rfl, rfl, rfl, trivial⟩ (rfl) rfl⟩
    ·
     rintro ⟨out_1, ob1⟩ ⟨rfl, hob1⟩
     try dsimp only at hm1
     rcases ob1 with _ | ob1
     ·
      replace hob1 := hob1 rfl
      refine V.region ?_
      refine VO.cons rfl (V1.int rfl rfl rfl rfl rfl lt0 ?_)
      refine VO.cons rfl (V1.move rfl rfl rfl lt0 ?_)
      refine VO.nil ?_
      exact ⟨(m0, (out_1, (IntKind.i64.wrap (v + (1 : Int)))), none), ⟨hl1 _ (Option.some.inj hm1).symm, (fun _ => hob1)⟩, Nat.lt_succ_self _, Keeps.mk (ks := []) rfl ⟨rfl, rfl, rfl, rfl, rfl, trivial⟩ (rfl) rfl⟩
     ·
      refine V.region ?_
      refine VO.cons rfl (V1.int rfl rfl rfl rfl rfl lt0 ?_)
      refine VO.cons rfl (V1.move rfl rfl rfl lt0 ?_)
      refine VO.nil ?_
      exact ⟨(m0, (out_1, (IntKind.i64.wrap (v + (1 : Int)))), (some ob1)), ⟨hl1 _ (Option.some.inj hm1).symm, (fun e => by cases e)⟩, Nat.lt_succ_self _, Keeps.mk (ks := [0]) rfl ⟨rfl, rfl, rfl, rfl, rfl, trivial⟩ (⟨_, _, rfl, rfl, rfl⟩) rfl⟩
   ·
    replace hm1 := cond_f hc0 hm1
    refine V.exit ?_
    obtain rfl := hr1 _ (Option.some.inj hm1).symm
    exact ⟨(out_0, ()), rfl, Keeps.trans (Keeps.nilsE (l := out_0) 5 rn 4 encRule hob0 rfl rfl) (Keeps.mk (ks := []) rfl ⟨rfl, trivial⟩ (rfl) rfl)⟩
  ·
   show V _ _ _ ⟨24, [(5, .sref ob0 4 0 (List.length out_0)), (10, .int .i64 v), (1, .int .i64 series), (8, .vl ρ0 4 (List.map encRule list)), (9, .int .i64 (list.length : Int))], [(ob0, ⟨4, List.map encRule out_0⟩)]⟩
   refine V.seq ?_
   refine V.region ?_
   refine VO.cons rfl (V1.int rfl rfl rfl rfl rfl lt0 ?_)
   refine VO.nil ?_
   refine V.seq ?_
   refine V.cond rfl (fun hc0 => ?_) (fun hc0 => ?_)
   ·
    replace hm1 := cond_t hc0 hm1
    refine V.skip ?_
    refine V.seq ?_
    replace hm1 := bindO hm1; rcases hm1 with ⟨j0, hm2, hm1⟩
    refine V.cutT (D := (List Rule) × (Nat)) (fun ⟨out_1, b0⟩ => ⟨24, [(5, .sref b0 4 0 (List.length out_1)), (1, .int .i64 series), (8, .vl ρ0 4 (List.map encRule list)), (9, .int .i64 (list.length : Int)), (10, .int .i64 v)], [(b0, ⟨4, List.map encRule out_1⟩)]⟩) (fun ⟨out_1, b0⟩ => (out_1 = j0)) ?_ ?_
    ·
     refine V.block ?_
     refine V.seq ?_
     replace hm2 := asrt_some hm2; rcases hm2 with ⟨hh0, hm2⟩
     refine V.region ?_
     refine VO.cons rfl (V1.indexI rfl rfl esz_24 rfl rfl hh0 lt0 ?_)
     refine VO.cons rfl (V1.loadPinAll rfl rfl tyk_50 rfl rfl lt0 ?_)
     refine VO.cons rfl (V1.alloc rfl rfl zk_50 lt0 ?_)
     intro b1
     refine VO.cons rfl (V1.storeRefAll (k := 0) rfl rfl tyk_50 rfl rfl rfl rfl rfl rfl ?_)
     refine VO.nil ?_
     refine V.seq ?_
     refine V.region ?_
     refine VO.cons rfl (V1.fieldRef rfl rfl fo_50_0 rfl lt0 ?_)
     refine VO.cons rfl (V1.loadRef (k := 0) rfl rfl tyk_3 rfl rfl rfl rfl rfl lt0 ?_)
     refine VO.cons rfl (V1.move rfl rfl rfl lt0 ?_)
     refine VO.cons rfl (V1.int rfl rfl rfl rfl rfl lt0 ?_)
     refine VO.nil ?_
     refine V.keep 24 [1, 5, 7, 8, 9, 10, 17] [0, 1] (E0 := [(1, .int .i64 series), (5, .sref ob0 4 0 (List.length out_0)), (7, .ref b1 4 0 0), (8, .vl ρ0 4 (List.map encRule list)), (9, .int .i64 (list.length : Int)), (10, .int .i64 v), (17, .bool (((list.getD (Int.toNat v) default).Series) == series))]) (H0 := [(b1, ⟨4, [encRule (list.getD (Int.toNat v) default)]⟩), (ob0, ⟨4, List.map encRule out_0⟩)]) rfl (⟨_, _, rfl, rfl, _, _, rfl, rfl, _, _, rfl, rfl, _, _, rfl, rfl, _, _, rfl, rfl, _, _, rfl, rfl, _, _, rfl, rfl, rfl⟩) (⟨_, _, rfl, rfl, _, _, rfl, rfl, rfl⟩) rfl ?_
     refine V.cond rfl (fun hc1 => ?_) (fun hc1 => ?_)
     ·
      replace hm2 := cond_t hc1 hm2
      replace hm2 := asrt_some hm2; rcases hm2 with ⟨hh1, hm2⟩
      refine V.region ?_
      refine VO.cons rfl (V1.move rfl rfl rfl lt0 ?_)
      refine VO.cons rfl (V1.loadRefAll (k := 0) rfl rfl tyk_50 rfl rfl rfl rfl rfl lt0 ?_)
      refine VO.cons rfl (V1.buildSliceT (f := encRule) ([(list.getD (Int.toNat v) default)] : List Rule) rfl rfl esz_24 zk_50 rfl rfl rfl rfl rfl rfl rfl lt0 ?_)
      intro b2
      refine VO.cons rfl (V1.appendMap (k := 2) (f := encRule) (l := out_0) (m := ([(list.getD (Int.toNat v) default)] : List Rule)) rfl rfl rfl rfl rfl esz_24 eby_24 zk_50 rfl rfl rfl (SrcOf.srMap (k := 0) rfl isl_24) hh1 lt0 ?_)
      intro b3
      refine VO.cons rfl (V1.assign rfl rfl rfl lt0 ?_)
      refine VO.nil ?_
      exact ⟨((out_0 ++ ([(list.getD (Int.toNat v) default)] : List Rule)), b3), Option.some.inj hm2, Keeps.mk (ks := [0]) rfl ⟨rfl, rfl, rfl, rfl, rfl, trivial⟩ (⟨_, _, rfl, rfl, rfl⟩) rfl⟩
     ·
      replace hm2 := cond_f hc1 hm2
      refine V.skip ?_
      exact ⟨(out_0, ob0), Option.some.inj hm2, Keeps.mk (ks := [1]) rfl ⟨rfl, rfl, rfl, rfl, rfl, trivial⟩ (⟨_, _, rfl, rfl, rfl⟩) rfl⟩
    ·
     rintro ⟨out_1, b0⟩ rfl
     try dsimp only at hm1
     refine V.region ?_
     refine VO.cons rfl (V1.int rfl rfl rfl rfl rfl lt0 ?_)
     refine VO.cons rfl (V1.move rfl rfl rfl lt0 ?_)
     refine VO.nil ?_
     exact ⟨(m0, (out_1, (IntKind.i64.wrap (v + (1 : Int)))), (some b0)), ⟨hl1 _ (Option.some.inj hm1).symm, (fun e => by cases e)⟩, Nat.lt_succ_self _, Keeps.mk (ks := [0]) rfl ⟨rfl, rfl, rfl, rfl, rfl, trivial⟩ (⟨_, _, rfl, rfl, rfl⟩) rfl⟩
   ·
    replace hm1 := cond_f hc0 hm1
    refine V.exit ?_
    obtain rfl := hr1 _ (Option.some.inj hm1).symm
    exact ⟨(out_0, ()), rfl, Keeps.trans (Keeps.freezeG 0 rn [(5, .vl rn 4 (List.map encRule out_0))] ([]) (f := encRule) (l := out_0) rfl (fun _ => rfl) ⟨⟨_, rfl, .here⟩, trivial⟩ rfl rfl iNil) (Keeps.mk (ks := []) rfl ⟨rfl, trivial⟩ (rfl) rfl)⟩
 ·
  rintro ⟨out_, _⟩ rfl
  try dsimp only at hm0
  refine V.seq ?_
  refine V.region ?_
  refine VO.cons rfl (V1.move rfl rfl rfl lt0 ?_)
  refine VO.cons rfl (V1.assign rfl rfl rfl lt0 ?_)
  refine VO.nil ?_
  refine V.ret ?_
  obtain rfl := Option.some.inj hm0
  exact ⟨_, [], ⟨_, _, rfl, rfl, rfl⟩, List.nil_sublist _, rfl, rfl⟩

theorem ok_impl_RulesFor {ρ0 rn : Nat} {list : List Rule} {series : Int} {r : List Rule × Bool} (h : M.impl_RulesFor list series = some r) : Does Tryz.prog 16 [.vl ρ0 4 (List.map encRule list), .int .i64 series] [] rn (fun x H => ∃ (ob0_ : Option Nat), (ob0_ = none → r.1 = []) ∧ x = .tup [optS 4 ob0_ (List.length r.1), .bool r.2] ∧ H = optH 4 ob0_ (List.map encRule r.1)) := by
 have hm0 := h; clear h; unfold M.impl_RulesFor at hm0
 try dsimp only at hm0
 refine Does.intro (N := 17) Tryz.func16 rfl rfl rfl rfl ?_
 intro w0 S0 L0
 refine V.seq ?_
 refine V.region ?_
 refine VO.cons rfl (V1.assign rfl rfl rfl lt0 ?_)
 refine VO.cons rfl (V1.assign rfl rfl rfl lt0 ?_)
 refine VO.nil ?_
 refine V.seq ?_
 refine V.seq ?_
 replace hm0 := bindO hm0; rcases hm0 with ⟨y0, hh0, hm0⟩
 replace hm0 := bindO hm0; rcases hm0 with ⟨y1, hh1, hm0⟩
 refine V.region ?_
 refine VO.cons rfl (V1.move rfl rfl rfl lt0 ?_)
 refine VO.cons rfl (V1.call rfl rfl rfl cok_9 rfl (ok_impl_IsSchedule hh0) rfl lt0 ?_)
 rintro _ _ ⟨rfl, rfl⟩
 refine VO.cons rfl (V1.not rfl rfl rfl lt0 ?_)
 refine VO.cons rfl (V1.move rfl rfl rfl lt0 ?_)
 apply VO.or (n := 3) rfl rfl rfl rfl rfl rfl lt0 (.none rfl)
 ·
  intro hg0
  refine VO.step (.some rfl rfl rfl) (V1.move rfl rfl rfl lt0 ?_)
  refine VO.step (.some rfl rfl rfl) (V1.call rfl rfl rfl cok_37 rfl (ok_impl_isId (cond_f hg0 hh1)) rfl lt0 ?_)
  rintro _ _ ⟨rfl, rfl⟩
  refine VO.step (.some rfl rfl rfl) (V1.not rfl rfl rfl lt0 ?_)
  exact VO.nil ⟨rfl, rfl, rfl, rfl, .inr ⟨rfl, .inr ⟨rfl, .inr ⟨rfl, .inr ⟨rfl, .inl rfl⟩⟩⟩⟩⟩
 refine VO.nil ?_
 refine V.keep 17 [0, 1, 13] [] (E0 := [(0, .vl ρ0 4 (List.map encRule list)), (1, .int .i64 series), (13, .bool ((!y0) || (!y1)))]) (H0 := []) rfl (⟨_, _, rfl, rfl, _, _, rfl, rfl, _, _, rfl, rfl, rfl⟩) (rfl) rfl ?_
 refine V.cond rfl (fun hc0 => ?_) (fun hc0 => ?_)
 ·
  replace hm0 := cond_t hc0 hm0
  refine V.seq ?_
  refine V.region ?_
  refine VO.cons rfl (V1.assign rfl rfl rfl lt0 ?_)
  refine VO.cons rfl (V1.assign rfl rfl rfl lt0 ?_)
  refine VO.nil ?_
  refine V.keep 17 [4, 5] [] (E0 := [(4, .nils), (5, .bool false)]) (H0 := []) rfl (⟨_, _, rfl, rfl, _, _, rfl, rfl, rfl⟩) (rfl) rfl ?_
  refine V.ret ?_
  obtain rfl := Option.some.inj hm0
  exact ⟨_, _, ⟨_, _, rfl, rfl, _, _, rfl, rfl, rfl⟩, List.Sublist.refl _, none, (fun _ => rfl), rfl, rfl⟩
 ·
  replace hm0 := cond_f hc0 hm0
  refine V.skip ?_
  refine V.seq ?_
  replace hm0 := bindO hm0; rcases hm0 with ⟨y2, hh2, hm0⟩
  refine V.region ?_
  refine VO.cons rfl (V1.move rfl rfl rfl lt0 ?_)
  refine VO.cons rfl (V1.move rfl rfl rfl lt0 ?_)
  refine VO.cons rfl (V1.permK (V1.call rfl rfl rfl cok_38 rfl (ok_impl_rulesFor hh2) rfl lt0 ?_))
  rintro _ _ ⟨ob0, hob0, rfl, rfl⟩
  refine ⟨_, ?_, Keeps.optBack (n := 4) (ob := ob0) (xs := List.map encRule y2) (H1 := []) (H2 := []) rfl⟩
  refine VO.cons rfl (V1.assign rfl rfl rfl lt0 ?_)
  refine VO.cons rfl (V1.assign rfl rfl rfl lt0 ?_)
  refine VO.nil ?_
  rcases ob0 with _ | ob0
  ·
   refine V.keep 17 [4, 5] [] (E0 := [(4, .nils), (5, .bool true)]) (H0 := []) rfl (⟨_, _, rfl, rfl, _, _, rfl, rfl, rfl⟩) (rfl) rfl ?_
   refine V.ret ?_
   obtain rfl := Option.some.inj hm0
   exact ⟨_, _, ⟨_, _, rfl, rfl, _, _, rfl, rfl, rfl⟩, List.Sublist.refl _, none, (fun _ => (hob0 rfl)), rfl, rfl⟩
  ·
   refine V.keep 17 [4, 5] [0] (E0 := [(4, .sref ob0 4 0 (List.length y2)), (5, .bool true)]) (H0 := [(ob0, ⟨4, List.map encRule y2⟩)]) rfl (⟨_, _, rfl, rfl, _, _, rfl, rfl, rfl⟩) (⟨_, _, rfl, rfl, rfl⟩) rfl ?_
   refine V.ret ?_
   obtain rfl := Option.some.inj hm0
   exact ⟨_, _, ⟨_, _, rfl, rfl, _, _, rfl, rfl, rfl⟩, List.Sublist.refl _, some ob0, (fun e => by cases e), rfl, rfl⟩

theorem ok_spec_DrawRulesFor {ρ0 rn : Nat} {code : List Int} {r : List Rule × Int} (h : M.spec_DrawRulesFor code = some r) : Does Tryz.prog 17 [.vl ρ0 1 (List.map encU8 code)] [] rn (fun x H => ∃ (ob0_ : Nat), x = .tup [PV.sref ob0_ 4 0 (List.length r.1), .int .i64 r.2] ∧ H = [(ob0_, ⟨4, List.map encRule r.1⟩)]) := by
 have hm0 := h; clear h; unfold M.spec_DrawRulesFor at hm0
 try dsimp only at hm0
 refine Does.intro (N := 13) Tryz.func17 rfl rfl rfl rfl ?_
 intro w0 S0 L0
 refine V.seq ?_
 refine V.region ?_
 refine VO.cons rfl (V1.assign rfl rfl rfl lt0 ?_)
 refine VO.cons rfl (V1.assign rfl rfl rfl lt0 ?_)
 refine VO.nil ?_
 refine V.seq ?_
 refine V.region ?_
 refine VO.cons rfl (V1.move rfl rfl rfl lt0 ?_)
 refine VO.cons rfl (V1.build rfl rfl zk_56 pl_56 rfl rfl lt0 ?_)
 refine VO.cons rfl (V1.boxN (n := 3) rfl rfl rfl rfl rfl lt0 ?_)
 intro b0
 refine VO.cons rfl (V1.assign rfl rfl rfl lt0 ?_)
 refine VO.nil ?_
 refine V.keep 13 [4] [0] (E0 := [(4, .ref b0 3 0 0)]) (H0 := [(b0, ⟨3, [.agg [.vl ρ0 1 (List.map encU8 code), .int .i64 (0 : Int), .int .u64 (0 : Int)]]⟩)]) rfl (⟨_, _, rfl, rfl, rfl⟩) (⟨_, _, rfl, rfl, rfl⟩) rfl ?_
 refine V.seq ?_
 replace hm0 := bindO hm0; rcases hm0 with ⟨y0, hh0, hm0⟩
 replace hm0 := bindO hm0; rcases hm0 with ⟨y1, hh1, hm0⟩
 refine V.region ?_
 refine VO.cons rfl (V1.move rfl rfl rfl lt0 ?_)
 refine VO.cons rfl (V1.callM 0 (rn + ρ0 + 1) [] [.ref b0 3 0 0] (p := (b0, ⟨3, [.agg [.vl ρ0 1 (List.map encU8 code), .int .i64 (0 : Int), .int .u64 (0 : Int)]]⟩)) rfl rfl rfl cok_30 rfl rfl ⟨_, _, rfl, .same _, rfl⟩ bwNil (ok_spec_l1Cur_schedule hh0) rfl (.inl rfl) lt0 ?_)
 rintro _ _ ⟨b1, rfl, rfl⟩
 refine VO.cons rfl (V1.move rfl rfl rfl lt0 ?_)
 refine VO.cons rfl (V1.buildSliceT (f := encInt) ([(1 : Int), (2 : Int), (3 : Int), (3 : Int), (7 : Int), (99 : Int), (0 : Int), (100 : Int)] : List Int) rfl rfl esz_33 zk_3 rfl rfl rfl rfl rfl rfl rfl lt0 ?_)
 intro b2
 refine VO.cons rfl (V1.callM 2 (rn + ρ0 + 1) [b2] [.ref b0 3 0 0, .vl (rn + ρ0 + 1) 1 (List.map encInt ([(1 : Int), (2 : Int), (3 : Int), (3 : Int), (7 : Int), (99 : Int), (0 : Int), (100 : Int)] : List Int))] (p := (b0, ⟨3, [encCur ρ0 y0.2]⟩)) rfl rfl rfl cok_39 rfl rfl ⟨_, _, rfl, .same _, ⟨_, _, rfl, Lend.srMap 0 rfl (fun _ => rfl) (.head _), rfl⟩⟩ (bwCons (k := 0) rfl bwNil) (ok_spec_l1Cur_among hh1) rfl (.inr ⟨(by first | omega | (dsimp only; omega)), by rintro _ _ ⟨rfl, rfl⟩; exact ⟨by simp [PV.no, PV.noL, optS_no, noL_iff, nbeq] <;> omega, by intro b ob h; first | exact optH_no (noL_map (fun _ => by simp [PV.no, PV.noL, noL_iff, nbeq]) _) b ob h | (simp only [List.append_assoc, List.mem_append, List.mem_cons, List.mem_singleton, List.not_mem_nil, or_false, Prod.mk.injEq] at h; rcases h with ⟨rfl, rfl⟩ | ⟨rfl, rfl⟩ <;> first | exact noL_map (fun _ => by simp [PV.no, PV.noL, noL_iff, nbeq]) _ | (simp [PV.no, PV.noL, optS_no, noL_iff, nbeq] <;> omega)) | (simp at h; obtain ⟨rfl, rfl⟩ := h; exact noL_map (fun _ => by simp [PV.no, PV.noL, noL_iff, nbeq]) _) | (simp at h; obtain ⟨rfl, rfl⟩ := h; simp [PV.no, PV.noL, optS_no, noL_iff, nbeq] <;> omega)⟩⟩) lt0 ?_)
 rintro _ _ ⟨rfl, rfl⟩
 refine VO.cons rfl (V1.assign rfl rfl rfl lt0 ?_)
 refine VO.cons rfl (V1.assign rfl rfl rfl lt0 ?_)
 refine VO.nil ?_
 refine V.keep 13 [2, 3] [2] (E0 := [(2, .sref b1 4 0 (List.length y0.1)), (3, .int .i64 y1.1)]) (H0 := [(b1, ⟨4, List.map encRule y0.1⟩)]) rfl (⟨_, _, rfl, rfl, _, _, rfl, rfl, rfl⟩) (⟨_, _, rfl, rfl, rfl⟩) rfl ?_
 refine V.ret ?_
 obtain rfl := Option.some.inj hm0
 exact ⟨_, _, ⟨_, _, rfl, rfl, _, _, rfl, rfl, rfl⟩, List.Sublist.refl _, b1, rfl, rfl⟩

theorem ok_spec_l4For {ρ0 rn : Nat} {list : List Rule} {series : Int} {r : List Rule} (h : M.spec_l4For list series = some r) : Does Tryz.prog 41 [.vl ρ0 4 (List.map encRule list), .int .i64 series] [] rn (fun x H => ∃ (ob0_ : Nat), x = PV.sref ob0_ 4 0 (List.length r) ∧ H = [(ob0_, ⟨4, List.map encRule r⟩)]) := by
 have hm0 := h; clear h; unfold M.spec_l4For at hm0
 try dsimp only at hm0
 refine Does.intro (N := 29) Tryz.func41 rfl rfl rfl rfl ?_
 intro w0 S0 L0
 refine V.seq ?_
 refine V.region ?_
 refine VO.cons rfl (V1.assign rfl rfl rfl lt0 ?_)
 refine VO.nil ?_
 refine V.seq ?_
 refine V.region ?_
 refine VO.cons rfl (V1.buildSliceT (f := encRule) ([] : List Rule) rfl rfl esz_24 zk_50 rfl rfl rfl rfl rfl rfl rfl lt0 ?_)
 intro b0
 refine VO.cons rfl (V1.assign rfl rfl rfl lt0 ?_)
 refine VO.nil ?_
 refine V.seq ?_
 refine V.seq ?_
 refine V.region ?_
 refine VO.cons rfl (V1.assign rfl rfl rfl lt0 ?_)
 refine VO.nil ?_
 replace hm0 := bindO hm0; rcases hm0 with ⟨e0, he1, hm0⟩
 refine V.cutT (D := (List Rule) × (Nat)) (fun ⟨out_, b1⟩ => ⟨29, [(5, .sref b1 4 0 (List.length out_))], [(b1, ⟨4, List.map encRule out_⟩)]⟩) (fun ⟨out_, b1⟩ => (out_ = e0)) ?_ ?_
 ·
  refine V.block ?_
  refine V.keep 29 [5, 6, 0, 1] [0] (E0 := [(5, .sref b0 4 0 (List.length ([] : List Rule))), (6, .int .i64 (0 : Int)), (0, .vl ρ0 4 (List.map encRule list)), (1, .int .i64 series)]) (H0 := [(b0, ⟨4, List.map encRule ([] : List Rule)⟩)]) rfl (⟨_, _, rfl, rfl, _, _, rfl, rfl, _, _, rfl, rfl, _, _, rfl, rfl, rfl⟩) (⟨_, _, rfl, rfl, rfl⟩) rfl ?_
  refine V.loopE (D := Nat × (List Rule × Int) × (Nat)) (fun ⟨n0, ⟨out_0, i⟩, b2⟩ => [(5, .sref b2 4 0 (List.length out_0)), (6, .int .i64 i)]) (fun ⟨n0, ⟨out_0, i⟩, b2⟩ => [(b2, ⟨4, List.map encRule out_0⟩)]) (fun ⟨n0, ⟨out_0, i⟩, b2⟩ => loopO (M.spec_l4For_l0 list series) n0 (out_0, i) = some e0) (fun ⟨n0, _, _⟩ => n0) (rounds, (([] : List Rule), (0 : Int)), b0) rfl he1 ?_
  rintro ⟨n0, ⟨out_0, i⟩, b2⟩ hP0
  obtain ⟨m0, y0, rfl, hm1, hl1, hr1⟩ := loop_head hP0
  unfold M.spec_l4For_l0 at hm1; dsimp only at hm1
  show V _ _ _ ⟨29, [(5, .sref b2 4 0 (List.length out_0)), (6, .int .i64 i), (0, .vl ρ0 4 (List.map encRule list)), (1, .int .i64 series)], [(b2, ⟨4, List.map encRule out_0⟩)]⟩
  refine V.seq ?_
  refine V.seq ?_
  refine V.region ?_
  refine VO.cons rfl (V1.move rfl rfl rfl lt0 ?_)
  refine VO.cons rfl (V1.move rfl rfl rfl lt0 ?_)
  refine VO.cons rfl (V1.lenMap rfl rfl rfl rfl rfl rfl isl_24 lt0 ?_)
  refine VO.cons rfl (V1.int rfl rfl rfl rfl rfl lt0 ?_)
  refine VO.nil ?_
  refine V.cond rfl (fun hc0 => ?_) (fun hc0 => ?_)
  ·
   replace hm1 := cond_t hc0 hm1
   refine V.skip ?_
   refine V.keep 29 [0, 1, 5, 6] [0] (E0 := [(0, .vl ρ0 4 (List.map encRule list)), (1, .int .i64 series), (5, .sref b2 4 0 (List.length out_0)), (6, .int .i64 i)]) (H0 := [(b2, ⟨4, List.map encRule out_0⟩)]) rfl (⟨_, _, rfl, rfl, _, _, rfl, rfl, _, _, rfl, rfl, _, _, rfl, rfl, rfl⟩) (⟨_, _, rfl, rfl, rfl⟩) rfl ?_
   refine V.seq ?_
   replace hm1 := bindO hm1; rcases hm1 with ⟨j0, hm2, hm1⟩
   refine V.cutT (D := (List Rule) × (Nat)) (fun ⟨out_1, b3⟩ => ⟨29, [(5, .sref b3 4 0 (List.length out_1)), (0, .vl ρ0 4 (List.map encRule list)), (1, .int .i64 series), (6, .int .i64 i)], [(b3, ⟨4, List.map encRule out_1⟩)]⟩) (fun ⟨out_1, b3⟩ => (out_1 = j0)) ?_ ?_
   ·
    refine V.block ?_
    refine V.seq ?_
    replace hm2 := asrt_some hm2; rcases hm2 with ⟨hh0, hm2⟩
    refine V.region ?_
    refine VO.cons rfl (V1.move rfl rfl rfl lt0 ?_)
    refine VO.cons rfl (V1.move rfl rfl rfl lt0 ?_)
    refine VO.cons rfl (V1.indexI rfl rfl esz_24 rfl rfl hh0 lt0 ?_)
    refine VO.cons rfl (V1.fieldPin rfl rfl fo_50_0 rfl lt0 ?_)
    refine VO.cons rfl (V1.loadPin rfl rfl tyk_3 rfl rfl lt0 ?_)
    refine VO.cons rfl (V1.move rfl rfl rfl lt0 ?_)
    refine VO.cons rfl (V1.int rfl rfl rfl rfl rfl lt0 ?_)
    refine VO.nil ?_
    refine V.keep 29 [0, 1, 5, 6, 20] [0] (E0 := [(0, .vl ρ0 4 (List.map encRule list)), (1, .int .i64 series), (5, .sref b2 4 0 (List.length out_0)), (6, .int .i64 i), (20, .bool (((list.getD (Int.toNat i) default).Series) == series))]) (H0 := [(b2, ⟨4, List.map encRule out_0⟩)]) rfl (⟨_, _, rfl, rfl, _, _, rfl, rfl, _, _, rfl, rfl, _, _, rfl, rfl, _, _, rfl, rfl, rfl⟩) (⟨_, _, rfl, rfl, rfl⟩) rfl ?_
    refine V.cond rfl (fun hc1 => ?_) (fun hc1 => ?_)
    ·
     replace hm2 := cond_t hc1 hm2
     replace hm2 := asrt_some hm2; rcases hm2 with ⟨hh1, hm2⟩
     replace hm2 := asrt_some hm2; rcases hm2 with ⟨hh2, hm2⟩
     refine V.region ?_
     refine VO.cons rfl (V1.move rfl rfl rfl lt0 ?_)
     refine VO.cons rfl (V1.move rfl rfl rfl lt0 ?_)
     refine VO.cons rfl (V1.move rfl rfl rfl lt0 ?_)
     refine VO.cons rfl (V1.indexI rfl rfl esz_24 rfl rfl hh1 lt0 ?_)
     refine VO.cons rfl (V1.loadPinAll rfl rfl tyk_50 rfl rfl lt0 ?_)
     refine VO.cons rfl (V1.buildSliceT (f := encRule) ([(list.getD (Int.toNat i) default)] : List Rule) rfl rfl esz_24 zk_50 rfl rfl rfl rfl rfl rfl rfl lt0 ?_)
     intro b4
     refine VO.cons rfl (V1.appendMap (k := 1) (f := encRule) (l := out_0) (m := ([(list.getD (Int.toNat i) default)] : List Rule)) rfl rfl rfl rfl rfl esz_24 eby_24 zk_50 rfl rfl rfl (SrcOf.srMap (k := 0) rfl isl_24) hh2 lt0 ?_)
     intro b5
     refine VO.cons rfl (V1.assign rfl rfl rfl lt0 ?_)
     refine VO.nil ?_
     exact ⟨((out_0 ++ ([(list.getD (Int.toNat i) default)] : List Rule)), b5), Option.some.inj hm2, Keeps.mk (ks := [0]) rfl ⟨rfl, rfl, rfl, rfl, trivial⟩ (⟨_, _, rfl, rfl, rfl⟩) rfl⟩
    ·
     replace hm2 := cond_f hc1 hm2
     refine V.skip ?_
     exact ⟨(out_0, b2), Option.some.inj hm2, Keeps.mk (ks := [0]) rfl ⟨rfl, rfl, rfl, rfl, trivial⟩ (⟨_, _, rfl, rfl, rfl⟩) rfl⟩
   ·
    rintro ⟨out_1, b3⟩ rfl
    try dsimp only at hm1
    refine V.region ?_
    refine VO.cons rfl (V1.move rfl rfl rfl lt0 ?_)
    refine VO.cons rfl (V1.int rfl rfl rfl rfl rfl lt0 ?_)
    refine VO.cons rfl (V1.assign rfl rfl rfl lt0 ?_)
    refine VO.nil ?_
    exact ⟨(m0, (out_1, (IntKind.i64.wrap (i + (1 : Int)))), b3), hl1 _ (Option.some.inj hm1).symm, Nat.lt_succ_self _, Keeps.mk (ks := [0]) rfl ⟨rfl, rfl, rfl, rfl, trivial⟩ (⟨_, _, rfl, rfl, rfl⟩) rfl⟩
  ·
   replace hm1 := cond_f hc0 hm1
   refine V.exit ?_
   obtain rfl := hr1 _ (Option.some.inj hm1).symm
   exact ⟨(out_0, b2), rfl, Keeps.mk (ks := [0]) rfl ⟨rfl, trivial⟩ (⟨_, _, rfl, rfl, rfl⟩) rfl⟩
 ·
  rintro ⟨out_, b1⟩ rfl
  try dsimp only at hm0
  refine V.seq ?_
  refine V.region ?_
  refine VO.cons rfl (V1.move rfl rfl rfl lt0 ?_)
  refine VO.cons rfl (V1.assign rfl rfl rfl lt0 ?_)
  refine VO.nil ?_
  refine V.keep 29 [4] [0] (E0 := [(4, .sref b1 4 0 (List.length out_))]) (H0 := [(b1, ⟨4, List.map encRule out_⟩)]) rfl (⟨_, _, rfl, rfl, rfl⟩) (⟨_, _, rfl, rfl, rfl⟩) rfl ?_
  refine V.ret ?_
  obtain rfl := Option.some.inj hm0
  exact ⟨_, _, ⟨_, _, rfl, rfl, rfl⟩, List.Sublist.refl _, b1, rfl, rfl⟩

theorem ok_spec_RulesFor {ρ0 rn : Nat} {list : List Rule} {series : Int} {r : List Rule × Bool} (h : M.spec_RulesFor list series = some r) : Does Tryz.prog 18 [.vl ρ0 4 (List.map encRule list), .int .i64 series] [] rn (fun x H => ∃ (ob0_ : Nat), x = .tup [PV.sref ob0_ 4 0 (List.length r.1), .bool r.2] ∧ H = [(ob0_, ⟨4, List.map encRule r.1⟩)]) := by
 have hm0 := h; clear h; unfold M.spec_RulesFor at hm0
 try dsimp only at hm0
 refine Does.intro (N := 18) Tryz.func18 rfl rfl rfl rfl ?_
 intro w0 S0 L0
 refine V.seq ?_
 refine V.region ?_
 refine VO.cons rfl (V1.assign rfl rfl rfl lt0 ?_)
 refine VO.cons rfl (V1.assign rfl rfl rfl lt0 ?_)
 refine VO.nil ?_
 refine V.seq ?_
 refine V.seq ?_
 replace hm0 := bindO hm0; rcases hm0 with ⟨y0, hh0, hm0⟩
 replace hm0 := bindO hm0; rcases hm0 with ⟨y1, hh1, hm0⟩
 refine V.region ?_
 refine VO.cons rfl (V1.move rfl rfl rfl lt0 ?_)
 refine VO.cons rfl (V1.call rfl rfl rfl cok_26 rfl (ok_spec_l4Good hh0) rfl lt0 ?_)
 rintro _ _ ⟨rfl, rfl⟩
 refine VO.cons rfl (V1.not rfl rfl rfl lt0 ?_)
 refine VO.cons rfl (V1.move rfl rfl rfl lt0 ?_)
 apply VO.or (n := 3) rfl rfl rfl rfl rfl rfl lt0 (.none rfl)
 ·
  intro hg0
  refine VO.step (.some rfl rfl rfl) (V1.move rfl rfl rfl lt0 ?_)
  refine VO.step (.some rfl rfl rfl) (V1.call rfl rfl rfl cok_40 rfl (ok_spec_l1In (cond_f hg0 hh1)) rfl lt0 ?_)
  rintro _ _ ⟨rfl, rfl⟩
  refine VO.step (.some rfl rfl rfl) (V1.not rfl rfl rfl lt0 ?_)
  exact VO.nil ⟨rfl, rfl, rfl, rfl, .inr ⟨rfl, .inr ⟨rfl, .inr ⟨rfl, .inr ⟨rfl, .inl rfl⟩⟩⟩⟩⟩
 refine VO.nil ?_
 refine V.keep 18 [0, 1, 13] [] (E0 := [(0, .vl ρ0 4 (List.map encRule list)), (1, .int .i64 series), (13, .bool ((!y0) || (!y1)))]) (H0 := []) rfl (⟨_, _, rfl, rfl, _, _, rfl, rfl, _, _, rfl, rfl, rfl⟩) (rfl) rfl ?_
 refine V.cond rfl (fun hc0 => ?_) (fun hc0 => ?_)
 ·
  replace hm0 := cond_t hc0 hm0
  refine V.seq ?_
  refine V.region ?_
  refine VO.cons rfl (V1.buildSliceT (f := encRule) ([] : List Rule) rfl rfl esz_24 zk_50 rfl rfl rfl rfl rfl rfl rfl lt0 ?_)
  intro b0
  refine VO.cons rfl (V1.assign rfl rfl rfl lt0 ?_)
  refine VO.cons rfl (V1.assign rfl rfl rfl lt0 ?_)
  refine VO.nil ?_
  refine V.keep 18 [4, 5] [0] (E0 := [(4, .sref b0 4 0 (List.length ([] : List Rule))), (5, .bool false)]) (H0 := [(b0, ⟨4, List.map encRule ([] : List Rule)⟩)]) rfl (⟨_, _, rfl, rfl, _, _, rfl, rfl, rfl⟩) (⟨_, _, rfl, rfl, rfl⟩) rfl ?_
  refine V.ret ?_
  obtain rfl := Option.some.inj hm0
  exact ⟨_, _, ⟨_, _, rfl, rfl, _, _, rfl, rfl, rfl⟩, List.Sublist.refl _, b0, rfl, rfl⟩
 ·
  replace hm0 := cond_f hc0 hm0
  refine V.skip ?_
  refine V.seq ?_
  replace hm0 := bindO hm0; rcases hm0 with ⟨y2, hh2, hm0⟩
  refine V.region ?_
  refine VO.cons rfl (V1.move rfl rfl rfl lt0 ?_)
  refine VO.cons rfl (V1.move rfl rfl rfl lt0 ?_)
  refine VO.cons rfl (V1.call rfl rfl rfl cok_41 rfl (ok_spec_l4For hh2) rfl lt0 ?_)
  rintro _ _ ⟨b1, rfl, rfl⟩
  refine VO.cons rfl (V1.assign rfl rfl rfl lt0 ?_)
  refine VO.cons rfl (V1.assign rfl rfl rfl lt0 ?_)
  refine VO.nil ?_
  refine V.keep 18 [4, 5] [0] (E0 := [(4, .sref b1 4 0 (List.length y2)), (5, .bool true)]) (H0 := [(b1, ⟨4, List.map encRule y2⟩)]) rfl (⟨_, _, rfl, rfl, _, _, rfl, rfl, rfl⟩) (⟨_, _, rfl, rfl, rfl⟩) rfl ?_
  refine V.ret ?_
  obtain rfl := Option.some.inj hm0
  exact ⟨_, _, ⟨_, _, rfl, rfl, _, _, rfl, rfl, rfl⟩, List.Sublist.refl _, b1, rfl, rfl⟩

theorem ok_laws_FnSchedules {ρ0 rn : Nat} {code : List Int} {r : Bool} (h : M.laws_FnSchedules code = some r) : Does Tryz.prog 3 [.vl ρ0 1 (List.map encU8 code)] [] rn (fun x H => x = .bool r ∧ H = []) := by
 have hm0 := h; clear h; unfold M.laws_FnSchedules at hm0
 try dsimp only at hm0
 refine Does.intro (N := 197) Tryz.func3 rfl rfl rfl rfl ?_
 intro w0 S0 L0
 refine V.seq ?_
 refine V.region ?_
 refine VO.cons rfl (V1.assign rfl rfl rfl lt0 ?_)
 refine VO.nil ?_
 refine V.seq ?_
 refine V.seq ?_
 replace hm0 := bindO hm0; rcases hm0 with ⟨y0, hh0, hm0⟩
 refine V.region ?_
 refine VO.cons rfl (V1.move rfl rfl rfl lt0 ?_)
 refine VO.cons rfl (V1.call rfl rfl rfl cok_4 rfl (ok_laws_vBig hh0) rfl lt0 ?_)
 rintro _ _ ⟨rfl, rfl⟩
 refine VO.nil ?_
 refine V.cond rfl (fun hc0 => ?_) (fun hc0 => ?_)
 ·
  replace hm0 := cond_t hc0 hm0
  refine V.seq ?_
  refine V.region ?_
  refine VO.cons rfl (V1.assign rfl rfl rfl lt0 ?_)
  refine VO.nil ?_
  refine V.ret ?_
  obtain rfl := Option.some.inj hm0
  exact ⟨_, [], ⟨_, _, rfl, rfl, rfl⟩, List.nil_sublist _, rfl, rfl⟩
 ·
  replace hm0 := cond_f hc0 hm0
  refine V.skip ?_
  refine V.seq ?_
  replace hm0 := bindO hm0; rcases hm0 with ⟨y1, hh1, hm0⟩
  refine V.region ?_
  refine VO.cons rfl (V1.move rfl rfl rfl lt0 ?_)
  refine VO.cons rfl (V1.call rfl rfl rfl cok_5 rfl (ok_spec_DrawScheduleText hh1) rfl lt0 ?_)
  rintro _ _ ⟨b0, rfl, rfl⟩
  refine VO.weakenK (Keeps.freezeG 0 rn [(34, .vl rn 4 (List.map encRule y1))] ([]) (f := encRule) (l := y1) rfl (fun _ => rfl) ⟨⟨_, rfl, .here⟩, trivial⟩ rfl rfl iNil) ?_
  refine VO.cons rfl (V1.assign rfl rfl rfl lt0 ?_)
  refine VO.nil ?_
  refine V.keep 197 [0, 3] [] (E0 := [(0, .vl ρ0 1 (List.map encU8 code)), (3, .vl rn 4 (List.map encRule y1))]) (H0 := []) rfl (⟨_, _, rfl, rfl, _, _, rfl, rfl, rfl⟩) (rfl) rfl ?_
  refine V.seq ?_
  replace hm0 := bindO hm0; rcases hm0 with ⟨y2, hh2, hm0⟩
  refine V.region ?_
  refine VO.cons rfl (V1.move rfl rfl rfl lt0 ?_)
  refine VO.cons rfl (V1.call rfl rfl rfl cok_6 rfl (ok_impl_ScheduleText hh2) rfl lt0 ?_)
  rintro _ _ ⟨rfl, rfl⟩
  refine VO.cons rfl (V1.move rfl rfl rfl lt0 ?_)
  refine VO.cons rfl (V1.extract rfl rfl rfl rfl lt0 ?_)
  refine VO.cons rfl (V1.extract rfl rfl rfl rfl lt0 ?_)
  refine VO.cons rfl (V1.assign rfl rfl rfl lt0 ?_)
  refine VO.cons rfl (V1.assign rfl rfl rfl lt0 ?_)
  refine VO.nil ?_
  refine V.keep 197 [0, 3, 4, 5] [] (E0 := [(0, .vl ρ0 1 (List.map encU8 code)), (3, .vl rn 4 (List.map encRule y1)), (4, .str y2.1), (5, .bool y2.2)]) (H0 := []) rfl (⟨_, _, rfl, rfl, _, _, rfl, rfl, _, _, rfl, rfl, _, _, rfl, rfl, rfl⟩) (rfl) rfl ?_
  refine V.seq ?_
  replace hm0 := bindO hm0; rcases hm0 with ⟨y3, hh3, hm0⟩
  refine V.region ?_
  refine VO.cons rfl (V1.move rfl rfl rfl lt0 ?_)
  refine VO.cons rfl (V1.permK (V1.call rfl rfl rfl cok_7 rfl (ok_impl_ParseSchedule hh3) rfl lt0 ?_))
  rintro _ _ ⟨ob0, hob0, rfl, rfl⟩
  refine ⟨_, ?_, Keeps.optBack (n := 4) (ob := ob0) (xs := List.map encRule y3.1) (H1 := []) (H2 := []) rfl⟩
  refine VO.cons rfl (V1.move rfl rfl rfl lt0 ?_)
  refine VO.cons rfl (V1.extract rfl rfl rfl rfl lt0 ?_)
  refine VO.weakenK (Keeps.optFront (n := 4) (ob := ob0) (xs := (List.map encRule y3.1)) (H1 := []) rfl) ?_
  refine VO.weakenK (Keeps.optVl 43 [] rn (f := encRule) (l := y3.1) (ob := ob0) (H1 := []) hob0 rfl rfl ⟨rfl, trivial⟩ (fun _ => rfl) rfl iNil) ?_
  refine VO.cons rfl (V1.extract rfl rfl rfl rfl lt0 ?_)
  refine VO.cons rfl (V1.assign rfl rfl rfl lt0 ?_)
  refine VO.cons rfl (V1.assign rfl rfl rfl lt0 ?_)
  refine VO.nil ?_
  refine V.keep 197 [0, 3, 4, 5, 6, 7] [] (E0 := [(0, .vl ρ0 1 (List.map encU8 code)), (3, .vl rn 4 (List.map encRule y1)), (4, .str y2.1), (5, .bool y2.2), (6, .vl rn 4 (List.map encRule y3.1)), (7, .bool y3.2)]) (H0 := []) rfl (⟨_, _, rfl, rfl, _, _, rfl, rfl, _, _, rfl, rfl, _, _, rfl, rfl, _, _, rfl, rfl, _, _, rfl, rfl, rfl⟩) (rfl) rfl ?_
  refine V.seq ?_
  refine V.seq ?_
  replace hm0 := bindO hm0; rcases hm0 with ⟨y4, hh4, hm0⟩
  refine V.region ?_
  refine VO.cons rfl (V1.move rfl rfl rfl lt0 ?_)
  refine VO.cons rfl (V1.call rfl rfl rfl cok_8 rfl (ok_spec_ScheduleText hh4) rfl lt0 ?_)
  rintro _ _ ⟨rfl, rfl⟩
  refine VO.cons rfl (V1.move rfl rfl rfl lt0 ?_)
  refine VO.cons rfl (V1.extract rfl rfl rfl rfl lt0 ?_)
  refine VO.cons rfl (V1.extract rfl rfl rfl rfl lt0 ?_)
  refine VO.cons rfl (V1.assign rfl rfl rfl lt0 ?_)
  refine VO.cons rfl (V1.assign rfl rfl rfl lt0 ?_)
  refine VO.nil ?_
  refine V.keep 197 [0, 3, 4, 5, 6, 7, 8, 9] [] (E0 := [(0, .vl ρ0 1 (List.map encU8 code)), (3, .vl rn 4 (List.map encRule y1)), (4, .str y2.1), (5, .bool y2.2), (6, .vl rn 4 (List.map encRule y3.1)), (7, .bool y3.2), (8, .str y4.1), (9, .bool y4.2)]) (H0 := []) rfl (⟨_, _, rfl, rfl, _, _, rfl, rfl, _, _, rfl, rfl, _, _, rfl, rfl, _, _, rfl, rfl, _, _, rfl, rfl, _, _, rfl, rfl, _, _, rfl, rfl, rfl⟩) (rfl) rfl ?_
  refine V.seq ?_
  replace hm0 := bindO hm0; rcases hm0 with ⟨y5, hh5, hm0⟩
  replace hm0 := bindO hm0; rcases hm0 with ⟨y6, hh6, hm0⟩
  refine V.region ?_
  refine VO.cons rfl (V1.move rfl rfl rfl lt0 ?_)
  refine VO.cons rfl (V1.move rfl rfl rfl lt0 ?_)
  refine VO.cons rfl (V1.str rfl rfl rfl rfl rfl lt0 ?_)
  refine VO.cons rfl (V1.move rfl rfl rfl lt0 ?_)
  apply VO.or (n := 3) rfl rfl rfl rfl rfl rfl lt0 (.none rfl)
  ·
   intro hg0
   refine VO.step (.some rfl rfl rfl) (V1.move rfl rfl rfl lt0 ?_)
   refine VO.step (.some rfl rfl rfl) (V1.move rfl rfl rfl lt0 ?_)
   refine VO.step (.some rfl rfl rfl) (V1.boolNeq rfl rfl und_4 rfl rfl lt0 ?_)
   exact VO.nil ⟨rfl, rfl, rfl, rfl, .inr ⟨rfl, .inr ⟨rfl, .inr ⟨rfl, .inr ⟨rfl, .inl rfl⟩⟩⟩⟩⟩
  refine VO.cons rfl (V1.move rfl rfl rfl lt0 ?_)
  apply VO.or (n := 4) rfl rfl rfl rfl rfl rfl lt0 (.none rfl)
  ·
   intro hg1
   refine VO.step (.some rfl rfl rfl) (V1.move rfl rfl rfl lt0 ?_)
   refine VO.step (.some rfl rfl rfl) (V1.move rfl rfl rfl lt0 ?_)
   refine VO.step (.some rfl rfl rfl) (V1.call rfl rfl rfl cok_9 rfl (ok_impl_IsSchedule (cond_f hg1 hh5)) rfl lt0 ?_)
   rintro _ _ ⟨rfl, rfl⟩
   refine VO.step (.some rfl rfl rfl) (V1.boolNeq rfl rfl und_4 rfl rfl lt0 ?_)
   exact VO.nil ⟨rfl, rfl, rfl, rfl, .inr ⟨rfl, .inr ⟨rfl, .inr ⟨rfl, .inr ⟨rfl, .inr ⟨rfl, .inl rfl⟩⟩⟩⟩⟩⟩
  refine VO.cons rfl (V1.move rfl rfl rfl lt0 ?_)
  apply VO.or (n := 11) rfl rfl rfl rfl rfl rfl lt0 (.none rfl)
  ·
   intro hg2
   refine VO.step (.some rfl rfl rfl) (V1.move rfl rfl rfl lt0 ?_)
   refine VO.step (.some rfl rfl rfl) (V1.move rfl rfl rfl lt0 ?_)
   apply VO.and (n := 8) rfl rfl rfl rfl rfl rfl lt0 (.some rfl rfl rfl)
   ·
    intro hg3
    refine VO.step (.some rfl rfl rfl) (V1.move rfl rfl rfl lt0 ?_)
    refine VO.step (.some rfl rfl rfl) (V1.not rfl rfl rfl lt0 ?_)
    refine VO.step (.some rfl rfl rfl) (V1.move rfl rfl rfl lt0 ?_)
    apply VO.or (n := 4) rfl rfl rfl rfl rfl rfl lt0 (.some rfl rfl rfl)
    ·
     intro hg4
     refine VO.step (.some rfl rfl rfl) (V1.move rfl rfl rfl lt0 ?_)
     refine VO.step (.some rfl rfl rfl) (V1.move rfl rfl rfl lt0 ?_)
     refine VO.step (.some rfl rfl rfl) (V1.call rfl rfl rfl cok_10 rfl (ok_laws_vRules (cond_f hg4 (cond_t hg3 (cond_f hg2 hh6)))) rfl lt0 ?_)
     rintro _ _ ⟨rfl, rfl⟩
     refine VO.step (.some rfl rfl rfl) (V1.not rfl rfl rfl lt0 ?_)
     exact VO.nil ⟨rfl, rfl, rfl, rfl, .inr ⟨rfl, .inr ⟨rfl, .inr ⟨rfl, .inr ⟨rfl, .inr ⟨rfl, .inl rfl⟩⟩⟩⟩⟩⟩
    exact VO.nil ⟨rfl, rfl, rfl, rfl, .inr ⟨rfl, .inr ⟨rfl, .inr ⟨rfl, .inr ⟨rfl, .inr ⟨rfl, .inl rfl⟩⟩⟩⟩⟩⟩
   exact VO.nil ⟨rfl, rfl, rfl, rfl, .inr ⟨rfl, .inr ⟨rfl, .inr ⟨rfl, .inr ⟨rfl, .inl rfl⟩⟩⟩⟩⟩
  refine VO.nil ?_
  refine V.keep 197 [0, 3, 5, 76] [] (E0 := [(0, .vl ρ0 1 (List.map encU8 code)), (3, .vl rn 4 (List.map encRule y1)), (5, .bool y2.2), (76, .bool ((((!(y2.1 == y4.1)) || (!(y2.2 == y4.2))) || (!(y2.2 == y5))) || (y2.2 && ((!y3.2) || (!y6)))))]) (H0 := []) rfl (⟨_, _, rfl, rfl, _, _, rfl, rfl, _, _, rfl, rfl, _, _, rfl, rfl, rfl⟩) (rfl) rfl ?_
  refine V.cond rfl (fun hc1 => ?_) (fun hc1 => ?_)
  ·
   replace hm0 := cond_t hc1 hm0
   refine V.seq ?_
   refine V.region ?_
   refine VO.cons rfl (V1.assign rfl rfl rfl lt0 ?_)
   refine VO.nil ?_
   refine V.ret ?_
   obtain rfl := Option.some.inj hm0
   exact ⟨_, [], ⟨_, _, rfl, rfl, rfl⟩, List.nil_sublist _, rfl, rfl⟩
  ·
   replace hm0 := cond_f hc1 hm0
   refine V.skip ?_
   refine V.seq ?_
   replace hm0 := bindO hm0; rcases hm0 with ⟨y7, hh7, hm0⟩
   refine V.region ?_
   refine VO.cons rfl (V1.move rfl rfl rfl lt0 ?_)
   refine VO.cons rfl (V1.call rfl rfl rfl cok_11 rfl (ok_spec_DrawParseSchedule hh7) rfl lt0 ?_)
   rintro _ _ ⟨rfl, rfl⟩
   refine VO.cons rfl (V1.assign rfl rfl rfl lt0 ?_)
   refine VO.nil ?_
   refine V.seq ?_
   replace hm0 := bindO hm0; rcases hm0 with ⟨y8, hh8, hm0⟩
   refine V.region ?_
   refine VO.cons rfl (V1.move rfl rfl rfl lt0 ?_)
   refine VO.cons rfl (V1.permK (V1.call rfl rfl rfl cok_7 rfl (ok_impl_ParseSchedule hh8) rfl lt0 ?_))
   rintro _ _ ⟨ob1, hob1, rfl, rfl⟩
   refine ⟨_, ?_, Keeps.optBack (n := 4) (ob := ob1) (xs := List.map encRule y8.1) (H1 := []) (H2 := []) rfl⟩
   refine VO.cons rfl (V1.move rfl rfl rfl lt0 ?_)
   refine VO.cons rfl (V1.extract rfl rfl rfl rfl lt0 ?_)
   refine VO.weakenK (Keeps.optFront (n := 4) (ob := ob1) (xs := (List.map encRule y8.1)) (H1 := []) rfl) ?_
   refine VO.weakenK (Keeps.optVl 82 [] rn (f := encRule) (l := y8.1) (ob := ob1) (H1 := []) hob1 rfl rfl ⟨rfl, trivial⟩ (fun _ => rfl) rfl iNil) ?_
   refine VO.cons rfl (V1.extract rfl rfl rfl rfl lt0 ?_)
   refine VO.cons rfl (V1.assign rfl rfl rfl lt0 ?_)
   refine VO.cons rfl (V1.assign rfl rfl rfl lt0 ?_)
   refine VO.nil ?_
   refine V.keep 197 [0, 3, 5, 10, 11, 12] [] (E0 := [(0, .vl ρ0 1 (List.map encU8 code)), (3, .vl rn 4 (List.map encRule y1)), (5, .bool y2.2), (10, .str y7), (11, .vl rn 4 (List.map encRule y8.1)), (12, .bool y8.2)]) (H0 := []) rfl (⟨_, _, rfl, rfl, _, _, rfl, rfl, _, _, rfl, rfl, _, _, rfl, rfl, _, _, rfl, rfl, _, _, rfl, rfl, rfl⟩) (rfl) rfl ?_
   refine V.seq ?_
   replace hm0 := bindO hm0; rcases hm0 with ⟨y9, hh9, hm0⟩
   refine V.region ?_
   refine VO.cons rfl (V1.move rfl rfl rfl lt0 ?_)
   refine VO.cons rfl (V1.call rfl rfl rfl cok_6 rfl (ok_impl_ScheduleText hh9) rfl lt0 ?_)
   rintro _ _ ⟨rfl, rfl⟩
   refine VO.cons rfl (V1.move rfl rfl rfl lt0 ?_)
   refine VO.cons rfl (V1.extract rfl rfl rfl rfl lt0 ?_)
   refine VO.cons rfl (V1.extract rfl rfl rfl rfl lt0 ?_)
   refine VO.cons rfl (V1.assign rfl rfl rfl lt0 ?_)
   refine VO.cons rfl (V1.assign rfl rfl rfl lt0 ?_)
   refine VO.nil ?_
   refine V.keep 197 [0, 3, 5, 10, 11, 12, 13, 14] [] (E0 := [(0, .vl ρ0 1 (List.map encU8 code)), (3, .vl rn 4 (List.map encRule y1)), (5, .bool y2.2), (10, .str y7), (11, .vl rn 4 (List.map encRule y8.1)), (12, .bool y8.2), (13, .str y9.1), (14, .bool y9.2)]) (H0 := []) rfl (⟨_, _, rfl, rfl, _, _, rfl, rfl, _, _, rfl, rfl, _, _, rfl, rfl, _, _, rfl, rfl, _, _, rfl, rfl, _, _, rfl, rfl, _, _, rfl, rfl, rfl⟩) (rfl) rfl ?_
   refine V.seq ?_
   refine V.seq ?_
   replace hm0 := bindO hm0; rcases hm0 with ⟨y10, hh10, hm0⟩
   refine V.region ?_
   refine VO.cons rfl (V1.move rfl rfl rfl lt0 ?_)
   refine VO.cons rfl (V1.call rfl rfl rfl cok_12 rfl (ok_spec_ParseSchedule hh10) rfl lt0 ?_)
   rintro _ _ ⟨b1, rfl, rfl⟩
   refine VO.cons rfl (V1.move rfl rfl rfl lt0 ?_)
   refine VO.cons rfl (V1.extract rfl rfl rfl rfl lt0 ?_)
   refine VO.weakenK (Keeps.freezeG 0 rn [(92, .vl rn 4 (List.map encRule y10.1))] ([]) (f := encRule) (l := y10.1) rfl (fun _ => rfl) ⟨⟨_, rfl, .here⟩, trivial⟩ rfl rfl iNil) ?_
   refine VO.cons rfl (V1.extract rfl rfl rfl rfl lt0 ?_)
   refine VO.cons rfl (V1.assign rfl rfl rfl lt0 ?_)
   refine VO.cons rfl (V1.assign rfl rfl rfl lt0 ?_)
   refine VO.nil ?_
   refine V.keep 197 [0, 3, 5, 10, 11, 12, 13, 14, 15, 16] [] (E0 := [(0, .vl ρ0 1 (List.map encU8 code)), (3, .vl rn 4 (List.map encRule y1)), (5, .bool y2.2), (10, .str y7), (11, .vl rn 4 (List.map encRule y8.1)), (12, .bool y8.2), (13, .str y9.1), (14, .bool y9.2), (15, .vl rn 4 (List.map encRule y10.1)), (16, .bool y10.2)]) (H0 := []) rfl (⟨_, _, rfl, rfl, _, _, rfl, rfl, _, _, rfl, rfl, _, _, rfl, rfl, _, _, rfl, rfl, _, _, rfl, rfl, _, _, rfl, rfl, _, _, rfl, rfl, _, _, rfl, rfl, _, _, rfl, rfl, rfl⟩) (rfl) rfl ?_
   refine V.seq ?_
   replace hm0 := bindO hm0; rcases hm0 with ⟨y11, hh11, hm0⟩
   refine V.region ?_
   refine VO.cons rfl (V1.move rfl rfl rfl lt0 ?_)
   refine VO.cons rfl (V1.move rfl rfl rfl lt0 ?_)
   refine VO.cons rfl (V1.boolNeq rfl rfl und_4 rfl rfl lt0 ?_)
   refine VO.cons rfl (V1.move rfl rfl rfl lt0 ?_)
   apply VO.or (n := 4) rfl rfl rfl rfl rfl rfl lt0 (.none rfl)
   ·
    intro hg5
    refine VO.step (.some rfl rfl rfl) (V1.move rfl rfl rfl lt0 ?_)
    refine VO.step (.some rfl rfl rfl) (V1.move rfl rfl rfl lt0 ?_)
    refine VO.step (.some rfl rfl rfl) (V1.call rfl rfl rfl cok_10 rfl (ok_laws_vRules (cond_f hg5 hh11)) rfl lt0 ?_)
    rintro _ _ ⟨rfl, rfl⟩
    refine VO.step (.some rfl rfl rfl) (V1.not rfl rfl rfl lt0 ?_)
    exact VO.nil ⟨rfl, rfl, rfl, rfl, .inr ⟨rfl, .inr ⟨rfl, .inr ⟨rfl, .inr ⟨rfl, .inr ⟨rfl, .inl rfl⟩⟩⟩⟩⟩⟩
   refine VO.cons rfl (V1.move rfl rfl rfl lt0 ?_)
   apply VO.or (n := 10) rfl rfl rfl rfl rfl rfl lt0 (.none rfl)
   ·
    intro hg6
    refine VO.step (.some rfl rfl rfl) (V1.move rfl rfl rfl lt0 ?_)
    refine VO.step (.some rfl rfl rfl) (V1.move rfl rfl rfl lt0 ?_)
    apply VO.and (n := 7) rfl rfl rfl rfl rfl rfl lt0 (.some rfl rfl rfl)
    ·
     intro hg7
     refine VO.step (.some rfl rfl rfl) (V1.move rfl rfl rfl lt0 ?_)
     refine VO.step (.some rfl rfl rfl) (V1.not rfl rfl rfl lt0 ?_)
     refine VO.step (.some rfl rfl rfl) (V1.move rfl rfl rfl lt0 ?_)
     apply VO.or (n := 3) rfl rfl rfl rfl rfl rfl lt0 (.some rfl rfl rfl)
     ·
      intro hg8
      refine VO.step (.some rfl rfl rfl) (V1.move rfl rfl rfl lt0 ?_)
      refine VO.step (.some rfl rfl rfl) (V1.move rfl rfl rfl lt0 ?_)
      refine VO.step (.some rfl rfl rfl) (V1.str rfl rfl rfl rfl rfl lt0 ?_)
      exact VO.nil ⟨rfl, rfl, rfl, rfl, .inr ⟨rfl, .inr ⟨rfl, .inr ⟨rfl, .inr ⟨rfl, .inl rfl⟩⟩⟩⟩⟩
     exact VO.nil ⟨rfl, rfl, rfl, rfl, .inr ⟨rfl, .inr ⟨rfl, .inr ⟨rfl, .inr ⟨rfl, .inr ⟨rfl, .inl rfl⟩⟩⟩⟩⟩⟩
    exact VO.nil ⟨rfl, rfl, rfl, rfl, .inr ⟨rfl, .inr ⟨rfl, .inr ⟨rfl, .inr ⟨rfl, .inl rfl⟩⟩⟩⟩⟩
   refine VO.nil ?_
   refine V.keep 197 [0, 3, 5, 114] [] (E0 := [(0, .vl ρ0 1 (List.map encU8 code)), (3, .vl rn 4 (List.map encRule y1)), (5, .bool y2.2), (114, .bool (((!(y8.2 == y10.2)) || (!y11)) || (y8.2 && ((!y9.2) || (!(y9.1 == y7))))))]) (H0 := []) rfl (⟨_, _, rfl, rfl, _, _, rfl, rfl, _, _, rfl, rfl, _, _, rfl, rfl, rfl⟩) (rfl) rfl ?_
   refine V.cond rfl (fun hc2 => ?_) (fun hc2 => ?_)
   ·
    replace hm0 := cond_t hc2 hm0
    refine V.seq ?_
    refine V.region ?_
    refine VO.cons rfl (V1.assign rfl rfl rfl lt0 ?_)
    refine VO.nil ?_
    refine V.ret ?_
    obtain rfl := Option.some.inj hm0
    exact ⟨_, [], ⟨_, _, rfl, rfl, rfl⟩, List.nil_sublist _, rfl, rfl⟩
   ·
    replace hm0 := cond_f hc2 hm0
    refine V.skip ?_
    refine V.seq ?_
    replace hm0 := bindO hm0; rcases hm0 with ⟨y12, hh12, hm0⟩
    refine V.region ?_
    refine VO.cons rfl (V1.move rfl rfl rfl lt0 ?_)
    refine VO.cons rfl (V1.permK (V1.call rfl rfl rfl cok_13 rfl (ok_impl_SeriesIn hh12) rfl lt0 ?_))
    rintro _ _ ⟨ob2, hob2, rfl, rfl⟩
    refine ⟨_, ?_, Keeps.optBack (n := 1) (ob := ob2) (xs := List.map encInt y12.1) (H1 := []) (H2 := []) rfl⟩
    refine VO.cons rfl (V1.move rfl rfl rfl lt0 ?_)
    refine VO.cons rfl (V1.extract rfl rfl rfl rfl lt0 ?_)
    refine VO.weakenK (Keeps.optFront (n := 1) (ob := ob2) (xs := (List.map encInt y12.1)) (H1 := []) rfl) ?_
    refine VO.weakenK (Keeps.optVl 118 [] rn (f := encInt) (l := y12.1) (ob := ob2) (H1 := []) hob2 rfl rfl ⟨rfl, trivial⟩ (fun _ => rfl) rfl iNil) ?_
    refine VO.cons rfl (V1.extract rfl rfl rfl rfl lt0 ?_)
    refine VO.cons rfl (V1.assign rfl rfl rfl lt0 ?_)
    refine VO.cons rfl (V1.assign rfl rfl rfl lt0 ?_)
    refine VO.nil ?_
    refine V.keep 197 [0, 3, 5, 17, 18] [] (E0 := [(0, .vl ρ0 1 (List.map encU8 code)), (3, .vl rn 4 (List.map encRule y1)), (5, .bool y2.2), (17, .vl rn 1 (List.map encInt y12.1)), (18, .bool y12.2)]) (H0 := []) rfl (⟨_, _, rfl, rfl, _, _, rfl, rfl, _, _, rfl, rfl, _, _, rfl, rfl, _, _, rfl, rfl, rfl⟩) (rfl) rfl ?_
    refine V.seq ?_
    refine V.seq ?_
    replace hm0 := bindO hm0; rcases hm0 with ⟨y13, hh13, hm0⟩
    refine V.region ?_
    refine VO.cons rfl (V1.move rfl rfl rfl lt0 ?_)
    refine VO.cons rfl (V1.call rfl rfl rfl cok_14 rfl (ok_spec_SeriesIn hh13) rfl lt0 ?_)
    rintro _ _ ⟨b2, rfl, rfl⟩
    refine VO.cons rfl (V1.move rfl rfl rfl lt0 ?_)
    refine VO.cons rfl (V1.extract rfl rfl rfl rfl lt0 ?_)
    refine VO.weakenK (Keeps.freezeG 0 rn [(123, .vl rn 1 (List.map encInt y13.1))] ([]) (f := encInt) (l := y13.1) rfl (fun _ => rfl) ⟨⟨_, rfl, .here⟩, trivial⟩ rfl rfl iNil) ?_
    refine VO.cons rfl (V1.extract rfl rfl rfl rfl lt0 ?_)
    refine VO.cons rfl (V1.assign rfl rfl rfl lt0 ?_)
    refine VO.cons rfl (V1.assign rfl rfl rfl lt0 ?_)
    refine VO.nil ?_
    refine V.keep 197 [0, 3, 5, 17, 18, 19, 20] [] (E0 := [(0, .vl ρ0 1 (List.map encU8 code)), (3, .vl rn 4 (List.map encRule y1)), (5, .bool y2.2), (17, .vl rn 1 (List.map encInt y12.1)), (18, .bool y12.2), (19, .vl rn 1 (List.map encInt y13.1)), (20, .bool y13.2)]) (H0 := []) rfl (⟨_, _, rfl, rfl, _, _, rfl, rfl, _, _, rfl, rfl, _, _, rfl, rfl, _, _, rfl, rfl, _, _, rfl, rfl, _, _, rfl, rfl, rfl⟩) (rfl) rfl ?_
    refine V.seq ?_
    replace hm0 := bindO hm0; rcases hm0 with ⟨y14, hh14, hm0⟩
    refine V.region ?_
    refine VO.cons rfl (V1.move rfl rfl rfl lt0 ?_)
    refine VO.cons rfl (V1.move rfl rfl rfl lt0 ?_)
    refine VO.cons rfl (V1.boolNeq rfl rfl und_4 rfl rfl lt0 ?_)
    refine VO.cons rfl (V1.move rfl rfl rfl lt0 ?_)
    apply VO.or (n := 3) rfl rfl rfl rfl rfl rfl lt0 (.none rfl)
    ·
     intro hg9
     refine VO.step (.some rfl rfl rfl) (V1.move rfl rfl rfl lt0 ?_)
     refine VO.step (.some rfl rfl rfl) (V1.move rfl rfl rfl lt0 ?_)
     refine VO.step (.some rfl rfl rfl) (V1.boolNeq rfl rfl und_4 rfl rfl lt0 ?_)
     exact VO.nil ⟨rfl, rfl, rfl, rfl, .inr ⟨rfl, .inr ⟨rfl, .inr ⟨rfl, .inr ⟨rfl, .inl rfl⟩⟩⟩⟩⟩
    refine VO.cons rfl (V1.move rfl rfl rfl lt0 ?_)
    apply VO.or (n := 4) rfl rfl rfl rfl rfl rfl lt0 (.none rfl)
    ·
     intro hg10
     refine VO.step (.some rfl rfl rfl) (V1.move rfl rfl rfl lt0 ?_)
     refine VO.step (.some rfl rfl rfl) (V1.move rfl rfl rfl lt0 ?_)
     refine VO.step (.some rfl rfl rfl) (V1.call rfl rfl rfl cok_15 rfl (ok_laws_vInts (cond_f hg10 hh14)) rfl lt0 ?_)
     rintro _ _ ⟨rfl, rfl⟩
     refine VO.step (.some rfl rfl rfl) (V1.not rfl rfl rfl lt0 ?_)
     exact VO.nil ⟨rfl, rfl, rfl, rfl, .inr ⟨rfl, .inr ⟨rfl, .inr ⟨rfl, .inr ⟨rfl, .inr ⟨rfl, .inl rfl⟩⟩⟩⟩⟩⟩
    refine VO.nil ?_
    refine V.keep 197 [0, 3, 17, 18, 138] [] (E0 := [(0, .vl ρ0 1 (List.map encU8 code)), (3, .vl rn 4 (List.map encRule y1)), (17, .vl rn 1 (List.map encInt y12.1)), (18, .bool y12.2), (138, .bool (((!(y12.2 == y13.2)) || (!(y12.2 == y2.2))) || (!y14)))]) (H0 := []) rfl (⟨_, _, rfl, rfl, _, _, rfl, rfl, _, _, rfl, rfl, _, _, rfl, rfl, _, _, rfl, rfl, rfl⟩) (rfl) rfl ?_
    refine V.cond rfl (fun hc3 => ?_) (fun hc3 => ?_)
    ·
     replace hm0 := cond_t hc3 hm0
     refine V.seq ?_
     refine V.region ?_
     refine VO.cons rfl (V1.assign rfl rfl rfl lt0 ?_)
     refine VO.nil ?_
     refine V.ret ?_
     obtain rfl := Option.some.inj hm0
     exact ⟨_, [], ⟨_, _, rfl, rfl, rfl⟩, List.nil_sublist _, rfl, rfl⟩
    ·
     replace hm0 := cond_f hc3 hm0
     refine V.skip ?_
     refine V.seq ?_
     refine V.region ?_
     refine VO.cons rfl (V1.assign rfl rfl rfl lt0 ?_)
     refine VO.nil ?_
     refine V.seq ?_
     refine V.seq ?_
     refine V.region ?_
     refine VO.cons rfl (V1.assign rfl rfl rfl lt0 ?_)
     refine VO.nil ?_
     replace hm0 := bindO hm0; rcases hm0 with ⟨e0, he1, hm0⟩
     refine V.cutT (D := (Int) × (Unit)) (fun ⟨n_, _⟩ => ⟨197, [(21, .int .i64 n_), (0, .vl ρ0 1 (List.map encU8 code)), (3, .vl rn 4 (List.map encRule y1)), (18, .bool y12.2)], []⟩) (fun ⟨n_, _⟩ => (.inl n_ = e0)) ?_ ?_
     ·
      refine V.block ?_
      refine V.keep 197 [21, 22, 0, 3, 17, 18] [] (E0 := [(21, .int .i64 (0 : Int)), (22, .int .i64 (0 : Int)), (0, .vl ρ0 1 (List.map encU8 code)), (3, .vl rn 4 (List.map encRule y1)), (17, .vl rn 1 (List.map encInt y12.1)), (18, .bool y12.2)]) (H0 := []) rfl (⟨_, _, rfl, rfl, _, _, rfl, rfl, _, _, rfl, rfl, _, _, rfl, rfl, _, _, rfl, rfl, _, _, rfl, rfl, rfl⟩) (rfl) rfl ?_
      refine V.loopE (D := Nat × (Int × Int) × (Unit)) (fun ⟨n0, ⟨n_0, i⟩, _⟩ => [(21, .int .i64 n_0), (22, .int .i64 i)]) (fun ⟨n0, ⟨n_0, i⟩, _⟩ => []) (fun ⟨n0, ⟨n_0, i⟩, _⟩ => loopO (M.laws_FnSchedules_l0 y1 y12) n0 (n_0, i) = some e0) (fun ⟨n0, _, _⟩ => n0) (rounds, ((0 : Int), (0 : Int)), ()) rfl he1 ?_
      rintro ⟨n0, ⟨n_0, i⟩, _⟩ hP0
      obtain ⟨m0, y15, rfl, hm1, hl1, hr1⟩ := loop_head hP0
      unfold M.laws_FnSchedules_l0 at hm1; dsimp only at hm1
      show V _ _ _ ⟨197, [(21, .int .i64 n_0), (22, .int .i64 i), (0, .vl ρ0 1 (List.map encU8 code)), (3, .vl rn 4 (List.map encRule y1)), (17, .vl rn 1 (List.map encInt y12.1)), (18, .bool y12.2)], []⟩
      refine V.seq ?_
      refine V.seq ?_
      refine V.region ?_
      refine VO.cons rfl (V1.move rfl rfl rfl lt0 ?_)
      refine VO.cons rfl (V1.move rfl rfl rfl lt0 ?_)
      refine VO.cons rfl (V1.lenMap rfl rfl rfl rfl rfl rfl isl_33 lt0 ?_)
      refine VO.cons rfl (V1.int rfl rfl rfl rfl rfl lt0 ?_)
      refine VO.nil ?_
      refine V.cond rfl (fun hc4 => ?_) (fun hc4 => ?_)
      ·
       replace hm1 := cond_t hc4 hm1
       refine V.skip ?_
       refine V.keep 197 [0, 3, 17, 18, 21, 22] [] (E0 := [(0, .vl ρ0 1 (List.map encU8 code)), (3, .vl rn 4 (List.map encRule y1)), (17, .vl rn 1 (List.map encInt y12.1)), (18, .bool y12.2), (21, .int .i64 n_0), (22, .int .i64 i)]) (H0 := []) rfl (⟨_, _, rfl, rfl, _, _, rfl, rfl, _, _, rfl, rfl, _, _, rfl, rfl, _, _, rfl, rfl, _, _, rfl, rfl, rfl⟩) (rfl) rfl ?_
       refine V.seq ?_
       refine V.block ?_
       refine V.seq ?_
       replace hm1 := asrt_some hm1; rcases hm1 with ⟨hh15, hm1⟩
       replace hm1 := bindO hm1; rcases hm1 with ⟨y16, hh16, hm1⟩
       refine V.region ?_
       refine VO.cons rfl (V1.move rfl rfl rfl lt0 ?_)
       refine VO.cons rfl (V1.move rfl rfl rfl lt0 ?_)
       refine VO.cons rfl (V1.move rfl rfl rfl lt0 ?_)
       refine VO.cons rfl (V1.indexI rfl rfl esz_33 rfl rfl hh15 lt0 ?_)
       refine VO.cons rfl (V1.loadPin rfl rfl tyk_3 rfl rfl lt0 ?_)
       refine VO.cons rfl (V1.permK (V1.call rfl rfl rfl cok_16 rfl (ok_impl_RulesFor hh16) rfl lt0 ?_))
       rintro _ _ ⟨ob3, hob3, rfl, rfl⟩
       refine ⟨_, ?_, Keeps.optBack (n := 4) (ob := ob3) (xs := List.map encRule y16.1) (H1 := []) (H2 := []) rfl⟩
       refine VO.cons rfl (V1.move rfl rfl rfl lt0 ?_)
       refine VO.cons rfl (V1.extract rfl rfl rfl rfl lt0 ?_)
       refine VO.weakenK (Keeps.optFront (n := 4) (ob := ob3) (xs := (List.map encRule y16.1)) (H1 := []) rfl) ?_
       refine VO.weakenK (Keeps.optVl 152 [] rn (f := encRule) (l := y16.1) (ob := ob3) (H1 := []) hob3 rfl rfl ⟨rfl, trivial⟩ (fun _ => rfl) rfl iNil) ?_
       refine VO.cons rfl (V1.extract rfl rfl rfl rfl lt0 ?_)
       refine VO.cons rfl (V1.assign rfl rfl rfl lt0 ?_)
       refine VO.cons rfl (V1.assign rfl rfl rfl lt0 ?_)
       refine VO.nil ?_
       refine V.keep 197 [0, 3, 17, 18, 21, 22, 23, 24] [] (E0 := [(0, .vl ρ0 1 (List.map encU8 code)), (3, .vl rn 4 (List.map encRule y1)), (17, .vl rn 1 (List.map encInt y12.1)), (18, .bool y12.2), (21, .int .i64 n_0), (22, .int .i64 i), (23, .vl rn 4 (List.map encRule y16.1)), (24, .bool y16.2)]) (H0 := []) rfl (⟨_, _, rfl, rfl, _, _, rfl, rfl, _, _, rfl, rfl, _, _, rfl, rfl, _, _, rfl, rfl, _, _, rfl, rfl, _, _, rfl, rfl, _, _, rfl, rfl, rfl⟩) (rfl) rfl ?_
       refine V.seq ?_
       refine V.seq ?_
       refine V.region ?_
       refine VO.cons rfl (V1.move rfl rfl rfl lt0 ?_)
       refine VO.cons rfl (V1.not rfl rfl rfl lt0 ?_)
       refine VO.cons rfl (V1.move rfl rfl rfl lt0 ?_)
       apply VO.or (n := 3) rfl rfl rfl rfl rfl rfl lt0 (.none rfl)
       ·
        intro hg11
        refine VO.step (.some rfl rfl rfl) (V1.move rfl rfl rfl lt0 ?_)
        refine VO.step (.some rfl rfl rfl) (V1.lenMap rfl rfl rfl rfl rfl rfl isl_24 lt0 ?_)
        refine VO.step (.some rfl rfl rfl) (V1.int rfl rfl rfl rfl rfl lt0 ?_)
        exact VO.nil ⟨rfl, rfl, rfl, rfl, .inr ⟨rfl, .inr ⟨rfl, .inr ⟨rfl, .inr ⟨rfl, .inl rfl⟩⟩⟩⟩⟩
       refine VO.nil ?_
       refine V.keep 197 [0, 3, 17, 18, 21, 22, 23, 160] [] (E0 := [(0, .vl ρ0 1 (List.map encU8 code)), (3, .vl rn 4 (List.map encRule y1)), (17, .vl rn 1 (List.map encInt y12.1)), (18, .bool y12.2), (21, .int .i64 n_0), (22, .int .i64 i), (23, .vl rn 4 (List.map encRule y16.1)), (160, .bool ((!y16.2) || ((y16.1.length : Int) == (0 : Int))))]) (H0 := []) rfl (⟨_, _, rfl, rfl, _, _, rfl, rfl, _, _, rfl, rfl, _, _, rfl, rfl, _, _, rfl, rfl, _, _, rfl, rfl, _, _, rfl, rfl, _, _, rfl, rfl, rfl⟩) (rfl) rfl ?_
       refine V.cond rfl (fun hc5 => ?_) (fun hc5 => ?_)
       ·
        replace hm1 := cond_t hc5 hm1
        refine V.seq ?_
        refine V.region ?_
        refine VO.cons rfl (V1.assign rfl rfl rfl lt0 ?_)
        refine VO.nil ?_
        refine V.ret ?_
        obtain rfl := hr1 _ (Option.some.inj hm1).symm
        change some _ = some _ at hm0
        obtain rfl := Option.some.inj hm0
        exact ⟨_, [], ⟨_, _, rfl, rfl, rfl⟩, List.nil_sublist _, rfl, rfl⟩
       ·
        replace hm1 := cond_f hc5 hm1
        refine V.skip ?_
        refine V.region ?_
        refine VO.cons rfl (V1.move rfl rfl rfl lt0 ?_)
        refine VO.cons rfl (V1.move rfl rfl rfl lt0 ?_)
        refine VO.cons rfl (V1.lenMap rfl rfl rfl rfl rfl rfl isl_24 lt0 ?_)
        refine VO.cons rfl (V1.int rfl rfl rfl rfl rfl lt0 ?_)
        refine VO.cons rfl (V1.assign rfl rfl rfl lt0 ?_)
        refine VO.nil ?_
        refine V.keep 197 [0, 3, 17, 18, 21, 22] [] (E0 := [(0, .vl ρ0 1 (List.map encU8 code)), (3, .vl rn 4 (List.map encRule y1)), (17, .vl rn 1 (List.map encInt y12.1)), (18, .bool y12.2), (21, .int .i64 (IntKind.i64.wrap (n_0 + (y16.1.length : Int)))), (22, .int .i64 i)]) (H0 := []) rfl (⟨_, _, rfl, rfl, _, _, rfl, rfl, _, _, rfl, rfl, _, _, rfl, rfl, _, _, rfl, rfl, _, _, rfl, rfl, rfl⟩) (rfl) rfl ?_
        refine V.region ?_
        refine VO.cons rfl (V1.move rfl rfl rfl lt0 ?_)
        refine VO.cons rfl (V1.int rfl rfl rfl rfl rfl lt0 ?_)
        refine VO.cons rfl (V1.assign rfl rfl rfl lt0 ?_)
        refine VO.nil ?_
        exact ⟨(m0, ((IntKind.i64.wrap (n_0 + (y16.1.length : Int))), (IntKind.i64.wrap (i + (1 : Int)))), ()), hl1 _ (Option.some.inj hm1).symm, Nat.lt_succ_self _, Keeps.mk (ks := []) rfl ⟨rfl, rfl, rfl, rfl, rfl, rfl, trivial⟩ (rfl) rfl⟩
      ·
       replace hm1 := cond_f hc4 hm1
       refine V.exit ?_
       obtain rfl := hr1 _ (Option.some.inj hm1).symm
       exact ⟨(n_0, ()), rfl, Keeps.mk (ks := []) rfl ⟨rfl, rfl, rfl, rfl, trivial⟩ (rfl) rfl⟩
     ·
      rintro ⟨n_, _⟩ rfl
      try dsimp only at hm0
      refine V.seq ?_
      refine V.seq ?_
      refine V.region ?_
      refine VO.cons rfl (V1.move rfl rfl rfl lt0 ?_)
      refine VO.cons rfl (V1.move rfl rfl rfl lt0 ?_)
      apply VO.and (n := 4) rfl rfl rfl rfl rfl rfl lt0 (.none rfl)
      ·
       intro hg12
       refine VO.step (.some rfl rfl rfl) (V1.move rfl rfl rfl lt0 ?_)
       refine VO.step (.some rfl rfl rfl) (V1.move rfl rfl rfl lt0 ?_)
       refine VO.step (.some rfl rfl rfl) (V1.lenMap rfl rfl rfl rfl rfl rfl isl_24 lt0 ?_)
       refine VO.step (.some rfl rfl rfl) (V1.int rfl rfl rfl rfl rfl lt0 ?_)
       exact VO.nil ⟨rfl, rfl, rfl, rfl, .inr ⟨rfl, .inr ⟨rfl, .inr ⟨rfl, .inr ⟨rfl, .inr ⟨rfl, .inl rfl⟩⟩⟩⟩⟩⟩
      refine VO.nil ?_
      refine V.keep 197 [0, 171] [] (E0 := [(0, .vl ρ0 1 (List.map encU8 code)), (171, .bool (y12.2 && (n_ != (y1.length : Int))))]) (H0 := []) rfl (⟨_, _, rfl, rfl, _, _, rfl, rfl, rfl⟩) (rfl) rfl ?_
      refine V.cond rfl (fun hc6 => ?_) (fun hc6 => ?_)
      ·
       replace hm0 := cond_t hc6 hm0
       refine V.seq ?_
       refine V.region ?_
       refine VO.cons rfl (V1.assign rfl rfl rfl lt0 ?_)
       refine VO.nil ?_
       refine V.ret ?_
       obtain rfl := Option.some.inj hm0
       exact ⟨_, [], ⟨_, _, rfl, rfl, rfl⟩, List.nil_sublist _, rfl, rfl⟩
      ·
       replace hm0 := cond_f hc6 hm0
       refine V.skip ?_
       refine V.seq ?_
       replace hm0 := bindO hm0; rcases hm0 with ⟨y17, hh17, hm0⟩
       refine V.region ?_
       refine VO.cons rfl (V1.move rfl rfl rfl lt0 ?_)
       refine VO.cons rfl (V1.call rfl rfl rfl cok_17 rfl (ok_spec_DrawRulesFor hh17) rfl lt0 ?_)
       rintro _ _ ⟨b3, rfl, rfl⟩
       refine VO.cons rfl (V1.move rfl rfl rfl lt0 ?_)
       refine VO.cons rfl (V1.extract rfl rfl rfl rfl lt0 ?_)
       refine VO.weakenK (Keeps.freezeG 0 rn [(175, .vl rn 4 (List.map encRule y17.1))] ([]) (f := encRule) (l := y17.1) rfl (fun _ => rfl) ⟨⟨_, rfl, .here⟩, trivial⟩ rfl rfl iNil) ?_
       refine VO.cons rfl (V1.extract rfl rfl rfl rfl lt0 ?_)
       refine VO.cons rfl (V1.assign rfl rfl rfl lt0 ?_)
       refine VO.cons rfl (V1.assign rfl rfl rfl lt0 ?_)
       refine VO.nil ?_
       refine V.keep 197 [25, 26] [] (E0 := [(25, .vl rn 4 (List.map encRule y17.1)), (26, .int .i64 y17.2)]) (H0 := []) rfl (⟨_, _, rfl, rfl, _, _, rfl, rfl, rfl⟩) (rfl) rfl ?_
       refine V.seq ?_
       replace hm0 := bindO hm0; rcases hm0 with ⟨y18, hh18, hm0⟩
       refine V.region ?_
       refine VO.cons rfl (V1.move rfl rfl rfl lt0 ?_)
       refine VO.cons rfl (V1.move rfl rfl rfl lt0 ?_)
       refine VO.cons rfl (V1.permK (V1.call rfl rfl rfl cok_16 rfl (ok_impl_RulesFor hh18) rfl lt0 ?_))
       rintro _ _ ⟨ob4, hob4, rfl, rfl⟩
       refine ⟨_, ?_, Keeps.optBack (n := 4) (ob := ob4) (xs := List.map encRule y18.1) (H1 := []) (H2 := []) rfl⟩
       refine VO.cons rfl (V1.move rfl rfl rfl lt0 ?_)
       refine VO.cons rfl (V1.extract rfl rfl rfl rfl lt0 ?_)
       refine VO.weakenK (Keeps.optFront (n := 4) (ob := ob4) (xs := (List.map encRule y18.1)) (H1 := []) rfl) ?_
       refine VO.weakenK (Keeps.optVl 181 [] rn (f := encRule) (l := y18.1) (ob := ob4) (H1 := []) hob4 rfl rfl ⟨rfl, trivial⟩ (fun _ => rfl) rfl iNil) ?_
       refine VO.cons rfl (V1.extract rfl rfl rfl rfl lt0 ?_)
       refine VO.cons rfl (V1.assign rfl rfl rfl lt0 ?_)
       refine VO.cons rfl (V1.assign rfl rfl rfl lt0 ?_)
       refine VO.nil ?_
       refine V.keep 197 [25, 26, 27, 28] [] (E0 := [(25, .vl rn 4 (List.map encRule y17.1)), (26, .int .i64 y17.2), (27, .vl rn 4 (List.map encRule y18.1)), (28, .bool y18.2)]) (H0 := []) rfl (⟨_, _, rfl, rfl, _, _, rfl, rfl, _, _, rfl, rfl, _, _, rfl, rfl, rfl⟩) (rfl) rfl ?_
       refine V.seq ?_
       replace hm0 := bindO hm0; rcases hm0 with ⟨y19, hh19, hm0⟩
       refine V.region ?_
       refine VO.cons rfl (V1.move rfl rfl rfl lt0 ?_)
       refine VO.cons rfl (V1.move rfl rfl rfl lt0 ?_)
       refine VO.cons rfl (V1.call rfl rfl rfl cok_18 rfl (ok_spec_RulesFor hh19) rfl lt0 ?_)
       rintro _ _ ⟨b4, rfl, rfl⟩
       refine VO.cons rfl (V1.move rfl rfl rfl lt0 ?_)
       refine VO.cons rfl (V1.extract rfl rfl rfl rfl lt0 ?_)
       refine VO.weakenK (Keeps.freezeG 0 rn [(187, .vl rn 4 (List.map encRule y19.1))] ([]) (f := encRule) (l := y19.1) rfl (fun _ => rfl) ⟨⟨_, rfl, .here⟩, trivial⟩ rfl rfl iNil) ?_
       refine VO.cons rfl (V1.extract rfl rfl rfl rfl lt0 ?_)
       refine VO.cons rfl (V1.assign rfl rfl rfl lt0 ?_)
       refine VO.cons rfl (V1.assign rfl rfl rfl lt0 ?_)
       refine VO.nil ?_
       refine V.keep 197 [27, 28, 29, 30] [] (E0 := [(27, .vl rn 4 (List.map encRule y18.1)), (28, .bool y18.2), (29, .vl rn 4 (List.map encRule y19.1)), (30, .bool y19.2)]) (H0 := []) rfl (⟨_, _, rfl, rfl, _, _, rfl, rfl, _, _, rfl, rfl, _, _, rfl, rfl, rfl⟩) (rfl) rfl ?_
       refine V.seq ?_
       replace hm0 := bindO hm0; rcases hm0 with ⟨y20, hh20, hm0⟩
       refine V.region ?_
       refine VO.cons rfl (V1.move rfl rfl rfl lt0 ?_)
       refine VO.cons rfl (V1.move rfl rfl rfl lt0 ?_)
       refine VO.cons rfl (V1.boolEql rfl rfl und_4 rfl rfl lt0 ?_)
       refine VO.cons rfl (V1.move rfl rfl rfl lt0 ?_)
       apply VO.and (n := 3) rfl rfl rfl rfl rfl rfl lt0 (.none rfl)
       ·
        intro hg13
        refine VO.step (.some rfl rfl rfl) (V1.move rfl rfl rfl lt0 ?_)
        refine VO.step (.some rfl rfl rfl) (V1.move rfl rfl rfl lt0 ?_)
        refine VO.step (.some rfl rfl rfl) (V1.call rfl rfl rfl cok_10 rfl (ok_laws_vRules (cond_t hg13 hh20)) rfl lt0 ?_)
        rintro _ _ ⟨rfl, rfl⟩
        exact VO.nil ⟨rfl, rfl, rfl, rfl, .inr ⟨rfl, .inr ⟨rfl, .inr ⟨rfl, .inr ⟨rfl, .inl rfl⟩⟩⟩⟩⟩
       refine VO.cons rfl (V1.assign rfl rfl rfl lt0 ?_)
       refine VO.nil ?_
       refine V.ret ?_
       obtain rfl := Option.some.inj hm0
       exact ⟨_, [], ⟨_, _, rfl, rfl, rfl⟩, List.nil_sublist _, rfl, rfl⟩
end Go.Proofs.YthcmelnpcaijaaaGreatDoor
