/- the functions do what their models say -/
import Derived.Test.YteocnbeefedbkaaDoorQh2
set_option linter.unusedSimpArgs false
set_option linter.unusedVariables false
set_option maxRecDepth 100000
set_option maxHeartbeats 4000000
namespace Go.Proofs.YteocnbeefedbkaaDoor
open Go.VS

theorem ok_spec_DrawIsHidden {ρ0 rn : Nat} {code : List Int} {r : List UInt8 × List Span × List UInt8} (h : M.spec_DrawIsHidden code = some r) : Does Tryd.prog 41 [.vl ρ0 1 (List.map encU8 code)] [] rn (fun x H => ∃ (ob1_ : Nat), x = .tup [.str r.1, PV.sref ob1_ 3 0 (List.length r.2.1), .str r.2.2] ∧ H = [(ob1_, ⟨3, List.map encSpan r.2.1⟩)]) := by
 have hm0 := h; clear h; unfold M.spec_DrawIsHidden at hm0
 try dsimp only at hm0
 refine Does.intro (N := 39) Tryd.func41 rfl rfl rfl rfl ?_
 intro w0 S0 L0
 refine V.seq ?_
 refine V.region ?_
 refine VO.cons rfl (V1.assign rfl rfl rfl lt0 ?_)
 refine VO.cons rfl (V1.assign rfl rfl rfl lt0 ?_)
 refine VO.cons rfl (V1.assign rfl rfl rfl lt0 ?_)
 refine VO.nil ?_
 refine V.seq ?_
 refine V.region ?_
 refine VO.cons rfl (V1.move rfl rfl rfl lt0 ?_)
 refine VO.cons rfl (V1.build rfl rfl zk_77 pl_77 rfl rfl lt0 ?_)
 refine VO.cons rfl (V1.boxN (n := 3) rfl rfl rfl rfl rfl lt0 ?_)
 intro b0
 refine VO.cons rfl (V1.assign rfl rfl rfl lt0 ?_)
 refine VO.nil ?_
 refine V.keep 39 [5] [0] (E0 := [(5, .ref b0 3 0 0)]) (H0 := [(b0, ⟨3, [.agg [.vl ρ0 1 (List.map encU8 code), .int .i64 (0 : Int), .int .u64 (0 : Int)]]⟩)]) rfl (⟨_, _, rfl, rfl, rfl⟩) (⟨_, _, rfl, rfl, rfl⟩) rfl ?_
 refine V.seq ?_
 replace hm0 := bindO hm0; rcases hm0 with ⟨y0, hh0, hm0⟩
 refine V.region ?_
 refine VO.cons rfl (V1.move rfl rfl rfl lt0 ?_)
 refine VO.cons rfl (V1.callM 0 (rn + ρ0 + 1) [] [.ref b0 3 0 0] (p := (b0, ⟨3, [.agg [.vl ρ0 1 (List.map encU8 code), .int .i64 (0 : Int), .int .u64 (0 : Int)]]⟩)) rfl rfl rfl cok_90 rfl rfl ⟨_, _, rfl, .same _, rfl⟩ bwNil (ok_spec_l1Cur_text hh0) rfl (.inl rfl) lt0 ?_)
 rintro _ _ ⟨rfl, rfl⟩
 refine VO.cons rfl (V1.assign rfl rfl rfl lt0 ?_)
 refine VO.nil ?_
 refine V.seq ?_
 replace hm0 := bindO hm0; rcases hm0 with ⟨y1, hh1, hm0⟩
 refine V.region ?_
 refine VO.cons rfl (V1.move rfl rfl rfl lt0 ?_)
 refine VO.cons rfl (V1.move rfl rfl rfl lt0 ?_)
 refine VO.cons rfl (V1.callM 0 (rn + ρ0 + 1) [] [.ref b0 3 0 0, .str y0.1] (p := (b0, ⟨3, [encCur ρ0 y0.2]⟩)) rfl rfl rfl cok_91 rfl rfl ⟨_, _, rfl, .same _, ⟨_, _, rfl, .same _, rfl⟩⟩ bwNil (ok_spec_l1Cur_spans hh1) rfl (.inl rfl) lt0 ?_)
 rintro _ _ ⟨b1, rfl, rfl⟩
 refine VO.cons rfl (V1.assign rfl rfl rfl lt0 ?_)
 refine VO.nil ?_
 refine V.keep 39 [5, 6, 7] [0, 1] (E0 := [(5, .ref b0 3 0 0), (6, .str y0.1), (7, .sref b1 3 0 (List.length y1.1))]) (H0 := [(b1, ⟨3, List.map encSpan y1.1⟩), (b0, ⟨3, [encCur ρ0 y1.2]⟩)]) rfl (⟨_, _, rfl, rfl, _, _, rfl, rfl, _, _, rfl, rfl, rfl⟩) (⟨_, _, rfl, rfl, _, _, rfl, rfl, rfl⟩) rfl ?_
 refine V.seq ?_
 replace hm0 := bindO hm0; rcases hm0 with ⟨y2, hh2, hm0⟩
 refine V.region ?_
 refine VO.cons rfl (V1.move rfl rfl rfl lt0 ?_)
 refine VO.cons rfl (V1.callM 1 (rn + ρ0 + 1) [] [.ref b0 3 0 0] (p := (b0, ⟨3, [encCur ρ0 y1.2]⟩)) rfl rfl rfl cok_92 rfl rfl ⟨_, _, rfl, .same _, rfl⟩ bwNil (ok_spec_l1Cur_wordOf hh2) rfl (.inl rfl) lt0 ?_)
 rintro _ _ ⟨rfl, rfl⟩
 refine VO.cons rfl (V1.assign rfl rfl rfl lt0 ?_)
 refine VO.nil ?_
 refine V.seq ?_
 refine V.seq ?_
 replace hm0 := bindO hm0; rcases hm0 with ⟨y3, hh3, hm0⟩
 refine V.region ?_
 refine VO.cons rfl (V1.move rfl rfl rfl lt0 ?_)
 refine VO.cons rfl (V1.move rfl rfl rfl lt0 ?_)
 refine VO.cons rfl (V1.move rfl rfl rfl lt0 ?_)
 refine VO.cons rfl (V1.callL (rn + 1) [b1] [.str y0.1, .vl (rn + 1) 3 (List.map encSpan y1.1), .str y2.1, .int .i64 (1 : Int)] rfl rfl rfl cok_38 rfl ⟨_, _, rfl, .same _, ⟨_, _, rfl, Lend.srMap 1 rfl (fun _ => rfl) (.head _), ⟨_, _, rfl, .same _, ⟨_, _, rfl, .same _, rfl⟩⟩⟩⟩ (bwCons (k := 1) rfl bwNil) (ok_spec_HideWord hh3) rfl (⟨(by first | omega | (dsimp only; omega)), by rintro _ _ ⟨b2, rfl, rfl⟩; exact ⟨by simp [PV.no, PV.noL, optS_no, noL_iff, nbeq] <;> omega, by intro b ob h; first | exact optH_no (noL_map (fun _ => by simp [PV.no, PV.noL, noL_iff, nbeq]) _) b ob h | (simp only [List.append_assoc, List.mem_append, List.mem_cons, List.mem_singleton, List.not_mem_nil, or_false, Prod.mk.injEq] at h; rcases h with ⟨rfl, rfl⟩ | ⟨rfl, rfl⟩ <;> first | exact noL_map (fun _ => by simp [PV.no, PV.noL, noL_iff, nbeq]) _ | (simp [PV.no, PV.noL, optS_no, noL_iff, nbeq] <;> omega)) | (simp at h; obtain ⟨rfl, rfl⟩ := h; exact noL_map (fun _ => by simp [PV.no, PV.noL, noL_iff, nbeq]) _) | (simp at h; obtain ⟨rfl, rfl⟩ := h; simp [PV.no, PV.noL, optS_no, noL_iff, nbeq] <;> omega)⟩⟩) lt0 ?_)
 rintro _ _ ⟨b2, rfl, rfl⟩
 refine VO.cons rfl (V1.move rfl rfl rfl lt0 ?_)
 refine VO.cons rfl (V1.extract rfl rfl rfl rfl lt0 ?_)
 refine VO.cons rfl (V1.extract rfl rfl rfl rfl lt0 ?_)
 refine VO.cons rfl (V1.assign rfl rfl rfl lt0 ?_)
 refine VO.cons rfl (V1.assign rfl rfl rfl lt0 ?_)
 refine VO.nil ?_
 refine V.keep 39 [5, 6, 7, 8, 9, 10] [0, 1, 2] (E0 := [(5, .ref b0 3 0 0), (6, .str y0.1), (7, .sref b1 3 0 (List.length y1.1)), (8, .str y2.1), (9, .sref b2 3 0 (List.length y3.1)), (10, .bool y3.2)]) (H0 := [(b2, ⟨3, List.map encSpan y3.1⟩), (b0, ⟨3, [encCur ρ0 y2.2]⟩), (b1, ⟨3, List.map encSpan y1.1⟩)]) rfl (⟨_, _, rfl, rfl, _, _, rfl, rfl, _, _, rfl, rfl, _, _, rfl, rfl, _, _, rfl, rfl, _, _, rfl, rfl, rfl⟩) (⟨_, _, rfl, rfl, _, _, rfl, rfl, _, _, rfl, rfl, rfl⟩) rfl ?_
 refine V.seq ?_
 replace hm0 := bindO hm0; rcases hm0 with ⟨y4, hh4, hm0⟩
 refine V.region ?_
 refine VO.cons rfl (V1.move rfl rfl rfl lt0 ?_)
 refine VO.cons rfl (V1.move rfl rfl rfl lt0 ?_)
 apply VO.andH (n := 2) [(b2, ⟨3, List.map encSpan y3.1⟩), (b0, ⟨3, [encCur ρ0 (bif y3.2 then y4.2 else y2.2)]⟩), (b1, ⟨3, List.map encSpan y1.1⟩)] rfl rfl rfl rfl rfl rfl lt0 (.none rfl) (fun h => by rw [h]; rfl)
 ·
  intro hg0
  refine VO.step (.some rfl rfl rfl) (V1.move rfl rfl rfl lt0 ?_)
  refine VO.step (.some rfl rfl rfl) (V1.callM 1 (rn + ρ0 + 1) [] [.ref b0 3 0 0, .int .i64 (2 : Int)] (p := (b0, ⟨3, [encCur ρ0 y2.2]⟩)) rfl rfl rfl cok_108 rfl rfl ⟨_, _, rfl, .same _, ⟨_, _, rfl, .same _, rfl⟩⟩ bwNil (ok_spec_l1Cur_one (cond_t hg0 hh4)) rfl (.inl rfl) lt0 ?_)
  rintro _ _ ⟨rfl, rfl⟩
  refine VO.weakenK (Keeps.setAt (H := [(b2, ⟨3, List.map encSpan y3.1⟩), (b0, ⟨3, [encCur ρ0 y2.2]⟩), (b1, ⟨3, List.map encSpan y1.1⟩)]) 1 lt0) ?_
  exact VO.nil ⟨rfl, rfl, rfl, (by rw [hg0]; rfl), .inr ⟨rfl, .inr ⟨rfl, .inr ⟨rfl, .inl rfl⟩⟩⟩⟩
 refine VO.nil ?_
 refine V.keep 39 [6, 7, 8, 9, 32] [0, 2] (E0 := [(6, .str y0.1), (7, .sref b1 3 0 (List.length y1.1)), (8, .str y2.1), (9, .sref b2 3 0 (List.length y3.1)), (32, .bool (y3.2 && y4.1))]) (H0 := [(b2, ⟨3, List.map encSpan y3.1⟩), (b1, ⟨3, List.map encSpan y1.1⟩)]) rfl (⟨_, _, rfl, rfl, _, _, rfl, rfl, _, _, rfl, rfl, _, _, rfl, rfl, _, _, rfl, rfl, rfl⟩) (⟨_, _, rfl, rfl, _, _, rfl, rfl, rfl⟩) rfl ?_
 refine V.cond rfl (fun hc0 => ?_) (fun hc0 => ?_)
 ·
  replace hm0 := cond_t hc0 hm0
  refine V.seq ?_
  refine V.region ?_
  refine VO.cons rfl (V1.move rfl rfl rfl lt0 ?_)
  refine VO.cons rfl (V1.move rfl rfl rfl lt0 ?_)
  refine VO.cons rfl (V1.move rfl rfl rfl lt0 ?_)
  refine VO.cons rfl (V1.assign rfl rfl rfl lt0 ?_)
  refine VO.cons rfl (V1.assign rfl rfl rfl lt0 ?_)
  refine VO.cons rfl (V1.assign rfl rfl rfl lt0 ?_)
  refine VO.nil ?_
  refine V.keep 39 [2, 3, 4] [0] (E0 := [(2, .str y0.1), (3, .sref b2 3 0 (List.length y3.1)), (4, .str y2.1)]) (H0 := [(b2, ⟨3, List.map encSpan y3.1⟩)]) rfl (⟨_, _, rfl, rfl, _, _, rfl, rfl, _, _, rfl, rfl, rfl⟩) (⟨_, _, rfl, rfl, rfl⟩) rfl ?_
  refine V.ret ?_
  obtain rfl := Option.some.inj hm0
  exact ⟨_, _, ⟨_, _, rfl, rfl, _, _, rfl, rfl, _, _, rfl, rfl, rfl⟩, List.Sublist.refl _, b2, rfl, rfl⟩
 ·
  replace hm0 := cond_f hc0 hm0
  refine V.skip ?_
  refine V.seq ?_
  refine V.region ?_
  refine VO.cons rfl (V1.move rfl rfl rfl lt0 ?_)
  refine VO.cons rfl (V1.move rfl rfl rfl lt0 ?_)
  refine VO.cons rfl (V1.move rfl rfl rfl lt0 ?_)
  refine VO.cons rfl (V1.assign rfl rfl rfl lt0 ?_)
  refine VO.cons rfl (V1.assign rfl rfl rfl lt0 ?_)
  refine VO.cons rfl (V1.assign rfl rfl rfl lt0 ?_)
  refine VO.nil ?_
  refine V.keep 39 [2, 3, 4] [1] (E0 := [(2, .str y0.1), (3, .sref b1 3 0 (List.length y1.1)), (4, .str y2.1)]) (H0 := [(b1, ⟨3, List.map encSpan y1.1⟩)]) rfl (⟨_, _, rfl, rfl, _, _, rfl, rfl, _, _, rfl, rfl, rfl⟩) (⟨_, _, rfl, rfl, rfl⟩) rfl ?_
  refine V.ret ?_
  obtain rfl := Option.some.inj hm0
  exact ⟨_, _, ⟨_, _, rfl, rfl, _, _, rfl, rfl, _, _, rfl, rfl, rfl⟩, List.Sublist.refl _, b1, rfl, rfl⟩

theorem ok_spec_IsHidden {ρ1 rn : Nat} {text : List UInt8} {spans : List Span} {word : List UInt8} {r : Bool × Bool} (h : M.spec_IsHidden text spans word = some r) : Does Tryd.prog 42 [.str text, .vl ρ1 3 (List.map encSpan spans), .str word] [] rn (fun x H => x = .tup [.bool r.1, .bool r.2] ∧ H = []) := by
 have hm0 := h; clear h; unfold M.spec_IsHidden at hm0
 try dsimp only at hm0
 refine Does.intro (N := 42) Tryd.func42 rfl rfl rfl rfl ?_
 intro w0 S0 L0
 refine V.seq ?_
 refine V.region ?_
 refine VO.cons rfl (V1.assign rfl rfl rfl lt0 ?_)
 refine VO.cons rfl (V1.assign rfl rfl rfl lt0 ?_)
 refine VO.nil ?_
 refine V.seq ?_
 refine V.seq ?_
 replace hm0 := bindO hm0; rcases hm0 with ⟨y0, hh0, hm0⟩
 replace hm0 := bindO hm0; rcases hm0 with ⟨y1, hh1, hm0⟩
 refine V.region ?_
 refine VO.cons rfl (V1.move rfl rfl rfl lt0 ?_)
 refine VO.cons rfl (V1.move rfl rfl rfl lt0 ?_)
 refine VO.cons rfl (V1.call rfl rfl rfl cok_101 rfl (ok_spec_l15Good hh0) rfl lt0 ?_)
 rintro _ _ ⟨rfl, rfl⟩
 refine VO.cons rfl (V1.not rfl rfl rfl lt0 ?_)
 refine VO.cons rfl (V1.move rfl rfl rfl lt0 ?_)
 apply VO.or (n := 3) rfl rfl rfl rfl rfl rfl lt0 (.none rfl)
 ·
  intro hg0
  refine VO.step (.some rfl rfl rfl) (V1.move rfl rfl rfl lt0 ?_)
  refine VO.step (.some rfl rfl rfl) (V1.call rfl rfl rfl cok_102 rfl (ok_spec_l2Word (cond_f hg0 hh1)) rfl lt0 ?_)
  rintro _ _ ⟨rfl, rfl⟩
  refine VO.step (.some rfl rfl rfl) (V1.not rfl rfl rfl lt0 ?_)
  exact VO.nil ⟨rfl, rfl, rfl, rfl, .inr ⟨rfl, .inr ⟨rfl, .inr ⟨rfl, .inr ⟨rfl, .inl rfl⟩⟩⟩⟩⟩
 refine VO.nil ?_
 refine V.keep 42 [0, 1, 2, 18] [] (E0 := [(0, .str text), (1, .vl ρ1 3 (List.map encSpan spans)), (2, .str word), (18, .bool ((!y0) || (!y1)))]) (H0 := []) rfl (⟨_, _, rfl, rfl, _, _, rfl, rfl, _, _, rfl, rfl, _, _, rfl, rfl, rfl⟩) (rfl) rfl ?_
 refine V.cond rfl (fun hc0 => ?_) (fun hc0 => ?_)
 ·
  replace hm0 := cond_t hc0 hm0
  refine V.seq ?_
  refine V.region ?_
  refine VO.cons rfl (V1.assign rfl rfl rfl lt0 ?_)
  refine VO.cons rfl (V1.assign rfl rfl rfl lt0 ?_)
  refine VO.nil ?_
  refine V.ret ?_
  obtain rfl := Option.some.inj hm0
  exact ⟨_, [], ⟨_, _, rfl, rfl, _, _, rfl, rfl, rfl⟩, List.nil_sublist _, rfl, rfl⟩
 ·
  replace hm0 := cond_f hc0 hm0
  refine V.skip ?_
  refine V.seq ?_
  replace hm0 := bindO hm0; rcases hm0 with ⟨y2, hh2, hm0⟩
  refine V.region ?_
  refine VO.cons rfl (V1.move rfl rfl rfl lt0 ?_)
  refine VO.cons rfl (V1.move rfl rfl rfl lt0 ?_)
  refine VO.cons rfl (V1.call rfl rfl rfl cok_103 rfl (ok_spec_l15Places hh2) rfl lt0 ?_)
  rintro _ _ ⟨b0, rfl, rfl⟩
  refine VO.weakenK (Keeps.freezeG 0 rn [(21, .vl rn 1 (List.map encInt y2))] ([]) (f := encInt) (l := y2) rfl (fun _ => rfl) ⟨⟨_, rfl, .here⟩, trivial⟩ rfl rfl iNil) ?_
  refine VO.cons rfl (V1.assign rfl rfl rfl lt0 ?_)
  refine VO.nil ?_
  refine V.keep 42 [1, 2, 8] [] (E0 := [(1, .vl ρ1 3 (List.map encSpan spans)), (2, .str word), (8, .vl rn 1 (List.map encInt y2))]) (H0 := []) rfl (⟨_, _, rfl, rfl, _, _, rfl, rfl, _, _, rfl, rfl, rfl⟩) (rfl) rfl ?_
  refine V.seq ?_
  refine V.seq ?_
  refine V.region ?_
  refine VO.cons rfl (V1.assign rfl rfl rfl lt0 ?_)
  refine VO.nil ?_
  replace hm0 := bindO hm0; rcases hm0 with ⟨e0, he1, hm0⟩
  refine V.cutT (D := (Unit) × (Unit)) (fun ⟨_, _⟩ => ⟨42, [], []⟩) (fun ⟨_, _⟩ => (.inl () = e0)) ?_ ?_
  ·
   refine V.block ?_
   refine V.keep 42 [9, 1, 2, 8] [] (E0 := [(9, .int .i64 (0 : Int)), (1, .vl ρ1 3 (List.map encSpan spans)), (2, .str word), (8, .vl rn 1 (List.map encInt y2))]) (H0 := []) rfl (⟨_, _, rfl, rfl, _, _, rfl, rfl, _, _, rfl, rfl, _, _, rfl, rfl, rfl⟩) (rfl) rfl ?_
   refine V.loopE (D := Nat × (Int) × (Unit)) (fun ⟨n0, i, _⟩ => [(9, .int .i64 i)]) (fun ⟨n0, i, _⟩ => []) (fun ⟨n0, i, _⟩ => loopO (M.spec_IsHidden_l0 spans word y2) n0 i = some e0) (fun ⟨n0, _, _⟩ => n0) (rounds, (0 : Int), ()) rfl he1 ?_
   rintro ⟨n0, i, _⟩ hP0
   obtain ⟨m0, y3, rfl, hm1, hl1, hr1⟩ := loop_head hP0
   unfold M.spec_IsHidden_l0 at hm1; dsimp only at hm1
   show V _ _ _ ⟨42, [(9, .int .i64 i), (1, .vl ρ1 3 (List.map encSpan spans)), (2, .str word), (8, .vl rn 1 (List.map encInt y2))], []⟩
   refine V.seq ?_
   refine V.seq ?_
   refine V.region ?_
   refine VO.cons rfl (V1.move rfl rfl rfl lt0 ?_)
   refine VO.cons rfl (V1.move rfl rfl rfl lt0 ?_)
   refine VO.cons rfl (V1.lenMap rfl rfl rfl rfl rfl rfl isl_27 lt0 ?_)
   refine VO.cons rfl (V1.int rfl rfl rfl rfl rfl lt0 ?_)
   refine VO.nil ?_
   refine V.cond rfl (fun hc1 => ?_) (fun hc1 => ?_)
   ·
    replace hm1 := cond_t hc1 hm1
    refine V.skip ?_
    refine V.keep 42 [1, 2, 8, 9] [] (E0 := [(1, .vl ρ1 3 (List.map encSpan spans)), (2, .str word), (8, .vl rn 1 (List.map encInt y2)), (9, .int .i64 i)]) (H0 := []) rfl (⟨_, _, rfl, rfl, _, _, rfl, rfl, _, _, rfl, rfl, _, _, rfl, rfl, rfl⟩) (rfl) rfl ?_
    refine V.seq ?_
    refine V.block ?_
    refine V.seq ?_
    replace hm1 := asrt_some hm1; rcases hm1 with ⟨hh3, hm1⟩
    replace hm1 := asrt_some hm1; rcases hm1 with ⟨hh4, hm1⟩
    replace hm1 := bindO hm1; rcases hm1 with ⟨y4, hh5, hm1⟩
    refine V.regionM 42 12 [⟨[(1, none)], [], none⟩, ⟨[(8, none)], [], none⟩, ⟨[(9, none)], [], none⟩, ⟨[(29, some 1), (30, some 0)], [], none⟩, ⟨[(31, some 0)], [], none⟩, ⟨[(8, none)], [], none⟩, ⟨[(9, none)], [], none⟩, ⟨[(33, some 1), (34, some 0)], [], none⟩, ⟨[(35, some 0)], [], none⟩, ⟨[(2, none)], [], none⟩, ⟨[(37, some 0)], [], none⟩, ⟨[(36, some 2), (38, some 0)], [], none⟩] [(1, none), (2, none), (8, none), (9, none), (28, some 11), (32, some 7), (39, some 0)] (⟨_, rfl, ⟨_, rfl, ⟨_, rfl, ⟨_, rfl, ⟨_, rfl, ⟨_, rfl, ⟨_, rfl, ⟨_, rfl, ⟨_, rfl, ⟨_, rfl, ⟨_, rfl, ⟨_, rfl, ⟨rfl, rfl⟩⟩⟩⟩⟩⟩⟩⟩⟩⟩⟩⟩⟩) mixed_orders rfl (by decide +kernel) (fun hck7 => ?_)
    refine VP.step (p := ?pv123) rfl rfl rfl (⟨_, _, rfl, rfl, rfl⟩) ?hv123 ?rest123 hck7
    case hv123 =>
     intro E1
     refine (V1.move rfl rfl rfl lt0 ?_)
     exact rfl
    refine VP.step (p := ?pv124) rfl rfl rfl (⟨_, _, rfl, rfl, rfl⟩) ?hv124 ?rest124 hck7
    case hv124 =>
     intro E1
     refine (V1.move rfl rfl rfl lt0 ?_)
     exact rfl
    refine VP.step (p := ?pv125) rfl rfl rfl (⟨_, _, rfl, rfl, rfl⟩) ?hv125 ?rest125 hck7
    case hv125 =>
     intro E1
     refine (V1.move rfl rfl rfl lt0 ?_)
     exact rfl
    refine VP.step (p := ?pv126) rfl rfl rfl (⟨_, _, rfl, rfl, _, _, rfl, rfl, rfl⟩) ?hv126 ?rest126 hck7
    case hv126 =>
     intro E1
     refine (V1.indexI rfl rfl esz_27 rfl rfl hh3 lt0 ?_)
     exact rfl
    refine VP.step (p := ?pv127) rfl rfl rfl (⟨_, _, rfl, rfl, rfl⟩) ?hv127 ?rest127 hck7
    case hv127 =>
     intro E1
     refine (V1.loadPin rfl rfl tyk_3 rfl rfl lt0 ?_)
     exact rfl
    refine VP.step (p := ?pv128) rfl rfl rfl (⟨_, _, rfl, rfl, rfl⟩) ?hv128 ?rest128 hck7
    case hv128 =>
     intro E1
     refine (V1.move rfl rfl rfl lt0 ?_)
     exact rfl
    refine VP.step (p := ?pv129) rfl rfl rfl (⟨_, _, rfl, rfl, rfl⟩) ?hv129 ?rest129 hck7
    case hv129 =>
     intro E1
     refine (V1.move rfl rfl rfl lt0 ?_)
     exact rfl
    refine VP.step (p := ?pv130) rfl rfl rfl (⟨_, _, rfl, rfl, _, _, rfl, rfl, rfl⟩) ?hv130 ?rest130 hck7
    case hv130 =>
     intro E1
     refine (V1.indexI rfl rfl esz_27 rfl rfl hh4 lt0 ?_)
     exact rfl
    refine VP.step (p := ?pv131) rfl rfl rfl (⟨_, _, rfl, rfl, rfl⟩) ?hv131 ?rest131 hck7
    case hv131 =>
     intro E1
     refine (V1.loadPin rfl rfl tyk_3 rfl rfl lt0 ?_)
     exact rfl
    refine VP.step (p := ?pv132) rfl rfl rfl (⟨_, _, rfl, rfl, rfl⟩) ?hv132 ?rest132 hck7
    case hv132 =>
     intro E1
     refine (V1.move rfl rfl rfl lt0 ?_)
     exact rfl
    refine VP.step (p := ?pv133) rfl rfl rfl (⟨_, _, rfl, rfl, rfl⟩) ?hv133 ?rest133 hck7
    case hv133 =>
     intro E1
     refine (V1.lenStr rfl rfl rfl rfl rfl rfl istr_9 lt0 ?_)
     exact rfl
    refine VP.step (p := ?pv134) rfl rfl rfl (⟨_, _, rfl, rfl, _, _, rfl, rfl, rfl⟩) ?hv134 ?rest134 hck7
    case hv134 =>
     intro E1
     refine (V1.int rfl rfl rfl rfl rfl lt0 ?_)
     exact rfl
    refine VP.fin rfl (⟨_, _, rfl, rfl, _, _, rfl, rfl, _, _, rfl, rfl, _, _, rfl, rfl, _, _, rfl, rfl, _, _, rfl, rfl, _, _, rfl, rfl, rfl⟩) ?_
    refine VO.cons rfl (V1.call rfl rfl rfl cok_104 rfl (ok_spec_l15Touched hh5) rfl lt0 ?_)
    rintro _ _ ⟨rfl, rfl⟩
    refine VO.cons rfl (V1.not rfl rfl rfl lt0 ?_)
    refine VO.nil ?_
    refine V.keep 42 [1, 2, 8, 9, 41] [] (E0 := [(1, .vl ρ1 3 (List.map encSpan spans)), (2, .str word), (8, .vl rn 1 (List.map encInt y2)), (9, .int .i64 i), (41, .bool (!y4))]) (H0 := []) rfl (⟨_, _, rfl, rfl, _, _, rfl, rfl, _, _, rfl, rfl, _, _, rfl, rfl, _, _, rfl, rfl, rfl⟩) (rfl) rfl ?_
    refine V.cond rfl (fun hc2 => ?_) (fun hc2 => ?_)
    ·
     replace hm1 := cond_t hc2 hm1
     refine V.seq ?_
     refine V.region ?_
     refine VO.cons rfl (V1.assign rfl rfl rfl lt0 ?_)
     refine VO.cons rfl (V1.assign rfl rfl rfl lt0 ?_)
     refine VO.nil ?_
     refine V.ret ?_
     obtain rfl := hr1 _ (Option.some.inj hm1).symm
     change some _ = some _ at hm0
     obtain rfl := Option.some.inj hm0
     exact ⟨_, [], ⟨_, _, rfl, rfl, _, _, rfl, rfl, rfl⟩, List.nil_sublist _, rfl, rfl⟩
    ·
     replace hm1 := cond_f hc2 hm1
     refine V.skip ?_
     refine V.region ?_
     refine VO.cons rfl (V1.move rfl rfl rfl lt0 ?_)
     refine VO.cons rfl (V1.int rfl rfl rfl rfl rfl lt0 ?_)
     refine VO.cons rfl (V1.assign rfl rfl rfl lt0 ?_)
     refine VO.nil ?_
     exact ⟨(m0, (IntKind.i64.wrap (i + (1 : Int))), ()), hl1 _ (Option.some.inj hm1).symm, Nat.lt_succ_self _, Keeps.mk (ks := []) rfl ⟨rfl, rfl, rfl, rfl, trivial⟩ (rfl) rfl⟩
   ·
    replace hm1 := cond_f hc1 hm1
    refine V.exit ?_
    obtain rfl := hr1 _ (Option.some.inj hm1).symm
    exact ⟨((), ()), rfl, Keeps.mk (ks := []) rfl trivial (rfl) rfl⟩
  ·
   rintro ⟨_, _⟩ rfl
   try dsimp only at hm0
   refine V.seq ?_
   refine V.region ?_
   refine VO.cons rfl (V1.assign rfl rfl rfl lt0 ?_)
   refine VO.cons rfl (V1.assign rfl rfl rfl lt0 ?_)
   refine VO.nil ?_
   refine V.ret ?_
   obtain rfl := Option.some.inj hm0
   exact ⟨_, [], ⟨_, _, rfl, rfl, _, _, rfl, rfl, rfl⟩, List.nil_sublist _, rfl, rfl⟩

theorem ok_spec_DrawPlacesOfWord {ρ0 rn : Nat} {code : List Int} {r : List UInt8 × List UInt8} (h : M.spec_DrawPlacesOfWord code = some r) : Does Tryd.prog 43 [.vl ρ0 1 (List.map encU8 code)] [] rn (fun x H => x = .tup [.str r.1, .str r.2] ∧ H = []) := by
 have hm0 := h; clear h; unfold M.spec_DrawPlacesOfWord at hm0
 try dsimp only at hm0
 refine Does.intro (N := 12) Tryd.func43 rfl rfl rfl rfl ?_
 intro w0 S0 L0
 refine V.seq ?_
 refine V.region ?_
 refine VO.cons rfl (V1.assign rfl rfl rfl lt0 ?_)
 refine VO.cons rfl (V1.assign rfl rfl rfl lt0 ?_)
 refine VO.nil ?_
 refine V.seq ?_
 refine V.region ?_
 refine VO.cons rfl (V1.move rfl rfl rfl lt0 ?_)
 refine VO.cons rfl (V1.build rfl rfl zk_77 pl_77 rfl rfl lt0 ?_)
 refine VO.cons rfl (V1.boxN (n := 3) rfl rfl rfl rfl rfl lt0 ?_)
 intro b0
 refine VO.cons rfl (V1.assign rfl rfl rfl lt0 ?_)
 refine VO.nil ?_
 refine V.keep 12 [4] [0] (E0 := [(4, .ref b0 3 0 0)]) (H0 := [(b0, ⟨3, [.agg [.vl ρ0 1 (List.map encU8 code), .int .i64 (0 : Int), .int .u64 (0 : Int)]]⟩)]) rfl (⟨_, _, rfl, rfl, rfl⟩) (⟨_, _, rfl, rfl, rfl⟩) rfl ?_
 refine V.seq ?_
 replace hm0 := bindO hm0; rcases hm0 with ⟨y0, hh0, hm0⟩
 replace hm0 := bindO hm0; rcases hm0 with ⟨y1, hh1, hm0⟩
 refine V.region ?_
 refine VO.cons rfl (V1.move rfl rfl rfl lt0 ?_)
 refine VO.cons rfl (V1.callM 0 (rn + ρ0 + 1) [] [.ref b0 3 0 0] (p := (b0, ⟨3, [.agg [.vl ρ0 1 (List.map encU8 code), .int .i64 (0 : Int), .int .u64 (0 : Int)]]⟩)) rfl rfl rfl cok_90 rfl rfl ⟨_, _, rfl, .same _, rfl⟩ bwNil (ok_spec_l1Cur_text hh0) rfl (.inl rfl) lt0 ?_)
 rintro _ _ ⟨rfl, rfl⟩
 refine VO.cons rfl (V1.move rfl rfl rfl lt0 ?_)
 refine VO.cons rfl (V1.callM 0 (rn + ρ0 + 1) [] [.ref b0 3 0 0] (p := (b0, ⟨3, [encCur ρ0 y0.2]⟩)) rfl rfl rfl cok_92 rfl rfl ⟨_, _, rfl, .same _, rfl⟩ bwNil (ok_spec_l1Cur_wordOf hh1) rfl (.inl rfl) lt0 ?_)
 rintro _ _ ⟨rfl, rfl⟩
 refine VO.cons rfl (V1.assign rfl rfl rfl lt0 ?_)
 refine VO.cons rfl (V1.assign rfl rfl rfl lt0 ?_)
 refine VO.nil ?_
 refine V.ret ?_
 obtain rfl := Option.some.inj hm0
 exact ⟨_, [], ⟨_, _, rfl, rfl, _, _, rfl, rfl, rfl⟩, List.nil_sublist _, rfl, rfl⟩

theorem ok_impl_PlacesOfWord {rn : Nat} {text : List UInt8} {word : List UInt8} {r : List Int × Bool} (h : M.impl_PlacesOfWord text word = some r) : Does Tryd.prog 44 [.str text, .str word] [] rn (fun x H => ∃ (ob0_ : Option Nat), (ob0_ = none → r.1 = []) ∧ x = .tup [optS 1 ob0_ (List.length r.1), .bool r.2] ∧ H = optH 1 ob0_ (List.map encInt r.1)) := by
 have hm0 := h; clear h; unfold M.impl_PlacesOfWord at hm0
 try dsimp only at hm0
 refine Does.intro (N := 17) Tryd.func44 rfl rfl rfl rfl ?_
 intro w0 S0 L0
 refine V.seq ?_
 refine V.region ?_
 refine VO.cons rfl (V1.assign rfl rfl rfl lt0 ?_)
 refine VO.cons rfl (V1.assign rfl rfl rfl lt0 ?_)
 refine VO.nil ?_
 refine V.seq ?_
 refine V.seq ?_
 replace hm0 := bindO hm0; rcases hm0 with ⟨y0, hh0, hm0⟩
 replace hm0 := bindO hm0; rcases hm0 with ⟨y1, hh1, hm0⟩
 refine V.region ?_
 refine VO.cons rfl (V1.move rfl rfl rfl lt0 ?_)
 refine VO.cons rfl (V1.call rfl rfl rfl cok_48 rfl (ok_impl_IsText hh0) rfl lt0 ?_)
 rintro _ _ ⟨rfl, rfl⟩
 refine VO.cons rfl (V1.not rfl rfl rfl lt0 ?_)
 refine VO.cons rfl (V1.move rfl rfl rfl lt0 ?_)
 apply VO.or (n := 3) rfl rfl rfl rfl rfl rfl lt0 (.none rfl)
 ·
  intro hg0
  refine VO.step (.some rfl rfl rfl) (V1.move rfl rfl rfl lt0 ?_)
  refine VO.step (.some rfl rfl rfl) (V1.call rfl rfl rfl cok_94 rfl (ok_impl_isWord (cond_f hg0 hh1)) rfl lt0 ?_)
  rintro _ _ ⟨rfl, rfl⟩
  refine VO.step (.some rfl rfl rfl) (V1.not rfl rfl rfl lt0 ?_)
  exact VO.nil ⟨rfl, rfl, rfl, rfl, .inr ⟨rfl, .inr ⟨rfl, .inr ⟨rfl, .inr ⟨rfl, .inl rfl⟩⟩⟩⟩⟩
 refine VO.nil ?_
 refine V.keep 17 [0, 1, 13] [] (E0 := [(0, .str text), (1, .str word), (13, .bool ((!y0) || (!y1)))]) (H0 := []) rfl (⟨_, _, rfl, rfl, _, _, rfl, rfl, _, _, rfl, rfl, rfl⟩) (rfl) rfl ?_
 refine V.cond rfl (fun hc0 => ?_) (fun hc0 => ?_)
 ·
  replace hm0 := cond_t hc0 hm0
  refine V.seq ?_
  refine V.region ?_
  refine VO.cons rfl (V1.assign rfl rfl rfl lt0 ?_)
  refine VO.cons rfl (V1.assign rfl rfl rfl lt0 ?_)
  refine VO.nil ?_
  refine V.keep 17 [4, 5] [] (E0 := [(4, .nils), (5, .bool false)]) (H0 := []) rfl (⟨_, _, rfl, rfl, _, _, rfl, rfl, rfl⟩) (rfl) rfl ?_
  refine V.ret ?_
  obtain rfl := Option.some.inj hm0
  exact ⟨_, _, ⟨_, _, rfl, rfl, _, _, rfl, rfl, rfl⟩, List.Sublist.refl _, none, (fun _ => rfl), rfl, rfl⟩
 ·
  replace hm0 := cond_f hc0 hm0
  refine V.skip ?_
  refine V.seq ?_
  replace hm0 := bindO hm0; rcases hm0 with ⟨y2, hh2, hm0⟩
  refine V.region ?_
  refine VO.cons rfl (V1.move rfl rfl rfl lt0 ?_)
  refine VO.cons rfl (V1.move rfl rfl rfl lt0 ?_)
  refine VO.cons rfl (V1.permK (V1.call rfl rfl rfl cok_97 rfl (ok_impl_placesOf hh2) rfl lt0 ?_))
  rintro _ _ ⟨ob0, hob0, rfl, rfl⟩
  refine ⟨_, ?_, Keeps.optBack (n := 1) (ob := ob0) (xs := List.map encInt y2) (H1 := []) (H2 := []) rfl⟩
  refine VO.cons rfl (V1.assign rfl rfl rfl lt0 ?_)
  refine VO.cons rfl (V1.assign rfl rfl rfl lt0 ?_)
  refine VO.nil ?_
  rcases ob0 with _ | ob0
  ·
   refine V.keep 17 [4, 5] [] (E0 := [(4, .nils), (5, .bool true)]) (H0 := []) rfl (⟨_, _, rfl, rfl, _, _, rfl, rfl, rfl⟩) (rfl) rfl ?_
   refine V.ret ?_
   obtain rfl := Option.some.inj hm0
   exact ⟨_, _, ⟨_, _, rfl, rfl, _, _, rfl, rfl, rfl⟩, List.Sublist.refl _, none, (fun _ => (hob0 rfl)), rfl, rfl⟩
  ·
   refine V.keep 17 [4, 5] [0] (E0 := [(4, .sref ob0 1 0 (List.length y2)), (5, .bool true)]) (H0 := [(ob0, ⟨1, List.map encInt y2⟩)]) rfl (⟨_, _, rfl, rfl, _, _, rfl, rfl, rfl⟩) (⟨_, _, rfl, rfl, rfl⟩) rfl ?_
   refine V.ret ?_
   obtain rfl := Option.some.inj hm0
   exact ⟨_, _, ⟨_, _, rfl, rfl, _, _, rfl, rfl, rfl⟩, List.Sublist.refl _, some ob0, (fun e => by cases e), rfl, rfl⟩

theorem ok_spec_PlacesOfWord {rn : Nat} {text : List UInt8} {word : List UInt8} {r : List Int × Bool} (h : M.spec_PlacesOfWord text word = some r) : Does Tryd.prog 45 [.str text, .str word] [] rn (fun x H => ∃ (ob0_ : Nat), x = .tup [PV.sref ob0_ 1 0 (List.length r.1), .bool r.2] ∧ H = [(ob0_, ⟨1, List.map encInt r.1⟩)]) := by
 have hm0 := h; clear h; unfold M.spec_PlacesOfWord at hm0
 try dsimp only at hm0
 refine Does.intro (N := 18) Tryd.func45 rfl rfl rfl rfl ?_
 intro w0 S0 L0
 refine V.seq ?_
 refine V.region ?_
 refine VO.cons rfl (V1.assign rfl rfl rfl lt0 ?_)
 refine VO.cons rfl (V1.assign rfl rfl rfl lt0 ?_)
 refine VO.nil ?_
 refine V.seq ?_
 refine V.seq ?_
 replace hm0 := bindO hm0; rcases hm0 with ⟨y0, hh0, hm0⟩
 replace hm0 := bindO hm0; rcases hm0 with ⟨y1, hh1, hm0⟩
 refine V.region ?_
 refine VO.cons rfl (V1.move rfl rfl rfl lt0 ?_)
 refine VO.cons rfl (V1.call rfl rfl rfl cok_109 rfl (ok_spec_l15Text hh0) rfl lt0 ?_)
 rintro _ _ ⟨rfl, rfl⟩
 refine VO.cons rfl (V1.not rfl rfl rfl lt0 ?_)
 refine VO.cons rfl (V1.move rfl rfl rfl lt0 ?_)
 apply VO.or (n := 3) rfl rfl rfl rfl rfl rfl lt0 (.none rfl)
 ·
  intro hg0
  refine VO.step (.some rfl rfl rfl) (V1.move rfl rfl rfl lt0 ?_)
  refine VO.step (.some rfl rfl rfl) (V1.call rfl rfl rfl cok_102 rfl (ok_spec_l2Word (cond_f hg0 hh1)) rfl lt0 ?_)
  rintro _ _ ⟨rfl, rfl⟩
  refine VO.step (.some rfl rfl rfl) (V1.not rfl rfl rfl lt0 ?_)
  exact VO.nil ⟨rfl, rfl, rfl, rfl, .inr ⟨rfl, .inr ⟨rfl, .inr ⟨rfl, .inr ⟨rfl, .inl rfl⟩⟩⟩⟩⟩
 refine VO.nil ?_
 refine V.keep 18 [0, 1, 13] [] (E0 := [(0, .str text), (1, .str word), (13, .bool ((!y0) || (!y1)))]) (H0 := []) rfl (⟨_, _, rfl, rfl, _, _, rfl, rfl, _, _, rfl, rfl, rfl⟩) (rfl) rfl ?_
 refine V.cond rfl (fun hc0 => ?_) (fun hc0 => ?_)
 ·
  replace hm0 := cond_t hc0 hm0
  refine V.seq ?_
  refine V.region ?_
  refine VO.cons rfl (V1.buildSliceT (f := encInt) ([] : List Int) rfl rfl esz_27 zk_3 rfl rfl rfl rfl rfl rfl rfl lt0 ?_)
  intro b0
  refine VO.cons rfl (V1.assign rfl rfl rfl lt0 ?_)
  refine VO.cons rfl (V1.assign rfl rfl rfl lt0 ?_)
  refine VO.nil ?_
  refine V.keep 18 [4, 5] [0] (E0 := [(4, .sref b0 1 0 (List.length ([] : List Int))), (5, .bool false)]) (H0 := [(b0, ⟨1, List.map encInt ([] : List Int)⟩)]) rfl (⟨_, _, rfl, rfl, _, _, rfl, rfl, rfl⟩) (⟨_, _, rfl, rfl, rfl⟩) rfl ?_
  refine V.ret ?_
  obtain rfl := Option.some.inj hm0
  exact ⟨_, _, ⟨_, _, rfl, rfl, _, _, rfl, rfl, rfl⟩, List.Sublist.refl _, b0, rfl, rfl⟩
 ·
  replace hm0 := cond_f hc0 hm0
  refine V.skip ?_
  refine V.seq ?_
  replace hm0 := bindO hm0; rcases hm0 with ⟨y2, hh2, hm0⟩
  refine V.region ?_
  refine VO.cons rfl (V1.move rfl rfl rfl lt0 ?_)
  refine VO.cons rfl (V1.move rfl rfl rfl lt0 ?_)
  refine VO.cons rfl (V1.call rfl rfl rfl cok_103 rfl (ok_spec_l15Places hh2) rfl lt0 ?_)
  rintro _ _ ⟨b1, rfl, rfl⟩
  refine VO.cons rfl (V1.assign rfl rfl rfl lt0 ?_)
  refine VO.cons rfl (V1.assign rfl rfl rfl lt0 ?_)
  refine VO.nil ?_
  refine V.keep 18 [4, 5] [0] (E0 := [(4, .sref b1 1 0 (List.length y2)), (5, .bool true)]) (H0 := [(b1, ⟨1, List.map encInt y2⟩)]) rfl (⟨_, _, rfl, rfl, _, _, rfl, rfl, rfl⟩) (⟨_, _, rfl, rfl, rfl⟩) rfl ?_
  refine V.ret ?_
  obtain rfl := Option.some.inj hm0
  exact ⟨_, _, ⟨_, _, rfl, rfl, _, _, rfl, rfl, rfl⟩, List.Sublist.refl _, b1, rfl, rfl⟩

theorem ok_laws_vInts {ρ0 ρ1 rn : Nat} {a : List Int} {b_ : List Int} {r : Bool} (h : M.laws_vInts a b_ = some r) : Does Tryd.prog 46 [.vl ρ0 1 (List.map encInt a), .vl ρ1 1 (List.map encInt b_)] [] rn (fun x H => x = .bool r ∧ H = []) := by
 have hm0 := h; clear h; unfold M.laws_vInts at hm0
 try dsimp only at hm0
 refine Does.intro (N := 26) Tryd.func46 rfl rfl rfl rfl ?_
 intro w0 S0 L0
 refine V.seq ?_
 refine V.region ?_
 refine VO.cons rfl (V1.assign rfl rfl rfl lt0 ?_)
 refine VO.nil ?_
 refine V.seq ?_
 refine V.seq ?_
 refine V.region ?_
 refine VO.cons rfl (V1.move rfl rfl rfl lt0 ?_)
 refine VO.cons rfl (V1.lenMap rfl rfl rfl rfl rfl rfl isl_27 lt0 ?_)
 refine VO.cons rfl (V1.move rfl rfl rfl lt0 ?_)
 refine VO.cons rfl (V1.lenMap rfl rfl rfl rfl rfl rfl isl_27 lt0 ?_)
 refine VO.cons rfl (V1.int rfl rfl rfl rfl rfl lt0 ?_)
 refine VO.nil ?_
 refine V.keep 26 [0, 1, 10] [] (E0 := [(0, .vl ρ0 1 (List.map encInt a)), (1, .vl ρ1 1 (List.map encInt b_)), (10, .bool ((a.length : Int) != (b_.length : Int)))]) (H0 := []) rfl (⟨_, _, rfl, rfl, _, _, rfl, rfl, _, _, rfl, rfl, rfl⟩) (rfl) rfl ?_
 refine V.cond rfl (fun hc0 => ?_) (fun hc0 => ?_)
 ·
  replace hm0 := cond_t hc0 hm0
  refine V.seq ?_
  refine V.region ?_
  refine VO.cons rfl (V1.assign rfl rfl rfl lt0 ?_)
  refine VO.nil ?_
  refine V.ret ?_
  obtain rfl := Option.some.inj hm0
  exact ⟨_, [], ⟨_, _, rfl, rfl, rfl⟩, List.nil_sublist _, rfl, rfl⟩
 ·
  replace hm0 := cond_f hc0 hm0
  refine V.skip ?_
  refine V.seq ?_
  refine V.seq ?_
  refine V.region ?_
  refine VO.cons rfl (V1.assign rfl rfl rfl lt0 ?_)
  refine VO.nil ?_
  replace hm0 := bindO hm0; rcases hm0 with ⟨e0, he1, hm0⟩
  refine V.cutT (D := (Unit) × (Unit)) (fun ⟨_, _⟩ => ⟨26, [], []⟩) (fun ⟨_, _⟩ => (.inl () = e0)) ?_ ?_
  ·
   refine V.block ?_
   refine V.keep 26 [5, 0, 1] [] (E0 := [(5, .int .i64 (0 : Int)), (0, .vl ρ0 1 (List.map encInt a)), (1, .vl ρ1 1 (List.map encInt b_))]) (H0 := []) rfl (⟨_, _, rfl, rfl, _, _, rfl, rfl, _, _, rfl, rfl, rfl⟩) (rfl) rfl ?_
   refine V.loopE (D := Nat × (Int) × (Unit)) (fun ⟨n0, i, _⟩ => [(5, .int .i64 i)]) (fun ⟨n0, i, _⟩ => []) (fun ⟨n0, i, _⟩ => loopO (M.laws_vInts_l0 a b_) n0 i = some e0) (fun ⟨n0, _, _⟩ => n0) (rounds, (0 : Int), ()) rfl he1 ?_
   rintro ⟨n0, i, _⟩ hP0
   obtain ⟨m0, y0, rfl, hm1, hl1, hr1⟩ := loop_head hP0
   unfold M.laws_vInts_l0 at hm1; dsimp only at hm1
   show V _ _ _ ⟨26, [(5, .int .i64 i), (0, .vl ρ0 1 (List.map encInt a)), (1, .vl ρ1 1 (List.map encInt b_))], []⟩
   refine V.seq ?_
   refine V.seq ?_
   refine V.region ?_
   refine VO.cons rfl (V1.move rfl rfl rfl lt0 ?_)
   refine VO.cons rfl (V1.move rfl rfl rfl lt0 ?_)
   refine VO.cons rfl (V1.lenMap rfl rfl rfl rfl rfl rfl isl_27 lt0 ?_)
   refine VO.cons rfl (V1.int rfl rfl rfl rfl rfl lt0 ?_)
   refine VO.nil ?_
   refine V.cond rfl (fun hc1 => ?_) (fun hc1 => ?_)
   ·
    replace hm1 := cond_t hc1 hm1
    refine V.skip ?_
    refine V.keep 26 [0, 1, 5] [] (E0 := [(0, .vl ρ0 1 (List.map encInt a)), (1, .vl ρ1 1 (List.map encInt b_)), (5, .int .i64 i)]) (H0 := []) rfl (⟨_, _, rfl, rfl, _, _, rfl, rfl, _, _, rfl, rfl, rfl⟩) (rfl) rfl ?_
    refine V.seq ?_
    refine V.block ?_
    refine V.seq ?_
    replace hm1 := asrt_some hm1; rcases hm1 with ⟨hh0, hm1⟩
    replace hm1 := asrt_some hm1; rcases hm1 with ⟨hh1, hm1⟩
    refine V.regionM 26 8 [⟨[(0, none)], [], none⟩, ⟨[(5, none)], [], none⟩, ⟨[(17, some 1), (18, some 0)], [], none⟩, ⟨[(19, some 0)], [], none⟩, ⟨[(1, none)], [], none⟩, ⟨[(5, none)], [], none⟩, ⟨[(21, some 1), (22, some 0)], [], none⟩, ⟨[(23, some 0)], [], none⟩] [(0, none), (1, none), (5, none), (20, some 4), (24, some 0)] (⟨_, rfl, ⟨_, rfl, ⟨_, rfl, ⟨_, rfl, ⟨_, rfl, ⟨_, rfl, ⟨_, rfl, ⟨_, rfl, ⟨rfl, rfl⟩⟩⟩⟩⟩⟩⟩⟩⟩) mixed_orders rfl (by decide +kernel) (fun hck6 => ?_)
    refine VP.step (p := ?pv65) rfl rfl rfl (⟨_, _, rfl, rfl, rfl⟩) ?hv65 ?rest65 hck6
    case hv65 =>
     intro E1
     refine (V1.move rfl rfl rfl lt0 ?_)
     exact rfl
    refine VP.step (p := ?pv66) rfl rfl rfl (⟨_, _, rfl, rfl, rfl⟩) ?hv66 ?rest66 hck6
    case hv66 =>
     intro E1
     refine (V1.move rfl rfl rfl lt0 ?_)
     exact rfl
    refine VP.step (p := ?pv67) rfl rfl rfl (⟨_, _, rfl, rfl, _, _, rfl, rfl, rfl⟩) ?hv67 ?rest67 hck6
    case hv67 =>
     intro E1
     refine (V1.indexI rfl rfl esz_27 rfl rfl hh0 lt0 ?_)
     exact rfl
    refine VP.step (p := ?pv68) rfl rfl rfl (⟨_, _, rfl, rfl, rfl⟩) ?hv68 ?rest68 hck6
    case hv68 =>
     intro E1
     refine (V1.loadPin rfl rfl tyk_3 rfl rfl lt0 ?_)
     exact rfl
    refine VP.step (p := ?pv69) rfl rfl rfl (⟨_, _, rfl, rfl, rfl⟩) ?hv69 ?rest69 hck6
    case hv69 =>
     intro E1
     refine (V1.move rfl rfl rfl lt0 ?_)
     exact rfl
    refine VP.step (p := ?pv70) rfl rfl rfl (⟨_, _, rfl, rfl, rfl⟩) ?hv70 ?rest70 hck6
    case hv70 =>
     intro E1
     refine (V1.move rfl rfl rfl lt0 ?_)
     exact rfl
    refine VP.step (p := ?pv71) rfl rfl rfl (⟨_, _, rfl, rfl, _, _, rfl, rfl, rfl⟩) ?hv71 ?rest71 hck6
    case hv71 =>
     intro E1
     refine (V1.indexI rfl rfl esz_27 rfl rfl hh1 lt0 ?_)
     exact rfl
    refine VP.step (p := ?pv72) rfl rfl rfl (⟨_, _, rfl, rfl, rfl⟩) ?hv72 ?rest72 hck6
    case hv72 =>
     intro E1
     refine (V1.loadPin rfl rfl tyk_3 rfl rfl lt0 ?_)
     exact rfl
    refine VP.fin rfl (⟨_, _, rfl, rfl, _, _, rfl, rfl, _, _, rfl, rfl, _, _, rfl, rfl, _, _, rfl, rfl, rfl⟩) ?_
    refine VO.cons rfl (V1.int rfl rfl rfl rfl rfl lt0 ?_)
    refine VO.nil ?_
    refine V.cond rfl (fun hc2 => ?_) (fun hc2 => ?_)
    ·
     replace hm1 := cond_t hc2 hm1
     refine V.seq ?_
     refine V.region ?_
     refine VO.cons rfl (V1.assign rfl rfl rfl lt0 ?_)
     refine VO.nil ?_
     refine V.ret ?_
     obtain rfl := hr1 _ (Option.some.inj hm1).symm
     change some _ = some _ at hm0
     obtain rfl := Option.some.inj hm0
     exact ⟨_, [], ⟨_, _, rfl, rfl, rfl⟩, List.nil_sublist _, rfl, rfl⟩
    ·
     replace hm1 := cond_f hc2 hm1
     refine V.skip ?_
     refine V.region ?_
     refine VO.cons rfl (V1.move rfl rfl rfl lt0 ?_)
     refine VO.cons rfl (V1.int rfl rfl rfl rfl rfl lt0 ?_)
     refine VO.cons rfl (V1.assign rfl rfl rfl lt0 ?_)
     refine VO.nil ?_
     exact ⟨(m0, (IntKind.i64.wrap (i + (1 : Int))), ()), hl1 _ (Option.some.inj hm1).symm, Nat.lt_succ_self _, Keeps.mk (ks := []) rfl ⟨rfl, rfl, rfl, trivial⟩ (rfl) rfl⟩
   ·
    replace hm1 := cond_f hc1 hm1
    refine V.exit ?_
    obtain rfl := hr1 _ (Option.some.inj hm1).symm
    exact ⟨((), ()), rfl, Keeps.mk (ks := []) rfl trivial (rfl) rfl⟩
  ·
   rintro ⟨_, _⟩ rfl
   try dsimp only at hm0
   refine V.seq ?_
   refine V.region ?_
   refine VO.cons rfl (V1.assign rfl rfl rfl lt0 ?_)
   refine VO.nil ?_
   refine V.ret ?_
   obtain rfl := Option.some.inj hm0
   exact ⟨_, [], ⟨_, _, rfl, rfl, rfl⟩, List.nil_sublist _, rfl, rfl⟩

theorem ok_spec_DrawIsText {ρ0 rn : Nat} {code : List Int} {r : List UInt8} (h : M.spec_DrawIsText code = some r) : Does Tryd.prog 47 [.vl ρ0 1 (List.map encU8 code)] [] rn (fun x H => x = .str r ∧ H = []) := by
 have hm0 := h; clear h; unfold M.spec_DrawIsText at hm0
 try dsimp only at hm0
 refine Does.intro (N := 9) Tryd.func47 rfl rfl rfl rfl ?_
 intro w0 S0 L0
 refine V.seq ?_
 refine V.region ?_
 refine VO.cons rfl (V1.assign rfl rfl rfl lt0 ?_)
 refine VO.nil ?_
 refine V.seq ?_
 refine V.region ?_
 refine VO.cons rfl (V1.move rfl rfl rfl lt0 ?_)
 refine VO.cons rfl (V1.build rfl rfl zk_77 pl_77 rfl rfl lt0 ?_)
 refine VO.cons rfl (V1.boxN (n := 3) rfl rfl rfl rfl rfl lt0 ?_)
 intro b0
 refine VO.cons rfl (V1.assign rfl rfl rfl lt0 ?_)
 refine VO.nil ?_
 refine V.keep 9 [3] [0] (E0 := [(3, .ref b0 3 0 0)]) (H0 := [(b0, ⟨3, [.agg [.vl ρ0 1 (List.map encU8 code), .int .i64 (0 : Int), .int .u64 (0 : Int)]]⟩)]) rfl (⟨_, _, rfl, rfl, rfl⟩) (⟨_, _, rfl, rfl, rfl⟩) rfl ?_
 refine V.seq ?_
 replace hm0 := bindO hm0; rcases hm0 with ⟨y0, hh0, hm0⟩
 refine V.region ?_
 refine VO.cons rfl (V1.move rfl rfl rfl lt0 ?_)
 refine VO.cons rfl (V1.callM 0 (rn + ρ0 + 1) [] [.ref b0 3 0 0] (p := (b0, ⟨3, [.agg [.vl ρ0 1 (List.map encU8 code), .int .i64 (0 : Int), .int .u64 (0 : Int)]]⟩)) rfl rfl rfl cok_90 rfl rfl ⟨_, _, rfl, .same _, rfl⟩ bwNil (ok_spec_l1Cur_text hh0) rfl (.inl rfl) lt0 ?_)
 rintro _ _ ⟨rfl, rfl⟩
 refine VO.cons rfl (V1.assign rfl rfl rfl lt0 ?_)
 refine VO.nil ?_
 refine V.ret ?_
 obtain rfl := Option.some.inj hm0
 exact ⟨_, [], ⟨_, _, rfl, rfl, rfl⟩, List.nil_sublist _, rfl, rfl⟩

theorem ok_spec_IsText {rn : Nat} {text : List UInt8} {r : Bool} (h : M.spec_IsText text = some r) : Does Tryd.prog 49 [.str text] [] rn (fun x H => x = .bool r ∧ H = []) := by
 have hm0 := h; clear h; unfold M.spec_IsText at hm0
 try dsimp only at hm0
 refine Does.intro (N := 5) Tryd.func49 rfl rfl rfl rfl ?_
 intro w0 S0 L0
 refine V.seq ?_
 refine V.region ?_
 refine VO.cons rfl (V1.assign rfl rfl rfl lt0 ?_)
 refine VO.nil ?_
 refine V.seq ?_
 replace hm0 := bindO hm0; rcases hm0 with ⟨y0, hh0, hm0⟩
 refine V.region ?_
 refine VO.cons rfl (V1.move rfl rfl rfl lt0 ?_)
 refine VO.cons rfl (V1.call rfl rfl rfl cok_109 rfl (ok_spec_l15Text hh0) rfl lt0 ?_)
 rintro _ _ ⟨rfl, rfl⟩
 refine VO.cons rfl (V1.assign rfl rfl rfl lt0 ?_)
 refine VO.nil ?_
 refine V.ret ?_
 obtain rfl := Option.some.inj hm0
 exact ⟨_, [], ⟨_, _, rfl, rfl, rfl⟩, List.nil_sublist _, rfl, rfl⟩

theorem ok_laws_FnHiddenWords {ρ0 rn : Nat} {code : List Int} {r : Bool} (h : M.laws_FnHiddenWords code = some r) : Does Tryd.prog 5 [.vl ρ0 1 (List.map encU8 code)] [] rn (fun x H => x = .bool r ∧ H = []) := by
 have hm0 := h; clear h; unfold M.laws_FnHiddenWords at hm0
 try dsimp only at hm0
 refine Does.intro (N := 206) Tryd.func5 rfl rfl rfl rfl ?_
 intro w0 S0 L0
 refine V.seq ?_
 refine V.region ?_
 refine VO.cons rfl (V1.assign rfl rfl rfl lt0 ?_)
 refine VO.nil ?_
 refine V.seq ?_
 refine V.seq ?_
 replace hm0 := bindO hm0; rcases hm0 with ⟨y0, hh0, hm0⟩
 refine V.region ?_
 refine VO.cons rfl (V1.move rfl rfl rfl lt0 ?_)
 refine VO.cons rfl (V1.call rfl rfl rfl cok_35 rfl (ok_laws_vBig hh0) rfl lt0 ?_)
 rintro _ _ ⟨rfl, rfl⟩
 refine VO.nil ?_
 refine V.cond rfl (fun hc0 => ?_) (fun hc0 => ?_)
 ·
  replace hm0 := cond_t hc0 hm0
  refine V.seq ?_
  refine V.region ?_
  refine VO.cons rfl (V1.assign rfl rfl rfl lt0 ?_)
  refine VO.nil ?_
  refine V.ret ?_
  obtain rfl := Option.some.inj hm0
  exact ⟨_, [], ⟨_, _, rfl, rfl, rfl⟩, List.nil_sublist _, rfl, rfl⟩
 ·
  replace hm0 := cond_f hc0 hm0
  refine V.skip ?_
  refine V.seq ?_
  replace hm0 := bindO hm0; rcases hm0 with ⟨y1, hh1, hm0⟩
  refine V.region ?_
  refine VO.cons rfl (V1.move rfl rfl rfl lt0 ?_)
  refine VO.cons rfl (V1.call rfl rfl rfl cok_36 rfl (ok_spec_DrawHideWord hh1) rfl lt0 ?_)
  rintro _ _ ⟨b0, rfl, rfl⟩
  refine VO.cons rfl (V1.move rfl rfl rfl lt0 ?_)
  refine VO.cons rfl (V1.extract rfl rfl rfl rfl lt0 ?_)
  refine VO.cons rfl (V1.extract rfl rfl rfl rfl lt0 ?_)
  refine VO.weakenK (Keeps.freezeG 0 rn [(39, .vl rn 3 (List.map encSpan y1.2.1))] ([]) (f := encSpan) (l := y1.2.1) rfl (fun _ => rfl) ⟨⟨_, rfl, .here⟩, trivial⟩ rfl rfl iNil) ?_
  refine VO.cons rfl (V1.extract rfl rfl rfl rfl lt0 ?_)
  refine VO.cons rfl (V1.extract rfl rfl rfl rfl lt0 ?_)
  refine VO.cons rfl (V1.assign rfl rfl rfl lt0 ?_)
  refine VO.cons rfl (V1.assign rfl rfl rfl lt0 ?_)
  refine VO.cons rfl (V1.assign rfl rfl rfl lt0 ?_)
  refine VO.cons rfl (V1.assign rfl rfl rfl lt0 ?_)
  refine VO.nil ?_
  refine V.keep 206 [0, 3, 4, 5, 6] [] (E0 := [(0, .vl ρ0 1 (List.map encU8 code)), (3, .str y1.1), (4, .vl rn 3 (List.map encSpan y1.2.1)), (5, .str y1.2.2.1), (6, .int .i64 y1.2.2.2)]) (H0 := []) rfl (⟨_, _, rfl, rfl, _, _, rfl, rfl, _, _, rfl, rfl, _, _, rfl, rfl, _, _, rfl, rfl, rfl⟩) (rfl) rfl ?_
  refine V.seq ?_
  replace hm0 := bindO hm0; rcases hm0 with ⟨y2, hh2, hm0⟩
  refine V.region ?_
  refine VO.cons rfl (V1.move rfl rfl rfl lt0 ?_)
  refine VO.cons rfl (V1.move rfl rfl rfl lt0 ?_)
  refine VO.cons rfl (V1.move rfl rfl rfl lt0 ?_)
  refine VO.cons rfl (V1.move rfl rfl rfl lt0 ?_)
  refine VO.cons rfl (V1.permK (V1.call rfl rfl rfl cok_37 rfl (ok_impl_HideWord hh2) rfl lt0 ?_))
  rintro _ _ ⟨ob0, hob0, rfl, rfl⟩
  refine ⟨_, ?_, Keeps.optBack (n := 3) (ob := ob0) (xs := List.map encSpan y2.1) (H1 := []) (H2 := []) rfl⟩
  refine VO.cons rfl (V1.move rfl rfl rfl lt0 ?_)
  refine VO.cons rfl (V1.extract rfl rfl rfl rfl lt0 ?_)
  refine VO.weakenK (Keeps.optFront (n := 3) (ob := ob0) (xs := (List.map encSpan y2.1)) (H1 := []) rfl) ?_
  refine VO.weakenK (Keeps.optVl 48 [] rn (f := encSpan) (l := y2.1) (ob := ob0) (H1 := []) hob0 rfl rfl ⟨rfl, trivial⟩ (fun _ => rfl) rfl iNil) ?_
  refine VO.cons rfl (V1.extract rfl rfl rfl rfl lt0 ?_)
  refine VO.cons rfl (V1.assign rfl rfl rfl lt0 ?_)
  refine VO.cons rfl (V1.assign rfl rfl rfl lt0 ?_)
  refine VO.nil ?_
  refine V.keep 206 [0, 3, 4, 5, 6, 7, 8] [] (E0 := [(0, .vl ρ0 1 (List.map encU8 code)), (3, .str y1.1), (4, .vl rn 3 (List.map encSpan y1.2.1)), (5, .str y1.2.2.1), (6, .int .i64 y1.2.2.2), (7, .vl rn 3 (List.map encSpan y2.1)), (8, .bool y2.2)]) (H0 := []) rfl (⟨_, _, rfl, rfl, _, _, rfl, rfl, _, _, rfl, rfl, _, _, rfl, rfl, _, _, rfl, rfl, _, _, rfl, rfl, _, _, rfl, rfl, rfl⟩) (rfl) rfl ?_
  refine V.seq ?_
  refine V.seq ?_
  replace hm0 := bindO hm0; rcases hm0 with ⟨y3, hh3, hm0⟩
  refine V.region ?_
  refine VO.cons rfl (V1.move rfl rfl rfl lt0 ?_)
  refine VO.cons rfl (V1.move rfl rfl rfl lt0 ?_)
  refine VO.cons rfl (V1.move rfl rfl rfl lt0 ?_)
  refine VO.cons rfl (V1.move rfl rfl rfl lt0 ?_)
  refine VO.cons rfl (V1.call rfl rfl rfl cok_38 rfl (ok_spec_HideWord hh3) rfl lt0 ?_)
  rintro _ _ ⟨b1, rfl, rfl⟩
  refine VO.cons rfl (V1.move rfl rfl rfl lt0 ?_)
  refine VO.cons rfl (V1.extract rfl rfl rfl rfl lt0 ?_)
  refine VO.weakenK (Keeps.freezeG 0 rn [(56, .vl rn 3 (List.map encSpan y3.1))] ([]) (f := encSpan) (l := y3.1) rfl (fun _ => rfl) ⟨⟨_, rfl, .here⟩, trivial⟩ rfl rfl iNil) ?_
  refine VO.cons rfl (V1.extract rfl rfl rfl rfl lt0 ?_)
  refine VO.cons rfl (V1.assign rfl rfl rfl lt0 ?_)
  refine VO.cons rfl (V1.assign rfl rfl rfl lt0 ?_)
  refine VO.nil ?_
  refine V.keep 206 [0, 3, 4, 5, 7, 8, 9, 10] [] (E0 := [(0, .vl ρ0 1 (List.map encU8 code)), (3, .str y1.1), (4, .vl rn 3 (List.map encSpan y1.2.1)), (5, .str y1.2.2.1), (7, .vl rn 3 (List.map encSpan y2.1)), (8, .bool y2.2), (9, .vl rn 3 (List.map encSpan y3.1)), (10, .bool y3.2)]) (H0 := []) rfl (⟨_, _, rfl, rfl, _, _, rfl, rfl, _, _, rfl, rfl, _, _, rfl, rfl, _, _, rfl, rfl, _, _, rfl, rfl, _, _, rfl, rfl, _, _, rfl, rfl, rfl⟩) (rfl) rfl ?_
  refine V.seq ?_
  replace hm0 := bindO hm0; rcases hm0 with ⟨y4, hh4, hm0⟩
  refine V.region ?_
  refine VO.cons rfl (V1.move rfl rfl rfl lt0 ?_)
  refine VO.cons rfl (V1.move rfl rfl rfl lt0 ?_)
  refine VO.cons rfl (V1.boolNeq rfl rfl und_4 rfl rfl lt0 ?_)
  refine VO.cons rfl (V1.move rfl rfl rfl lt0 ?_)
  apply VO.or (n := 4) rfl rfl rfl rfl rfl rfl lt0 (.none rfl)
  ·
   intro hg0
   refine VO.step (.some rfl rfl rfl) (V1.move rfl rfl rfl lt0 ?_)
   refine VO.step (.some rfl rfl rfl) (V1.move rfl rfl rfl lt0 ?_)
   refine VO.step (.some rfl rfl rfl) (V1.call rfl rfl rfl cok_39 rfl (ok_laws_vSpans (cond_f hg0 hh4)) rfl lt0 ?_)
   rintro _ _ ⟨rfl, rfl⟩
   refine VO.step (.some rfl rfl rfl) (V1.not rfl rfl rfl lt0 ?_)
   exact VO.nil ⟨rfl, rfl, rfl, rfl, .inr ⟨rfl, .inr ⟨rfl, .inr ⟨rfl, .inr ⟨rfl, .inr ⟨rfl, .inl rfl⟩⟩⟩⟩⟩⟩
  refine VO.nil ?_
  refine V.keep 206 [0, 3, 4, 5, 7, 8, 66] [] (E0 := [(0, .vl ρ0 1 (List.map encU8 code)), (3, .str y1.1), (4, .vl rn 3 (List.map encSpan y1.2.1)), (5, .str y1.2.2.1), (7, .vl rn 3 (List.map encSpan y2.1)), (8, .bool y2.2), (66, .bool ((!(y2.2 == y3.2)) || (!y4)))]) (H0 := []) rfl (⟨_, _, rfl, rfl, _, _, rfl, rfl, _, _, rfl, rfl, _, _, rfl, rfl, _, _, rfl, rfl, _, _, rfl, rfl, _, _, rfl, rfl, rfl⟩) (rfl) rfl ?_
  refine V.cond rfl (fun hc1 => ?_) (fun hc1 => ?_)
  ·
   replace hm0 := cond_t hc1 hm0
   refine V.seq ?_
   refine V.region ?_
   refine VO.cons rfl (V1.assign rfl rfl rfl lt0 ?_)
   refine VO.nil ?_
   refine V.ret ?_
   obtain rfl := Option.some.inj hm0
   exact ⟨_, [], ⟨_, _, rfl, rfl, rfl⟩, List.nil_sublist _, rfl, rfl⟩
  ·
   replace hm0 := cond_f hc1 hm0
   refine V.skip ?_
   refine V.seq ?_
   replace hm0 := bindO hm0; rcases hm0 with ⟨j0, hm1, hm0⟩
   refine V.cutT (D := (Unit) × (Unit)) (fun ⟨_, _⟩ => ⟨206, [(0, .vl ρ0 1 (List.map encU8 code))], []⟩) (fun ⟨_, _⟩ => (.inl () = j0)) ?_ ?_
   ·
    refine V.seq ?_
    refine V.region ?_
    refine VO.cons rfl (V1.move rfl rfl rfl lt0 ?_)
    refine VO.nil ?_
    refine V.cond rfl (fun hc2 => ?_) (fun hc2 => ?_)
    ·
     replace hm1 := cond_t hc2 hm1
     refine V.seq ?_
     replace hm1 := bindO hm1; rcases hm1 with ⟨y5, hh5, hm1⟩
     refine V.region ?_
     refine VO.cons rfl (V1.move rfl rfl rfl lt0 ?_)
     refine VO.cons rfl (V1.move rfl rfl rfl lt0 ?_)
     refine VO.cons rfl (V1.move rfl rfl rfl lt0 ?_)
     refine VO.cons rfl (V1.call rfl rfl rfl cok_40 rfl (ok_impl_IsHidden hh5) rfl lt0 ?_)
     rintro _ _ ⟨rfl, rfl⟩
     refine VO.cons rfl (V1.move rfl rfl rfl lt0 ?_)
     refine VO.cons rfl (V1.extract rfl rfl rfl rfl lt0 ?_)
     refine VO.cons rfl (V1.extract rfl rfl rfl rfl lt0 ?_)
     refine VO.cons rfl (V1.assign rfl rfl rfl lt0 ?_)
     refine VO.cons rfl (V1.assign rfl rfl rfl lt0 ?_)
     refine VO.nil ?_
     refine V.keep 206 [0, 4, 7, 11, 12] [] (E0 := [(0, .vl ρ0 1 (List.map encU8 code)), (4, .vl rn 3 (List.map encSpan y1.2.1)), (7, .vl rn 3 (List.map encSpan y2.1)), (11, .bool y5.1), (12, .bool y5.2)]) (H0 := []) rfl (⟨_, _, rfl, rfl, _, _, rfl, rfl, _, _, rfl, rfl, _, _, rfl, rfl, _, _, rfl, rfl, rfl⟩) (rfl) rfl ?_
     refine V.seq ?_
     refine V.seq ?_
     refine V.region ?_
     refine VO.cons rfl (V1.assign rfl rfl rfl lt0 ?_)
     refine VO.nil ?_
     replace hm1 := bindO hm1; rcases hm1 with ⟨e0, he2, hm1⟩
     refine V.cutT (D := (Unit) × (Unit)) (fun ⟨_, _⟩ => ⟨206, [(0, .vl ρ0 1 (List.map encU8 code)), (11, .bool y5.1), (12, .bool y5.2)], []⟩) (fun ⟨_, _⟩ => (.inl () = e0)) ?_ ?_
     ·
      refine V.block ?_
      refine V.keep 206 [13, 0, 4, 7, 11, 12] [] (E0 := [(13, .int .i64 (0 : Int)), (0, .vl ρ0 1 (List.map encU8 code)), (4, .vl rn 3 (List.map encSpan y1.2.1)), (7, .vl rn 3 (List.map encSpan y2.1)), (11, .bool y5.1), (12, .bool y5.2)]) (H0 := []) rfl (⟨_, _, rfl, rfl, _, _, rfl, rfl, _, _, rfl, rfl, _, _, rfl, rfl, _, _, rfl, rfl, _, _, rfl, rfl, rfl⟩) (rfl) rfl ?_
      refine V.loopE (D := Nat × (Int) × (Unit)) (fun ⟨n0, i, _⟩ => [(13, .int .i64 i)]) (fun ⟨n0, i, _⟩ => []) (fun ⟨n0, i, _⟩ => loopO (M.laws_FnHiddenWords_l0 y1 y2) n0 i = some e0) (fun ⟨n0, _, _⟩ => n0) (rounds, (0 : Int), ()) rfl he2 ?_
      rintro ⟨n0, i, _⟩ hP0
      obtain ⟨m0, y6, rfl, hm2, hl2, hr2⟩ := loop_head hP0
      unfold M.laws_FnHiddenWords_l0 at hm2; dsimp only at hm2
      show V _ _ _ ⟨206, [(13, .int .i64 i), (0, .vl ρ0 1 (List.map encU8 code)), (4, .vl rn 3 (List.map encSpan y1.2.1)), (7, .vl rn 3 (List.map encSpan y2.1)), (11, .bool y5.1), (12, .bool y5.2)], []⟩
      refine V.seq ?_
      refine V.seq ?_
      refine V.region ?_
      refine VO.cons rfl (V1.move rfl rfl rfl lt0 ?_)
      refine VO.cons rfl (V1.move rfl rfl rfl lt0 ?_)
      refine VO.cons rfl (V1.lenMap rfl rfl rfl rfl rfl rfl isl_58 lt0 ?_)
      refine VO.cons rfl (V1.int rfl rfl rfl rfl rfl lt0 ?_)
      refine VO.nil ?_
      refine V.cond rfl (fun hc3 => ?_) (fun hc3 => ?_)
      ·
       replace hm2 := cond_t hc3 hm2
       refine V.skip ?_
       refine V.keep 206 [0, 4, 7, 11, 12, 13] [] (E0 := [(0, .vl ρ0 1 (List.map encU8 code)), (4, .vl rn 3 (List.map encSpan y1.2.1)), (7, .vl rn 3 (List.map encSpan y2.1)), (11, .bool y5.1), (12, .bool y5.2), (13, .int .i64 i)]) (H0 := []) rfl (⟨_, _, rfl, rfl, _, _, rfl, rfl, _, _, rfl, rfl, _, _, rfl, rfl, _, _, rfl, rfl, _, _, rfl, rfl, rfl⟩) (rfl) rfl ?_
       refine V.seq ?_
       refine V.block ?_
       refine V.seq ?_
       refine V.region ?_
       refine VO.cons rfl (V1.assign rfl rfl rfl lt0 ?_)
       refine VO.nil ?_
       refine V.seq ?_
       refine V.seq ?_
       refine V.region ?_
       refine VO.cons rfl (V1.assign rfl rfl rfl lt0 ?_)
       refine VO.nil ?_
       replace hm2 := bindO hm2; rcases hm2 with ⟨e1, he3, hm2⟩
       refine V.cutT (D := (Bool) × (Unit)) (fun ⟨found, _⟩ => ⟨206, [(14, .bool found), (0, .vl ρ0 1 (List.map encU8 code)), (4, .vl rn 3 (List.map encSpan y1.2.1)), (7, .vl rn 3 (List.map encSpan y2.1)), (11, .bool y5.1), (12, .bool y5.2), (13, .int .i64 i)], []⟩) (fun ⟨found, _⟩ => (found = e1)) ?_ ?_
       ·
        refine V.block ?_
        refine V.keep 206 [14, 15, 0, 4, 7, 11, 12, 13] [] (E0 := [(14, .bool false), (15, .int .i64 (0 : Int)), (0, .vl ρ0 1 (List.map encU8 code)), (4, .vl rn 3 (List.map encSpan y1.2.1)), (7, .vl rn 3 (List.map encSpan y2.1)), (11, .bool y5.1), (12, .bool y5.2), (13, .int .i64 i)]) (H0 := []) rfl (⟨_, _, rfl, rfl, _, _, rfl, rfl, _, _, rfl, rfl, _, _, rfl, rfl, _, _, rfl, rfl, _, _, rfl, rfl, _, _, rfl, rfl, _, _, rfl, rfl, rfl⟩) (rfl) rfl ?_
        refine V.loopE (D := Nat × (Bool × Int) × (Unit)) (fun ⟨n1, ⟨found0, k⟩, _⟩ => [(14, .bool found0), (15, .int .i64 k)]) (fun ⟨n1, ⟨found0, k⟩, _⟩ => []) (fun ⟨n1, ⟨found0, k⟩, _⟩ => loopO (M.laws_FnHiddenWords_l1 y1 y2 i) n1 (found0, k) = some e1) (fun ⟨n1, _, _⟩ => n1) (rounds, (false, (0 : Int)), ()) rfl he3 ?_
        rintro ⟨n1, ⟨found0, k⟩, _⟩ hP1
        obtain ⟨m1, y7, rfl, hm3, hl3, hr3⟩ := loop_head hP1
        unfold M.laws_FnHiddenWords_l1 at hm3; dsimp only at hm3
        show V _ _ _ ⟨206, [(14, .bool found0), (15, .int .i64 k), (0, .vl ρ0 1 (List.map encU8 code)), (4, .vl rn 3 (List.map encSpan y1.2.1)), (7, .vl rn 3 (List.map encSpan y2.1)), (11, .bool y5.1), (12, .bool y5.2), (13, .int .i64 i)], []⟩
        refine V.seq ?_
        refine V.seq ?_
        refine V.region ?_
        refine VO.cons rfl (V1.move rfl rfl rfl lt0 ?_)
        refine VO.cons rfl (V1.move rfl rfl rfl lt0 ?_)
        refine VO.cons rfl (V1.lenMap rfl rfl rfl rfl rfl rfl isl_58 lt0 ?_)
        refine VO.cons rfl (V1.int rfl rfl rfl rfl rfl lt0 ?_)
        refine VO.nil ?_
        refine V.cond rfl (fun hc4 => ?_) (fun hc4 => ?_)
        ·
         replace hm3 := cond_t hc4 hm3
         refine V.skip ?_
         refine V.keep 206 [0, 4, 7, 11, 12, 13, 14, 15] [] (E0 := [(0, .vl ρ0 1 (List.map encU8 code)), (4, .vl rn 3 (List.map encSpan y1.2.1)), (7, .vl rn 3 (List.map encSpan y2.1)), (11, .bool y5.1), (12, .bool y5.2), (13, .int .i64 i), (14, .bool found0), (15, .int .i64 k)]) (H0 := []) rfl (⟨_, _, rfl, rfl, _, _, rfl, rfl, _, _, rfl, rfl, _, _, rfl, rfl, _, _, rfl, rfl, _, _, rfl, rfl, _, _, rfl, rfl, _, _, rfl, rfl, rfl⟩) (rfl) rfl ?_
         refine V.seq ?_
         refine V.block ?_
         replace hm3 := asrt_some hm3; rcases hm3 with ⟨hh6, hm3⟩
         replace hm3 := asrt_some hm3; rcases hm3 with ⟨hh7, hm3⟩
         refine V.regionM 206 12 [⟨[(14, none)], [], none⟩, ⟨[(87, some 0)], [], none⟩, ⟨[(7, none)], [(0, false)], none⟩, ⟨[(15, none)], [(1, false)], none⟩, ⟨[(89, some 1), (90, some 0)], [(2, false)], none⟩, ⟨[(91, some 0)], [(3, false)], none⟩, ⟨[(4, none)], [(4, false)], none⟩, ⟨[(13, none)], [(5, false)], none⟩, ⟨[(93, some 1), (94, some 0)], [(6, false)], none⟩, ⟨[(95, some 0)], [(7, false)], none⟩, ⟨[(92, some 4), (96, some 0)], [(8, false)], none⟩, ⟨[], [], some (false, 88, 97, 9, 0)⟩] [(0, none), (4, none), (7, none), (11, none), (12, none), (13, none), (15, none), (98, some 0)] (⟨_, rfl, ⟨_, rfl, ⟨_, rfl, ⟨_, rfl, ⟨_, rfl, ⟨_, rfl, ⟨_, rfl, ⟨_, rfl, ⟨_, rfl, ⟨_, rfl, ⟨_, rfl, ⟨_, rfl, ⟨rfl, rfl⟩⟩⟩⟩⟩⟩⟩⟩⟩⟩⟩⟩⟩) mixed_orders rfl (by decide +kernel) (fun hck17 => ?_)
         refine VP.step (p := ?pv713) rfl rfl rfl (⟨_, _, rfl, rfl, rfl⟩) ?hv713 ?rest713 hck17
         case hv713 =>
          intro E1
          refine (V1.move rfl rfl rfl lt0 ?_)
          exact rfl
         refine VP.step (p := ?pv714) rfl rfl rfl (⟨_, _, rfl, rfl, rfl⟩) ?hv714 ?rest714 hck17
         case hv714 =>
          intro E1
          refine (V1.move rfl rfl rfl lt0 ?_)
          exact rfl
         refine VP.step (p := ?pv715) rfl rfl rfl (⟨_, _, rfl, rfl, rfl⟩) ?hv715 ?rest715 hck17
         case hv715 =>
          refine ⟨_, rfl, fun hg1 => ?_⟩
          intro E1
          refine (V1.move rfl rfl rfl lt0 ?_)
          exact rfl
         refine VP.step (p := ?pv716) rfl rfl rfl (⟨_, _, rfl, rfl, rfl⟩) ?hv716 ?rest716 hck17
         case hv716 =>
          refine ⟨_, rfl, fun hg1 => ?_⟩
          intro E1
          refine (V1.move rfl rfl rfl lt0 ?_)
          exact rfl
         refine VP.step (p := ?pv717) rfl rfl rfl (⟨_, _, rfl, rfl, _, _, rfl, rfl, rfl⟩) ?hv717 ?rest717 hck17
         case hv717 =>
          refine ⟨_, rfl, fun hg1 => ?_⟩
          intro E1
          refine (V1.indexI rfl rfl esz_58 rfl rfl (hh6 hg1) lt0 ?_)
          exact rfl
         refine VP.step (p := ?pv718) rfl rfl rfl (⟨_, _, rfl, rfl, rfl⟩) ?hv718 ?rest718 hck17
         case hv718 =>
          refine ⟨_, rfl, fun hg1 => ?_⟩
          intro E1
          refine (V1.loadPinAll rfl rfl tyk_66 rfl rfl lt0 ?_)
          exact rfl
         refine VP.step (p := ?pv719) rfl rfl rfl (⟨_, _, rfl, rfl, rfl⟩) ?hv719 ?rest719 hck17
         case hv719 =>
          refine ⟨_, rfl, fun hg1 => ?_⟩
          intro E1
          refine (V1.move rfl rfl rfl lt0 ?_)
          exact rfl
         refine VP.step (p := ?pv720) rfl rfl rfl (⟨_, _, rfl, rfl, rfl⟩) ?hv720 ?rest720 hck17
         case hv720 =>
          refine ⟨_, rfl, fun hg1 => ?_⟩
          intro E1
          refine (V1.move rfl rfl rfl lt0 ?_)
          exact rfl
         refine VP.step (p := ?pv721) rfl rfl rfl (⟨_, _, rfl, rfl, _, _, rfl, rfl, rfl⟩) ?hv721 ?rest721 hck17
         case hv721 =>
          refine ⟨_, rfl, fun hg1 => ?_⟩
          intro E1
          refine (V1.indexI rfl rfl esz_58 rfl rfl (hh7 hg1) lt0 ?_)
          exact rfl
         refine VP.step (p := ?pv722) rfl rfl rfl (⟨_, _, rfl, rfl, rfl⟩) ?hv722 ?rest722 hck17
         case hv722 =>
          refine ⟨_, rfl, fun hg1 => ?_⟩
          intro E1
          refine (V1.loadPinAll rfl rfl tyk_66 rfl rfl lt0 ?_)
          exact rfl
         refine VP.step (p := ?pv723) rfl rfl rfl (⟨_, _, rfl, rfl, _, _, rfl, rfl, rfl⟩) ?hv723 ?rest723 hck17
         case hv723 =>
          refine ⟨_, rfl, fun hg1 => ?_⟩
          intro E1
          refine (V1.aggEqG false rfl rfl fe_66 rfl rfl rfl rfl rfl lt0 ?_)
          exact rfl
         refine VP.pickOr rfl rfl rfl rfl rfl rfl (trivial) ?_ hck17
         refine VP.fin rfl (⟨_, _, rfl, rfl, _, _, rfl, rfl, _, _, rfl, rfl, _, _, rfl, rfl, _, _, rfl, rfl, _, _, rfl, rfl, _, _, rfl, rfl, _, _, rfl, rfl, rfl⟩) ?_
         refine VO.cons rfl (V1.assign rfl rfl rfl lt0 ?_)
         refine VO.nil ?_
         refine V.region ?_
         refine VO.cons rfl (V1.move rfl rfl rfl lt0 ?_)
         refine VO.cons rfl (V1.int rfl rfl rfl rfl rfl lt0 ?_)
         refine VO.cons rfl (V1.assign rfl rfl rfl lt0 ?_)
         refine VO.nil ?_
         exact ⟨(m1, ((found0 || ((((y2.1.getD (Int.toNat k) default).From) == ((y1.2.1.getD (Int.toNat i) default).From)) && ((((y2.1.getD (Int.toNat k) default).To) == ((y1.2.1.getD (Int.toNat i) default).To)) && ((((y2.1.getD (Int.toNat k) default).Reason) == ((y1.2.1.getD (Int.toNat i) default).Reason)) && true)))), (IntKind.i64.wrap (k + (1 : Int)))), ()), hl3 _ (Option.some.inj hm3).symm, Nat.lt_succ_self _, Keeps.mk (ks := []) rfl ⟨rfl, rfl, rfl, rfl, rfl, rfl, rfl, rfl, trivial⟩ (rfl) rfl⟩
        ·
         replace hm3 := cond_f hc4 hm3
         refine V.exit ?_
         obtain rfl := hr3 _ (Option.some.inj hm3).symm
         exact ⟨(found0, ()), rfl, Keeps.mk (ks := []) rfl ⟨rfl, rfl, rfl, rfl, rfl, rfl, rfl, trivial⟩ (rfl) rfl⟩
       ·
        rintro ⟨found, _⟩ rfl
        try dsimp only at hm2
        refine V.seq ?_
        refine V.region ?_
        refine VO.cons rfl (V1.move rfl rfl rfl lt0 ?_)
        refine VO.cons rfl (V1.not rfl rfl rfl lt0 ?_)
        refine VO.nil ?_
        refine V.cond rfl (fun hc5 => ?_) (fun hc5 => ?_)
        ·
         replace hm2 := cond_t hc5 hm2
         refine V.seq ?_
         refine V.region ?_
         refine VO.cons rfl (V1.assign rfl rfl rfl lt0 ?_)
         refine VO.nil ?_
         refine V.ret ?_
         obtain rfl := hr2 _ (Option.some.inj hm2).symm
         change some _ = some _ at hm1
         obtain rfl := Option.some.inj hm1
         change some _ = some _ at hm0
         obtain rfl := Option.some.inj hm0
         exact ⟨_, [], ⟨_, _, rfl, rfl, rfl⟩, List.nil_sublist _, rfl, rfl⟩
        ·
         replace hm2 := cond_f hc5 hm2
         refine V.skip ?_
         refine V.region ?_
         refine VO.cons rfl (V1.move rfl rfl rfl lt0 ?_)
         refine VO.cons rfl (V1.int rfl rfl rfl rfl rfl lt0 ?_)
         refine VO.cons rfl (V1.assign rfl rfl rfl lt0 ?_)
         refine VO.nil ?_
         exact ⟨(m0, (IntKind.i64.wrap (i + (1 : Int))), ()), hl2 _ (Option.some.inj hm2).symm, Nat.lt_succ_self _, Keeps.mk (ks := []) rfl ⟨rfl, rfl, rfl, rfl, rfl, rfl, trivial⟩ (rfl) rfl⟩
      ·
       replace hm2 := cond_f hc3 hm2
       refine V.exit ?_
       obtain rfl := hr2 _ (Option.some.inj hm2).symm
       exact ⟨((), ()), rfl, Keeps.mk (ks := []) rfl ⟨rfl, rfl, rfl, trivial⟩ (rfl) rfl⟩
     ·
      rintro ⟨_, _⟩ rfl
      try dsimp only at hm1
      refine V.seq ?_
      refine V.region ?_
      refine VO.cons rfl (V1.move rfl rfl rfl lt0 ?_)
      refine VO.cons rfl (V1.not rfl rfl rfl lt0 ?_)
      refine VO.cons rfl (V1.move rfl rfl rfl lt0 ?_)
      apply VO.or (n := 2) rfl rfl rfl rfl rfl rfl lt0 (.none rfl)
      ·
       intro hg2
       refine VO.step (.some rfl rfl rfl) (V1.move rfl rfl rfl lt0 ?_)
       refine VO.step (.some rfl rfl rfl) (V1.not rfl rfl rfl lt0 ?_)
       exact VO.nil ⟨rfl, rfl, rfl, rfl, .inr ⟨rfl, .inr ⟨rfl, .inr ⟨rfl, .inl rfl⟩⟩⟩⟩
      refine VO.nil ?_
      refine V.keep 206 [0, 106] [] (E0 := [(0, .vl ρ0 1 (List.map encU8 code)), (106, .bool ((!y5.2) || (!y5.1)))]) (H0 := []) rfl (⟨_, _, rfl, rfl, _, _, rfl, rfl, rfl⟩) (rfl) rfl ?_
      refine V.cond rfl (fun hc6 => ?_) (fun hc6 => ?_)
      ·
       replace hm1 := cond_t hc6 hm1
       refine V.seq ?_
       refine V.region ?_
       refine VO.cons rfl (V1.assign rfl rfl rfl lt0 ?_)
       refine VO.nil ?_
       refine V.ret ?_
       obtain rfl := Option.some.inj hm1
       change some _ = some _ at hm0
       obtain rfl := Option.some.inj hm0
       exact ⟨_, [], ⟨_, _, rfl, rfl, rfl⟩, List.nil_sublist _, rfl, rfl⟩
      ·
       replace hm1 := cond_f hc6 hm1
       refine V.skip ?_
       exact ⟨((), ()), Option.some.inj hm1, Keeps.mk (ks := []) rfl ⟨rfl, trivial⟩ (rfl) rfl⟩
    ·
     replace hm1 := cond_f hc2 hm1
     refine V.skip ?_
     exact ⟨((), ()), Option.some.inj hm1, Keeps.mk (ks := []) rfl ⟨rfl, trivial⟩ (rfl) rfl⟩
   ·
    rintro ⟨_, _⟩ rfl
    try dsimp only at hm0
    refine V.seq ?_
    replace hm0 := bindO hm0; rcases hm0 with ⟨y8, hh8, hm0⟩
    refine V.region ?_
    refine VO.cons rfl (V1.move rfl rfl rfl lt0 ?_)
    refine VO.cons rfl (V1.call rfl rfl rfl cok_41 rfl (ok_spec_DrawIsHidden hh8) rfl lt0 ?_)
    rintro _ _ ⟨b2, rfl, rfl⟩
    refine VO.cons rfl (V1.move rfl rfl rfl lt0 ?_)
    refine VO.cons rfl (V1.extract rfl rfl rfl rfl lt0 ?_)
    refine VO.cons rfl (V1.extract rfl rfl rfl rfl lt0 ?_)
    refine VO.weakenK (Keeps.freezeG 0 rn [(111, .vl rn 3 (List.map encSpan y8.2.1))] ([]) (f := encSpan) (l := y8.2.1) rfl (fun _ => rfl) ⟨⟨_, rfl, .here⟩, trivial⟩ rfl rfl iNil) ?_
    refine VO.cons rfl (V1.extract rfl rfl rfl rfl lt0 ?_)
    refine VO.cons rfl (V1.assign rfl rfl rfl lt0 ?_)
    refine VO.cons rfl (V1.assign rfl rfl rfl lt0 ?_)
    refine VO.cons rfl (V1.assign rfl rfl rfl lt0 ?_)
    refine VO.nil ?_
    refine V.keep 206 [0, 16, 17, 18] [] (E0 := [(0, .vl ρ0 1 (List.map encU8 code)), (16, .str y8.1), (17, .vl rn 3 (List.map encSpan y8.2.1)), (18, .str y8.2.2)]) (H0 := []) rfl (⟨_, _, rfl, rfl, _, _, rfl, rfl, _, _, rfl, rfl, _, _, rfl, rfl, rfl⟩) (rfl) rfl ?_
    refine V.seq ?_
    replace hm0 := bindO hm0; rcases hm0 with ⟨y9, hh9, hm0⟩
    refine V.region ?_
    refine VO.cons rfl (V1.move rfl rfl rfl lt0 ?_)
    refine VO.cons rfl (V1.move rfl rfl rfl lt0 ?_)
    refine VO.cons rfl (V1.move rfl rfl rfl lt0 ?_)
    refine VO.cons rfl (V1.call rfl rfl rfl cok_40 rfl (ok_impl_IsHidden hh9) rfl lt0 ?_)
    rintro _ _ ⟨rfl, rfl⟩
    refine VO.cons rfl (V1.move rfl rfl rfl lt0 ?_)
    refine VO.cons rfl (V1.extract rfl rfl rfl rfl lt0 ?_)
    refine VO.cons rfl (V1.extract rfl rfl rfl rfl lt0 ?_)
    refine VO.cons rfl (V1.assign rfl rfl rfl lt0 ?_)
    refine VO.cons rfl (V1.assign rfl rfl rfl lt0 ?_)
    refine VO.nil ?_
    refine V.keep 206 [0, 16, 17, 18, 19, 20] [] (E0 := [(0, .vl ρ0 1 (List.map encU8 code)), (16, .str y8.1), (17, .vl rn 3 (List.map encSpan y8.2.1)), (18, .str y8.2.2), (19, .bool y9.1), (20, .bool y9.2)]) (H0 := []) rfl (⟨_, _, rfl, rfl, _, _, rfl, rfl, _, _, rfl, rfl, _, _, rfl, rfl, _, _, rfl, rfl, _, _, rfl, rfl, rfl⟩) (rfl) rfl ?_
    refine V.seq ?_
    refine V.seq ?_
    replace hm0 := bindO hm0; rcases hm0 with ⟨y10, hh10, hm0⟩
    refine V.region ?_
    refine VO.cons rfl (V1.move rfl rfl rfl lt0 ?_)
    refine VO.cons rfl (V1.move rfl rfl rfl lt0 ?_)
    refine VO.cons rfl (V1.move rfl rfl rfl lt0 ?_)
    refine VO.cons rfl (V1.call rfl rfl rfl cok_42 rfl (ok_spec_IsHidden hh10) rfl lt0 ?_)
    rintro _ _ ⟨rfl, rfl⟩
    refine VO.cons rfl (V1.move rfl rfl rfl lt0 ?_)
    refine VO.cons rfl (V1.extract rfl rfl rfl rfl lt0 ?_)
    refine VO.cons rfl (V1.extract rfl rfl rfl rfl lt0 ?_)
    refine VO.cons rfl (V1.assign rfl rfl rfl lt0 ?_)
    refine VO.cons rfl (V1.assign rfl rfl rfl lt0 ?_)
    refine VO.nil ?_
    refine V.keep 206 [0, 19, 20, 21, 22] [] (E0 := [(0, .vl ρ0 1 (List.map encU8 code)), (19, .bool y9.1), (20, .bool y9.2), (21, .bool y10.1), (22, .bool y10.2)]) (H0 := []) rfl (⟨_, _, rfl, rfl, _, _, rfl, rfl, _, _, rfl, rfl, _, _, rfl, rfl, _, _, rfl, rfl, rfl⟩) (rfl) rfl ?_
    refine V.seq ?_
    refine V.region ?_
    refine VO.cons rfl (V1.move rfl rfl rfl lt0 ?_)
    refine VO.cons rfl (V1.move rfl rfl rfl lt0 ?_)
    refine VO.cons rfl (V1.boolNeq rfl rfl und_4 rfl rfl lt0 ?_)
    refine VO.cons rfl (V1.move rfl rfl rfl lt0 ?_)
    apply VO.or (n := 3) rfl rfl rfl rfl rfl rfl lt0 (.none rfl)
    ·
     intro hg3
     refine VO.step (.some rfl rfl rfl) (V1.move rfl rfl rfl lt0 ?_)
     refine VO.step (.some rfl rfl rfl) (V1.move rfl rfl rfl lt0 ?_)
     refine VO.step (.some rfl rfl rfl) (V1.boolNeq rfl rfl und_4 rfl rfl lt0 ?_)
     exact VO.nil ⟨rfl, rfl, rfl, rfl, .inr ⟨rfl, .inr ⟨rfl, .inr ⟨rfl, .inr ⟨rfl, .inl rfl⟩⟩⟩⟩⟩
    refine VO.nil ?_
    refine V.keep 206 [0, 134] [] (E0 := [(0, .vl ρ0 1 (List.map encU8 code)), (134, .bool ((!(y9.1 == y10.1)) || (!(y9.2 == y10.2))))]) (H0 := []) rfl (⟨_, _, rfl, rfl, _, _, rfl, rfl, rfl⟩) (rfl) rfl ?_
    refine V.cond rfl (fun hc7 => ?_) (fun hc7 => ?_)
    ·
     replace hm0 := cond_t hc7 hm0
     refine V.seq ?_
     refine V.region ?_
     refine VO.cons rfl (V1.assign rfl rfl rfl lt0 ?_)
     refine VO.nil ?_
     refine V.ret ?_
     obtain rfl := Option.some.inj hm0
     exact ⟨_, [], ⟨_, _, rfl, rfl, rfl⟩, List.nil_sublist _, rfl, rfl⟩
    ·
     replace hm0 := cond_f hc7 hm0
     refine V.skip ?_
     refine V.seq ?_
     replace hm0 := bindO hm0; rcases hm0 with ⟨y11, hh11, hm0⟩
     refine V.region ?_
     refine VO.cons rfl (V1.move rfl rfl rfl lt0 ?_)
     refine VO.cons rfl (V1.call rfl rfl rfl cok_43 rfl (ok_spec_DrawPlacesOfWord hh11) rfl lt0 ?_)
     rintro _ _ ⟨rfl, rfl⟩
     refine VO.cons rfl (V1.move rfl rfl rfl lt0 ?_)
     refine VO.cons rfl (V1.extract rfl rfl rfl rfl lt0 ?_)
     refine VO.cons rfl (V1.extract rfl rfl rfl rfl lt0 ?_)
     refine VO.cons rfl (V1.assign rfl rfl rfl lt0 ?_)
     refine VO.cons rfl (V1.assign rfl rfl rfl lt0 ?_)
     refine VO.nil ?_
     refine V.keep 206 [0, 23, 24] [] (E0 := [(0, .vl ρ0 1 (List.map encU8 code)), (23, .str y11.1), (24, .str y11.2)]) (H0 := []) rfl (⟨_, _, rfl, rfl, _, _, rfl, rfl, _, _, rfl, rfl, rfl⟩) (rfl) rfl ?_
     refine V.seq ?_
     replace hm0 := bindO hm0; rcases hm0 with ⟨y12, hh12, hm0⟩
     refine V.region ?_
     refine VO.cons rfl (V1.move rfl rfl rfl lt0 ?_)
     refine VO.cons rfl (V1.move rfl rfl rfl lt0 ?_)
     refine VO.cons rfl (V1.permK (V1.call rfl rfl rfl cok_44 rfl (ok_impl_PlacesOfWord hh12) rfl lt0 ?_))
     rintro _ _ ⟨ob1, hob1, rfl, rfl⟩
     refine ⟨_, ?_, Keeps.optBack (n := 1) (ob := ob1) (xs := List.map encInt y12.1) (H1 := []) (H2 := []) rfl⟩
     refine VO.cons rfl (V1.move rfl rfl rfl lt0 ?_)
     refine VO.cons rfl (V1.extract rfl rfl rfl rfl lt0 ?_)
     refine VO.weakenK (Keeps.optFront (n := 1) (ob := ob1) (xs := (List.map encInt y12.1)) (H1 := []) rfl) ?_
     refine VO.weakenK (Keeps.optVl 144 [] rn (f := encInt) (l := y12.1) (ob := ob1) (H1 := []) hob1 rfl rfl ⟨rfl, trivial⟩ (fun _ => rfl) rfl iNil) ?_
     refine VO.cons rfl (V1.extract rfl rfl rfl rfl lt0 ?_)
     refine VO.cons rfl (V1.assign rfl rfl rfl lt0 ?_)
     refine VO.cons rfl (V1.assign rfl rfl rfl lt0 ?_)
     refine VO.nil ?_
     refine V.keep 206 [0, 23, 24, 25, 26] [] (E0 := [(0, .vl ρ0 1 (List.map encU8 code)), (23, .str y11.1), (24, .str y11.2), (25, .vl rn 1 (List.map encInt y12.1)), (26, .bool y12.2)]) (H0 := []) rfl (⟨_, _, rfl, rfl, _, _, rfl, rfl, _, _, rfl, rfl, _, _, rfl, rfl, _, _, rfl, rfl, rfl⟩) (rfl) rfl ?_
     refine V.seq ?_
     refine V.seq ?_
     replace hm0 := bindO hm0; rcases hm0 with ⟨y13, hh13, hm0⟩
     refine V.region ?_
     refine VO.cons rfl (V1.move rfl rfl rfl lt0 ?_)
     refine VO.cons rfl (V1.move rfl rfl rfl lt0 ?_)
     refine VO.cons rfl (V1.call rfl rfl rfl cok_45 rfl (ok_spec_PlacesOfWord hh13) rfl lt0 ?_)
     rintro _ _ ⟨b3, rfl, rfl⟩
     refine VO.cons rfl (V1.move rfl rfl rfl lt0 ?_)
     refine VO.cons rfl (V1.extract rfl rfl rfl rfl lt0 ?_)
     refine VO.weakenK (Keeps.freezeG 0 rn [(150, .vl rn 1 (List.map encInt y13.1))] ([]) (f := encInt) (l := y13.1) rfl (fun _ => rfl) ⟨⟨_, rfl, .here⟩, trivial⟩ rfl rfl iNil) ?_
     refine VO.cons rfl (V1.extract rfl rfl rfl rfl lt0 ?_)
     refine VO.cons rfl (V1.assign rfl rfl rfl lt0 ?_)
     refine VO.cons rfl (V1.assign rfl rfl rfl lt0 ?_)
     refine VO.nil ?_
     refine V.keep 206 [0, 23, 24, 25, 26, 27, 28] [] (E0 := [(0, .vl ρ0 1 (List.map encU8 code)), (23, .str y11.1), (24, .str y11.2), (25, .vl rn 1 (List.map encInt y12.1)), (26, .bool y12.2), (27, .vl rn 1 (List.map encInt y13.1)), (28, .bool y13.2)]) (H0 := []) rfl (⟨_, _, rfl, rfl, _, _, rfl, rfl, _, _, rfl, rfl, _, _, rfl, rfl, _, _, rfl, rfl, _, _, rfl, rfl, _, _, rfl, rfl, rfl⟩) (rfl) rfl ?_
     refine V.seq ?_
     replace hm0 := bindO hm0; rcases hm0 with ⟨y14, hh14, hm0⟩
     refine V.region ?_
     refine VO.cons rfl (V1.move rfl rfl rfl lt0 ?_)
     refine VO.cons rfl (V1.move rfl rfl rfl lt0 ?_)
     refine VO.cons rfl (V1.boolNeq rfl rfl und_4 rfl rfl lt0 ?_)
     refine VO.cons rfl (V1.move rfl rfl rfl lt0 ?_)
     apply VO.or (n := 4) rfl rfl rfl rfl rfl rfl lt0 (.none rfl)
     ·
      intro hg4
      refine VO.step (.some rfl rfl rfl) (V1.move rfl rfl rfl lt0 ?_)
      refine VO.step (.some rfl rfl rfl) (V1.move rfl rfl rfl lt0 ?_)
      refine VO.step (.some rfl rfl rfl) (V1.call rfl rfl rfl cok_46 rfl (ok_laws_vInts (cond_f hg4 hh14)) rfl lt0 ?_)
      rintro _ _ ⟨rfl, rfl⟩
      refine VO.step (.some rfl rfl rfl) (V1.not rfl rfl rfl lt0 ?_)
      exact VO.nil ⟨rfl, rfl, rfl, rfl, .inr ⟨rfl, .inr ⟨rfl, .inr ⟨rfl, .inr ⟨rfl, .inr ⟨rfl, .inl rfl⟩⟩⟩⟩⟩⟩
     refine VO.nil ?_
     refine V.keep 206 [0, 23, 24, 25, 26, 160] [] (E0 := [(0, .vl ρ0 1 (List.map encU8 code)), (23, .str y11.1), (24, .str y11.2), (25, .vl rn 1 (List.map encInt y12.1)), (26, .bool y12.2), (160, .bool ((!(y12.2 == y13.2)) || (!y14)))]) (H0 := []) rfl (⟨_, _, rfl, rfl, _, _, rfl, rfl, _, _, rfl, rfl, _, _, rfl, rfl, _, _, rfl, rfl, _, _, rfl, rfl, rfl⟩) (rfl) rfl ?_
     refine V.cond rfl (fun hc8 => ?_) (fun hc8 => ?_)
     ·
      replace hm0 := cond_t hc8 hm0
      refine V.seq ?_
      refine V.region ?_
      refine VO.cons rfl (V1.assign rfl rfl rfl lt0 ?_)
      refine VO.nil ?_
      refine V.ret ?_
      obtain rfl := Option.some.inj hm0
      exact ⟨_, [], ⟨_, _, rfl, rfl, rfl⟩, List.nil_sublist _, rfl, rfl⟩
     ·
      replace hm0 := cond_f hc8 hm0
      refine V.skip ?_
      refine V.seq ?_
      refine V.seq ?_
      refine V.region ?_
      refine VO.cons rfl (V1.assign rfl rfl rfl lt0 ?_)
      refine VO.nil ?_
      replace hm0 := bindO hm0; rcases hm0 with ⟨e2, he1, hm0⟩
      refine V.cutT (D := (Unit) × (Unit)) (fun ⟨_, _⟩ => ⟨206, [(0, .vl ρ0 1 (List.map encU8 code)), (23, .str y11.1), (24, .str y11.2), (25, .vl rn 1 (List.map encInt y12.1)), (26, .bool y12.2)], []⟩) (fun ⟨_, _⟩ => (.inl () = e2)) ?_ ?_
      ·
       refine V.block ?_
       refine V.keep 206 [29, 0, 23, 24, 25, 26] [] (E0 := [(29, .int .i64 (0 : Int)), (0, .vl ρ0 1 (List.map encU8 code)), (23, .str y11.1), (24, .str y11.2), (25, .vl rn 1 (List.map encInt y12.1)), (26, .bool y12.2)]) (H0 := []) rfl (⟨_, _, rfl, rfl, _, _, rfl, rfl, _, _, rfl, rfl, _, _, rfl, rfl, _, _, rfl, rfl, _, _, rfl, rfl, rfl⟩) (rfl) rfl ?_
       refine V.loopE (D := Nat × (Int) × (Unit)) (fun ⟨n2, i0, _⟩ => [(29, .int .i64 i0)]) (fun ⟨n2, i0, _⟩ => []) (fun ⟨n2, i0, _⟩ => loopO (M.laws_FnHiddenWords_l2 y11 y12) n2 i0 = some e2) (fun ⟨n2, _, _⟩ => n2) (rounds, (0 : Int), ()) rfl he1 ?_
       rintro ⟨n2, i0, _⟩ hP2
       obtain ⟨m2, y15, rfl, hm1, hl1, hr1⟩ := loop_head hP2
       unfold M.laws_FnHiddenWords_l2 at hm1; dsimp only at hm1
       show V _ _ _ ⟨206, [(29, .int .i64 i0), (0, .vl ρ0 1 (List.map encU8 code)), (23, .str y11.1), (24, .str y11.2), (25, .vl rn 1 (List.map encInt y12.1)), (26, .bool y12.2)], []⟩
       refine V.seq ?_
       refine V.seq ?_
       refine V.region ?_
       refine VO.cons rfl (V1.move rfl rfl rfl lt0 ?_)
       refine VO.cons rfl (V1.move rfl rfl rfl lt0 ?_)
       refine VO.cons rfl (V1.lenMap rfl rfl rfl rfl rfl rfl isl_27 lt0 ?_)
       refine VO.cons rfl (V1.int rfl rfl rfl rfl rfl lt0 ?_)
       refine VO.nil ?_
       refine V.cond rfl (fun hc9 => ?_) (fun hc9 => ?_)
       ·
        replace hm1 := cond_t hc9 hm1
        refine V.skip ?_
        refine V.keep 206 [0, 23, 24, 25, 26, 29] [] (E0 := [(0, .vl ρ0 1 (List.map encU8 code)), (23, .str y11.1), (24, .str y11.2), (25, .vl rn 1 (List.map encInt y12.1)), (26, .bool y12.2), (29, .int .i64 i0)]) (H0 := []) rfl (⟨_, _, rfl, rfl, _, _, rfl, rfl, _, _, rfl, rfl, _, _, rfl, rfl, _, _, rfl, rfl, _, _, rfl, rfl, rfl⟩) (rfl) rfl ?_
        refine V.seq ?_
        refine V.block ?_
        refine V.seq ?_
        replace hm1 := asrt_some hm1; rcases hm1 with ⟨hh15, hm1⟩
        replace hm1 := asrt_some hm1; rcases hm1 with ⟨hh16, hm1⟩
        replace hm1 := asrt_some hm1; rcases hm1 with ⟨hh17, hm1⟩
        refine V.regionM 206 14 [⟨[(23, none)], [], none⟩, ⟨[(25, none)], [], none⟩, ⟨[(29, none)], [], none⟩, ⟨[(168, some 1), (169, some 0)], [], none⟩, ⟨[(170, some 0)], [], none⟩, ⟨[(25, none)], [], none⟩, ⟨[(29, none)], [], none⟩, ⟨[(172, some 1), (173, some 0)], [], none⟩, ⟨[(174, some 0)], [], none⟩, ⟨[(24, none)], [], none⟩, ⟨[(176, some 0)], [], none⟩, ⟨[(175, some 2), (177, some 0)], [], none⟩, ⟨[(167, some 11), (171, some 7), (178, some 0)], [], none⟩, ⟨[(24, none)], [], none⟩] [(0, none), (23, none), (24, none), (25, none), (26, none), (29, none), (179, some 1), (180, some 0)] (⟨_, rfl, ⟨_, rfl, ⟨_, rfl, ⟨_, rfl, ⟨_, rfl, ⟨_, rfl, ⟨_, rfl, ⟨_, rfl, ⟨_, rfl, ⟨_, rfl, ⟨_, rfl, ⟨_, rfl, ⟨_, rfl, ⟨_, rfl, ⟨rfl, rfl⟩⟩⟩⟩⟩⟩⟩⟩⟩⟩⟩⟩⟩⟩⟩) mixed_orders rfl (by decide +kernel) (fun hck35 => ?_)
        refine VP.step (p := ?pv759) rfl rfl rfl (⟨_, _, rfl, rfl, rfl⟩) ?hv759 ?rest759 hck35
        case hv759 =>
         intro E1
         refine (V1.move rfl rfl rfl lt0 ?_)
         exact rfl
        refine VP.step (p := ?pv760) rfl rfl rfl (⟨_, _, rfl, rfl, rfl⟩) ?hv760 ?rest760 hck35
        case hv760 =>
         intro E1
         refine (V1.move rfl rfl rfl lt0 ?_)
         exact rfl
        refine VP.step (p := ?pv761) rfl rfl rfl (⟨_, _, rfl, rfl, rfl⟩) ?hv761 ?rest761 hck35
        case hv761 =>
         intro E1
         refine (V1.move rfl rfl rfl lt0 ?_)
         exact rfl
        refine VP.step (p := ?pv762) rfl rfl rfl (⟨_, _, rfl, rfl, _, _, rfl, rfl, rfl⟩) ?hv762 ?rest762 hck35
        case hv762 =>
         intro E1
         refine (V1.indexI rfl rfl esz_27 rfl rfl hh15 lt0 ?_)
         exact rfl
        refine VP.step (p := ?pv763) rfl rfl rfl (⟨_, _, rfl, rfl, rfl⟩) ?hv763 ?rest763 hck35
        case hv763 =>
         intro E1
         refine (V1.loadPin rfl rfl tyk_3 rfl rfl lt0 ?_)
         exact rfl
        refine VP.step (p := ?pv764) rfl rfl rfl (⟨_, _, rfl, rfl, rfl⟩) ?hv764 ?rest764 hck35
        case hv764 =>
         intro E1
         refine (V1.move rfl rfl rfl lt0 ?_)
         exact rfl
        refine VP.step (p := ?pv765) rfl rfl rfl (⟨_, _, rfl, rfl, rfl⟩) ?hv765 ?rest765 hck35
        case hv765 =>
         intro E1
         refine (V1.move rfl rfl rfl lt0 ?_)
         exact rfl
        refine VP.step (p := ?pv766) rfl rfl rfl (⟨_, _, rfl, rfl, _, _, rfl, rfl, rfl⟩) ?hv766 ?rest766 hck35
        case hv766 =>
         intro E1
         refine (V1.indexI rfl rfl esz_27 rfl rfl hh16 lt0 ?_)
         exact rfl
        refine VP.step (p := ?pv767) rfl rfl rfl (⟨_, _, rfl, rfl, rfl⟩) ?hv767 ?rest767 hck35
        case hv767 =>
         intro E1
         refine (V1.loadPin rfl rfl tyk_3 rfl rfl lt0 ?_)
         exact rfl
        refine VP.step (p := ?pv768) rfl rfl rfl (⟨_, _, rfl, rfl, rfl⟩) ?hv768 ?rest768 hck35
        case hv768 =>
         intro E1
         refine (V1.move rfl rfl rfl lt0 ?_)
         exact rfl
        refine VP.step (p := ?pv769) rfl rfl rfl (⟨_, _, rfl, rfl, rfl⟩) ?hv769 ?rest769 hck35
        case hv769 =>
         intro E1
         refine (V1.lenStr rfl rfl rfl rfl rfl rfl istr_9 lt0 ?_)
         exact rfl
        refine VP.step (p := ?pv770) rfl rfl rfl (⟨_, _, rfl, rfl, _, _, rfl, rfl, rfl⟩) ?hv770 ?rest770 hck35
        case hv770 =>
         intro E1
         refine (V1.int rfl rfl rfl rfl rfl lt0 ?_)
         exact rfl
        refine VP.step (p := ?pv771) rfl rfl rfl (⟨_, _, rfl, rfl, _, _, rfl, rfl, _, _, rfl, rfl, rfl⟩) ?hv771 ?rest771 hck35
        case hv771 =>
         intro E1
         refine (V1.sliceStrI (a := (y12.1.getD (Int.toNat i0) default)) (b := (IntKind.i64.wrap ((y12.1.getD (Int.toNat i0) default) + (y11.2.length : Int)))) rfl rfl istr_9 rfl (Bnd.some rfl hh17.1 _) (Bnd.some rfl (Int.le_trans hh17.1 hh17.2.1) _) hh17 lt0 ?_)
         exact rfl
        refine VP.step (p := ?pv772) rfl rfl rfl (⟨_, _, rfl, rfl, rfl⟩) ?hv772 ?rest772 hck35
        case hv772 =>
         intro E1
         refine (V1.move rfl rfl rfl lt0 ?_)
         exact rfl
        refine VP.fin rfl (⟨_, _, rfl, rfl, _, _, rfl, rfl, _, _, rfl, rfl, _, _, rfl, rfl, _, _, rfl, rfl, _, _, rfl, rfl, _, _, rfl, rfl, _, _, rfl, rfl, rfl⟩) ?_
        refine VO.cons rfl (V1.str rfl rfl rfl rfl rfl lt0 ?_)
        refine VO.nil ?_
        refine V.cond rfl (fun hc10 => ?_) (fun hc10 => ?_)
        ·
         replace hm1 := cond_t hc10 hm1
         refine V.seq ?_
         refine V.region ?_
         refine VO.cons rfl (V1.assign rfl rfl rfl lt0 ?_)
         refine VO.nil ?_
         refine V.ret ?_
         obtain rfl := hr1 _ (Option.some.inj hm1).symm
         change some _ = some _ at hm0
         obtain rfl := Option.some.inj hm0
         exact ⟨_, [], ⟨_, _, rfl, rfl, rfl⟩, List.nil_sublist _, rfl, rfl⟩
        ·
         replace hm1 := cond_f hc10 hm1
         refine V.skip ?_
         refine V.region ?_
         refine VO.cons rfl (V1.move rfl rfl rfl lt0 ?_)
         refine VO.cons rfl (V1.int rfl rfl rfl rfl rfl lt0 ?_)
         refine VO.cons rfl (V1.assign rfl rfl rfl lt0 ?_)
         refine VO.nil ?_
         exact ⟨(m2, (IntKind.i64.wrap (i0 + (1 : Int))), ()), hl1 _ (Option.some.inj hm1).symm, Nat.lt_succ_self _, Keeps.mk (ks := []) rfl ⟨rfl, rfl, rfl, rfl, rfl, rfl, trivial⟩ (rfl) rfl⟩
       ·
        replace hm1 := cond_f hc9 hm1
        refine V.exit ?_
        obtain rfl := hr1 _ (Option.some.inj hm1).symm
        exact ⟨((), ()), rfl, Keeps.mk (ks := []) rfl ⟨rfl, rfl, rfl, rfl, rfl, trivial⟩ (rfl) rfl⟩
      ·
       rintro ⟨_, _⟩ rfl
       try dsimp only at hm0
       refine V.seq ?_
       replace hm0 := bindO hm0; rcases hm0 with ⟨j1, hm1, hm0⟩
       refine V.cutT (D := (Unit) × (Unit)) (fun ⟨_, _⟩ => ⟨206, [(0, .vl ρ0 1 (List.map encU8 code))], []⟩) (fun ⟨_, _⟩ => (.inl () = j1)) ?_ ?_
       ·
        refine V.seq ?_
        refine V.region ?_
        refine VO.cons rfl (V1.move rfl rfl rfl lt0 ?_)
        refine VO.nil ?_
        refine V.cond rfl (fun hc11 => ?_) (fun hc11 => ?_)
        ·
         replace hm1 := cond_t hc11 hm1
         refine V.seq ?_
         replace hm1 := bindO hm1; rcases hm1 with ⟨y16, hh18, hm1⟩
         refine V.region ?_
         refine VO.cons rfl (V1.move rfl rfl rfl lt0 ?_)
         refine VO.cons rfl (V1.buildSliceT (f := encSpan) ([] : List Span) rfl rfl esz_58 zk_66 rfl rfl rfl rfl rfl rfl rfl lt0 ?_)
         intro b4
         refine VO.cons rfl (V1.move rfl rfl rfl lt0 ?_)
         refine VO.cons rfl (V1.callL (rn + 1) [b4] [.str y11.1, .vl (rn + 1) 3 (List.map encSpan ([] : List Span)), .str y11.2] rfl rfl rfl cok_40 rfl ⟨_, _, rfl, .same _, ⟨_, _, rfl, Lend.srMap 0 rfl (fun _ => rfl) (.head _), ⟨_, _, rfl, .same _, rfl⟩⟩⟩ (bwCons (k := 0) rfl bwNil) (ok_impl_IsHidden hh18) rfl (⟨(by first | omega | (dsimp only; omega)), by rintro _ _ ⟨rfl, rfl⟩; exact ⟨rfl, by simp⟩⟩) lt0 ?_)
         rintro _ _ ⟨rfl, rfl⟩
         refine VO.cons rfl (V1.move rfl rfl rfl lt0 ?_)
         refine VO.cons rfl (V1.extract rfl rfl rfl rfl lt0 ?_)
         refine VO.cons rfl (V1.extract rfl rfl rfl rfl lt0 ?_)
         refine VO.cons rfl (V1.assign rfl rfl rfl lt0 ?_)
         refine VO.cons rfl (V1.assign rfl rfl rfl lt0 ?_)
         refine VO.nil ?_
         refine V.keep 206 [0, 25, 30, 31] [] (E0 := [(0, .vl ρ0 1 (List.map encU8 code)), (25, .vl rn 1 (List.map encInt y12.1)), (30, .bool y16.1), (31, .bool y16.2)]) (H0 := []) rfl (⟨_, _, rfl, rfl, _, _, rfl, rfl, _, _, rfl, rfl, _, _, rfl, rfl, rfl⟩) (rfl) rfl ?_
         refine V.seq ?_
         refine V.region ?_
         refine VO.cons rfl (V1.move rfl rfl rfl lt0 ?_)
         refine VO.cons rfl (V1.not rfl rfl rfl lt0 ?_)
         refine VO.cons rfl (V1.move rfl rfl rfl lt0 ?_)
         apply VO.or (n := 5) rfl rfl rfl rfl rfl rfl lt0 (.none rfl)
         ·
          intro hg5
          refine VO.step (.some rfl rfl rfl) (V1.move rfl rfl rfl lt0 ?_)
          refine VO.step (.some rfl rfl rfl) (V1.move rfl rfl rfl lt0 ?_)
          refine VO.step (.some rfl rfl rfl) (V1.lenMap rfl rfl rfl rfl rfl rfl isl_27 lt0 ?_)
          refine VO.step (.some rfl rfl rfl) (V1.int rfl rfl rfl rfl rfl lt0 ?_)
          refine VO.step (.some rfl rfl rfl) (V1.boolNeq rfl rfl und_4 rfl rfl lt0 ?_)
          exact VO.nil ⟨rfl, rfl, rfl, rfl, .inr ⟨rfl, .inr ⟨rfl, .inr ⟨rfl, .inr ⟨rfl, .inr ⟨rfl, .inr ⟨rfl, .inl rfl⟩⟩⟩⟩⟩⟩⟩
         refine VO.nil ?_
         refine V.keep 206 [0, 198] [] (E0 := [(0, .vl ρ0 1 (List.map encU8 code)), (198, .bool ((!y16.2) || (!(y16.1 == ((y12.1.length : Int) == (0 : Int))))))]) (H0 := []) rfl (⟨_, _, rfl, rfl, _, _, rfl, rfl, rfl⟩) (rfl) rfl ?_
         refine V.cond rfl (fun hc12 => ?_) (fun hc12 => ?_)
         ·
          replace hm1 := cond_t hc12 hm1
          refine V.seq ?_
          refine V.region ?_
          refine VO.cons rfl (V1.assign rfl rfl rfl lt0 ?_)
          refine VO.nil ?_
          refine V.ret ?_
          obtain rfl := Option.some.inj hm1
          change some _ = some _ at hm0
          obtain rfl := Option.some.inj hm0
          exact ⟨_, [], ⟨_, _, rfl, rfl, rfl⟩, List.nil_sublist _, rfl, rfl⟩
         ·
          replace hm1 := cond_f hc12 hm1
          refine V.skip ?_
          exact ⟨((), ()), Option.some.inj hm1, Keeps.mk (ks := []) rfl ⟨rfl, trivial⟩ (rfl) rfl⟩
        ·
         replace hm1 := cond_f hc11 hm1
         refine V.skip ?_
         exact ⟨((), ()), Option.some.inj hm1, Keeps.mk (ks := []) rfl ⟨rfl, trivial⟩ (rfl) rfl⟩
       ·
        rintro ⟨_, _⟩ rfl
        try dsimp only at hm0
        refine V.seq ?_
        replace hm0 := bindO hm0; rcases hm0 with ⟨y17, hh19, hm0⟩
        refine V.region ?_
        refine VO.cons rfl (V1.move rfl rfl rfl lt0 ?_)
        refine VO.cons rfl (V1.call rfl rfl rfl cok_47 rfl (ok_spec_DrawIsText hh19) rfl lt0 ?_)
        rintro _ _ ⟨rfl, rfl⟩
        refine VO.cons rfl (V1.assign rfl rfl rfl lt0 ?_)
        refine VO.nil ?_
        refine V.seq ?_
        replace hm0 := bindO hm0; rcases hm0 with ⟨y18, hh20, hm0⟩
        replace hm0 := bindO hm0; rcases hm0 with ⟨y19, hh21, hm0⟩
        refine V.region ?_
        refine VO.cons rfl (V1.move rfl rfl rfl lt0 ?_)
        refine VO.cons rfl (V1.call rfl rfl rfl cok_48 rfl (ok_impl_IsText hh20) rfl lt0 ?_)
        rintro _ _ ⟨rfl, rfl⟩
        refine VO.cons rfl (V1.move rfl rfl rfl lt0 ?_)
        refine VO.cons rfl (V1.call rfl rfl rfl cok_49 rfl (ok_spec_IsText hh21) rfl lt0 ?_)
        rintro _ _ ⟨rfl, rfl⟩
        refine VO.cons rfl (V1.boolEql rfl rfl und_4 rfl rfl lt0 ?_)
        refine VO.cons rfl (V1.assign rfl rfl rfl lt0 ?_)
        refine VO.nil ?_
        refine V.ret ?_
        obtain rfl := Option.some.inj hm0
        exact ⟨_, [], ⟨_, _, rfl, rfl, rfl⟩, List.nil_sublist _, rfl, rfl⟩
end Go.Proofs.YteocnbeefedbkaaDoor
