/- the functions do what their models say -/
import Derived.Test.YtfebeomnlkfgoaaQc1
set_option linter.unusedSimpArgs false
set_option linter.unusedVariables false
set_option maxRecDepth 100000
set_option maxHeartbeats 4000000
namespace Go.Proofs.Ytfebeomnlkfgoaa
open Go.VS

theorem ok_slices_insertionSortCmpFunc_impl_Carton {ρ0 rn : Nat} {oq : Option Nat} {data : List Carton} {a : Int} {b_ : Int} {f3 : Nat} {cs3 : List PV} {r : List Carton} {fm : Carton → Carton → Option Int} (h : M.slices_insertionSortCmpFunc_impl_Carton data a b_ fm = some r) (hoq : oq = none → data = []) (hok3 : callOK Try.prog f3 = true) (hf3 : ∀ x0 x1 r, fm x0 x1 = some r → Does Try.prog f3 (encCarton ρ0 x0 :: encCarton ρ0 x1 :: cs3) [] rn (fun x H => x = .int .i64 r ∧ H = [])) : Does Try.prog 129 [optS 5 oq (List.length data), .int .i64 a, .int .i64 b_, .fn f3 cs3] (optH 5 oq (List.map (encCarton ρ0) data)) rn (fun x H => x = .tup [] ∧ H = optH 5 oq (List.map (encCarton ρ0) r)) := by
 have hm0 := h; clear h; unfold M.slices_insertionSortCmpFunc_impl_Carton at hm0
 try dsimp only at hm0
 refine Does.intro (N := 53) Try.func129 rfl rfl rfl rfl ?_
 intro w0 S0
 rcases oq with _ | oq
 ·
  refine V.seq ?_
  refine V.region ?_
  refine VO.cons rfl (V1.move rfl rfl rfl lt0 ?_)
  refine VO.cons rfl (V1.int rfl rfl rfl rfl rfl lt0 ?_)
  refine VO.cons rfl (V1.assign rfl rfl rfl lt0 ?_)
  refine VO.nil ?_
  replace hm0 := bindO hm0; rcases hm0 with ⟨e0, he1, hm0⟩
  refine V.cutT (D := (List Carton) × (Unit)) (fun ⟨data0, _⟩ => ⟨53, [(0, .vl rn 5 (List.map (encCarton ρ0) data0))], []⟩) (fun ⟨data0, _⟩ => (data0 = e0)) ?_ ?_
  ·
   refine V.block ?_
   refine V.keep 53 [0, 8, 1, 2, 3] [] (E0 := [(0, .nils), (8, .int .i64 (IntKind.i64.wrap (a + (1 : Int)))), (1, .int .i64 a), (2, .int .i64 b_), (3, .fn f3 cs3)]) (H0 := []) rfl (⟨_, _, rfl, rfl, ⟨_, _, rfl, rfl, ⟨_, _, rfl, rfl, ⟨_, _, rfl, rfl, ⟨_, _, rfl, rfl, rfl⟩⟩⟩⟩⟩) (rfl) rfl ?_
   refine V.loopE (D := Nat × (List Carton × Int) × (Option Nat)) (fun ⟨n0, ⟨data1, i⟩, ob0⟩ => [(0, optS 5 ob0 (List.length data1)), (8, .int .i64 i)]) (fun ⟨n0, ⟨data1, i⟩, ob0⟩ => optH 5 ob0 (List.map (encCarton ρ0) data1)) (fun ⟨n0, ⟨data1, i⟩, ob0⟩ => loopO (M.slices_insertionSortCmpFunc_impl_Carton_l0 a b_ fm) n0 (data1, i) = some e0 ∧ (ob0 = none → data1 = [])) (fun ⟨n0, _, _⟩ => n0) (rounds, (data, (IntKind.i64.wrap (a + (1 : Int)))), none) rfl ⟨he1, (fun _ => (hoq rfl))⟩ ?_
   rintro ⟨n0, ⟨data1, i⟩, ob0⟩ ⟨hP0, hob0⟩
   obtain ⟨m0, y0, rfl, hm1, hl1, hr1⟩ := loop_head hP0
   unfold M.slices_insertionSortCmpFunc_impl_Carton_l0 at hm1; dsimp only at hm1
   rcases ob0 with _ | ob0
   ·
    replace hob0 := hob0 rfl
    show V _ _ _ ⟨53, [(0, .nils), (8, .int .i64 i), (1, .int .i64 a), (2, .int .i64 b_), (3, .fn f3 cs3)], []⟩
    refine V.seq ?_
    refine V.seq ?_
    refine V.region ?_
    refine VO.cons rfl (V1.move rfl rfl rfl lt0 ?_)
    refine VO.cons rfl (V1.move rfl rfl rfl lt0 ?_)
    refine VO.cons rfl (V1.int rfl rfl rfl rfl rfl lt0 ?_)
    refine VO.nil ?_
    refine V.cond rfl (fun hc0 => ?_) (fun hc0 => ?_)
    ·
     replace hm1 := cond_t hc0 hm1
     refine V.skip ?_
     refine V.seq ?_
     refine V.block ?_
     refine V.seq ?_
     refine V.region ?_
     refine VO.cons rfl (V1.move rfl rfl rfl lt0 ?_)
     refine VO.cons rfl (V1.assign rfl rfl rfl lt0 ?_)
     refine VO.nil ?_
     refine V.keep 53 [0, 1, 2, 3, 8, 9] [] (E0 := [(0, .nils), (1, .int .i64 a), (2, .int .i64 b_), (3, .fn f3 cs3), (8, .int .i64 i), (9, .int .i64 i)]) (H0 := []) rfl (⟨_, _, rfl, rfl, ⟨_, _, rfl, rfl, ⟨_, _, rfl, rfl, ⟨_, _, rfl, rfl, ⟨_, _, rfl, rfl, ⟨_, _, rfl, rfl, rfl⟩⟩⟩⟩⟩⟩) (rfl) rfl ?_
     replace hm1 := bindO hm1; rcases hm1 with ⟨e1, he2, hm1⟩
     refine V.cutT (D := (List Carton) × (Option Nat)) (fun ⟨data2, ob1⟩ => ⟨53, [(0, optS 5 ob1 (List.length data2)), (1, .int .i64 a), (2, .int .i64 b_), (3, .fn f3 cs3), (8, .int .i64 i)], optH 5 ob1 (List.map (encCarton ρ0) data2)⟩) (fun ⟨data2, ob1⟩ => (data2 = e1) ∧ (ob1 = none → data2 = [])) ?_ ?_
     ·
      refine V.block ?_
      refine V.keep 53 [0, 9, 1, 2, 3, 8] [] (E0 := [(0, .nils), (9, .int .i64 i), (1, .int .i64 a), (2, .int .i64 b_), (3, .fn f3 cs3), (8, .int .i64 i)]) (H0 := []) rfl (⟨_, _, rfl, rfl, ⟨_, _, rfl, rfl, ⟨_, _, rfl, rfl, ⟨_, _, rfl, rfl, ⟨_, _, rfl, rfl, ⟨_, _, rfl, rfl, rfl⟩⟩⟩⟩⟩⟩) (rfl) rfl ?_
      refine V.loopE (D := Nat × (List Carton × Int) × (Unit)) (fun ⟨n1, ⟨data3, j_⟩, _⟩ => [(0, .nils), (9, .int .i64 j_)]) (fun ⟨n1, ⟨data3, j_⟩, _⟩ => []) (fun ⟨n1, ⟨data3, j_⟩, _⟩ => loopO (M.slices_insertionSortCmpFunc_impl_Carton_l1 a fm) n1 (data3, j_) = some e1 ∧ data3 = []) (fun ⟨n1, _, _⟩ => n1) (rounds, (data1, i), ()) rfl ⟨he2, hob0⟩ ?_
      rintro ⟨n1, ⟨data3, j_⟩, _⟩ ⟨hP1, hn_data3⟩
      obtain ⟨m1, y1, rfl, hm2, hl2, hr2⟩ := loop_head hP1
      unfold M.slices_insertionSortCmpFunc_impl_Carton_l1 at hm2; dsimp only at hm2
      show V _ _ _ ⟨53, [(0, .nils), (9, .int .i64 j_), (1, .int .i64 a), (2, .int .i64 b_), (3, .fn f3 cs3), (8, .int .i64 i)], []⟩
      refine V.seq ?_
      refine V.seq ?_
      replace hm2 := asrt_some hm2; rcases hm2 with ⟨hh0, hm2⟩
      replace hm2 := asrt_some hm2; rcases hm2 with ⟨hh1, hm2⟩
      replace hm2 := bindO hm2; rcases hm2 with ⟨y2, hh2, hm2⟩
      refine V.regionM 53 17 [⟨[(9, none)], [], none⟩, ⟨[(1, none)], [], none⟩, ⟨[(18, some 1), (19, some 0)], [], none⟩, ⟨[(20, some 0)], [], none⟩, ⟨[(3, none)], [(0, true)], none⟩, ⟨[(0, none)], [(1, true)], none⟩, ⟨[(9, none)], [(2, true)], none⟩, ⟨[(23, some 1), (24, some 0)], [(3, true)], none⟩, ⟨[(25, some 0)], [(4, true)], none⟩, ⟨[(0, none)], [(5, true)], none⟩, ⟨[(9, none)], [(6, true)], none⟩, ⟨[(28, some 0)], [(7, true)], none⟩, ⟨[(27, some 2), (29, some 0)], [(8, true)], none⟩, ⟨[(30, some 0)], [(9, true)], none⟩, ⟨[(22, some 9), (26, some 5), (31, some 0)], [(10, true)], none⟩, ⟨[(32, some 0)], [(11, true)], none⟩, ⟨[], [], some (true, 21, 33, 12, 0)⟩] [(0, none), (1, none), (2, none), (3, none), (8, none), (9, none), (34, some 0)] (⟨_, rfl, ⟨_, rfl, ⟨_, rfl, ⟨_, rfl, ⟨_, rfl, ⟨_, rfl, ⟨_, rfl, ⟨_, rfl, ⟨_, rfl, ⟨_, rfl, ⟨_, rfl, ⟨_, rfl, ⟨_, rfl, ⟨_, rfl, ⟨_, rfl, ⟨_, rfl, ⟨_, rfl, ⟨rfl, rfl⟩⟩⟩⟩⟩⟩⟩⟩⟩⟩⟩⟩⟩⟩⟩⟩⟩⟩) mixed_orders rfl (by decide +kernel) (fun hck4 => ?_)
      refine VP.step (p := ?pv2929) rfl rfl rfl (⟨_, _, rfl, rfl, rfl⟩) ?hv2929 ?rest2929 hck4
      case hv2929 =>
       intro E1
       refine (V1.move rfl rfl rfl lt0 ?_)
       exact rfl
      refine VP.step (p := ?pv2930) rfl rfl rfl (⟨_, _, rfl, rfl, rfl⟩) ?hv2930 ?rest2930 hck4
      case hv2930 =>
       intro E1
       refine (V1.move rfl rfl rfl lt0 ?_)
       exact rfl
      refine VP.step (p := ?pv2931) rfl rfl rfl (⟨_, _, rfl, rfl, ⟨_, _, rfl, rfl, rfl⟩⟩) ?hv2931 ?rest2931 hck4
      case hv2931 =>
       intro E1
       refine (V1.int rfl rfl rfl rfl rfl lt0 ?_)
       exact rfl
      refine VP.step (p := ?pv2932) rfl rfl rfl (⟨_, _, rfl, rfl, rfl⟩) ?hv2932 ?rest2932 hck4
      case hv2932 =>
       intro E1
       refine (V1.move rfl rfl rfl lt0 ?_)
       exact rfl
      refine VP.step (p := ?pv2933) rfl rfl rfl (⟨_, _, rfl, rfl, rfl⟩) ?hv2933 ?rest2933 hck4
      case hv2933 =>
       refine ⟨_, rfl, fun hg0 => ?_⟩
       intro E1
       refine (V1.move rfl rfl rfl lt0 ?_)
       exact rfl
      refine VP.step (p := ?pv2934) rfl rfl rfl (⟨_, _, rfl, rfl, rfl⟩) ?hv2934 ?rest2934 hck4
      case hv2934 =>
       refine ⟨_, rfl, fun hg0 => ?_⟩
       intro E1
       refine (V1.move rfl rfl rfl lt0 ?_)
       exact rfl
      refine VP.step (p := ?pv2935) rfl rfl rfl (⟨_, _, rfl, rfl, rfl⟩) ?hv2935 ?rest2935 hck4
      case hv2935 =>
       refine ⟨_, rfl, fun hg0 => ?_⟩
       intro E1
       refine (V1.move rfl rfl rfl lt0 ?_)
       exact rfl
      refine VP.step (p := .pin rn ((encCarton rn) (data3.getD (Int.toNat j_) default)) 0) rfl rfl rfl (⟨_, _, rfl, rfl, ⟨_, _, rfl, rfl, rfl⟩⟩) ?hv2936 ?rest2936 hck4
      case hv2936 =>
       refine ⟨_, rfl, fun hg0 => ?_⟩
       intro E1
       exact ((nilsNo hn_data3 (hh0 hg0))).elim
      refine VP.step (p := encCarton rn (data3.getD (Int.toNat j_) default)) rfl rfl rfl (⟨_, _, rfl, rfl, rfl⟩) ?hv2937 ?rest2937 hck4
      case hv2937 =>
       refine ⟨_, rfl, fun hg0 => ?_⟩
       intro E1
       exact ((nilsNo hn_data3 (hh0 hg0))).elim
      refine VP.step (p := ?pv2938) rfl rfl rfl (⟨_, _, rfl, rfl, rfl⟩) ?hv2938 ?rest2938 hck4
      case hv2938 =>
       refine ⟨_, rfl, fun hg0 => ?_⟩
       intro E1
       refine (V1.move rfl rfl rfl lt0 ?_)
       exact rfl
      refine VP.step (p := ?pv2939) rfl rfl rfl (⟨_, _, rfl, rfl, rfl⟩) ?hv2939 ?rest2939 hck4
      case hv2939 =>
       refine ⟨_, rfl, fun hg0 => ?_⟩
       intro E1
       refine (V1.move rfl rfl rfl lt0 ?_)
       exact rfl
      refine VP.step (p := ?pv2940) rfl rfl rfl (⟨_, _, rfl, rfl, rfl⟩) ?hv2940 ?rest2940 hck4
      case hv2940 =>
       refine ⟨_, rfl, fun hg0 => ?_⟩
       intro E1
       refine (V1.int rfl rfl rfl rfl rfl lt0 ?_)
       exact rfl
      refine VP.step (p := .pin rn ((encCarton rn) (data3.getD (Int.toNat (IntKind.i64.wrap (j_ - (1 : Int)))) default)) 0) rfl rfl rfl (⟨_, _, rfl, rfl, ⟨_, _, rfl, rfl, rfl⟩⟩) ?hv2941 ?rest2941 hck4
      case hv2941 =>
       refine ⟨_, rfl, fun hg0 => ?_⟩
       intro E1
       exact ((nilsNo hn_data3 (hh1 hg0))).elim
      refine VP.step (p := encCarton rn (data3.getD (Int.toNat (IntKind.i64.wrap (j_ - (1 : Int)))) default)) rfl rfl rfl (⟨_, _, rfl, rfl, rfl⟩) ?hv2942 ?rest2942 hck4
      case hv2942 =>
       refine ⟨_, rfl, fun hg0 => ?_⟩
       intro E1
       exact ((nilsNo hn_data3 (hh1 hg0))).elim
      refine VP.step (p := .int .i64 y2) rfl rfl rfl (⟨_, _, rfl, rfl, ⟨_, _, rfl, rfl, ⟨_, _, rfl, rfl, rfl⟩⟩⟩) ?hv2943 ?rest2943 hck4
      case hv2943 =>
       refine ⟨_, rfl, fun hg0 => ?_⟩
       intro E1
       exact ((nilsNo hn_data3 (hh0 hg0))).elim
      refine VP.step (p := .bool (decide (y2 < (0 : Int)))) rfl rfl rfl (⟨_, _, rfl, rfl, rfl⟩) ?hv2944 ?rest2944 hck4
      case hv2944 =>
       refine ⟨_, rfl, fun hg0 => ?_⟩
       intro E1
       exact ((nilsNo hn_data3 (hh0 hg0))).elim
      refine VP.pickAnd rfl rfl rfl rfl rfl rfl (trivial) ?_ hck4
      refine VP.fin rfl (⟨_, _, rfl, rfl, ⟨_, _, rfl, rfl, ⟨_, _, rfl, rfl, ⟨_, _, rfl, rfl, ⟨_, _, rfl, rfl, ⟨_, _, rfl, rfl, ⟨_, _, rfl, rfl, rfl⟩⟩⟩⟩⟩⟩⟩) ?_
      refine VO.nil ?_
      refine V.cond rfl (fun hc1 => ?_) (fun hc1 => ?_)
      ·
       replace hm2 := cond_t hc1 hm2
       refine V.skip ?_
       refine V.seq ?_
       refine V.block ?_
       replace hm2 := asrt_some hm2; rcases hm2 with ⟨hh3, hm2⟩
       exact (nilsNo hn_data3 hh3).elim
      ·
       replace hm2 := cond_f hc1 hm2
       refine V.exit ?_
       obtain rfl := hr2 _ (Option.some.inj hm2).symm
       exact ⟨(data3, none), ⟨rfl, (fun _ => hn_data3)⟩, Keeps.mk (ks := []) rfl ⟨rfl, rfl, rfl, rfl, rfl, trivial⟩ (rfl) rfl⟩
     ·
      rintro ⟨data2, ob1⟩ ⟨rfl, hob1⟩
      try dsimp only at hm1
      rcases ob1 with _ | ob1
      ·
       replace hob1 := hob1 rfl
       refine V.region ?_
       refine VO.cons rfl (V1.move rfl rfl rfl lt0 ?_)
       refine VO.cons rfl (V1.int rfl rfl rfl rfl rfl lt0 ?_)
       refine VO.cons rfl (V1.assign rfl rfl rfl lt0 ?_)
       refine VO.nil ?_
       exact ⟨(m0, (data2, (IntKind.i64.wrap (i + (1 : Int)))), none), ⟨hl1 _ (Option.some.inj hm1).symm, (fun _ => hob1)⟩, Nat.lt_succ_self _, Keeps.mk (ks := []) rfl ⟨rfl, rfl, rfl, rfl, rfl, trivial⟩ (rfl) rfl⟩
      ·
       refine V.region ?_
       refine VO.cons rfl (V1.move rfl rfl rfl lt0 ?_)
       refine VO.cons rfl (V1.int rfl rfl rfl rfl rfl lt0 ?_)
       refine VO.cons rfl (V1.assign rfl rfl rfl lt0 ?_)
       refine VO.nil ?_
       exact ⟨(m0, (data2, (IntKind.i64.wrap (i + (1 : Int)))), (some ob1)), ⟨hl1 _ (Option.some.inj hm1).symm, (fun e => by cases e)⟩, Nat.lt_succ_self _, Keeps.mk (ks := [0]) rfl ⟨rfl, rfl, rfl, rfl, rfl, trivial⟩ (⟨_, _, rfl, rfl, rfl⟩) rfl⟩
    ·
     replace hm1 := cond_f hc0 hm1
     refine V.exit ?_
     obtain rfl := hr1 _ (Option.some.inj hm1).symm
     exact ⟨(data1, ()), rfl, Keeps.trans (Keeps.nilsE (l := data1) 0 rn 5 (encCarton ρ0) hob0 rfl rfl) (Keeps.mk (ks := []) rfl ⟨rfl, trivial⟩ (rfl) rfl)⟩
   ·
    show V _ _ _ ⟨53, [(0, .sref ob0 5 0 (List.length data1)), (8, .int .i64 i), (1, .int .i64 a), (2, .int .i64 b_), (3, .fn f3 cs3)], [(ob0, ⟨5, List.map (encCarton ρ0) data1⟩)]⟩
    refine V.seq ?_
    refine V.seq ?_
    refine V.region ?_
    refine VO.cons rfl (V1.move rfl rfl rfl lt0 ?_)
    refine VO.cons rfl (V1.move rfl rfl rfl lt0 ?_)
    refine VO.cons rfl (V1.int rfl rfl rfl rfl rfl lt0 ?_)
    refine VO.nil ?_
    refine V.cond rfl (fun hc0 => ?_) (fun hc0 => ?_)
    ·
     replace hm1 := cond_t hc0 hm1
     refine V.skip ?_
     refine V.seq ?_
     refine V.block ?_
     refine V.seq ?_
     refine V.region ?_
     refine VO.cons rfl (V1.move rfl rfl rfl lt0 ?_)
     refine VO.cons rfl (V1.assign rfl rfl rfl lt0 ?_)
     refine VO.nil ?_
     refine V.keep 53 [0, 1, 2, 3, 8, 9] [0] (E0 := [(0, .sref ob0 5 0 (List.length data1)), (1, .int .i64 a), (2, .int .i64 b_), (3, .fn f3 cs3), (8, .int .i64 i), (9, .int .i64 i)]) (H0 := [(ob0, ⟨5, List.map (encCarton ρ0) data1⟩)]) rfl (⟨_, _, rfl, rfl, ⟨_, _, rfl, rfl, ⟨_, _, rfl, rfl, ⟨_, _, rfl, rfl, ⟨_, _, rfl, rfl, ⟨_, _, rfl, rfl, rfl⟩⟩⟩⟩⟩⟩) (⟨_, _, rfl, rfl, rfl⟩) rfl ?_
     replace hm1 := bindO hm1; rcases hm1 with ⟨e1, he2, hm1⟩
     refine V.cutT (D := (List Carton) × (Unit)) (fun ⟨data2, _⟩ => ⟨53, [(0, .sref ob0 5 0 (List.length data2)), (1, .int .i64 a), (2, .int .i64 b_), (3, .fn f3 cs3), (8, .int .i64 i)], [(ob0, ⟨5, List.map (encCarton ρ0) data2⟩)]⟩) (fun ⟨data2, _⟩ => (data2 = e1)) ?_ ?_
     ·
      refine V.block ?_
      refine V.keep 53 [0, 9, 1, 2, 3, 8] [0] (E0 := [(0, .sref ob0 5 0 (List.length data1)), (9, .int .i64 i), (1, .int .i64 a), (2, .int .i64 b_), (3, .fn f3 cs3), (8, .int .i64 i)]) (H0 := [(ob0, ⟨5, List.map (encCarton ρ0) data1⟩)]) rfl (⟨_, _, rfl, rfl, ⟨_, _, rfl, rfl, ⟨_, _, rfl, rfl, ⟨_, _, rfl, rfl, ⟨_, _, rfl, rfl, ⟨_, _, rfl, rfl, rfl⟩⟩⟩⟩⟩⟩) (⟨_, _, rfl, rfl, rfl⟩) rfl ?_
      refine V.loopE (D := Nat × (List Carton × Int) × (Unit)) (fun ⟨n1, ⟨data3, j_⟩, _⟩ => [(0, .sref ob0 5 0 (List.length data3)), (9, .int .i64 j_)]) (fun ⟨n1, ⟨data3, j_⟩, _⟩ => [(ob0, ⟨5, List.map (encCarton ρ0) data3⟩)]) (fun ⟨n1, ⟨data3, j_⟩, _⟩ => loopO (M.slices_insertionSortCmpFunc_impl_Carton_l1 a fm) n1 (data3, j_) = some e1) (fun ⟨n1, _, _⟩ => n1) (rounds, (data1, i), ()) rfl he2 ?_
      rintro ⟨n1, ⟨data3, j_⟩, _⟩ hP1
      obtain ⟨m1, y1, rfl, hm2, hl2, hr2⟩ := loop_head hP1
      unfold M.slices_insertionSortCmpFunc_impl_Carton_l1 at hm2; dsimp only at hm2
      show V _ _ _ ⟨53, [(0, .sref ob0 5 0 (List.length data3)), (9, .int .i64 j_), (1, .int .i64 a), (2, .int .i64 b_), (3, .fn f3 cs3), (8, .int .i64 i)], [(ob0, ⟨5, List.map (encCarton ρ0) data3⟩)]⟩
      refine V.seq ?_
      refine V.seq ?_
      replace hm2 := asrt_some hm2; rcases hm2 with ⟨hh0, hm2⟩
      replace hm2 := asrt_some hm2; rcases hm2 with ⟨hh1, hm2⟩
      replace hm2 := bindO hm2; rcases hm2 with ⟨y2, hh2, hm2⟩
      refine V.regionM 53 17 [⟨[(9, none)], [], none⟩, ⟨[(1, none)], [], none⟩, ⟨[(18, some 1), (19, some 0)], [], none⟩, ⟨[(20, some 0)], [], none⟩, ⟨[(3, none)], [(0, true)], none⟩, ⟨[(0, none)], [(1, true)], none⟩, ⟨[(9, none)], [(2, true)], none⟩, ⟨[(23, some 1), (24, some 0)], [(3, true)], none⟩, ⟨[(25, some 0)], [(4, true)], none⟩, ⟨[(0, none)], [(5, true)], none⟩, ⟨[(9, none)], [(6, true)], none⟩, ⟨[(28, some 0)], [(7, true)], none⟩, ⟨[(27, some 2), (29, some 0)], [(8, true)], none⟩, ⟨[(30, some 0)], [(9, true)], none⟩, ⟨[(22, some 9), (26, some 5), (31, some 0)], [(10, true)], none⟩, ⟨[(32, some 0)], [(11, true)], none⟩, ⟨[], [], some (true, 21, 33, 12, 0)⟩] [(0, none), (1, none), (2, none), (3, none), (8, none), (9, none), (34, some 0)] (⟨_, rfl, ⟨_, rfl, ⟨_, rfl, ⟨_, rfl, ⟨_, rfl, ⟨_, rfl, ⟨_, rfl, ⟨_, rfl, ⟨_, rfl, ⟨_, rfl, ⟨_, rfl, ⟨_, rfl, ⟨_, rfl, ⟨_, rfl, ⟨_, rfl, ⟨_, rfl, ⟨_, rfl, ⟨rfl, rfl⟩⟩⟩⟩⟩⟩⟩⟩⟩⟩⟩⟩⟩⟩⟩⟩⟩⟩) mixed_orders rfl (by decide +kernel) (fun hck4 => ?_)
      refine VP.step (p := ?pv3077) rfl rfl rfl (⟨_, _, rfl, rfl, rfl⟩) ?hv3077 ?rest3077 hck4
      case hv3077 =>
       intro E1
       refine (V1.move rfl rfl rfl lt0 ?_)
       exact rfl
      refine VP.step (p := ?pv3078) rfl rfl rfl (⟨_, _, rfl, rfl, rfl⟩) ?hv3078 ?rest3078 hck4
      case hv3078 =>
       intro E1
       refine (V1.move rfl rfl rfl lt0 ?_)
       exact rfl
      refine VP.step (p := ?pv3079) rfl rfl rfl (⟨_, _, rfl, rfl, ⟨_, _, rfl, rfl, rfl⟩⟩) ?hv3079 ?rest3079 hck4
      case hv3079 =>
       intro E1
       refine (V1.int rfl rfl rfl rfl rfl lt0 ?_)
       exact rfl
      refine VP.step (p := ?pv3080) rfl rfl rfl (⟨_, _, rfl, rfl, rfl⟩) ?hv3080 ?rest3080 hck4
      case hv3080 =>
       intro E1
       refine (V1.move rfl rfl rfl lt0 ?_)
       exact rfl
      refine VP.step (p := ?pv3081) rfl rfl rfl (⟨_, _, rfl, rfl, rfl⟩) ?hv3081 ?rest3081 hck4
      case hv3081 =>
       refine ⟨_, rfl, fun hg0 => ?_⟩
       intro E1
       refine (V1.move rfl rfl rfl lt0 ?_)
       exact rfl
      refine VP.step (p := ?pv3082) rfl rfl rfl (⟨_, _, rfl, rfl, rfl⟩) ?hv3082 ?rest3082 hck4
      case hv3082 =>
       refine ⟨_, rfl, fun hg0 => ?_⟩
       intro E1
       refine (V1.move rfl rfl rfl lt0 ?_)
       exact rfl
      refine VP.step (p := ?pv3083) rfl rfl rfl (⟨_, _, rfl, rfl, rfl⟩) ?hv3083 ?rest3083 hck4
      case hv3083 =>
       refine ⟨_, rfl, fun hg0 => ?_⟩
       intro E1
       refine (V1.move rfl rfl rfl lt0 ?_)
       exact rfl
      refine VP.step (p := ?pv3084) rfl rfl rfl (⟨_, _, rfl, rfl, ⟨_, _, rfl, rfl, rfl⟩⟩) ?hv3084 ?rest3084 hck4
      case hv3084 =>
       refine ⟨_, rfl, fun hg0 => ?_⟩
       intro E1
       refine (V1.indexSr rfl rfl esz_39 rfl rfl (hh0 hg0) lt0 ?_)
       exact rfl
      refine VP.step (p := ?pv3085) rfl rfl rfl (⟨_, _, rfl, rfl, rfl⟩) ?hv3085 ?rest3085 hck4
      case hv3085 =>
       refine ⟨_, rfl, fun hg0 => ?_⟩
       intro E1
       refine (V1.loadMapAll (k := 0) (f := (encCarton ρ0)) rfl rfl tyk_67 rfl rfl (by simpa using natLt (hh0 hg0).1 (hh0 hg0).2) rfl lt0 ?_)
       exact rfl
      refine VP.step (p := ?pv3086) rfl rfl rfl (⟨_, _, rfl, rfl, rfl⟩) ?hv3086 ?rest3086 hck4
      case hv3086 =>
       refine ⟨_, rfl, fun hg0 => ?_⟩
       intro E1
       refine (V1.move rfl rfl rfl lt0 ?_)
       exact rfl
      refine VP.step (p := ?pv3087) rfl rfl rfl (⟨_, _, rfl, rfl, rfl⟩) ?hv3087 ?rest3087 hck4
      case hv3087 =>
       refine ⟨_, rfl, fun hg0 => ?_⟩
       intro E1
       refine (V1.move rfl rfl rfl lt0 ?_)
       exact rfl
      refine VP.step (p := ?pv3088) rfl rfl rfl (⟨_, _, rfl, rfl, rfl⟩) ?hv3088 ?rest3088 hck4
      case hv3088 =>
       refine ⟨_, rfl, fun hg0 => ?_⟩
       intro E1
       refine (V1.int rfl rfl rfl rfl rfl lt0 ?_)
       exact rfl
      refine VP.step (p := ?pv3089) rfl rfl rfl (⟨_, _, rfl, rfl, ⟨_, _, rfl, rfl, rfl⟩⟩) ?hv3089 ?rest3089 hck4
      case hv3089 =>
       refine ⟨_, rfl, fun hg0 => ?_⟩
       intro E1
       refine (V1.indexSr rfl rfl esz_39 rfl rfl (hh1 hg0) lt0 ?_)
       exact rfl
      refine VP.step (p := ?pv3090) rfl rfl rfl (⟨_, _, rfl, rfl, rfl⟩) ?hv3090 ?rest3090 hck4
      case hv3090 =>
       refine ⟨_, rfl, fun hg0 => ?_⟩
       intro E1
       refine (V1.loadMapAll (k := 0) (f := (encCarton ρ0)) rfl rfl tyk_67 rfl rfl (by simpa using natLt (hh1 hg0).1 (hh1 hg0).2) rfl lt0 ?_)
       exact rfl
      refine VP.step (p := ?pv3091) rfl rfl rfl (⟨_, _, rfl, rfl, ⟨_, _, rfl, rfl, ⟨_, _, rfl, rfl, rfl⟩⟩⟩) ?hv3091 ?rest3091 hck4
      case hv3091 =>
       refine ⟨_, rfl, fun hg0 => ?_⟩
       intro E1
       refine (V1.callG (τ := 0) (Bw := []) rfl lt0 (run_callFn rfl rfl rfl hok3 rfl) (.refl _) (Lends.same _) (fun _ h => by cases h) ((hf3 _ _  _) (cond_t hg0 hh2)) (.inl rfl) (.inl rfl) ?_)
       rintro _ _ ⟨rfl, rfl⟩
       exact rfl
      refine VP.step (p := ?pv3092) rfl rfl rfl (⟨_, _, rfl, rfl, rfl⟩) ?hv3092 ?rest3092 hck4
      case hv3092 =>
       refine ⟨_, rfl, fun hg0 => ?_⟩
       intro E1
       refine (V1.int rfl rfl rfl rfl rfl lt0 ?_)
       exact rfl
      refine VP.pickAnd rfl rfl rfl rfl rfl rfl (trivial) ?_ hck4
      refine VP.fin rfl (⟨_, _, rfl, rfl, ⟨_, _, rfl, rfl, ⟨_, _, rfl, rfl, ⟨_, _, rfl, rfl, ⟨_, _, rfl, rfl, ⟨_, _, rfl, rfl, ⟨_, _, rfl, rfl, rfl⟩⟩⟩⟩⟩⟩⟩) ?_
      refine VO.nil ?_
      refine V.cond rfl (fun hc1 => ?_) (fun hc1 => ?_)
      ·
       replace hm2 := cond_t hc1 hm2
       refine V.skip ?_
       refine V.seq ?_
       refine V.block ?_
       replace hm2 := asrt_some hm2; rcases hm2 with ⟨hh3, hm2⟩
       replace hm2 := asrt_some hm2; rcases hm2 with ⟨hh4, hm2⟩
       replace hm2 := asrt_some hm2; rcases hm2 with ⟨hh5, hm2⟩
       replace hm2 := asrt_some hm2; rcases hm2 with ⟨hh6, hm2⟩
       replace hm2 := bindO hm2; rcases hm2 with ⟨j0, hm3, hm2⟩
       refine V.cutT (D := (List Carton) × (Unit)) (fun ⟨data4, _⟩ => ⟨53, [(0, .sref ob0 5 0 (List.length data4)), (1, .int .i64 a), (2, .int .i64 b_), (3, .fn f3 cs3), (8, .int .i64 i), (9, .int .i64 j_)], [(ob0, ⟨5, List.map (encCarton ρ0) data4⟩)]⟩) (fun ⟨data4, _⟩ => (data4 = j0)) ?_ ?_
       ·
        refine V.regionS [] 53 16 [⟨[(0, none)], false⟩, ⟨[(9, none)], false⟩, ⟨[(0, none)], false⟩, ⟨[(9, none)], false⟩, ⟨[(40, some 3)], false⟩, ⟨[(0, none)], false⟩, ⟨[(9, none)], false⟩, ⟨[(43, some 6)], false⟩, ⟨[(42, some 5), (44, some 7)], false⟩, ⟨[(45, some 8)], true⟩, ⟨[(0, none)], false⟩, ⟨[(9, none)], false⟩, ⟨[(47, some 10), (48, some 11)], false⟩, ⟨[(49, some 12)], true⟩, ⟨[(37, some 0), (38, some 1)], false⟩, ⟨[(46, some 9), (51, some 14)], true⟩] [(0, none), (1, none), (2, none), (3, none), (8, none), (9, none), (39, some 2), (41, some 4), (50, some 13)] 3 (⟨_, rfl, ⟨_, rfl, ⟨_, rfl, ⟨_, rfl, ⟨_, rfl, ⟨_, rfl, ⟨_, rfl, ⟨_, rfl, ⟨_, rfl, ⟨_, rfl, ⟨_, rfl, ⟨_, rfl, ⟨_, rfl, ⟨_, rfl, ⟨_, rfl, ⟨_, rfl, ⟨rfl, rfl⟩⟩⟩⟩⟩⟩⟩⟩⟩⟩⟩⟩⟩⟩⟩⟩⟩) mixed_orders rfl (by decide +kernel) ?_
        refine WalkP.step (p := ?pv3107) 0 rfl rfl rfl rfl rfl (⟨_, _, rfl, rfl, rfl⟩) ?hv3107 ?rest3107
        case hv3107 =>
         intro E1 H1 hI1
         refine (V1.move rfl rfl rfl lt0 ?_)
         exact rfl
        refine WalkP.step (p := ?pv3108) 1 rfl rfl rfl rfl rfl (⟨_, _, rfl, rfl, rfl⟩) ?hv3108 ?rest3108
        case hv3108 =>
         intro E1 H1 hI1
         refine (V1.move rfl rfl rfl lt0 ?_)
         exact rfl
        refine WalkP.step (p := ?pv3109) 2 rfl rfl rfl rfl rfl (⟨_, _, rfl, rfl, rfl⟩) ?hv3109 ?rest3109
        case hv3109 =>
         intro E1 H1 hI1
         refine (V1.move rfl rfl rfl lt0 ?_)
         exact rfl
        refine WalkP.step (p := ?pv3110) 3 rfl rfl rfl rfl rfl (⟨_, _, rfl, rfl, rfl⟩) ?hv3110 ?rest3110
        case hv3110 =>
         intro E1 H1 hI1
         refine (V1.move rfl rfl rfl lt0 ?_)
         exact rfl
        refine WalkP.step (p := ?pv3111) 4 rfl rfl rfl rfl rfl (⟨_, _, rfl, rfl, rfl⟩) ?hv3111 ?rest3111
        case hv3111 =>
         intro E1 H1 hI1
         refine (V1.int rfl rfl rfl rfl rfl lt0 ?_)
         exact rfl
        refine WalkP.step (p := ?pv3112) 5 rfl rfl rfl rfl rfl (⟨_, _, rfl, rfl, rfl⟩) ?hv3112 ?rest3112
        case hv3112 =>
         intro E1 H1 hI1
         refine (V1.move rfl rfl rfl lt0 ?_)
         exact rfl
        refine WalkP.step (p := ?pv3113) 6 rfl rfl rfl rfl rfl (⟨_, _, rfl, rfl, rfl⟩) ?hv3113 ?rest3113
        case hv3113 =>
         intro E1 H1 hI1
         refine (V1.move rfl rfl rfl lt0 ?_)
         exact rfl
        refine WalkP.step (p := ?pv3114) 7 rfl rfl rfl rfl rfl (⟨_, _, rfl, rfl, rfl⟩) ?hv3114 ?rest3114
        case hv3114 =>
         intro E1 H1 hI1
         refine (V1.int rfl rfl rfl rfl rfl lt0 ?_)
         exact rfl
        refine WalkP.step (p := ?pv3115) 8 rfl rfl rfl rfl rfl (⟨_, _, rfl, rfl, ⟨_, _, rfl, rfl, rfl⟩⟩) ?hv3115 ?rest3115
        case hv3115 =>
         intro E1 H1 hI1
         refine (V1.indexSr rfl rfl esz_39 rfl rfl hh3 lt0 ?_)
         exact rfl
        refine WalkP.step (p := ?pv3116) 10 rfl rfl rfl rfl rfl (⟨_, _, rfl, rfl, rfl⟩) ?hv3116 ?rest3116
        case hv3116 =>
         intro E1 H1 hI1
         refine (V1.move rfl rfl rfl lt0 ?_)
         exact rfl
        refine WalkP.step (p := ?pv3117) 11 rfl rfl rfl rfl rfl (⟨_, _, rfl, rfl, rfl⟩) ?hv3117 ?rest3117
        case hv3117 =>
         intro E1 H1 hI1
         refine (V1.move rfl rfl rfl lt0 ?_)
         exact rfl
        refine WalkP.step (p := ?pv3118) 12 rfl rfl rfl rfl rfl (⟨_, _, rfl, rfl, ⟨_, _, rfl, rfl, rfl⟩⟩) ?hv3118 ?rest3118
        case hv3118 =>
         intro E1 H1 hI1
         refine (V1.indexSr rfl rfl esz_39 rfl rfl hh4 lt0 ?_)
         exact rfl
        refine WalkP.nil ?_
        refine NodeS.branch [9, 13] inNil rfl rfl rfl ⟨?_, ?_, trivial⟩
        ·
         refine ⟨_, _, _, _, rfl, rfl, rfl, (⟨_, _, rfl, rfl, rfl⟩), fun E1 => ?_⟩
         refine (V1.loadMapAll (k := 0) (f := (encCarton ρ0)) rfl rfl tyk_67 rfl rfl (by simpa using natLt hh3.1 hh3.2) rfl lt0 ?_)
         refine ⟨_, _, rfl, ?_⟩
         refine WalkP.nil ?_
         refine NodeS.branch [13] inNil rfl rfl rfl ⟨?_, trivial⟩
         ·
          refine ⟨_, _, _, _, rfl, rfl, rfl, (⟨_, _, rfl, rfl, rfl⟩), fun E1 => ?_⟩
          refine (V1.loadMapAll (k := 0) (f := (encCarton ρ0)) rfl rfl tyk_67 rfl rfl (by simpa using natLt hh4.1 hh4.2) rfl lt0 ?_)
          refine ⟨_, _, rfl, ?_⟩
          refine WalkP.step (p := ?pv3119) 14 rfl rfl rfl rfl rfl (⟨_, _, rfl, rfl, ⟨_, _, rfl, rfl, rfl⟩⟩) ?hv3119 ?rest3119
          case hv3119 =>
           intro E1 H1 hI1
           refine (V1.indexSr rfl rfl esz_39 rfl rfl hh5 lt0 ?_)
           exact rfl
          refine WalkP.nil ?_
          refine NodeS.branch [15] inNil rfl rfl rfl ⟨?_, trivial⟩
          ·
           refine ⟨_, _, _, _, rfl, rfl, rfl, (⟨_, _, rfl, rfl, ⟨_, _, rfl, rfl, rfl⟩⟩), fun E1 => ?_⟩
           refine (V1.storeMap (k := 0) (f := (encCarton ρ0)) (x := (data3.getD (Int.toNat (IntKind.i64.wrap (j_ - (1 : Int)))) default)) rfl rfl tyk_67 rfl rfl (by simpa using natLt hh5.1 hh5.2) rfl rfl ?_)
           refine ⟨.undef, _, rfl, ?_⟩
           refine WalkP.nil ?_
           refine NodeS.fin inNil rfl rfl rfl (⟨_, _, rfl, rfl, ⟨_, _, rfl, rfl, ⟨_, _, rfl, rfl, ⟨_, _, rfl, rfl, ⟨_, _, rfl, rfl, ⟨_, _, rfl, rfl, ⟨_, _, rfl, rfl, ⟨_, _, rfl, rfl, ⟨_, _, rfl, rfl, rfl⟩⟩⟩⟩⟩⟩⟩⟩⟩) ?_
           refine VO.weakenK (Keeps.say 0 (y := .sref ob0 5 0 (List.length (data3.set (Int.toNat j_) (data3.getD (Int.toNat (IntKind.i64.wrap (j_ - (1 : Int)))) default)))) rfl (by simp [optS])) ?_
           refine VO.weakenK (Keeps.say 39 (y := .sref ob0 5 0 (List.length (data3.set (Int.toNat j_) (data3.getD (Int.toNat (IntKind.i64.wrap (j_ - (1 : Int)))) default)))) rfl (by simp [optS])) ?_
           refine VO.cons rfl (V1.indexSr rfl rfl esz_39 rfl rfl hh6 lt0 ?_)
           refine VO.cons rfl (V1.storeMap (k := 0) (f := (encCarton ρ0)) (x := (data3.getD (Int.toNat j_) default)) rfl rfl tyk_67 rfl rfl (by simpa using natLt hh6.1 hh6.2) rfl rfl ?_)
           refine VO.weakenK (Keeps.say 0 (y := .sref ob0 5 0 (List.length ((data3.set (Int.toNat j_) (data3.getD (Int.toNat (IntKind.i64.wrap (j_ - (1 : Int)))) default)).set (Int.toNat (IntKind.i64.wrap (j_ - (1 : Int)))) (data3.getD (Int.toNat j_) default)))) rfl (by simp [optS])) ?_
           refine VO.nil ?_
           exact ⟨(((data3.set (Int.toNat j_) (data3.getD (Int.toNat (IntKind.i64.wrap (j_ - (1 : Int)))) default)).set (Int.toNat (IntKind.i64.wrap (j_ - (1 : Int)))) (data3.getD (Int.toNat j_) default)), ()), Option.some.inj hm3, Keeps.mk (ks := [0]) rfl ⟨(someSref (by simp)), rfl, rfl, rfl, rfl, rfl, trivial⟩ (⟨_, _, rfl, rfl, rfl⟩) rfl⟩
        ·
         refine ⟨_, _, _, _, rfl, rfl, rfl, (⟨_, _, rfl, rfl, rfl⟩), fun E1 => ?_⟩
         refine (V1.loadMapAll (k := 0) (f := (encCarton ρ0)) rfl rfl tyk_67 rfl rfl (by simpa using natLt hh4.1 hh4.2) rfl lt0 ?_)
         refine ⟨_, _, rfl, ?_⟩
         refine WalkP.nil ?_
         refine NodeS.branch [9] inNil rfl rfl rfl ⟨?_, trivial⟩
         ·
          refine ⟨_, _, _, _, rfl, rfl, rfl, (⟨_, _, rfl, rfl, rfl⟩), fun E1 => ?_⟩
          refine (V1.loadMapAll (k := 0) (f := (encCarton ρ0)) rfl rfl tyk_67 rfl rfl (by simpa using natLt hh3.1 hh3.2) rfl lt0 ?_)
          refine ⟨_, _, rfl, ?_⟩
          refine WalkP.step (p := ?pv3120) 14 rfl rfl rfl rfl rfl (⟨_, _, rfl, rfl, ⟨_, _, rfl, rfl, rfl⟩⟩) ?hv3120 ?rest3120
          case hv3120 =>
           intro E1 H1 hI1
           refine (V1.indexSr rfl rfl esz_39 rfl rfl hh5 lt0 ?_)
           exact rfl
          refine WalkP.nil ?_
          refine NodeS.branch [15] inNil rfl rfl rfl ⟨?_, trivial⟩
          ·
           refine ⟨_, _, _, _, rfl, rfl, rfl, (⟨_, _, rfl, rfl, ⟨_, _, rfl, rfl, rfl⟩⟩), fun E1 => ?_⟩
           refine (V1.storeMap (k := 0) (f := (encCarton ρ0)) (x := (data3.getD (Int.toNat (IntKind.i64.wrap (j_ - (1 : Int)))) default)) rfl rfl tyk_67 rfl rfl (by simpa using natLt hh5.1 hh5.2) rfl rfl ?_)
           refine ⟨.undef, _, rfl, ?_⟩
           refine WalkP.nil ?_
           refine NodeS.fin inNil rfl rfl rfl (⟨_, _, rfl, rfl, ⟨_, _, rfl, rfl, ⟨_, _, rfl, rfl, ⟨_, _, rfl, rfl, ⟨_, _, rfl, rfl, ⟨_, _, rfl, rfl, ⟨_, _, rfl, rfl, ⟨_, _, rfl, rfl, ⟨_, _, rfl, rfl, rfl⟩⟩⟩⟩⟩⟩⟩⟩⟩) ?_
           refine VO.weakenK (Keeps.say 0 (y := .sref ob0 5 0 (List.length (data3.set (Int.toNat j_) (data3.getD (Int.toNat (IntKind.i64.wrap (j_ - (1 : Int)))) default)))) rfl (by simp [optS])) ?_
           refine VO.weakenK (Keeps.say 39 (y := .sref ob0 5 0 (List.length (data3.set (Int.toNat j_) (data3.getD (Int.toNat (IntKind.i64.wrap (j_ - (1 : Int)))) default)))) rfl (by simp [optS])) ?_
           refine VO.cons rfl (V1.indexSr rfl rfl esz_39 rfl rfl hh6 lt0 ?_)
           refine VO.cons rfl (V1.storeMap (k := 0) (f := (encCarton ρ0)) (x := (data3.getD (Int.toNat j_) default)) rfl rfl tyk_67 rfl rfl (by simpa using natLt hh6.1 hh6.2) rfl rfl ?_)
           refine VO.weakenK (Keeps.say 0 (y := .sref ob0 5 0 (List.length ((data3.set (Int.toNat j_) (data3.getD (Int.toNat (IntKind.i64.wrap (j_ - (1 : Int)))) default)).set (Int.toNat (IntKind.i64.wrap (j_ - (1 : Int)))) (data3.getD (Int.toNat j_) default)))) rfl (by simp [optS])) ?_
           refine VO.nil ?_
           exact ⟨(((data3.set (Int.toNat j_) (data3.getD (Int.toNat (IntKind.i64.wrap (j_ - (1 : Int)))) default)).set (Int.toNat (IntKind.i64.wrap (j_ - (1 : Int)))) (data3.getD (Int.toNat j_) default)), ()), Option.some.inj hm3, Keeps.mk (ks := [0]) rfl ⟨(someSref (by simp)), rfl, rfl, rfl, rfl, rfl, trivial⟩ (⟨_, _, rfl, rfl, rfl⟩) rfl⟩
       ·
        rintro ⟨data4, _⟩ rfl
        try dsimp only at hm2
        refine V.region ?_
        refine VO.cons rfl (V1.move rfl rfl rfl lt0 ?_)
        refine VO.cons rfl (V1.int rfl rfl rfl rfl rfl lt0 ?_)
        refine VO.cons rfl (V1.assign rfl rfl rfl lt0 ?_)
        refine VO.nil ?_
        exact ⟨(m1, (data4, (IntKind.i64.wrap (j_ - (1 : Int)))), ()), hl2 _ (Option.some.inj hm2).symm, Nat.lt_succ_self _, Keeps.mk (ks := [0]) rfl ⟨(someSref (by simp)), rfl, rfl, rfl, rfl, rfl, trivial⟩ (⟨_, _, rfl, rfl, rfl⟩) rfl⟩
      ·
       replace hm2 := cond_f hc1 hm2
       refine V.exit ?_
       obtain rfl := hr2 _ (Option.some.inj hm2).symm
       exact ⟨(data3, ()), rfl, Keeps.mk (ks := [0]) rfl ⟨(someSref (by simp)), rfl, rfl, rfl, rfl, trivial⟩ (⟨_, _, rfl, rfl, rfl⟩) rfl⟩
     ·
      rintro ⟨data2, _⟩ rfl
      try dsimp only at hm1
      refine V.region ?_
      refine VO.cons rfl (V1.move rfl rfl rfl lt0 ?_)
      refine VO.cons rfl (V1.int rfl rfl rfl rfl rfl lt0 ?_)
      refine VO.cons rfl (V1.assign rfl rfl rfl lt0 ?_)
      refine VO.nil ?_
      exact ⟨(m0, (data2, (IntKind.i64.wrap (i + (1 : Int)))), (some ob0)), ⟨hl1 _ (Option.some.inj hm1).symm, (fun e => by cases e)⟩, Nat.lt_succ_self _, Keeps.mk (ks := [0]) rfl ⟨rfl, rfl, rfl, rfl, rfl, trivial⟩ (⟨_, _, rfl, rfl, rfl⟩) rfl⟩
    ·
     replace hm1 := cond_f hc0 hm1
     refine V.exit ?_
     obtain rfl := hr1 _ (Option.some.inj hm1).symm
     exact ⟨(data1, ()), rfl, Keeps.trans (Keeps.freezeG 0 rn [(0, .vl rn 5 (List.map (encCarton ρ0) data1))] ([]) (f := (encCarton ρ0)) (l := data1) rfl (fun _ => rfl) ⟨⟨_, rfl, .here⟩, trivial⟩ rfl rfl iNil) (Keeps.mk (ks := []) rfl ⟨rfl, trivial⟩ (rfl) rfl)⟩
  ·
   rintro ⟨data0, _⟩ rfl
   try dsimp only at hm0
   obtain rfl := Option.some.inj hm0
   exact ⟨_, [], rfl, List.nil_sublist _, rfl, rfl⟩
 ·
  refine V.seq ?_
  refine V.region ?_
  refine VO.cons rfl (V1.move rfl rfl rfl lt0 ?_)
  refine VO.cons rfl (V1.int rfl rfl rfl rfl rfl lt0 ?_)
  refine VO.cons rfl (V1.assign rfl rfl rfl lt0 ?_)
  refine VO.nil ?_
  replace hm0 := bindO hm0; rcases hm0 with ⟨e0, he1, hm0⟩
  refine V.cutT (D := (List Carton) × (Unit)) (fun ⟨data0, _⟩ => ⟨53, [(0, .sref oq 5 0 (List.length data0))], [(oq, ⟨5, List.map (encCarton ρ0) data0⟩)]⟩) (fun ⟨data0, _⟩ => (data0 = e0)) ?_ ?_
  ·
   refine V.block ?_
   refine V.keep 53 [0, 8, 1, 2, 3] [0] (E0 := [(0, .sref oq 5 0 (List.length data)), (8, .int .i64 (IntKind.i64.wrap (a + (1 : Int)))), (1, .int .i64 a), (2, .int .i64 b_), (3, .fn f3 cs3)]) (H0 := [(oq, ⟨5, List.map (encCarton ρ0) data⟩)]) rfl (⟨_, _, rfl, rfl, ⟨_, _, rfl, rfl, ⟨_, _, rfl, rfl, ⟨_, _, rfl, rfl, ⟨_, _, rfl, rfl, rfl⟩⟩⟩⟩⟩) (⟨_, _, rfl, rfl, rfl⟩) rfl ?_
   refine V.loopE (D := Nat × (List Carton × Int) × (Unit)) (fun ⟨n0, ⟨data1, i⟩, _⟩ => [(0, .sref oq 5 0 (List.length data1)), (8, .int .i64 i)]) (fun ⟨n0, ⟨data1, i⟩, _⟩ => [(oq, ⟨5, List.map (encCarton ρ0) data1⟩)]) (fun ⟨n0, ⟨data1, i⟩, _⟩ => loopO (M.slices_insertionSortCmpFunc_impl_Carton_l0 a b_ fm) n0 (data1, i) = some e0) (fun ⟨n0, _, _⟩ => n0) (rounds, (data, (IntKind.i64.wrap (a + (1 : Int)))), ()) rfl he1 ?_
   rintro ⟨n0, ⟨data1, i⟩, _⟩ hP0
   obtain ⟨m0, y0, rfl, hm1, hl1, hr1⟩ := loop_head hP0
   unfold M.slices_insertionSortCmpFunc_impl_Carton_l0 at hm1; dsimp only at hm1
   show V _ _ _ ⟨53, [(0, .sref oq 5 0 (List.length data1)), (8, .int .i64 i), (1, .int .i64 a), (2, .int .i64 b_), (3, .fn f3 cs3)], [(oq, ⟨5, List.map (encCarton ρ0) data1⟩)]⟩
   refine V.seq ?_
   refine V.seq ?_
   refine V.region ?_
   refine VO.cons rfl (V1.move rfl rfl rfl lt0 ?_)
   refine VO.cons rfl (V1.move rfl rfl rfl lt0 ?_)
   refine VO.cons rfl (V1.int rfl rfl rfl rfl rfl lt0 ?_)
   refine VO.nil ?_
   refine V.cond rfl (fun hc0 => ?_) (fun hc0 => ?_)
   ·
    replace hm1 := cond_t hc0 hm1
    refine V.skip ?_
    refine V.seq ?_
    refine V.block ?_
    refine V.seq ?_
    refine V.region ?_
    refine VO.cons rfl (V1.move rfl rfl rfl lt0 ?_)
    refine VO.cons rfl (V1.assign rfl rfl rfl lt0 ?_)
    refine VO.nil ?_
    refine V.keep 53 [0, 1, 2, 3, 8, 9] [0] (E0 := [(0, .sref oq 5 0 (List.length data1)), (1, .int .i64 a), (2, .int .i64 b_), (3, .fn f3 cs3), (8, .int .i64 i), (9, .int .i64 i)]) (H0 := [(oq, ⟨5, List.map (encCarton ρ0) data1⟩)]) rfl (⟨_, _, rfl, rfl, ⟨_, _, rfl, rfl, ⟨_, _, rfl, rfl, ⟨_, _, rfl, rfl, ⟨_, _, rfl, rfl, ⟨_, _, rfl, rfl, rfl⟩⟩⟩⟩⟩⟩) (⟨_, _, rfl, rfl, rfl⟩) rfl ?_
    replace hm1 := bindO hm1; rcases hm1 with ⟨e1, he2, hm1⟩
    refine V.cutT (D := (List Carton) × (Unit)) (fun ⟨data2, _⟩ => ⟨53, [(0, .sref oq 5 0 (List.length data2)), (1, .int .i64 a), (2, .int .i64 b_), (3, .fn f3 cs3), (8, .int .i64 i)], [(oq, ⟨5, List.map (encCarton ρ0) data2⟩)]⟩) (fun ⟨data2, _⟩ => (data2 = e1)) ?_ ?_
    ·
     refine V.block ?_
     refine V.keep 53 [0, 9, 1, 2, 3, 8] [0] (E0 := [(0, .sref oq 5 0 (List.length data1)), (9, .int .i64 i), (1, .int .i64 a), (2, .int .i64 b_), (3, .fn f3 cs3), (8, .int .i64 i)]) (H0 := [(oq, ⟨5, List.map (encCarton ρ0) data1⟩)]) rfl (⟨_, _, rfl, rfl, ⟨_, _, rfl, rfl, ⟨_, _, rfl, rfl, ⟨_, _, rfl, rfl, ⟨_, _, rfl, rfl, ⟨_, _, rfl, rfl, rfl⟩⟩⟩⟩⟩⟩) (⟨_, _, rfl, rfl, rfl⟩) rfl ?_
     refine V.loopE (D := Nat × (List Carton × Int) × (Unit)) (fun ⟨n1, ⟨data3, j_⟩, _⟩ => [(0, .sref oq 5 0 (List.length data3)), (9, .int .i64 j_)]) (fun ⟨n1, ⟨data3, j_⟩, _⟩ => [(oq, ⟨5, List.map (encCarton ρ0) data3⟩)]) (fun ⟨n1, ⟨data3, j_⟩, _⟩ => loopO (M.slices_insertionSortCmpFunc_impl_Carton_l1 a fm) n1 (data3, j_) = some e1) (fun ⟨n1, _, _⟩ => n1) (rounds, (data1, i), ()) rfl he2 ?_
     rintro ⟨n1, ⟨data3, j_⟩, _⟩ hP1
     obtain ⟨m1, y1, rfl, hm2, hl2, hr2⟩ := loop_head hP1
     unfold M.slices_insertionSortCmpFunc_impl_Carton_l1 at hm2; dsimp only at hm2
     show V _ _ _ ⟨53, [(0, .sref oq 5 0 (List.length data3)), (9, .int .i64 j_), (1, .int .i64 a), (2, .int .i64 b_), (3, .fn f3 cs3), (8, .int .i64 i)], [(oq, ⟨5, List.map (encCarton ρ0) data3⟩)]⟩
     refine V.seq ?_
     refine V.seq ?_
     replace hm2 := asrt_some hm2; rcases hm2 with ⟨hh0, hm2⟩
     replace hm2 := asrt_some hm2; rcases hm2 with ⟨hh1, hm2⟩
     replace hm2 := bindO hm2; rcases hm2 with ⟨y2, hh2, hm2⟩
     refine V.regionM 53 17 [⟨[(9, none)], [], none⟩, ⟨[(1, none)], [], none⟩, ⟨[(18, some 1), (19, some 0)], [], none⟩, ⟨[(20, some 0)], [], none⟩, ⟨[(3, none)], [(0, true)], none⟩, ⟨[(0, none)], [(1, true)], none⟩, ⟨[(9, none)], [(2, true)], none⟩, ⟨[(23, some 1), (24, some 0)], [(3, true)], none⟩, ⟨[(25, some 0)], [(4, true)], none⟩, ⟨[(0, none)], [(5, true)], none⟩, ⟨[(9, none)], [(6, true)], none⟩, ⟨[(28, some 0)], [(7, true)], none⟩, ⟨[(27, some 2), (29, some 0)], [(8, true)], none⟩, ⟨[(30, some 0)], [(9, true)], none⟩, ⟨[(22, some 9), (26, some 5), (31, some 0)], [(10, true)], none⟩, ⟨[(32, some 0)], [(11, true)], none⟩, ⟨[], [], some (true, 21, 33, 12, 0)⟩] [(0, none), (1, none), (2, none), (3, none), (8, none), (9, none), (34, some 0)] (⟨_, rfl, ⟨_, rfl, ⟨_, rfl, ⟨_, rfl, ⟨_, rfl, ⟨_, rfl, ⟨_, rfl, ⟨_, rfl, ⟨_, rfl, ⟨_, rfl, ⟨_, rfl, ⟨_, rfl, ⟨_, rfl, ⟨_, rfl, ⟨_, rfl, ⟨_, rfl, ⟨_, rfl, ⟨rfl, rfl⟩⟩⟩⟩⟩⟩⟩⟩⟩⟩⟩⟩⟩⟩⟩⟩⟩⟩) mixed_orders rfl (by decide +kernel) (fun hck4 => ?_)
     refine VP.step (p := ?pv3781) rfl rfl rfl (⟨_, _, rfl, rfl, rfl⟩) ?hv3781 ?rest3781 hck4
     case hv3781 =>
      intro E1
      refine (V1.move rfl rfl rfl lt0 ?_)
      exact rfl
     refine VP.step (p := ?pv3782) rfl rfl rfl (⟨_, _, rfl, rfl, rfl⟩) ?hv3782 ?rest3782 hck4
     case hv3782 =>
      intro E1
      refine (V1.move rfl rfl rfl lt0 ?_)
      exact rfl
     refine VP.step (p := ?pv3783) rfl rfl rfl (⟨_, _, rfl, rfl, ⟨_, _, rfl, rfl, rfl⟩⟩) ?hv3783 ?rest3783 hck4
     case hv3783 =>
      intro E1
      refine (V1.int rfl rfl rfl rfl rfl lt0 ?_)
      exact rfl
     refine VP.step (p := ?pv3784) rfl rfl rfl (⟨_, _, rfl, rfl, rfl⟩) ?hv3784 ?rest3784 hck4
     case hv3784 =>
      intro E1
      refine (V1.move rfl rfl rfl lt0 ?_)
      exact rfl
     refine VP.step (p := ?pv3785) rfl rfl rfl (⟨_, _, rfl, rfl, rfl⟩) ?hv3785 ?rest3785 hck4
     case hv3785 =>
      refine ⟨_, rfl, fun hg0 => ?_⟩
      intro E1
      refine (V1.move rfl rfl rfl lt0 ?_)
      exact rfl
     refine VP.step (p := ?pv3786) rfl rfl rfl (⟨_, _, rfl, rfl, rfl⟩) ?hv3786 ?rest3786 hck4
     case hv3786 =>
      refine ⟨_, rfl, fun hg0 => ?_⟩
      intro E1
      refine (V1.move rfl rfl rfl lt0 ?_)
      exact rfl
     refine VP.step (p := ?pv3787) rfl rfl rfl (⟨_, _, rfl, rfl, rfl⟩) ?hv3787 ?rest3787 hck4
     case hv3787 =>
      refine ⟨_, rfl, fun hg0 => ?_⟩
      intro E1
      refine (V1.move rfl rfl rfl lt0 ?_)
      exact rfl
     refine VP.step (p := ?pv3788) rfl rfl rfl (⟨_, _, rfl, rfl, ⟨_, _, rfl, rfl, rfl⟩⟩) ?hv3788 ?rest3788 hck4
     case hv3788 =>
      refine ⟨_, rfl, fun hg0 => ?_⟩
      intro E1
      refine (V1.indexSr rfl rfl esz_39 rfl rfl (hh0 hg0) lt0 ?_)
      exact rfl
     refine VP.step (p := ?pv3789) rfl rfl rfl (⟨_, _, rfl, rfl, rfl⟩) ?hv3789 ?rest3789 hck4
     case hv3789 =>
      refine ⟨_, rfl, fun hg0 => ?_⟩
      intro E1
      refine (V1.loadMapAll (k := 0) (f := (encCarton ρ0)) rfl rfl tyk_67 rfl rfl (by simpa using natLt (hh0 hg0).1 (hh0 hg0).2) rfl lt0 ?_)
      exact rfl
     refine VP.step (p := ?pv3790) rfl rfl rfl (⟨_, _, rfl, rfl, rfl⟩) ?hv3790 ?rest3790 hck4
     case hv3790 =>
      refine ⟨_, rfl, fun hg0 => ?_⟩
      intro E1
      refine (V1.move rfl rfl rfl lt0 ?_)
      exact rfl
     refine VP.step (p := ?pv3791) rfl rfl rfl (⟨_, _, rfl, rfl, rfl⟩) ?hv3791 ?rest3791 hck4
     case hv3791 =>
      refine ⟨_, rfl, fun hg0 => ?_⟩
      intro E1
      refine (V1.move rfl rfl rfl lt0 ?_)
      exact rfl
     refine VP.step (p := ?pv3792) rfl rfl rfl (⟨_, _, rfl, rfl, rfl⟩) ?hv3792 ?rest3792 hck4
     case hv3792 =>
      refine ⟨_, rfl, fun hg0 => ?_⟩
      intro E1
      refine (V1.int rfl rfl rfl rfl rfl lt0 ?_)
      exact rfl
     refine VP.step (p := ?pv3793) rfl rfl rfl (⟨_, _, rfl, rfl, ⟨_, _, rfl, rfl, rfl⟩⟩) ?hv3793 ?rest3793 hck4
     case hv3793 =>
      refine ⟨_, rfl, fun hg0 => ?_⟩
      intro E1
      refine (V1.indexSr rfl rfl esz_39 rfl rfl (hh1 hg0) lt0 ?_)
      exact rfl
     refine VP.step (p := ?pv3794) rfl rfl rfl (⟨_, _, rfl, rfl, rfl⟩) ?hv3794 ?rest3794 hck4
     case hv3794 =>
      refine ⟨_, rfl, fun hg0 => ?_⟩
      intro E1
      refine (V1.loadMapAll (k := 0) (f := (encCarton ρ0)) rfl rfl tyk_67 rfl rfl (by simpa using natLt (hh1 hg0).1 (hh1 hg0).2) rfl lt0 ?_)
      exact rfl
     refine VP.step (p := ?pv3795) rfl rfl rfl (⟨_, _, rfl, rfl, ⟨_, _, rfl, rfl, ⟨_, _, rfl, rfl, rfl⟩⟩⟩) ?hv3795 ?rest3795 hck4
     case hv3795 =>
      refine ⟨_, rfl, fun hg0 => ?_⟩
      intro E1
      refine (V1.callG (τ := 0) (Bw := []) rfl lt0 (run_callFn rfl rfl rfl hok3 rfl) (.refl _) (Lends.same _) (fun _ h => by cases h) ((hf3 _ _  _) (cond_t hg0 hh2)) (.inl rfl) (.inl rfl) ?_)
      rintro _ _ ⟨rfl, rfl⟩
      exact rfl
     refine VP.step (p := ?pv3796) rfl rfl rfl (⟨_, _, rfl, rfl, rfl⟩) ?hv3796 ?rest3796 hck4
     case hv3796 =>
      refine ⟨_, rfl, fun hg0 => ?_⟩
      intro E1
      refine (V1.int rfl rfl rfl rfl rfl lt0 ?_)
      exact rfl
     refine VP.pickAnd rfl rfl rfl rfl rfl rfl (trivial) ?_ hck4
     refine VP.fin rfl (⟨_, _, rfl, rfl, ⟨_, _, rfl, rfl, ⟨_, _, rfl, rfl, ⟨_, _, rfl, rfl, ⟨_, _, rfl, rfl, ⟨_, _, rfl, rfl, ⟨_, _, rfl, rfl, rfl⟩⟩⟩⟩⟩⟩⟩) ?_
     refine VO.nil ?_
     refine V.cond rfl (fun hc1 => ?_) (fun hc1 => ?_)
     ·
      replace hm2 := cond_t hc1 hm2
      refine V.skip ?_
      refine V.seq ?_
      refine V.block ?_
      replace hm2 := asrt_some hm2; rcases hm2 with ⟨hh3, hm2⟩
      replace hm2 := asrt_some hm2; rcases hm2 with ⟨hh4, hm2⟩
      replace hm2 := asrt_some hm2; rcases hm2 with ⟨hh5, hm2⟩
      replace hm2 := asrt_some hm2; rcases hm2 with ⟨hh6, hm2⟩
      replace hm2 := bindO hm2; rcases hm2 with ⟨j0, hm3, hm2⟩
      refine V.cutT (D := (List Carton) × (Unit)) (fun ⟨data4, _⟩ => ⟨53, [(0, .sref oq 5 0 (List.length data4)), (1, .int .i64 a), (2, .int .i64 b_), (3, .fn f3 cs3), (8, .int .i64 i), (9, .int .i64 j_)], [(oq, ⟨5, List.map (encCarton ρ0) data4⟩)]⟩) (fun ⟨data4, _⟩ => (data4 = j0)) ?_ ?_
      ·
       refine V.regionS [] 53 16 [⟨[(0, none)], false⟩, ⟨[(9, none)], false⟩, ⟨[(0, none)], false⟩, ⟨[(9, none)], false⟩, ⟨[(40, some 3)], false⟩, ⟨[(0, none)], false⟩, ⟨[(9, none)], false⟩, ⟨[(43, some 6)], false⟩, ⟨[(42, some 5), (44, some 7)], false⟩, ⟨[(45, some 8)], true⟩, ⟨[(0, none)], false⟩, ⟨[(9, none)], false⟩, ⟨[(47, some 10), (48, some 11)], false⟩, ⟨[(49, some 12)], true⟩, ⟨[(37, some 0), (38, some 1)], false⟩, ⟨[(46, some 9), (51, some 14)], true⟩] [(0, none), (1, none), (2, none), (3, none), (8, none), (9, none), (39, some 2), (41, some 4), (50, some 13)] 3 (⟨_, rfl, ⟨_, rfl, ⟨_, rfl, ⟨_, rfl, ⟨_, rfl, ⟨_, rfl, ⟨_, rfl, ⟨_, rfl, ⟨_, rfl, ⟨_, rfl, ⟨_, rfl, ⟨_, rfl, ⟨_, rfl, ⟨_, rfl, ⟨_, rfl, ⟨_, rfl, ⟨rfl, rfl⟩⟩⟩⟩⟩⟩⟩⟩⟩⟩⟩⟩⟩⟩⟩⟩⟩) mixed_orders rfl (by decide +kernel) ?_
       refine WalkP.step (p := ?pv3811) 0 rfl rfl rfl rfl rfl (⟨_, _, rfl, rfl, rfl⟩) ?hv3811 ?rest3811
       case hv3811 =>
        intro E1 H1 hI1
        refine (V1.move rfl rfl rfl lt0 ?_)
        exact rfl
       refine WalkP.step (p := ?pv3812) 1 rfl rfl rfl rfl rfl (⟨_, _, rfl, rfl, rfl⟩) ?hv3812 ?rest3812
       case hv3812 =>
        intro E1 H1 hI1
        refine (V1.move rfl rfl rfl lt0 ?_)
        exact rfl
       refine WalkP.step (p := ?pv3813) 2 rfl rfl rfl rfl rfl (⟨_, _, rfl, rfl, rfl⟩) ?hv3813 ?rest3813
       case hv3813 =>
        intro E1 H1 hI1
        refine (V1.move rfl rfl rfl lt0 ?_)
        exact rfl
       refine WalkP.step (p := ?pv3814) 3 rfl rfl rfl rfl rfl (⟨_, _, rfl, rfl, rfl⟩) ?hv3814 ?rest3814
       case hv3814 =>
        intro E1 H1 hI1
        refine (V1.move rfl rfl rfl lt0 ?_)
        exact rfl
       refine WalkP.step (p := ?pv3815) 4 rfl rfl rfl rfl rfl (⟨_, _, rfl, rfl, rfl⟩) ?hv3815 ?rest3815
       case hv3815 =>
        intro E1 H1 hI1
        refine (V1.int rfl rfl rfl rfl rfl lt0 ?_)
        exact rfl
       refine WalkP.step (p := ?pv3816) 5 rfl rfl rfl rfl rfl (⟨_, _, rfl, rfl, rfl⟩) ?hv3816 ?rest3816
       case hv3816 =>
        intro E1 H1 hI1
        refine (V1.move rfl rfl rfl lt0 ?_)
        exact rfl
       refine WalkP.step (p := ?pv3817) 6 rfl rfl rfl rfl rfl (⟨_, _, rfl, rfl, rfl⟩) ?hv3817 ?rest3817
       case hv3817 =>
        intro E1 H1 hI1
        refine (V1.move rfl rfl rfl lt0 ?_)
        exact rfl
       refine WalkP.step (p := ?pv3818) 7 rfl rfl rfl rfl rfl (⟨_, _, rfl, rfl, rfl⟩) ?hv3818 ?rest3818
       case hv3818 =>
        intro E1 H1 hI1
        refine (V1.int rfl rfl rfl rfl rfl lt0 ?_)
        exact rfl
       refine WalkP.step (p := ?pv3819) 8 rfl rfl rfl rfl rfl (⟨_, _, rfl, rfl, ⟨_, _, rfl, rfl, rfl⟩⟩) ?hv3819 ?rest3819
       case hv3819 =>
        intro E1 H1 hI1
        refine (V1.indexSr rfl rfl esz_39 rfl rfl hh3 lt0 ?_)
        exact rfl
       refine WalkP.step (p := ?pv3820) 10 rfl rfl rfl rfl rfl (⟨_, _, rfl, rfl, rfl⟩) ?hv3820 ?rest3820
       case hv3820 =>
        intro E1 H1 hI1
        refine (V1.move rfl rfl rfl lt0 ?_)
        exact rfl
       refine WalkP.step (p := ?pv3821) 11 rfl rfl rfl rfl rfl (⟨_, _, rfl, rfl, rfl⟩) ?hv3821 ?rest3821
       case hv3821 =>
        intro E1 H1 hI1
        refine (V1.move rfl rfl rfl lt0 ?_)
        exact rfl
       refine WalkP.step (p := ?pv3822) 12 rfl rfl rfl rfl rfl (⟨_, _, rfl, rfl, ⟨_, _, rfl, rfl, rfl⟩⟩) ?hv3822 ?rest3822
       case hv3822 =>
        intro E1 H1 hI1
        refine (V1.indexSr rfl rfl esz_39 rfl rfl hh4 lt0 ?_)
        exact rfl
       refine WalkP.nil ?_
       refine NodeS.branch [9, 13] inNil rfl rfl rfl ⟨?_, ?_, trivial⟩
       ·
        refine ⟨_, _, _, _, rfl, rfl, rfl, (⟨_, _, rfl, rfl, rfl⟩), fun E1 => ?_⟩
        refine (V1.loadMapAll (k := 0) (f := (encCarton ρ0)) rfl rfl tyk_67 rfl rfl (by simpa using natLt hh3.1 hh3.2) rfl lt0 ?_)
        refine ⟨_, _, rfl, ?_⟩
        refine WalkP.nil ?_
        refine NodeS.branch [13] inNil rfl rfl rfl ⟨?_, trivial⟩
        ·
         refine ⟨_, _, _, _, rfl, rfl, rfl, (⟨_, _, rfl, rfl, rfl⟩), fun E1 => ?_⟩
         refine (V1.loadMapAll (k := 0) (f := (encCarton ρ0)) rfl rfl tyk_67 rfl rfl (by simpa using natLt hh4.1 hh4.2) rfl lt0 ?_)
         refine ⟨_, _, rfl, ?_⟩
         refine WalkP.step (p := ?pv3823) 14 rfl rfl rfl rfl rfl (⟨_, _, rfl, rfl, ⟨_, _, rfl, rfl, rfl⟩⟩) ?hv3823 ?rest3823
         case hv3823 =>
          intro E1 H1 hI1
          refine (V1.indexSr rfl rfl esz_39 rfl rfl hh5 lt0 ?_)
          exact rfl
         refine WalkP.nil ?_
         refine NodeS.branch [15] inNil rfl rfl rfl ⟨?_, trivial⟩
         ·
          refine ⟨_, _, _, _, rfl, rfl, rfl, (⟨_, _, rfl, rfl, ⟨_, _, rfl, rfl, rfl⟩⟩), fun E1 => ?_⟩
          refine (V1.storeMap (k := 0) (f := (encCarton ρ0)) (x := (data3.getD (Int.toNat (IntKind.i64.wrap (j_ - (1 : Int)))) default)) rfl rfl tyk_67 rfl rfl (by simpa using natLt hh5.1 hh5.2) rfl rfl ?_)
          refine ⟨.undef, _, rfl, ?_⟩
          refine WalkP.nil ?_
          refine NodeS.fin inNil rfl rfl rfl (⟨_, _, rfl, rfl, ⟨_, _, rfl, rfl, ⟨_, _, rfl, rfl, ⟨_, _, rfl, rfl, ⟨_, _, rfl, rfl, ⟨_, _, rfl, rfl, ⟨_, _, rfl, rfl, ⟨_, _, rfl, rfl, ⟨_, _, rfl, rfl, rfl⟩⟩⟩⟩⟩⟩⟩⟩⟩) ?_
          refine VO.weakenK (Keeps.say 0 (y := .sref oq 5 0 (List.length (data3.set (Int.toNat j_) (data3.getD (Int.toNat (IntKind.i64.wrap (j_ - (1 : Int)))) default)))) rfl (by simp [optS])) ?_
          refine VO.weakenK (Keeps.say 39 (y := .sref oq 5 0 (List.length (data3.set (Int.toNat j_) (data3.getD (Int.toNat (IntKind.i64.wrap (j_ - (1 : Int)))) default)))) rfl (by simp [optS])) ?_
          refine VO.cons rfl (V1.indexSr rfl rfl esz_39 rfl rfl hh6 lt0 ?_)
          refine VO.cons rfl (V1.storeMap (k := 0) (f := (encCarton ρ0)) (x := (data3.getD (Int.toNat j_) default)) rfl rfl tyk_67 rfl rfl (by simpa using natLt hh6.1 hh6.2) rfl rfl ?_)
          refine VO.weakenK (Keeps.say 0 (y := .sref oq 5 0 (List.length ((data3.set (Int.toNat j_) (data3.getD (Int.toNat (IntKind.i64.wrap (j_ - (1 : Int)))) default)).set (Int.toNat (IntKind.i64.wrap (j_ - (1 : Int)))) (data3.getD (Int.toNat j_) default)))) rfl (by simp [optS])) ?_
          refine VO.nil ?_
          exact ⟨(((data3.set (Int.toNat j_) (data3.getD (Int.toNat (IntKind.i64.wrap (j_ - (1 : Int)))) default)).set (Int.toNat (IntKind.i64.wrap (j_ - (1 : Int)))) (data3.getD (Int.toNat j_) default)), ()), Option.some.inj hm3, Keeps.mk (ks := [0]) rfl ⟨(someSref (by simp)), rfl, rfl, rfl, rfl, rfl, trivial⟩ (⟨_, _, rfl, rfl, rfl⟩) rfl⟩
       ·
        refine ⟨_, _, _, _, rfl, rfl, rfl, (⟨_, _, rfl, rfl, rfl⟩), fun E1 => ?_⟩
        refine (V1.loadMapAll (k := 0) (f := (encCarton ρ0)) rfl rfl tyk_67 rfl rfl (by simpa using natLt hh4.1 hh4.2) rfl lt0 ?_)
        refine ⟨_, _, rfl, ?_⟩
        refine WalkP.nil ?_
        refine NodeS.branch [9] inNil rfl rfl rfl ⟨?_, trivial⟩
        ·
         refine ⟨_, _, _, _, rfl, rfl, rfl, (⟨_, _, rfl, rfl, rfl⟩), fun E1 => ?_⟩
         refine (V1.loadMapAll (k := 0) (f := (encCarton ρ0)) rfl rfl tyk_67 rfl rfl (by simpa using natLt hh3.1 hh3.2) rfl lt0 ?_)
         refine ⟨_, _, rfl, ?_⟩
         refine WalkP.step (p := ?pv3824) 14 rfl rfl rfl rfl rfl (⟨_, _, rfl, rfl, ⟨_, _, rfl, rfl, rfl⟩⟩) ?hv3824 ?rest3824
         case hv3824 =>
          intro E1 H1 hI1
          refine (V1.indexSr rfl rfl esz_39 rfl rfl hh5 lt0 ?_)
          exact rfl
         refine WalkP.nil ?_
         refine NodeS.branch [15] inNil rfl rfl rfl ⟨?_, trivial⟩
         ·
          refine ⟨_, _, _, _, rfl, rfl, rfl, (⟨_, _, rfl, rfl, ⟨_, _, rfl, rfl, rfl⟩⟩), fun E1 => ?_⟩
          refine (V1.storeMap (k := 0) (f := (encCarton ρ0)) (x := (data3.getD (Int.toNat (IntKind.i64.wrap (j_ - (1 : Int)))) default)) rfl rfl tyk_67 rfl rfl (by simpa using natLt hh5.1 hh5.2) rfl rfl ?_)
          refine ⟨.undef, _, rfl, ?_⟩
          refine WalkP.nil ?_
          refine NodeS.fin inNil rfl rfl rfl (⟨_, _, rfl, rfl, ⟨_, _, rfl, rfl, ⟨_, _, rfl, rfl, ⟨_, _, rfl, rfl, ⟨_, _, rfl, rfl, ⟨_, _, rfl, rfl, ⟨_, _, rfl, rfl, ⟨_, _, rfl, rfl, ⟨_, _, rfl, rfl, rfl⟩⟩⟩⟩⟩⟩⟩⟩⟩) ?_
          refine VO.weakenK (Keeps.say 0 (y := .sref oq 5 0 (List.length (data3.set (Int.toNat j_) (data3.getD (Int.toNat (IntKind.i64.wrap (j_ - (1 : Int)))) default)))) rfl (by simp [optS])) ?_
          refine VO.weakenK (Keeps.say 39 (y := .sref oq 5 0 (List.length (data3.set (Int.toNat j_) (data3.getD (Int.toNat (IntKind.i64.wrap (j_ - (1 : Int)))) default)))) rfl (by simp [optS])) ?_
          refine VO.cons rfl (V1.indexSr rfl rfl esz_39 rfl rfl hh6 lt0 ?_)
          refine VO.cons rfl (V1.storeMap (k := 0) (f := (encCarton ρ0)) (x := (data3.getD (Int.toNat j_) default)) rfl rfl tyk_67 rfl rfl (by simpa using natLt hh6.1 hh6.2) rfl rfl ?_)
          refine VO.weakenK (Keeps.say 0 (y := .sref oq 5 0 (List.length ((data3.set (Int.toNat j_) (data3.getD (Int.toNat (IntKind.i64.wrap (j_ - (1 : Int)))) default)).set (Int.toNat (IntKind.i64.wrap (j_ - (1 : Int)))) (data3.getD (Int.toNat j_) default)))) rfl (by simp [optS])) ?_
          refine VO.nil ?_
          exact ⟨(((data3.set (Int.toNat j_) (data3.getD (Int.toNat (IntKind.i64.wrap (j_ - (1 : Int)))) default)).set (Int.toNat (IntKind.i64.wrap (j_ - (1 : Int)))) (data3.getD (Int.toNat j_) default)), ()), Option.some.inj hm3, Keeps.mk (ks := [0]) rfl ⟨(someSref (by simp)), rfl, rfl, rfl, rfl, rfl, trivial⟩ (⟨_, _, rfl, rfl, rfl⟩) rfl⟩
      ·
       rintro ⟨data4, _⟩ rfl
       try dsimp only at hm2
       refine V.region ?_
       refine VO.cons rfl (V1.move rfl rfl rfl lt0 ?_)
       refine VO.cons rfl (V1.int rfl rfl rfl rfl rfl lt0 ?_)
       refine VO.cons rfl (V1.assign rfl rfl rfl lt0 ?_)
       refine VO.nil ?_
       exact ⟨(m1, (data4, (IntKind.i64.wrap (j_ - (1 : Int)))), ()), hl2 _ (Option.some.inj hm2).symm, Nat.lt_succ_self _, Keeps.mk (ks := [0]) rfl ⟨(someSref (by simp)), rfl, rfl, rfl, rfl, rfl, trivial⟩ (⟨_, _, rfl, rfl, rfl⟩) rfl⟩
     ·
      replace hm2 := cond_f hc1 hm2
      refine V.exit ?_
      obtain rfl := hr2 _ (Option.some.inj hm2).symm
      exact ⟨(data3, ()), rfl, Keeps.mk (ks := [0]) rfl ⟨(someSref (by simp)), rfl, rfl, rfl, rfl, trivial⟩ (⟨_, _, rfl, rfl, rfl⟩) rfl⟩
    ·
     rintro ⟨data2, _⟩ rfl
     try dsimp only at hm1
     refine V.region ?_
     refine VO.cons rfl (V1.move rfl rfl rfl lt0 ?_)
     refine VO.cons rfl (V1.int rfl rfl rfl rfl rfl lt0 ?_)
     refine VO.cons rfl (V1.assign rfl rfl rfl lt0 ?_)
     refine VO.nil ?_
     exact ⟨(m0, (data2, (IntKind.i64.wrap (i + (1 : Int)))), ()), hl1 _ (Option.some.inj hm1).symm, Nat.lt_succ_self _, Keeps.mk (ks := [0]) rfl ⟨(someSref (by simp)), rfl, rfl, rfl, rfl, trivial⟩ (⟨_, _, rfl, rfl, rfl⟩) rfl⟩
   ·
    replace hm1 := cond_f hc0 hm1
    refine V.exit ?_
    obtain rfl := hr1 _ (Option.some.inj hm1).symm
    exact ⟨(data1, ()), rfl, Keeps.mk (ks := [0]) rfl ⟨(someSref (by simp)), trivial⟩ (⟨_, _, rfl, rfl, rfl⟩) rfl⟩
  ·
   rintro ⟨data0, _⟩ rfl
   try dsimp only at hm0
   obtain rfl := Option.some.inj hm0
   exact ⟨_, _, rfl, (sub1 (k := 0) rfl), rfl, rfl⟩

theorem ok_slices_pdqsortCmpFunc_impl_Carton {ρ0 rn : Nat} {oq : Option Nat} {data : List Carton} {a : Int} {b_ : Int} {limit : Int} {f4 : Nat} {cs4 : List PV} {r : List Carton} {fm : Carton → Carton → Option Int} (h : M.slices_pdqsortCmpFunc_impl_Carton data a b_ limit fm = some r) (hoq : oq = none → data = []) (hok4 : callOK Try.prog f4 = true) (hf4 : ∀ x0 x1 r, fm x0 x1 = some r → Does Try.prog f4 (encCarton ρ0 x0 :: encCarton ρ0 x1 :: cs4) [] rn (fun x H => x = .int .i64 r ∧ H = [])) : Does Try.prog 111 [optS 5 oq (List.length data), .int .i64 a, .int .i64 b_, .int .i64 limit, .fn f4 cs4] (optH 5 oq (List.map (encCarton ρ0) data)) rn (fun x H => x = .tup [] ∧ H = optH 5 oq (List.map (encCarton ρ0) r)) := by
 have hm0 := h; clear h; unfold M.slices_pdqsortCmpFunc_impl_Carton at hm0
 try dsimp only at hm0
 refine Does.intro (N := 148) Try.func111 rfl rfl rfl rfl ?_
 intro w0 S0
 rcases oq with _ | oq
 ·
  refine V.seq ?_
  refine V.region ?_
  refine VO.cons rfl (V1.assign rfl rfl rfl lt0 ?_)
  refine VO.nil ?_
  refine V.seq ?_
  refine V.region ?_
  refine VO.cons rfl (V1.assign rfl rfl rfl lt0 ?_)
  refine VO.nil ?_
  replace hm0 := bindO hm0; rcases hm0 with ⟨e0, he1, hm0⟩
  refine V.block ?_
  refine V.keep 148 [1, 2, 3, 10, 11, 0, 4] [] (E0 := [(1, .int .i64 a), (2, .int .i64 b_), (3, .int .i64 limit), (10, .bool true), (11, .bool true), (0, .nils), (4, .fn f4 cs4)]) (H0 := []) rfl (⟨_, _, rfl, rfl, ⟨_, _, rfl, rfl, ⟨_, _, rfl, rfl, ⟨_, _, rfl, rfl, ⟨_, _, rfl, rfl, ⟨_, _, rfl, rfl, ⟨_, _, rfl, rfl, rfl⟩⟩⟩⟩⟩⟩⟩) (rfl) rfl ?_
  refine V.loopE (D := Nat × (Int × Int × Int × Bool × Bool) × (Unit)) (fun ⟨n0, ⟨a0, b_0, limit0, wasBalanced, wasPartitioned⟩, _⟩ => [(1, .int .i64 a0), (2, .int .i64 b_0), (3, .int .i64 limit0), (10, .bool wasBalanced), (11, .bool wasPartitioned)]) (fun ⟨n0, ⟨a0, b_0, limit0, wasBalanced, wasPartitioned⟩, _⟩ => []) (fun ⟨n0, ⟨a0, b_0, limit0, wasBalanced, wasPartitioned⟩, _⟩ => loopO (M.slices_pdqsortCmpFunc_impl_Carton_l0 data fm) n0 (a0, b_0, limit0, wasBalanced, wasPartitioned) = some e0) (fun ⟨n0, _, _⟩ => n0) (rounds, (a, b_, limit, true, true), ()) rfl he1 ?_
  rintro ⟨n0, ⟨a0, b_0, limit0, wasBalanced, wasPartitioned⟩, _⟩ hP0
  obtain ⟨m0, y0, rfl, hm1, hl1, hr1⟩ := loop_head hP0
  unfold M.slices_pdqsortCmpFunc_impl_Carton_l0 at hm1; dsimp only at hm1
  show V _ _ _ ⟨148, [(1, .int .i64 a0), (2, .int .i64 b_0), (3, .int .i64 limit0), (10, .bool wasBalanced), (11, .bool wasPartitioned), (0, .nils), (4, .fn f4 cs4)], []⟩
  refine V.block ?_
  refine V.seq ?_
  refine V.region ?_
  refine VO.cons rfl (V1.move rfl rfl rfl lt0 ?_)
  refine VO.cons rfl (V1.move rfl rfl rfl lt0 ?_)
  refine VO.cons rfl (V1.int rfl rfl rfl rfl rfl lt0 ?_)
  refine VO.cons rfl (V1.assign rfl rfl rfl lt0 ?_)
  refine VO.nil ?_
  refine V.seq ?_
  refine V.seq ?_
  refine V.region ?_
  refine VO.cons rfl (V1.move rfl rfl rfl lt0 ?_)
  refine VO.cons rfl (V1.int rfl rfl rfl rfl rfl lt0 ?_)
  refine VO.nil ?_
  refine V.keep 148 [0, 1, 2, 3, 4, 10, 11, 12, 25] [] (E0 := [(0, .nils), (1, .int .i64 a0), (2, .int .i64 b_0), (3, .int .i64 limit0), (4, .fn f4 cs4), (10, .bool wasBalanced), (11, .bool wasPartitioned), (12, .int .i64 (IntKind.i64.wrap (b_0 - a0))), (25, .bool (decide ((IntKind.i64.wrap (b_0 - a0)) ≤ (12 : Int))))]) (H0 := []) rfl (⟨_, _, rfl, rfl, ⟨_, _, rfl, rfl, ⟨_, _, rfl, rfl, ⟨_, _, rfl, rfl, ⟨_, _, rfl, rfl, ⟨_, _, rfl, rfl, ⟨_, _, rfl, rfl, ⟨_, _, rfl, rfl, ⟨_, _, rfl, rfl, rfl⟩⟩⟩⟩⟩⟩⟩⟩⟩) (rfl) rfl ?_
  replace hm1 := asrt_some hm1; rcases hm1 with ⟨hh0, hm1⟩
  refine V.cond rfl (fun _ => ?_) (fun hc => by rw [hh0] at hc; cases hc)
  refine V.seq ?_
  replace hm1 := bindO hm1; rcases hm1 with ⟨y1, hh1, hm1⟩
  replace hm1 := asrt_some hm1; rcases hm1 with ⟨hh2, hm1⟩
  refine V.region ?_
  refine VO.cons rfl (V1.move rfl rfl rfl lt0 ?_)
  refine VO.cons rfl (V1.move rfl rfl rfl lt0 ?_)
  refine VO.cons rfl (V1.move rfl rfl rfl lt0 ?_)
  refine VO.cons rfl (V1.move rfl rfl rfl lt0 ?_)
  refine VO.cons rfl (V1.call rfl rfl rfl cok_129 rfl (ok_slices_insertionSortCmpFunc_impl_Carton hh1 (oq := none) (data := data) (fun _ => (hoq rfl)) (ρ0 := ρ0) (fm := fm) hok4 hf4) rfl lt0 ?_)
  rintro _ _ ⟨rfl, rfl⟩
  refine VO.nil ?_
  refine V.keep 148 [] [] (E0 := []) (H0 := []) rfl (rfl) (rfl) rfl ?_
  refine V.ret ?_
  obtain rfl := hr1 _ (Option.some.inj hm1).symm
  change some _ = some _ at hm0
  obtain rfl := Option.some.inj hm0
  exact ⟨_, _, rfl, List.Sublist.refl _, rfl, rfl⟩
 ·
  refine V.seq ?_
  refine V.region ?_
  refine VO.cons rfl (V1.assign rfl rfl rfl lt0 ?_)
  refine VO.nil ?_
  refine V.seq ?_
  refine V.region ?_
  refine VO.cons rfl (V1.assign rfl rfl rfl lt0 ?_)
  refine VO.nil ?_
  replace hm0 := bindO hm0; rcases hm0 with ⟨e0, he1, hm0⟩
  refine V.block ?_
  refine V.keep 148 [1, 2, 3, 10, 11, 0, 4] [0] (E0 := [(1, .int .i64 a), (2, .int .i64 b_), (3, .int .i64 limit), (10, .bool true), (11, .bool true), (0, .sref oq 5 0 (List.length data)), (4, .fn f4 cs4)]) (H0 := [(oq, ⟨5, List.map (encCarton ρ0) data⟩)]) rfl (⟨_, _, rfl, rfl, ⟨_, _, rfl, rfl, ⟨_, _, rfl, rfl, ⟨_, _, rfl, rfl, ⟨_, _, rfl, rfl, ⟨_, _, rfl, rfl, ⟨_, _, rfl, rfl, rfl⟩⟩⟩⟩⟩⟩⟩) (⟨_, _, rfl, rfl, rfl⟩) rfl ?_
  refine V.loopE (D := Nat × (Int × Int × Int × Bool × Bool) × (Unit)) (fun ⟨n0, ⟨a0, b_0, limit0, wasBalanced, wasPartitioned⟩, _⟩ => [(1, .int .i64 a0), (2, .int .i64 b_0), (3, .int .i64 limit0), (10, .bool wasBalanced), (11, .bool wasPartitioned)]) (fun ⟨n0, ⟨a0, b_0, limit0, wasBalanced, wasPartitioned⟩, _⟩ => []) (fun ⟨n0, ⟨a0, b_0, limit0, wasBalanced, wasPartitioned⟩, _⟩ => loopO (M.slices_pdqsortCmpFunc_impl_Carton_l0 data fm) n0 (a0, b_0, limit0, wasBalanced, wasPartitioned) = some e0) (fun ⟨n0, _, _⟩ => n0) (rounds, (a, b_, limit, true, true), ()) rfl he1 ?_
  rintro ⟨n0, ⟨a0, b_0, limit0, wasBalanced, wasPartitioned⟩, _⟩ hP0
  obtain ⟨m0, y0, rfl, hm1, hl1, hr1⟩ := loop_head hP0
  unfold M.slices_pdqsortCmpFunc_impl_Carton_l0 at hm1; dsimp only at hm1
  show V _ _ _ ⟨148, [(1, .int .i64 a0), (2, .int .i64 b_0), (3, .int .i64 limit0), (10, .bool wasBalanced), (11, .bool wasPartitioned), (0, .sref oq 5 0 (List.length data)), (4, .fn f4 cs4)], [(oq, ⟨5, List.map (encCarton ρ0) data⟩)]⟩
  refine V.block ?_
  refine V.seq ?_
  refine V.region ?_
  refine VO.cons rfl (V1.move rfl rfl rfl lt0 ?_)
  refine VO.cons rfl (V1.move rfl rfl rfl lt0 ?_)
  refine VO.cons rfl (V1.int rfl rfl rfl rfl rfl lt0 ?_)
  refine VO.cons rfl (V1.assign rfl rfl rfl lt0 ?_)
  refine VO.nil ?_
  refine V.seq ?_
  refine V.seq ?_
  refine V.region ?_
  refine VO.cons rfl (V1.move rfl rfl rfl lt0 ?_)
  refine VO.cons rfl (V1.int rfl rfl rfl rfl rfl lt0 ?_)
  refine VO.nil ?_
  refine V.keep 148 [0, 1, 2, 3, 4, 10, 11, 12, 25] [0] (E0 := [(0, .sref oq 5 0 (List.length data)), (1, .int .i64 a0), (2, .int .i64 b_0), (3, .int .i64 limit0), (4, .fn f4 cs4), (10, .bool wasBalanced), (11, .bool wasPartitioned), (12, .int .i64 (IntKind.i64.wrap (b_0 - a0))), (25, .bool (decide ((IntKind.i64.wrap (b_0 - a0)) ≤ (12 : Int))))]) (H0 := [(oq, ⟨5, List.map (encCarton ρ0) data⟩)]) rfl (⟨_, _, rfl, rfl, ⟨_, _, rfl, rfl, ⟨_, _, rfl, rfl, ⟨_, _, rfl, rfl, ⟨_, _, rfl, rfl, ⟨_, _, rfl, rfl, ⟨_, _, rfl, rfl, ⟨_, _, rfl, rfl, ⟨_, _, rfl, rfl, rfl⟩⟩⟩⟩⟩⟩⟩⟩⟩) (⟨_, _, rfl, rfl, rfl⟩) rfl ?_
  replace hm1 := asrt_some hm1; rcases hm1 with ⟨hh0, hm1⟩
  refine V.cond rfl (fun _ => ?_) (fun hc => by rw [hh0] at hc; cases hc)
  refine V.seq ?_
  replace hm1 := bindO hm1; rcases hm1 with ⟨y1, hh1, hm1⟩
  replace hm1 := asrt_some hm1; rcases hm1 with ⟨hh2, hm1⟩
  refine V.region ?_
  refine VO.cons rfl (V1.move rfl rfl rfl lt0 ?_)
  refine VO.cons rfl (V1.move rfl rfl rfl lt0 ?_)
  refine VO.cons rfl (V1.move rfl rfl rfl lt0 ?_)
  refine VO.cons rfl (V1.move rfl rfl rfl lt0 ?_)
  refine VO.cons rfl (V1.callM 0 (rn + 1) [] [.sref oq 5 0 (List.length data), .int .i64 a0, .int .i64 b_0, .fn f4 cs4] (p := (oq, ⟨5, List.map (encCarton ρ0) data⟩)) rfl rfl rfl cok_129 rfl rfl ⟨_, _, rfl, .same _, ⟨_, _, rfl, .same _, ⟨_, _, rfl, .same _, ⟨_, _, rfl, .same _, rfl⟩⟩⟩⟩ bwNil (ok_slices_insertionSortCmpFunc_impl_Carton hh1 (oq := some oq) (fun e => by cases e) (fm := fm) hok4 hf4) rfl (.inl rfl) lt0 ?_)
  rintro _ _ ⟨rfl, rfl⟩
  refine VO.weakenK (Keeps.say 0 (y := .sref oq 5 0 (List.length y1)) rfl (congrArg (PV.sref oq 5 0) hh2.symm)) ?_
  refine VO.nil ?_
  refine V.keep 148 [] [0] (E0 := []) (H0 := [(oq, ⟨5, List.map (encCarton ρ0) y1⟩)]) rfl (rfl) (⟨_, _, rfl, rfl, rfl⟩) rfl ?_
  refine V.ret ?_
  obtain rfl := hr1 _ (Option.some.inj hm1).symm
  change some _ = some _ at hm0
  obtain rfl := Option.some.inj hm0
  exact ⟨_, _, rfl, List.Sublist.refl _, rfl, rfl⟩

theorem ok_slices_SortFunc_impl_Carton_impl_Carton {ρ0 rn : Nat} {oq : Option Nat} {x : List Carton} {f1 : Nat} {cs1 : List PV} {r : List Carton} {fm : Carton → Carton → Option Int} (h : M.slices_SortFunc_impl_Carton_impl_Carton x fm = some r) (hoq : oq = none → x = []) (hok1 : callOK Try.prog f1 = true) (hf1 : ∀ x0 x1 r, fm x0 x1 = some r → Does Try.prog f1 (encCarton ρ0 x0 :: encCarton ρ0 x1 :: cs1) [] rn (fun x H => x = .int .i64 r ∧ H = [])) : Does Try.prog 75 [optS 5 oq (List.length x), .fn f1 cs1] (optH 5 oq (List.map (encCarton ρ0) x)) rn (fun x H => x = .tup [] ∧ H = optH 5 oq (List.map (encCarton ρ0) r)) := by
 have hm0 := h; clear h; unfold M.slices_SortFunc_impl_Carton_impl_Carton at hm0
 try dsimp only at hm0
 refine Does.intro (N := 14) Try.func75 rfl rfl rfl rfl ?_
 intro w0 S0
 rcases oq with _ | oq
 ·
  refine V.seq ?_
  refine V.region ?_
  refine VO.cons rfl (V1.move rfl rfl rfl lt0 ?_)
  refine VO.cons rfl (V1.lenNilsE (l := x) (hoq rfl) rfl rfl rfl rfl rfl rfl isl_39 lt0 ?_)
  refine VO.cons rfl (V1.assign rfl rfl rfl lt0 ?_)
  refine VO.nil ?_
  replace hm0 := bindO hm0; rcases hm0 with ⟨y0, hh0, hm0⟩
  replace hm0 := bindO hm0; rcases hm0 with ⟨y1, hh1, hm0⟩
  replace hm0 := asrt_some hm0; rcases hm0 with ⟨hh2, hm0⟩
  refine V.region ?_
  refine VO.cons rfl (V1.move rfl rfl rfl lt0 ?_)
  refine VO.cons rfl (V1.move rfl rfl rfl lt0 ?_)
  refine VO.cons rfl (V1.move rfl rfl rfl lt0 ?_)
  refine VO.cons rfl (V1.conv rfl rfl und_3 und_113 rfl lt0 ?_)
  refine VO.cons rfl (V1.call rfl rfl rfl cok_112 rfl (ok_math_bits_Len hh0) rfl lt0 ?_)
  rintro _ _ ⟨rfl, rfl⟩
  refine VO.cons rfl (V1.move rfl rfl rfl lt0 ?_)
  refine VO.cons rfl (V1.call rfl rfl rfl cok_111 rfl (ok_slices_pdqsortCmpFunc_impl_Carton hh1 (oq := none) (data := x) (fun _ => (hoq rfl)) (ρ0 := ρ0) (fm := fm) hok1 hf1) rfl lt0 ?_)
  rintro _ _ ⟨rfl, rfl⟩
  refine VO.nil ?_
  obtain rfl := Option.some.inj hm0
  exact ⟨_, [], rfl, List.nil_sublist _, rfl, rfl⟩
 ·
  refine V.seq ?_
  refine V.region ?_
  refine VO.cons rfl (V1.move rfl rfl rfl lt0 ?_)
  refine VO.cons rfl (V1.lenSref rfl rfl rfl rfl rfl rfl isl_39 lt0 ?_)
  refine VO.cons rfl (V1.assign rfl rfl rfl lt0 ?_)
  refine VO.nil ?_
  replace hm0 := bindO hm0; rcases hm0 with ⟨y0, hh0, hm0⟩
  replace hm0 := bindO hm0; rcases hm0 with ⟨y1, hh1, hm0⟩
  replace hm0 := asrt_some hm0; rcases hm0 with ⟨hh2, hm0⟩
  refine V.region ?_
  refine VO.cons rfl (V1.move rfl rfl rfl lt0 ?_)
  refine VO.cons rfl (V1.move rfl rfl rfl lt0 ?_)
  refine VO.cons rfl (V1.move rfl rfl rfl lt0 ?_)
  refine VO.cons rfl (V1.conv rfl rfl und_3 und_113 rfl lt0 ?_)
  refine VO.cons rfl (V1.call rfl rfl rfl cok_112 rfl (ok_math_bits_Len hh0) rfl lt0 ?_)
  rintro _ _ ⟨rfl, rfl⟩
  refine VO.cons rfl (V1.move rfl rfl rfl lt0 ?_)
  refine VO.cons rfl (V1.callM 0 (rn + 1) [] [.sref oq 5 0 (List.length x), .int .i64 (0 : Int), .int .i64 (x.length : Int), .int .i64 y0, .fn f1 cs1] (p := (oq, ⟨5, List.map (encCarton ρ0) x⟩)) rfl rfl rfl cok_111 rfl rfl ⟨_, _, rfl, .same _, ⟨_, _, rfl, .same _, ⟨_, _, rfl, .same _, ⟨_, _, rfl, .same _, ⟨_, _, rfl, .same _, rfl⟩⟩⟩⟩⟩ bwNil (ok_slices_pdqsortCmpFunc_impl_Carton hh1 (oq := some oq) (fun e => by cases e) (fm := fm) hok1 hf1) rfl (.inl rfl) lt0 ?_)
  rintro _ _ ⟨rfl, rfl⟩
  refine VO.weakenK (Keeps.say 0 (y := .sref oq 5 0 (List.length y1)) rfl (congrArg (PV.sref oq 5 0) hh2.symm)) ?_
  refine VO.nil ?_
  obtain rfl := Option.some.inj hm0
  exact ⟨_, _, rfl, (sub1 (k := 0) rfl), rfl, rfl⟩

theorem ok_cmp_isNaN_int {rn : Nat} {x : Int} {r : Bool} (h : M.cmp_isNaN_int x = some r) : Does Try.prog 113 [.int .i64 x] [] rn (fun x H => x = .bool r ∧ H = []) := by
 have hm0 := h; clear h; unfold M.cmp_isNaN_int at hm0
 try dsimp only at hm0
 refine Does.intro (N := 6) Try.func113 rfl rfl rfl rfl ?_
 intro w0 S0
 refine V.seq ?_
 refine V.region ?_
 refine VO.cons rfl (V1.assign rfl rfl rfl lt0 ?_)
 refine VO.nil ?_
 refine V.seq ?_
 refine V.region ?_
 refine VO.cons rfl (V1.move rfl rfl rfl lt0 ?_)
 refine VO.cons rfl (V1.move rfl rfl rfl lt0 ?_)
 refine VO.cons rfl (V1.int rfl rfl rfl rfl rfl lt0 ?_)
 refine VO.cons rfl (V1.assign rfl rfl rfl lt0 ?_)
 refine VO.nil ?_
 refine V.ret ?_
 obtain rfl := Option.some.inj hm0
 exact ⟨_, [], ⟨_, _, rfl, rfl, rfl⟩, List.nil_sublist _, rfl, rfl⟩

theorem ok_cmp_Compare_int {rn : Nat} {x : Int} {y : Int} {r : Int} (h : M.cmp_Compare_int x y = some r) : Does Try.prog 78 [.int .i64 x, .int .i64 y] [] rn (fun x H => x = .int .i64 r ∧ H = []) := by
 have hm0 := h; clear h; unfold M.cmp_Compare_int at hm0
 try dsimp only at hm0
 refine Does.intro (N := 20) Try.func78 rfl rfl rfl rfl ?_
 intro w0 S0
 refine V.seq ?_
 refine V.region ?_
 refine VO.cons rfl (V1.assign rfl rfl rfl lt0 ?_)
 refine VO.nil ?_
 refine V.seq ?_
 replace hm0 := bindO hm0; rcases hm0 with ⟨y0, hh0, hm0⟩
 refine V.region ?_
 refine VO.cons rfl (V1.move rfl rfl rfl lt0 ?_)
 refine VO.cons rfl (V1.call rfl rfl rfl cok_113 rfl (ok_cmp_isNaN_int hh0) rfl lt0 ?_)
 rintro _ _ ⟨rfl, rfl⟩
 refine VO.cons rfl (V1.assign rfl rfl rfl lt0 ?_)
 refine VO.nil ?_
 refine V.seq ?_
 replace hm0 := bindO hm0; rcases hm0 with ⟨y1, hh1, hm0⟩
 refine V.region ?_
 refine VO.cons rfl (V1.move rfl rfl rfl lt0 ?_)
 refine VO.cons rfl (V1.call rfl rfl rfl cok_113 rfl (ok_cmp_isNaN_int hh1) rfl lt0 ?_)
 rintro _ _ ⟨rfl, rfl⟩
 refine VO.cons rfl (V1.assign rfl rfl rfl lt0 ?_)
 refine VO.nil ?_
 refine V.keep 20 [0, 1, 5, 6] [] (E0 := [(0, .int .i64 x), (1, .int .i64 y), (5, .bool y0), (6, .bool y1)]) (H0 := []) rfl (⟨_, _, rfl, rfl, ⟨_, _, rfl, rfl, ⟨_, _, rfl, rfl, ⟨_, _, rfl, rfl, rfl⟩⟩⟩⟩) (rfl) rfl ?_
 refine V.seq ?_
 refine V.seq ?_
 refine V.region ?_
 refine VO.cons rfl (V1.move rfl rfl rfl lt0 ?_)
 refine VO.nil ?_
 refine V.cond rfl (fun hc0 => ?_) (fun hc0 => ?_)
 ·
  replace hm0 := cond_t hc0 hm0
  refine V.seq ?_
  refine V.seq ?_
  refine V.region ?_
  refine VO.cons rfl (V1.move rfl rfl rfl lt0 ?_)
  refine VO.nil ?_
  refine V.keep 20 [12] [] (E0 := [(12, .bool y1)]) (H0 := []) rfl (⟨_, _, rfl, rfl, rfl⟩) (rfl) rfl ?_
  refine V.cond rfl (fun hc1 => ?_) (fun hc1 => ?_)
  ·
   replace hm0 := cond_t hc1 hm0
   refine V.seq ?_
   refine V.region ?_
   refine VO.cons rfl (V1.assign rfl rfl rfl lt0 ?_)
   refine VO.nil ?_
   refine V.ret ?_
   obtain rfl := Option.some.inj hm0
   exact ⟨_, [], ⟨_, _, rfl, rfl, rfl⟩, List.nil_sublist _, rfl, rfl⟩
  ·
   replace hm0 := cond_f hc1 hm0
   refine V.skip ?_
   refine V.seq ?_
   refine V.region ?_
   refine VO.cons rfl (V1.assign rfl rfl rfl lt0 ?_)
   refine VO.nil ?_
   refine V.ret ?_
   obtain rfl := Option.some.inj hm0
   exact ⟨_, [], ⟨_, _, rfl, rfl, rfl⟩, List.nil_sublist _, rfl, rfl⟩
 ·
  replace hm0 := cond_f hc0 hm0
  refine V.skip ?_
  refine V.seq ?_
  refine V.seq ?_
  refine V.region ?_
  refine VO.cons rfl (V1.move rfl rfl rfl lt0 ?_)
  refine VO.nil ?_
  refine V.cond rfl (fun hc2 => ?_) (fun hc2 => ?_)
  ·
   replace hm0 := cond_t hc2 hm0
   refine V.seq ?_
   refine V.region ?_
   refine VO.cons rfl (V1.assign rfl rfl rfl lt0 ?_)
   refine VO.nil ?_
   refine V.ret ?_
   obtain rfl := Option.some.inj hm0
   exact ⟨_, [], ⟨_, _, rfl, rfl, rfl⟩, List.nil_sublist _, rfl, rfl⟩
  ·
   replace hm0 := cond_f hc2 hm0
   refine V.skip ?_
   refine V.keep 20 [0, 1] [] (E0 := [(0, .int .i64 x), (1, .int .i64 y)]) (H0 := []) rfl (⟨_, _, rfl, rfl, ⟨_, _, rfl, rfl, rfl⟩⟩) (rfl) rfl ?_
   refine V.seq ?_
   refine V.seq ?_
   refine V.region ?_
   refine VO.cons rfl (V1.move rfl rfl rfl lt0 ?_)
   refine VO.cons rfl (V1.move rfl rfl rfl lt0 ?_)
   refine VO.cons rfl (V1.int rfl rfl rfl rfl rfl lt0 ?_)
   refine VO.nil ?_
   refine V.cond rfl (fun hc3 => ?_) (fun hc3 => ?_)
   ·
    replace hm0 := cond_t hc3 hm0
    refine V.seq ?_
    refine V.region ?_
    refine VO.cons rfl (V1.assign rfl rfl rfl lt0 ?_)
    refine VO.nil ?_
    refine V.ret ?_
    obtain rfl := Option.some.inj hm0
    exact ⟨_, [], ⟨_, _, rfl, rfl, rfl⟩, List.nil_sublist _, rfl, rfl⟩
   ·
    replace hm0 := cond_f hc3 hm0
    refine V.skip ?_
    refine V.seq ?_
    refine V.seq ?_
    refine V.region ?_
    refine VO.cons rfl (V1.move rfl rfl rfl lt0 ?_)
    refine VO.cons rfl (V1.move rfl rfl rfl lt0 ?_)
    refine VO.cons rfl (V1.int rfl rfl rfl rfl rfl lt0 ?_)
    refine VO.nil ?_
    refine V.keep 20 [19] [] (E0 := [(19, .bool (decide (x > y)))]) (H0 := []) rfl (⟨_, _, rfl, rfl, rfl⟩) (rfl) rfl ?_
    refine V.cond rfl (fun hc4 => ?_) (fun hc4 => ?_)
    ·
     replace hm0 := cond_t hc4 hm0
     refine V.seq ?_
     refine V.region ?_
     refine VO.cons rfl (V1.assign rfl rfl rfl lt0 ?_)
     refine VO.nil ?_
     refine V.ret ?_
     obtain rfl := Option.some.inj hm0
     exact ⟨_, [], ⟨_, _, rfl, rfl, rfl⟩, List.nil_sublist _, rfl, rfl⟩
    ·
     replace hm0 := cond_f hc4 hm0
     refine V.skip ?_
     refine V.seq ?_
     refine V.region ?_
     refine VO.cons rfl (V1.assign rfl rfl rfl lt0 ?_)
     refine VO.nil ?_
     refine V.ret ?_
     obtain rfl := Option.some.inj hm0
     exact ⟨_, [], ⟨_, _, rfl, rfl, rfl⟩, List.nil_sublist _, rfl, rfl⟩

theorem ok_cmp_Or_int {ρ0 rn : Nat} {vals : List Int} {r : Int} (h : M.cmp_Or_int vals = some r) : Does Try.prog 77 [.vl ρ0 1 (List.map encInt vals)] [] rn (fun x H => x = .int .i64 r ∧ H = []) := by
 have hm0 := h; clear h; unfold M.cmp_Or_int at hm0
 try dsimp only at hm0
 refine Does.intro (N := 18) Try.func77 rfl rfl rfl rfl ?_
 intro w0 S0
 refine V.seq ?_
 refine V.region ?_
 refine VO.cons rfl (V1.assign rfl rfl rfl lt0 ?_)
 refine VO.nil ?_
 refine V.seq ?_
 refine V.region ?_
 refine VO.cons rfl (V1.assign rfl rfl rfl lt0 ?_)
 refine VO.nil ?_
 refine V.seq ?_
 refine V.seq ?_
 refine V.region ?_
 refine VO.cons rfl (V1.move rfl rfl rfl lt0 ?_)
 refine VO.cons rfl (V1.lenMap rfl rfl rfl rfl rfl rfl isl_36 lt0 ?_)
 refine VO.cons rfl (V1.move rfl rfl rfl lt0 ?_)
 refine VO.nil ?_
 replace hm0 := bindO hm0; rcases hm0 with ⟨e0, he1, hm0⟩
 refine V.cutT (D := (Unit) × (Unit)) (fun ⟨_, _⟩ => ⟨18, [(3, .int .i64 (0 : Int))], []⟩) (fun ⟨_, _⟩ => (.inl () = e0)) ?_ ?_
 ·
  refine V.block ?_
  refine V.keep 18 [8, 3, 6, 7] [] (E0 := [(8, .int .i64 (0 : Int)), (3, .int .i64 (0 : Int)), (6, .vl ρ0 1 (List.map encInt vals)), (7, .int .i64 (vals.length : Int))]) (H0 := []) rfl (⟨_, _, rfl, rfl, ⟨_, _, rfl, rfl, ⟨_, _, rfl, rfl, ⟨_, _, rfl, rfl, rfl⟩⟩⟩⟩) (rfl) rfl ?_
  refine V.loopE (D := Nat × (Int) × (Unit)) (fun ⟨n0, v, _⟩ => [(8, .int .i64 v)]) (fun ⟨n0, v, _⟩ => []) (fun ⟨n0, v, _⟩ => loopO (M.cmp_Or_int_l0 vals) n0 v = some e0) (fun ⟨n0, _, _⟩ => n0) (rounds, (0 : Int), ()) rfl he1 ?_
  rintro ⟨n0, v, _⟩ hP0
  obtain ⟨m0, y0, rfl, hm1, hl1, hr1⟩ := loop_head hP0
  unfold M.cmp_Or_int_l0 at hm1; dsimp only at hm1
  show V _ _ _ ⟨18, [(8, .int .i64 v), (3, .int .i64 (0 : Int)), (6, .vl ρ0 1 (List.map encInt vals)), (7, .int .i64 (vals.length : Int))], []⟩
  refine V.seq ?_
  refine V.region ?_
  refine VO.cons rfl (V1.int rfl rfl rfl rfl rfl lt0 ?_)
  refine VO.nil ?_
  refine V.seq ?_
  refine V.cond rfl (fun hc0 => ?_) (fun hc0 => ?_)
  ·
   replace hm1 := cond_t hc0 hm1
   refine V.skip ?_
   refine V.seq ?_
   refine V.block ?_
   refine V.seq ?_
   replace hm1 := asrt_some hm1; rcases hm1 with ⟨hh0, hm1⟩
   refine V.region ?_
   refine VO.cons rfl (V1.indexI rfl rfl esz_36 rfl rfl hh0 lt0 ?_)
   refine VO.cons rfl (V1.loadPin rfl rfl tyk_3 rfl rfl lt0 ?_)
   refine VO.cons rfl (V1.assign rfl rfl rfl lt0 ?_)
   refine VO.nil ?_
   refine V.seq ?_
   refine V.region ?_
   refine VO.cons rfl (V1.move rfl rfl rfl lt0 ?_)
   refine VO.cons rfl (V1.move rfl rfl rfl lt0 ?_)
   refine VO.cons rfl (V1.int rfl rfl rfl rfl rfl lt0 ?_)
   refine VO.nil ?_
   refine V.keep 18 [3, 5, 6, 7, 8, 14] [] (E0 := [(3, .int .i64 (0 : Int)), (5, .int .i64 (vals.getD (Int.toNat v) default)), (6, .vl ρ0 1 (List.map encInt vals)), (7, .int .i64 (vals.length : Int)), (8, .int .i64 v), (14, .bool ((vals.getD (Int.toNat v) default) != (0 : Int)))]) (H0 := []) rfl (⟨_, _, rfl, rfl, ⟨_, _, rfl, rfl, ⟨_, _, rfl, rfl, ⟨_, _, rfl, rfl, ⟨_, _, rfl, rfl, ⟨_, _, rfl, rfl, rfl⟩⟩⟩⟩⟩⟩) (rfl) rfl ?_
   refine V.cond rfl (fun hc1 => ?_) (fun hc1 => ?_)
   ·
    replace hm1 := cond_t hc1 hm1
    refine V.seq ?_
    refine V.region ?_
    refine VO.cons rfl (V1.move rfl rfl rfl lt0 ?_)
    refine VO.cons rfl (V1.assign rfl rfl rfl lt0 ?_)
    refine VO.nil ?_
    refine V.ret ?_
    obtain rfl := hr1 _ (Option.some.inj hm1).symm
    change some _ = some _ at hm0
    obtain rfl := Option.some.inj hm0
    exact ⟨_, [], ⟨_, _, rfl, rfl, rfl⟩, List.nil_sublist _, rfl, rfl⟩
   ·
    replace hm1 := cond_f hc1 hm1
    refine V.skip ?_
    refine V.region ?_
    refine VO.cons rfl (V1.int rfl rfl rfl rfl rfl lt0 ?_)
    refine VO.cons rfl (V1.move rfl rfl rfl lt0 ?_)
    refine VO.nil ?_
    exact ⟨(m0, (IntKind.i64.wrap (v + (1 : Int))), ()), hl1 _ (Option.some.inj hm1).symm, Nat.lt_succ_self _, Keeps.mk (ks := []) rfl ⟨rfl, rfl, rfl, rfl, trivial⟩ (rfl) rfl⟩
  ·
   replace hm1 := cond_f hc0 hm1
   refine V.exit ?_
   obtain rfl := hr1 _ (Option.some.inj hm1).symm
   exact ⟨((), ()), rfl, Keeps.mk (ks := []) rfl ⟨rfl, trivial⟩ (rfl) rfl⟩
 ·
  rintro ⟨_, _⟩ rfl
  try dsimp only at hm0
  refine V.seq ?_
  refine V.region ?_
  refine VO.cons rfl (V1.move rfl rfl rfl lt0 ?_)
  refine VO.cons rfl (V1.assign rfl rfl rfl lt0 ?_)
  refine VO.nil ?_
  refine V.ret ?_
  obtain rfl := Option.some.inj hm0
  exact ⟨_, [], ⟨_, _, rfl, rfl, rfl⟩, List.nil_sublist _, rfl, rfl⟩

theorem ok_impl_PullList_1 {ρ0 ρ1 rn : Nat} {a : Carton} {b_ : Carton} {r : Int} (h : M.impl_PullList_1 a b_ = some r) : Does Try.prog 76 [encCarton ρ0 a, encCarton ρ1 b_] [] rn (fun x H => x = .int .i64 r ∧ H = []) := by
 have hm0 := h; clear h; unfold M.impl_PullList_1 at hm0
 try dsimp only at hm0
 refine Does.intro (N := 22) Try.func76 rfl rfl rfl rfl ?_
 intro w0 S0
 refine V.seq ?_
 refine V.region ?_
 refine VO.cons rfl (V1.boxN (n := 5) rfl rfl rfl rfl rfl lt0 ?_)
 intro b0
 refine VO.cons rfl (V1.boxN (n := 5) rfl rfl rfl rfl rfl lt0 ?_)
 intro b1
 refine VO.cons rfl (V1.assign rfl rfl rfl lt0 ?_)
 refine VO.nil ?_
 refine V.seq ?_
 replace hm0 := bindO hm0; rcases hm0 with ⟨y0, hh0, hm0⟩
 replace hm0 := bindO hm0; rcases hm0 with ⟨y1, hh1, hm0⟩
 replace hm0 := bindO hm0; rcases hm0 with ⟨y2, hh2, hm0⟩
 replace hm0 := bindO hm0; rcases hm0 with ⟨y3, hh3, hm0⟩
 refine V.regionS [(b1, ⟨5, [encCarton ρ1 b_]⟩), (b0, ⟨5, [encCarton ρ0 a]⟩)] 22 14 [⟨[(2, none)], false⟩, ⟨[(5, some 0)], false⟩, ⟨[(3, none)], false⟩, ⟨[(7, some 2)], false⟩, ⟨[(6, some 1), (8, some 3)], false⟩, ⟨[(2, none)], false⟩, ⟨[(10, some 5)], false⟩, ⟨[(3, none)], false⟩, ⟨[(12, some 7)], false⟩, ⟨[(11, some 6), (13, some 8)], false⟩, ⟨[(2, none)], false⟩, ⟨[(15, some 10)], false⟩, ⟨[(3, none)], false⟩, ⟨[(17, some 12)], false⟩] [(9, some 4), (14, some 9), (16, some 11), (18, some 13)] 0 (⟨_, rfl, ⟨_, rfl, ⟨_, rfl, ⟨_, rfl, ⟨_, rfl, ⟨_, rfl, ⟨_, rfl, ⟨_, rfl, ⟨_, rfl, ⟨_, rfl, ⟨_, rfl, ⟨_, rfl, ⟨_, rfl, ⟨_, rfl, ⟨rfl, rfl⟩⟩⟩⟩⟩⟩⟩⟩⟩⟩⟩⟩⟩⟩⟩) mixed_orders rfl (by decide +kernel) ?_
 refine WalkP.step (p := ?pv85) 0 rfl rfl rfl rfl rfl (⟨_, _, rfl, rfl, rfl⟩) ?hv85 ?rest85
 case hv85 =>
  intro E1 H1 hI1
  refine (V1.fieldRef rfl rfl fo_67_2 rfl lt0 ?_)
  exact rfl
 refine WalkP.step (p := ?pv86) 1 rfl rfl rfl rfl rfl (⟨_, _, rfl, rfl, rfl⟩) ?hv86 ?rest86
 case hv86 =>
  intro E1 H1 hI1
  obtain ⟨k87_, hk87_⟩ := inGet 1 rfl hI1
  refine (V1.loadRef (k := k87_) rfl rfl tyk_3 rfl hk87_ rfl rfl rfl lt0 ?_)
  exact rfl
 refine WalkP.step (p := ?pv88) 2 rfl rfl rfl rfl rfl (⟨_, _, rfl, rfl, rfl⟩) ?hv88 ?rest88
 case hv88 =>
  intro E1 H1 hI1
  refine (V1.fieldRef rfl rfl fo_67_2 rfl lt0 ?_)
  exact rfl
 refine WalkP.step (p := ?pv89) 3 rfl rfl rfl rfl rfl (⟨_, _, rfl, rfl, rfl⟩) ?hv89 ?rest89
 case hv89 =>
  intro E1 H1 hI1
  obtain ⟨k90_, hk90_⟩ := inGet 0 rfl hI1
  refine (V1.loadRef (k := k90_) rfl rfl tyk_3 rfl hk90_ rfl rfl rfl lt0 ?_)
  exact rfl
 refine WalkP.step (p := ?pv91) 4 rfl rfl rfl rfl rfl (⟨_, _, rfl, rfl, ⟨_, _, rfl, rfl, rfl⟩⟩) ?hv91 ?rest91
 case hv91 =>
  intro E1 H1 hI1
  refine (V1.call rfl rfl rfl cok_78 rfl (ok_cmp_Compare_int hh0) rfl lt0 ?_)
  rintro _ _ ⟨rfl, rfl⟩
  exact rfl
 refine WalkP.step (p := ?pv93) 5 rfl rfl rfl rfl rfl (⟨_, _, rfl, rfl, rfl⟩) ?hv93 ?rest93
 case hv93 =>
  intro E1 H1 hI1
  refine (V1.fieldRef rfl rfl fo_67_1 rfl lt0 ?_)
  exact rfl
 refine WalkP.step (p := ?pv94) 6 rfl rfl rfl rfl rfl (⟨_, _, rfl, rfl, rfl⟩) ?hv94 ?rest94
 case hv94 =>
  intro E1 H1 hI1
  obtain ⟨k95_, hk95_⟩ := inGet 1 rfl hI1
  refine (V1.loadRef (k := k95_) rfl rfl tyk_3 rfl hk95_ rfl rfl rfl lt0 ?_)
  exact rfl
 refine WalkP.step (p := ?pv96) 7 rfl rfl rfl rfl rfl (⟨_, _, rfl, rfl, rfl⟩) ?hv96 ?rest96
 case hv96 =>
  intro E1 H1 hI1
  refine (V1.fieldRef rfl rfl fo_67_1 rfl lt0 ?_)
  exact rfl
 refine WalkP.step (p := ?pv97) 8 rfl rfl rfl rfl rfl (⟨_, _, rfl, rfl, rfl⟩) ?hv97 ?rest97
 case hv97 =>
  intro E1 H1 hI1
  obtain ⟨k98_, hk98_⟩ := inGet 0 rfl hI1
  refine (V1.loadRef (k := k98_) rfl rfl tyk_3 rfl hk98_ rfl rfl rfl lt0 ?_)
  exact rfl
 refine WalkP.step (p := ?pv99) 9 rfl rfl rfl rfl rfl (⟨_, _, rfl, rfl, ⟨_, _, rfl, rfl, rfl⟩⟩) ?hv99 ?rest99
 case hv99 =>
  intro E1 H1 hI1
  refine (V1.call rfl rfl rfl cok_78 rfl (ok_cmp_Compare_int hh1) rfl lt0 ?_)
  rintro _ _ ⟨rfl, rfl⟩
  exact rfl
 refine WalkP.step (p := ?pv101) 10 rfl rfl rfl rfl rfl (⟨_, _, rfl, rfl, rfl⟩) ?hv101 ?rest101
 case hv101 =>
  intro E1 H1 hI1
  refine (V1.fieldRef rfl rfl fo_67_0 rfl lt0 ?_)
  exact rfl
 refine WalkP.step (p := ?pv102) 11 rfl rfl rfl rfl rfl (⟨_, _, rfl, rfl, rfl⟩) ?hv102 ?rest102
 case hv102 =>
  intro E1 H1 hI1
  obtain ⟨k103_, hk103_⟩ := inGet 1 rfl hI1
  refine (V1.loadRef (k := k103_) rfl rfl tyk_3 rfl hk103_ rfl rfl rfl lt0 ?_)
  exact rfl
 refine WalkP.step (p := ?pv104) 12 rfl rfl rfl rfl rfl (⟨_, _, rfl, rfl, rfl⟩) ?hv104 ?rest104
 case hv104 =>
  intro E1 H1 hI1
  refine (V1.fieldRef rfl rfl fo_67_0 rfl lt0 ?_)
  exact rfl
 refine WalkP.step (p := ?pv105) 13 rfl rfl rfl rfl rfl (⟨_, _, rfl, rfl, rfl⟩) ?hv105 ?rest105
 case hv105 =>
  intro E1 H1 hI1
  obtain ⟨k106_, hk106_⟩ := inGet 0 rfl hI1
  refine (V1.loadRef (k := k106_) rfl rfl tyk_3 rfl hk106_ rfl rfl rfl lt0 ?_)
  exact rfl
 refine WalkP.nil ?_
 refine NodeS.fin (inCons 0 rfl (inCons 1 rfl inNil)) rfl rfl rfl (⟨_, _, rfl, rfl, ⟨_, _, rfl, rfl, ⟨_, _, rfl, rfl, ⟨_, _, rfl, rfl, rfl⟩⟩⟩⟩) ?_
 refine VO.cons rfl (V1.call rfl rfl rfl cok_78 rfl (ok_cmp_Compare_int hh2) rfl lt0 ?_)
 rintro _ _ ⟨rfl, rfl⟩
 refine VO.cons rfl (V1.buildSliceT (f := encInt) ([y0, y1, y2] : List Int) rfl rfl esz_36 zk_3 rfl rfl rfl rfl rfl rfl rfl lt0 ?_)
 intro b3
 refine VO.cons rfl (V1.callL (rn + 1) [b3] [.vl (rn + 1) 1 (List.map encInt ([y0, y1, y2] : List Int))] rfl rfl rfl cok_77 rfl ⟨_, _, rfl, Lend.srMap 0 rfl (fun _ => rfl) (.head _), rfl⟩ (bwCons (k := 0) rfl bwNil) (ok_cmp_Or_int hh3) rfl (⟨(by first | omega | (dsimp only; omega)), by rintro _ _ ⟨rfl, rfl⟩; exact ⟨rfl, by simp⟩⟩) lt0 ?_)
 rintro _ _ ⟨rfl, rfl⟩
 refine VO.cons rfl (V1.assign rfl rfl rfl lt0 ?_)
 refine VO.nil ?_
 refine V.ret ?_
 obtain rfl := Option.some.inj hm0
 exact ⟨_, [], ⟨_, _, rfl, rfl, rfl⟩, List.nil_sublist _, rfl, rfl⟩

theorem ok_impl_PullList {ρ0 ρ1 rn : Nat} {list : List Carton} {files : List Int} {r : List Int × Bool} (h : M.impl_PullList list files = some r) : Does Try.prog 36 [.vl ρ0 5 (List.map (encCarton ρ0) list), .vl ρ1 1 (List.map encInt files)] [] rn (fun x H => ∃ (ob0_ : Option Nat), (ob0_ = none → r.1 = []) ∧ x = .tup [optS 1 ob0_ (List.length r.1), .bool r.2] ∧ H = optH 1 ob0_ (List.map encInt r.1)) := by
 have hm0 := h; clear h; unfold M.impl_PullList at hm0
 try dsimp only at hm0
 refine Does.intro (N := 69) Try.func36 rfl rfl rfl rfl ?_
 intro w0 S0
 refine V.seq ?_
 refine V.region ?_
 refine VO.cons rfl (V1.assign rfl rfl rfl lt0 ?_)
 refine VO.cons rfl (V1.assign rfl rfl rfl lt0 ?_)
 refine VO.nil ?_
 refine V.seq ?_
 refine V.seq ?_
 replace hm0 := bindO hm0; rcases hm0 with ⟨y0, hh0, hm0⟩
 replace hm0 := bindO hm0; rcases hm0 with ⟨y1, hh1, hm0⟩
 replace hm0 := bindO hm0; rcases hm0 with ⟨y2, hh2, hm0⟩
 refine V.region ?_
 refine VO.cons rfl (V1.move rfl rfl rfl lt0 ?_)
 refine VO.cons rfl (V1.call rfl rfl rfl cok_45 rfl (ok_impl_AreCartons hh0) rfl lt0 ?_)
 rintro _ _ ⟨rfl, rfl⟩
 refine VO.cons rfl (V1.not rfl rfl rfl lt0 ?_)
 refine VO.cons rfl (V1.move rfl rfl rfl lt0 ?_)
 apply VO.or (n := 4) rfl rfl rfl rfl rfl rfl lt0 (.none rfl)
 ·
  intro hg0
  refine VO.step (.some rfl rfl rfl) (V1.move rfl rfl rfl lt0 ?_)
  refine VO.step (.some rfl rfl rfl) (V1.lenMap rfl rfl rfl rfl rfl rfl isl_36 lt0 ?_)
  refine VO.step (.some rfl rfl rfl) (V1.call rfl rfl rfl cok_72 rfl (ok_impl_within (cond_f hg0 hh1)) rfl lt0 ?_)
  rintro _ _ ⟨rfl, rfl⟩
  refine VO.step (.some rfl rfl rfl) (V1.not rfl rfl rfl lt0 ?_)
  exact VO.nil ⟨rfl, rfl, rfl, rfl, .inr ⟨rfl, .inr ⟨rfl, .inr ⟨rfl, .inr ⟨rfl, .inr ⟨rfl, .inl rfl⟩⟩⟩⟩⟩⟩
 refine VO.cons rfl (V1.move rfl rfl rfl lt0 ?_)
 apply VO.or (n := 3) rfl rfl rfl rfl rfl rfl lt0 (.none rfl)
 ·
  intro hg1
  refine VO.step (.some rfl rfl rfl) (V1.move rfl rfl rfl lt0 ?_)
  refine VO.step (.some rfl rfl rfl) (V1.call rfl rfl rfl cok_73 rfl (ok_impl_areRising (cond_f hg1 hh2)) rfl lt0 ?_)
  rintro _ _ ⟨rfl, rfl⟩
  refine VO.step (.some rfl rfl rfl) (V1.not rfl rfl rfl lt0 ?_)
  exact VO.nil ⟨rfl, rfl, rfl, rfl, .inr ⟨rfl, .inr ⟨rfl, .inr ⟨rfl, .inr ⟨rfl, .inl rfl⟩⟩⟩⟩⟩
 refine VO.nil ?_
 refine V.keep 69 [0, 1, 26] [] (E0 := [(0, .vl ρ0 5 (List.map (encCarton ρ0) list)), (1, .vl ρ1 1 (List.map encInt files)), (26, .bool (((!y0) || (!y1)) || (!y2)))]) (H0 := []) rfl (⟨_, _, rfl, rfl, ⟨_, _, rfl, rfl, ⟨_, _, rfl, rfl, rfl⟩⟩⟩) (rfl) rfl ?_
 refine V.cond rfl (fun hc0 => ?_) (fun hc0 => ?_)
 ·
  replace hm0 := cond_t hc0 hm0
  refine V.seq ?_
  refine V.region ?_
  refine VO.cons rfl (V1.assign rfl rfl rfl lt0 ?_)
  refine VO.cons rfl (V1.assign rfl rfl rfl lt0 ?_)
  refine VO.nil ?_
  refine V.keep 69 [4, 5] [] (E0 := [(4, .nils), (5, .bool false)]) (H0 := []) rfl (⟨_, _, rfl, rfl, ⟨_, _, rfl, rfl, rfl⟩⟩) (rfl) rfl ?_
  refine V.ret ?_
  obtain rfl := Option.some.inj hm0
  exact ⟨_, _, ⟨_, _, rfl, rfl, ⟨_, _, rfl, rfl, rfl⟩⟩, List.Sublist.refl _, none, (fun _ => rfl), rfl, rfl⟩
 ·
  replace hm0 := cond_f hc0 hm0
  refine V.skip ?_
  refine V.seq ?_
  refine V.region ?_
  refine VO.cons rfl (V1.assign rfl rfl rfl lt0 ?_)
  refine VO.nil ?_
  refine V.seq ?_
  refine V.seq ?_
  refine V.region ?_
  refine VO.cons rfl (V1.move rfl rfl rfl lt0 ?_)
  refine VO.cons rfl (V1.lenMap rfl rfl rfl rfl rfl rfl isl_36 lt0 ?_)
  refine VO.cons rfl (V1.move rfl rfl rfl lt0 ?_)
  refine VO.nil ?_
  replace hm0 := bindO hm0; rcases hm0 with ⟨e0, he1, hm0⟩
  refine V.cutT (D := (List Carton) × (Option Nat)) (fun ⟨cartons, ob0⟩ => ⟨69, [(6, optS 5 ob0 (List.length cartons))], optH 5 ob0 (List.map (encCarton ρ0) cartons)⟩) (fun ⟨cartons, ob0⟩ => (.inl cartons = e0) ∧ (ob0 = none → cartons = [])) ?_ ?_
  ·
   refine V.block ?_
   refine V.keep 69 [6, 29, 0, 27, 28] [] (E0 := [(6, .nils), (29, .int .i64 (0 : Int)), (0, .vl ρ0 5 (List.map (encCarton ρ0) list)), (27, .vl ρ1 1 (List.map encInt files)), (28, .int .i64 (files.length : Int))]) (H0 := []) rfl (⟨_, _, rfl, rfl, ⟨_, _, rfl, rfl, ⟨_, _, rfl, rfl, ⟨_, _, rfl, rfl, ⟨_, _, rfl, rfl, rfl⟩⟩⟩⟩⟩) (rfl) rfl ?_
   refine V.loopE (D := Nat × (List Carton × Int) × (Option Nat)) (fun ⟨n0, ⟨cartons0, v⟩, ob1⟩ => [(6, optS 5 ob1 (List.length cartons0)), (29, .int .i64 v)]) (fun ⟨n0, ⟨cartons0, v⟩, ob1⟩ => optH 5 ob1 (List.map (encCarton ρ0) cartons0)) (fun ⟨n0, ⟨cartons0, v⟩, ob1⟩ => loopO (M.impl_PullList_l0 list files) n0 (cartons0, v) = some e0 ∧ (ob1 = none → cartons0 = [])) (fun ⟨n0, _, _⟩ => n0) (rounds, (([] : List Carton), (0 : Int)), none) rfl ⟨he1, (fun _ => rfl)⟩ ?_
   rintro ⟨n0, ⟨cartons0, v⟩, ob1⟩ ⟨hP0, hob1⟩
   obtain ⟨m0, y3, rfl, hm1, hl1, hr1⟩ := loop_head hP0
   unfold M.impl_PullList_l0 at hm1; dsimp only at hm1
   rcases ob1 with _ | ob1
   ·
    replace hob1 := hob1 rfl
    show V _ _ _ ⟨69, [(6, .nils), (29, .int .i64 v), (0, .vl ρ0 5 (List.map (encCarton ρ0) list)), (27, .vl ρ1 1 (List.map encInt files)), (28, .int .i64 (files.length : Int))], []⟩
    refine V.seq ?_
    refine V.region ?_
    refine VO.cons rfl (V1.int rfl rfl rfl rfl rfl lt0 ?_)
    refine VO.nil ?_
    refine V.seq ?_
    refine V.cond rfl (fun hc1 => ?_) (fun hc1 => ?_)
    ·
     replace hm1 := cond_t hc1 hm1
     refine V.skip ?_
     refine V.seq ?_
     replace hm1 := bindO hm1; rcases hm1 with ⟨j0, hm2, hm1⟩
     refine V.cutT (D := (List Carton) × (Option Nat)) (fun ⟨cartons1, ob2⟩ => ⟨69, [(6, optS 5 ob2 (List.length cartons1)), (0, .vl ρ0 5 (List.map (encCarton ρ0) list)), (27, .vl ρ1 1 (List.map encInt files)), (28, .int .i64 (files.length : Int)), (29, .int .i64 v)], optH 5 ob2 (List.map (encCarton ρ0) cartons1)⟩) (fun ⟨cartons1, ob2⟩ => (.inl cartons1 = j0) ∧ (ob2 = none → cartons1 = [])) ?_ ?_
     ·
      refine V.block ?_
      refine V.seq ?_
      replace hm2 := asrt_some hm2; rcases hm2 with ⟨hh3, hm2⟩
      refine V.region ?_
      refine VO.cons rfl (V1.indexI rfl rfl esz_36 rfl rfl hh3 lt0 ?_)
      refine VO.cons rfl (V1.loadPin rfl rfl tyk_3 rfl rfl lt0 ?_)
      refine VO.cons rfl (V1.assign rfl rfl rfl lt0 ?_)
      refine VO.nil ?_
      refine V.seq ?_
      replace hm2 := bindO hm2; rcases hm2 with ⟨y4, hh4, hm2⟩
      refine V.region ?_
      refine VO.cons rfl (V1.move rfl rfl rfl lt0 ?_)
      refine VO.cons rfl (V1.move rfl rfl rfl lt0 ?_)
      refine VO.cons rfl (V1.call rfl rfl rfl cok_74 rfl (ok_impl_cartonWith hh4) rfl lt0 ?_)
      rintro _ _ ⟨rfl, rfl⟩
      refine VO.cons rfl (V1.assign rfl rfl rfl lt0 ?_)
      refine VO.nil ?_
      refine V.keep 69 [0, 6, 9, 27, 28, 29] [] (E0 := [(0, .vl ρ0 5 (List.map (encCarton ρ0) list)), (6, .nils), (9, .int .i64 y4), (27, .vl ρ1 1 (List.map encInt files)), (28, .int .i64 (files.length : Int)), (29, .int .i64 v)]) (H0 := []) rfl (⟨_, _, rfl, rfl, ⟨_, _, rfl, rfl, ⟨_, _, rfl, rfl, ⟨_, _, rfl, rfl, ⟨_, _, rfl, rfl, ⟨_, _, rfl, rfl, rfl⟩⟩⟩⟩⟩⟩) (rfl) rfl ?_
      refine V.seq ?_
      refine V.seq ?_
      refine V.region ?_
      refine VO.cons rfl (V1.move rfl rfl rfl lt0 ?_)
      refine VO.cons rfl (V1.int rfl rfl rfl rfl rfl lt0 ?_)
      refine VO.nil ?_
      refine V.cond rfl (fun hc2 => ?_) (fun hc2 => ?_)
      ·
       replace hm2 := cond_t hc2 hm2
       refine V.seq ?_
       refine V.region ?_
       refine VO.cons rfl (V1.assign rfl rfl rfl lt0 ?_)
       refine VO.cons rfl (V1.assign rfl rfl rfl lt0 ?_)
       refine VO.nil ?_
       refine V.keep 69 [4, 5] [] (E0 := [(4, .nils), (5, .bool false)]) (H0 := []) rfl (⟨_, _, rfl, rfl, ⟨_, _, rfl, rfl, rfl⟩⟩) (rfl) rfl ?_
       refine V.ret ?_
       obtain rfl := Option.some.inj hm2
       change some _ = some _ at hm1
       obtain rfl := hr1 _ (Option.some.inj hm1).symm
       change some _ = some _ at hm0
       obtain rfl := Option.some.inj hm0
       exact ⟨_, _, ⟨_, _, rfl, rfl, ⟨_, _, rfl, rfl, rfl⟩⟩, List.Sublist.refl _, none, (fun _ => rfl), rfl, rfl⟩
      ·
       replace hm2 := cond_f hc2 hm2
       refine V.skip ?_
       refine V.seq ?_
       replace hm2 := asrt_some hm2; rcases hm2 with ⟨hh5, hm2⟩
       replace hm2 := bindO hm2; rcases hm2 with ⟨y5, hh6, hm2⟩
       refine V.region ?_
       refine VO.cons rfl (V1.move rfl rfl rfl lt0 ?_)
       refine VO.cons rfl (V1.move rfl rfl rfl lt0 ?_)
       refine VO.cons rfl (V1.move rfl rfl rfl lt0 ?_)
       refine VO.cons rfl (V1.indexI rfl rfl esz_39 rfl rfl hh5 lt0 ?_)
       refine VO.cons rfl (V1.fieldPin rfl rfl fo_67_0 rfl lt0 ?_)
       refine VO.cons rfl (V1.loadPin rfl rfl tyk_3 rfl rfl lt0 ?_)
       refine VO.weakenK (Keeps.nilsE (l := cartons0) 38 rn 5 (encCarton ρ0) hob1 rfl rfl) ?_
       refine VO.cons rfl (V1.call rfl rfl rfl cok_65 rfl (ok_impl_cartonAt hh6) rfl lt0 ?_)
       rintro _ _ ⟨rfl, rfl⟩
       refine VO.cons rfl (V1.int rfl rfl rfl rfl rfl lt0 ?_)
       refine VO.nil ?_
       refine V.keep 69 [0, 6, 9, 27, 28, 29, 45] [] (E0 := [(0, .vl ρ0 5 (List.map (encCarton ρ0) list)), (6, .nils), (9, .int .i64 y4), (27, .vl ρ1 1 (List.map encInt files)), (28, .int .i64 (files.length : Int)), (29, .int .i64 v), (45, .bool (decide (y5 < (0 : Int))))]) (H0 := []) rfl (⟨_, _, rfl, rfl, ⟨_, _, rfl, rfl, ⟨_, _, rfl, rfl, ⟨_, _, rfl, rfl, ⟨_, _, rfl, rfl, ⟨_, _, rfl, rfl, ⟨_, _, rfl, rfl, rfl⟩⟩⟩⟩⟩⟩⟩) (rfl) rfl ?_
       refine V.cond rfl (fun hc3 => ?_) (fun hc3 => ?_)
       ·
        replace hm2 := cond_t hc3 hm2
        replace hm2 := asrt_some hm2; rcases hm2 with ⟨hh7, hm2⟩
        replace hm2 := asrt_some hm2; rcases hm2 with ⟨hh8, hm2⟩
        refine V.region ?_
        refine VO.cons rfl (V1.move rfl rfl rfl lt0 ?_)
        refine VO.cons rfl (V1.move rfl rfl rfl lt0 ?_)
        refine VO.cons rfl (V1.move rfl rfl rfl lt0 ?_)
        refine VO.cons rfl (V1.indexI rfl rfl esz_39 rfl rfl hh7 lt0 ?_)
        refine VO.cons rfl (V1.loadPinAll rfl rfl tyk_67 rfl rfl lt0 ?_)
        refine VO.cons rfl (V1.buildSliceT (f := (encCarton ρ0)) ([(list.getD (Int.toNat y4) default)] : List Carton) rfl rfl esz_39 zk_67 rfl rfl rfl rfl rfl rfl rfl lt0 ?_)
        intro b0
        refine VO.cons rfl (V1.appendNilE (f := (encCarton ρ0)) (l := cartons0) (m := ([(list.getD (Int.toNat y4) default)] : List Carton)) hob1 rfl rfl rfl rfl rfl esz_39 eby_39 zk_67 rfl rfl rfl (SrcOf.srMap (k := 0) rfl isl_39) rfl hh8 lt0 ?_)
        intro b1
        refine VO.cons rfl (V1.assign rfl rfl rfl lt0 ?_)
        refine VO.nil ?_
        exact ⟨((cartons0 ++ ([(list.getD (Int.toNat y4) default)] : List Carton)), (some b1)), ⟨Option.some.inj hm2, (fun e => by cases e)⟩, Keeps.mk (ks := [0]) rfl ⟨rfl, rfl, rfl, rfl, rfl, trivial⟩ (⟨_, _, rfl, rfl, rfl⟩) rfl⟩
       ·
        replace hm2 := cond_f hc3 hm2
        refine V.skip ?_
        exact ⟨(cartons0, none), ⟨Option.some.inj hm2, (fun _ => hob1)⟩, Keeps.mk (ks := []) rfl ⟨rfl, rfl, rfl, rfl, rfl, trivial⟩ (rfl) rfl⟩
     ·
      rintro ⟨cartons1, ob2⟩ ⟨rfl, hob2⟩
      try dsimp only at hm1
      rcases ob2 with _ | ob2
      ·
       replace hob2 := hob2 rfl
       refine V.region ?_
       refine VO.cons rfl (V1.int rfl rfl rfl rfl rfl lt0 ?_)
       refine VO.cons rfl (V1.move rfl rfl rfl lt0 ?_)
       refine VO.nil ?_
       exact ⟨(m0, (cartons1, (IntKind.i64.wrap (v + (1 : Int)))), none), ⟨hl1 _ (Option.some.inj hm1).symm, (fun _ => hob2)⟩, Nat.lt_succ_self _, Keeps.mk (ks := []) rfl ⟨rfl, rfl, rfl, rfl, rfl, trivial⟩ (rfl) rfl⟩
      ·
       refine V.region ?_
       refine VO.cons rfl (V1.int rfl rfl rfl rfl rfl lt0 ?_)
       refine VO.cons rfl (V1.move rfl rfl rfl lt0 ?_)
       refine VO.nil ?_
       exact ⟨(m0, (cartons1, (IntKind.i64.wrap (v + (1 : Int)))), (some ob2)), ⟨hl1 _ (Option.some.inj hm1).symm, (fun e => by cases e)⟩, Nat.lt_succ_self _, Keeps.mk (ks := [0]) rfl ⟨rfl, rfl, rfl, rfl, rfl, trivial⟩ (⟨_, _, rfl, rfl, rfl⟩) rfl⟩
    ·
     replace hm1 := cond_f hc1 hm1
     refine V.exit ?_
     obtain rfl := hr1 _ (Option.some.inj hm1).symm
     exact ⟨(cartons0, none), ⟨rfl, (fun _ => hob1)⟩, Keeps.mk (ks := []) rfl ⟨rfl, trivial⟩ (rfl) rfl⟩
   ·
    show V _ _ _ ⟨69, [(6, .sref ob1 5 0 (List.length cartons0)), (29, .int .i64 v), (0, .vl ρ0 5 (List.map (encCarton ρ0) list)), (27, .vl ρ1 1 (List.map encInt files)), (28, .int .i64 (files.length : Int))], [(ob1, ⟨5, List.map (encCarton ρ0) cartons0⟩)]⟩
    refine V.seq ?_
    refine V.region ?_
    refine VO.cons rfl (V1.int rfl rfl rfl rfl rfl lt0 ?_)
    refine VO.nil ?_
    refine V.seq ?_
    refine V.cond rfl (fun hc1 => ?_) (fun hc1 => ?_)
    ·
     replace hm1 := cond_t hc1 hm1
     refine V.skip ?_
     refine V.seq ?_
     replace hm1 := bindO hm1; rcases hm1 with ⟨j0, hm2, hm1⟩
     refine V.cutT (D := (List Carton) × (Nat)) (fun ⟨cartons1, b0⟩ => ⟨69, [(6, .sref b0 5 0 (List.length cartons1)), (0, .vl ρ0 5 (List.map (encCarton ρ0) list)), (27, .vl ρ1 1 (List.map encInt files)), (28, .int .i64 (files.length : Int)), (29, .int .i64 v)], [(b0, ⟨5, List.map (encCarton ρ0) cartons1⟩)]⟩) (fun ⟨cartons1, b0⟩ => (.inl cartons1 = j0)) ?_ ?_
     ·
      refine V.block ?_
      refine V.seq ?_
      replace hm2 := asrt_some hm2; rcases hm2 with ⟨hh3, hm2⟩
      refine V.region ?_
      refine VO.cons rfl (V1.indexI rfl rfl esz_36 rfl rfl hh3 lt0 ?_)
      refine VO.cons rfl (V1.loadPin rfl rfl tyk_3 rfl rfl lt0 ?_)
      refine VO.cons rfl (V1.assign rfl rfl rfl lt0 ?_)
      refine VO.nil ?_
      refine V.seq ?_
      replace hm2 := bindO hm2; rcases hm2 with ⟨y4, hh4, hm2⟩
      refine V.region ?_
      refine VO.cons rfl (V1.move rfl rfl rfl lt0 ?_)
      refine VO.cons rfl (V1.move rfl rfl rfl lt0 ?_)
      refine VO.cons rfl (V1.call rfl rfl rfl cok_74 rfl (ok_impl_cartonWith hh4) rfl lt0 ?_)
      rintro _ _ ⟨rfl, rfl⟩
      refine VO.cons rfl (V1.assign rfl rfl rfl lt0 ?_)
      refine VO.nil ?_
      refine V.keep 69 [0, 6, 9, 27, 28, 29] [0] (E0 := [(0, .vl ρ0 5 (List.map (encCarton ρ0) list)), (6, .sref ob1 5 0 (List.length cartons0)), (9, .int .i64 y4), (27, .vl ρ1 1 (List.map encInt files)), (28, .int .i64 (files.length : Int)), (29, .int .i64 v)]) (H0 := [(ob1, ⟨5, List.map (encCarton ρ0) cartons0⟩)]) rfl (⟨_, _, rfl, rfl, ⟨_, _, rfl, rfl, ⟨_, _, rfl, rfl, ⟨_, _, rfl, rfl, ⟨_, _, rfl, rfl, ⟨_, _, rfl, rfl, rfl⟩⟩⟩⟩⟩⟩) (⟨_, _, rfl, rfl, rfl⟩) rfl ?_
      refine V.seq ?_
      refine V.seq ?_
      refine V.region ?_
      refine VO.cons rfl (V1.move rfl rfl rfl lt0 ?_)
      refine VO.cons rfl (V1.int rfl rfl rfl rfl rfl lt0 ?_)
      refine VO.nil ?_
      refine V.cond rfl (fun hc2 => ?_) (fun hc2 => ?_)
      ·
       replace hm2 := cond_t hc2 hm2
       refine V.seq ?_
       refine V.region ?_
       refine VO.cons rfl (V1.assign rfl rfl rfl lt0 ?_)
       refine VO.cons rfl (V1.assign rfl rfl rfl lt0 ?_)
       refine VO.nil ?_
       refine V.keep 69 [4, 5] [] (E0 := [(4, .nils), (5, .bool false)]) (H0 := []) rfl (⟨_, _, rfl, rfl, ⟨_, _, rfl, rfl, rfl⟩⟩) (rfl) rfl ?_
       refine V.ret ?_
       obtain rfl := Option.some.inj hm2
       change some _ = some _ at hm1
       obtain rfl := hr1 _ (Option.some.inj hm1).symm
       change some _ = some _ at hm0
       obtain rfl := Option.some.inj hm0
       exact ⟨_, _, ⟨_, _, rfl, rfl, ⟨_, _, rfl, rfl, rfl⟩⟩, List.Sublist.refl _, none, (fun _ => rfl), rfl, rfl⟩
      ·
       replace hm2 := cond_f hc2 hm2
       refine V.skip ?_
       refine V.seq ?_
       replace hm2 := asrt_some hm2; rcases hm2 with ⟨hh5, hm2⟩
       replace hm2 := bindO hm2; rcases hm2 with ⟨y5, hh6, hm2⟩
       refine V.region ?_
       refine VO.cons rfl (V1.move rfl rfl rfl lt0 ?_)
       refine VO.cons rfl (V1.move rfl rfl rfl lt0 ?_)
       refine VO.cons rfl (V1.move rfl rfl rfl lt0 ?_)
       refine VO.cons rfl (V1.indexI rfl rfl esz_39 rfl rfl hh5 lt0 ?_)
       refine VO.cons rfl (V1.fieldPin rfl rfl fo_67_0 rfl lt0 ?_)
       refine VO.cons rfl (V1.loadPin rfl rfl tyk_3 rfl rfl lt0 ?_)
       refine VO.cons rfl (V1.callL (rn + 1) [ob1] [.vl (rn + 1) 5 (List.map (encCarton ρ0) cartons0), .int .i64 ((list.getD (Int.toNat y4) default).Id)] rfl rfl rfl cok_65 rfl ⟨_, _, rfl, Lend.srMap 0 rfl (fun _ => rfl) (.head _), ⟨_, _, rfl, .same _, rfl⟩⟩ (bwCons (k := 0) rfl bwNil) (ok_impl_cartonAt hh6) rfl (⟨(by first | omega | (dsimp only; omega)), by rintro _ _ ⟨rfl, rfl⟩; exact ⟨rfl, by simp⟩⟩) lt0 ?_)
       rintro _ _ ⟨rfl, rfl⟩
       refine VO.cons rfl (V1.int rfl rfl rfl rfl rfl lt0 ?_)
       refine VO.nil ?_
       refine V.keep 69 [0, 6, 9, 27, 28, 29, 45] [0] (E0 := [(0, .vl ρ0 5 (List.map (encCarton ρ0) list)), (6, .sref ob1 5 0 (List.length cartons0)), (9, .int .i64 y4), (27, .vl ρ1 1 (List.map encInt files)), (28, .int .i64 (files.length : Int)), (29, .int .i64 v), (45, .bool (decide (y5 < (0 : Int))))]) (H0 := [(ob1, ⟨5, List.map (encCarton ρ0) cartons0⟩)]) rfl (⟨_, _, rfl, rfl, ⟨_, _, rfl, rfl, ⟨_, _, rfl, rfl, ⟨_, _, rfl, rfl, ⟨_, _, rfl, rfl, ⟨_, _, rfl, rfl, ⟨_, _, rfl, rfl, rfl⟩⟩⟩⟩⟩⟩⟩) (⟨_, _, rfl, rfl, rfl⟩) rfl ?_
       refine V.cond rfl (fun hc3 => ?_) (fun hc3 => ?_)
       ·
        replace hm2 := cond_t hc3 hm2
        replace hm2 := asrt_some hm2; rcases hm2 with ⟨hh7, hm2⟩
        replace hm2 := asrt_some hm2; rcases hm2 with ⟨hh8, hm2⟩
        refine V.region ?_
        refine VO.cons rfl (V1.move rfl rfl rfl lt0 ?_)
        refine VO.cons rfl (V1.move rfl rfl rfl lt0 ?_)
        refine VO.cons rfl (V1.move rfl rfl rfl lt0 ?_)
        refine VO.cons rfl (V1.indexI rfl rfl esz_39 rfl rfl hh7 lt0 ?_)
        refine VO.cons rfl (V1.loadPinAll rfl rfl tyk_67 rfl rfl lt0 ?_)
        refine VO.cons rfl (V1.buildSliceT (f := (encCarton ρ0)) ([(list.getD (Int.toNat y4) default)] : List Carton) rfl rfl esz_39 zk_67 rfl rfl rfl rfl rfl rfl rfl lt0 ?_)
        intro b1
        refine VO.cons rfl (V1.appendMap (k := 1) (f := (encCarton ρ0)) (l := cartons0) (m := ([(list.getD (Int.toNat y4) default)] : List Carton)) rfl rfl rfl rfl rfl esz_39 eby_39 zk_67 rfl rfl rfl (SrcOf.srMap (k := 0) rfl isl_39) hh8 lt0 ?_)
        intro b2
        refine VO.cons rfl (V1.assign rfl rfl rfl lt0 ?_)
        refine VO.nil ?_
        exact ⟨((cartons0 ++ ([(list.getD (Int.toNat y4) default)] : List Carton)), b2), Option.some.inj hm2, Keeps.mk (ks := [0]) rfl ⟨rfl, rfl, rfl, rfl, rfl, trivial⟩ (⟨_, _, rfl, rfl, rfl⟩) rfl⟩
       ·
        replace hm2 := cond_f hc3 hm2
        refine V.skip ?_
        exact ⟨(cartons0, ob1), Option.some.inj hm2, Keeps.mk (ks := [0]) rfl ⟨rfl, rfl, rfl, rfl, rfl, trivial⟩ (⟨_, _, rfl, rfl, rfl⟩) rfl⟩
     ·
      rintro ⟨cartons1, b0⟩ rfl
      try dsimp only at hm1
      refine V.region ?_
      refine VO.cons rfl (V1.int rfl rfl rfl rfl rfl lt0 ?_)
      refine VO.cons rfl (V1.move rfl rfl rfl lt0 ?_)
      refine VO.nil ?_
      exact ⟨(m0, (cartons1, (IntKind.i64.wrap (v + (1 : Int)))), (some b0)), ⟨hl1 _ (Option.some.inj hm1).symm, (fun e => by cases e)⟩, Nat.lt_succ_self _, Keeps.mk (ks := [0]) rfl ⟨rfl, rfl, rfl, rfl, rfl, trivial⟩ (⟨_, _, rfl, rfl, rfl⟩) rfl⟩
    ·
     replace hm1 := cond_f hc1 hm1
     refine V.exit ?_
     obtain rfl := hr1 _ (Option.some.inj hm1).symm
     exact ⟨(cartons0, (some ob1)), ⟨rfl, (fun e => by cases e)⟩, Keeps.mk (ks := [0]) rfl ⟨rfl, trivial⟩ (⟨_, _, rfl, rfl, rfl⟩) rfl⟩
  ·
   rintro ⟨cartons, ob0⟩ ⟨rfl, hob0⟩
   try dsimp only at hm0
   rcases ob0 with _ | ob0
   ·
    replace hob0 := hob0 rfl
    refine V.seq ?_
    replace hm0 := bindO hm0; rcases hm0 with ⟨y6, hh9, hm0⟩
    replace hm0 := asrt_some hm0; rcases hm0 with ⟨hh10, hm0⟩
    refine V.region ?_
    refine VO.cons rfl (V1.move rfl rfl rfl lt0 ?_)
    refine VO.cons rfl (V1.call rfl rfl rfl cok_75 rfl (ok_slices_SortFunc_impl_Carton_impl_Carton hh9 (oq := none) (x := cartons) (fun _ => hob0) (ρ0 := ρ0) (fm := (fun x0 x1 => M.impl_PullList_1 x0 x1)) cok_76 (fun _ _ _ h => ok_impl_PullList_1 h)) rfl lt0 ?_)
    rintro _ _ ⟨rfl, rfl⟩
    refine VO.nil ?_
    refine V.seq ?_
    refine V.region ?_
    refine VO.cons rfl (V1.assign rfl rfl rfl lt0 ?_)
    refine VO.nil ?_
    refine V.seq ?_
    refine V.seq ?_
    refine V.region ?_
    refine VO.cons rfl (V1.move rfl rfl rfl lt0 ?_)
    refine VO.cons rfl (V1.lenNilsE (l := y6) (List.length_eq_zero_iff.1 (hh10.trans (congrArg List.length hob0))) rfl rfl rfl rfl rfl rfl isl_39 lt0 ?_)
    refine VO.cons rfl (V1.move rfl rfl rfl lt0 ?_)
    refine VO.nil ?_
    replace hm0 := bindO hm0; rcases hm0 with ⟨e1, he1, hm0⟩
    refine V.cutT (D := (List Int) × (Option Nat)) (fun ⟨ids, ob2⟩ => ⟨69, [(10, optS 1 ob2 (List.length ids))], optH 1 ob2 (List.map encInt ids)⟩) (fun ⟨ids, ob2⟩ => (ids = e1) ∧ (ob2 = none → ids = [])) ?_ ?_
    ·
     refine V.block ?_
     refine V.weakenK (Keeps.nilsE (l := y6) 56 rn 5 (encCarton rn) (List.length_eq_zero_iff.1 (hh10.trans (congrArg List.length hob0))) rfl rfl) ?_
     refine V.keep 69 [10, 58, 56, 57] [] (E0 := [(10, .nils), (58, .int .i64 (0 : Int)), (56, .vl rn 5 (List.map (encCarton rn) y6)), (57, .int .i64 (y6.length : Int))]) (H0 := []) rfl (⟨_, _, rfl, rfl, ⟨_, _, rfl, rfl, ⟨_, _, rfl, rfl, ⟨_, _, rfl, rfl, rfl⟩⟩⟩⟩) (rfl) rfl ?_
     refine V.loopE (D := Nat × (List Int × Int) × (Option Nat)) (fun ⟨n1, ⟨ids0, v0⟩, ob3⟩ => [(10, optS 1 ob3 (List.length ids0)), (58, .int .i64 v0)]) (fun ⟨n1, ⟨ids0, v0⟩, ob3⟩ => optH 1 ob3 (List.map encInt ids0)) (fun ⟨n1, ⟨ids0, v0⟩, ob3⟩ => loopO (M.impl_PullList_l1 y6) n1 (ids0, v0) = some e1 ∧ (ob3 = none → ids0 = [])) (fun ⟨n1, _, _⟩ => n1) (rounds, (([] : List Int), (0 : Int)), none) rfl ⟨he1, (fun _ => rfl)⟩ ?_
     rintro ⟨n1, ⟨ids0, v0⟩, ob3⟩ ⟨hP1, hob3⟩
     obtain ⟨m1, y7, rfl, hm1, hl1, hr1⟩ := loop_head hP1
     unfold M.impl_PullList_l1 at hm1; dsimp only at hm1
     rcases ob3 with _ | ob3
     ·
      replace hob3 := hob3 rfl
      show V _ _ _ ⟨69, [(10, .nils), (58, .int .i64 v0), (56, .vl rn 5 (List.map (encCarton rn) y6)), (57, .int .i64 (y6.length : Int))], []⟩
      refine V.seq ?_
      refine V.region ?_
      refine VO.cons rfl (V1.int rfl rfl rfl rfl rfl lt0 ?_)
      refine VO.nil ?_
      refine V.seq ?_
      refine V.cond rfl (fun hc4 => ?_) (fun hc4 => ?_)
      ·
       replace hm1 := cond_t hc4 hm1
       refine V.skip ?_
       refine V.seq ?_
       refine V.block ?_
       refine V.seq ?_
       replace hm1 := asrt_some hm1; rcases hm1 with ⟨hh11, hm1⟩
       refine V.region ?_
       refine VO.cons rfl (V1.indexI rfl rfl esz_39 rfl rfl hh11 lt0 ?_)
       refine VO.cons rfl (V1.loadPinAll rfl rfl tyk_67 rfl rfl lt0 ?_)
       refine VO.cons rfl (V1.alloc rfl rfl zk_67 lt0 ?_)
       intro b3
       refine VO.cons rfl (V1.storeRefAll (k := 0) rfl rfl tyk_67 rfl rfl rfl rfl rfl rfl ?_)
       refine VO.nil ?_
       replace hm1 := asrt_some hm1; rcases hm1 with ⟨hh12, hm1⟩
       refine V.region ?_
       refine VO.cons rfl (V1.move rfl rfl rfl lt0 ?_)
       refine VO.cons rfl (V1.fieldRef rfl rfl fo_67_0 rfl lt0 ?_)
       refine VO.cons rfl (V1.loadRef (k := 0) rfl rfl tyk_3 rfl rfl rfl rfl rfl lt0 ?_)
       refine VO.cons rfl (V1.buildSliceT (f := encInt) ([(y6.getD (Int.toNat v0) default).Id] : List Int) rfl rfl esz_36 zk_3 rfl rfl rfl rfl rfl rfl rfl lt0 ?_)
       intro b4
       refine VO.cons rfl (V1.appendNilE (f := encInt) (l := ids0) (m := ([(y6.getD (Int.toNat v0) default).Id] : List Int)) hob3 rfl rfl rfl rfl rfl esz_36 eby_36 zk_3 rfl rfl rfl (SrcOf.srMap (k := 0) rfl isl_36) rfl hh12 lt0 ?_)
       intro b5
       refine VO.cons rfl (V1.assign rfl rfl rfl lt0 ?_)
       refine VO.nil ?_
       refine V.keep 69 [10, 56, 57, 58] [0] (E0 := [(10, .sref b5 1 0 (List.length (ids0 ++ ([(y6.getD (Int.toNat v0) default).Id] : List Int)))), (56, .vl rn 5 (List.map (encCarton rn) y6)), (57, .int .i64 (y6.length : Int)), (58, .int .i64 v0)]) (H0 := [(b5, ⟨1, List.map encInt (ids0 ++ ([(y6.getD (Int.toNat v0) default).Id] : List Int))⟩)]) rfl (⟨_, _, rfl, rfl, ⟨_, _, rfl, rfl, ⟨_, _, rfl, rfl, ⟨_, _, rfl, rfl, rfl⟩⟩⟩⟩) (⟨_, _, rfl, rfl, rfl⟩) rfl ?_
       refine V.region ?_
       refine VO.cons rfl (V1.int rfl rfl rfl rfl rfl lt0 ?_)
       refine VO.cons rfl (V1.move rfl rfl rfl lt0 ?_)
       refine VO.nil ?_
       exact ⟨(m1, ((ids0 ++ ([(y6.getD (Int.toNat v0) default).Id] : List Int)), (IntKind.i64.wrap (v0 + (1 : Int)))), (some b5)), ⟨hl1 _ (Option.some.inj hm1).symm, (fun e => by cases e)⟩, Nat.lt_succ_self _, Keeps.mk (ks := [0]) rfl ⟨rfl, rfl, rfl, rfl, trivial⟩ (⟨_, _, rfl, rfl, rfl⟩) rfl⟩
      ·
       replace hm1 := cond_f hc4 hm1
       refine V.exit ?_
       obtain rfl := hr1 _ (Option.some.inj hm1).symm
       exact ⟨(ids0, none), ⟨rfl, (fun _ => hob3)⟩, Keeps.mk (ks := []) rfl ⟨rfl, trivial⟩ (rfl) rfl⟩
     ·
      show V _ _ _ ⟨69, [(10, .sref ob3 1 0 (List.length ids0)), (58, .int .i64 v0), (56, .vl rn 5 (List.map (encCarton rn) y6)), (57, .int .i64 (y6.length : Int))], [(ob3, ⟨1, List.map encInt ids0⟩)]⟩
      refine V.seq ?_
      refine V.region ?_
      refine VO.cons rfl (V1.int rfl rfl rfl rfl rfl lt0 ?_)
      refine VO.nil ?_
      refine V.seq ?_
      refine V.cond rfl (fun hc4 => ?_) (fun hc4 => ?_)
      ·
       replace hm1 := cond_t hc4 hm1
       refine V.skip ?_
       refine V.seq ?_
       refine V.block ?_
       refine V.seq ?_
       replace hm1 := asrt_some hm1; rcases hm1 with ⟨hh11, hm1⟩
       refine V.region ?_
       refine VO.cons rfl (V1.indexI rfl rfl esz_39 rfl rfl hh11 lt0 ?_)
       refine VO.cons rfl (V1.loadPinAll rfl rfl tyk_67 rfl rfl lt0 ?_)
       refine VO.cons rfl (V1.alloc rfl rfl zk_67 lt0 ?_)
       intro b3
       refine VO.cons rfl (V1.storeRefAll (k := 0) rfl rfl tyk_67 rfl rfl rfl rfl rfl rfl ?_)
       refine VO.nil ?_
       replace hm1 := asrt_some hm1; rcases hm1 with ⟨hh12, hm1⟩
       refine V.region ?_
       refine VO.cons rfl (V1.move rfl rfl rfl lt0 ?_)
       refine VO.cons rfl (V1.fieldRef rfl rfl fo_67_0 rfl lt0 ?_)
       refine VO.cons rfl (V1.loadRef (k := 0) rfl rfl tyk_3 rfl rfl rfl rfl rfl lt0 ?_)
       refine VO.cons rfl (V1.buildSliceT (f := encInt) ([(y6.getD (Int.toNat v0) default).Id] : List Int) rfl rfl esz_36 zk_3 rfl rfl rfl rfl rfl rfl rfl lt0 ?_)
       intro b4
       refine VO.cons rfl (V1.appendMap (k := 2) (f := encInt) (l := ids0) (m := ([(y6.getD (Int.toNat v0) default).Id] : List Int)) rfl rfl rfl rfl rfl esz_36 eby_36 zk_3 rfl rfl rfl (SrcOf.srMap (k := 0) rfl isl_36) hh12 lt0 ?_)
       intro b5
       refine VO.cons rfl (V1.assign rfl rfl rfl lt0 ?_)
       refine VO.nil ?_
       refine V.keep 69 [10, 56, 57, 58] [0] (E0 := [(10, .sref b5 1 0 (List.length (ids0 ++ ([(y6.getD (Int.toNat v0) default).Id] : List Int)))), (56, .vl rn 5 (List.map (encCarton rn) y6)), (57, .int .i64 (y6.length : Int)), (58, .int .i64 v0)]) (H0 := [(b5, ⟨1, List.map encInt (ids0 ++ ([(y6.getD (Int.toNat v0) default).Id] : List Int))⟩)]) rfl (⟨_, _, rfl, rfl, ⟨_, _, rfl, rfl, ⟨_, _, rfl, rfl, ⟨_, _, rfl, rfl, rfl⟩⟩⟩⟩) (⟨_, _, rfl, rfl, rfl⟩) rfl ?_
       refine V.region ?_
       refine VO.cons rfl (V1.int rfl rfl rfl rfl rfl lt0 ?_)
       refine VO.cons rfl (V1.move rfl rfl rfl lt0 ?_)
       refine VO.nil ?_
       exact ⟨(m1, ((ids0 ++ ([(y6.getD (Int.toNat v0) default).Id] : List Int)), (IntKind.i64.wrap (v0 + (1 : Int)))), (some b5)), ⟨hl1 _ (Option.some.inj hm1).symm, (fun e => by cases e)⟩, Nat.lt_succ_self _, Keeps.mk (ks := [0]) rfl ⟨rfl, rfl, rfl, rfl, trivial⟩ (⟨_, _, rfl, rfl, rfl⟩) rfl⟩
      ·
       replace hm1 := cond_f hc4 hm1
       refine V.exit ?_
       obtain rfl := hr1 _ (Option.some.inj hm1).symm
       exact ⟨(ids0, (some ob3)), ⟨rfl, (fun e => by cases e)⟩, Keeps.mk (ks := [0]) rfl ⟨rfl, trivial⟩ (⟨_, _, rfl, rfl, rfl⟩) rfl⟩
    ·
     rintro ⟨ids, ob2⟩ ⟨rfl, hob2⟩
     try dsimp only at hm0
     rcases ob2 with _ | ob2
     ·
      replace hob2 := hob2 rfl
      refine V.seq ?_
      refine V.region ?_
      refine VO.cons rfl (V1.move rfl rfl rfl lt0 ?_)
      refine VO.cons rfl (V1.assign rfl rfl rfl lt0 ?_)
      refine VO.cons rfl (V1.assign rfl rfl rfl lt0 ?_)
      refine VO.nil ?_
      refine V.keep 69 [4, 5] [] (E0 := [(4, .nils), (5, .bool true)]) (H0 := []) rfl (⟨_, _, rfl, rfl, ⟨_, _, rfl, rfl, rfl⟩⟩) (rfl) rfl ?_
      refine V.ret ?_
      obtain rfl := Option.some.inj hm0
      exact ⟨_, _, ⟨_, _, rfl, rfl, ⟨_, _, rfl, rfl, rfl⟩⟩, List.Sublist.refl _, none, (fun _ => hob2), rfl, rfl⟩
     ·
      refine V.seq ?_
      refine V.region ?_
      refine VO.cons rfl (V1.move rfl rfl rfl lt0 ?_)
      refine VO.cons rfl (V1.assign rfl rfl rfl lt0 ?_)
      refine VO.cons rfl (V1.assign rfl rfl rfl lt0 ?_)
      refine VO.nil ?_
      refine V.keep 69 [4, 5] [0] (E0 := [(4, .sref ob2 1 0 (List.length ids)), (5, .bool true)]) (H0 := [(ob2, ⟨1, List.map encInt ids⟩)]) rfl (⟨_, _, rfl, rfl, ⟨_, _, rfl, rfl, rfl⟩⟩) (⟨_, _, rfl, rfl, rfl⟩) rfl ?_
      refine V.ret ?_
      obtain rfl := Option.some.inj hm0
      exact ⟨_, _, ⟨_, _, rfl, rfl, ⟨_, _, rfl, rfl, rfl⟩⟩, List.Sublist.refl _, some ob2, (fun e => by cases e), rfl, rfl⟩
   ·
    refine V.seq ?_
    replace hm0 := bindO hm0; rcases hm0 with ⟨y6, hh9, hm0⟩
    replace hm0 := asrt_some hm0; rcases hm0 with ⟨hh10, hm0⟩
    refine V.region ?_
    refine VO.cons rfl (V1.move rfl rfl rfl lt0 ?_)
    refine VO.cons rfl (V1.callM 0 (rn + 1) [] [.sref ob0 5 0 (List.length cartons), .fn 76 []] (p := (ob0, ⟨5, List.map (encCarton ρ0) cartons⟩)) rfl rfl rfl cok_75 rfl rfl ⟨_, _, rfl, .same _, ⟨_, _, rfl, Lend.fn rfl, rfl⟩⟩ bwNil (ok_slices_SortFunc_impl_Carton_impl_Carton hh9 (oq := some ob0) (fun e => by cases e) (fm := (fun x0 x1 => M.impl_PullList_1 x0 x1)) cok_76 (fun _ _ _ h => ok_impl_PullList_1 h)) rfl (.inl rfl) lt0 ?_)
    rintro _ _ ⟨rfl, rfl⟩
    refine VO.weakenK (Keeps.say 6 (y := .sref ob0 5 0 (List.length y6)) rfl (congrArg (PV.sref ob0 5 0) hh10.symm)) ?_
    refine VO.nil ?_
    refine V.seq ?_
    refine V.region ?_
    refine VO.cons rfl (V1.assign rfl rfl rfl lt0 ?_)
    refine VO.nil ?_
    refine V.seq ?_
    refine V.seq ?_
    refine V.region ?_
    refine VO.cons rfl (V1.move rfl rfl rfl lt0 ?_)
    refine VO.cons rfl (V1.lenSref rfl rfl rfl rfl rfl rfl isl_39 lt0 ?_)
    refine VO.cons rfl (V1.move rfl rfl rfl lt0 ?_)
    refine VO.nil ?_
    replace hm0 := bindO hm0; rcases hm0 with ⟨e1, he1, hm0⟩
    refine V.cutT (D := (List Int) × (Option Nat)) (fun ⟨ids, ob2⟩ => ⟨69, [(10, optS 1 ob2 (List.length ids))], optH 1 ob2 (List.map encInt ids)⟩) (fun ⟨ids, ob2⟩ => (ids = e1) ∧ (ob2 = none → ids = [])) ?_ ?_
    ·
     refine V.block ?_
     refine V.keep 69 [10, 58, 56, 57] [0] (E0 := [(10, .nils), (58, .int .i64 (0 : Int)), (56, .sref ob0 5 0 (List.length y6)), (57, .int .i64 (y6.length : Int))]) (H0 := [(ob0, ⟨5, List.map (encCarton ρ0) y6⟩)]) rfl (⟨_, _, rfl, rfl, ⟨_, _, rfl, rfl, ⟨_, _, rfl, rfl, ⟨_, _, rfl, rfl, rfl⟩⟩⟩⟩) (⟨_, _, rfl, rfl, rfl⟩) rfl ?_
     refine V.loopE (D := Nat × (List Int × Int) × (Option Nat)) (fun ⟨n1, ⟨ids0, v0⟩, ob3⟩ => [(10, optS 1 ob3 (List.length ids0)), (58, .int .i64 v0)]) (fun ⟨n1, ⟨ids0, v0⟩, ob3⟩ => optH 1 ob3 (List.map encInt ids0)) (fun ⟨n1, ⟨ids0, v0⟩, ob3⟩ => loopO (M.impl_PullList_l1 y6) n1 (ids0, v0) = some e1 ∧ (ob3 = none → ids0 = [])) (fun ⟨n1, _, _⟩ => n1) (rounds, (([] : List Int), (0 : Int)), none) rfl ⟨he1, (fun _ => rfl)⟩ ?_
     rintro ⟨n1, ⟨ids0, v0⟩, ob3⟩ ⟨hP1, hob3⟩
     obtain ⟨m1, y7, rfl, hm1, hl1, hr1⟩ := loop_head hP1
     unfold M.impl_PullList_l1 at hm1; dsimp only at hm1
     rcases ob3 with _ | ob3
     ·
      replace hob3 := hob3 rfl
      show V _ _ _ ⟨69, [(10, .nils), (58, .int .i64 v0), (56, .sref ob0 5 0 (List.length y6)), (57, .int .i64 (y6.length : Int))], [(ob0, ⟨5, List.map (encCarton ρ0) y6⟩)]⟩
      refine V.seq ?_
      refine V.region ?_
      refine VO.cons rfl (V1.int rfl rfl rfl rfl rfl lt0 ?_)
      refine VO.nil ?_
      refine V.seq ?_
      refine V.cond rfl (fun hc4 => ?_) (fun hc4 => ?_)
      ·
       replace hm1 := cond_t hc4 hm1
       refine V.skip ?_
       refine V.seq ?_
       refine V.block ?_
       refine V.seq ?_
       replace hm1 := asrt_some hm1; rcases hm1 with ⟨hh11, hm1⟩
       refine V.region ?_
       refine VO.cons rfl (V1.indexSr rfl rfl esz_39 rfl rfl hh11 lt0 ?_)
       refine VO.cons rfl (V1.loadMapAll (k := 0) (f := (encCarton ρ0)) rfl rfl tyk_67 rfl rfl (by simpa using natLt hh11.1 hh11.2) rfl lt0 ?_)
       refine VO.cons rfl (V1.alloc rfl rfl zk_67 lt0 ?_)
       intro b3
       refine VO.cons rfl (V1.storeRefAll (k := 0) rfl rfl tyk_67 rfl rfl rfl rfl rfl rfl ?_)
       refine VO.nil ?_
       replace hm1 := asrt_some hm1; rcases hm1 with ⟨hh12, hm1⟩
       refine V.region ?_
       refine VO.cons rfl (V1.move rfl rfl rfl lt0 ?_)
       refine VO.cons rfl (V1.fieldRef rfl rfl fo_67_0 rfl lt0 ?_)
       refine VO.cons rfl (V1.loadRef (k := 0) rfl rfl tyk_3 rfl rfl rfl rfl rfl lt0 ?_)
       refine VO.cons rfl (V1.buildSliceT (f := encInt) ([(y6.getD (Int.toNat v0) default).Id] : List Int) rfl rfl esz_36 zk_3 rfl rfl rfl rfl rfl rfl rfl lt0 ?_)
       intro b4
       refine VO.cons rfl (V1.appendNilE (f := encInt) (l := ids0) (m := ([(y6.getD (Int.toNat v0) default).Id] : List Int)) hob3 rfl rfl rfl rfl rfl esz_36 eby_36 zk_3 rfl rfl rfl (SrcOf.srMap (k := 0) rfl isl_36) rfl hh12 lt0 ?_)
       intro b5
       refine VO.cons rfl (V1.assign rfl rfl rfl lt0 ?_)
       refine VO.nil ?_
       refine V.keep 69 [10, 56, 57, 58] [0, 3] (E0 := [(10, .sref b5 1 0 (List.length (ids0 ++ ([(y6.getD (Int.toNat v0) default).Id] : List Int)))), (56, .sref ob0 5 0 (List.length y6)), (57, .int .i64 (y6.length : Int)), (58, .int .i64 v0)]) (H0 := [(b5, ⟨1, List.map encInt (ids0 ++ ([(y6.getD (Int.toNat v0) default).Id] : List Int))⟩), (ob0, ⟨5, List.map (encCarton ρ0) y6⟩)]) rfl (⟨_, _, rfl, rfl, ⟨_, _, rfl, rfl, ⟨_, _, rfl, rfl, ⟨_, _, rfl, rfl, rfl⟩⟩⟩⟩) (⟨_, _, rfl, rfl, ⟨_, _, rfl, rfl, rfl⟩⟩) rfl ?_
       refine V.region ?_
       refine VO.cons rfl (V1.int rfl rfl rfl rfl rfl lt0 ?_)
       refine VO.cons rfl (V1.move rfl rfl rfl lt0 ?_)
       refine VO.nil ?_
       exact ⟨(m1, ((ids0 ++ ([(y6.getD (Int.toNat v0) default).Id] : List Int)), (IntKind.i64.wrap (v0 + (1 : Int)))), (some b5)), ⟨hl1 _ (Option.some.inj hm1).symm, (fun e => by cases e)⟩, Nat.lt_succ_self _, Keeps.mk (ks := [0, 1]) rfl ⟨rfl, rfl, rfl, rfl, trivial⟩ (⟨_, _, rfl, rfl, ⟨_, _, rfl, rfl, rfl⟩⟩) rfl⟩
      ·
       replace hm1 := cond_f hc4 hm1
       refine V.exit ?_
       obtain rfl := hr1 _ (Option.some.inj hm1).symm
       exact ⟨(ids0, none), ⟨rfl, (fun _ => hob3)⟩, Keeps.mk (ks := []) rfl ⟨rfl, trivial⟩ (rfl) rfl⟩
     ·
      show V _ _ _ ⟨69, [(10, .sref ob3 1 0 (List.length ids0)), (58, .int .i64 v0), (56, .sref ob0 5 0 (List.length y6)), (57, .int .i64 (y6.length : Int))], [(ob3, ⟨1, List.map encInt ids0⟩), (ob0, ⟨5, List.map (encCarton ρ0) y6⟩)]⟩
      refine V.seq ?_
      refine V.region ?_
      refine VO.cons rfl (V1.int rfl rfl rfl rfl rfl lt0 ?_)
      refine VO.nil ?_
      refine V.seq ?_
      refine V.cond rfl (fun hc4 => ?_) (fun hc4 => ?_)
      ·
       replace hm1 := cond_t hc4 hm1
       refine V.skip ?_
       refine V.seq ?_
       refine V.block ?_
       refine V.seq ?_
       replace hm1 := asrt_some hm1; rcases hm1 with ⟨hh11, hm1⟩
       refine V.region ?_
       refine VO.cons rfl (V1.indexSr rfl rfl esz_39 rfl rfl hh11 lt0 ?_)
       refine VO.cons rfl (V1.loadMapAll (k := 1) (f := (encCarton ρ0)) rfl rfl tyk_67 rfl rfl (by simpa using natLt hh11.1 hh11.2) rfl lt0 ?_)
       refine VO.cons rfl (V1.alloc rfl rfl zk_67 lt0 ?_)
       intro b3
       refine VO.cons rfl (V1.storeRefAll (k := 0) rfl rfl tyk_67 rfl rfl rfl rfl rfl rfl ?_)
       refine VO.nil ?_
       replace hm1 := asrt_some hm1; rcases hm1 with ⟨hh12, hm1⟩
       refine V.region ?_
       refine VO.cons rfl (V1.move rfl rfl rfl lt0 ?_)
       refine VO.cons rfl (V1.fieldRef rfl rfl fo_67_0 rfl lt0 ?_)
       refine VO.cons rfl (V1.loadRef (k := 0) rfl rfl tyk_3 rfl rfl rfl rfl rfl lt0 ?_)
       refine VO.cons rfl (V1.buildSliceT (f := encInt) ([(y6.getD (Int.toNat v0) default).Id] : List Int) rfl rfl esz_36 zk_3 rfl rfl rfl rfl rfl rfl rfl lt0 ?_)
       intro b4
       refine VO.cons rfl (V1.appendMap (k := 2) (f := encInt) (l := ids0) (m := ([(y6.getD (Int.toNat v0) default).Id] : List Int)) rfl rfl rfl rfl rfl esz_36 eby_36 zk_3 rfl rfl rfl (SrcOf.srMap (k := 0) rfl isl_36) hh12 lt0 ?_)
       intro b5
       refine VO.cons rfl (V1.assign rfl rfl rfl lt0 ?_)
       refine VO.nil ?_
       refine V.keep 69 [10, 56, 57, 58] [0, 3] (E0 := [(10, .sref b5 1 0 (List.length (ids0 ++ ([(y6.getD (Int.toNat v0) default).Id] : List Int)))), (56, .sref ob0 5 0 (List.length y6)), (57, .int .i64 (y6.length : Int)), (58, .int .i64 v0)]) (H0 := [(b5, ⟨1, List.map encInt (ids0 ++ ([(y6.getD (Int.toNat v0) default).Id] : List Int))⟩), (ob0, ⟨5, List.map (encCarton ρ0) y6⟩)]) rfl (⟨_, _, rfl, rfl, ⟨_, _, rfl, rfl, ⟨_, _, rfl, rfl, ⟨_, _, rfl, rfl, rfl⟩⟩⟩⟩) (⟨_, _, rfl, rfl, ⟨_, _, rfl, rfl, rfl⟩⟩) rfl ?_
       refine V.region ?_
       refine VO.cons rfl (V1.int rfl rfl rfl rfl rfl lt0 ?_)
       refine VO.cons rfl (V1.move rfl rfl rfl lt0 ?_)
       refine VO.nil ?_
       exact ⟨(m1, ((ids0 ++ ([(y6.getD (Int.toNat v0) default).Id] : List Int)), (IntKind.i64.wrap (v0 + (1 : Int)))), (some b5)), ⟨hl1 _ (Option.some.inj hm1).symm, (fun e => by cases e)⟩, Nat.lt_succ_self _, Keeps.mk (ks := [0, 1]) rfl ⟨rfl, rfl, rfl, rfl, trivial⟩ (⟨_, _, rfl, rfl, ⟨_, _, rfl, rfl, rfl⟩⟩) rfl⟩
      ·
       replace hm1 := cond_f hc4 hm1
       refine V.exit ?_
       obtain rfl := hr1 _ (Option.some.inj hm1).symm
       exact ⟨(ids0, (some ob3)), ⟨rfl, (fun e => by cases e)⟩, Keeps.mk (ks := [0]) rfl ⟨rfl, trivial⟩ (⟨_, _, rfl, rfl, rfl⟩) rfl⟩
    ·
     rintro ⟨ids, ob2⟩ ⟨rfl, hob2⟩
     try dsimp only at hm0
     rcases ob2 with _ | ob2
     ·
      replace hob2 := hob2 rfl
      refine V.seq ?_
      refine V.region ?_
      refine VO.cons rfl (V1.move rfl rfl rfl lt0 ?_)
      refine VO.cons rfl (V1.assign rfl rfl rfl lt0 ?_)
      refine VO.cons rfl (V1.assign rfl rfl rfl lt0 ?_)
      refine VO.nil ?_
      refine V.keep 69 [4, 5] [] (E0 := [(4, .nils), (5, .bool true)]) (H0 := []) rfl (⟨_, _, rfl, rfl, ⟨_, _, rfl, rfl, rfl⟩⟩) (rfl) rfl ?_
      refine V.ret ?_
      obtain rfl := Option.some.inj hm0
      exact ⟨_, _, ⟨_, _, rfl, rfl, ⟨_, _, rfl, rfl, rfl⟩⟩, List.Sublist.refl _, none, (fun _ => hob2), rfl, rfl⟩
     ·
      refine V.seq ?_
      refine V.region ?_
      refine VO.cons rfl (V1.move rfl rfl rfl lt0 ?_)
      refine VO.cons rfl (V1.assign rfl rfl rfl lt0 ?_)
      refine VO.cons rfl (V1.assign rfl rfl rfl lt0 ?_)
      refine VO.nil ?_
      refine V.keep 69 [4, 5] [0] (E0 := [(4, .sref ob2 1 0 (List.length ids)), (5, .bool true)]) (H0 := [(ob2, ⟨1, List.map encInt ids⟩)]) rfl (⟨_, _, rfl, rfl, ⟨_, _, rfl, rfl, rfl⟩⟩) (⟨_, _, rfl, rfl, rfl⟩) rfl ?_
      refine V.ret ?_
      obtain rfl := Option.some.inj hm0
      exact ⟨_, _, ⟨_, _, rfl, rfl, ⟨_, _, rfl, rfl, rfl⟩⟩, List.Sublist.refl _, some ob2, (fun e => by cases e), rfl, rfl⟩

theorem ok_laws_eqIntS {ρ0 ρ1 rn : Nat} {a : List Int} {b_ : List Int} {r : Bool} (h : M.laws_eqIntS a b_ = some r) : Does Try.prog 24 [.vl ρ0 1 (List.map encInt a), .vl ρ1 1 (List.map encInt b_)] [] rn (fun x H => x = .bool r ∧ H = []) := by
 have hm0 := h; clear h; unfold M.laws_eqIntS at hm0
 try dsimp only at hm0
 refine Does.intro (N := 26) Try.func24 rfl rfl rfl rfl ?_
 intro w0 S0
 refine V.seq ?_
 refine V.region ?_
 refine VO.cons rfl (V1.assign rfl rfl rfl lt0 ?_)
 refine VO.nil ?_
 refine V.seq ?_
 refine V.seq ?_
 refine V.region ?_
 refine VO.cons rfl (V1.move rfl rfl rfl lt0 ?_)
 refine VO.cons rfl (V1.lenMap rfl rfl rfl rfl rfl rfl isl_36 lt0 ?_)
 refine VO.cons rfl (V1.move rfl rfl rfl lt0 ?_)
 refine VO.cons rfl (V1.lenMap rfl rfl rfl rfl rfl rfl isl_36 lt0 ?_)
 refine VO.cons rfl (V1.int rfl rfl rfl rfl rfl lt0 ?_)
 refine VO.nil ?_
 refine V.keep 26 [0, 1, 10] [] (E0 := [(0, .vl ρ0 1 (List.map encInt a)), (1, .vl ρ1 1 (List.map encInt b_)), (10, .bool ((a.length : Int) != (b_.length : Int)))]) (H0 := []) rfl (⟨_, _, rfl, rfl, ⟨_, _, rfl, rfl, ⟨_, _, rfl, rfl, rfl⟩⟩⟩) (rfl) rfl ?_
 refine V.cond rfl (fun hc0 => ?_) (fun hc0 => ?_)
 ·
  replace hm0 := cond_t hc0 hm0
  refine V.seq ?_
  refine V.region ?_
  refine VO.cons rfl (V1.assign rfl rfl rfl lt0 ?_)
  refine VO.nil ?_
  refine V.ret ?_
  obtain rfl := Option.some.inj hm0
  exact ⟨_, [], ⟨_, _, rfl, rfl, rfl⟩, List.nil_sublist _, rfl, rfl⟩
 ·
  replace hm0 := cond_f hc0 hm0
  refine V.skip ?_
  refine V.seq ?_
  refine V.seq ?_
  refine V.region ?_
  refine VO.cons rfl (V1.assign rfl rfl rfl lt0 ?_)
  refine VO.nil ?_
  replace hm0 := bindO hm0; rcases hm0 with ⟨e0, he1, hm0⟩
  refine V.cutT (D := (Unit) × (Unit)) (fun ⟨_, _⟩ => ⟨26, [], []⟩) (fun ⟨_, _⟩ => (.inl () = e0)) ?_ ?_
  ·
   refine V.block ?_
   refine V.keep 26 [5, 0, 1] [] (E0 := [(5, .int .i64 (0 : Int)), (0, .vl ρ0 1 (List.map encInt a)), (1, .vl ρ1 1 (List.map encInt b_))]) (H0 := []) rfl (⟨_, _, rfl, rfl, ⟨_, _, rfl, rfl, ⟨_, _, rfl, rfl, rfl⟩⟩⟩) (rfl) rfl ?_
   refine V.loopE (D := Nat × (Int) × (Unit)) (fun ⟨n0, i, _⟩ => [(5, .int .i64 i)]) (fun ⟨n0, i, _⟩ => []) (fun ⟨n0, i, _⟩ => loopO (M.laws_eqIntS_l0 a b_) n0 i = some e0) (fun ⟨n0, _, _⟩ => n0) (rounds, (0 : Int), ()) rfl he1 ?_
   rintro ⟨n0, i, _⟩ hP0
   obtain ⟨m0, y0, rfl, hm1, hl1, hr1⟩ := loop_head hP0
   unfold M.laws_eqIntS_l0 at hm1; dsimp only at hm1
   show V _ _ _ ⟨26, [(5, .int .i64 i), (0, .vl ρ0 1 (List.map encInt a)), (1, .vl ρ1 1 (List.map encInt b_))], []⟩
   refine V.seq ?_
   refine V.seq ?_
   refine V.region ?_
   refine VO.cons rfl (V1.move rfl rfl rfl lt0 ?_)
   refine VO.cons rfl (V1.move rfl rfl rfl lt0 ?_)
   refine VO.cons rfl (V1.lenMap rfl rfl rfl rfl rfl rfl isl_36 lt0 ?_)
   refine VO.cons rfl (V1.int rfl rfl rfl rfl rfl lt0 ?_)
   refine VO.nil ?_
   refine V.cond rfl (fun hc1 => ?_) (fun hc1 => ?_)
   ·
    replace hm1 := cond_t hc1 hm1
    refine V.skip ?_
    refine V.keep 26 [0, 1, 5] [] (E0 := [(0, .vl ρ0 1 (List.map encInt a)), (1, .vl ρ1 1 (List.map encInt b_)), (5, .int .i64 i)]) (H0 := []) rfl (⟨_, _, rfl, rfl, ⟨_, _, rfl, rfl, ⟨_, _, rfl, rfl, rfl⟩⟩⟩) (rfl) rfl ?_
    refine V.seq ?_
    refine V.block ?_
    refine V.seq ?_
    replace hm1 := asrt_some hm1; rcases hm1 with ⟨hh0, hm1⟩
    replace hm1 := asrt_some hm1; rcases hm1 with ⟨hh1, hm1⟩
    refine V.regionM 26 8 [⟨[(0, none)], [], none⟩, ⟨[(5, none)], [], none⟩, ⟨[(17, some 1), (18, some 0)], [], none⟩, ⟨[(19, some 0)], [], none⟩, ⟨[(1, none)], [], none⟩, ⟨[(5, none)], [], none⟩, ⟨[(21, some 1), (22, some 0)], [], none⟩, ⟨[(23, some 0)], [], none⟩] [(0, none), (1, none), (5, none), (20, some 4), (24, some 0)] (⟨_, rfl, ⟨_, rfl, ⟨_, rfl, ⟨_, rfl, ⟨_, rfl, ⟨_, rfl, ⟨_, rfl, ⟨_, rfl, ⟨rfl, rfl⟩⟩⟩⟩⟩⟩⟩⟩⟩) mixed_orders rfl (by decide +kernel) (fun hck6 => ?_)
    refine VP.step (p := ?pv65) rfl rfl rfl (⟨_, _, rfl, rfl, rfl⟩) ?hv65 ?rest65 hck6
    case hv65 =>
     intro E1
     refine (V1.move rfl rfl rfl lt0 ?_)
     exact rfl
    refine VP.step (p := ?pv66) rfl rfl rfl (⟨_, _, rfl, rfl, rfl⟩) ?hv66 ?rest66 hck6
    case hv66 =>
     intro E1
     refine (V1.move rfl rfl rfl lt0 ?_)
     exact rfl
    refine VP.step (p := ?pv67) rfl rfl rfl (⟨_, _, rfl, rfl, ⟨_, _, rfl, rfl, rfl⟩⟩) ?hv67 ?rest67 hck6
    case hv67 =>
     intro E1
     refine (V1.indexI rfl rfl esz_36 rfl rfl hh0 lt0 ?_)
     exact rfl
    refine VP.step (p := ?pv68) rfl rfl rfl (⟨_, _, rfl, rfl, rfl⟩) ?hv68 ?rest68 hck6
    case hv68 =>
     intro E1
     refine (V1.loadPin rfl rfl tyk_3 rfl rfl lt0 ?_)
     exact rfl
    refine VP.step (p := ?pv69) rfl rfl rfl (⟨_, _, rfl, rfl, rfl⟩) ?hv69 ?rest69 hck6
    case hv69 =>
     intro E1
     refine (V1.move rfl rfl rfl lt0 ?_)
     exact rfl
    refine VP.step (p := ?pv70) rfl rfl rfl (⟨_, _, rfl, rfl, rfl⟩) ?hv70 ?rest70 hck6
    case hv70 =>
     intro E1
     refine (V1.move rfl rfl rfl lt0 ?_)
     exact rfl
    refine VP.step (p := ?pv71) rfl rfl rfl (⟨_, _, rfl, rfl, ⟨_, _, rfl, rfl, rfl⟩⟩) ?hv71 ?rest71 hck6
    case hv71 =>
     intro E1
     refine (V1.indexI rfl rfl esz_36 rfl rfl hh1 lt0 ?_)
     exact rfl
    refine VP.step (p := ?pv72) rfl rfl rfl (⟨_, _, rfl, rfl, rfl⟩) ?hv72 ?rest72 hck6
    case hv72 =>
     intro E1
     refine (V1.loadPin rfl rfl tyk_3 rfl rfl lt0 ?_)
     exact rfl
    refine VP.fin rfl (⟨_, _, rfl, rfl, ⟨_, _, rfl, rfl, ⟨_, _, rfl, rfl, ⟨_, _, rfl, rfl, ⟨_, _, rfl, rfl, rfl⟩⟩⟩⟩⟩) ?_
    refine VO.cons rfl (V1.int rfl rfl rfl rfl rfl lt0 ?_)
    refine VO.nil ?_
    refine V.cond rfl (fun hc2 => ?_) (fun hc2 => ?_)
    ·
     replace hm1 := cond_t hc2 hm1
     refine V.seq ?_
     refine V.region ?_
     refine VO.cons rfl (V1.assign rfl rfl rfl lt0 ?_)
     refine VO.nil ?_
     refine V.ret ?_
     obtain rfl := hr1 _ (Option.some.inj hm1).symm
     change some _ = some _ at hm0
     obtain rfl := Option.some.inj hm0
     exact ⟨_, [], ⟨_, _, rfl, rfl, rfl⟩, List.nil_sublist _, rfl, rfl⟩
    ·
     replace hm1 := cond_f hc2 hm1
     refine V.skip ?_
     refine V.region ?_
     refine VO.cons rfl (V1.move rfl rfl rfl lt0 ?_)
     refine VO.cons rfl (V1.int rfl rfl rfl rfl rfl lt0 ?_)
     refine VO.cons rfl (V1.assign rfl rfl rfl lt0 ?_)
     refine VO.nil ?_
     exact ⟨(m0, (IntKind.i64.wrap (i + (1 : Int))), ()), hl1 _ (Option.some.inj hm1).symm, Nat.lt_succ_self _, Keeps.mk (ks := []) rfl ⟨rfl, rfl, rfl, trivial⟩ (rfl) rfl⟩
   ·
    replace hm1 := cond_f hc1 hm1
    refine V.exit ?_
    obtain rfl := hr1 _ (Option.some.inj hm1).symm
    exact ⟨((), ()), rfl, Keeps.mk (ks := []) rfl trivial (rfl) rfl⟩
  ·
   rintro ⟨_, _⟩ rfl
   try dsimp only at hm0
   refine V.seq ?_
   refine V.region ?_
   refine VO.cons rfl (V1.assign rfl rfl rfl lt0 ?_)
   refine VO.nil ?_
   refine V.ret ?_
   obtain rfl := Option.some.inj hm0
   exact ⟨_, [], ⟨_, _, rfl, rfl, rfl⟩, List.nil_sublist _, rfl, rfl⟩

theorem ok_laws_eqCarton {ρ0 ρ1 rn : Nat} {a : Carton} {b_ : Carton} {r : Bool} (h : M.laws_eqCarton a b_ = some r) : Does Try.prog 62 [encCarton ρ0 a, encCarton ρ1 b_] [] rn (fun x H => x = .bool r ∧ H = []) := by
 have hm0 := h; clear h; unfold M.laws_eqCarton at hm0
 try dsimp only at hm0
 refine Does.intro (N := 31) Try.func62 rfl rfl rfl rfl ?_
 intro w0 S0
 refine V.seq ?_
 refine V.region ?_
 refine VO.cons rfl (V1.boxN (n := 5) rfl rfl rfl rfl rfl lt0 ?_)
 intro b0
 refine VO.cons rfl (V1.boxN (n := 5) rfl rfl rfl rfl rfl lt0 ?_)
 intro b1
 refine VO.cons rfl (V1.assign rfl rfl rfl lt0 ?_)
 refine VO.nil ?_
 refine V.seq ?_
 refine V.seq ?_
 refine V.region ?_
 refine VO.cons rfl (V1.fieldRef rfl rfl fo_67_0 rfl lt0 ?_)
 refine VO.cons rfl (V1.loadRef (k := 1) rfl rfl tyk_3 rfl rfl rfl rfl rfl lt0 ?_)
 refine VO.cons rfl (V1.fieldRef rfl rfl fo_67_0 rfl lt0 ?_)
 refine VO.cons rfl (V1.loadRef (k := 0) rfl rfl tyk_3 rfl rfl rfl rfl rfl lt0 ?_)
 refine VO.cons rfl (V1.int rfl rfl rfl rfl rfl lt0 ?_)
 refine VO.nil ?_
 refine V.keep 31 [2, 3, 9] [0, 1] (E0 := [(2, .ref b0 5 0 0), (3, .ref b1 5 0 0), (9, .bool (a.Id != b_.Id))]) (H0 := [(b1, ⟨5, [encCarton ρ1 b_]⟩), (b0, ⟨5, [encCarton ρ0 a]⟩)]) rfl (⟨_, _, rfl, rfl, ⟨_, _, rfl, rfl, ⟨_, _, rfl, rfl, rfl⟩⟩⟩) (⟨_, _, rfl, rfl, ⟨_, _, rfl, rfl, rfl⟩⟩) rfl ?_
 refine V.cond rfl (fun hc0 => ?_) (fun hc0 => ?_)
 ·
  replace hm0 := cond_t hc0 hm0
  refine V.seq ?_
  refine V.region ?_
  refine VO.cons rfl (V1.assign rfl rfl rfl lt0 ?_)
  refine VO.nil ?_
  refine V.ret ?_
  obtain rfl := Option.some.inj hm0
  exact ⟨_, [], ⟨_, _, rfl, rfl, rfl⟩, List.nil_sublist _, rfl, rfl⟩
 ·
  replace hm0 := cond_f hc0 hm0
  refine V.skip ?_
  refine V.seq ?_
  refine V.seq ?_
  refine V.region ?_
  refine VO.cons rfl (V1.fieldRef rfl rfl fo_67_1 rfl lt0 ?_)
  refine VO.cons rfl (V1.loadRef (k := 1) rfl rfl tyk_3 rfl rfl rfl rfl rfl lt0 ?_)
  refine VO.cons rfl (V1.fieldRef rfl rfl fo_67_1 rfl lt0 ?_)
  refine VO.cons rfl (V1.loadRef (k := 0) rfl rfl tyk_3 rfl rfl rfl rfl rfl lt0 ?_)
  refine VO.cons rfl (V1.int rfl rfl rfl rfl rfl lt0 ?_)
  refine VO.nil ?_
  refine V.keep 31 [2, 3, 14] [0, 1] (E0 := [(2, .ref b0 5 0 0), (3, .ref b1 5 0 0), (14, .bool (a.Shelf != b_.Shelf))]) (H0 := [(b1, ⟨5, [encCarton ρ1 b_]⟩), (b0, ⟨5, [encCarton ρ0 a]⟩)]) rfl (⟨_, _, rfl, rfl, ⟨_, _, rfl, rfl, ⟨_, _, rfl, rfl, rfl⟩⟩⟩) (⟨_, _, rfl, rfl, ⟨_, _, rfl, rfl, rfl⟩⟩) rfl ?_
  refine V.cond rfl (fun hc1 => ?_) (fun hc1 => ?_)
  ·
   replace hm0 := cond_t hc1 hm0
   refine V.seq ?_
   refine V.region ?_
   refine VO.cons rfl (V1.assign rfl rfl rfl lt0 ?_)
   refine VO.nil ?_
   refine V.ret ?_
   obtain rfl := Option.some.inj hm0
   exact ⟨_, [], ⟨_, _, rfl, rfl, rfl⟩, List.nil_sublist _, rfl, rfl⟩
  ·
   replace hm0 := cond_f hc1 hm0
   refine V.skip ?_
   refine V.seq ?_
   refine V.seq ?_
   refine V.region ?_
   refine VO.cons rfl (V1.fieldRef rfl rfl fo_67_2 rfl lt0 ?_)
   refine VO.cons rfl (V1.loadRef (k := 1) rfl rfl tyk_3 rfl rfl rfl rfl rfl lt0 ?_)
   refine VO.cons rfl (V1.fieldRef rfl rfl fo_67_2 rfl lt0 ?_)
   refine VO.cons rfl (V1.loadRef (k := 0) rfl rfl tyk_3 rfl rfl rfl rfl rfl lt0 ?_)
   refine VO.cons rfl (V1.int rfl rfl rfl rfl rfl lt0 ?_)
   refine VO.nil ?_
   refine V.keep 31 [2, 3, 19] [0, 1] (E0 := [(2, .ref b0 5 0 0), (3, .ref b1 5 0 0), (19, .bool (a.Room != b_.Room))]) (H0 := [(b1, ⟨5, [encCarton ρ1 b_]⟩), (b0, ⟨5, [encCarton ρ0 a]⟩)]) rfl (⟨_, _, rfl, rfl, ⟨_, _, rfl, rfl, ⟨_, _, rfl, rfl, rfl⟩⟩⟩) (⟨_, _, rfl, rfl, ⟨_, _, rfl, rfl, rfl⟩⟩) rfl ?_
   refine V.cond rfl (fun hc2 => ?_) (fun hc2 => ?_)
   ·
    replace hm0 := cond_t hc2 hm0
    refine V.seq ?_
    refine V.region ?_
    refine VO.cons rfl (V1.assign rfl rfl rfl lt0 ?_)
    refine VO.nil ?_
    refine V.ret ?_
    obtain rfl := Option.some.inj hm0
    exact ⟨_, [], ⟨_, _, rfl, rfl, rfl⟩, List.nil_sublist _, rfl, rfl⟩
   ·
    replace hm0 := cond_f hc2 hm0
    refine V.skip ?_
    refine V.seq ?_
    refine V.seq ?_
    replace hm0 := bindO hm0; rcases hm0 with ⟨y0, hh0, hm0⟩
    refine V.region ?_
    refine VO.cons rfl (V1.fieldRef rfl rfl fo_67_3 rfl lt0 ?_)
    refine VO.cons rfl (V1.loadRef (k := 1) rfl rfl tyk_36 rfl rfl rfl rfl rfl lt0 ?_)
    refine VO.cons rfl (V1.fieldRef rfl rfl fo_67_3 rfl lt0 ?_)
    refine VO.cons rfl (V1.loadRef (k := 0) rfl rfl tyk_36 rfl rfl rfl rfl rfl lt0 ?_)
    refine VO.cons rfl (V1.call rfl rfl rfl cok_24 rfl (ok_laws_eqIntS hh0) rfl lt0 ?_)
    rintro _ _ ⟨rfl, rfl⟩
    refine VO.cons rfl (V1.not rfl rfl rfl lt0 ?_)
    refine VO.nil ?_
    refine V.keep 31 [2, 3, 25] [0, 1] (E0 := [(2, .ref b0 5 0 0), (3, .ref b1 5 0 0), (25, .bool (!y0))]) (H0 := [(b1, ⟨5, [encCarton ρ1 b_]⟩), (b0, ⟨5, [encCarton ρ0 a]⟩)]) rfl (⟨_, _, rfl, rfl, ⟨_, _, rfl, rfl, ⟨_, _, rfl, rfl, rfl⟩⟩⟩) (⟨_, _, rfl, rfl, ⟨_, _, rfl, rfl, rfl⟩⟩) rfl ?_
    refine V.cond rfl (fun hc3 => ?_) (fun hc3 => ?_)
    ·
     replace hm0 := cond_t hc3 hm0
     refine V.seq ?_
     refine V.region ?_
     refine VO.cons rfl (V1.assign rfl rfl rfl lt0 ?_)
     refine VO.nil ?_
     refine V.ret ?_
     obtain rfl := Option.some.inj hm0
     exact ⟨_, [], ⟨_, _, rfl, rfl, rfl⟩, List.nil_sublist _, rfl, rfl⟩
    ·
     replace hm0 := cond_f hc3 hm0
     refine V.skip ?_
     refine V.seq ?_
     refine V.seq ?_
     refine V.region ?_
     refine VO.cons rfl (V1.fieldRef rfl rfl fo_67_4 rfl lt0 ?_)
     refine VO.cons rfl (V1.loadRef (k := 1) rfl rfl tyk_3 rfl rfl rfl rfl rfl lt0 ?_)
     refine VO.cons rfl (V1.fieldRef rfl rfl fo_67_4 rfl lt0 ?_)
     refine VO.cons rfl (V1.loadRef (k := 0) rfl rfl tyk_3 rfl rfl rfl rfl rfl lt0 ?_)
     refine VO.cons rfl (V1.int rfl rfl rfl rfl rfl lt0 ?_)
     refine VO.nil ?_
     refine V.keep 31 [30] [] (E0 := [(30, .bool (a.Thick != b_.Thick))]) (H0 := []) rfl (⟨_, _, rfl, rfl, rfl⟩) (rfl) rfl ?_
     refine V.cond rfl (fun hc4 => ?_) (fun hc4 => ?_)
     ·
      replace hm0 := cond_t hc4 hm0
      refine V.seq ?_
      refine V.region ?_
      refine VO.cons rfl (V1.assign rfl rfl rfl lt0 ?_)
      refine VO.nil ?_
      refine V.ret ?_
      obtain rfl := Option.some.inj hm0
      exact ⟨_, [], ⟨_, _, rfl, rfl, rfl⟩, List.nil_sublist _, rfl, rfl⟩
     ·
      replace hm0 := cond_f hc4 hm0
      refine V.skip ?_
      refine V.seq ?_
      refine V.region ?_
      refine VO.cons rfl (V1.assign rfl rfl rfl lt0 ?_)
      refine VO.nil ?_
      refine V.ret ?_
      obtain rfl := Option.some.inj hm0
      exact ⟨_, [], ⟨_, _, rfl, rfl, rfl⟩, List.nil_sublist _, rfl, rfl⟩

theorem ok_laws_eqCartonS {ρ0 σ0 ρ1 σ1 rn : Nat} {a : List Carton} {b_ : List Carton} {r : Bool} (h : M.laws_eqCartonS a b_ = some r) : Does Try.prog 25 [.vl ρ0 5 (List.map (encCarton σ0) a), .vl ρ1 5 (List.map (encCarton σ1) b_)] [] rn (fun x H => x = .bool r ∧ H = []) := by
 have hm0 := h; clear h; unfold M.laws_eqCartonS at hm0
 try dsimp only at hm0
 refine Does.intro (N := 27) Try.func25 rfl rfl rfl rfl ?_
 intro w0 S0
 refine V.seq ?_
 refine V.region ?_
 refine VO.cons rfl (V1.assign rfl rfl rfl lt0 ?_)
 refine VO.nil ?_
 refine V.seq ?_
 refine V.seq ?_
 refine V.region ?_
 refine VO.cons rfl (V1.move rfl rfl rfl lt0 ?_)
 refine VO.cons rfl (V1.lenMap rfl rfl rfl rfl rfl rfl isl_39 lt0 ?_)
 refine VO.cons rfl (V1.move rfl rfl rfl lt0 ?_)
 refine VO.cons rfl (V1.lenMap rfl rfl rfl rfl rfl rfl isl_39 lt0 ?_)
 refine VO.cons rfl (V1.int rfl rfl rfl rfl rfl lt0 ?_)
 refine VO.nil ?_
 refine V.keep 27 [0, 1, 10] [] (E0 := [(0, .vl ρ0 5 (List.map (encCarton σ0) a)), (1, .vl ρ1 5 (List.map (encCarton σ1) b_)), (10, .bool ((a.length : Int) != (b_.length : Int)))]) (H0 := []) rfl (⟨_, _, rfl, rfl, ⟨_, _, rfl, rfl, ⟨_, _, rfl, rfl, rfl⟩⟩⟩) (rfl) rfl ?_
 refine V.cond rfl (fun hc0 => ?_) (fun hc0 => ?_)
 ·
  replace hm0 := cond_t hc0 hm0
  refine V.seq ?_
  refine V.region ?_
  refine VO.cons rfl (V1.assign rfl rfl rfl lt0 ?_)
  refine VO.nil ?_
  refine V.ret ?_
  obtain rfl := Option.some.inj hm0
  exact ⟨_, [], ⟨_, _, rfl, rfl, rfl⟩, List.nil_sublist _, rfl, rfl⟩
 ·
  replace hm0 := cond_f hc0 hm0
  refine V.skip ?_
  refine V.seq ?_
  refine V.seq ?_
  refine V.region ?_
  refine VO.cons rfl (V1.assign rfl rfl rfl lt0 ?_)
  refine VO.nil ?_
  replace hm0 := bindO hm0; rcases hm0 with ⟨e0, he1, hm0⟩
  refine V.cutT (D := (Unit) × (Unit)) (fun ⟨_, _⟩ => ⟨27, [], []⟩) (fun ⟨_, _⟩ => (.inl () = e0)) ?_ ?_
  ·
   refine V.block ?_
   refine V.keep 27 [5, 0, 1] [] (E0 := [(5, .int .i64 (0 : Int)), (0, .vl ρ0 5 (List.map (encCarton σ0) a)), (1, .vl ρ1 5 (List.map (encCarton σ1) b_))]) (H0 := []) rfl (⟨_, _, rfl, rfl, ⟨_, _, rfl, rfl, ⟨_, _, rfl, rfl, rfl⟩⟩⟩) (rfl) rfl ?_
   refine V.loopE (D := Nat × (Int) × (Unit)) (fun ⟨n0, i, _⟩ => [(5, .int .i64 i)]) (fun ⟨n0, i, _⟩ => []) (fun ⟨n0, i, _⟩ => loopO (M.laws_eqCartonS_l0 a b_) n0 i = some e0) (fun ⟨n0, _, _⟩ => n0) (rounds, (0 : Int), ()) rfl he1 ?_
   rintro ⟨n0, i, _⟩ hP0
   obtain ⟨m0, y0, rfl, hm1, hl1, hr1⟩ := loop_head hP0
   unfold M.laws_eqCartonS_l0 at hm1; dsimp only at hm1
   show V _ _ _ ⟨27, [(5, .int .i64 i), (0, .vl ρ0 5 (List.map (encCarton σ0) a)), (1, .vl ρ1 5 (List.map (encCarton σ1) b_))], []⟩
   refine V.seq ?_
   refine V.seq ?_
   refine V.region ?_
   refine VO.cons rfl (V1.move rfl rfl rfl lt0 ?_)
   refine VO.cons rfl (V1.move rfl rfl rfl lt0 ?_)
   refine VO.cons rfl (V1.lenMap rfl rfl rfl rfl rfl rfl isl_39 lt0 ?_)
   refine VO.cons rfl (V1.int rfl rfl rfl rfl rfl lt0 ?_)
   refine VO.nil ?_
   refine V.cond rfl (fun hc1 => ?_) (fun hc1 => ?_)
   ·
    replace hm1 := cond_t hc1 hm1
    refine V.skip ?_
    refine V.keep 27 [0, 1, 5] [] (E0 := [(0, .vl ρ0 5 (List.map (encCarton σ0) a)), (1, .vl ρ1 5 (List.map (encCarton σ1) b_)), (5, .int .i64 i)]) (H0 := []) rfl (⟨_, _, rfl, rfl, ⟨_, _, rfl, rfl, ⟨_, _, rfl, rfl, rfl⟩⟩⟩) (rfl) rfl ?_
    refine V.seq ?_
    refine V.block ?_
    refine V.seq ?_
    replace hm1 := asrt_some hm1; rcases hm1 with ⟨hh0, hm1⟩
    replace hm1 := asrt_some hm1; rcases hm1 with ⟨hh1, hm1⟩
    replace hm1 := bindO hm1; rcases hm1 with ⟨y1, hh2, hm1⟩
    refine V.regionM 27 8 [⟨[(0, none)], [], none⟩, ⟨[(5, none)], [], none⟩, ⟨[(17, some 1), (18, some 0)], [], none⟩, ⟨[(19, some 0)], [], none⟩, ⟨[(1, none)], [], none⟩, ⟨[(5, none)], [], none⟩, ⟨[(21, some 1), (22, some 0)], [], none⟩, ⟨[(23, some 0)], [], none⟩] [(0, none), (1, none), (5, none), (20, some 4), (24, some 0)] (⟨_, rfl, ⟨_, rfl, ⟨_, rfl, ⟨_, rfl, ⟨_, rfl, ⟨_, rfl, ⟨_, rfl, ⟨_, rfl, ⟨rfl, rfl⟩⟩⟩⟩⟩⟩⟩⟩⟩) mixed_orders rfl (by decide +kernel) (fun hck6 => ?_)
    refine VP.step (p := ?pv82) rfl rfl rfl (⟨_, _, rfl, rfl, rfl⟩) ?hv82 ?rest82 hck6
    case hv82 =>
     intro E1
     refine (V1.move rfl rfl rfl lt0 ?_)
     exact rfl
    refine VP.step (p := ?pv83) rfl rfl rfl (⟨_, _, rfl, rfl, rfl⟩) ?hv83 ?rest83 hck6
    case hv83 =>
     intro E1
     refine (V1.move rfl rfl rfl lt0 ?_)
     exact rfl
    refine VP.step (p := ?pv84) rfl rfl rfl (⟨_, _, rfl, rfl, ⟨_, _, rfl, rfl, rfl⟩⟩) ?hv84 ?rest84 hck6
    case hv84 =>
     intro E1
     refine (V1.indexI rfl rfl esz_39 rfl rfl hh0 lt0 ?_)
     exact rfl
    refine VP.step (p := ?pv85) rfl rfl rfl (⟨_, _, rfl, rfl, rfl⟩) ?hv85 ?rest85 hck6
    case hv85 =>
     intro E1
     refine (V1.loadPinAll rfl rfl tyk_67 rfl rfl lt0 ?_)
     exact rfl
    refine VP.step (p := ?pv86) rfl rfl rfl (⟨_, _, rfl, rfl, rfl⟩) ?hv86 ?rest86 hck6
    case hv86 =>
     intro E1
     refine (V1.move rfl rfl rfl lt0 ?_)
     exact rfl
    refine VP.step (p := ?pv87) rfl rfl rfl (⟨_, _, rfl, rfl, rfl⟩) ?hv87 ?rest87 hck6
    case hv87 =>
     intro E1
     refine (V1.move rfl rfl rfl lt0 ?_)
     exact rfl
    refine VP.step (p := ?pv88) rfl rfl rfl (⟨_, _, rfl, rfl, ⟨_, _, rfl, rfl, rfl⟩⟩) ?hv88 ?rest88 hck6
    case hv88 =>
     intro E1
     refine (V1.indexI rfl rfl esz_39 rfl rfl hh1 lt0 ?_)
     exact rfl
    refine VP.step (p := ?pv89) rfl rfl rfl (⟨_, _, rfl, rfl, rfl⟩) ?hv89 ?rest89 hck6
    case hv89 =>
     intro E1
     refine (V1.loadPinAll rfl rfl tyk_67 rfl rfl lt0 ?_)
     exact rfl
    refine VP.fin rfl (⟨_, _, rfl, rfl, ⟨_, _, rfl, rfl, ⟨_, _, rfl, rfl, ⟨_, _, rfl, rfl, ⟨_, _, rfl, rfl, rfl⟩⟩⟩⟩⟩) ?_
    refine VO.cons rfl (V1.call rfl rfl rfl cok_62 rfl (ok_laws_eqCarton hh2) rfl lt0 ?_)
    rintro _ _ ⟨rfl, rfl⟩
    refine VO.cons rfl (V1.not rfl rfl rfl lt0 ?_)
    refine VO.nil ?_
    refine V.cond rfl (fun hc2 => ?_) (fun hc2 => ?_)
    ·
     replace hm1 := cond_t hc2 hm1
     refine V.seq ?_
     refine V.region ?_
     refine VO.cons rfl (V1.assign rfl rfl rfl lt0 ?_)
     refine VO.nil ?_
     refine V.ret ?_
     obtain rfl := hr1 _ (Option.some.inj hm1).symm
     change some _ = some _ at hm0
     obtain rfl := Option.some.inj hm0
     exact ⟨_, [], ⟨_, _, rfl, rfl, rfl⟩, List.nil_sublist _, rfl, rfl⟩
    ·
     replace hm1 := cond_f hc2 hm1
     refine V.skip ?_
     refine V.keep 27 [0, 1, 5] [] (E0 := [(0, .vl ρ0 5 (List.map (encCarton σ0) a)), (1, .vl ρ1 5 (List.map (encCarton σ1) b_)), (5, .int .i64 i)]) (H0 := []) rfl (⟨_, _, rfl, rfl, ⟨_, _, rfl, rfl, ⟨_, _, rfl, rfl, rfl⟩⟩⟩) (rfl) rfl ?_
     refine V.region ?_
     refine VO.cons rfl (V1.move rfl rfl rfl lt0 ?_)
     refine VO.cons rfl (V1.int rfl rfl rfl rfl rfl lt0 ?_)
     refine VO.cons rfl (V1.assign rfl rfl rfl lt0 ?_)
     refine VO.nil ?_
     exact ⟨(m0, (IntKind.i64.wrap (i + (1 : Int))), ()), hl1 _ (Option.some.inj hm1).symm, Nat.lt_succ_self _, Keeps.mk (ks := []) rfl ⟨rfl, rfl, rfl, trivial⟩ (rfl) rfl⟩
   ·
    replace hm1 := cond_f hc1 hm1
    refine V.exit ?_
    obtain rfl := hr1 _ (Option.some.inj hm1).symm
    exact ⟨((), ()), rfl, Keeps.mk (ks := []) rfl trivial (rfl) rfl⟩
  ·
   rintro ⟨_, _⟩ rfl
   try dsimp only at hm0
   refine V.seq ?_
   refine V.region ?_
   refine VO.cons rfl (V1.assign rfl rfl rfl lt0 ?_)
   refine VO.nil ?_
   refine V.ret ?_
   obtain rfl := Option.some.inj hm0
   exact ⟨_, [], ⟨_, _, rfl, rfl, rfl⟩, List.nil_sublist _, rfl, rfl⟩

theorem ok_laws_markIntS {rn : Nat} {oq : Option Nat} {a : List Int} {k : Int} {r : Int × List Int} (h : M.laws_markIntS a k = some r) (hoq : oq = none → a = []) : Does Try.prog 27 [optS 1 oq (List.length a), .int .i64 k] (optH 1 oq (List.map encInt a)) rn (fun x H => x = .int .i64 r.1 ∧ H = optH 1 oq (List.map encInt r.2)) := by
 have hm0 := h; clear h; unfold M.laws_markIntS at hm0
 try dsimp only at hm0
 refine Does.intro (N := 19) Try.func27 rfl rfl rfl rfl ?_
 intro w0 S0
 rcases oq with _ | oq
 ·
  refine V.seq ?_
  refine V.region ?_
  refine VO.cons rfl (V1.assign rfl rfl rfl lt0 ?_)
  refine VO.nil ?_
  refine V.seq ?_
  refine V.seq ?_
  refine V.region ?_
  refine VO.cons rfl (V1.assign rfl rfl rfl lt0 ?_)
  refine VO.nil ?_
  replace hm0 := bindO hm0; rcases hm0 with ⟨e0, he1, hm0⟩
  refine V.cutT (D := (List Int × Int) × (Unit)) (fun ⟨⟨a0, k0⟩, _⟩ => ⟨19, [(0, .vl rn 1 (List.map encInt a0)), (1, .int .i64 k0)], []⟩) (fun ⟨⟨a0, k0⟩, _⟩ => ((a0, k0) = e0)) ?_ ?_
  ·
   refine V.block ?_
   refine V.keep 19 [0, 1, 5] [] (E0 := [(0, .nils), (1, .int .i64 k), (5, .int .i64 (0 : Int))]) (H0 := []) rfl (⟨_, _, rfl, rfl, ⟨_, _, rfl, rfl, ⟨_, _, rfl, rfl, rfl⟩⟩⟩) (rfl) rfl ?_
   refine V.loopE (D := Nat × (List Int × Int × Int) × (Unit)) (fun ⟨n0, ⟨a1, k1, i⟩, _⟩ => [(0, .nils), (1, .int .i64 k1), (5, .int .i64 i)]) (fun ⟨n0, ⟨a1, k1, i⟩, _⟩ => []) (fun ⟨n0, ⟨a1, k1, i⟩, _⟩ => loopO (M.laws_markIntS_l0) n0 (a1, k1, i) = some e0 ∧ a1 = []) (fun ⟨n0, _, _⟩ => n0) (rounds, (a, k, (0 : Int)), ()) rfl ⟨he1, (hoq rfl)⟩ ?_
   rintro ⟨n0, ⟨a1, k1, i⟩, _⟩ ⟨hP0, hn_a1⟩
   obtain ⟨m0, y0, rfl, hm1, hl1, hr1⟩ := loop_head hP0
   unfold M.laws_markIntS_l0 at hm1; dsimp only at hm1
   show V _ _ _ ⟨19, [(0, .nils), (1, .int .i64 k1), (5, .int .i64 i)], []⟩
   refine V.seq ?_
   refine V.seq ?_
   refine V.region ?_
   refine VO.cons rfl (V1.move rfl rfl rfl lt0 ?_)
   refine VO.cons rfl (V1.move rfl rfl rfl lt0 ?_)
   refine VO.cons rfl (V1.lenNilsE (l := a1) hn_a1 rfl rfl rfl rfl rfl rfl isl_36 lt0 ?_)
   refine VO.cons rfl (V1.int rfl rfl rfl rfl rfl lt0 ?_)
   refine VO.nil ?_
   refine V.cond rfl (fun hc0 => ?_) (fun hc0 => ?_)
   ·
    replace hm1 := cond_t hc0 hm1
    refine V.skip ?_
    refine V.keep 19 [0, 1, 5] [] (E0 := [(0, .nils), (1, .int .i64 k1), (5, .int .i64 i)]) (H0 := []) rfl (⟨_, _, rfl, rfl, ⟨_, _, rfl, rfl, ⟨_, _, rfl, rfl, rfl⟩⟩⟩) (rfl) rfl ?_
    refine V.seq ?_
    refine V.block ?_
    refine V.seq ?_
    replace hm1 := asrt_some hm1; rcases hm1 with ⟨hh0, hm1⟩
    refine V.region ?_
    refine VO.cons rfl (V1.move rfl rfl rfl lt0 ?_)
    refine VO.cons rfl (V1.move rfl rfl rfl lt0 ?_)
    refine VO.cons rfl (V1.move rfl rfl rfl lt0 ?_)
    refine VO.weakenK (Keeps.nilsE (l := a1) 12 rn 1 encInt hn_a1 rfl rfl) ?_
    refine VO.cons rfl (V1.indexI rfl rfl esz_36 rfl rfl hh0 lt0 ?_)
    exact (nilsNo hn_a1 hh0).elim
   ·
    replace hm1 := cond_f hc0 hm1
    refine V.exit ?_
    obtain rfl := hr1 _ (Option.some.inj hm1).symm
    exact ⟨((a1, k1), ()), rfl, Keeps.trans (Keeps.nilsE (l := a1) 0 rn 1 encInt hn_a1 rfl rfl) (Keeps.mk (ks := []) rfl ⟨rfl, rfl, trivial⟩ (rfl) rfl)⟩
  ·
   rintro ⟨⟨a0, k0⟩, _⟩ rfl
   try dsimp only at hm0
   refine V.seq ?_
   refine V.region ?_
   refine VO.cons rfl (V1.move rfl rfl rfl lt0 ?_)
   refine VO.cons rfl (V1.assign rfl rfl rfl lt0 ?_)
   refine VO.nil ?_
   refine V.keep 19 [4] [] (E0 := [(4, .int .i64 k0)]) (H0 := []) rfl (⟨_, _, rfl, rfl, rfl⟩) (rfl) rfl ?_
   refine V.ret ?_
   obtain rfl := Option.some.inj hm0
   exact ⟨_, _, ⟨_, _, rfl, rfl, rfl⟩, List.Sublist.refl _, rfl, rfl⟩
 ·
  refine V.seq ?_
  refine V.region ?_
  refine VO.cons rfl (V1.assign rfl rfl rfl lt0 ?_)
  refine VO.nil ?_
  refine V.seq ?_
  refine V.seq ?_
  refine V.region ?_
  refine VO.cons rfl (V1.assign rfl rfl rfl lt0 ?_)
  refine VO.nil ?_
  replace hm0 := bindO hm0; rcases hm0 with ⟨e0, he1, hm0⟩
  refine V.cutT (D := (List Int × Int) × (Unit)) (fun ⟨⟨a0, k0⟩, _⟩ => ⟨19, [(0, .sref oq 1 0 (List.length a0)), (1, .int .i64 k0)], [(oq, ⟨1, List.map encInt a0⟩)]⟩) (fun ⟨⟨a0, k0⟩, _⟩ => ((a0, k0) = e0)) ?_ ?_
  ·
   refine V.block ?_
   refine V.keep 19 [0, 1, 5] [0] (E0 := [(0, .sref oq 1 0 (List.length a)), (1, .int .i64 k), (5, .int .i64 (0 : Int))]) (H0 := [(oq, ⟨1, List.map encInt a⟩)]) rfl (⟨_, _, rfl, rfl, ⟨_, _, rfl, rfl, ⟨_, _, rfl, rfl, rfl⟩⟩⟩) (⟨_, _, rfl, rfl, rfl⟩) rfl ?_
   refine V.loopE (D := Nat × (List Int × Int × Int) × (Unit)) (fun ⟨n0, ⟨a1, k1, i⟩, _⟩ => [(0, .sref oq 1 0 (List.length a1)), (1, .int .i64 k1), (5, .int .i64 i)]) (fun ⟨n0, ⟨a1, k1, i⟩, _⟩ => [(oq, ⟨1, List.map encInt a1⟩)]) (fun ⟨n0, ⟨a1, k1, i⟩, _⟩ => loopO (M.laws_markIntS_l0) n0 (a1, k1, i) = some e0) (fun ⟨n0, _, _⟩ => n0) (rounds, (a, k, (0 : Int)), ()) rfl he1 ?_
   rintro ⟨n0, ⟨a1, k1, i⟩, _⟩ hP0
   obtain ⟨m0, y0, rfl, hm1, hl1, hr1⟩ := loop_head hP0
   unfold M.laws_markIntS_l0 at hm1; dsimp only at hm1
   show V _ _ _ ⟨19, [(0, .sref oq 1 0 (List.length a1)), (1, .int .i64 k1), (5, .int .i64 i)], [(oq, ⟨1, List.map encInt a1⟩)]⟩
   refine V.seq ?_
   refine V.seq ?_
   refine V.region ?_
   refine VO.cons rfl (V1.move rfl rfl rfl lt0 ?_)
   refine VO.cons rfl (V1.move rfl rfl rfl lt0 ?_)
   refine VO.cons rfl (V1.lenSref rfl rfl rfl rfl rfl rfl isl_36 lt0 ?_)
   refine VO.cons rfl (V1.int rfl rfl rfl rfl rfl lt0 ?_)
   refine VO.nil ?_
   refine V.cond rfl (fun hc0 => ?_) (fun hc0 => ?_)
   ·
    replace hm1 := cond_t hc0 hm1
    refine V.skip ?_
    refine V.keep 19 [0, 1, 5] [0] (E0 := [(0, .sref oq 1 0 (List.length a1)), (1, .int .i64 k1), (5, .int .i64 i)]) (H0 := [(oq, ⟨1, List.map encInt a1⟩)]) rfl (⟨_, _, rfl, rfl, ⟨_, _, rfl, rfl, ⟨_, _, rfl, rfl, rfl⟩⟩⟩) (⟨_, _, rfl, rfl, rfl⟩) rfl ?_
    refine V.seq ?_
    refine V.block ?_
    refine V.seq ?_
    replace hm1 := asrt_some hm1; rcases hm1 with ⟨hh0, hm1⟩
    refine V.region ?_
    refine VO.cons rfl (V1.move rfl rfl rfl lt0 ?_)
    refine VO.cons rfl (V1.move rfl rfl rfl lt0 ?_)
    refine VO.cons rfl (V1.move rfl rfl rfl lt0 ?_)
    refine VO.cons rfl (V1.indexSr rfl rfl esz_36 rfl rfl hh0 lt0 ?_)
    refine VO.cons rfl (V1.storeMap (k := 0) (f := encInt) (x := k1) rfl rfl tyk_3 rfl rfl (by simpa using natLt hh0.1 hh0.2) rfl rfl ?_)
    refine VO.weakenK (Keeps.say 0 (y := .sref oq 1 0 (List.length (a1.set (Int.toNat i) k1))) rfl (by simp [optS])) ?_
    refine VO.nil ?_
    refine V.region ?_
    refine VO.cons rfl (V1.move rfl rfl rfl lt0 ?_)
    refine VO.cons rfl (V1.int rfl rfl rfl rfl rfl lt0 ?_)
    refine VO.cons rfl (V1.assign rfl rfl rfl lt0 ?_)
    refine VO.nil ?_
    refine V.keep 19 [0, 1, 5] [0] (E0 := [(0, .sref oq 1 0 (List.length (a1.set (Int.toNat i) k1))), (1, .int .i64 (IntKind.i64.wrap (k1 + (1 : Int)))), (5, .int .i64 i)]) (H0 := [(oq, ⟨1, List.map encInt (a1.set (Int.toNat i) k1)⟩)]) rfl (⟨_, _, rfl, rfl, ⟨_, _, rfl, rfl, ⟨_, _, rfl, rfl, rfl⟩⟩⟩) (⟨_, _, rfl, rfl, rfl⟩) rfl ?_
    refine V.region ?_
    refine VO.cons rfl (V1.move rfl rfl rfl lt0 ?_)
    refine VO.cons rfl (V1.int rfl rfl rfl rfl rfl lt0 ?_)
    refine VO.cons rfl (V1.assign rfl rfl rfl lt0 ?_)
    refine VO.nil ?_
    exact ⟨(m0, ((a1.set (Int.toNat i) k1), (IntKind.i64.wrap (k1 + (1 : Int))), (IntKind.i64.wrap (i + (1 : Int)))), ()), hl1 _ (Option.some.inj hm1).symm, Nat.lt_succ_self _, Keeps.mk (ks := [0]) rfl ⟨(someSref (by simp)), rfl, rfl, trivial⟩ (⟨_, _, rfl, rfl, rfl⟩) rfl⟩
   ·
    replace hm1 := cond_f hc0 hm1
    refine V.exit ?_
    obtain rfl := hr1 _ (Option.some.inj hm1).symm
    exact ⟨((a1, k1), ()), rfl, Keeps.mk (ks := [0]) rfl ⟨(someSref (by simp)), rfl, trivial⟩ (⟨_, _, rfl, rfl, rfl⟩) rfl⟩
  ·
   rintro ⟨⟨a0, k0⟩, _⟩ rfl
   try dsimp only at hm0
   refine V.seq ?_
   refine V.region ?_
   refine VO.cons rfl (V1.move rfl rfl rfl lt0 ?_)
   refine VO.cons rfl (V1.assign rfl rfl rfl lt0 ?_)
   refine VO.nil ?_
   refine V.keep 19 [4] [0] (E0 := [(4, .int .i64 k0)]) (H0 := [(oq, ⟨1, List.map encInt a0⟩)]) rfl (⟨_, _, rfl, rfl, rfl⟩) (⟨_, _, rfl, rfl, rfl⟩) rfl ?_
   refine V.ret ?_
   obtain rfl := Option.some.inj hm0
   exact ⟨_, _, ⟨_, _, rfl, rfl, rfl⟩, List.Sublist.refl _, rfl, rfl⟩

theorem ok_laws_markCartonS {rn : Nat} {oq : Option Nat} {tq : List PV} {oz : List (Nat × Obj')} {a : List Carton} {k : Int} {r : Int × List Carton} (h : M.laws_markCartonS a k = some r) (hoq : oq = none → a = []) (hdq : Deep 1 (fun c_ : Carton => List.map encInt c_.Files) tq oz a) : Does Try.prog 26 [optS 5 oq (List.length a), .int .i64 k] (optH 5 oq (deepC cellCarton tq a) ++ oz) rn (fun x H => ∃ (tr_ : List PV) (or_ : List (Nat × Obj')), Deep 1 (fun c_ : Carton => List.map encInt c_.Files) tr_ or_ r.2 ∧ x = .int .i64 r.1 ∧ H = (optH 5 oq (deepC cellCarton tr_ r.2) ++ or_)) := by
 have hm0 := h; clear h; unfold M.laws_markCartonS at hm0
 try dsimp only at hm0
 refine Does.intro (N := 48) Try.func26 rfl rfl rfl rfl ?_
 intro w0 S0
 rcases oq with _ | oq
 ·
  obtain ⟨rfl, rfl⟩ := Deep.nil (hoq rfl) hdq
  refine V.seq ?_
  refine V.region ?_
  refine VO.cons rfl (V1.assign rfl rfl rfl lt0 ?_)
  refine VO.nil ?_
  refine V.seq ?_
  refine V.seq ?_
  refine V.region ?_
  refine VO.cons rfl (V1.assign rfl rfl rfl lt0 ?_)
  refine VO.nil ?_
  replace hm0 := bindO hm0; rcases hm0 with ⟨e0, he1, hm0⟩
  refine V.cutT (D := (List Carton × Int) × (Unit)) (fun ⟨⟨a0, k0⟩, _⟩ => ⟨48, [(0, .nils), (1, .int .i64 k0)], []⟩) (fun ⟨⟨a0, k0⟩, _⟩ => ((a0, k0) = e0) ∧ a0 = []) ?_ ?_
  ·
   refine V.block ?_
   refine V.keep 48 [0, 1, 5] [] (E0 := [(0, .nils), (1, .int .i64 k), (5, .int .i64 (0 : Int))]) (H0 := []) rfl (⟨_, _, rfl, rfl, ⟨_, _, rfl, rfl, ⟨_, _, rfl, rfl, rfl⟩⟩⟩) (rfl) rfl ?_
   refine V.loopE (D := Nat × (List Carton × Int × Int) × (Unit)) (fun ⟨n0, ⟨a1, k1, i⟩, _⟩ => [(0, .nils), (1, .int .i64 k1), (5, .int .i64 i)]) (fun ⟨n0, ⟨a1, k1, i⟩, _⟩ => []) (fun ⟨n0, ⟨a1, k1, i⟩, _⟩ => loopO (M.laws_markCartonS_l0) n0 (a1, k1, i) = some e0 ∧ a1 = []) (fun ⟨n0, _, _⟩ => n0) (rounds, (a, k, (0 : Int)), ()) rfl ⟨he1, (hoq rfl)⟩ ?_
   rintro ⟨n0, ⟨a1, k1, i⟩, _⟩ ⟨hP0, hn_a1⟩
   obtain ⟨m0, y0, rfl, hm1, hl1, hr1⟩ := loop_head hP0
   unfold M.laws_markCartonS_l0 at hm1; dsimp only at hm1
   show V _ _ _ ⟨48, [(0, .nils), (1, .int .i64 k1), (5, .int .i64 i)], []⟩
   refine V.seq ?_
   refine V.seq ?_
   refine V.region ?_
   refine VO.cons rfl (V1.move rfl rfl rfl lt0 ?_)
   refine VO.cons rfl (V1.move rfl rfl rfl lt0 ?_)
   refine VO.cons rfl (V1.lenNilsE (l := a1) hn_a1 rfl rfl rfl rfl rfl rfl isl_39 lt0 ?_)
   refine VO.cons rfl (V1.int rfl rfl rfl rfl rfl lt0 ?_)
   refine VO.nil ?_
   refine V.cond rfl (fun hc0 => ?_) (fun hc0 => ?_)
   ·
    replace hm1 := cond_t hc0 hm1
    refine V.skip ?_
    refine V.keep 48 [0, 1, 5] [] (E0 := [(0, .nils), (1, .int .i64 k1), (5, .int .i64 i)]) (H0 := []) rfl (⟨_, _, rfl, rfl, ⟨_, _, rfl, rfl, ⟨_, _, rfl, rfl, rfl⟩⟩⟩) (rfl) rfl ?_
    refine V.seq ?_
    refine V.block ?_
    refine V.seq ?_
    replace hm1 := asrt_some hm1; rcases hm1 with ⟨hh0, hm1⟩
    refine V.region ?_
    refine VO.cons rfl (V1.move rfl rfl rfl lt0 ?_)
    refine VO.cons rfl (V1.move rfl rfl rfl lt0 ?_)
    refine VO.cons rfl (V1.move rfl rfl rfl lt0 ?_)
    refine VO.weakenK (Keeps.nilsE (l := a1) 12 rn 5 (encCarton rn) hn_a1 rfl rfl) ?_
    refine VO.cons rfl (V1.indexI rfl rfl esz_39 rfl rfl hh0 lt0 ?_)
    refine VO.cons rfl (V1.fieldPin rfl rfl fo_67_0 rfl lt0 ?_)
    exact (nilsNo hn_a1 hh0).elim
   ·
    replace hm1 := cond_f hc0 hm1
    refine V.exit ?_
    obtain rfl := hr1 _ (Option.some.inj hm1).symm
    exact ⟨((a1, k1), ()), ⟨rfl, hn_a1⟩, Keeps.mk (ks := []) rfl ⟨rfl, rfl, trivial⟩ (rfl) rfl⟩
  ·
   rintro ⟨⟨a0, k0⟩, _⟩ ⟨rfl, hn_a0⟩
   try dsimp only at hm0
   refine V.seq ?_
   refine V.region ?_
   refine VO.cons rfl (V1.move rfl rfl rfl lt0 ?_)
   refine VO.cons rfl (V1.assign rfl rfl rfl lt0 ?_)
   refine VO.nil ?_
   refine V.keep 48 [4] [] (E0 := [(4, .int .i64 k0)]) (H0 := []) rfl (⟨_, _, rfl, rfl, rfl⟩) (rfl) rfl ?_
   refine V.ret ?_
   obtain rfl := Option.some.inj hm0
   exact ⟨_, _, ⟨_, _, rfl, rfl, rfl⟩, List.Sublist.refl _, [], [], (Deep.ofNil hn_a0), rfl, rfl⟩
 ·
  refine V.seq ?_
  refine V.region ?_
  refine VO.cons rfl (V1.assign rfl rfl rfl lt0 ?_)
  refine VO.nil ?_
  refine V.seq ?_
  refine V.seq ?_
  refine V.region ?_
  refine VO.cons rfl (V1.assign rfl rfl rfl lt0 ?_)
  refine VO.nil ?_
  replace hm0 := bindO hm0; rcases hm0 with ⟨e0, he1, hm0⟩
  refine V.cutT (D := (List Carton × Int) × (List PV × (List (Nat × Obj')))) (fun ⟨⟨a0, k0⟩, ⟨ts_76, os_76⟩⟩ => ⟨48, [(0, .sref oq 5 0 (List.length a0)), (1, .int .i64 k0)], ([(oq, ⟨5, deepC cellCarton ts_76 a0⟩)]) ++ os_76⟩) (fun ⟨⟨a0, k0⟩, ⟨ts_76, os_76⟩⟩ => ((a0, k0) = e0) ∧ Deep 1 (fun c_ : Carton => List.map encInt c_.Files) ts_76 os_76 a0) ?_ ?_
  ·
   refine V.block ?_
   refine V.keepT 48 [0, 1, 5] [0] (E0 := [(0, .sref oq 5 0 (List.length a)), (1, .int .i64 k), (5, .int .i64 (0 : Int))]) (A := [(oq, ⟨5, deepC cellCarton tq a⟩)]) (T := oz) (H0 := [(oq, ⟨5, deepC cellCarton tq a⟩)]) (T' := oz) rfl (⟨_, _, rfl, rfl, ⟨_, _, rfl, rfl, ⟨_, _, rfl, rfl, rfl⟩⟩⟩) rfl (⟨_, _, rfl, rfl, rfl⟩) rfl (List.Sublist.refl _) ?_
   refine V.loopT (D := Nat × (List Carton × Int × Int) × (List PV × (List (Nat × Obj')))) (fun ⟨n0, ⟨a1, k1, i⟩, ⟨ts_77, os_77⟩⟩ => [(0, .sref oq 5 0 (List.length a1)), (1, .int .i64 k1), (5, .int .i64 i)]) (fun ⟨n0, ⟨a1, k1, i⟩, ⟨ts_77, os_77⟩⟩ => ([(oq, ⟨5, deepC cellCarton ts_77 a1⟩)]) ++ os_77) (fun ⟨n0, ⟨a1, k1, i⟩, ⟨ts_77, os_77⟩⟩ => loopO (M.laws_markCartonS_l0) n0 (a1, k1, i) = some e0 ∧ Deep 1 (fun c_ : Carton => List.map encInt c_.Files) ts_77 os_77 a1) (fun ⟨n0, _, _⟩ => n0) (rounds, (a, k, (0 : Int)), (tq, oz)) rfl ⟨he1, hdq⟩ ?_
   rintro ⟨n0, ⟨a1, k1, i⟩, ⟨ts_77, os_77⟩⟩ ⟨hP0, hd_77⟩
   obtain ⟨m0, y0, rfl, hm1, hl1, hr1⟩ := loop_head hP0
   unfold M.laws_markCartonS_l0 at hm1; dsimp only at hm1
   show V _ _ _ ⟨48, [(0, .sref oq 5 0 (List.length a1)), (1, .int .i64 k1), (5, .int .i64 i)], (([(oq, ⟨5, deepC cellCarton ts_77 a1⟩)] : List (Nat × Obj')) ++ os_77)⟩
   refine V.seq ?_
   refine V.seq ?_
   refine V.region ?_
   refine VO.cons rfl (V1.move rfl rfl rfl lt0 ?_)
   refine VO.cons rfl (V1.move rfl rfl rfl lt0 ?_)
   refine VO.cons rfl (V1.lenSref rfl rfl rfl rfl rfl rfl isl_39 lt0 ?_)
   refine VO.cons rfl (V1.int rfl rfl rfl rfl rfl lt0 ?_)
   refine VO.nil ?_
   refine V.cond rfl (fun hc0 => ?_) (fun hc0 => ?_)
   ·
    replace hm1 := cond_t hc0 hm1
    refine V.skip ?_
    refine V.keepT 48 [0, 1, 5] [0] (E0 := [(0, .sref oq 5 0 (List.length a1)), (1, .int .i64 k1), (5, .int .i64 i)]) (A := [(oq, ⟨5, deepC cellCarton ts_77 a1⟩)]) (T := os_77) (H0 := [(oq, ⟨5, deepC cellCarton ts_77 a1⟩)]) (T' := os_77) rfl (⟨_, _, rfl, rfl, ⟨_, _, rfl, rfl, ⟨_, _, rfl, rfl, rfl⟩⟩⟩) rfl (⟨_, _, rfl, rfl, rfl⟩) rfl (List.Sublist.refl _) ?_
    refine V.seq ?_
    refine V.block ?_
    refine V.seq ?_
    replace hm1 := asrt_some hm1; rcases hm1 with ⟨hh0, hm1⟩
    refine V.region ?_
    refine VO.cons rfl (V1.move rfl rfl rfl lt0 ?_)
    refine VO.cons rfl (V1.move rfl rfl rfl lt0 ?_)
    refine VO.cons rfl (V1.move rfl rfl rfl lt0 ?_)
    refine VO.cons rfl (V1.indexSr rfl rfl esz_39 rfl rfl hh0 lt0 ?_)
    refine VO.cons rfl (V1.fieldRef rfl rfl fo_67_0 rfl lt0 ?_)
    refine VO.cons rfl (V1.storeDeepCell (inn := (fun c_ : Carton => List.map encInt c_.Files)) (cell := cellCarton) (ts := ts_77) (xs := a1) (k := 0) cokCarton (⟨k1, (a1.getD (Int.toNat i) default).Shelf, (a1.getD (Int.toNat i) default).Room, (a1.getD (Int.toNat i) default).Files, (a1.getD (Int.toNat i) default).Thick⟩ : Carton) rfl rfl tyk_3 rfl rfl hd_77 (by simpa using natLt hh0.1 hh0.2) rfl rfl rfl rfl (fun _ => rfl) ?_)
    have hd_78 := Deep.setSame (i := (Int.toNat i)) (⟨k1, (a1.getD (Int.toNat i) default).Shelf, (a1.getD (Int.toNat i) default).Room, (a1.getD (Int.toNat i) default).Files, (a1.getD (Int.toNat i) default).Thick⟩ : Carton) rfl hd_77
    refine VO.weakenK (Keeps.say 0 (y := .sref oq 5 0 (List.length (a1.set (Int.toNat i) (⟨k1, (a1.getD (Int.toNat i) default).Shelf, (a1.getD (Int.toNat i) default).Room, (a1.getD (Int.toNat i) default).Files, (a1.getD (Int.toNat i) default).Thick⟩ : Carton)))) rfl (by simp)) ?_
    refine VO.nil ?_
    refine V.keepT 48 [0, 1, 5] [0] (E0 := [(0, .sref oq 5 0 (List.length (a1.set (Int.toNat i) (⟨k1, (a1.getD (Int.toNat i) default).Shelf, (a1.getD (Int.toNat i) default).Room, (a1.getD (Int.toNat i) default).Files, (a1.getD (Int.toNat i) default).Thick⟩ : Carton)))), (1, .int .i64 k1), (5, .int .i64 i)]) (A := [(oq, ⟨5, deepC cellCarton ts_77 (a1.set (Int.toNat i) (⟨k1, (a1.getD (Int.toNat i) default).Shelf, (a1.getD (Int.toNat i) default).Room, (a1.getD (Int.toNat i) default).Files, (a1.getD (Int.toNat i) default).Thick⟩ : Carton))⟩)]) (T := os_77) (H0 := [(oq, ⟨5, deepC cellCarton ts_77 (a1.set (Int.toNat i) (⟨k1, (a1.getD (Int.toNat i) default).Shelf, (a1.getD (Int.toNat i) default).Room, (a1.getD (Int.toNat i) default).Files, (a1.getD (Int.toNat i) default).Thick⟩ : Carton))⟩)]) (T' := os_77) rfl (⟨_, _, rfl, rfl, ⟨_, _, rfl, rfl, ⟨_, _, rfl, rfl, rfl⟩⟩⟩) rfl (⟨_, _, rfl, rfl, rfl⟩) rfl (List.Sublist.refl _) ?_
    refine V.seq ?_
    refine V.region ?_
    refine VO.cons rfl (V1.move rfl rfl rfl lt0 ?_)
    refine VO.cons rfl (V1.int rfl rfl rfl rfl rfl lt0 ?_)
    refine VO.cons rfl (V1.assign rfl rfl rfl lt0 ?_)
    refine VO.nil ?_
    refine V.seq ?_
    replace hm1 := asrt_some hm1; rcases hm1 with ⟨hh1, hm1⟩
    refine V.region ?_
    refine VO.cons rfl (V1.move rfl rfl rfl lt0 ?_)
    refine VO.cons rfl (V1.move rfl rfl rfl lt0 ?_)
    refine VO.cons rfl (V1.move rfl rfl rfl lt0 ?_)
    refine VO.cons rfl (V1.indexSr rfl rfl esz_39 rfl rfl hh1 lt0 ?_)
    refine VO.cons rfl (V1.fieldRef rfl rfl fo_67_1 rfl lt0 ?_)
    refine VO.cons rfl (V1.storeDeepCell (inn := (fun c_ : Carton => List.map encInt c_.Files)) (cell := cellCarton) (ts := ts_77) (xs := (a1.set (Int.toNat i) (⟨k1, (a1.getD (Int.toNat i) default).Shelf, (a1.getD (Int.toNat i) default).Room, (a1.getD (Int.toNat i) default).Files, (a1.getD (Int.toNat i) default).Thick⟩ : Carton))) (k := 0) cokCarton (⟨((a1.set (Int.toNat i) (⟨k1, (a1.getD (Int.toNat i) default).Shelf, (a1.getD (Int.toNat i) default).Room, (a1.getD (Int.toNat i) default).Files, (a1.getD (Int.toNat i) default).Thick⟩ : Carton)).getD (Int.toNat i) default).Id, (IntKind.i64.wrap (k1 + (1 : Int))), ((a1.set (Int.toNat i) (⟨k1, (a1.getD (Int.toNat i) default).Shelf, (a1.getD (Int.toNat i) default).Room, (a1.getD (Int.toNat i) default).Files, (a1.getD (Int.toNat i) default).Thick⟩ : Carton)).getD (Int.toNat i) default).Room, ((a1.set (Int.toNat i) (⟨k1, (a1.getD (Int.toNat i) default).Shelf, (a1.getD (Int.toNat i) default).Room, (a1.getD (Int.toNat i) default).Files, (a1.getD (Int.toNat i) default).Thick⟩ : Carton)).getD (Int.toNat i) default).Files, ((a1.set (Int.toNat i) (⟨k1, (a1.getD (Int.toNat i) default).Shelf, (a1.getD (Int.toNat i) default).Room, (a1.getD (Int.toNat i) default).Files, (a1.getD (Int.toNat i) default).Thick⟩ : Carton)).getD (Int.toNat i) default).Thick⟩ : Carton) rfl rfl tyk_3 rfl rfl hd_78 (by simpa using natLt hh1.1 hh1.2) rfl rfl rfl rfl (fun _ => rfl) ?_)
    have hd_79 := Deep.setSame (i := (Int.toNat i)) (⟨((a1.set (Int.toNat i) (⟨k1, (a1.getD (Int.toNat i) default).Shelf, (a1.getD (Int.toNat i) default).Room, (a1.getD (Int.toNat i) default).Files, (a1.getD (Int.toNat i) default).Thick⟩ : Carton)).getD (Int.toNat i) default).Id, (IntKind.i64.wrap (k1 + (1 : Int))), ((a1.set (Int.toNat i) (⟨k1, (a1.getD (Int.toNat i) default).Shelf, (a1.getD (Int.toNat i) default).Room, (a1.getD (Int.toNat i) default).Files, (a1.getD (Int.toNat i) default).Thick⟩ : Carton)).getD (Int.toNat i) default).Room, ((a1.set (Int.toNat i) (⟨k1, (a1.getD (Int.toNat i) default).Shelf, (a1.getD (Int.toNat i) default).Room, (a1.getD (Int.toNat i) default).Files, (a1.getD (Int.toNat i) default).Thick⟩ : Carton)).getD (Int.toNat i) default).Files, ((a1.set (Int.toNat i) (⟨k1, (a1.getD (Int.toNat i) default).Shelf, (a1.getD (Int.toNat i) default).Room, (a1.getD (Int.toNat i) default).Files, (a1.getD (Int.toNat i) default).Thick⟩ : Carton)).getD (Int.toNat i) default).Thick⟩ : Carton) rfl hd_78
    have hu_79 : ((a1.set (Int.toNat i) (⟨k1, (a1.getD (Int.toNat i) default).Shelf, (a1.getD (Int.toNat i) default).Room, (a1.getD (Int.toNat i) default).Files, (a1.getD (Int.toNat i) default).Thick⟩ : Carton)).set (Int.toNat i) (⟨((a1.set (Int.toNat i) (⟨k1, (a1.getD (Int.toNat i) default).Shelf, (a1.getD (Int.toNat i) default).Room, (a1.getD (Int.toNat i) default).Files, (a1.getD (Int.toNat i) default).Thick⟩ : Carton)).getD (Int.toNat i) default).Id, (IntKind.i64.wrap (k1 + (1 : Int))), ((a1.set (Int.toNat i) (⟨k1, (a1.getD (Int.toNat i) default).Shelf, (a1.getD (Int.toNat i) default).Room, (a1.getD (Int.toNat i) default).Files, (a1.getD (Int.toNat i) default).Thick⟩ : Carton)).getD (Int.toNat i) default).Room, ((a1.set (Int.toNat i) (⟨k1, (a1.getD (Int.toNat i) default).Shelf, (a1.getD (Int.toNat i) default).Room, (a1.getD (Int.toNat i) default).Files, (a1.getD (Int.toNat i) default).Thick⟩ : Carton)).getD (Int.toNat i) default).Files, ((a1.set (Int.toNat i) (⟨k1, (a1.getD (Int.toNat i) default).Shelf, (a1.getD (Int.toNat i) default).Room, (a1.getD (Int.toNat i) default).Files, (a1.getD (Int.toNat i) default).Thick⟩ : Carton)).getD (Int.toNat i) default).Thick⟩ : Carton)) = (a1.set (Int.toNat i) (⟨k1, (IntKind.i64.wrap (k1 + (1 : Int))), (a1.getD (Int.toNat i) default).Room, (a1.getD (Int.toNat i) default).Files, (a1.getD (Int.toNat i) default).Thick⟩ : Carton)) := set_upd (fun y_ => (⟨y_.Id, (IntKind.i64.wrap (k1 + (1 : Int))), y_.Room, y_.Files, y_.Thick⟩ : Carton)) (by simpa using natLt hh0.1 hh0.2) rfl
    refine VO.weakenK (Keeps.sayObj 0 (ys := deepC cellCarton ts_77 (a1.set (Int.toNat i) (⟨k1, (IntKind.i64.wrap (k1 + (1 : Int))), (a1.getD (Int.toNat i) default).Room, (a1.getD (Int.toNat i) default).Files, (a1.getD (Int.toNat i) default).Thick⟩ : Carton))) rfl (congrArg (deepC cellCarton ts_77) hu_79)) ?_
    rw [hu_79] at hd_79
    refine VO.weakenK (Keeps.say 0 (y := .sref oq 5 0 (List.length (a1.set (Int.toNat i) (⟨k1, (IntKind.i64.wrap (k1 + (1 : Int))), (a1.getD (Int.toNat i) default).Room, (a1.getD (Int.toNat i) default).Files, (a1.getD (Int.toNat i) default).Thick⟩ : Carton)))) rfl (by simp)) ?_
    refine VO.nil ?_
    refine V.keepT 48 [0, 1, 5] [0] (E0 := [(0, .sref oq 5 0 (List.length (a1.set (Int.toNat i) (⟨k1, (IntKind.i64.wrap (k1 + (1 : Int))), (a1.getD (Int.toNat i) default).Room, (a1.getD (Int.toNat i) default).Files, (a1.getD (Int.toNat i) default).Thick⟩ : Carton)))), (1, .int .i64 (IntKind.i64.wrap (k1 + (1 : Int)))), (5, .int .i64 i)]) (A := [(oq, ⟨5, deepC cellCarton ts_77 (a1.set (Int.toNat i) (⟨k1, (IntKind.i64.wrap (k1 + (1 : Int))), (a1.getD (Int.toNat i) default).Room, (a1.getD (Int.toNat i) default).Files, (a1.getD (Int.toNat i) default).Thick⟩ : Carton))⟩)]) (T := os_77) (H0 := [(oq, ⟨5, deepC cellCarton ts_77 (a1.set (Int.toNat i) (⟨k1, (IntKind.i64.wrap (k1 + (1 : Int))), (a1.getD (Int.toNat i) default).Room, (a1.getD (Int.toNat i) default).Files, (a1.getD (Int.toNat i) default).Thick⟩ : Carton))⟩)]) (T' := os_77) rfl (⟨_, _, rfl, rfl, ⟨_, _, rfl, rfl, ⟨_, _, rfl, rfl, rfl⟩⟩⟩) rfl (⟨_, _, rfl, rfl, rfl⟩) rfl (List.Sublist.refl _) ?_
    refine V.seq ?_
    refine V.region ?_
    refine VO.cons rfl (V1.move rfl rfl rfl lt0 ?_)
    refine VO.cons rfl (V1.int rfl rfl rfl rfl rfl lt0 ?_)
    refine VO.cons rfl (V1.assign rfl rfl rfl lt0 ?_)
    refine VO.nil ?_
    refine V.seq ?_
    replace hm1 := asrt_some hm1; rcases hm1 with ⟨hh2, hm1⟩
    refine V.region ?_
    refine VO.cons rfl (V1.move rfl rfl rfl lt0 ?_)
    refine VO.cons rfl (V1.move rfl rfl rfl lt0 ?_)
    refine VO.cons rfl (V1.move rfl rfl rfl lt0 ?_)
    refine VO.cons rfl (V1.indexSr rfl rfl esz_39 rfl rfl hh2 lt0 ?_)
    refine VO.cons rfl (V1.fieldRef rfl rfl fo_67_2 rfl lt0 ?_)
    refine VO.cons rfl (V1.storeDeepCell (inn := (fun c_ : Carton => List.map encInt c_.Files)) (cell := cellCarton) (ts := ts_77) (xs := (a1.set (Int.toNat i) (⟨k1, (IntKind.i64.wrap (k1 + (1 : Int))), (a1.getD (Int.toNat i) default).Room, (a1.getD (Int.toNat i) default).Files, (a1.getD (Int.toNat i) default).Thick⟩ : Carton))) (k := 0) cokCarton (⟨((a1.set (Int.toNat i) (⟨k1, (IntKind.i64.wrap (k1 + (1 : Int))), (a1.getD (Int.toNat i) default).Room, (a1.getD (Int.toNat i) default).Files, (a1.getD (Int.toNat i) default).Thick⟩ : Carton)).getD (Int.toNat i) default).Id, ((a1.set (Int.toNat i) (⟨k1, (IntKind.i64.wrap (k1 + (1 : Int))), (a1.getD (Int.toNat i) default).Room, (a1.getD (Int.toNat i) default).Files, (a1.getD (Int.toNat i) default).Thick⟩ : Carton)).getD (Int.toNat i) default).Shelf, (IntKind.i64.wrap ((IntKind.i64.wrap (k1 + (1 : Int))) + (1 : Int))), ((a1.set (Int.toNat i) (⟨k1, (IntKind.i64.wrap (k1 + (1 : Int))), (a1.getD (Int.toNat i) default).Room, (a1.getD (Int.toNat i) default).Files, (a1.getD (Int.toNat i) default).Thick⟩ : Carton)).getD (Int.toNat i) default).Files, ((a1.set (Int.toNat i) (⟨k1, (IntKind.i64.wrap (k1 + (1 : Int))), (a1.getD (Int.toNat i) default).Room, (a1.getD (Int.toNat i) default).Files, (a1.getD (Int.toNat i) default).Thick⟩ : Carton)).getD (Int.toNat i) default).Thick⟩ : Carton) rfl rfl tyk_3 rfl rfl hd_79 (by simpa using natLt hh2.1 hh2.2) rfl rfl rfl rfl (fun _ => rfl) ?_)
    have hd_80 := Deep.setSame (i := (Int.toNat i)) (⟨((a1.set (Int.toNat i) (⟨k1, (IntKind.i64.wrap (k1 + (1 : Int))), (a1.getD (Int.toNat i) default).Room, (a1.getD (Int.toNat i) default).Files, (a1.getD (Int.toNat i) default).Thick⟩ : Carton)).getD (Int.toNat i) default).Id, ((a1.set (Int.toNat i) (⟨k1, (IntKind.i64.wrap (k1 + (1 : Int))), (a1.getD (Int.toNat i) default).Room, (a1.getD (Int.toNat i) default).Files, (a1.getD (Int.toNat i) default).Thick⟩ : Carton)).getD (Int.toNat i) default).Shelf, (IntKind.i64.wrap ((IntKind.i64.wrap (k1 + (1 : Int))) + (1 : Int))), ((a1.set (Int.toNat i) (⟨k1, (IntKind.i64.wrap (k1 + (1 : Int))), (a1.getD (Int.toNat i) default).Room, (a1.getD (Int.toNat i) default).Files, (a1.getD (Int.toNat i) default).Thick⟩ : Carton)).getD (Int.toNat i) default).Files, ((a1.set (Int.toNat i) (⟨k1, (IntKind.i64.wrap (k1 + (1 : Int))), (a1.getD (Int.toNat i) default).Room, (a1.getD (Int.toNat i) default).Files, (a1.getD (Int.toNat i) default).Thick⟩ : Carton)).getD (Int.toNat i) default).Thick⟩ : Carton) rfl hd_79
    have hu_80 : ((a1.set (Int.toNat i) (⟨k1, (IntKind.i64.wrap (k1 + (1 : Int))), (a1.getD (Int.toNat i) default).Room, (a1.getD (Int.toNat i) default).Files, (a1.getD (Int.toNat i) default).Thick⟩ : Carton)).set (Int.toNat i) (⟨((a1.set (Int.toNat i) (⟨k1, (IntKind.i64.wrap (k1 + (1 : Int))), (a1.getD (Int.toNat i) default).Room, (a1.getD (Int.toNat i) default).Files, (a1.getD (Int.toNat i) default).Thick⟩ : Carton)).getD (Int.toNat i) default).Id, ((a1.set (Int.toNat i) (⟨k1, (IntKind.i64.wrap (k1 + (1 : Int))), (a1.getD (Int.toNat i) default).Room, (a1.getD (Int.toNat i) default).Files, (a1.getD (Int.toNat i) default).Thick⟩ : Carton)).getD (Int.toNat i) default).Shelf, (IntKind.i64.wrap ((IntKind.i64.wrap (k1 + (1 : Int))) + (1 : Int))), ((a1.set (Int.toNat i) (⟨k1, (IntKind.i64.wrap (k1 + (1 : Int))), (a1.getD (Int.toNat i) default).Room, (a1.getD (Int.toNat i) default).Files, (a1.getD (Int.toNat i) default).Thick⟩ : Carton)).getD (Int.toNat i) default).Files, ((a1.set (Int.toNat i) (⟨k1, (IntKind.i64.wrap (k1 + (1 : Int))), (a1.getD (Int.toNat i) default).Room, (a1.getD (Int.toNat i) default).Files, (a1.getD (Int.toNat i) default).Thick⟩ : Carton)).getD (Int.toNat i) default).Thick⟩ : Carton)) = (a1.set (Int.toNat i) (⟨k1, (IntKind.i64.wrap (k1 + (1 : Int))), (IntKind.i64.wrap ((IntKind.i64.wrap (k1 + (1 : Int))) + (1 : Int))), (a1.getD (Int.toNat i) default).Files, (a1.getD (Int.toNat i) default).Thick⟩ : Carton)) := set_upd (fun y_ => (⟨y_.Id, y_.Shelf, (IntKind.i64.wrap ((IntKind.i64.wrap (k1 + (1 : Int))) + (1 : Int))), y_.Files, y_.Thick⟩ : Carton)) (by simpa using natLt hh0.1 hh0.2) rfl
    refine VO.weakenK (Keeps.sayObj 0 (ys := deepC cellCarton ts_77 (a1.set (Int.toNat i) (⟨k1, (IntKind.i64.wrap (k1 + (1 : Int))), (IntKind.i64.wrap ((IntKind.i64.wrap (k1 + (1 : Int))) + (1 : Int))), (a1.getD (Int.toNat i) default).Files, (a1.getD (Int.toNat i) default).Thick⟩ : Carton))) rfl (congrArg (deepC cellCarton ts_77) hu_80)) ?_
    rw [hu_80] at hd_80
    refine VO.weakenK (Keeps.say 0 (y := .sref oq 5 0 (List.length (a1.set (Int.toNat i) (⟨k1, (IntKind.i64.wrap (k1 + (1 : Int))), (IntKind.i64.wrap ((IntKind.i64.wrap (k1 + (1 : Int))) + (1 : Int))), (a1.getD (Int.toNat i) default).Files, (a1.getD (Int.toNat i) default).Thick⟩ : Carton)))) rfl (by simp)) ?_
    refine VO.nil ?_
    refine V.keepT 48 [0, 1, 5] [0] (E0 := [(0, .sref oq 5 0 (List.length (a1.set (Int.toNat i) (⟨k1, (IntKind.i64.wrap (k1 + (1 : Int))), (IntKind.i64.wrap ((IntKind.i64.wrap (k1 + (1 : Int))) + (1 : Int))), (a1.getD (Int.toNat i) default).Files, (a1.getD (Int.toNat i) default).Thick⟩ : Carton)))), (1, .int .i64 (IntKind.i64.wrap ((IntKind.i64.wrap (k1 + (1 : Int))) + (1 : Int)))), (5, .int .i64 i)]) (A := [(oq, ⟨5, deepC cellCarton ts_77 (a1.set (Int.toNat i) (⟨k1, (IntKind.i64.wrap (k1 + (1 : Int))), (IntKind.i64.wrap ((IntKind.i64.wrap (k1 + (1 : Int))) + (1 : Int))), (a1.getD (Int.toNat i) default).Files, (a1.getD (Int.toNat i) default).Thick⟩ : Carton))⟩)]) (T := os_77) (H0 := [(oq, ⟨5, deepC cellCarton ts_77 (a1.set (Int.toNat i) (⟨k1, (IntKind.i64.wrap (k1 + (1 : Int))), (IntKind.i64.wrap ((IntKind.i64.wrap (k1 + (1 : Int))) + (1 : Int))), (a1.getD (Int.toNat i) default).Files, (a1.getD (Int.toNat i) default).Thick⟩ : Carton))⟩)]) (T' := os_77) rfl (⟨_, _, rfl, rfl, ⟨_, _, rfl, rfl, ⟨_, _, rfl, rfl, rfl⟩⟩⟩) rfl (⟨_, _, rfl, rfl, rfl⟩) rfl (List.Sublist.refl _) ?_
    refine V.seq ?_
    refine V.region ?_
    refine VO.cons rfl (V1.move rfl rfl rfl lt0 ?_)
    refine VO.cons rfl (V1.int rfl rfl rfl rfl rfl lt0 ?_)
    refine VO.cons rfl (V1.assign rfl rfl rfl lt0 ?_)
    refine VO.nil ?_
    refine V.seq ?_
    replace hm1 := asrt_some hm1; rcases hm1 with ⟨hh3, hm1⟩
    replace hm1 := bindO hm1; rcases hm1 with ⟨y1, hh4, hm1⟩
    replace hm1 := asrt_some hm1; rcases hm1 with ⟨hh5, hm1⟩
    refine V.region ?_
    refine VO.cons rfl (V1.move rfl rfl rfl lt0 ?_)
    refine VO.cons rfl (V1.move rfl rfl rfl lt0 ?_)
    refine VO.cons rfl (V1.indexSr rfl rfl esz_39 rfl rfl hh3 lt0 ?_)
    refine VO.cons rfl (V1.fieldRef rfl rfl fo_67_3 rfl lt0 ?_)
    refine VO.cons rfl (V1.loadDeepIn (inn := (fun c_ : Carton => List.map encInt c_.Files)) (cell := cellCarton) (ts := ts_77) (xs := (a1.set (Int.toNat i) (⟨k1, (IntKind.i64.wrap (k1 + (1 : Int))), (IntKind.i64.wrap ((IntKind.i64.wrap (k1 + (1 : Int))) + (1 : Int))), (a1.getD (Int.toNat i) default).Files, (a1.getD (Int.toNat i) default).Thick⟩ : Carton))) (k := 0) cokCarton rfl rfl tyk_36 rfl rfl hd_80 (by simpa using natLt hh3.1 hh3.2) lt0 ?_)
    refine VO.cons rfl (V1.move rfl rfl rfl lt0 ?_)
    obtain ⟨ob_81, os1_81, os2_81, hob_81, ht_81, hos_81, hp_81, hs_81⟩ := Deep.focusM (f := encInt) (g := (fun c_ : Carton => c_.Files)) (Int.toNat i) hd_80 (by simpa using natLt hh3.1 hh3.2)
    refine VO.weakenK (Keeps.say 37 (y := optS 1 ob_81 (List.length (((a1.set (Int.toNat i) (⟨k1, (IntKind.i64.wrap (k1 + (1 : Int))), (IntKind.i64.wrap ((IntKind.i64.wrap (k1 + (1 : Int))) + (1 : Int))), (a1.getD (Int.toNat i) default).Files, (a1.getD (Int.toNat i) default).Thick⟩ : Carton)).getD (Int.toNat i) default).Files))) rfl ht_81) ?_
    refine VO.cons rfl (V1.callD (A := [(oq, ⟨5, deepC cellCarton ts_77 (a1.set (Int.toNat i) (⟨k1, (IntKind.i64.wrap (k1 + (1 : Int))), (IntKind.i64.wrap ((IntKind.i64.wrap (k1 + (1 : Int))) + (1 : Int))), (a1.getD (Int.toNat i) default).Files, (a1.getD (Int.toNat i) default).Thick⟩ : Carton))⟩)]) (os1 := os1_81) (os2 := os2_81) (Hc := optH 1 ob_81 (List.map encInt (((a1.set (Int.toNat i) (⟨k1, (IntKind.i64.wrap (k1 + (1 : Int))), (IntKind.i64.wrap ((IntKind.i64.wrap (k1 + (1 : Int))) + (1 : Int))), (a1.getD (Int.toNat i) default).Files, (a1.getD (Int.toNat i) default).Thick⟩ : Carton)).getD (Int.toNat i) default).Files))) rfl rfl rfl cok_27 rfl (appEq (A := [(oq, ⟨5, deepC cellCarton ts_77 (a1.set (Int.toNat i) (⟨k1, (IntKind.i64.wrap (k1 + (1 : Int))), (IntKind.i64.wrap ((IntKind.i64.wrap (k1 + (1 : Int))) + (1 : Int))), (a1.getD (Int.toNat i) default).Files, (a1.getD (Int.toNat i) default).Thick⟩ : Carton))⟩)]) hos_81) (rn + 1) [] [optS 1 ob_81 (List.length (((a1.set (Int.toNat i) (⟨k1, (IntKind.i64.wrap (k1 + (1 : Int))), (IntKind.i64.wrap ((IntKind.i64.wrap (k1 + (1 : Int))) + (1 : Int))), (a1.getD (Int.toNat i) default).Files, (a1.getD (Int.toNat i) default).Thick⟩ : Carton)).getD (Int.toNat i) default).Files)), .int .i64 (IntKind.i64.wrap ((IntKind.i64.wrap ((IntKind.i64.wrap (k1 + (1 : Int))) + (1 : Int))) + (1 : Int)))] ⟨_, _, rfl, .same _, ⟨_, _, rfl, .same _, rfl⟩⟩ bwNil (ok_laws_markIntS hh4 (oq := ob_81) hob_81) rfl (.inl rfl) lt0 ?_)
    rintro _ _ ⟨rfl, rfl⟩
    have hd_81 := hs_81 (⟨((a1.set (Int.toNat i) (⟨k1, (IntKind.i64.wrap (k1 + (1 : Int))), (IntKind.i64.wrap ((IntKind.i64.wrap (k1 + (1 : Int))) + (1 : Int))), (a1.getD (Int.toNat i) default).Files, (a1.getD (Int.toNat i) default).Thick⟩ : Carton)).getD (Int.toNat i) default).Id, ((a1.set (Int.toNat i) (⟨k1, (IntKind.i64.wrap (k1 + (1 : Int))), (IntKind.i64.wrap ((IntKind.i64.wrap (k1 + (1 : Int))) + (1 : Int))), (a1.getD (Int.toNat i) default).Files, (a1.getD (Int.toNat i) default).Thick⟩ : Carton)).getD (Int.toNat i) default).Shelf, ((a1.set (Int.toNat i) (⟨k1, (IntKind.i64.wrap (k1 + (1 : Int))), (IntKind.i64.wrap ((IntKind.i64.wrap (k1 + (1 : Int))) + (1 : Int))), (a1.getD (Int.toNat i) default).Files, (a1.getD (Int.toNat i) default).Thick⟩ : Carton)).getD (Int.toNat i) default).Room, y1.2, ((a1.set (Int.toNat i) (⟨k1, (IntKind.i64.wrap (k1 + (1 : Int))), (IntKind.i64.wrap ((IntKind.i64.wrap (k1 + (1 : Int))) + (1 : Int))), (a1.getD (Int.toNat i) default).Files, (a1.getD (Int.toNat i) default).Thick⟩ : Carton)).getD (Int.toNat i) default).Thick⟩ : Carton) hh5
    refine VO.weakenK (Keeps.sayObj 0 (ys := deepC cellCarton ts_77 ((a1.set (Int.toNat i) (⟨k1, (IntKind.i64.wrap (k1 + (1 : Int))), (IntKind.i64.wrap ((IntKind.i64.wrap (k1 + (1 : Int))) + (1 : Int))), (a1.getD (Int.toNat i) default).Files, (a1.getD (Int.toNat i) default).Thick⟩ : Carton)).set (Int.toNat i) (⟨((a1.set (Int.toNat i) (⟨k1, (IntKind.i64.wrap (k1 + (1 : Int))), (IntKind.i64.wrap ((IntKind.i64.wrap (k1 + (1 : Int))) + (1 : Int))), (a1.getD (Int.toNat i) default).Files, (a1.getD (Int.toNat i) default).Thick⟩ : Carton)).getD (Int.toNat i) default).Id, ((a1.set (Int.toNat i) (⟨k1, (IntKind.i64.wrap (k1 + (1 : Int))), (IntKind.i64.wrap ((IntKind.i64.wrap (k1 + (1 : Int))) + (1 : Int))), (a1.getD (Int.toNat i) default).Files, (a1.getD (Int.toNat i) default).Thick⟩ : Carton)).getD (Int.toNat i) default).Shelf, ((a1.set (Int.toNat i) (⟨k1, (IntKind.i64.wrap (k1 + (1 : Int))), (IntKind.i64.wrap ((IntKind.i64.wrap (k1 + (1 : Int))) + (1 : Int))), (a1.getD (Int.toNat i) default).Files, (a1.getD (Int.toNat i) default).Thick⟩ : Carton)).getD (Int.toNat i) default).Room, y1.2, ((a1.set (Int.toNat i) (⟨k1, (IntKind.i64.wrap (k1 + (1 : Int))), (IntKind.i64.wrap ((IntKind.i64.wrap (k1 + (1 : Int))) + (1 : Int))), (a1.getD (Int.toNat i) default).Files, (a1.getD (Int.toNat i) default).Thick⟩ : Carton)).getD (Int.toNat i) default).Thick⟩ : Carton))) rfl (deepC_same (Deep.length hd_80) (fun _ => rfl))) ?_
    have hu_81 : ((a1.set (Int.toNat i) (⟨k1, (IntKind.i64.wrap (k1 + (1 : Int))), (IntKind.i64.wrap ((IntKind.i64.wrap (k1 + (1 : Int))) + (1 : Int))), (a1.getD (Int.toNat i) default).Files, (a1.getD (Int.toNat i) default).Thick⟩ : Carton)).set (Int.toNat i) (⟨((a1.set (Int.toNat i) (⟨k1, (IntKind.i64.wrap (k1 + (1 : Int))), (IntKind.i64.wrap ((IntKind.i64.wrap (k1 + (1 : Int))) + (1 : Int))), (a1.getD (Int.toNat i) default).Files, (a1.getD (Int.toNat i) default).Thick⟩ : Carton)).getD (Int.toNat i) default).Id, ((a1.set (Int.toNat i) (⟨k1, (IntKind.i64.wrap (k1 + (1 : Int))), (IntKind.i64.wrap ((IntKind.i64.wrap (k1 + (1 : Int))) + (1 : Int))), (a1.getD (Int.toNat i) default).Files, (a1.getD (Int.toNat i) default).Thick⟩ : Carton)).getD (Int.toNat i) default).Shelf, ((a1.set (Int.toNat i) (⟨k1, (IntKind.i64.wrap (k1 + (1 : Int))), (IntKind.i64.wrap ((IntKind.i64.wrap (k1 + (1 : Int))) + (1 : Int))), (a1.getD (Int.toNat i) default).Files, (a1.getD (Int.toNat i) default).Thick⟩ : Carton)).getD (Int.toNat i) default).Room, y1.2, ((a1.set (Int.toNat i) (⟨k1, (IntKind.i64.wrap (k1 + (1 : Int))), (IntKind.i64.wrap ((IntKind.i64.wrap (k1 + (1 : Int))) + (1 : Int))), (a1.getD (Int.toNat i) default).Files, (a1.getD (Int.toNat i) default).Thick⟩ : Carton)).getD (Int.toNat i) default).Thick⟩ : Carton)) = (a1.set (Int.toNat i) (⟨k1, (IntKind.i64.wrap (k1 + (1 : Int))), (IntKind.i64.wrap ((IntKind.i64.wrap (k1 + (1 : Int))) + (1 : Int))), y1.2, (a1.getD (Int.toNat i) default).Thick⟩ : Carton)) := set_upd (fun y_ => (⟨y_.Id, y_.Shelf, y_.Room, y1.2, y_.Thick⟩ : Carton)) (by simpa using natLt hh0.1 hh0.2) rfl
    refine VO.weakenK (Keeps.sayObj 0 (ys := deepC cellCarton ts_77 (a1.set (Int.toNat i) (⟨k1, (IntKind.i64.wrap (k1 + (1 : Int))), (IntKind.i64.wrap ((IntKind.i64.wrap (k1 + (1 : Int))) + (1 : Int))), y1.2, (a1.getD (Int.toNat i) default).Thick⟩ : Carton))) rfl (congrArg (deepC cellCarton ts_77) hu_81)) ?_
    rw [hu_81] at hd_81
    refine VO.weakenK (Keeps.say 0 (y := .sref oq 5 0 (List.length (a1.set (Int.toNat i) (⟨k1, (IntKind.i64.wrap (k1 + (1 : Int))), (IntKind.i64.wrap ((IntKind.i64.wrap (k1 + (1 : Int))) + (1 : Int))), y1.2, (a1.getD (Int.toNat i) default).Thick⟩ : Carton)))) rfl (by simp)) ?_
    refine VO.cons rfl (V1.assign rfl rfl rfl lt0 ?_)
    refine VO.nil ?_
    refine V.keepT 48 [0, 1, 5] [0] (E0 := [(0, .sref oq 5 0 (List.length (a1.set (Int.toNat i) (⟨k1, (IntKind.i64.wrap (k1 + (1 : Int))), (IntKind.i64.wrap ((IntKind.i64.wrap (k1 + (1 : Int))) + (1 : Int))), y1.2, (a1.getD (Int.toNat i) default).Thick⟩ : Carton)))), (1, .int .i64 y1.1), (5, .int .i64 i)]) (A := [(oq, ⟨5, deepC cellCarton ts_77 (a1.set (Int.toNat i) (⟨k1, (IntKind.i64.wrap (k1 + (1 : Int))), (IntKind.i64.wrap ((IntKind.i64.wrap (k1 + (1 : Int))) + (1 : Int))), y1.2, (a1.getD (Int.toNat i) default).Thick⟩ : Carton))⟩)]) (T := (os1_81 ++ (optH 1 ob_81 (List.map encInt y1.2) ++ os2_81))) (H0 := [(oq, ⟨5, deepC cellCarton ts_77 (a1.set (Int.toNat i) (⟨k1, (IntKind.i64.wrap (k1 + (1 : Int))), (IntKind.i64.wrap ((IntKind.i64.wrap (k1 + (1 : Int))) + (1 : Int))), y1.2, (a1.getD (Int.toNat i) default).Thick⟩ : Carton))⟩)]) (T' := (os1_81 ++ (optH 1 ob_81 (List.map encInt y1.2) ++ os2_81))) rfl (⟨_, _, rfl, rfl, ⟨_, _, rfl, rfl, ⟨_, _, rfl, rfl, rfl⟩⟩⟩) rfl (⟨_, _, rfl, rfl, rfl⟩) rfl (List.Sublist.refl _) ?_
    refine V.seq ?_
    replace hm1 := asrt_some hm1; rcases hm1 with ⟨hh6, hm1⟩
    refine V.region ?_
    refine VO.cons rfl (V1.move rfl rfl rfl lt0 ?_)
    refine VO.cons rfl (V1.move rfl rfl rfl lt0 ?_)
    refine VO.cons rfl (V1.move rfl rfl rfl lt0 ?_)
    refine VO.cons rfl (V1.indexSr rfl rfl esz_39 rfl rfl hh6 lt0 ?_)
    refine VO.cons rfl (V1.fieldRef rfl rfl fo_67_4 rfl lt0 ?_)
    refine VO.cons rfl (V1.storeDeepCell (inn := (fun c_ : Carton => List.map encInt c_.Files)) (cell := cellCarton) (ts := ts_77) (xs := (a1.set (Int.toNat i) (⟨k1, (IntKind.i64.wrap (k1 + (1 : Int))), (IntKind.i64.wrap ((IntKind.i64.wrap (k1 + (1 : Int))) + (1 : Int))), y1.2, (a1.getD (Int.toNat i) default).Thick⟩ : Carton))) (k := 0) cokCarton (⟨((a1.set (Int.toNat i) (⟨k1, (IntKind.i64.wrap (k1 + (1 : Int))), (IntKind.i64.wrap ((IntKind.i64.wrap (k1 + (1 : Int))) + (1 : Int))), y1.2, (a1.getD (Int.toNat i) default).Thick⟩ : Carton)).getD (Int.toNat i) default).Id, ((a1.set (Int.toNat i) (⟨k1, (IntKind.i64.wrap (k1 + (1 : Int))), (IntKind.i64.wrap ((IntKind.i64.wrap (k1 + (1 : Int))) + (1 : Int))), y1.2, (a1.getD (Int.toNat i) default).Thick⟩ : Carton)).getD (Int.toNat i) default).Shelf, ((a1.set (Int.toNat i) (⟨k1, (IntKind.i64.wrap (k1 + (1 : Int))), (IntKind.i64.wrap ((IntKind.i64.wrap (k1 + (1 : Int))) + (1 : Int))), y1.2, (a1.getD (Int.toNat i) default).Thick⟩ : Carton)).getD (Int.toNat i) default).Room, ((a1.set (Int.toNat i) (⟨k1, (IntKind.i64.wrap (k1 + (1 : Int))), (IntKind.i64.wrap ((IntKind.i64.wrap (k1 + (1 : Int))) + (1 : Int))), y1.2, (a1.getD (Int.toNat i) default).Thick⟩ : Carton)).getD (Int.toNat i) default).Files, y1.1⟩ : Carton) rfl rfl tyk_3 rfl rfl hd_81 (by simpa using natLt hh6.1 hh6.2) rfl rfl rfl rfl (fun _ => rfl) ?_)
    have hd_83 := Deep.setSame (i := (Int.toNat i)) (⟨((a1.set (Int.toNat i) (⟨k1, (IntKind.i64.wrap (k1 + (1 : Int))), (IntKind.i64.wrap ((IntKind.i64.wrap (k1 + (1 : Int))) + (1 : Int))), y1.2, (a1.getD (Int.toNat i) default).Thick⟩ : Carton)).getD (Int.toNat i) default).Id, ((a1.set (Int.toNat i) (⟨k1, (IntKind.i64.wrap (k1 + (1 : Int))), (IntKind.i64.wrap ((IntKind.i64.wrap (k1 + (1 : Int))) + (1 : Int))), y1.2, (a1.getD (Int.toNat i) default).Thick⟩ : Carton)).getD (Int.toNat i) default).Shelf, ((a1.set (Int.toNat i) (⟨k1, (IntKind.i64.wrap (k1 + (1 : Int))), (IntKind.i64.wrap ((IntKind.i64.wrap (k1 + (1 : Int))) + (1 : Int))), y1.2, (a1.getD (Int.toNat i) default).Thick⟩ : Carton)).getD (Int.toNat i) default).Room, ((a1.set (Int.toNat i) (⟨k1, (IntKind.i64.wrap (k1 + (1 : Int))), (IntKind.i64.wrap ((IntKind.i64.wrap (k1 + (1 : Int))) + (1 : Int))), y1.2, (a1.getD (Int.toNat i) default).Thick⟩ : Carton)).getD (Int.toNat i) default).Files, y1.1⟩ : Carton) rfl hd_81
    have hu_83 : ((a1.set (Int.toNat i) (⟨k1, (IntKind.i64.wrap (k1 + (1 : Int))), (IntKind.i64.wrap ((IntKind.i64.wrap (k1 + (1 : Int))) + (1 : Int))), y1.2, (a1.getD (Int.toNat i) default).Thick⟩ : Carton)).set (Int.toNat i) (⟨((a1.set (Int.toNat i) (⟨k1, (IntKind.i64.wrap (k1 + (1 : Int))), (IntKind.i64.wrap ((IntKind.i64.wrap (k1 + (1 : Int))) + (1 : Int))), y1.2, (a1.getD (Int.toNat i) default).Thick⟩ : Carton)).getD (Int.toNat i) default).Id, ((a1.set (Int.toNat i) (⟨k1, (IntKind.i64.wrap (k1 + (1 : Int))), (IntKind.i64.wrap ((IntKind.i64.wrap (k1 + (1 : Int))) + (1 : Int))), y1.2, (a1.getD (Int.toNat i) default).Thick⟩ : Carton)).getD (Int.toNat i) default).Shelf, ((a1.set (Int.toNat i) (⟨k1, (IntKind.i64.wrap (k1 + (1 : Int))), (IntKind.i64.wrap ((IntKind.i64.wrap (k1 + (1 : Int))) + (1 : Int))), y1.2, (a1.getD (Int.toNat i) default).Thick⟩ : Carton)).getD (Int.toNat i) default).Room, ((a1.set (Int.toNat i) (⟨k1, (IntKind.i64.wrap (k1 + (1 : Int))), (IntKind.i64.wrap ((IntKind.i64.wrap (k1 + (1 : Int))) + (1 : Int))), y1.2, (a1.getD (Int.toNat i) default).Thick⟩ : Carton)).getD (Int.toNat i) default).Files, y1.1⟩ : Carton)) = (a1.set (Int.toNat i) (⟨k1, (IntKind.i64.wrap (k1 + (1 : Int))), (IntKind.i64.wrap ((IntKind.i64.wrap (k1 + (1 : Int))) + (1 : Int))), y1.2, y1.1⟩ : Carton)) := set_upd (fun y_ => (⟨y_.Id, y_.Shelf, y_.Room, y_.Files, y1.1⟩ : Carton)) (by simpa using natLt hh0.1 hh0.2) rfl
    refine VO.weakenK (Keeps.sayObj 0 (ys := deepC cellCarton ts_77 (a1.set (Int.toNat i) (⟨k1, (IntKind.i64.wrap (k1 + (1 : Int))), (IntKind.i64.wrap ((IntKind.i64.wrap (k1 + (1 : Int))) + (1 : Int))), y1.2, y1.1⟩ : Carton))) rfl (congrArg (deepC cellCarton ts_77) hu_83)) ?_
    rw [hu_83] at hd_83
    refine VO.weakenK (Keeps.say 0 (y := .sref oq 5 0 (List.length (a1.set (Int.toNat i) (⟨k1, (IntKind.i64.wrap (k1 + (1 : Int))), (IntKind.i64.wrap ((IntKind.i64.wrap (k1 + (1 : Int))) + (1 : Int))), y1.2, y1.1⟩ : Carton)))) rfl (by simp)) ?_
    refine VO.nil ?_
    refine V.keepT 48 [0, 1, 5] [0] (E0 := [(0, .sref oq 5 0 (List.length (a1.set (Int.toNat i) (⟨k1, (IntKind.i64.wrap (k1 + (1 : Int))), (IntKind.i64.wrap ((IntKind.i64.wrap (k1 + (1 : Int))) + (1 : Int))), y1.2, y1.1⟩ : Carton)))), (1, .int .i64 y1.1), (5, .int .i64 i)]) (A := [(oq, ⟨5, deepC cellCarton ts_77 (a1.set (Int.toNat i) (⟨k1, (IntKind.i64.wrap (k1 + (1 : Int))), (IntKind.i64.wrap ((IntKind.i64.wrap (k1 + (1 : Int))) + (1 : Int))), y1.2, y1.1⟩ : Carton))⟩)]) (T := (os1_81 ++ (optH 1 ob_81 (List.map encInt y1.2) ++ os2_81))) (H0 := [(oq, ⟨5, deepC cellCarton ts_77 (a1.set (Int.toNat i) (⟨k1, (IntKind.i64.wrap (k1 + (1 : Int))), (IntKind.i64.wrap ((IntKind.i64.wrap (k1 + (1 : Int))) + (1 : Int))), y1.2, y1.1⟩ : Carton))⟩)]) (T' := (os1_81 ++ (optH 1 ob_81 (List.map encInt y1.2) ++ os2_81))) rfl (⟨_, _, rfl, rfl, ⟨_, _, rfl, rfl, ⟨_, _, rfl, rfl, rfl⟩⟩⟩) rfl (⟨_, _, rfl, rfl, rfl⟩) rfl (List.Sublist.refl _) ?_
    refine V.region ?_
    refine VO.cons rfl (V1.move rfl rfl rfl lt0 ?_)
    refine VO.cons rfl (V1.int rfl rfl rfl rfl rfl lt0 ?_)
    refine VO.cons rfl (V1.assign rfl rfl rfl lt0 ?_)
    refine VO.nil ?_
    refine V.region ?_
    refine VO.cons rfl (V1.move rfl rfl rfl lt0 ?_)
    refine VO.cons rfl (V1.int rfl rfl rfl rfl rfl lt0 ?_)
    refine VO.cons rfl (V1.assign rfl rfl rfl lt0 ?_)
    refine VO.nil ?_
    exact ⟨(m0, ((a1.set (Int.toNat i) (⟨k1, (IntKind.i64.wrap (k1 + (1 : Int))), (IntKind.i64.wrap ((IntKind.i64.wrap (k1 + (1 : Int))) + (1 : Int))), y1.2, y1.1⟩ : Carton)), (IntKind.i64.wrap (y1.1 + (1 : Int))), (IntKind.i64.wrap (i + (1 : Int)))), (ts_77, (os1_81 ++ (optH 1 ob_81 (List.map encInt y1.2) ++ os2_81)))), ⟨hl1 _ (Option.some.inj hm1).symm, hd_83⟩, Nat.lt_succ_self _, Keeps.mkT (A := [(oq, ⟨5, deepC cellCarton ts_77 (a1.set (Int.toNat i) (⟨k1, (IntKind.i64.wrap (k1 + (1 : Int))), (IntKind.i64.wrap ((IntKind.i64.wrap (k1 + (1 : Int))) + (1 : Int))), y1.2, y1.1⟩ : Carton))⟩)]) (T := (os1_81 ++ (optH 1 ob_81 (List.map encInt y1.2) ++ os2_81))) (T' := (os1_81 ++ (optH 1 ob_81 (List.map encInt y1.2) ++ os2_81))) (H := [(oq, ⟨5, deepC cellCarton ts_77 (a1.set (Int.toNat i) (⟨k1, (IntKind.i64.wrap (k1 + (1 : Int))), (IntKind.i64.wrap ((IntKind.i64.wrap (k1 + (1 : Int))) + (1 : Int))), y1.2, y1.1⟩ : Carton))⟩)]) (ks := [0]) rfl (by exact ⟨(someSref (by simp)), rfl, rfl, trivial⟩) rfl (by exact (⟨_, _, rfl, rfl, rfl⟩)) rfl (List.Sublist.refl _)⟩
   ·
    replace hm1 := cond_f hc0 hm1
    refine V.exit ?_
    obtain rfl := hr1 _ (Option.some.inj hm1).symm
    exact ⟨((a1, k1), (ts_77, os_77)), ⟨rfl, hd_77⟩, Keeps.mkT (A := [(oq, ⟨5, deepC cellCarton ts_77 a1⟩)]) (T := os_77) (T' := os_77) (H := [(oq, ⟨5, deepC cellCarton ts_77 a1⟩)]) (ks := [0]) rfl (by exact ⟨(someSref (by simp)), rfl, trivial⟩) rfl (by exact (⟨_, _, rfl, rfl, rfl⟩)) rfl (List.Sublist.refl _)⟩
  ·
   rintro ⟨⟨a0, k0⟩, ⟨ts_76, os_76⟩⟩ ⟨rfl, hd_76⟩
   try dsimp only at hm0
   refine V.seq ?_
   refine V.region ?_
   refine VO.cons rfl (V1.move rfl rfl rfl lt0 ?_)
   refine VO.cons rfl (V1.assign rfl rfl rfl lt0 ?_)
   refine VO.nil ?_
   refine V.keepT 48 [4] [0] (E0 := [(4, .int .i64 k0)]) (A := [(oq, ⟨5, deepC cellCarton ts_76 a0⟩)]) (T := os_76) (H0 := [(oq, ⟨5, deepC cellCarton ts_76 a0⟩)]) (T' := os_76) rfl (⟨_, _, rfl, rfl, rfl⟩) rfl (⟨_, _, rfl, rfl, rfl⟩) rfl (List.Sublist.refl _) ?_
   refine V.ret ?_
   obtain rfl := Option.some.inj hm0
   exact ⟨_, _, ⟨_, _, rfl, rfl, rfl⟩, List.Sublist.refl _, ts_76, os_76, hd_76, rfl, rfl⟩

theorem ok_laws_heldIntS {ρ0 rn : Nat} {a : List Int} {k : Int} {r : Int} (h : M.laws_heldIntS a k = some r) : Does Try.prog 28 [.vl ρ0 1 (List.map encInt a), .int .i64 k] [] rn (fun x H => x = .int .i64 r ∧ H = []) := by
 have hm0 := h; clear h; unfold M.laws_heldIntS at hm0
 try dsimp only at hm0
 refine Does.intro (N := 21) Try.func28 rfl rfl rfl rfl ?_
 intro w0 S0
 refine V.seq ?_
 refine V.region ?_
 refine VO.cons rfl (V1.assign rfl rfl rfl lt0 ?_)
 refine VO.nil ?_
 refine V.seq ?_
 refine V.seq ?_
 refine V.region ?_
 refine VO.cons rfl (V1.assign rfl rfl rfl lt0 ?_)
 refine VO.nil ?_
 replace hm0 := bindO hm0; rcases hm0 with ⟨e0, he1, hm0⟩
 refine V.cutT (D := (Int) × (Unit)) (fun ⟨k0, _⟩ => ⟨21, [(1, .int .i64 k0)], []⟩) (fun ⟨k0, _⟩ => (.inl k0 = e0)) ?_ ?_
 ·
  refine V.block ?_
  refine V.keep 21 [1, 5, 0] [] (E0 := [(1, .int .i64 k), (5, .int .i64 (0 : Int)), (0, .vl ρ0 1 (List.map encInt a))]) (H0 := []) rfl (⟨_, _, rfl, rfl, ⟨_, _, rfl, rfl, ⟨_, _, rfl, rfl, rfl⟩⟩⟩) (rfl) rfl ?_
  refine V.loopE (D := Nat × (Int × Int) × (Unit)) (fun ⟨n0, ⟨k1, i⟩, _⟩ => [(1, .int .i64 k1), (5, .int .i64 i)]) (fun ⟨n0, ⟨k1, i⟩, _⟩ => []) (fun ⟨n0, ⟨k1, i⟩, _⟩ => loopO (M.laws_heldIntS_l0 a) n0 (k1, i) = some e0) (fun ⟨n0, _, _⟩ => n0) (rounds, (k, (0 : Int)), ()) rfl he1 ?_
  rintro ⟨n0, ⟨k1, i⟩, _⟩ hP0
  obtain ⟨m0, y0, rfl, hm1, hl1, hr1⟩ := loop_head hP0
  unfold M.laws_heldIntS_l0 at hm1; dsimp only at hm1
  show V _ _ _ ⟨21, [(1, .int .i64 k1), (5, .int .i64 i), (0, .vl ρ0 1 (List.map encInt a))], []⟩
  refine V.seq ?_
  refine V.seq ?_
  refine V.region ?_
  refine VO.cons rfl (V1.move rfl rfl rfl lt0 ?_)
  refine VO.cons rfl (V1.move rfl rfl rfl lt0 ?_)
  refine VO.cons rfl (V1.lenMap rfl rfl rfl rfl rfl rfl isl_36 lt0 ?_)
  refine VO.cons rfl (V1.int rfl rfl rfl rfl rfl lt0 ?_)
  refine VO.nil ?_
  refine V.cond rfl (fun hc0 => ?_) (fun hc0 => ?_)
  ·
   replace hm1 := cond_t hc0 hm1
   refine V.skip ?_
   refine V.keep 21 [0, 1, 5] [] (E0 := [(0, .vl ρ0 1 (List.map encInt a)), (1, .int .i64 k1), (5, .int .i64 i)]) (H0 := []) rfl (⟨_, _, rfl, rfl, ⟨_, _, rfl, rfl, ⟨_, _, rfl, rfl, rfl⟩⟩⟩) (rfl) rfl ?_
   refine V.seq ?_
   refine V.block ?_
   refine V.seq ?_
   refine V.seq ?_
   replace hm1 := asrt_some hm1; rcases hm1 with ⟨hh0, hm1⟩
   refine V.region ?_
   refine VO.cons rfl (V1.move rfl rfl rfl lt0 ?_)
   refine VO.cons rfl (V1.move rfl rfl rfl lt0 ?_)
   refine VO.cons rfl (V1.indexI rfl rfl esz_36 rfl rfl hh0 lt0 ?_)
   refine VO.cons rfl (V1.loadPin rfl rfl tyk_3 rfl rfl lt0 ?_)
   refine VO.cons rfl (V1.move rfl rfl rfl lt0 ?_)
   refine VO.cons rfl (V1.int rfl rfl rfl rfl rfl lt0 ?_)
   refine VO.nil ?_
   refine V.keep 21 [0, 1, 5, 17] [] (E0 := [(0, .vl ρ0 1 (List.map encInt a)), (1, .int .i64 k1), (5, .int .i64 i), (17, .bool ((a.getD (Int.toNat i) default) != k1))]) (H0 := []) rfl (⟨_, _, rfl, rfl, ⟨_, _, rfl, rfl, ⟨_, _, rfl, rfl, ⟨_, _, rfl, rfl, rfl⟩⟩⟩⟩) (rfl) rfl ?_
   refine V.cond rfl (fun hc1 => ?_) (fun hc1 => ?_)
   ·
    replace hm1 := cond_t hc1 hm1
    refine V.seq ?_
    refine V.region ?_
    refine VO.cons rfl (V1.assign rfl rfl rfl lt0 ?_)
    refine VO.nil ?_
    refine V.ret ?_
    obtain rfl := hr1 _ (Option.some.inj hm1).symm
    change some _ = some _ at hm0
    obtain rfl := Option.some.inj hm0
    exact ⟨_, [], ⟨_, _, rfl, rfl, rfl⟩, List.nil_sublist _, rfl, rfl⟩
   ·
    replace hm1 := cond_f hc1 hm1
    refine V.skip ?_
    refine V.region ?_
    refine VO.cons rfl (V1.move rfl rfl rfl lt0 ?_)
    refine VO.cons rfl (V1.int rfl rfl rfl rfl rfl lt0 ?_)
    refine VO.cons rfl (V1.assign rfl rfl rfl lt0 ?_)
    refine VO.nil ?_
    refine V.region ?_
    refine VO.cons rfl (V1.move rfl rfl rfl lt0 ?_)
    refine VO.cons rfl (V1.int rfl rfl rfl rfl rfl lt0 ?_)
    refine VO.cons rfl (V1.assign rfl rfl rfl lt0 ?_)
    refine VO.nil ?_
    exact ⟨(m0, ((IntKind.i64.wrap (k1 + (1 : Int))), (IntKind.i64.wrap (i + (1 : Int)))), ()), hl1 _ (Option.some.inj hm1).symm, Nat.lt_succ_self _, Keeps.mk (ks := []) rfl ⟨rfl, rfl, rfl, trivial⟩ (rfl) rfl⟩
  ·
   replace hm1 := cond_f hc0 hm1
   refine V.exit ?_
   obtain rfl := hr1 _ (Option.some.inj hm1).symm
   exact ⟨(k1, ()), rfl, Keeps.mk (ks := []) rfl ⟨rfl, trivial⟩ (rfl) rfl⟩
 ·
  rintro ⟨k0, _⟩ rfl
  try dsimp only at hm0
  refine V.seq ?_
  refine V.region ?_
  refine VO.cons rfl (V1.move rfl rfl rfl lt0 ?_)
  refine VO.cons rfl (V1.assign rfl rfl rfl lt0 ?_)
  refine VO.nil ?_
  refine V.ret ?_
  obtain rfl := Option.some.inj hm0
  exact ⟨_, [], ⟨_, _, rfl, rfl, rfl⟩, List.nil_sublist _, rfl, rfl⟩
end Go.Proofs.Ytfebeomnlkfgoaa
