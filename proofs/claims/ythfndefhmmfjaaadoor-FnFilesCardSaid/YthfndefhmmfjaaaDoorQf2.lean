/- the functions do what their models say -/
import Derived.Test.YthfndefhmmfjaaaDoorQf1
set_option linter.unusedSimpArgs false
set_option linter.unusedVariables false
set_option maxRecDepth 100000
set_option maxHeartbeats 4000000
namespace Go.Proofs.YthfndefhmmfjaaaDoor
open Go.VS

theorem ok_slices_insertionSortCmpFunc_impl_File {rn : Nat} {oq : Option Nat} {data : List File} {a : Int} {b_ : Int} {f3 : Nat} {cs3 : List PV} {r : List File} {fm : File → File → Option Int} (h : M.slices_insertionSortCmpFunc_impl_File data a b_ fm = some r) (hoq : oq = none → data = []) (hok3 : callOK Tryd.prog f3 = true) (hf3 : ∀ x0 x1 r, fm x0 x1 = some r → Does Tryd.prog f3 (encFile x0 :: encFile x1 :: cs3) [] rn (fun x H => x = .int .i64 r ∧ H = [])) : Does Tryd.prog 310 [optS 7 oq (List.length data), .int .i64 a, .int .i64 b_, .fn f3 cs3] (optH 7 oq (List.map encFile data)) rn (fun x H => x = .tup [] ∧ H = optH 7 oq (List.map encFile r)) := by
 have hm0 := h; clear h; unfold M.slices_insertionSortCmpFunc_impl_File at hm0
 try dsimp only at hm0
 refine Does.intro (N := 53) Tryd.func310 rfl rfl rfl rfl ?_
 intro w0 S0
 rcases oq with _ | oq
 ·
  refine V.seq ?_
  refine V.region ?_
  refine VO.cons rfl (V1.move rfl rfl rfl (ltb rfl) ?_)
  refine VO.cons rfl (V1.int rfl rfl rfl rfl rfl (ltb rfl) ?_)
  refine VO.cons rfl (V1.assign rfl rfl rfl (ltb rfl) ?_)
  refine VO.nil ?_
  replace hm0 := bindO hm0; rcases hm0 with ⟨e0, he1, hm0⟩
  refine V.cutT (D := (List File) × (Unit)) (fun ⟨data0, _⟩ => ⟨53, [(0, .vl rn 7 (List.map encFile data0))], []⟩) (fun ⟨data0, _⟩ => (data0 = e0)) ?_ ?_
  ·
   refine V.block ?_
   refine V.keep 53 [0, 8, 1, 2, 3] [] (E0 := [(0, .nils), (8, .int .i64 (IntKind.i64.wrap (a + (1 : Int)))), (1, .int .i64 a), (2, .int .i64 b_), (3, .fn f3 cs3)]) (H0 := []) rfl (⟨_, _, rfl, rfl, ⟨_, _, rfl, rfl, ⟨_, _, rfl, rfl, ⟨_, _, rfl, rfl, ⟨_, _, rfl, rfl, rfl⟩⟩⟩⟩⟩) (rfl) rfl ?_
   refine V.loopE (D := Nat × (List File × Int) × (Option Nat)) (fun ⟨n0, ⟨data1, i⟩, ob0⟩ => [(0, optS 7 ob0 (List.length data1)), (8, .int .i64 i)]) (fun ⟨n0, ⟨data1, i⟩, ob0⟩ => optH 7 ob0 (List.map encFile data1)) (fun ⟨n0, ⟨data1, i⟩, ob0⟩ => loopO (M.slices_insertionSortCmpFunc_impl_File_l0 a b_ fm) n0 (data1, i) = some e0 ∧ (ob0 = none → data1 = [])) (fun ⟨n0, _, _⟩ => n0) (rounds, (data, (IntKind.i64.wrap (a + (1 : Int)))), none) rfl ⟨he1, (fun _ => (hoq rfl))⟩ ?_
   rintro ⟨n0, ⟨data1, i⟩, ob0⟩ ⟨hP0, hob0⟩
   obtain ⟨m0, y0, rfl, hm1, hl1, hr1⟩ := loop_head hP0
   unfold M.slices_insertionSortCmpFunc_impl_File_l0 at hm1; dsimp only at hm1
   rcases ob0 with _ | ob0
   ·
    replace hob0 := hob0 rfl
    show V _ _ _ ⟨53, [(0, .nils), (8, .int .i64 i), (1, .int .i64 a), (2, .int .i64 b_), (3, .fn f3 cs3)], []⟩
    refine V.seq ?_
    refine V.seq ?_
    refine V.region ?_
    refine VO.cons rfl (V1.move rfl rfl rfl (ltb rfl) ?_)
    refine VO.cons rfl (V1.move rfl rfl rfl (ltb rfl) ?_)
    refine VO.cons rfl (V1.int rfl rfl rfl rfl rfl (ltb rfl) ?_)
    refine VO.nil ?_
    refine V.cond rfl (fun hc0 => ?_) (fun hc0 => ?_)
    ·
     replace hm1 := cond_t hc0 hm1
     refine V.skip ?_
     refine V.seq ?_
     refine V.block ?_
     refine V.seq ?_
     refine V.region ?_
     refine VO.cons rfl (V1.move rfl rfl rfl (ltb rfl) ?_)
     refine VO.cons rfl (V1.assign rfl rfl rfl (ltb rfl) ?_)
     refine VO.nil ?_
     refine V.keep 53 [0, 1, 2, 3, 8, 9] [] (E0 := [(0, .nils), (1, .int .i64 a), (2, .int .i64 b_), (3, .fn f3 cs3), (8, .int .i64 i), (9, .int .i64 i)]) (H0 := []) rfl (⟨_, _, rfl, rfl, ⟨_, _, rfl, rfl, ⟨_, _, rfl, rfl, ⟨_, _, rfl, rfl, ⟨_, _, rfl, rfl, ⟨_, _, rfl, rfl, rfl⟩⟩⟩⟩⟩⟩) (rfl) rfl ?_
     replace hm1 := bindO hm1; rcases hm1 with ⟨e1, he2, hm1⟩
     refine V.cutT (D := (List File) × (Option Nat)) (fun ⟨data2, ob1⟩ => ⟨53, [(0, optS 7 ob1 (List.length data2)), (1, .int .i64 a), (2, .int .i64 b_), (3, .fn f3 cs3), (8, .int .i64 i)], optH 7 ob1 (List.map encFile data2)⟩) (fun ⟨data2, ob1⟩ => (data2 = e1) ∧ (ob1 = none → data2 = [])) ?_ ?_
     ·
      refine V.block ?_
      refine V.keep 53 [0, 9, 1, 2, 3, 8] [] (E0 := [(0, .nils), (9, .int .i64 i), (1, .int .i64 a), (2, .int .i64 b_), (3, .fn f3 cs3), (8, .int .i64 i)]) (H0 := []) rfl (⟨_, _, rfl, rfl, ⟨_, _, rfl, rfl, ⟨_, _, rfl, rfl, ⟨_, _, rfl, rfl, ⟨_, _, rfl, rfl, ⟨_, _, rfl, rfl, rfl⟩⟩⟩⟩⟩⟩) (rfl) rfl ?_
      refine V.loopE (D := Nat × (List File × Int) × (Unit)) (fun ⟨n1, ⟨data3, j_⟩, _⟩ => [(0, .nils), (9, .int .i64 j_)]) (fun ⟨n1, ⟨data3, j_⟩, _⟩ => []) (fun ⟨n1, ⟨data3, j_⟩, _⟩ => loopO (M.slices_insertionSortCmpFunc_impl_File_l1 a fm) n1 (data3, j_) = some e1 ∧ data3 = []) (fun ⟨n1, _, _⟩ => n1) (rounds, (data1, i), ()) rfl ⟨he2, hob0⟩ ?_
      rintro ⟨n1, ⟨data3, j_⟩, _⟩ ⟨hP1, hn_data3⟩
      obtain ⟨m1, y1, rfl, hm2, hl2, hr2⟩ := loop_head hP1
      unfold M.slices_insertionSortCmpFunc_impl_File_l1 at hm2; dsimp only at hm2
      show V _ _ _ ⟨53, [(0, .nils), (9, .int .i64 j_), (1, .int .i64 a), (2, .int .i64 b_), (3, .fn f3 cs3), (8, .int .i64 i)], []⟩
      refine V.seq ?_
      refine V.seq ?_
      replace hm2 := asrt_some hm2; rcases hm2 with ⟨hh0, hm2⟩
      replace hm2 := asrt_some hm2; rcases hm2 with ⟨hh1, hm2⟩
      replace hm2 := bindO hm2; rcases hm2 with ⟨y2, hh2, hm2⟩
      refine V.regionM 53 17 [⟨[(9, none)], [], none⟩, ⟨[(1, none)], [], none⟩, ⟨[(18, some 1), (19, some 0)], [], none⟩, ⟨[(20, some 0)], [], none⟩, ⟨[(3, none)], [(0, true)], none⟩, ⟨[(0, none)], [(1, true)], none⟩, ⟨[(9, none)], [(2, true)], none⟩, ⟨[(23, some 1), (24, some 0)], [(3, true)], none⟩, ⟨[(25, some 0)], [(4, true)], none⟩, ⟨[(0, none)], [(5, true)], none⟩, ⟨[(9, none)], [(6, true)], none⟩, ⟨[(28, some 0)], [(7, true)], none⟩, ⟨[(27, some 2), (29, some 0)], [(8, true)], none⟩, ⟨[(30, some 0)], [(9, true)], none⟩, ⟨[(22, some 9), (26, some 5), (31, some 0)], [(10, true)], none⟩, ⟨[(32, some 0)], [(11, true)], none⟩, ⟨[], [], some (true, 21, 33, 12, 0)⟩] [(0, none), (1, none), (2, none), (3, none), (8, none), (9, none), (34, some 0)] (⟨_, rfl, ⟨_, rfl, ⟨_, rfl, ⟨_, rfl, ⟨_, rfl, ⟨_, rfl, ⟨_, rfl, ⟨_, rfl, ⟨_, rfl, ⟨_, rfl, ⟨_, rfl, ⟨_, rfl, ⟨_, rfl, ⟨_, rfl, ⟨_, rfl, ⟨_, rfl, ⟨_, rfl, ⟨rfl, rfl⟩⟩⟩⟩⟩⟩⟩⟩⟩⟩⟩⟩⟩⟩⟩⟩⟩⟩) mixed_orders rfl (by decide +kernel) (fun hck4 => ?_)
      refine VP.step (p := ?pv2929) rfl rfl rfl (⟨_, _, rfl, rfl, rfl⟩) ?hv2929 ?rest2929 hck4
      case hv2929 =>
       intro E1
       refine (V1.move rfl rfl rfl (ltb rfl) ?_)
       exact rfl
      refine VP.step (p := ?pv2930) rfl rfl rfl (⟨_, _, rfl, rfl, rfl⟩) ?hv2930 ?rest2930 hck4
      case hv2930 =>
       intro E1
       refine (V1.move rfl rfl rfl (ltb rfl) ?_)
       exact rfl
      refine VP.step (p := ?pv2931) rfl rfl rfl (⟨_, _, rfl, rfl, ⟨_, _, rfl, rfl, rfl⟩⟩) ?hv2931 ?rest2931 hck4
      case hv2931 =>
       intro E1
       refine (V1.int rfl rfl rfl rfl rfl (ltb rfl) ?_)
       exact rfl
      refine VP.step (p := ?pv2932) rfl rfl rfl (⟨_, _, rfl, rfl, rfl⟩) ?hv2932 ?rest2932 hck4
      case hv2932 =>
       intro E1
       refine (V1.move rfl rfl rfl (ltb rfl) ?_)
       exact rfl
      refine VP.step (p := ?pv2933) rfl rfl rfl (⟨_, _, rfl, rfl, rfl⟩) ?hv2933 ?rest2933 hck4
      case hv2933 =>
       refine ⟨_, rfl, fun hg0 => ?_⟩
       intro E1
       refine (V1.move rfl rfl rfl (ltb rfl) ?_)
       exact rfl
      refine VP.step (p := ?pv2934) rfl rfl rfl (⟨_, _, rfl, rfl, rfl⟩) ?hv2934 ?rest2934 hck4
      case hv2934 =>
       refine ⟨_, rfl, fun hg0 => ?_⟩
       intro E1
       refine (V1.move rfl rfl rfl (ltb rfl) ?_)
       exact rfl
      refine VP.step (p := ?pv2935) rfl rfl rfl (⟨_, _, rfl, rfl, rfl⟩) ?hv2935 ?rest2935 hck4
      case hv2935 =>
       refine ⟨_, rfl, fun hg0 => ?_⟩
       intro E1
       refine (V1.move rfl rfl rfl (ltb rfl) ?_)
       exact rfl
      refine VP.step (p := .pin rn (encFile (data3.getD (Int.toNat j_) default)) 0) rfl rfl rfl (⟨_, _, rfl, rfl, ⟨_, _, rfl, rfl, rfl⟩⟩) ?hv2936 ?rest2936 hck4
      case hv2936 =>
       refine ⟨_, rfl, fun hg0 => ?_⟩
       intro E1
       exact ((nilsNo hn_data3 (hh0 hg0))).elim
      refine VP.step (p := encFile (data3.getD (Int.toNat j_) default)) rfl rfl rfl (⟨_, _, rfl, rfl, rfl⟩) ?hv2937 ?rest2937 hck4
      case hv2937 =>
       refine ⟨_, rfl, fun hg0 => ?_⟩
       intro E1
       exact ((nilsNo hn_data3 (hh0 hg0))).elim
      refine VP.step (p := ?pv2938) rfl rfl rfl (⟨_, _, rfl, rfl, rfl⟩) ?hv2938 ?rest2938 hck4
      case hv2938 =>
       refine ⟨_, rfl, fun hg0 => ?_⟩
       intro E1
       refine (V1.move rfl rfl rfl (ltb rfl) ?_)
       exact rfl
      refine VP.step (p := ?pv2939) rfl rfl rfl (⟨_, _, rfl, rfl, rfl⟩) ?hv2939 ?rest2939 hck4
      case hv2939 =>
       refine ⟨_, rfl, fun hg0 => ?_⟩
       intro E1
       refine (V1.move rfl rfl rfl (ltb rfl) ?_)
       exact rfl
      refine VP.step (p := ?pv2940) rfl rfl rfl (⟨_, _, rfl, rfl, rfl⟩) ?hv2940 ?rest2940 hck4
      case hv2940 =>
       refine ⟨_, rfl, fun hg0 => ?_⟩
       intro E1
       refine (V1.int rfl rfl rfl rfl rfl (ltb rfl) ?_)
       exact rfl
      refine VP.step (p := .pin rn (encFile (data3.getD (Int.toNat (IntKind.i64.wrap (j_ - (1 : Int)))) default)) 0) rfl rfl rfl (⟨_, _, rfl, rfl, ⟨_, _, rfl, rfl, rfl⟩⟩) ?hv2941 ?rest2941 hck4
      case hv2941 =>
       refine ⟨_, rfl, fun hg0 => ?_⟩
       intro E1
       exact ((nilsNo hn_data3 (hh1 hg0))).elim
      refine VP.step (p := encFile (data3.getD (Int.toNat (IntKind.i64.wrap (j_ - (1 : Int)))) default)) rfl rfl rfl (⟨_, _, rfl, rfl, rfl⟩) ?hv2942 ?rest2942 hck4
      case hv2942 =>
       refine ⟨_, rfl, fun hg0 => ?_⟩
       intro E1
       exact ((nilsNo hn_data3 (hh1 hg0))).elim
      refine VP.step (p := .int .i64 y2) rfl rfl rfl (⟨_, _, rfl, rfl, ⟨_, _, rfl, rfl, ⟨_, _, rfl, rfl, rfl⟩⟩⟩) ?hv2943 ?rest2943 hck4
      case hv2943 =>
       refine ⟨_, rfl, fun hg0 => ?_⟩
       intro E1
       exact ((nilsNo hn_data3 (hh0 hg0))).elim
      refine VP.step (p := .bool (decide (y2 < (0 : Int)))) rfl rfl rfl (⟨_, _, rfl, rfl, rfl⟩) ?hv2944 ?rest2944 hck4
      case hv2944 =>
       refine ⟨_, rfl, fun hg0 => ?_⟩
       intro E1
       exact ((nilsNo hn_data3 (hh0 hg0))).elim
      refine VP.pickAnd rfl rfl rfl rfl rfl rfl (trivial) ?_ hck4
      refine VP.fin rfl (⟨_, _, rfl, rfl, ⟨_, _, rfl, rfl, ⟨_, _, rfl, rfl, ⟨_, _, rfl, rfl, ⟨_, _, rfl, rfl, ⟨_, _, rfl, rfl, ⟨_, _, rfl, rfl, rfl⟩⟩⟩⟩⟩⟩⟩) ?_
      refine VO.nil ?_
      refine V.cond rfl (fun hc1 => ?_) (fun hc1 => ?_)
      ·
       replace hm2 := cond_t hc1 hm2
       refine V.skip ?_
       refine V.seq ?_
       refine V.block ?_
       replace hm2 := asrt_some hm2; rcases hm2 with ⟨hh3, hm2⟩
       exact (nilsNo hn_data3 hh3).elim
      ·
       replace hm2 := cond_f hc1 hm2
       refine V.exit ?_
       obtain rfl := hr2 _ (Option.some.inj hm2).symm
       exact ⟨(data3, none), ⟨rfl, (fun _ => hn_data3)⟩, Keeps.mk (ks := []) rfl ⟨rfl, rfl, rfl, rfl, rfl, trivial⟩ (rfl) rfl⟩
     ·
      rintro ⟨data2, ob1⟩ ⟨rfl, hob1⟩
      try dsimp only at hm1
      rcases ob1 with _ | ob1
      ·
       replace hob1 := hob1 rfl
       refine V.region ?_
       refine VO.cons rfl (V1.move rfl rfl rfl (ltb rfl) ?_)
       refine VO.cons rfl (V1.int rfl rfl rfl rfl rfl (ltb rfl) ?_)
       refine VO.cons rfl (V1.assign rfl rfl rfl (ltb rfl) ?_)
       refine VO.nil ?_
       exact ⟨(m0, (data2, (IntKind.i64.wrap (i + (1 : Int)))), none), ⟨hl1 _ (Option.some.inj hm1).symm, (fun _ => hob1)⟩, Nat.lt_succ_self _, Keeps.mk (ks := []) rfl ⟨rfl, rfl, rfl, rfl, rfl, trivial⟩ (rfl) rfl⟩
      ·
       refine V.region ?_
       refine VO.cons rfl (V1.move rfl rfl rfl (ltb rfl) ?_)
       refine VO.cons rfl (V1.int rfl rfl rfl rfl rfl (ltb rfl) ?_)
       refine VO.cons rfl (V1.assign rfl rfl rfl (ltb rfl) ?_)
       refine VO.nil ?_
       exact ⟨(m0, (data2, (IntKind.i64.wrap (i + (1 : Int)))), (some ob1)), ⟨hl1 _ (Option.some.inj hm1).symm, (fun e => by cases e)⟩, Nat.lt_succ_self _, Keeps.mk (ks := [0]) rfl ⟨rfl, rfl, rfl, rfl, rfl, trivial⟩ (⟨_, _, rfl, rfl, rfl⟩) rfl⟩
    ·
     replace hm1 := cond_f hc0 hm1
     refine V.exit ?_
     obtain rfl := hr1 _ (Option.some.inj hm1).symm
     exact ⟨(data1, ()), rfl, Keeps.trans (Keeps.nilsE (l := data1) 0 rn 7 encFile hob0 rfl rfl) (Keeps.mk (ks := []) rfl ⟨rfl, trivial⟩ (rfl) rfl)⟩
   ·
    show V _ _ _ ⟨53, [(0, .sref ob0 7 0 (List.length data1)), (8, .int .i64 i), (1, .int .i64 a), (2, .int .i64 b_), (3, .fn f3 cs3)], [(ob0, ⟨7, List.map encFile data1⟩)]⟩
    refine V.seq ?_
    refine V.seq ?_
    refine V.region ?_
    refine VO.cons rfl (V1.move rfl rfl rfl (ltb rfl) ?_)
    refine VO.cons rfl (V1.move rfl rfl rfl (ltb rfl) ?_)
    refine VO.cons rfl (V1.int rfl rfl rfl rfl rfl (ltb rfl) ?_)
    refine VO.nil ?_
    refine V.cond rfl (fun hc0 => ?_) (fun hc0 => ?_)
    ·
     replace hm1 := cond_t hc0 hm1
     refine V.skip ?_
     refine V.seq ?_
     refine V.block ?_
     refine V.seq ?_
     refine V.region ?_
     refine VO.cons rfl (V1.move rfl rfl rfl (ltb rfl) ?_)
     refine VO.cons rfl (V1.assign rfl rfl rfl (ltb rfl) ?_)
     refine VO.nil ?_
     refine V.keep 53 [0, 1, 2, 3, 8, 9] [0] (E0 := [(0, .sref ob0 7 0 (List.length data1)), (1, .int .i64 a), (2, .int .i64 b_), (3, .fn f3 cs3), (8, .int .i64 i), (9, .int .i64 i)]) (H0 := [(ob0, ⟨7, List.map encFile data1⟩)]) rfl (⟨_, _, rfl, rfl, ⟨_, _, rfl, rfl, ⟨_, _, rfl, rfl, ⟨_, _, rfl, rfl, ⟨_, _, rfl, rfl, ⟨_, _, rfl, rfl, rfl⟩⟩⟩⟩⟩⟩) (⟨_, _, rfl, rfl, rfl⟩) rfl ?_
     replace hm1 := bindO hm1; rcases hm1 with ⟨e1, he2, hm1⟩
     refine V.cutT (D := (List File) × (Unit)) (fun ⟨data2, _⟩ => ⟨53, [(0, .sref ob0 7 0 (List.length data2)), (1, .int .i64 a), (2, .int .i64 b_), (3, .fn f3 cs3), (8, .int .i64 i)], [(ob0, ⟨7, List.map encFile data2⟩)]⟩) (fun ⟨data2, _⟩ => (data2 = e1)) ?_ ?_
     ·
      refine V.block ?_
      refine V.keep 53 [0, 9, 1, 2, 3, 8] [0] (E0 := [(0, .sref ob0 7 0 (List.length data1)), (9, .int .i64 i), (1, .int .i64 a), (2, .int .i64 b_), (3, .fn f3 cs3), (8, .int .i64 i)]) (H0 := [(ob0, ⟨7, List.map encFile data1⟩)]) rfl (⟨_, _, rfl, rfl, ⟨_, _, rfl, rfl, ⟨_, _, rfl, rfl, ⟨_, _, rfl, rfl, ⟨_, _, rfl, rfl, ⟨_, _, rfl, rfl, rfl⟩⟩⟩⟩⟩⟩) (⟨_, _, rfl, rfl, rfl⟩) rfl ?_
      refine V.loopE (D := Nat × (List File × Int) × (Unit)) (fun ⟨n1, ⟨data3, j_⟩, _⟩ => [(0, .sref ob0 7 0 (List.length data3)), (9, .int .i64 j_)]) (fun ⟨n1, ⟨data3, j_⟩, _⟩ => [(ob0, ⟨7, List.map encFile data3⟩)]) (fun ⟨n1, ⟨data3, j_⟩, _⟩ => loopO (M.slices_insertionSortCmpFunc_impl_File_l1 a fm) n1 (data3, j_) = some e1) (fun ⟨n1, _, _⟩ => n1) (rounds, (data1, i), ()) rfl he2 ?_
      rintro ⟨n1, ⟨data3, j_⟩, _⟩ hP1
      obtain ⟨m1, y1, rfl, hm2, hl2, hr2⟩ := loop_head hP1
      unfold M.slices_insertionSortCmpFunc_impl_File_l1 at hm2; dsimp only at hm2
      show V _ _ _ ⟨53, [(0, .sref ob0 7 0 (List.length data3)), (9, .int .i64 j_), (1, .int .i64 a), (2, .int .i64 b_), (3, .fn f3 cs3), (8, .int .i64 i)], [(ob0, ⟨7, List.map encFile data3⟩)]⟩
      refine V.seq ?_
      refine V.seq ?_
      replace hm2 := asrt_some hm2; rcases hm2 with ⟨hh0, hm2⟩
      replace hm2 := asrt_some hm2; rcases hm2 with ⟨hh1, hm2⟩
      replace hm2 := bindO hm2; rcases hm2 with ⟨y2, hh2, hm2⟩
      refine V.regionM 53 17 [⟨[(9, none)], [], none⟩, ⟨[(1, none)], [], none⟩, ⟨[(18, some 1), (19, some 0)], [], none⟩, ⟨[(20, some 0)], [], none⟩, ⟨[(3, none)], [(0, true)], none⟩, ⟨[(0, none)], [(1, true)], none⟩, ⟨[(9, none)], [(2, true)], none⟩, ⟨[(23, some 1), (24, some 0)], [(3, true)], none⟩, ⟨[(25, some 0)], [(4, true)], none⟩, ⟨[(0, none)], [(5, true)], none⟩, ⟨[(9, none)], [(6, true)], none⟩, ⟨[(28, some 0)], [(7, true)], none⟩, ⟨[(27, some 2), (29, some 0)], [(8, true)], none⟩, ⟨[(30, some 0)], [(9, true)], none⟩, ⟨[(22, some 9), (26, some 5), (31, some 0)], [(10, true)], none⟩, ⟨[(32, some 0)], [(11, true)], none⟩, ⟨[], [], some (true, 21, 33, 12, 0)⟩] [(0, none), (1, none), (2, none), (3, none), (8, none), (9, none), (34, some 0)] (⟨_, rfl, ⟨_, rfl, ⟨_, rfl, ⟨_, rfl, ⟨_, rfl, ⟨_, rfl, ⟨_, rfl, ⟨_, rfl, ⟨_, rfl, ⟨_, rfl, ⟨_, rfl, ⟨_, rfl, ⟨_, rfl, ⟨_, rfl, ⟨_, rfl, ⟨_, rfl, ⟨_, rfl, ⟨rfl, rfl⟩⟩⟩⟩⟩⟩⟩⟩⟩⟩⟩⟩⟩⟩⟩⟩⟩⟩) mixed_orders rfl (by decide +kernel) (fun hck4 => ?_)
      refine VP.step (p := ?pv3077) rfl rfl rfl (⟨_, _, rfl, rfl, rfl⟩) ?hv3077 ?rest3077 hck4
      case hv3077 =>
       intro E1
       refine (V1.move rfl rfl rfl (ltb rfl) ?_)
       exact rfl
      refine VP.step (p := ?pv3078) rfl rfl rfl (⟨_, _, rfl, rfl, rfl⟩) ?hv3078 ?rest3078 hck4
      case hv3078 =>
       intro E1
       refine (V1.move rfl rfl rfl (ltb rfl) ?_)
       exact rfl
      refine VP.step (p := ?pv3079) rfl rfl rfl (⟨_, _, rfl, rfl, ⟨_, _, rfl, rfl, rfl⟩⟩) ?hv3079 ?rest3079 hck4
      case hv3079 =>
       intro E1
       refine (V1.int rfl rfl rfl rfl rfl (ltb rfl) ?_)
       exact rfl
      refine VP.step (p := ?pv3080) rfl rfl rfl (⟨_, _, rfl, rfl, rfl⟩) ?hv3080 ?rest3080 hck4
      case hv3080 =>
       intro E1
       refine (V1.move rfl rfl rfl (ltb rfl) ?_)
       exact rfl
      refine VP.step (p := ?pv3081) rfl rfl rfl (⟨_, _, rfl, rfl, rfl⟩) ?hv3081 ?rest3081 hck4
      case hv3081 =>
       refine ⟨_, rfl, fun hg0 => ?_⟩
       intro E1
       refine (V1.move rfl rfl rfl (ltb rfl) ?_)
       exact rfl
      refine VP.step (p := ?pv3082) rfl rfl rfl (⟨_, _, rfl, rfl, rfl⟩) ?hv3082 ?rest3082 hck4
      case hv3082 =>
       refine ⟨_, rfl, fun hg0 => ?_⟩
       intro E1
       refine (V1.move rfl rfl rfl (ltb rfl) ?_)
       exact rfl
      refine VP.step (p := ?pv3083) rfl rfl rfl (⟨_, _, rfl, rfl, rfl⟩) ?hv3083 ?rest3083 hck4
      case hv3083 =>
       refine ⟨_, rfl, fun hg0 => ?_⟩
       intro E1
       refine (V1.move rfl rfl rfl (ltb rfl) ?_)
       exact rfl
      refine VP.step (p := ?pv3084) rfl rfl rfl (⟨_, _, rfl, rfl, ⟨_, _, rfl, rfl, rfl⟩⟩) ?hv3084 ?rest3084 hck4
      case hv3084 =>
       refine ⟨_, rfl, fun hg0 => ?_⟩
       intro E1
       refine (V1.indexSr rfl rfl esz_78 rfl rfl (hh0 hg0) (ltb rfl) ?_)
       exact rfl
      refine VP.step (p := ?pv3085) rfl rfl rfl (⟨_, _, rfl, rfl, rfl⟩) ?hv3085 ?rest3085 hck4
      case hv3085 =>
       refine ⟨_, rfl, fun hg0 => ?_⟩
       intro E1
       refine (V1.loadMapAll (k := 0) (f := encFile) rfl rfl tyk_93 rfl rfl (by simpa using natLt (hh0 hg0).1 (hh0 hg0).2) rfl (ltb rfl) ?_)
       exact rfl
      refine VP.step (p := ?pv3086) rfl rfl rfl (⟨_, _, rfl, rfl, rfl⟩) ?hv3086 ?rest3086 hck4
      case hv3086 =>
       refine ⟨_, rfl, fun hg0 => ?_⟩
       intro E1
       refine (V1.move rfl rfl rfl (ltb rfl) ?_)
       exact rfl
      refine VP.step (p := ?pv3087) rfl rfl rfl (⟨_, _, rfl, rfl, rfl⟩) ?hv3087 ?rest3087 hck4
      case hv3087 =>
       refine ⟨_, rfl, fun hg0 => ?_⟩
       intro E1
       refine (V1.move rfl rfl rfl (ltb rfl) ?_)
       exact rfl
      refine VP.step (p := ?pv3088) rfl rfl rfl (⟨_, _, rfl, rfl, rfl⟩) ?hv3088 ?rest3088 hck4
      case hv3088 =>
       refine ⟨_, rfl, fun hg0 => ?_⟩
       intro E1
       refine (V1.int rfl rfl rfl rfl rfl (ltb rfl) ?_)
       exact rfl
      refine VP.step (p := ?pv3089) rfl rfl rfl (⟨_, _, rfl, rfl, ⟨_, _, rfl, rfl, rfl⟩⟩) ?hv3089 ?rest3089 hck4
      case hv3089 =>
       refine ⟨_, rfl, fun hg0 => ?_⟩
       intro E1
       refine (V1.indexSr rfl rfl esz_78 rfl rfl (hh1 hg0) (ltb rfl) ?_)
       exact rfl
      refine VP.step (p := ?pv3090) rfl rfl rfl (⟨_, _, rfl, rfl, rfl⟩) ?hv3090 ?rest3090 hck4
      case hv3090 =>
       refine ⟨_, rfl, fun hg0 => ?_⟩
       intro E1
       refine (V1.loadMapAll (k := 0) (f := encFile) rfl rfl tyk_93 rfl rfl (by simpa using natLt (hh1 hg0).1 (hh1 hg0).2) rfl (ltb rfl) ?_)
       exact rfl
      refine VP.step (p := ?pv3091) rfl rfl rfl (⟨_, _, rfl, rfl, ⟨_, _, rfl, rfl, ⟨_, _, rfl, rfl, rfl⟩⟩⟩) ?hv3091 ?rest3091 hck4
      case hv3091 =>
       refine ⟨_, rfl, fun hg0 => ?_⟩
       intro E1
       refine (V1.callG (τ := 0) (Bw := []) rfl (ltb rfl) (run_callFn rfl rfl rfl hok3 rfl) (.refl _) (Lends.same _) (fun _ h => by cases h) ((hf3 _ _  _) (cond_t hg0 hh2)) (.inl rfl) (.inl rfl) ?_)
       rintro _ _ ⟨rfl, rfl⟩
       exact rfl
      refine VP.step (p := ?pv3092) rfl rfl rfl (⟨_, _, rfl, rfl, rfl⟩) ?hv3092 ?rest3092 hck4
      case hv3092 =>
       refine ⟨_, rfl, fun hg0 => ?_⟩
       intro E1
       refine (V1.int rfl rfl rfl rfl rfl (ltb rfl) ?_)
       exact rfl
      refine VP.pickAnd rfl rfl rfl rfl rfl rfl (trivial) ?_ hck4
      refine VP.fin rfl (⟨_, _, rfl, rfl, ⟨_, _, rfl, rfl, ⟨_, _, rfl, rfl, ⟨_, _, rfl, rfl, ⟨_, _, rfl, rfl, ⟨_, _, rfl, rfl, ⟨_, _, rfl, rfl, rfl⟩⟩⟩⟩⟩⟩⟩) ?_
      refine VO.nil ?_
      refine V.cond rfl (fun hc1 => ?_) (fun hc1 => ?_)
      ·
       replace hm2 := cond_t hc1 hm2
       refine V.skip ?_
       refine V.seq ?_
       refine V.block ?_
       replace hm2 := asrt_some hm2; rcases hm2 with ⟨hh3, hm2⟩
       replace hm2 := asrt_some hm2; rcases hm2 with ⟨hh4, hm2⟩
       replace hm2 := asrt_some hm2; rcases hm2 with ⟨hh5, hm2⟩
       replace hm2 := asrt_some hm2; rcases hm2 with ⟨hh6, hm2⟩
       replace hm2 := bindO hm2; rcases hm2 with ⟨j0, hm3, hm2⟩
       refine V.cutT (D := (List File) × (Unit)) (fun ⟨data4, _⟩ => ⟨53, [(0, .sref ob0 7 0 (List.length data4)), (1, .int .i64 a), (2, .int .i64 b_), (3, .fn f3 cs3), (8, .int .i64 i), (9, .int .i64 j_)], [(ob0, ⟨7, List.map encFile data4⟩)]⟩) (fun ⟨data4, _⟩ => (data4 = j0)) ?_ ?_
       ·
        refine V.regionS [] 53 16 [⟨[(0, none)], false⟩, ⟨[(9, none)], false⟩, ⟨[(0, none)], false⟩, ⟨[(9, none)], false⟩, ⟨[(40, some 3)], false⟩, ⟨[(0, none)], false⟩, ⟨[(9, none)], false⟩, ⟨[(43, some 6)], false⟩, ⟨[(42, some 5), (44, some 7)], false⟩, ⟨[(45, some 8)], true⟩, ⟨[(0, none)], false⟩, ⟨[(9, none)], false⟩, ⟨[(47, some 10), (48, some 11)], false⟩, ⟨[(49, some 12)], true⟩, ⟨[(37, some 0), (38, some 1)], false⟩, ⟨[(46, some 9), (51, some 14)], true⟩] [(0, none), (1, none), (2, none), (3, none), (8, none), (9, none), (39, some 2), (41, some 4), (50, some 13)] 3 (⟨_, rfl, ⟨_, rfl, ⟨_, rfl, ⟨_, rfl, ⟨_, rfl, ⟨_, rfl, ⟨_, rfl, ⟨_, rfl, ⟨_, rfl, ⟨_, rfl, ⟨_, rfl, ⟨_, rfl, ⟨_, rfl, ⟨_, rfl, ⟨_, rfl, ⟨_, rfl, ⟨rfl, rfl⟩⟩⟩⟩⟩⟩⟩⟩⟩⟩⟩⟩⟩⟩⟩⟩⟩) mixed_orders rfl (by decide +kernel) ?_
        refine WalkP.step (p := ?pv3107) 0 rfl rfl rfl rfl rfl (⟨_, _, rfl, rfl, rfl⟩) ?hv3107 ?rest3107
        case hv3107 =>
         intro E1 H1 hI1
         refine (V1.move rfl rfl rfl (ltb rfl) ?_)
         exact rfl
        refine WalkP.step (p := ?pv3108) 1 rfl rfl rfl rfl rfl (⟨_, _, rfl, rfl, rfl⟩) ?hv3108 ?rest3108
        case hv3108 =>
         intro E1 H1 hI1
         refine (V1.move rfl rfl rfl (ltb rfl) ?_)
         exact rfl
        refine WalkP.step (p := ?pv3109) 2 rfl rfl rfl rfl rfl (⟨_, _, rfl, rfl, rfl⟩) ?hv3109 ?rest3109
        case hv3109 =>
         intro E1 H1 hI1
         refine (V1.move rfl rfl rfl (ltb rfl) ?_)
         exact rfl
        refine WalkP.step (p := ?pv3110) 3 rfl rfl rfl rfl rfl (⟨_, _, rfl, rfl, rfl⟩) ?hv3110 ?rest3110
        case hv3110 =>
         intro E1 H1 hI1
         refine (V1.move rfl rfl rfl (ltb rfl) ?_)
         exact rfl
        refine WalkP.step (p := ?pv3111) 4 rfl rfl rfl rfl rfl (⟨_, _, rfl, rfl, rfl⟩) ?hv3111 ?rest3111
        case hv3111 =>
         intro E1 H1 hI1
         refine (V1.int rfl rfl rfl rfl rfl (ltb rfl) ?_)
         exact rfl
        refine WalkP.step (p := ?pv3112) 5 rfl rfl rfl rfl rfl (⟨_, _, rfl, rfl, rfl⟩) ?hv3112 ?rest3112
        case hv3112 =>
         intro E1 H1 hI1
         refine (V1.move rfl rfl rfl (ltb rfl) ?_)
         exact rfl
        refine WalkP.step (p := ?pv3113) 6 rfl rfl rfl rfl rfl (⟨_, _, rfl, rfl, rfl⟩) ?hv3113 ?rest3113
        case hv3113 =>
         intro E1 H1 hI1
         refine (V1.move rfl rfl rfl (ltb rfl) ?_)
         exact rfl
        refine WalkP.step (p := ?pv3114) 7 rfl rfl rfl rfl rfl (⟨_, _, rfl, rfl, rfl⟩) ?hv3114 ?rest3114
        case hv3114 =>
         intro E1 H1 hI1
         refine (V1.int rfl rfl rfl rfl rfl (ltb rfl) ?_)
         exact rfl
        refine WalkP.step (p := ?pv3115) 8 rfl rfl rfl rfl rfl (⟨_, _, rfl, rfl, ⟨_, _, rfl, rfl, rfl⟩⟩) ?hv3115 ?rest3115
        case hv3115 =>
         intro E1 H1 hI1
         refine (V1.indexSr rfl rfl esz_78 rfl rfl hh3 (ltb rfl) ?_)
         exact rfl
        refine WalkP.step (p := ?pv3116) 10 rfl rfl rfl rfl rfl (⟨_, _, rfl, rfl, rfl⟩) ?hv3116 ?rest3116
        case hv3116 =>
         intro E1 H1 hI1
         refine (V1.move rfl rfl rfl (ltb rfl) ?_)
         exact rfl
        refine WalkP.step (p := ?pv3117) 11 rfl rfl rfl rfl rfl (⟨_, _, rfl, rfl, rfl⟩) ?hv3117 ?rest3117
        case hv3117 =>
         intro E1 H1 hI1
         refine (V1.move rfl rfl rfl (ltb rfl) ?_)
         exact rfl
        refine WalkP.step (p := ?pv3118) 12 rfl rfl rfl rfl rfl (⟨_, _, rfl, rfl, ⟨_, _, rfl, rfl, rfl⟩⟩) ?hv3118 ?rest3118
        case hv3118 =>
         intro E1 H1 hI1
         refine (V1.indexSr rfl rfl esz_78 rfl rfl hh4 (ltb rfl) ?_)
         exact rfl
        refine WalkP.nil ?_
        refine NodeS.branch [9, 13] inNil rfl rfl rfl ⟨?_, ?_, trivial⟩
        ·
         refine ⟨_, _, _, _, rfl, rfl, rfl, (⟨_, _, rfl, rfl, rfl⟩), fun E1 => ?_⟩
         refine (V1.loadMapAll (k := 0) (f := encFile) rfl rfl tyk_93 rfl rfl (by simpa using natLt hh3.1 hh3.2) rfl (ltb rfl) ?_)
         refine ⟨_, _, rfl, ?_⟩
         refine WalkP.nil ?_
         refine NodeS.branch [13] inNil rfl rfl rfl ⟨?_, trivial⟩
         ·
          refine ⟨_, _, _, _, rfl, rfl, rfl, (⟨_, _, rfl, rfl, rfl⟩), fun E1 => ?_⟩
          refine (V1.loadMapAll (k := 0) (f := encFile) rfl rfl tyk_93 rfl rfl (by simpa using natLt hh4.1 hh4.2) rfl (ltb rfl) ?_)
          refine ⟨_, _, rfl, ?_⟩
          refine WalkP.step (p := ?pv3119) 14 rfl rfl rfl rfl rfl (⟨_, _, rfl, rfl, ⟨_, _, rfl, rfl, rfl⟩⟩) ?hv3119 ?rest3119
          case hv3119 =>
           intro E1 H1 hI1
           refine (V1.indexSr rfl rfl esz_78 rfl rfl hh5 (ltb rfl) ?_)
           exact rfl
          refine WalkP.nil ?_
          refine NodeS.branch [15] inNil rfl rfl rfl ⟨?_, trivial⟩
          ·
           refine ⟨_, _, _, _, rfl, rfl, rfl, (⟨_, _, rfl, rfl, ⟨_, _, rfl, rfl, rfl⟩⟩), fun E1 => ?_⟩
           refine (V1.storeMap (k := 0) (f := encFile) (x := (data3.getD (Int.toNat (IntKind.i64.wrap (j_ - (1 : Int)))) default)) rfl rfl tyk_93 rfl rfl (by simpa using natLt hh5.1 hh5.2) rfl rfl ?_)
           refine ⟨.undef, _, rfl, ?_⟩
           refine WalkP.nil ?_
           refine NodeS.fin inNil rfl rfl rfl (⟨_, _, rfl, rfl, ⟨_, _, rfl, rfl, ⟨_, _, rfl, rfl, ⟨_, _, rfl, rfl, ⟨_, _, rfl, rfl, ⟨_, _, rfl, rfl, ⟨_, _, rfl, rfl, ⟨_, _, rfl, rfl, ⟨_, _, rfl, rfl, rfl⟩⟩⟩⟩⟩⟩⟩⟩⟩) ?_
           refine VO.weakenK (Keeps.say 0 (y := .sref ob0 7 0 (List.length (data3.set (Int.toNat j_) (data3.getD (Int.toNat (IntKind.i64.wrap (j_ - (1 : Int)))) default)))) rfl (by simp [optS])) ?_
           refine VO.weakenK (Keeps.say 39 (y := .sref ob0 7 0 (List.length (data3.set (Int.toNat j_) (data3.getD (Int.toNat (IntKind.i64.wrap (j_ - (1 : Int)))) default)))) rfl (by simp [optS])) ?_
           refine VO.cons rfl (V1.indexSr rfl rfl esz_78 rfl rfl hh6 (ltb rfl) ?_)
           refine VO.cons rfl (V1.storeMap (k := 0) (f := encFile) (x := (data3.getD (Int.toNat j_) default)) rfl rfl tyk_93 rfl rfl (by simpa using natLt hh6.1 hh6.2) rfl rfl ?_)
           refine VO.weakenK (Keeps.say 0 (y := .sref ob0 7 0 (List.length ((data3.set (Int.toNat j_) (data3.getD (Int.toNat (IntKind.i64.wrap (j_ - (1 : Int)))) default)).set (Int.toNat (IntKind.i64.wrap (j_ - (1 : Int)))) (data3.getD (Int.toNat j_) default)))) rfl (by simp [optS])) ?_
           refine VO.nil ?_
           exact ⟨(((data3.set (Int.toNat j_) (data3.getD (Int.toNat (IntKind.i64.wrap (j_ - (1 : Int)))) default)).set (Int.toNat (IntKind.i64.wrap (j_ - (1 : Int)))) (data3.getD (Int.toNat j_) default)), ()), Option.some.inj hm3, Keeps.mk (ks := [0]) rfl ⟨(someSref (by simp)), rfl, rfl, rfl, rfl, rfl, trivial⟩ (⟨_, _, rfl, rfl, rfl⟩) rfl⟩
        ·
         refine ⟨_, _, _, _, rfl, rfl, rfl, (⟨_, _, rfl, rfl, rfl⟩), fun E1 => ?_⟩
         refine (V1.loadMapAll (k := 0) (f := encFile) rfl rfl tyk_93 rfl rfl (by simpa using natLt hh4.1 hh4.2) rfl (ltb rfl) ?_)
         refine ⟨_, _, rfl, ?_⟩
         refine WalkP.nil ?_
         refine NodeS.branch [9] inNil rfl rfl rfl ⟨?_, trivial⟩
         ·
          refine ⟨_, _, _, _, rfl, rfl, rfl, (⟨_, _, rfl, rfl, rfl⟩), fun E1 => ?_⟩
          refine (V1.loadMapAll (k := 0) (f := encFile) rfl rfl tyk_93 rfl rfl (by simpa using natLt hh3.1 hh3.2) rfl (ltb rfl) ?_)
          refine ⟨_, _, rfl, ?_⟩
          refine WalkP.step (p := ?pv3120) 14 rfl rfl rfl rfl rfl (⟨_, _, rfl, rfl, ⟨_, _, rfl, rfl, rfl⟩⟩) ?hv3120 ?rest3120
          case hv3120 =>
           intro E1 H1 hI1
           refine (V1.indexSr rfl rfl esz_78 rfl rfl hh5 (ltb rfl) ?_)
           exact rfl
          refine WalkP.nil ?_
          refine NodeS.branch [15] inNil rfl rfl rfl ⟨?_, trivial⟩
          ·
           refine ⟨_, _, _, _, rfl, rfl, rfl, (⟨_, _, rfl, rfl, ⟨_, _, rfl, rfl, rfl⟩⟩), fun E1 => ?_⟩
           refine (V1.storeMap (k := 0) (f := encFile) (x := (data3.getD (Int.toNat (IntKind.i64.wrap (j_ - (1 : Int)))) default)) rfl rfl tyk_93 rfl rfl (by simpa using natLt hh5.1 hh5.2) rfl rfl ?_)
           refine ⟨.undef, _, rfl, ?_⟩
           refine WalkP.nil ?_
           refine NodeS.fin inNil rfl rfl rfl (⟨_, _, rfl, rfl, ⟨_, _, rfl, rfl, ⟨_, _, rfl, rfl, ⟨_, _, rfl, rfl, ⟨_, _, rfl, rfl, ⟨_, _, rfl, rfl, ⟨_, _, rfl, rfl, ⟨_, _, rfl, rfl, ⟨_, _, rfl, rfl, rfl⟩⟩⟩⟩⟩⟩⟩⟩⟩) ?_
           refine VO.weakenK (Keeps.say 0 (y := .sref ob0 7 0 (List.length (data3.set (Int.toNat j_) (data3.getD (Int.toNat (IntKind.i64.wrap (j_ - (1 : Int)))) default)))) rfl (by simp [optS])) ?_
           refine VO.weakenK (Keeps.say 39 (y := .sref ob0 7 0 (List.length (data3.set (Int.toNat j_) (data3.getD (Int.toNat (IntKind.i64.wrap (j_ - (1 : Int)))) default)))) rfl (by simp [optS])) ?_
           refine VO.cons rfl (V1.indexSr rfl rfl esz_78 rfl rfl hh6 (ltb rfl) ?_)
           refine VO.cons rfl (V1.storeMap (k := 0) (f := encFile) (x := (data3.getD (Int.toNat j_) default)) rfl rfl tyk_93 rfl rfl (by simpa using natLt hh6.1 hh6.2) rfl rfl ?_)
           refine VO.weakenK (Keeps.say 0 (y := .sref ob0 7 0 (List.length ((data3.set (Int.toNat j_) (data3.getD (Int.toNat (IntKind.i64.wrap (j_ - (1 : Int)))) default)).set (Int.toNat (IntKind.i64.wrap (j_ - (1 : Int)))) (data3.getD (Int.toNat j_) default)))) rfl (by simp [optS])) ?_
           refine VO.nil ?_
           exact ⟨(((data3.set (Int.toNat j_) (data3.getD (Int.toNat (IntKind.i64.wrap (j_ - (1 : Int)))) default)).set (Int.toNat (IntKind.i64.wrap (j_ - (1 : Int)))) (data3.getD (Int.toNat j_) default)), ()), Option.some.inj hm3, Keeps.mk (ks := [0]) rfl ⟨(someSref (by simp)), rfl, rfl, rfl, rfl, rfl, trivial⟩ (⟨_, _, rfl, rfl, rfl⟩) rfl⟩
       ·
        rintro ⟨data4, _⟩ rfl
        try dsimp only at hm2
        refine V.region ?_
        refine VO.cons rfl (V1.move rfl rfl rfl (ltb rfl) ?_)
        refine VO.cons rfl (V1.int rfl rfl rfl rfl rfl (ltb rfl) ?_)
        refine VO.cons rfl (V1.assign rfl rfl rfl (ltb rfl) ?_)
        refine VO.nil ?_
        exact ⟨(m1, (data4, (IntKind.i64.wrap (j_ - (1 : Int)))), ()), hl2 _ (Option.some.inj hm2).symm, Nat.lt_succ_self _, Keeps.mk (ks := [0]) rfl ⟨(someSref (by simp)), rfl, rfl, rfl, rfl, rfl, trivial⟩ (⟨_, _, rfl, rfl, rfl⟩) rfl⟩
      ·
       replace hm2 := cond_f hc1 hm2
       refine V.exit ?_
       obtain rfl := hr2 _ (Option.some.inj hm2).symm
       exact ⟨(data3, ()), rfl, Keeps.mk (ks := [0]) rfl ⟨(someSref (by simp)), rfl, rfl, rfl, rfl, trivial⟩ (⟨_, _, rfl, rfl, rfl⟩) rfl⟩
     ·
      rintro ⟨data2, _⟩ rfl
      try dsimp only at hm1
      refine V.region ?_
      refine VO.cons rfl (V1.move rfl rfl rfl (ltb rfl) ?_)
      refine VO.cons rfl (V1.int rfl rfl rfl rfl rfl (ltb rfl) ?_)
      refine VO.cons rfl (V1.assign rfl rfl rfl (ltb rfl) ?_)
      refine VO.nil ?_
      exact ⟨(m0, (data2, (IntKind.i64.wrap (i + (1 : Int)))), (some ob0)), ⟨hl1 _ (Option.some.inj hm1).symm, (fun e => by cases e)⟩, Nat.lt_succ_self _, Keeps.mk (ks := [0]) rfl ⟨rfl, rfl, rfl, rfl, rfl, trivial⟩ (⟨_, _, rfl, rfl, rfl⟩) rfl⟩
    ·
     replace hm1 := cond_f hc0 hm1
     refine V.exit ?_
     obtain rfl := hr1 _ (Option.some.inj hm1).symm
     exact ⟨(data1, ()), rfl, Keeps.trans (Keeps.freezeG 0 rn [(0, .vl rn 7 (List.map encFile data1))] [] (f := encFile) (l := data1) rfl (fun _ => rfl) ⟨⟨_, rfl, .here⟩, trivial⟩ rfl rfl iNil) (Keeps.mk (ks := []) rfl ⟨rfl, trivial⟩ (rfl) rfl)⟩
  ·
   rintro ⟨data0, _⟩ rfl
   try dsimp only at hm0
   obtain rfl := Option.some.inj hm0
   exact ⟨_, [], rfl, List.nil_sublist _, rfl, rfl⟩
 ·
  refine V.seq ?_
  refine V.region ?_
  refine VO.cons rfl (V1.move rfl rfl rfl (ltb rfl) ?_)
  refine VO.cons rfl (V1.int rfl rfl rfl rfl rfl (ltb rfl) ?_)
  refine VO.cons rfl (V1.assign rfl rfl rfl (ltb rfl) ?_)
  refine VO.nil ?_
  replace hm0 := bindO hm0; rcases hm0 with ⟨e0, he1, hm0⟩
  refine V.cutT (D := (List File) × (Unit)) (fun ⟨data0, _⟩ => ⟨53, [(0, .sref oq 7 0 (List.length data0))], [(oq, ⟨7, List.map encFile data0⟩)]⟩) (fun ⟨data0, _⟩ => (data0 = e0)) ?_ ?_
  ·
   refine V.block ?_
   refine V.keep 53 [0, 8, 1, 2, 3] [0] (E0 := [(0, .sref oq 7 0 (List.length data)), (8, .int .i64 (IntKind.i64.wrap (a + (1 : Int)))), (1, .int .i64 a), (2, .int .i64 b_), (3, .fn f3 cs3)]) (H0 := [(oq, ⟨7, List.map encFile data⟩)]) rfl (⟨_, _, rfl, rfl, ⟨_, _, rfl, rfl, ⟨_, _, rfl, rfl, ⟨_, _, rfl, rfl, ⟨_, _, rfl, rfl, rfl⟩⟩⟩⟩⟩) (⟨_, _, rfl, rfl, rfl⟩) rfl ?_
   refine V.loopE (D := Nat × (List File × Int) × (Unit)) (fun ⟨n0, ⟨data1, i⟩, _⟩ => [(0, .sref oq 7 0 (List.length data1)), (8, .int .i64 i)]) (fun ⟨n0, ⟨data1, i⟩, _⟩ => [(oq, ⟨7, List.map encFile data1⟩)]) (fun ⟨n0, ⟨data1, i⟩, _⟩ => loopO (M.slices_insertionSortCmpFunc_impl_File_l0 a b_ fm) n0 (data1, i) = some e0) (fun ⟨n0, _, _⟩ => n0) (rounds, (data, (IntKind.i64.wrap (a + (1 : Int)))), ()) rfl he1 ?_
   rintro ⟨n0, ⟨data1, i⟩, _⟩ hP0
   obtain ⟨m0, y0, rfl, hm1, hl1, hr1⟩ := loop_head hP0
   unfold M.slices_insertionSortCmpFunc_impl_File_l0 at hm1; dsimp only at hm1
   show V _ _ _ ⟨53, [(0, .sref oq 7 0 (List.length data1)), (8, .int .i64 i), (1, .int .i64 a), (2, .int .i64 b_), (3, .fn f3 cs3)], [(oq, ⟨7, List.map encFile data1⟩)]⟩
   refine V.seq ?_
   refine V.seq ?_
   refine V.region ?_
   refine VO.cons rfl (V1.move rfl rfl rfl (ltb rfl) ?_)
   refine VO.cons rfl (V1.move rfl rfl rfl (ltb rfl) ?_)
   refine VO.cons rfl (V1.int rfl rfl rfl rfl rfl (ltb rfl) ?_)
   refine VO.nil ?_
   refine V.cond rfl (fun hc0 => ?_) (fun hc0 => ?_)
   ·
    replace hm1 := cond_t hc0 hm1
    refine V.skip ?_
    refine V.seq ?_
    refine V.block ?_
    refine V.seq ?_
    refine V.region ?_
    refine VO.cons rfl (V1.move rfl rfl rfl (ltb rfl) ?_)
    refine VO.cons rfl (V1.assign rfl rfl rfl (ltb rfl) ?_)
    refine VO.nil ?_
    refine V.keep 53 [0, 1, 2, 3, 8, 9] [0] (E0 := [(0, .sref oq 7 0 (List.length data1)), (1, .int .i64 a), (2, .int .i64 b_), (3, .fn f3 cs3), (8, .int .i64 i), (9, .int .i64 i)]) (H0 := [(oq, ⟨7, List.map encFile data1⟩)]) rfl (⟨_, _, rfl, rfl, ⟨_, _, rfl, rfl, ⟨_, _, rfl, rfl, ⟨_, _, rfl, rfl, ⟨_, _, rfl, rfl, ⟨_, _, rfl, rfl, rfl⟩⟩⟩⟩⟩⟩) (⟨_, _, rfl, rfl, rfl⟩) rfl ?_
    replace hm1 := bindO hm1; rcases hm1 with ⟨e1, he2, hm1⟩
    refine V.cutT (D := (List File) × (Unit)) (fun ⟨data2, _⟩ => ⟨53, [(0, .sref oq 7 0 (List.length data2)), (1, .int .i64 a), (2, .int .i64 b_), (3, .fn f3 cs3), (8, .int .i64 i)], [(oq, ⟨7, List.map encFile data2⟩)]⟩) (fun ⟨data2, _⟩ => (data2 = e1)) ?_ ?_
    ·
     refine V.block ?_
     refine V.keep 53 [0, 9, 1, 2, 3, 8] [0] (E0 := [(0, .sref oq 7 0 (List.length data1)), (9, .int .i64 i), (1, .int .i64 a), (2, .int .i64 b_), (3, .fn f3 cs3), (8, .int .i64 i)]) (H0 := [(oq, ⟨7, List.map encFile data1⟩)]) rfl (⟨_, _, rfl, rfl, ⟨_, _, rfl, rfl, ⟨_, _, rfl, rfl, ⟨_, _, rfl, rfl, ⟨_, _, rfl, rfl, ⟨_, _, rfl, rfl, rfl⟩⟩⟩⟩⟩⟩) (⟨_, _, rfl, rfl, rfl⟩) rfl ?_
     refine V.loopE (D := Nat × (List File × Int) × (Unit)) (fun ⟨n1, ⟨data3, j_⟩, _⟩ => [(0, .sref oq 7 0 (List.length data3)), (9, .int .i64 j_)]) (fun ⟨n1, ⟨data3, j_⟩, _⟩ => [(oq, ⟨7, List.map encFile data3⟩)]) (fun ⟨n1, ⟨data3, j_⟩, _⟩ => loopO (M.slices_insertionSortCmpFunc_impl_File_l1 a fm) n1 (data3, j_) = some e1) (fun ⟨n1, _, _⟩ => n1) (rounds, (data1, i), ()) rfl he2 ?_
     rintro ⟨n1, ⟨data3, j_⟩, _⟩ hP1
     obtain ⟨m1, y1, rfl, hm2, hl2, hr2⟩ := loop_head hP1
     unfold M.slices_insertionSortCmpFunc_impl_File_l1 at hm2; dsimp only at hm2
     show V _ _ _ ⟨53, [(0, .sref oq 7 0 (List.length data3)), (9, .int .i64 j_), (1, .int .i64 a), (2, .int .i64 b_), (3, .fn f3 cs3), (8, .int .i64 i)], [(oq, ⟨7, List.map encFile data3⟩)]⟩
     refine V.seq ?_
     refine V.seq ?_
     replace hm2 := asrt_some hm2; rcases hm2 with ⟨hh0, hm2⟩
     replace hm2 := asrt_some hm2; rcases hm2 with ⟨hh1, hm2⟩
     replace hm2 := bindO hm2; rcases hm2 with ⟨y2, hh2, hm2⟩
     refine V.regionM 53 17 [⟨[(9, none)], [], none⟩, ⟨[(1, none)], [], none⟩, ⟨[(18, some 1), (19, some 0)], [], none⟩, ⟨[(20, some 0)], [], none⟩, ⟨[(3, none)], [(0, true)], none⟩, ⟨[(0, none)], [(1, true)], none⟩, ⟨[(9, none)], [(2, true)], none⟩, ⟨[(23, some 1), (24, some 0)], [(3, true)], none⟩, ⟨[(25, some 0)], [(4, true)], none⟩, ⟨[(0, none)], [(5, true)], none⟩, ⟨[(9, none)], [(6, true)], none⟩, ⟨[(28, some 0)], [(7, true)], none⟩, ⟨[(27, some 2), (29, some 0)], [(8, true)], none⟩, ⟨[(30, some 0)], [(9, true)], none⟩, ⟨[(22, some 9), (26, some 5), (31, some 0)], [(10, true)], none⟩, ⟨[(32, some 0)], [(11, true)], none⟩, ⟨[], [], some (true, 21, 33, 12, 0)⟩] [(0, none), (1, none), (2, none), (3, none), (8, none), (9, none), (34, some 0)] (⟨_, rfl, ⟨_, rfl, ⟨_, rfl, ⟨_, rfl, ⟨_, rfl, ⟨_, rfl, ⟨_, rfl, ⟨_, rfl, ⟨_, rfl, ⟨_, rfl, ⟨_, rfl, ⟨_, rfl, ⟨_, rfl, ⟨_, rfl, ⟨_, rfl, ⟨_, rfl, ⟨_, rfl, ⟨rfl, rfl⟩⟩⟩⟩⟩⟩⟩⟩⟩⟩⟩⟩⟩⟩⟩⟩⟩⟩) mixed_orders rfl (by decide +kernel) (fun hck4 => ?_)
     refine VP.step (p := ?pv3781) rfl rfl rfl (⟨_, _, rfl, rfl, rfl⟩) ?hv3781 ?rest3781 hck4
     case hv3781 =>
      intro E1
      refine (V1.move rfl rfl rfl (ltb rfl) ?_)
      exact rfl
     refine VP.step (p := ?pv3782) rfl rfl rfl (⟨_, _, rfl, rfl, rfl⟩) ?hv3782 ?rest3782 hck4
     case hv3782 =>
      intro E1
      refine (V1.move rfl rfl rfl (ltb rfl) ?_)
      exact rfl
     refine VP.step (p := ?pv3783) rfl rfl rfl (⟨_, _, rfl, rfl, ⟨_, _, rfl, rfl, rfl⟩⟩) ?hv3783 ?rest3783 hck4
     case hv3783 =>
      intro E1
      refine (V1.int rfl rfl rfl rfl rfl (ltb rfl) ?_)
      exact rfl
     refine VP.step (p := ?pv3784) rfl rfl rfl (⟨_, _, rfl, rfl, rfl⟩) ?hv3784 ?rest3784 hck4
     case hv3784 =>
      intro E1
      refine (V1.move rfl rfl rfl (ltb rfl) ?_)
      exact rfl
     refine VP.step (p := ?pv3785) rfl rfl rfl (⟨_, _, rfl, rfl, rfl⟩) ?hv3785 ?rest3785 hck4
     case hv3785 =>
      refine ⟨_, rfl, fun hg0 => ?_⟩
      intro E1
      refine (V1.move rfl rfl rfl (ltb rfl) ?_)
      exact rfl
     refine VP.step (p := ?pv3786) rfl rfl rfl (⟨_, _, rfl, rfl, rfl⟩) ?hv3786 ?rest3786 hck4
     case hv3786 =>
      refine ⟨_, rfl, fun hg0 => ?_⟩
      intro E1
      refine (V1.move rfl rfl rfl (ltb rfl) ?_)
      exact rfl
     refine VP.step (p := ?pv3787) rfl rfl rfl (⟨_, _, rfl, rfl, rfl⟩) ?hv3787 ?rest3787 hck4
     case hv3787 =>
      refine ⟨_, rfl, fun hg0 => ?_⟩
      intro E1
      refine (V1.move rfl rfl rfl (ltb rfl) ?_)
      exact rfl
     refine VP.step (p := ?pv3788) rfl rfl rfl (⟨_, _, rfl, rfl, ⟨_, _, rfl, rfl, rfl⟩⟩) ?hv3788 ?rest3788 hck4
     case hv3788 =>
      refine ⟨_, rfl, fun hg0 => ?_⟩
      intro E1
      refine (V1.indexSr rfl rfl esz_78 rfl rfl (hh0 hg0) (ltb rfl) ?_)
      exact rfl
     refine VP.step (p := ?pv3789) rfl rfl rfl (⟨_, _, rfl, rfl, rfl⟩) ?hv3789 ?rest3789 hck4
     case hv3789 =>
      refine ⟨_, rfl, fun hg0 => ?_⟩
      intro E1
      refine (V1.loadMapAll (k := 0) (f := encFile) rfl rfl tyk_93 rfl rfl (by simpa using natLt (hh0 hg0).1 (hh0 hg0).2) rfl (ltb rfl) ?_)
      exact rfl
     refine VP.step (p := ?pv3790) rfl rfl rfl (⟨_, _, rfl, rfl, rfl⟩) ?hv3790 ?rest3790 hck4
     case hv3790 =>
      refine ⟨_, rfl, fun hg0 => ?_⟩
      intro E1
      refine (V1.move rfl rfl rfl (ltb rfl) ?_)
      exact rfl
     refine VP.step (p := ?pv3791) rfl rfl rfl (⟨_, _, rfl, rfl, rfl⟩) ?hv3791 ?rest3791 hck4
     case hv3791 =>
      refine ⟨_, rfl, fun hg0 => ?_⟩
      intro E1
      refine (V1.move rfl rfl rfl (ltb rfl) ?_)
      exact rfl
     refine VP.step (p := ?pv3792) rfl rfl rfl (⟨_, _, rfl, rfl, rfl⟩) ?hv3792 ?rest3792 hck4
     case hv3792 =>
      refine ⟨_, rfl, fun hg0 => ?_⟩
      intro E1
      refine (V1.int rfl rfl rfl rfl rfl (ltb rfl) ?_)
      exact rfl
     refine VP.step (p := ?pv3793) rfl rfl rfl (⟨_, _, rfl, rfl, ⟨_, _, rfl, rfl, rfl⟩⟩) ?hv3793 ?rest3793 hck4
     case hv3793 =>
      refine ⟨_, rfl, fun hg0 => ?_⟩
      intro E1
      refine (V1.indexSr rfl rfl esz_78 rfl rfl (hh1 hg0) (ltb rfl) ?_)
      exact rfl
     refine VP.step (p := ?pv3794) rfl rfl rfl (⟨_, _, rfl, rfl, rfl⟩) ?hv3794 ?rest3794 hck4
     case hv3794 =>
      refine ⟨_, rfl, fun hg0 => ?_⟩
      intro E1
      refine (V1.loadMapAll (k := 0) (f := encFile) rfl rfl tyk_93 rfl rfl (by simpa using natLt (hh1 hg0).1 (hh1 hg0).2) rfl (ltb rfl) ?_)
      exact rfl
     refine VP.step (p := ?pv3795) rfl rfl rfl (⟨_, _, rfl, rfl, ⟨_, _, rfl, rfl, ⟨_, _, rfl, rfl, rfl⟩⟩⟩) ?hv3795 ?rest3795 hck4
     case hv3795 =>
      refine ⟨_, rfl, fun hg0 => ?_⟩
      intro E1
      refine (V1.callG (τ := 0) (Bw := []) rfl (ltb rfl) (run_callFn rfl rfl rfl hok3 rfl) (.refl _) (Lends.same _) (fun _ h => by cases h) ((hf3 _ _  _) (cond_t hg0 hh2)) (.inl rfl) (.inl rfl) ?_)
      rintro _ _ ⟨rfl, rfl⟩
      exact rfl
     refine VP.step (p := ?pv3796) rfl rfl rfl (⟨_, _, rfl, rfl, rfl⟩) ?hv3796 ?rest3796 hck4
     case hv3796 =>
      refine ⟨_, rfl, fun hg0 => ?_⟩
      intro E1
      refine (V1.int rfl rfl rfl rfl rfl (ltb rfl) ?_)
      exact rfl
     refine VP.pickAnd rfl rfl rfl rfl rfl rfl (trivial) ?_ hck4
     refine VP.fin rfl (⟨_, _, rfl, rfl, ⟨_, _, rfl, rfl, ⟨_, _, rfl, rfl, ⟨_, _, rfl, rfl, ⟨_, _, rfl, rfl, ⟨_, _, rfl, rfl, ⟨_, _, rfl, rfl, rfl⟩⟩⟩⟩⟩⟩⟩) ?_
     refine VO.nil ?_
     refine V.cond rfl (fun hc1 => ?_) (fun hc1 => ?_)
     ·
      replace hm2 := cond_t hc1 hm2
      refine V.skip ?_
      refine V.seq ?_
      refine V.block ?_
      replace hm2 := asrt_some hm2; rcases hm2 with ⟨hh3, hm2⟩
      replace hm2 := asrt_some hm2; rcases hm2 with ⟨hh4, hm2⟩
      replace hm2 := asrt_some hm2; rcases hm2 with ⟨hh5, hm2⟩
      replace hm2 := asrt_some hm2; rcases hm2 with ⟨hh6, hm2⟩
      replace hm2 := bindO hm2; rcases hm2 with ⟨j0, hm3, hm2⟩
      refine V.cutT (D := (List File) × (Unit)) (fun ⟨data4, _⟩ => ⟨53, [(0, .sref oq 7 0 (List.length data4)), (1, .int .i64 a), (2, .int .i64 b_), (3, .fn f3 cs3), (8, .int .i64 i), (9, .int .i64 j_)], [(oq, ⟨7, List.map encFile data4⟩)]⟩) (fun ⟨data4, _⟩ => (data4 = j0)) ?_ ?_
      ·
       refine V.regionS [] 53 16 [⟨[(0, none)], false⟩, ⟨[(9, none)], false⟩, ⟨[(0, none)], false⟩, ⟨[(9, none)], false⟩, ⟨[(40, some 3)], false⟩, ⟨[(0, none)], false⟩, ⟨[(9, none)], false⟩, ⟨[(43, some 6)], false⟩, ⟨[(42, some 5), (44, some 7)], false⟩, ⟨[(45, some 8)], true⟩, ⟨[(0, none)], false⟩, ⟨[(9, none)], false⟩, ⟨[(47, some 10), (48, some 11)], false⟩, ⟨[(49, some 12)], true⟩, ⟨[(37, some 0), (38, some 1)], false⟩, ⟨[(46, some 9), (51, some 14)], true⟩] [(0, none), (1, none), (2, none), (3, none), (8, none), (9, none), (39, some 2), (41, some 4), (50, some 13)] 3 (⟨_, rfl, ⟨_, rfl, ⟨_, rfl, ⟨_, rfl, ⟨_, rfl, ⟨_, rfl, ⟨_, rfl, ⟨_, rfl, ⟨_, rfl, ⟨_, rfl, ⟨_, rfl, ⟨_, rfl, ⟨_, rfl, ⟨_, rfl, ⟨_, rfl, ⟨_, rfl, ⟨rfl, rfl⟩⟩⟩⟩⟩⟩⟩⟩⟩⟩⟩⟩⟩⟩⟩⟩⟩) mixed_orders rfl (by decide +kernel) ?_
       refine WalkP.step (p := ?pv3811) 0 rfl rfl rfl rfl rfl (⟨_, _, rfl, rfl, rfl⟩) ?hv3811 ?rest3811
       case hv3811 =>
        intro E1 H1 hI1
        refine (V1.move rfl rfl rfl (ltb rfl) ?_)
        exact rfl
       refine WalkP.step (p := ?pv3812) 1 rfl rfl rfl rfl rfl (⟨_, _, rfl, rfl, rfl⟩) ?hv3812 ?rest3812
       case hv3812 =>
        intro E1 H1 hI1
        refine (V1.move rfl rfl rfl (ltb rfl) ?_)
        exact rfl
       refine WalkP.step (p := ?pv3813) 2 rfl rfl rfl rfl rfl (⟨_, _, rfl, rfl, rfl⟩) ?hv3813 ?rest3813
       case hv3813 =>
        intro E1 H1 hI1
        refine (V1.move rfl rfl rfl (ltb rfl) ?_)
        exact rfl
       refine WalkP.step (p := ?pv3814) 3 rfl rfl rfl rfl rfl (⟨_, _, rfl, rfl, rfl⟩) ?hv3814 ?rest3814
       case hv3814 =>
        intro E1 H1 hI1
        refine (V1.move rfl rfl rfl (ltb rfl) ?_)
        exact rfl
       refine WalkP.step (p := ?pv3815) 4 rfl rfl rfl rfl rfl (⟨_, _, rfl, rfl, rfl⟩) ?hv3815 ?rest3815
       case hv3815 =>
        intro E1 H1 hI1
        refine (V1.int rfl rfl rfl rfl rfl (ltb rfl) ?_)
        exact rfl
       refine WalkP.step (p := ?pv3816) 5 rfl rfl rfl rfl rfl (⟨_, _, rfl, rfl, rfl⟩) ?hv3816 ?rest3816
       case hv3816 =>
        intro E1 H1 hI1
        refine (V1.move rfl rfl rfl (ltb rfl) ?_)
        exact rfl
       refine WalkP.step (p := ?pv3817) 6 rfl rfl rfl rfl rfl (⟨_, _, rfl, rfl, rfl⟩) ?hv3817 ?rest3817
       case hv3817 =>
        intro E1 H1 hI1
        refine (V1.move rfl rfl rfl (ltb rfl) ?_)
        exact rfl
       refine WalkP.step (p := ?pv3818) 7 rfl rfl rfl rfl rfl (⟨_, _, rfl, rfl, rfl⟩) ?hv3818 ?rest3818
       case hv3818 =>
        intro E1 H1 hI1
        refine (V1.int rfl rfl rfl rfl rfl (ltb rfl) ?_)
        exact rfl
       refine WalkP.step (p := ?pv3819) 8 rfl rfl rfl rfl rfl (⟨_, _, rfl, rfl, ⟨_, _, rfl, rfl, rfl⟩⟩) ?hv3819 ?rest3819
       case hv3819 =>
        intro E1 H1 hI1
        refine (V1.indexSr rfl rfl esz_78 rfl rfl hh3 (ltb rfl) ?_)
        exact rfl
       refine WalkP.step (p := ?pv3820) 10 rfl rfl rfl rfl rfl (⟨_, _, rfl, rfl, rfl⟩) ?hv3820 ?rest3820
       case hv3820 =>
        intro E1 H1 hI1
        refine (V1.move rfl rfl rfl (ltb rfl) ?_)
        exact rfl
       refine WalkP.step (p := ?pv3821) 11 rfl rfl rfl rfl rfl (⟨_, _, rfl, rfl, rfl⟩) ?hv3821 ?rest3821
       case hv3821 =>
        intro E1 H1 hI1
        refine (V1.move rfl rfl rfl (ltb rfl) ?_)
        exact rfl
       refine WalkP.step (p := ?pv3822) 12 rfl rfl rfl rfl rfl (⟨_, _, rfl, rfl, ⟨_, _, rfl, rfl, rfl⟩⟩) ?hv3822 ?rest3822
       case hv3822 =>
        intro E1 H1 hI1
        refine (V1.indexSr rfl rfl esz_78 rfl rfl hh4 (ltb rfl) ?_)
        exact rfl
       refine WalkP.nil ?_
       refine NodeS.branch [9, 13] inNil rfl rfl rfl ⟨?_, ?_, trivial⟩
       ·
        refine ⟨_, _, _, _, rfl, rfl, rfl, (⟨_, _, rfl, rfl, rfl⟩), fun E1 => ?_⟩
        refine (V1.loadMapAll (k := 0) (f := encFile) rfl rfl tyk_93 rfl rfl (by simpa using natLt hh3.1 hh3.2) rfl (ltb rfl) ?_)
        refine ⟨_, _, rfl, ?_⟩
        refine WalkP.nil ?_
        refine NodeS.branch [13] inNil rfl rfl rfl ⟨?_, trivial⟩
        ·
         refine ⟨_, _, _, _, rfl, rfl, rfl, (⟨_, _, rfl, rfl, rfl⟩), fun E1 => ?_⟩
         refine (V1.loadMapAll (k := 0) (f := encFile) rfl rfl tyk_93 rfl rfl (by simpa using natLt hh4.1 hh4.2) rfl (ltb rfl) ?_)
         refine ⟨_, _, rfl, ?_⟩
         refine WalkP.step (p := ?pv3823) 14 rfl rfl rfl rfl rfl (⟨_, _, rfl, rfl, ⟨_, _, rfl, rfl, rfl⟩⟩) ?hv3823 ?rest3823
         case hv3823 =>
          intro E1 H1 hI1
          refine (V1.indexSr rfl rfl esz_78 rfl rfl hh5 (ltb rfl) ?_)
          exact rfl
         refine WalkP.nil ?_
         refine NodeS.branch [15] inNil rfl rfl rfl ⟨?_, trivial⟩
         ·
          refine ⟨_, _, _, _, rfl, rfl, rfl, (⟨_, _, rfl, rfl, ⟨_, _, rfl, rfl, rfl⟩⟩), fun E1 => ?_⟩
          refine (V1.storeMap (k := 0) (f := encFile) (x := (data3.getD (Int.toNat (IntKind.i64.wrap (j_ - (1 : Int)))) default)) rfl rfl tyk_93 rfl rfl (by simpa using natLt hh5.1 hh5.2) rfl rfl ?_)
          refine ⟨.undef, _, rfl, ?_⟩
          refine WalkP.nil ?_
          refine NodeS.fin inNil rfl rfl rfl (⟨_, _, rfl, rfl, ⟨_, _, rfl, rfl, ⟨_, _, rfl, rfl, ⟨_, _, rfl, rfl, ⟨_, _, rfl, rfl, ⟨_, _, rfl, rfl, ⟨_, _, rfl, rfl, ⟨_, _, rfl, rfl, ⟨_, _, rfl, rfl, rfl⟩⟩⟩⟩⟩⟩⟩⟩⟩) ?_
          refine VO.weakenK (Keeps.say 0 (y := .sref oq 7 0 (List.length (data3.set (Int.toNat j_) (data3.getD (Int.toNat (IntKind.i64.wrap (j_ - (1 : Int)))) default)))) rfl (by simp [optS])) ?_
          refine VO.weakenK (Keeps.say 39 (y := .sref oq 7 0 (List.length (data3.set (Int.toNat j_) (data3.getD (Int.toNat (IntKind.i64.wrap (j_ - (1 : Int)))) default)))) rfl (by simp [optS])) ?_
          refine VO.cons rfl (V1.indexSr rfl rfl esz_78 rfl rfl hh6 (ltb rfl) ?_)
          refine VO.cons rfl (V1.storeMap (k := 0) (f := encFile) (x := (data3.getD (Int.toNat j_) default)) rfl rfl tyk_93 rfl rfl (by simpa using natLt hh6.1 hh6.2) rfl rfl ?_)
          refine VO.weakenK (Keeps.say 0 (y := .sref oq 7 0 (List.length ((data3.set (Int.toNat j_) (data3.getD (Int.toNat (IntKind.i64.wrap (j_ - (1 : Int)))) default)).set (Int.toNat (IntKind.i64.wrap (j_ - (1 : Int)))) (data3.getD (Int.toNat j_) default)))) rfl (by simp [optS])) ?_
          refine VO.nil ?_
          exact ⟨(((data3.set (Int.toNat j_) (data3.getD (Int.toNat (IntKind.i64.wrap (j_ - (1 : Int)))) default)).set (Int.toNat (IntKind.i64.wrap (j_ - (1 : Int)))) (data3.getD (Int.toNat j_) default)), ()), Option.some.inj hm3, Keeps.mk (ks := [0]) rfl ⟨(someSref (by simp)), rfl, rfl, rfl, rfl, rfl, trivial⟩ (⟨_, _, rfl, rfl, rfl⟩) rfl⟩
       ·
        refine ⟨_, _, _, _, rfl, rfl, rfl, (⟨_, _, rfl, rfl, rfl⟩), fun E1 => ?_⟩
        refine (V1.loadMapAll (k := 0) (f := encFile) rfl rfl tyk_93 rfl rfl (by simpa using natLt hh4.1 hh4.2) rfl (ltb rfl) ?_)
        refine ⟨_, _, rfl, ?_⟩
        refine WalkP.nil ?_
        refine NodeS.branch [9] inNil rfl rfl rfl ⟨?_, trivial⟩
        ·
         refine ⟨_, _, _, _, rfl, rfl, rfl, (⟨_, _, rfl, rfl, rfl⟩), fun E1 => ?_⟩
         refine (V1.loadMapAll (k := 0) (f := encFile) rfl rfl tyk_93 rfl rfl (by simpa using natLt hh3.1 hh3.2) rfl (ltb rfl) ?_)
         refine ⟨_, _, rfl, ?_⟩
         refine WalkP.step (p := ?pv3824) 14 rfl rfl rfl rfl rfl (⟨_, _, rfl, rfl, ⟨_, _, rfl, rfl, rfl⟩⟩) ?hv3824 ?rest3824
         case hv3824 =>
          intro E1 H1 hI1
          refine (V1.indexSr rfl rfl esz_78 rfl rfl hh5 (ltb rfl) ?_)
          exact rfl
         refine WalkP.nil ?_
         refine NodeS.branch [15] inNil rfl rfl rfl ⟨?_, trivial⟩
         ·
          refine ⟨_, _, _, _, rfl, rfl, rfl, (⟨_, _, rfl, rfl, ⟨_, _, rfl, rfl, rfl⟩⟩), fun E1 => ?_⟩
          refine (V1.storeMap (k := 0) (f := encFile) (x := (data3.getD (Int.toNat (IntKind.i64.wrap (j_ - (1 : Int)))) default)) rfl rfl tyk_93 rfl rfl (by simpa using natLt hh5.1 hh5.2) rfl rfl ?_)
          refine ⟨.undef, _, rfl, ?_⟩
          refine WalkP.nil ?_
          refine NodeS.fin inNil rfl rfl rfl (⟨_, _, rfl, rfl, ⟨_, _, rfl, rfl, ⟨_, _, rfl, rfl, ⟨_, _, rfl, rfl, ⟨_, _, rfl, rfl, ⟨_, _, rfl, rfl, ⟨_, _, rfl, rfl, ⟨_, _, rfl, rfl, ⟨_, _, rfl, rfl, rfl⟩⟩⟩⟩⟩⟩⟩⟩⟩) ?_
          refine VO.weakenK (Keeps.say 0 (y := .sref oq 7 0 (List.length (data3.set (Int.toNat j_) (data3.getD (Int.toNat (IntKind.i64.wrap (j_ - (1 : Int)))) default)))) rfl (by simp [optS])) ?_
          refine VO.weakenK (Keeps.say 39 (y := .sref oq 7 0 (List.length (data3.set (Int.toNat j_) (data3.getD (Int.toNat (IntKind.i64.wrap (j_ - (1 : Int)))) default)))) rfl (by simp [optS])) ?_
          refine VO.cons rfl (V1.indexSr rfl rfl esz_78 rfl rfl hh6 (ltb rfl) ?_)
          refine VO.cons rfl (V1.storeMap (k := 0) (f := encFile) (x := (data3.getD (Int.toNat j_) default)) rfl rfl tyk_93 rfl rfl (by simpa using natLt hh6.1 hh6.2) rfl rfl ?_)
          refine VO.weakenK (Keeps.say 0 (y := .sref oq 7 0 (List.length ((data3.set (Int.toNat j_) (data3.getD (Int.toNat (IntKind.i64.wrap (j_ - (1 : Int)))) default)).set (Int.toNat (IntKind.i64.wrap (j_ - (1 : Int)))) (data3.getD (Int.toNat j_) default)))) rfl (by simp [optS])) ?_
          refine VO.nil ?_
          exact ⟨(((data3.set (Int.toNat j_) (data3.getD (Int.toNat (IntKind.i64.wrap (j_ - (1 : Int)))) default)).set (Int.toNat (IntKind.i64.wrap (j_ - (1 : Int)))) (data3.getD (Int.toNat j_) default)), ()), Option.some.inj hm3, Keeps.mk (ks := [0]) rfl ⟨(someSref (by simp)), rfl, rfl, rfl, rfl, rfl, trivial⟩ (⟨_, _, rfl, rfl, rfl⟩) rfl⟩
      ·
       rintro ⟨data4, _⟩ rfl
       try dsimp only at hm2
       refine V.region ?_
       refine VO.cons rfl (V1.move rfl rfl rfl (ltb rfl) ?_)
       refine VO.cons rfl (V1.int rfl rfl rfl rfl rfl (ltb rfl) ?_)
       refine VO.cons rfl (V1.assign rfl rfl rfl (ltb rfl) ?_)
       refine VO.nil ?_
       exact ⟨(m1, (data4, (IntKind.i64.wrap (j_ - (1 : Int)))), ()), hl2 _ (Option.some.inj hm2).symm, Nat.lt_succ_self _, Keeps.mk (ks := [0]) rfl ⟨(someSref (by simp)), rfl, rfl, rfl, rfl, rfl, trivial⟩ (⟨_, _, rfl, rfl, rfl⟩) rfl⟩
     ·
      replace hm2 := cond_f hc1 hm2
      refine V.exit ?_
      obtain rfl := hr2 _ (Option.some.inj hm2).symm
      exact ⟨(data3, ()), rfl, Keeps.mk (ks := [0]) rfl ⟨(someSref (by simp)), rfl, rfl, rfl, rfl, trivial⟩ (⟨_, _, rfl, rfl, rfl⟩) rfl⟩
    ·
     rintro ⟨data2, _⟩ rfl
     try dsimp only at hm1
     refine V.region ?_
     refine VO.cons rfl (V1.move rfl rfl rfl (ltb rfl) ?_)
     refine VO.cons rfl (V1.int rfl rfl rfl rfl rfl (ltb rfl) ?_)
     refine VO.cons rfl (V1.assign rfl rfl rfl (ltb rfl) ?_)
     refine VO.nil ?_
     exact ⟨(m0, (data2, (IntKind.i64.wrap (i + (1 : Int)))), ()), hl1 _ (Option.some.inj hm1).symm, Nat.lt_succ_self _, Keeps.mk (ks := [0]) rfl ⟨(someSref (by simp)), rfl, rfl, rfl, rfl, trivial⟩ (⟨_, _, rfl, rfl, rfl⟩) rfl⟩
   ·
    replace hm1 := cond_f hc0 hm1
    refine V.exit ?_
    obtain rfl := hr1 _ (Option.some.inj hm1).symm
    exact ⟨(data1, ()), rfl, Keeps.mk (ks := [0]) rfl ⟨(someSref (by simp)), trivial⟩ (⟨_, _, rfl, rfl, rfl⟩) rfl⟩
  ·
   rintro ⟨data0, _⟩ rfl
   try dsimp only at hm0
   obtain rfl := Option.some.inj hm0
   exact ⟨_, _, rfl, (sub1 (k := 0) rfl), rfl, rfl⟩

theorem ok_slices_stableCmpFunc_impl_File {rn : Nat} {oq : Option Nat} {data : List File} {n : Int} {f2 : Nat} {cs2 : List PV} {r : List File} {fm : File → File → Option Int} (h : M.slices_stableCmpFunc_impl_File data n fm = some r) (hoq : oq = none → data = []) (hok2 : callOK Tryd.prog f2 = true) (hf2 : ∀ x0 x1 r, fm x0 x1 = some r → Does Tryd.prog f2 (encFile x0 :: encFile x1 :: cs2) [] rn (fun x H => x = .int .i64 r ∧ H = [])) : Does Tryd.prog 281 [optS 7 oq (List.length data), .int .i64 n, .fn f2 cs2] (optH 7 oq (List.map encFile data)) rn (fun x H => x = .tup [] ∧ H = optH 7 oq (List.map encFile r)) := by
 have hm0 := h; clear h; unfold M.slices_stableCmpFunc_impl_File at hm0
 try dsimp only at hm0
 refine Does.intro (N := 63) Tryd.func281 rfl rfl rfl rfl ?_
 intro w0 S0
 rcases oq with _ | oq
 ·
  refine V.seq ?_
  refine V.region ?_
  refine VO.cons rfl (V1.assign rfl rfl rfl (ltb rfl) ?_)
  refine VO.nil ?_
  refine V.seq ?_
  refine V.region ?_
  refine VO.cons rfl (V1.move rfl rfl rfl (ltb rfl) ?_)
  refine VO.cons rfl (V1.assign rfl rfl rfl (ltb rfl) ?_)
  refine VO.cons rfl (V1.assign rfl rfl rfl (ltb rfl) ?_)
  refine VO.nil ?_
  refine V.seq ?_
  replace hm0 := bindO hm0; rcases hm0 with ⟨e0, he1, hm0⟩
  refine V.cutT (D := (Int) × (Unit)) (fun ⟨a, _⟩ => ⟨63, [(7, .int .i64 a), (0, .nils), (1, .int .i64 n), (2, .fn f2 cs2), (6, .int .i64 (20 : Int))], []⟩) (fun ⟨a, _⟩ => (a = e0)) ?_ ?_
  ·
   refine V.block ?_
   refine V.keep 63 [7, 8, 0, 1, 2, 6] [] (E0 := [(7, .int .i64 (0 : Int)), (8, .int .i64 (20 : Int)), (0, .nils), (1, .int .i64 n), (2, .fn f2 cs2), (6, .int .i64 (20 : Int))]) (H0 := []) rfl (⟨_, _, rfl, rfl, ⟨_, _, rfl, rfl, ⟨_, _, rfl, rfl, ⟨_, _, rfl, rfl, ⟨_, _, rfl, rfl, ⟨_, _, rfl, rfl, rfl⟩⟩⟩⟩⟩⟩) (rfl) rfl ?_
   refine V.loopE (D := Nat × (Int × Int) × (Unit)) (fun ⟨n0, ⟨a0, b_⟩, _⟩ => [(7, .int .i64 a0), (8, .int .i64 b_)]) (fun ⟨n0, ⟨a0, b_⟩, _⟩ => []) (fun ⟨n0, ⟨a0, b_⟩, _⟩ => loopO (M.slices_stableCmpFunc_impl_File_l0 n) n0 (a0, b_) = some e0) (fun ⟨n0, _, _⟩ => n0) (rounds, ((0 : Int), (20 : Int)), ()) rfl he1 ?_
   rintro ⟨n0, ⟨a0, b_⟩, _⟩ hP0
   obtain ⟨m0, y0, rfl, hm1, hl1, hr1⟩ := loop_head hP0
   unfold M.slices_stableCmpFunc_impl_File_l0 at hm1; dsimp only at hm1
   show V _ _ _ ⟨63, [(7, .int .i64 a0), (8, .int .i64 b_), (0, .nils), (1, .int .i64 n), (2, .fn f2 cs2), (6, .int .i64 (20 : Int))], []⟩
   refine V.seq ?_
   refine V.seq ?_
   refine V.region ?_
   refine VO.cons rfl (V1.move rfl rfl rfl (ltb rfl) ?_)
   refine VO.cons rfl (V1.move rfl rfl rfl (ltb rfl) ?_)
   refine VO.cons rfl (V1.int rfl rfl rfl rfl rfl (ltb rfl) ?_)
   refine VO.nil ?_
   replace hm1 := asrt_some hm1; rcases hm1 with ⟨hh0, hm1⟩
   refine V.cond rfl (fun hc => by rw [hh0] at hc; cases hc) (fun _ => ?_)
   refine V.exit ?_
   obtain rfl := hr1 _ (Option.some.inj hm1).symm
   exact ⟨(a0, ()), rfl, Keeps.mk (ks := []) rfl ⟨rfl, rfl, rfl, rfl, rfl, trivial⟩ (rfl) rfl⟩
  ·
   rintro ⟨a, _⟩ rfl
   try dsimp only at hm0
   refine V.seq ?_
   replace hm0 := bindO hm0; rcases hm0 with ⟨y1, hh1, hm0⟩
   replace hm0 := asrt_some hm0; rcases hm0 with ⟨hh2, hm0⟩
   refine V.region ?_
   refine VO.cons rfl (V1.move rfl rfl rfl (ltb rfl) ?_)
   refine VO.cons rfl (V1.move rfl rfl rfl (ltb rfl) ?_)
   refine VO.cons rfl (V1.move rfl rfl rfl (ltb rfl) ?_)
   refine VO.cons rfl (V1.move rfl rfl rfl (ltb rfl) ?_)
   refine VO.cons rfl (V1.call rfl rfl rfl cok_310 rfl (ok_slices_insertionSortCmpFunc_impl_File hh1 (oq := none) (data := data) (fun _ => (hoq rfl)) (fm := fm) hok2 hf2) rfl (ltb rfl) ?_)
   rintro _ _ ⟨rfl, rfl⟩
   refine VO.nil ?_
   refine V.keep 63 [0, 1, 2, 6] [] (E0 := [(0, .nils), (1, .int .i64 n), (2, .fn f2 cs2), (6, .int .i64 (20 : Int))]) (H0 := []) rfl (⟨_, _, rfl, rfl, ⟨_, _, rfl, rfl, ⟨_, _, rfl, rfl, ⟨_, _, rfl, rfl, rfl⟩⟩⟩⟩) (rfl) rfl ?_
   replace hm0 := bindO hm0; rcases hm0 with ⟨e1, he1, hm0⟩
   refine V.cutT (D := (Unit) × (Unit)) (fun ⟨_, _⟩ => ⟨63, [(0, .nils)], []⟩) (fun ⟨_, _⟩ => (() = e1)) ?_ ?_
   ·
    refine V.block ?_
    refine V.keep 63 [6, 0, 1, 2] [] (E0 := [(6, .int .i64 (20 : Int)), (0, .nils), (1, .int .i64 n), (2, .fn f2 cs2)]) (H0 := []) rfl (⟨_, _, rfl, rfl, ⟨_, _, rfl, rfl, ⟨_, _, rfl, rfl, ⟨_, _, rfl, rfl, rfl⟩⟩⟩⟩) (rfl) rfl ?_
    refine V.loopE (D := Nat × (Int) × (Unit)) (fun ⟨n1, blockSize, _⟩ => [(6, .int .i64 blockSize)]) (fun ⟨n1, blockSize, _⟩ => []) (fun ⟨n1, blockSize, _⟩ => loopO (M.slices_stableCmpFunc_impl_File_l1 n) n1 blockSize = some e1) (fun ⟨n1, _, _⟩ => n1) (rounds, (20 : Int), ()) rfl he1 ?_
    rintro ⟨n1, blockSize, _⟩ hP1
    obtain ⟨m1, y2, rfl, hm1, hl1, hr1⟩ := loop_head hP1
    unfold M.slices_stableCmpFunc_impl_File_l1 at hm1; dsimp only at hm1
    show V _ _ _ ⟨63, [(6, .int .i64 blockSize), (0, .nils), (1, .int .i64 n), (2, .fn f2 cs2)], []⟩
    refine V.seq ?_
    refine V.seq ?_
    refine V.region ?_
    refine VO.cons rfl (V1.move rfl rfl rfl (ltb rfl) ?_)
    refine VO.cons rfl (V1.move rfl rfl rfl (ltb rfl) ?_)
    refine VO.cons rfl (V1.int rfl rfl rfl rfl rfl (ltb rfl) ?_)
    refine VO.nil ?_
    replace hm1 := asrt_some hm1; rcases hm1 with ⟨hh3, hm1⟩
    refine V.cond rfl (fun hc => by rw [hh3] at hc; cases hc) (fun _ => ?_)
    refine V.exit ?_
    obtain rfl := hr1 _ (Option.some.inj hm1).symm
    exact ⟨((), ()), rfl, Keeps.mk (ks := []) rfl ⟨rfl, trivial⟩ (rfl) rfl⟩
   ·
    rintro ⟨_, _⟩ rfl
    try dsimp only at hm0
    obtain rfl := Option.some.inj hm0
    exact ⟨_, [], rfl, List.nil_sublist _, rfl, rfl⟩
 ·
  refine V.seq ?_
  refine V.region ?_
  refine VO.cons rfl (V1.assign rfl rfl rfl (ltb rfl) ?_)
  refine VO.nil ?_
  refine V.seq ?_
  refine V.region ?_
  refine VO.cons rfl (V1.move rfl rfl rfl (ltb rfl) ?_)
  refine VO.cons rfl (V1.assign rfl rfl rfl (ltb rfl) ?_)
  refine VO.cons rfl (V1.assign rfl rfl rfl (ltb rfl) ?_)
  refine VO.nil ?_
  refine V.seq ?_
  replace hm0 := bindO hm0; rcases hm0 with ⟨e0, he1, hm0⟩
  refine V.cutT (D := (Int) × (Unit)) (fun ⟨a, _⟩ => ⟨63, [(7, .int .i64 a), (0, .sref oq 7 0 (List.length data)), (1, .int .i64 n), (2, .fn f2 cs2), (6, .int .i64 (20 : Int))], [(oq, ⟨7, List.map encFile data⟩)]⟩) (fun ⟨a, _⟩ => (a = e0)) ?_ ?_
  ·
   refine V.block ?_
   refine V.keep 63 [7, 8, 0, 1, 2, 6] [0] (E0 := [(7, .int .i64 (0 : Int)), (8, .int .i64 (20 : Int)), (0, .sref oq 7 0 (List.length data)), (1, .int .i64 n), (2, .fn f2 cs2), (6, .int .i64 (20 : Int))]) (H0 := [(oq, ⟨7, List.map encFile data⟩)]) rfl (⟨_, _, rfl, rfl, ⟨_, _, rfl, rfl, ⟨_, _, rfl, rfl, ⟨_, _, rfl, rfl, ⟨_, _, rfl, rfl, ⟨_, _, rfl, rfl, rfl⟩⟩⟩⟩⟩⟩) (⟨_, _, rfl, rfl, rfl⟩) rfl ?_
   refine V.loopE (D := Nat × (Int × Int) × (Unit)) (fun ⟨n0, ⟨a0, b_⟩, _⟩ => [(7, .int .i64 a0), (8, .int .i64 b_)]) (fun ⟨n0, ⟨a0, b_⟩, _⟩ => []) (fun ⟨n0, ⟨a0, b_⟩, _⟩ => loopO (M.slices_stableCmpFunc_impl_File_l0 n) n0 (a0, b_) = some e0) (fun ⟨n0, _, _⟩ => n0) (rounds, ((0 : Int), (20 : Int)), ()) rfl he1 ?_
   rintro ⟨n0, ⟨a0, b_⟩, _⟩ hP0
   obtain ⟨m0, y0, rfl, hm1, hl1, hr1⟩ := loop_head hP0
   unfold M.slices_stableCmpFunc_impl_File_l0 at hm1; dsimp only at hm1
   show V _ _ _ ⟨63, [(7, .int .i64 a0), (8, .int .i64 b_), (0, .sref oq 7 0 (List.length data)), (1, .int .i64 n), (2, .fn f2 cs2), (6, .int .i64 (20 : Int))], [(oq, ⟨7, List.map encFile data⟩)]⟩
   refine V.seq ?_
   refine V.seq ?_
   refine V.region ?_
   refine VO.cons rfl (V1.move rfl rfl rfl (ltb rfl) ?_)
   refine VO.cons rfl (V1.move rfl rfl rfl (ltb rfl) ?_)
   refine VO.cons rfl (V1.int rfl rfl rfl rfl rfl (ltb rfl) ?_)
   refine VO.nil ?_
   replace hm1 := asrt_some hm1; rcases hm1 with ⟨hh0, hm1⟩
   refine V.cond rfl (fun hc => by rw [hh0] at hc; cases hc) (fun _ => ?_)
   refine V.exit ?_
   obtain rfl := hr1 _ (Option.some.inj hm1).symm
   exact ⟨(a0, ()), rfl, Keeps.mk (ks := [0]) rfl ⟨rfl, rfl, rfl, rfl, rfl, trivial⟩ (⟨_, _, rfl, rfl, rfl⟩) rfl⟩
  ·
   rintro ⟨a, _⟩ rfl
   try dsimp only at hm0
   refine V.seq ?_
   replace hm0 := bindO hm0; rcases hm0 with ⟨y1, hh1, hm0⟩
   replace hm0 := asrt_some hm0; rcases hm0 with ⟨hh2, hm0⟩
   refine V.region ?_
   refine VO.cons rfl (V1.move rfl rfl rfl (ltb rfl) ?_)
   refine VO.cons rfl (V1.move rfl rfl rfl (ltb rfl) ?_)
   refine VO.cons rfl (V1.move rfl rfl rfl (ltb rfl) ?_)
   refine VO.cons rfl (V1.move rfl rfl rfl (ltb rfl) ?_)
   refine VO.cons rfl (V1.callM 0 (rn + 1) [] [.sref oq 7 0 (List.length data), .int .i64 a, .int .i64 n, .fn f2 cs2] (p := (oq, ⟨7, List.map encFile data⟩)) rfl rfl rfl cok_310 rfl rfl ⟨_, _, rfl, .same _, ⟨_, _, rfl, .same _, ⟨_, _, rfl, .same _, ⟨_, _, rfl, .same _, rfl⟩⟩⟩⟩ bwNil (ok_slices_insertionSortCmpFunc_impl_File hh1 (oq := some oq) (fun e => by cases e) (fm := fm) hok2 hf2) rfl (.inl rfl) (ltb rfl) ?_)
   rintro _ _ ⟨rfl, rfl⟩
   refine VO.weakenK (Keeps.say 0 (y := .sref oq 7 0 (List.length y1)) rfl (congrArg (PV.sref oq 7 0) hh2.symm)) ?_
   refine VO.nil ?_
   refine V.keep 63 [0, 1, 2, 6] [0] (E0 := [(0, .sref oq 7 0 (List.length y1)), (1, .int .i64 n), (2, .fn f2 cs2), (6, .int .i64 (20 : Int))]) (H0 := [(oq, ⟨7, List.map encFile y1⟩)]) rfl (⟨_, _, rfl, rfl, ⟨_, _, rfl, rfl, ⟨_, _, rfl, rfl, ⟨_, _, rfl, rfl, rfl⟩⟩⟩⟩) (⟨_, _, rfl, rfl, rfl⟩) rfl ?_
   replace hm0 := bindO hm0; rcases hm0 with ⟨e1, he1, hm0⟩
   refine V.cutT (D := (Unit) × (Unit)) (fun ⟨_, _⟩ => ⟨63, [(0, .sref oq 7 0 (List.length y1))], [(oq, ⟨7, List.map encFile y1⟩)]⟩) (fun ⟨_, _⟩ => (() = e1)) ?_ ?_
   ·
    refine V.block ?_
    refine V.keep 63 [6, 0, 1, 2] [0] (E0 := [(6, .int .i64 (20 : Int)), (0, .sref oq 7 0 (List.length y1)), (1, .int .i64 n), (2, .fn f2 cs2)]) (H0 := [(oq, ⟨7, List.map encFile y1⟩)]) rfl (⟨_, _, rfl, rfl, ⟨_, _, rfl, rfl, ⟨_, _, rfl, rfl, ⟨_, _, rfl, rfl, rfl⟩⟩⟩⟩) (⟨_, _, rfl, rfl, rfl⟩) rfl ?_
    refine V.loopE (D := Nat × (Int) × (Unit)) (fun ⟨n1, blockSize, _⟩ => [(6, .int .i64 blockSize)]) (fun ⟨n1, blockSize, _⟩ => []) (fun ⟨n1, blockSize, _⟩ => loopO (M.slices_stableCmpFunc_impl_File_l1 n) n1 blockSize = some e1) (fun ⟨n1, _, _⟩ => n1) (rounds, (20 : Int), ()) rfl he1 ?_
    rintro ⟨n1, blockSize, _⟩ hP1
    obtain ⟨m1, y2, rfl, hm1, hl1, hr1⟩ := loop_head hP1
    unfold M.slices_stableCmpFunc_impl_File_l1 at hm1; dsimp only at hm1
    show V _ _ _ ⟨63, [(6, .int .i64 blockSize), (0, .sref oq 7 0 (List.length y1)), (1, .int .i64 n), (2, .fn f2 cs2)], [(oq, ⟨7, List.map encFile y1⟩)]⟩
    refine V.seq ?_
    refine V.seq ?_
    refine V.region ?_
    refine VO.cons rfl (V1.move rfl rfl rfl (ltb rfl) ?_)
    refine VO.cons rfl (V1.move rfl rfl rfl (ltb rfl) ?_)
    refine VO.cons rfl (V1.int rfl rfl rfl rfl rfl (ltb rfl) ?_)
    refine VO.nil ?_
    replace hm1 := asrt_some hm1; rcases hm1 with ⟨hh3, hm1⟩
    refine V.cond rfl (fun hc => by rw [hh3] at hc; cases hc) (fun _ => ?_)
    refine V.exit ?_
    obtain rfl := hr1 _ (Option.some.inj hm1).symm
    exact ⟨((), ()), rfl, Keeps.mk (ks := [0]) rfl ⟨rfl, trivial⟩ (⟨_, _, rfl, rfl, rfl⟩) rfl⟩
   ·
    rintro ⟨_, _⟩ rfl
    try dsimp only at hm0
    obtain rfl := Option.some.inj hm0
    exact ⟨_, _, rfl, (sub1 (k := 0) rfl), rfl, rfl⟩

theorem ok_slices_SortStableFunc_impl_File_impl_File {rn : Nat} {oq : Option Nat} {x : List File} {f1 : Nat} {cs1 : List PV} {r : List File} {fm : File → File → Option Int} (h : M.slices_SortStableFunc_impl_File_impl_File x fm = some r) (hoq : oq = none → x = []) (hok1 : callOK Tryd.prog f1 = true) (hf1 : ∀ x0 x1 r, fm x0 x1 = some r → Does Tryd.prog f1 (encFile x0 :: encFile x1 :: cs1) [] rn (fun x H => x = .int .i64 r ∧ H = [])) : Does Tryd.prog 208 [optS 7 oq (List.length x), .fn f1 cs1] (optH 7 oq (List.map encFile x)) rn (fun x H => x = .tup [] ∧ H = optH 7 oq (List.map encFile r)) := by
 have hm0 := h; clear h; unfold M.slices_SortStableFunc_impl_File_impl_File at hm0
 try dsimp only at hm0
 refine Does.intro (N := 9) Tryd.func208 rfl rfl rfl rfl ?_
 intro w0 S0
 rcases oq with _ | oq
 ·
  replace hm0 := bindO hm0; rcases hm0 with ⟨y0, hh0, hm0⟩
  replace hm0 := asrt_some hm0; rcases hm0 with ⟨hh1, hm0⟩
  refine V.region ?_
  refine VO.cons rfl (V1.move rfl rfl rfl (ltb rfl) ?_)
  refine VO.cons rfl (V1.move rfl rfl rfl (ltb rfl) ?_)
  refine VO.cons rfl (V1.lenNilsE (l := x) (hoq rfl) rfl rfl rfl rfl rfl rfl isl_78 (ltb rfl) ?_)
  refine VO.cons rfl (V1.move rfl rfl rfl (ltb rfl) ?_)
  refine VO.cons rfl (V1.call rfl rfl rfl cok_281 rfl (ok_slices_stableCmpFunc_impl_File hh0 (oq := none) (data := x) (fun _ => (hoq rfl)) (fm := fm) hok1 hf1) rfl (ltb rfl) ?_)
  rintro _ _ ⟨rfl, rfl⟩
  refine VO.nil ?_
  obtain rfl := Option.some.inj hm0
  exact ⟨_, [], rfl, List.nil_sublist _, rfl, rfl⟩
 ·
  replace hm0 := bindO hm0; rcases hm0 with ⟨y0, hh0, hm0⟩
  replace hm0 := asrt_some hm0; rcases hm0 with ⟨hh1, hm0⟩
  refine V.region ?_
  refine VO.cons rfl (V1.move rfl rfl rfl (ltb rfl) ?_)
  refine VO.cons rfl (V1.move rfl rfl rfl (ltb rfl) ?_)
  refine VO.cons rfl (V1.lenSref rfl rfl rfl rfl rfl rfl isl_78 (ltb rfl) ?_)
  refine VO.cons rfl (V1.move rfl rfl rfl (ltb rfl) ?_)
  refine VO.cons rfl (V1.callM 0 (rn + 1) [] [.sref oq 7 0 (List.length x), .int .i64 (x.length : Int), .fn f1 cs1] (p := (oq, ⟨7, List.map encFile x⟩)) rfl rfl rfl cok_281 rfl rfl ⟨_, _, rfl, .same _, ⟨_, _, rfl, .same _, ⟨_, _, rfl, .same _, rfl⟩⟩⟩ bwNil (ok_slices_stableCmpFunc_impl_File hh0 (oq := some oq) (fun e => by cases e) (fm := fm) hok1 hf1) rfl (.inl rfl) (ltb rfl) ?_)
  rintro _ _ ⟨rfl, rfl⟩
  refine VO.weakenK (Keeps.say 0 (y := .sref oq 7 0 (List.length y0)) rfl (congrArg (PV.sref oq 7 0) hh1.symm)) ?_
  refine VO.nil ?_
  obtain rfl := Option.some.inj hm0
  exact ⟨_, _, rfl, (sub1 (k := 0) rfl), rfl, rfl⟩

theorem ok_cmp_isNaN_int {rn : Nat} {x : Int} {r : Bool} (h : M.cmp_isNaN_int x = some r) : Does Tryd.prog 279 [.int .i64 x] [] rn (fun x H => x = .bool r ∧ H = []) := by
 have hm0 := h; clear h; unfold M.cmp_isNaN_int at hm0
 try dsimp only at hm0
 refine Does.intro (N := 6) Tryd.func279 rfl rfl rfl rfl ?_
 intro w0 S0
 refine V.seq ?_
 refine V.region ?_
 refine VO.cons rfl (V1.assign rfl rfl rfl (ltb rfl) ?_)
 refine VO.nil ?_
 refine V.seq ?_
 refine V.region ?_
 refine VO.cons rfl (V1.move rfl rfl rfl (ltb rfl) ?_)
 refine VO.cons rfl (V1.move rfl rfl rfl (ltb rfl) ?_)
 refine VO.cons rfl (V1.int rfl rfl rfl rfl rfl (ltb rfl) ?_)
 refine VO.cons rfl (V1.assign rfl rfl rfl (ltb rfl) ?_)
 refine VO.nil ?_
 refine V.ret ?_
 obtain rfl := Option.some.inj hm0
 exact ⟨_, [], ⟨_, _, rfl, rfl, rfl⟩, List.nil_sublist _, rfl, rfl⟩

theorem ok_cmp_Compare_int {rn : Nat} {x : Int} {y : Int} {r : Int} (h : M.cmp_Compare_int x y = some r) : Does Tryd.prog 194 [.int .i64 x, .int .i64 y] [] rn (fun x H => x = .int .i64 r ∧ H = []) := by
 have hm0 := h; clear h; unfold M.cmp_Compare_int at hm0
 try dsimp only at hm0
 refine Does.intro (N := 20) Tryd.func194 rfl rfl rfl rfl ?_
 intro w0 S0
 refine V.seq ?_
 refine V.region ?_
 refine VO.cons rfl (V1.assign rfl rfl rfl (ltb rfl) ?_)
 refine VO.nil ?_
 refine V.seq ?_
 replace hm0 := bindO hm0; rcases hm0 with ⟨y0, hh0, hm0⟩
 refine V.region ?_
 refine VO.cons rfl (V1.move rfl rfl rfl (ltb rfl) ?_)
 refine VO.cons rfl (V1.call rfl rfl rfl cok_279 rfl (ok_cmp_isNaN_int hh0) rfl (ltb rfl) ?_)
 rintro _ _ ⟨rfl, rfl⟩
 refine VO.cons rfl (V1.assign rfl rfl rfl (ltb rfl) ?_)
 refine VO.nil ?_
 refine V.seq ?_
 replace hm0 := bindO hm0; rcases hm0 with ⟨y1, hh1, hm0⟩
 refine V.region ?_
 refine VO.cons rfl (V1.move rfl rfl rfl (ltb rfl) ?_)
 refine VO.cons rfl (V1.call rfl rfl rfl cok_279 rfl (ok_cmp_isNaN_int hh1) rfl (ltb rfl) ?_)
 rintro _ _ ⟨rfl, rfl⟩
 refine VO.cons rfl (V1.assign rfl rfl rfl (ltb rfl) ?_)
 refine VO.nil ?_
 refine V.keep 20 [0, 1, 5, 6] [] (E0 := [(0, .int .i64 x), (1, .int .i64 y), (5, .bool y0), (6, .bool y1)]) (H0 := []) rfl (⟨_, _, rfl, rfl, ⟨_, _, rfl, rfl, ⟨_, _, rfl, rfl, ⟨_, _, rfl, rfl, rfl⟩⟩⟩⟩) (rfl) rfl ?_
 refine V.seq ?_
 refine V.seq ?_
 refine V.region ?_
 refine VO.cons rfl (V1.move rfl rfl rfl (ltb rfl) ?_)
 refine VO.nil ?_
 refine V.cond rfl (fun hc0 => ?_) (fun hc0 => ?_)
 ·
  replace hm0 := cond_t hc0 hm0
  refine V.seq ?_
  refine V.seq ?_
  refine V.region ?_
  refine VO.cons rfl (V1.move rfl rfl rfl (ltb rfl) ?_)
  refine VO.nil ?_
  refine V.keep 20 [12] [] (E0 := [(12, .bool y1)]) (H0 := []) rfl (⟨_, _, rfl, rfl, rfl⟩) (rfl) rfl ?_
  refine V.cond rfl (fun hc1 => ?_) (fun hc1 => ?_)
  ·
   replace hm0 := cond_t hc1 hm0
   refine V.seq ?_
   refine V.region ?_
   refine VO.cons rfl (V1.assign rfl rfl rfl (ltb rfl) ?_)
   refine VO.nil ?_
   refine V.ret ?_
   obtain rfl := Option.some.inj hm0
   exact ⟨_, [], ⟨_, _, rfl, rfl, rfl⟩, List.nil_sublist _, rfl, rfl⟩
  ·
   replace hm0 := cond_f hc1 hm0
   refine V.skip ?_
   refine V.seq ?_
   refine V.region ?_
   refine VO.cons rfl (V1.assign rfl rfl rfl (ltb rfl) ?_)
   refine VO.nil ?_
   refine V.ret ?_
   obtain rfl := Option.some.inj hm0
   exact ⟨_, [], ⟨_, _, rfl, rfl, rfl⟩, List.nil_sublist _, rfl, rfl⟩
 ·
  replace hm0 := cond_f hc0 hm0
  refine V.skip ?_
  refine V.seq ?_
  refine V.seq ?_
  refine V.region ?_
  refine VO.cons rfl (V1.move rfl rfl rfl (ltb rfl) ?_)
  refine VO.nil ?_
  refine V.cond rfl (fun hc2 => ?_) (fun hc2 => ?_)
  ·
   replace hm0 := cond_t hc2 hm0
   refine V.seq ?_
   refine V.region ?_
   refine VO.cons rfl (V1.assign rfl rfl rfl (ltb rfl) ?_)
   refine VO.nil ?_
   refine V.ret ?_
   obtain rfl := Option.some.inj hm0
   exact ⟨_, [], ⟨_, _, rfl, rfl, rfl⟩, List.nil_sublist _, rfl, rfl⟩
  ·
   replace hm0 := cond_f hc2 hm0
   refine V.skip ?_
   refine V.keep 20 [0, 1] [] (E0 := [(0, .int .i64 x), (1, .int .i64 y)]) (H0 := []) rfl (⟨_, _, rfl, rfl, ⟨_, _, rfl, rfl, rfl⟩⟩) (rfl) rfl ?_
   refine V.seq ?_
   refine V.seq ?_
   refine V.region ?_
   refine VO.cons rfl (V1.move rfl rfl rfl (ltb rfl) ?_)
   refine VO.cons rfl (V1.move rfl rfl rfl (ltb rfl) ?_)
   refine VO.cons rfl (V1.int rfl rfl rfl rfl rfl (ltb rfl) ?_)
   refine VO.nil ?_
   refine V.cond rfl (fun hc3 => ?_) (fun hc3 => ?_)
   ·
    replace hm0 := cond_t hc3 hm0
    refine V.seq ?_
    refine V.region ?_
    refine VO.cons rfl (V1.assign rfl rfl rfl (ltb rfl) ?_)
    refine VO.nil ?_
    refine V.ret ?_
    obtain rfl := Option.some.inj hm0
    exact ⟨_, [], ⟨_, _, rfl, rfl, rfl⟩, List.nil_sublist _, rfl, rfl⟩
   ·
    replace hm0 := cond_f hc3 hm0
    refine V.skip ?_
    refine V.seq ?_
    refine V.seq ?_
    refine V.region ?_
    refine VO.cons rfl (V1.move rfl rfl rfl (ltb rfl) ?_)
    refine VO.cons rfl (V1.move rfl rfl rfl (ltb rfl) ?_)
    refine VO.cons rfl (V1.int rfl rfl rfl rfl rfl (ltb rfl) ?_)
    refine VO.nil ?_
    refine V.keep 20 [19] [] (E0 := [(19, .bool (decide (x > y)))]) (H0 := []) rfl (⟨_, _, rfl, rfl, rfl⟩) (rfl) rfl ?_
    refine V.cond rfl (fun hc4 => ?_) (fun hc4 => ?_)
    ·
     replace hm0 := cond_t hc4 hm0
     refine V.seq ?_
     refine V.region ?_
     refine VO.cons rfl (V1.assign rfl rfl rfl (ltb rfl) ?_)
     refine VO.nil ?_
     refine V.ret ?_
     obtain rfl := Option.some.inj hm0
     exact ⟨_, [], ⟨_, _, rfl, rfl, rfl⟩, List.nil_sublist _, rfl, rfl⟩
    ·
     replace hm0 := cond_f hc4 hm0
     refine V.skip ?_
     refine V.seq ?_
     refine V.region ?_
     refine VO.cons rfl (V1.assign rfl rfl rfl (ltb rfl) ?_)
     refine VO.nil ?_
     refine V.ret ?_
     obtain rfl := Option.some.inj hm0
     exact ⟨_, [], ⟨_, _, rfl, rfl, rfl⟩, List.nil_sublist _, rfl, rfl⟩

theorem ok_impl_ClosedSince_1 {rn : Nat} {a : File} {b_ : File} {r : Int} (h : M.impl_ClosedSince_1 a b_ = some r) : Does Tryd.prog 209 [encFile a, encFile b_] [] rn (fun x H => x = .int .i64 r ∧ H = []) := by
 have hm0 := h; clear h; unfold M.impl_ClosedSince_1 at hm0
 try dsimp only at hm0
 refine Does.intro (N := 10) Tryd.func209 rfl rfl rfl rfl ?_
 intro w0 S0
 refine V.seq ?_
 refine V.region ?_
 refine VO.cons rfl (V1.boxN (n := 7) rfl rfl rfl rfl rfl (ltb rfl) ?_)
 intro b0
 refine VO.cons rfl (V1.boxN (n := 7) rfl rfl rfl rfl rfl (ltb rfl) ?_)
 intro b1
 refine VO.cons rfl (V1.assign rfl rfl rfl (ltb rfl) ?_)
 refine VO.nil ?_
 refine V.seq ?_
 replace hm0 := bindO hm0; rcases hm0 with ⟨y0, hh0, hm0⟩
 refine V.region ?_
 refine VO.cons rfl (V1.fieldRef rfl rfl fo_93_4 rfl (ltb rfl) ?_)
 refine VO.cons rfl (V1.loadRef (k := 1) rfl rfl tyk_3 rfl rfl rfl rfl rfl (ltb rfl) ?_)
 refine VO.cons rfl (V1.fieldRef rfl rfl fo_93_4 rfl (ltb rfl) ?_)
 refine VO.cons rfl (V1.loadRef (k := 0) rfl rfl tyk_3 rfl rfl rfl rfl rfl (ltb rfl) ?_)
 refine VO.cons rfl (V1.call rfl rfl rfl cok_194 rfl (ok_cmp_Compare_int hh0) rfl (ltb rfl) ?_)
 rintro _ _ ⟨rfl, rfl⟩
 refine VO.cons rfl (V1.assign rfl rfl rfl (ltb rfl) ?_)
 refine VO.nil ?_
 refine V.ret ?_
 obtain rfl := Option.some.inj hm0
 exact ⟨_, [], ⟨_, _, rfl, rfl, rfl⟩, List.nil_sublist _, rfl, rfl⟩

theorem ok_impl_ClosedSince {ρ0 rn : Nat} {list : List File} {from_ : Int} {to_ : Int} {r : List Int × Bool} (h : M.impl_ClosedSince list from_ to_ = some r) : Does Tryd.prog 67 [.vl ρ0 7 (List.map encFile list), .int .i64 from_, .int .i64 to_] [] rn (fun x H => ∃ (ob0_ : Option Nat), (ob0_ = none → r.1 = []) ∧ x = .tup [optS 1 ob0_ (List.length r.1), .bool r.2] ∧ H = optH 1 ob0_ (List.map encInt r.1)) := by
 have hm0 := h; clear h; unfold M.impl_ClosedSince at hm0
 try dsimp only at hm0
 refine Does.intro (N := 59) Tryd.func67 rfl rfl rfl rfl ?_
 intro w0 S0
 refine V.seq ?_
 refine V.region ?_
 refine VO.cons rfl (V1.assign rfl rfl rfl (ltb rfl) ?_)
 refine VO.cons rfl (V1.assign rfl rfl rfl (ltb rfl) ?_)
 refine VO.nil ?_
 refine V.seq ?_
 refine V.seq ?_
 replace hm0 := bindO hm0; rcases hm0 with ⟨y0, hh0, hm0⟩
 replace hm0 := bindO hm0; rcases hm0 with ⟨y1, hh1, hm0⟩
 refine V.region ?_
 refine VO.cons rfl (V1.move rfl rfl rfl (ltb rfl) ?_)
 refine VO.cons rfl (V1.call rfl rfl rfl cok_83 rfl (ok_impl_AreFiles hh0) rfl (ltb rfl) ?_)
 rintro _ _ ⟨rfl, rfl⟩
 refine VO.cons rfl (V1.not rfl rfl rfl (ltb rfl) ?_)
 refine VO.cons rfl (V1.move rfl rfl rfl (ltb rfl) ?_)
 apply VO.or (n := 4) rfl rfl rfl rfl rfl rfl (ltb rfl) (.none rfl)
 ·
  intro hg0
  refine VO.step (.some rfl rfl rfl) (V1.move rfl rfl rfl (ltb rfl) ?_)
  refine VO.step (.some rfl rfl rfl) (V1.move rfl rfl rfl (ltb rfl) ?_)
  refine VO.step (.some rfl rfl rfl) (V1.call rfl rfl rfl cok_204 rfl (ok_impl_areDays (cond_f hg0 hh1)) rfl (ltb rfl) ?_)
  rintro _ _ ⟨rfl, rfl⟩
  refine VO.step (.some rfl rfl rfl) (V1.not rfl rfl rfl (ltb rfl) ?_)
  exact VO.nil ⟨rfl, rfl, rfl, rfl, .inr ⟨rfl, .inr ⟨rfl, .inr ⟨rfl, .inr ⟨rfl, .inr ⟨rfl, .inl rfl⟩⟩⟩⟩⟩⟩
 refine VO.nil ?_
 refine V.keep 59 [0, 1, 2, 22] [] (E0 := [(0, .vl ρ0 7 (List.map encFile list)), (1, .int .i64 from_), (2, .int .i64 to_), (22, .bool ((!y0) || (!y1)))]) (H0 := []) rfl (⟨_, _, rfl, rfl, ⟨_, _, rfl, rfl, ⟨_, _, rfl, rfl, ⟨_, _, rfl, rfl, rfl⟩⟩⟩⟩) (rfl) rfl ?_
 refine V.cond rfl (fun hc0 => ?_) (fun hc0 => ?_)
 ·
  replace hm0 := cond_t hc0 hm0
  refine V.seq ?_
  refine V.region ?_
  refine VO.cons rfl (V1.assign rfl rfl rfl (ltb rfl) ?_)
  refine VO.cons rfl (V1.assign rfl rfl rfl (ltb rfl) ?_)
  refine VO.nil ?_
  refine V.keep 59 [6, 7] [] (E0 := [(6, .nils), (7, .bool false)]) (H0 := []) rfl (⟨_, _, rfl, rfl, ⟨_, _, rfl, rfl, rfl⟩⟩) (rfl) rfl ?_
  refine V.ret ?_
  obtain rfl := Option.some.inj hm0
  exact ⟨_, _, ⟨_, _, rfl, rfl, ⟨_, _, rfl, rfl, rfl⟩⟩, List.Sublist.refl _, none, (fun _ => rfl), rfl, rfl⟩
 ·
  replace hm0 := cond_f hc0 hm0
  refine V.skip ?_
  refine V.seq ?_
  refine V.region ?_
  refine VO.cons rfl (V1.assign rfl rfl rfl (ltb rfl) ?_)
  refine VO.nil ?_
  refine V.seq ?_
  refine V.seq ?_
  refine V.region ?_
  refine VO.cons rfl (V1.move rfl rfl rfl (ltb rfl) ?_)
  refine VO.cons rfl (V1.lenMap rfl rfl rfl rfl rfl rfl isl_78 (ltb rfl) ?_)
  refine VO.cons rfl (V1.move rfl rfl rfl (ltb rfl) ?_)
  refine VO.nil ?_
  replace hm0 := bindO hm0; rcases hm0 with ⟨e0, he1, hm0⟩
  refine V.cutT (D := (List File) × (Option Nat)) (fun ⟨closed, ob0⟩ => ⟨59, [(8, optS 7 ob0 (List.length closed))], optH 7 ob0 (List.map encFile closed)⟩) (fun ⟨closed, ob0⟩ => (closed = e0) ∧ (ob0 = none → closed = [])) ?_ ?_
  ·
   refine V.block ?_
   refine V.keep 59 [8, 25, 1, 2, 23, 24] [] (E0 := [(8, .nils), (25, .int .i64 (0 : Int)), (1, .int .i64 from_), (2, .int .i64 to_), (23, .vl ρ0 7 (List.map encFile list)), (24, .int .i64 (list.length : Int))]) (H0 := []) rfl (⟨_, _, rfl, rfl, ⟨_, _, rfl, rfl, ⟨_, _, rfl, rfl, ⟨_, _, rfl, rfl, ⟨_, _, rfl, rfl, ⟨_, _, rfl, rfl, rfl⟩⟩⟩⟩⟩⟩) (rfl) rfl ?_
   refine V.loopE (D := Nat × (List File × Int) × (Option Nat)) (fun ⟨n0, ⟨closed0, v⟩, ob1⟩ => [(8, optS 7 ob1 (List.length closed0)), (25, .int .i64 v)]) (fun ⟨n0, ⟨closed0, v⟩, ob1⟩ => optH 7 ob1 (List.map encFile closed0)) (fun ⟨n0, ⟨closed0, v⟩, ob1⟩ => loopO (M.impl_ClosedSince_l0 list from_ to_) n0 (closed0, v) = some e0 ∧ (ob1 = none → closed0 = [])) (fun ⟨n0, _, _⟩ => n0) (rounds, (([] : List File), (0 : Int)), none) rfl ⟨he1, (fun _ => rfl)⟩ ?_
   rintro ⟨n0, ⟨closed0, v⟩, ob1⟩ ⟨hP0, hob1⟩
   obtain ⟨m0, y2, rfl, hm1, hl1, hr1⟩ := loop_head hP0
   unfold M.impl_ClosedSince_l0 at hm1; dsimp only at hm1
   rcases ob1 with _ | ob1
   ·
    replace hob1 := hob1 rfl
    show V _ _ _ ⟨59, [(8, .nils), (25, .int .i64 v), (1, .int .i64 from_), (2, .int .i64 to_), (23, .vl ρ0 7 (List.map encFile list)), (24, .int .i64 (list.length : Int))], []⟩
    refine V.seq ?_
    refine V.region ?_
    refine VO.cons rfl (V1.int rfl rfl rfl rfl rfl (ltb rfl) ?_)
    refine VO.nil ?_
    refine V.seq ?_
    refine V.cond rfl (fun hc1 => ?_) (fun hc1 => ?_)
    ·
     replace hm1 := cond_t hc1 hm1
     refine V.skip ?_
     refine V.seq ?_
     replace hm1 := bindO hm1; rcases hm1 with ⟨j0, hm2, hm1⟩
     refine V.cutT (D := (List File) × (Option Nat)) (fun ⟨closed1, ob2⟩ => ⟨59, [(8, optS 7 ob2 (List.length closed1)), (1, .int .i64 from_), (2, .int .i64 to_), (23, .vl ρ0 7 (List.map encFile list)), (24, .int .i64 (list.length : Int)), (25, .int .i64 v)], optH 7 ob2 (List.map encFile closed1)⟩) (fun ⟨closed1, ob2⟩ => (closed1 = j0) ∧ (ob2 = none → closed1 = [])) ?_ ?_
     ·
      refine V.block ?_
      refine V.seq ?_
      replace hm2 := asrt_some hm2; rcases hm2 with ⟨hh2, hm2⟩
      refine V.region ?_
      refine VO.cons rfl (V1.indexI rfl rfl esz_78 rfl rfl hh2 (ltb rfl) ?_)
      refine VO.cons rfl (V1.loadPinAll rfl rfl tyk_93 rfl rfl (ltb rfl) ?_)
      refine VO.cons rfl (V1.alloc rfl rfl zk_93 (ltb rfl) ?_)
      intro b0
      refine VO.cons rfl (V1.storeRefAll (k := 0) rfl rfl tyk_93 rfl rfl rfl rfl rfl rfl ?_)
      refine VO.nil ?_
      refine V.seq ?_
      replace hm2 := bindO hm2; rcases hm2 with ⟨y3, hh3, hm2⟩
      refine V.region ?_
      refine VO.cons rfl (V1.fieldRef rfl rfl fo_93_5 rfl (ltb rfl) ?_)
      refine VO.cons rfl (V1.loadRef (k := 0) rfl rfl tyk_3 rfl rfl rfl rfl rfl (ltb rfl) ?_)
      refine VO.cons rfl (V1.int rfl rfl rfl rfl rfl (ltb rfl) ?_)
      refine VO.cons rfl (V1.move rfl rfl rfl (ltb rfl) ?_)
      apply VO.and (n := 5) rfl rfl rfl rfl rfl rfl (ltb rfl) (.none rfl)
      ·
       intro hg1
       refine VO.step (.some rfl rfl rfl) (V1.fieldRef rfl rfl fo_93_4 rfl (ltb rfl) ?_)
       refine VO.step (.some rfl rfl rfl) (V1.loadRef (k := 0) rfl rfl tyk_3 rfl rfl rfl rfl rfl (ltb rfl) ?_)
       refine VO.step (.some rfl rfl rfl) (V1.move rfl rfl rfl (ltb rfl) ?_)
       refine VO.step (.some rfl rfl rfl) (V1.move rfl rfl rfl (ltb rfl) ?_)
       refine VO.step (.some rfl rfl rfl) (V1.call rfl rfl rfl cok_168 rfl (ok_impl_within (cond_t hg1 hh3)) rfl (ltb rfl) ?_)
       rintro _ _ ⟨rfl, rfl⟩
       exact VO.nil ⟨rfl, rfl, rfl, rfl, .inr ⟨rfl, .inr ⟨rfl, .inr ⟨rfl, .inr ⟨rfl, .inr ⟨rfl, .inr ⟨rfl, .inl rfl⟩⟩⟩⟩⟩⟩⟩
      refine VO.nil ?_
      refine V.keep 59 [1, 2, 8, 10, 23, 24, 25, 38] [0] (E0 := [(1, .int .i64 from_), (2, .int .i64 to_), (8, .nils), (10, .ref b0 7 0 0), (23, .vl ρ0 7 (List.map encFile list)), (24, .int .i64 (list.length : Int)), (25, .int .i64 v), (38, .bool ((((list.getD (Int.toNat v) default).State) != (0 : Int)) && y3))]) (H0 := [(b0, ⟨7, [encFile (list.getD (Int.toNat v) default)]⟩)]) rfl (⟨_, _, rfl, rfl, ⟨_, _, rfl, rfl, ⟨_, _, rfl, rfl, ⟨_, _, rfl, rfl, ⟨_, _, rfl, rfl, ⟨_, _, rfl, rfl, ⟨_, _, rfl, rfl, ⟨_, _, rfl, rfl, rfl⟩⟩⟩⟩⟩⟩⟩⟩) (⟨_, _, rfl, rfl, rfl⟩) rfl ?_
      refine V.cond rfl (fun hc2 => ?_) (fun hc2 => ?_)
      ·
       replace hm2 := cond_t hc2 hm2
       replace hm2 := asrt_some hm2; rcases hm2 with ⟨hh4, hm2⟩
       refine V.region ?_
       refine VO.cons rfl (V1.move rfl rfl rfl (ltb rfl) ?_)
       refine VO.cons rfl (V1.loadRefAll (k := 0) rfl rfl tyk_93 rfl rfl rfl rfl rfl (ltb rfl) ?_)
       refine VO.cons rfl (V1.buildSliceT (f := encFile) ([(list.getD (Int.toNat v) default)] : List File) rfl rfl esz_78 zk_93 rfl rfl rfl rfl rfl rfl rfl (ltb rfl) ?_)
       intro b1
       refine VO.cons rfl (V1.appendNilE (f := encFile) (l := closed0) (m := ([(list.getD (Int.toNat v) default)] : List File)) hob1 rfl rfl rfl rfl rfl esz_78 eby_78 zk_93 rfl rfl rfl (SrcOf.srMap (k := 0) rfl isl_78) rfl hh4 (ltb rfl) ?_)
       intro b2
       refine VO.cons rfl (V1.assign rfl rfl rfl (ltb rfl) ?_)
       refine VO.nil ?_
       exact ⟨((closed0 ++ ([(list.getD (Int.toNat v) default)] : List File)), (some b2)), ⟨Option.some.inj hm2, (fun e => by cases e)⟩, Keeps.mk (ks := [0]) rfl ⟨rfl, rfl, rfl, rfl, rfl, rfl, trivial⟩ (⟨_, _, rfl, rfl, rfl⟩) rfl⟩
      ·
       replace hm2 := cond_f hc2 hm2
       refine V.skip ?_
       exact ⟨(closed0, none), ⟨Option.some.inj hm2, (fun _ => hob1)⟩, Keeps.mk (ks := []) rfl ⟨rfl, rfl, rfl, rfl, rfl, rfl, trivial⟩ (rfl) rfl⟩
     ·
      rintro ⟨closed1, ob2⟩ ⟨rfl, hob2⟩
      try dsimp only at hm1
      rcases ob2 with _ | ob2
      ·
       replace hob2 := hob2 rfl
       refine V.region ?_
       refine VO.cons rfl (V1.int rfl rfl rfl rfl rfl (ltb rfl) ?_)
       refine VO.cons rfl (V1.move rfl rfl rfl (ltb rfl) ?_)
       refine VO.nil ?_
       exact ⟨(m0, (closed1, (IntKind.i64.wrap (v + (1 : Int)))), none), ⟨hl1 _ (Option.some.inj hm1).symm, (fun _ => hob2)⟩, Nat.lt_succ_self _, Keeps.mk (ks := []) rfl ⟨rfl, rfl, rfl, rfl, rfl, rfl, trivial⟩ (rfl) rfl⟩
      ·
       refine V.region ?_
       refine VO.cons rfl (V1.int rfl rfl rfl rfl rfl (ltb rfl) ?_)
       refine VO.cons rfl (V1.move rfl rfl rfl (ltb rfl) ?_)
       refine VO.nil ?_
       exact ⟨(m0, (closed1, (IntKind.i64.wrap (v + (1 : Int)))), (some ob2)), ⟨hl1 _ (Option.some.inj hm1).symm, (fun e => by cases e)⟩, Nat.lt_succ_self _, Keeps.mk (ks := [0]) rfl ⟨rfl, rfl, rfl, rfl, rfl, rfl, trivial⟩ (⟨_, _, rfl, rfl, rfl⟩) rfl⟩
    ·
     replace hm1 := cond_f hc1 hm1
     refine V.exit ?_
     obtain rfl := hr1 _ (Option.some.inj hm1).symm
     exact ⟨(closed0, none), ⟨rfl, (fun _ => hob1)⟩, Keeps.mk (ks := []) rfl ⟨rfl, trivial⟩ (rfl) rfl⟩
   ·
    show V _ _ _ ⟨59, [(8, .sref ob1 7 0 (List.length closed0)), (25, .int .i64 v), (1, .int .i64 from_), (2, .int .i64 to_), (23, .vl ρ0 7 (List.map encFile list)), (24, .int .i64 (list.length : Int))], [(ob1, ⟨7, List.map encFile closed0⟩)]⟩
    refine V.seq ?_
    refine V.region ?_
    refine VO.cons rfl (V1.int rfl rfl rfl rfl rfl (ltb rfl) ?_)
    refine VO.nil ?_
    refine V.seq ?_
    refine V.cond rfl (fun hc1 => ?_) (fun hc1 => ?_)
    ·
     replace hm1 := cond_t hc1 hm1
     refine V.skip ?_
     refine V.seq ?_
     replace hm1 := bindO hm1; rcases hm1 with ⟨j0, hm2, hm1⟩
     refine V.cutT (D := (List File) × (Nat)) (fun ⟨closed1, b0⟩ => ⟨59, [(8, .sref b0 7 0 (List.length closed1)), (1, .int .i64 from_), (2, .int .i64 to_), (23, .vl ρ0 7 (List.map encFile list)), (24, .int .i64 (list.length : Int)), (25, .int .i64 v)], [(b0, ⟨7, List.map encFile closed1⟩)]⟩) (fun ⟨closed1, b0⟩ => (closed1 = j0)) ?_ ?_
     ·
      refine V.block ?_
      refine V.seq ?_
      replace hm2 := asrt_some hm2; rcases hm2 with ⟨hh2, hm2⟩
      refine V.region ?_
      refine VO.cons rfl (V1.indexI rfl rfl esz_78 rfl rfl hh2 (ltb rfl) ?_)
      refine VO.cons rfl (V1.loadPinAll rfl rfl tyk_93 rfl rfl (ltb rfl) ?_)
      refine VO.cons rfl (V1.alloc rfl rfl zk_93 (ltb rfl) ?_)
      intro b1
      refine VO.cons rfl (V1.storeRefAll (k := 0) rfl rfl tyk_93 rfl rfl rfl rfl rfl rfl ?_)
      refine VO.nil ?_
      refine V.seq ?_
      replace hm2 := bindO hm2; rcases hm2 with ⟨y3, hh3, hm2⟩
      refine V.region ?_
      refine VO.cons rfl (V1.fieldRef rfl rfl fo_93_5 rfl (ltb rfl) ?_)
      refine VO.cons rfl (V1.loadRef (k := 0) rfl rfl tyk_3 rfl rfl rfl rfl rfl (ltb rfl) ?_)
      refine VO.cons rfl (V1.int rfl rfl rfl rfl rfl (ltb rfl) ?_)
      refine VO.cons rfl (V1.move rfl rfl rfl (ltb rfl) ?_)
      apply VO.and (n := 5) rfl rfl rfl rfl rfl rfl (ltb rfl) (.none rfl)
      ·
       intro hg1
       refine VO.step (.some rfl rfl rfl) (V1.fieldRef rfl rfl fo_93_4 rfl (ltb rfl) ?_)
       refine VO.step (.some rfl rfl rfl) (V1.loadRef (k := 0) rfl rfl tyk_3 rfl rfl rfl rfl rfl (ltb rfl) ?_)
       refine VO.step (.some rfl rfl rfl) (V1.move rfl rfl rfl (ltb rfl) ?_)
       refine VO.step (.some rfl rfl rfl) (V1.move rfl rfl rfl (ltb rfl) ?_)
       refine VO.step (.some rfl rfl rfl) (V1.call rfl rfl rfl cok_168 rfl (ok_impl_within (cond_t hg1 hh3)) rfl (ltb rfl) ?_)
       rintro _ _ ⟨rfl, rfl⟩
       exact VO.nil ⟨rfl, rfl, rfl, rfl, .inr ⟨rfl, .inr ⟨rfl, .inr ⟨rfl, .inr ⟨rfl, .inr ⟨rfl, .inr ⟨rfl, .inl rfl⟩⟩⟩⟩⟩⟩⟩
      refine VO.nil ?_
      refine V.keep 59 [1, 2, 8, 10, 23, 24, 25, 38] [0, 1] (E0 := [(1, .int .i64 from_), (2, .int .i64 to_), (8, .sref ob1 7 0 (List.length closed0)), (10, .ref b1 7 0 0), (23, .vl ρ0 7 (List.map encFile list)), (24, .int .i64 (list.length : Int)), (25, .int .i64 v), (38, .bool ((((list.getD (Int.toNat v) default).State) != (0 : Int)) && y3))]) (H0 := [(b1, ⟨7, [encFile (list.getD (Int.toNat v) default)]⟩), (ob1, ⟨7, List.map encFile closed0⟩)]) rfl (⟨_, _, rfl, rfl, ⟨_, _, rfl, rfl, ⟨_, _, rfl, rfl, ⟨_, _, rfl, rfl, ⟨_, _, rfl, rfl, ⟨_, _, rfl, rfl, ⟨_, _, rfl, rfl, ⟨_, _, rfl, rfl, rfl⟩⟩⟩⟩⟩⟩⟩⟩) (⟨_, _, rfl, rfl, ⟨_, _, rfl, rfl, rfl⟩⟩) rfl ?_
      refine V.cond rfl (fun hc2 => ?_) (fun hc2 => ?_)
      ·
       replace hm2 := cond_t hc2 hm2
       replace hm2 := asrt_some hm2; rcases hm2 with ⟨hh4, hm2⟩
       refine V.region ?_
       refine VO.cons rfl (V1.move rfl rfl rfl (ltb rfl) ?_)
       refine VO.cons rfl (V1.loadRefAll (k := 0) rfl rfl tyk_93 rfl rfl rfl rfl rfl (ltb rfl) ?_)
       refine VO.cons rfl (V1.buildSliceT (f := encFile) ([(list.getD (Int.toNat v) default)] : List File) rfl rfl esz_78 zk_93 rfl rfl rfl rfl rfl rfl rfl (ltb rfl) ?_)
       intro b2
       refine VO.cons rfl (V1.appendMap (k := 2) (f := encFile) (l := closed0) (m := ([(list.getD (Int.toNat v) default)] : List File)) rfl rfl rfl rfl rfl esz_78 eby_78 zk_93 rfl rfl rfl (SrcOf.srMap (k := 0) rfl isl_78) hh4 (ltb rfl) ?_)
       intro b3
       refine VO.cons rfl (V1.assign rfl rfl rfl (ltb rfl) ?_)
       refine VO.nil ?_
       exact ⟨((closed0 ++ ([(list.getD (Int.toNat v) default)] : List File)), b3), Option.some.inj hm2, Keeps.mk (ks := [0]) rfl ⟨rfl, rfl, rfl, rfl, rfl, rfl, trivial⟩ (⟨_, _, rfl, rfl, rfl⟩) rfl⟩
      ·
       replace hm2 := cond_f hc2 hm2
       refine V.skip ?_
       exact ⟨(closed0, ob1), Option.some.inj hm2, Keeps.mk (ks := [1]) rfl ⟨rfl, rfl, rfl, rfl, rfl, rfl, trivial⟩ (⟨_, _, rfl, rfl, rfl⟩) rfl⟩
     ·
      rintro ⟨closed1, b0⟩ rfl
      try dsimp only at hm1
      refine V.region ?_
      refine VO.cons rfl (V1.int rfl rfl rfl rfl rfl (ltb rfl) ?_)
      refine VO.cons rfl (V1.move rfl rfl rfl (ltb rfl) ?_)
      refine VO.nil ?_
      exact ⟨(m0, (closed1, (IntKind.i64.wrap (v + (1 : Int)))), (some b0)), ⟨hl1 _ (Option.some.inj hm1).symm, (fun e => by cases e)⟩, Nat.lt_succ_self _, Keeps.mk (ks := [0]) rfl ⟨rfl, rfl, rfl, rfl, rfl, rfl, trivial⟩ (⟨_, _, rfl, rfl, rfl⟩) rfl⟩
    ·
     replace hm1 := cond_f hc1 hm1
     refine V.exit ?_
     obtain rfl := hr1 _ (Option.some.inj hm1).symm
     exact ⟨(closed0, (some ob1)), ⟨rfl, (fun e => by cases e)⟩, Keeps.mk (ks := [0]) rfl ⟨rfl, trivial⟩ (⟨_, _, rfl, rfl, rfl⟩) rfl⟩
  ·
   rintro ⟨closed, ob0⟩ ⟨rfl, hob0⟩
   try dsimp only at hm0
   rcases ob0 with _ | ob0
   ·
    replace hob0 := hob0 rfl
    refine V.seq ?_
    replace hm0 := bindO hm0; rcases hm0 with ⟨y4, hh5, hm0⟩
    replace hm0 := asrt_some hm0; rcases hm0 with ⟨hh6, hm0⟩
    refine V.region ?_
    refine VO.cons rfl (V1.move rfl rfl rfl (ltb rfl) ?_)
    refine VO.cons rfl (V1.call rfl rfl rfl cok_208 rfl (ok_slices_SortStableFunc_impl_File_impl_File hh5 (oq := none) (x := closed) (fun _ => hob0) (fm := (fun x0 x1 => M.impl_ClosedSince_1 x0 x1)) cok_209 (fun _ _ _ h => ok_impl_ClosedSince_1 h)) rfl (ltb rfl) ?_)
    rintro _ _ ⟨rfl, rfl⟩
    refine VO.nil ?_
    refine V.seq ?_
    refine V.region ?_
    refine VO.cons rfl (V1.assign rfl rfl rfl (ltb rfl) ?_)
    refine VO.nil ?_
    refine V.seq ?_
    refine V.seq ?_
    refine V.region ?_
    refine VO.cons rfl (V1.move rfl rfl rfl (ltb rfl) ?_)
    refine VO.cons rfl (V1.lenNilsE (l := y4) (List.length_eq_zero_iff.1 (hh6.trans (congrArg List.length hob0))) rfl rfl rfl rfl rfl rfl isl_78 (ltb rfl) ?_)
    refine VO.cons rfl (V1.move rfl rfl rfl (ltb rfl) ?_)
    refine VO.nil ?_
    replace hm0 := bindO hm0; rcases hm0 with ⟨e1, he1, hm0⟩
    refine V.cutT (D := (List Int) × (Option Nat)) (fun ⟨ids, ob2⟩ => ⟨59, [(11, optS 1 ob2 (List.length ids))], optH 1 ob2 (List.map encInt ids)⟩) (fun ⟨ids, ob2⟩ => (ids = e1) ∧ (ob2 = none → ids = [])) ?_ ?_
    ·
     refine V.block ?_
     refine V.weakenK (Keeps.nilsE (l := y4) 46 rn 7 encFile (List.length_eq_zero_iff.1 (hh6.trans (congrArg List.length hob0))) rfl rfl) ?_
     refine V.keep 59 [11, 48, 46, 47] [] (E0 := [(11, .nils), (48, .int .i64 (0 : Int)), (46, .vl rn 7 (List.map encFile y4)), (47, .int .i64 (y4.length : Int))]) (H0 := []) rfl (⟨_, _, rfl, rfl, ⟨_, _, rfl, rfl, ⟨_, _, rfl, rfl, ⟨_, _, rfl, rfl, rfl⟩⟩⟩⟩) (rfl) rfl ?_
     refine V.loopE (D := Nat × (List Int × Int) × (Option Nat)) (fun ⟨n1, ⟨ids0, v0⟩, ob3⟩ => [(11, optS 1 ob3 (List.length ids0)), (48, .int .i64 v0)]) (fun ⟨n1, ⟨ids0, v0⟩, ob3⟩ => optH 1 ob3 (List.map encInt ids0)) (fun ⟨n1, ⟨ids0, v0⟩, ob3⟩ => loopO (M.impl_ClosedSince_l1 y4) n1 (ids0, v0) = some e1 ∧ (ob3 = none → ids0 = [])) (fun ⟨n1, _, _⟩ => n1) (rounds, (([] : List Int), (0 : Int)), none) rfl ⟨he1, (fun _ => rfl)⟩ ?_
     rintro ⟨n1, ⟨ids0, v0⟩, ob3⟩ ⟨hP1, hob3⟩
     obtain ⟨m1, y5, rfl, hm1, hl1, hr1⟩ := loop_head hP1
     unfold M.impl_ClosedSince_l1 at hm1; dsimp only at hm1
     rcases ob3 with _ | ob3
     ·
      replace hob3 := hob3 rfl
      show V _ _ _ ⟨59, [(11, .nils), (48, .int .i64 v0), (46, .vl rn 7 (List.map encFile y4)), (47, .int .i64 (y4.length : Int))], []⟩
      refine V.seq ?_
      refine V.region ?_
      refine VO.cons rfl (V1.int rfl rfl rfl rfl rfl (ltb rfl) ?_)
      refine VO.nil ?_
      refine V.seq ?_
      refine V.cond rfl (fun hc3 => ?_) (fun hc3 => ?_)
      ·
       replace hm1 := cond_t hc3 hm1
       refine V.skip ?_
       refine V.seq ?_
       refine V.block ?_
       refine V.seq ?_
       replace hm1 := asrt_some hm1; rcases hm1 with ⟨hh7, hm1⟩
       refine V.region ?_
       refine VO.cons rfl (V1.indexI rfl rfl esz_78 rfl rfl hh7 (ltb rfl) ?_)
       refine VO.cons rfl (V1.loadPinAll rfl rfl tyk_93 rfl rfl (ltb rfl) ?_)
       refine VO.cons rfl (V1.alloc rfl rfl zk_93 (ltb rfl) ?_)
       intro b4
       refine VO.cons rfl (V1.storeRefAll (k := 0) rfl rfl tyk_93 rfl rfl rfl rfl rfl rfl ?_)
       refine VO.nil ?_
       replace hm1 := asrt_some hm1; rcases hm1 with ⟨hh8, hm1⟩
       refine V.region ?_
       refine VO.cons rfl (V1.move rfl rfl rfl (ltb rfl) ?_)
       refine VO.cons rfl (V1.fieldRef rfl rfl fo_93_0 rfl (ltb rfl) ?_)
       refine VO.cons rfl (V1.loadRef (k := 0) rfl rfl tyk_3 rfl rfl rfl rfl rfl (ltb rfl) ?_)
       refine VO.cons rfl (V1.buildSliceT (f := encInt) ([(y4.getD (Int.toNat v0) default).Id] : List Int) rfl rfl esz_35 zk_3 rfl rfl rfl rfl rfl rfl rfl (ltb rfl) ?_)
       intro b5
       refine VO.cons rfl (V1.appendNilE (f := encInt) (l := ids0) (m := ([(y4.getD (Int.toNat v0) default).Id] : List Int)) hob3 rfl rfl rfl rfl rfl esz_35 eby_35 zk_3 rfl rfl rfl (SrcOf.srMap (k := 0) rfl isl_35) rfl hh8 (ltb rfl) ?_)
       intro b6
       refine VO.cons rfl (V1.assign rfl rfl rfl (ltb rfl) ?_)
       refine VO.nil ?_
       refine V.keep 59 [11, 46, 47, 48] [0] (E0 := [(11, .sref b6 1 0 (List.length (ids0 ++ ([(y4.getD (Int.toNat v0) default).Id] : List Int)))), (46, .vl rn 7 (List.map encFile y4)), (47, .int .i64 (y4.length : Int)), (48, .int .i64 v0)]) (H0 := [(b6, ⟨1, List.map encInt (ids0 ++ ([(y4.getD (Int.toNat v0) default).Id] : List Int))⟩)]) rfl (⟨_, _, rfl, rfl, ⟨_, _, rfl, rfl, ⟨_, _, rfl, rfl, ⟨_, _, rfl, rfl, rfl⟩⟩⟩⟩) (⟨_, _, rfl, rfl, rfl⟩) rfl ?_
       refine V.region ?_
       refine VO.cons rfl (V1.int rfl rfl rfl rfl rfl (ltb rfl) ?_)
       refine VO.cons rfl (V1.move rfl rfl rfl (ltb rfl) ?_)
       refine VO.nil ?_
       exact ⟨(m1, ((ids0 ++ ([(y4.getD (Int.toNat v0) default).Id] : List Int)), (IntKind.i64.wrap (v0 + (1 : Int)))), (some b6)), ⟨hl1 _ (Option.some.inj hm1).symm, (fun e => by cases e)⟩, Nat.lt_succ_self _, Keeps.mk (ks := [0]) rfl ⟨rfl, rfl, rfl, rfl, trivial⟩ (⟨_, _, rfl, rfl, rfl⟩) rfl⟩
      ·
       replace hm1 := cond_f hc3 hm1
       refine V.exit ?_
       obtain rfl := hr1 _ (Option.some.inj hm1).symm
       exact ⟨(ids0, none), ⟨rfl, (fun _ => hob3)⟩, Keeps.mk (ks := []) rfl ⟨rfl, trivial⟩ (rfl) rfl⟩
     ·
      show V _ _ _ ⟨59, [(11, .sref ob3 1 0 (List.length ids0)), (48, .int .i64 v0), (46, .vl rn 7 (List.map encFile y4)), (47, .int .i64 (y4.length : Int))], [(ob3, ⟨1, List.map encInt ids0⟩)]⟩
      refine V.seq ?_
      refine V.region ?_
      refine VO.cons rfl (V1.int rfl rfl rfl rfl rfl (ltb rfl) ?_)
      refine VO.nil ?_
      refine V.seq ?_
      refine V.cond rfl (fun hc3 => ?_) (fun hc3 => ?_)
      ·
       replace hm1 := cond_t hc3 hm1
       refine V.skip ?_
       refine V.seq ?_
       refine V.block ?_
       refine V.seq ?_
       replace hm1 := asrt_some hm1; rcases hm1 with ⟨hh7, hm1⟩
       refine V.region ?_
       refine VO.cons rfl (V1.indexI rfl rfl esz_78 rfl rfl hh7 (ltb rfl) ?_)
       refine VO.cons rfl (V1.loadPinAll rfl rfl tyk_93 rfl rfl (ltb rfl) ?_)
       refine VO.cons rfl (V1.alloc rfl rfl zk_93 (ltb rfl) ?_)
       intro b4
       refine VO.cons rfl (V1.storeRefAll (k := 0) rfl rfl tyk_93 rfl rfl rfl rfl rfl rfl ?_)
       refine VO.nil ?_
       replace hm1 := asrt_some hm1; rcases hm1 with ⟨hh8, hm1⟩
       refine V.region ?_
       refine VO.cons rfl (V1.move rfl rfl rfl (ltb rfl) ?_)
       refine VO.cons rfl (V1.fieldRef rfl rfl fo_93_0 rfl (ltb rfl) ?_)
       refine VO.cons rfl (V1.loadRef (k := 0) rfl rfl tyk_3 rfl rfl rfl rfl rfl (ltb rfl) ?_)
       refine VO.cons rfl (V1.buildSliceT (f := encInt) ([(y4.getD (Int.toNat v0) default).Id] : List Int) rfl rfl esz_35 zk_3 rfl rfl rfl rfl rfl rfl rfl (ltb rfl) ?_)
       intro b5
       refine VO.cons rfl (V1.appendMap (k := 2) (f := encInt) (l := ids0) (m := ([(y4.getD (Int.toNat v0) default).Id] : List Int)) rfl rfl rfl rfl rfl esz_35 eby_35 zk_3 rfl rfl rfl (SrcOf.srMap (k := 0) rfl isl_35) hh8 (ltb rfl) ?_)
       intro b6
       refine VO.cons rfl (V1.assign rfl rfl rfl (ltb rfl) ?_)
       refine VO.nil ?_
       refine V.keep 59 [11, 46, 47, 48] [0] (E0 := [(11, .sref b6 1 0 (List.length (ids0 ++ ([(y4.getD (Int.toNat v0) default).Id] : List Int)))), (46, .vl rn 7 (List.map encFile y4)), (47, .int .i64 (y4.length : Int)), (48, .int .i64 v0)]) (H0 := [(b6, ⟨1, List.map encInt (ids0 ++ ([(y4.getD (Int.toNat v0) default).Id] : List Int))⟩)]) rfl (⟨_, _, rfl, rfl, ⟨_, _, rfl, rfl, ⟨_, _, rfl, rfl, ⟨_, _, rfl, rfl, rfl⟩⟩⟩⟩) (⟨_, _, rfl, rfl, rfl⟩) rfl ?_
       refine V.region ?_
       refine VO.cons rfl (V1.int rfl rfl rfl rfl rfl (ltb rfl) ?_)
       refine VO.cons rfl (V1.move rfl rfl rfl (ltb rfl) ?_)
       refine VO.nil ?_
       exact ⟨(m1, ((ids0 ++ ([(y4.getD (Int.toNat v0) default).Id] : List Int)), (IntKind.i64.wrap (v0 + (1 : Int)))), (some b6)), ⟨hl1 _ (Option.some.inj hm1).symm, (fun e => by cases e)⟩, Nat.lt_succ_self _, Keeps.mk (ks := [0]) rfl ⟨rfl, rfl, rfl, rfl, trivial⟩ (⟨_, _, rfl, rfl, rfl⟩) rfl⟩
      ·
       replace hm1 := cond_f hc3 hm1
       refine V.exit ?_
       obtain rfl := hr1 _ (Option.some.inj hm1).symm
       exact ⟨(ids0, (some ob3)), ⟨rfl, (fun e => by cases e)⟩, Keeps.mk (ks := [0]) rfl ⟨rfl, trivial⟩ (⟨_, _, rfl, rfl, rfl⟩) rfl⟩
    ·
     rintro ⟨ids, ob2⟩ ⟨rfl, hob2⟩
     try dsimp only at hm0
     rcases ob2 with _ | ob2
     ·
      replace hob2 := hob2 rfl
      refine V.seq ?_
      refine V.region ?_
      refine VO.cons rfl (V1.move rfl rfl rfl (ltb rfl) ?_)
      refine VO.cons rfl (V1.assign rfl rfl rfl (ltb rfl) ?_)
      refine VO.cons rfl (V1.assign rfl rfl rfl (ltb rfl) ?_)
      refine VO.nil ?_
      refine V.keep 59 [6, 7] [] (E0 := [(6, .nils), (7, .bool true)]) (H0 := []) rfl (⟨_, _, rfl, rfl, ⟨_, _, rfl, rfl, rfl⟩⟩) (rfl) rfl ?_
      refine V.ret ?_
      obtain rfl := Option.some.inj hm0
      exact ⟨_, _, ⟨_, _, rfl, rfl, ⟨_, _, rfl, rfl, rfl⟩⟩, List.Sublist.refl _, none, (fun _ => hob2), rfl, rfl⟩
     ·
      refine V.seq ?_
      refine V.region ?_
      refine VO.cons rfl (V1.move rfl rfl rfl (ltb rfl) ?_)
      refine VO.cons rfl (V1.assign rfl rfl rfl (ltb rfl) ?_)
      refine VO.cons rfl (V1.assign rfl rfl rfl (ltb rfl) ?_)
      refine VO.nil ?_
      refine V.keep 59 [6, 7] [0] (E0 := [(6, .sref ob2 1 0 (List.length ids)), (7, .bool true)]) (H0 := [(ob2, ⟨1, List.map encInt ids⟩)]) rfl (⟨_, _, rfl, rfl, ⟨_, _, rfl, rfl, rfl⟩⟩) (⟨_, _, rfl, rfl, rfl⟩) rfl ?_
      refine V.ret ?_
      obtain rfl := Option.some.inj hm0
      exact ⟨_, _, ⟨_, _, rfl, rfl, ⟨_, _, rfl, rfl, rfl⟩⟩, List.Sublist.refl _, some ob2, (fun e => by cases e), rfl, rfl⟩
   ·
    refine V.seq ?_
    replace hm0 := bindO hm0; rcases hm0 with ⟨y4, hh5, hm0⟩
    replace hm0 := asrt_some hm0; rcases hm0 with ⟨hh6, hm0⟩
    refine V.region ?_
    refine VO.cons rfl (V1.move rfl rfl rfl (ltb rfl) ?_)
    refine VO.cons rfl (V1.callM 0 (rn + 1) [] [.sref ob0 7 0 (List.length closed), .fn 209 []] (p := (ob0, ⟨7, List.map encFile closed⟩)) rfl rfl rfl cok_208 rfl rfl ⟨_, _, rfl, .same _, ⟨_, _, rfl, Lend.fn rfl, rfl⟩⟩ bwNil (ok_slices_SortStableFunc_impl_File_impl_File hh5 (oq := some ob0) (fun e => by cases e) (fm := (fun x0 x1 => M.impl_ClosedSince_1 x0 x1)) cok_209 (fun _ _ _ h => ok_impl_ClosedSince_1 h)) rfl (.inl rfl) (ltb rfl) ?_)
    rintro _ _ ⟨rfl, rfl⟩
    refine VO.weakenK (Keeps.say 8 (y := .sref ob0 7 0 (List.length y4)) rfl (congrArg (PV.sref ob0 7 0) hh6.symm)) ?_
    refine VO.nil ?_
    refine V.seq ?_
    refine V.region ?_
    refine VO.cons rfl (V1.assign rfl rfl rfl (ltb rfl) ?_)
    refine VO.nil ?_
    refine V.seq ?_
    refine V.seq ?_
    refine V.region ?_
    refine VO.cons rfl (V1.move rfl rfl rfl (ltb rfl) ?_)
    refine VO.cons rfl (V1.lenSref rfl rfl rfl rfl rfl rfl isl_78 (ltb rfl) ?_)
    refine VO.cons rfl (V1.move rfl rfl rfl (ltb rfl) ?_)
    refine VO.nil ?_
    replace hm0 := bindO hm0; rcases hm0 with ⟨e1, he1, hm0⟩
    refine V.cutT (D := (List Int) × (Option Nat)) (fun ⟨ids, ob2⟩ => ⟨59, [(11, optS 1 ob2 (List.length ids))], optH 1 ob2 (List.map encInt ids)⟩) (fun ⟨ids, ob2⟩ => (ids = e1) ∧ (ob2 = none → ids = [])) ?_ ?_
    ·
     refine V.block ?_
     refine V.keep 59 [11, 48, 46, 47] [0] (E0 := [(11, .nils), (48, .int .i64 (0 : Int)), (46, .sref ob0 7 0 (List.length y4)), (47, .int .i64 (y4.length : Int))]) (H0 := [(ob0, ⟨7, List.map encFile y4⟩)]) rfl (⟨_, _, rfl, rfl, ⟨_, _, rfl, rfl, ⟨_, _, rfl, rfl, ⟨_, _, rfl, rfl, rfl⟩⟩⟩⟩) (⟨_, _, rfl, rfl, rfl⟩) rfl ?_
     refine V.loopE (D := Nat × (List Int × Int) × (Option Nat)) (fun ⟨n1, ⟨ids0, v0⟩, ob3⟩ => [(11, optS 1 ob3 (List.length ids0)), (48, .int .i64 v0)]) (fun ⟨n1, ⟨ids0, v0⟩, ob3⟩ => optH 1 ob3 (List.map encInt ids0)) (fun ⟨n1, ⟨ids0, v0⟩, ob3⟩ => loopO (M.impl_ClosedSince_l1 y4) n1 (ids0, v0) = some e1 ∧ (ob3 = none → ids0 = [])) (fun ⟨n1, _, _⟩ => n1) (rounds, (([] : List Int), (0 : Int)), none) rfl ⟨he1, (fun _ => rfl)⟩ ?_
     rintro ⟨n1, ⟨ids0, v0⟩, ob3⟩ ⟨hP1, hob3⟩
     obtain ⟨m1, y5, rfl, hm1, hl1, hr1⟩ := loop_head hP1
     unfold M.impl_ClosedSince_l1 at hm1; dsimp only at hm1
     rcases ob3 with _ | ob3
     ·
      replace hob3 := hob3 rfl
      show V _ _ _ ⟨59, [(11, .nils), (48, .int .i64 v0), (46, .sref ob0 7 0 (List.length y4)), (47, .int .i64 (y4.length : Int))], [(ob0, ⟨7, List.map encFile y4⟩)]⟩
      refine V.seq ?_
      refine V.region ?_
      refine VO.cons rfl (V1.int rfl rfl rfl rfl rfl (ltb rfl) ?_)
      refine VO.nil ?_
      refine V.seq ?_
      refine V.cond rfl (fun hc3 => ?_) (fun hc3 => ?_)
      ·
       replace hm1 := cond_t hc3 hm1
       refine V.skip ?_
       refine V.seq ?_
       refine V.block ?_
       refine V.seq ?_
       replace hm1 := asrt_some hm1; rcases hm1 with ⟨hh7, hm1⟩
       refine V.region ?_
       refine VO.cons rfl (V1.indexSr rfl rfl esz_78 rfl rfl hh7 (ltb rfl) ?_)
       refine VO.cons rfl (V1.loadMapAll (k := 0) (f := encFile) rfl rfl tyk_93 rfl rfl (by simpa using natLt hh7.1 hh7.2) rfl (ltb rfl) ?_)
       refine VO.cons rfl (V1.alloc rfl rfl zk_93 (ltb rfl) ?_)
       intro b4
       refine VO.cons rfl (V1.storeRefAll (k := 0) rfl rfl tyk_93 rfl rfl rfl rfl rfl rfl ?_)
       refine VO.nil ?_
       replace hm1 := asrt_some hm1; rcases hm1 with ⟨hh8, hm1⟩
       refine V.region ?_
       refine VO.cons rfl (V1.move rfl rfl rfl (ltb rfl) ?_)
       refine VO.cons rfl (V1.fieldRef rfl rfl fo_93_0 rfl (ltb rfl) ?_)
       refine VO.cons rfl (V1.loadRef (k := 0) rfl rfl tyk_3 rfl rfl rfl rfl rfl (ltb rfl) ?_)
       refine VO.cons rfl (V1.buildSliceT (f := encInt) ([(y4.getD (Int.toNat v0) default).Id] : List Int) rfl rfl esz_35 zk_3 rfl rfl rfl rfl rfl rfl rfl (ltb rfl) ?_)
       intro b5
       refine VO.cons rfl (V1.appendNilE (f := encInt) (l := ids0) (m := ([(y4.getD (Int.toNat v0) default).Id] : List Int)) hob3 rfl rfl rfl rfl rfl esz_35 eby_35 zk_3 rfl rfl rfl (SrcOf.srMap (k := 0) rfl isl_35) rfl hh8 (ltb rfl) ?_)
       intro b6
       refine VO.cons rfl (V1.assign rfl rfl rfl (ltb rfl) ?_)
       refine VO.nil ?_
       refine V.keep 59 [11, 46, 47, 48] [0, 3] (E0 := [(11, .sref b6 1 0 (List.length (ids0 ++ ([(y4.getD (Int.toNat v0) default).Id] : List Int)))), (46, .sref ob0 7 0 (List.length y4)), (47, .int .i64 (y4.length : Int)), (48, .int .i64 v0)]) (H0 := [(b6, ⟨1, List.map encInt (ids0 ++ ([(y4.getD (Int.toNat v0) default).Id] : List Int))⟩), (ob0, ⟨7, List.map encFile y4⟩)]) rfl (⟨_, _, rfl, rfl, ⟨_, _, rfl, rfl, ⟨_, _, rfl, rfl, ⟨_, _, rfl, rfl, rfl⟩⟩⟩⟩) (⟨_, _, rfl, rfl, ⟨_, _, rfl, rfl, rfl⟩⟩) rfl ?_
       refine V.region ?_
       refine VO.cons rfl (V1.int rfl rfl rfl rfl rfl (ltb rfl) ?_)
       refine VO.cons rfl (V1.move rfl rfl rfl (ltb rfl) ?_)
       refine VO.nil ?_
       exact ⟨(m1, ((ids0 ++ ([(y4.getD (Int.toNat v0) default).Id] : List Int)), (IntKind.i64.wrap (v0 + (1 : Int)))), (some b6)), ⟨hl1 _ (Option.some.inj hm1).symm, (fun e => by cases e)⟩, Nat.lt_succ_self _, Keeps.mk (ks := [0, 1]) rfl ⟨rfl, rfl, rfl, rfl, trivial⟩ (⟨_, _, rfl, rfl, ⟨_, _, rfl, rfl, rfl⟩⟩) rfl⟩
      ·
       replace hm1 := cond_f hc3 hm1
       refine V.exit ?_
       obtain rfl := hr1 _ (Option.some.inj hm1).symm
       exact ⟨(ids0, none), ⟨rfl, (fun _ => hob3)⟩, Keeps.mk (ks := []) rfl ⟨rfl, trivial⟩ (rfl) rfl⟩
     ·
      show V _ _ _ ⟨59, [(11, .sref ob3 1 0 (List.length ids0)), (48, .int .i64 v0), (46, .sref ob0 7 0 (List.length y4)), (47, .int .i64 (y4.length : Int))], [(ob3, ⟨1, List.map encInt ids0⟩), (ob0, ⟨7, List.map encFile y4⟩)]⟩
      refine V.seq ?_
      refine V.region ?_
      refine VO.cons rfl (V1.int rfl rfl rfl rfl rfl (ltb rfl) ?_)
      refine VO.nil ?_
      refine V.seq ?_
      refine V.cond rfl (fun hc3 => ?_) (fun hc3 => ?_)
      ·
       replace hm1 := cond_t hc3 hm1
       refine V.skip ?_
       refine V.seq ?_
       refine V.block ?_
       refine V.seq ?_
       replace hm1 := asrt_some hm1; rcases hm1 with ⟨hh7, hm1⟩
       refine V.region ?_
       refine VO.cons rfl (V1.indexSr rfl rfl esz_78 rfl rfl hh7 (ltb rfl) ?_)
       refine VO.cons rfl (V1.loadMapAll (k := 1) (f := encFile) rfl rfl tyk_93 rfl rfl (by simpa using natLt hh7.1 hh7.2) rfl (ltb rfl) ?_)
       refine VO.cons rfl (V1.alloc rfl rfl zk_93 (ltb rfl) ?_)
       intro b4
       refine VO.cons rfl (V1.storeRefAll (k := 0) rfl rfl tyk_93 rfl rfl rfl rfl rfl rfl ?_)
       refine VO.nil ?_
       replace hm1 := asrt_some hm1; rcases hm1 with ⟨hh8, hm1⟩
       refine V.region ?_
       refine VO.cons rfl (V1.move rfl rfl rfl (ltb rfl) ?_)
       refine VO.cons rfl (V1.fieldRef rfl rfl fo_93_0 rfl (ltb rfl) ?_)
       refine VO.cons rfl (V1.loadRef (k := 0) rfl rfl tyk_3 rfl rfl rfl rfl rfl (ltb rfl) ?_)
       refine VO.cons rfl (V1.buildSliceT (f := encInt) ([(y4.getD (Int.toNat v0) default).Id] : List Int) rfl rfl esz_35 zk_3 rfl rfl rfl rfl rfl rfl rfl (ltb rfl) ?_)
       intro b5
       refine VO.cons rfl (V1.appendMap (k := 2) (f := encInt) (l := ids0) (m := ([(y4.getD (Int.toNat v0) default).Id] : List Int)) rfl rfl rfl rfl rfl esz_35 eby_35 zk_3 rfl rfl rfl (SrcOf.srMap (k := 0) rfl isl_35) hh8 (ltb rfl) ?_)
       intro b6
       refine VO.cons rfl (V1.assign rfl rfl rfl (ltb rfl) ?_)
       refine VO.nil ?_
       refine V.keep 59 [11, 46, 47, 48] [0, 3] (E0 := [(11, .sref b6 1 0 (List.length (ids0 ++ ([(y4.getD (Int.toNat v0) default).Id] : List Int)))), (46, .sref ob0 7 0 (List.length y4)), (47, .int .i64 (y4.length : Int)), (48, .int .i64 v0)]) (H0 := [(b6, ⟨1, List.map encInt (ids0 ++ ([(y4.getD (Int.toNat v0) default).Id] : List Int))⟩), (ob0, ⟨7, List.map encFile y4⟩)]) rfl (⟨_, _, rfl, rfl, ⟨_, _, rfl, rfl, ⟨_, _, rfl, rfl, ⟨_, _, rfl, rfl, rfl⟩⟩⟩⟩) (⟨_, _, rfl, rfl, ⟨_, _, rfl, rfl, rfl⟩⟩) rfl ?_
       refine V.region ?_
       refine VO.cons rfl (V1.int rfl rfl rfl rfl rfl (ltb rfl) ?_)
       refine VO.cons rfl (V1.move rfl rfl rfl (ltb rfl) ?_)
       refine VO.nil ?_
       exact ⟨(m1, ((ids0 ++ ([(y4.getD (Int.toNat v0) default).Id] : List Int)), (IntKind.i64.wrap (v0 + (1 : Int)))), (some b6)), ⟨hl1 _ (Option.some.inj hm1).symm, (fun e => by cases e)⟩, Nat.lt_succ_self _, Keeps.mk (ks := [0, 1]) rfl ⟨rfl, rfl, rfl, rfl, trivial⟩ (⟨_, _, rfl, rfl, ⟨_, _, rfl, rfl, rfl⟩⟩) rfl⟩
      ·
       replace hm1 := cond_f hc3 hm1
       refine V.exit ?_
       obtain rfl := hr1 _ (Option.some.inj hm1).symm
       exact ⟨(ids0, (some ob3)), ⟨rfl, (fun e => by cases e)⟩, Keeps.mk (ks := [0]) rfl ⟨rfl, trivial⟩ (⟨_, _, rfl, rfl, rfl⟩) rfl⟩
    ·
     rintro ⟨ids, ob2⟩ ⟨rfl, hob2⟩
     try dsimp only at hm0
     rcases ob2 with _ | ob2
     ·
      replace hob2 := hob2 rfl
      refine V.seq ?_
      refine V.region ?_
      refine VO.cons rfl (V1.move rfl rfl rfl (ltb rfl) ?_)
      refine VO.cons rfl (V1.assign rfl rfl rfl (ltb rfl) ?_)
      refine VO.cons rfl (V1.assign rfl rfl rfl (ltb rfl) ?_)
      refine VO.nil ?_
      refine V.keep 59 [6, 7] [] (E0 := [(6, .nils), (7, .bool true)]) (H0 := []) rfl (⟨_, _, rfl, rfl, ⟨_, _, rfl, rfl, rfl⟩⟩) (rfl) rfl ?_
      refine V.ret ?_
      obtain rfl := Option.some.inj hm0
      exact ⟨_, _, ⟨_, _, rfl, rfl, ⟨_, _, rfl, rfl, rfl⟩⟩, List.Sublist.refl _, none, (fun _ => hob2), rfl, rfl⟩
     ·
      refine V.seq ?_
      refine V.region ?_
      refine VO.cons rfl (V1.move rfl rfl rfl (ltb rfl) ?_)
      refine VO.cons rfl (V1.assign rfl rfl rfl (ltb rfl) ?_)
      refine VO.cons rfl (V1.assign rfl rfl rfl (ltb rfl) ?_)
      refine VO.nil ?_
      refine V.keep 59 [6, 7] [0] (E0 := [(6, .sref ob2 1 0 (List.length ids)), (7, .bool true)]) (H0 := [(ob2, ⟨1, List.map encInt ids⟩)]) rfl (⟨_, _, rfl, rfl, ⟨_, _, rfl, rfl, rfl⟩⟩) (⟨_, _, rfl, rfl, rfl⟩) rfl ?_
      refine V.ret ?_
      obtain rfl := Option.some.inj hm0
      exact ⟨_, _, ⟨_, _, rfl, rfl, ⟨_, _, rfl, rfl, rfl⟩⟩, List.Sublist.refl _, some ob2, (fun e => by cases e), rfl, rfl⟩

theorem ok_laws_rHas {ρ0 rn : Nat} {list : List Int} {x : Int} {r : Bool} (h : M.laws_rHas list x = some r) : Does Tryd.prog 26 [.vl ρ0 1 (List.map encInt list), .int .i64 x] [] rn (fun x H => x = .bool r ∧ H = []) := by
 have hm0 := h; clear h; unfold M.laws_rHas at hm0
 try dsimp only at hm0
 refine Does.intro (N := 18) Tryd.func26 rfl rfl rfl rfl ?_
 intro w0 S0
 refine V.seq ?_
 refine V.region ?_
 refine VO.cons rfl (V1.assign rfl rfl rfl (ltb rfl) ?_)
 refine VO.nil ?_
 refine V.seq ?_
 refine V.seq ?_
 refine V.region ?_
 refine VO.cons rfl (V1.assign rfl rfl rfl (ltb rfl) ?_)
 refine VO.nil ?_
 replace hm0 := bindO hm0; rcases hm0 with ⟨e0, he1, hm0⟩
 refine V.cutT (D := (Unit) × (Unit)) (fun ⟨_, _⟩ => ⟨18, [], []⟩) (fun ⟨_, _⟩ => (.inl () = e0)) ?_ ?_
 ·
  refine V.block ?_
  refine V.keep 18 [5, 0, 1] [] (E0 := [(5, .int .i64 (0 : Int)), (0, .vl ρ0 1 (List.map encInt list)), (1, .int .i64 x)]) (H0 := []) rfl (⟨_, _, rfl, rfl, ⟨_, _, rfl, rfl, ⟨_, _, rfl, rfl, rfl⟩⟩⟩) (rfl) rfl ?_
  refine V.loopE (D := Nat × (Int) × (Unit)) (fun ⟨n0, i, _⟩ => [(5, .int .i64 i)]) (fun ⟨n0, i, _⟩ => []) (fun ⟨n0, i, _⟩ => loopO (M.laws_rHas_l0 list x) n0 i = some e0) (fun ⟨n0, _, _⟩ => n0) (rounds, (0 : Int), ()) rfl he1 ?_
  rintro ⟨n0, i, _⟩ hP0
  obtain ⟨m0, y0, rfl, hm1, hl1, hr1⟩ := loop_head hP0
  unfold M.laws_rHas_l0 at hm1; dsimp only at hm1
  show V _ _ _ ⟨18, [(5, .int .i64 i), (0, .vl ρ0 1 (List.map encInt list)), (1, .int .i64 x)], []⟩
  refine V.seq ?_
  refine V.seq ?_
  refine V.region ?_
  refine VO.cons rfl (V1.move rfl rfl rfl (ltb rfl) ?_)
  refine VO.cons rfl (V1.move rfl rfl rfl (ltb rfl) ?_)
  refine VO.cons rfl (V1.lenMap rfl rfl rfl rfl rfl rfl isl_35 (ltb rfl) ?_)
  refine VO.cons rfl (V1.int rfl rfl rfl rfl rfl (ltb rfl) ?_)
  refine VO.nil ?_
  refine V.cond rfl (fun hc0 => ?_) (fun hc0 => ?_)
  ·
   replace hm1 := cond_t hc0 hm1
   refine V.skip ?_
   refine V.keep 18 [0, 1, 5] [] (E0 := [(0, .vl ρ0 1 (List.map encInt list)), (1, .int .i64 x), (5, .int .i64 i)]) (H0 := []) rfl (⟨_, _, rfl, rfl, ⟨_, _, rfl, rfl, ⟨_, _, rfl, rfl, rfl⟩⟩⟩) (rfl) rfl ?_
   refine V.seq ?_
   refine V.block ?_
   refine V.seq ?_
   replace hm1 := asrt_some hm1; rcases hm1 with ⟨hh0, hm1⟩
   refine V.region ?_
   refine VO.cons rfl (V1.move rfl rfl rfl (ltb rfl) ?_)
   refine VO.cons rfl (V1.move rfl rfl rfl (ltb rfl) ?_)
   refine VO.cons rfl (V1.indexI rfl rfl esz_35 rfl rfl hh0 (ltb rfl) ?_)
   refine VO.cons rfl (V1.loadPin rfl rfl tyk_3 rfl rfl (ltb rfl) ?_)
   refine VO.cons rfl (V1.move rfl rfl rfl (ltb rfl) ?_)
   refine VO.cons rfl (V1.int rfl rfl rfl rfl rfl (ltb rfl) ?_)
   refine VO.nil ?_
   refine V.keep 18 [0, 1, 5, 17] [] (E0 := [(0, .vl ρ0 1 (List.map encInt list)), (1, .int .i64 x), (5, .int .i64 i), (17, .bool ((list.getD (Int.toNat i) default) == x))]) (H0 := []) rfl (⟨_, _, rfl, rfl, ⟨_, _, rfl, rfl, ⟨_, _, rfl, rfl, ⟨_, _, rfl, rfl, rfl⟩⟩⟩⟩) (rfl) rfl ?_
   refine V.cond rfl (fun hc1 => ?_) (fun hc1 => ?_)
   ·
    replace hm1 := cond_t hc1 hm1
    refine V.seq ?_
    refine V.region ?_
    refine VO.cons rfl (V1.assign rfl rfl rfl (ltb rfl) ?_)
    refine VO.nil ?_
    refine V.ret ?_
    obtain rfl := hr1 _ (Option.some.inj hm1).symm
    change some _ = some _ at hm0
    obtain rfl := Option.some.inj hm0
    exact ⟨_, [], ⟨_, _, rfl, rfl, rfl⟩, List.nil_sublist _, rfl, rfl⟩
   ·
    replace hm1 := cond_f hc1 hm1
    refine V.skip ?_
    refine V.region ?_
    refine VO.cons rfl (V1.move rfl rfl rfl (ltb rfl) ?_)
    refine VO.cons rfl (V1.int rfl rfl rfl rfl rfl (ltb rfl) ?_)
    refine VO.cons rfl (V1.assign rfl rfl rfl (ltb rfl) ?_)
    refine VO.nil ?_
    exact ⟨(m0, (IntKind.i64.wrap (i + (1 : Int))), ()), hl1 _ (Option.some.inj hm1).symm, Nat.lt_succ_self _, Keeps.mk (ks := []) rfl ⟨rfl, rfl, rfl, trivial⟩ (rfl) rfl⟩
  ·
   replace hm1 := cond_f hc0 hm1
   refine V.exit ?_
   obtain rfl := hr1 _ (Option.some.inj hm1).symm
   exact ⟨((), ()), rfl, Keeps.mk (ks := []) rfl trivial (rfl) rfl⟩
 ·
  rintro ⟨_, _⟩ rfl
  try dsimp only at hm0
  refine V.seq ?_
  refine V.region ?_
  refine VO.cons rfl (V1.assign rfl rfl rfl (ltb rfl) ?_)
  refine VO.nil ?_
  refine V.ret ?_
  obtain rfl := Option.some.inj hm0
  exact ⟨_, [], ⟨_, _, rfl, rfl, rfl⟩, List.nil_sublist _, rfl, rfl⟩

theorem ok_spec_DrawLendFile {ρ0 rn : Nat} {code : List Int} {r : List File × Int × Bool} (h : M.spec_DrawLendFile code = some r) : Does Tryd.prog 68 [.vl ρ0 1 (List.map encU8 code)] [] rn (fun x H => ∃ (ob0_ : Nat), x = .tup [PV.sref ob0_ 7 0 (List.length r.1), .int .i64 r.2.1, .bool r.2.2] ∧ H = [(ob0_, ⟨7, List.map encFile r.1⟩)]) := by
 have hm0 := h; clear h; unfold M.spec_DrawLendFile at hm0
 try dsimp only at hm0
 refine Does.intro (N := 26) Tryd.func68 rfl rfl rfl rfl ?_
 intro w0 S0
 refine V.seq ?_
 refine V.region ?_
 refine VO.cons rfl (V1.assign rfl rfl rfl (ltb rfl) ?_)
 refine VO.cons rfl (V1.assign rfl rfl rfl (ltb rfl) ?_)
 refine VO.cons rfl (V1.assign rfl rfl rfl (ltb rfl) ?_)
 refine VO.nil ?_
 refine V.seq ?_
 refine V.region ?_
 refine VO.cons rfl (V1.move rfl rfl rfl (ltb rfl) ?_)
 refine VO.cons rfl (V1.build rfl rfl zk_164 pl_164 rfl rfl (ltb rfl) ?_)
 refine VO.cons rfl (V1.boxN (n := 3) rfl rfl rfl rfl rfl (ltb rfl) ?_)
 intro b0
 refine VO.cons rfl (V1.assign rfl rfl rfl (ltb rfl) ?_)
 refine VO.nil ?_
 refine V.keep 26 [5] [0] (E0 := [(5, .ref b0 3 0 0)]) (H0 := [(b0, ⟨3, [.agg [.vl ρ0 1 (List.map encU8 code), .int .i64 (0 : Int), .int .u64 (0 : Int)]]⟩)]) rfl (⟨_, _, rfl, rfl, rfl⟩) (⟨_, _, rfl, rfl, rfl⟩) rfl ?_
 refine V.seq ?_
 replace hm0 := bindO hm0; rcases hm0 with ⟨y0, hh0, hm0⟩
 refine V.region ?_
 refine VO.cons rfl (V1.move rfl rfl rfl (ltb rfl) ?_)
 refine VO.cons rfl (V1.callM 0 (rn + ρ0 + 1) [] [.ref b0 3 0 0] (p := (b0, ⟨3, [.agg [.vl ρ0 1 (List.map encU8 code), .int .i64 (0 : Int), .int .u64 (0 : Int)]]⟩)) rfl rfl rfl cok_200 rfl rfl ⟨_, _, rfl, .same _, rfl⟩ bwNil (ok_spec_l1Cur_files5 hh0) rfl (.inl rfl) (ltb rfl) ?_)
 rintro _ _ ⟨b1, rfl, rfl⟩
 refine VO.cons rfl (V1.assign rfl rfl rfl (ltb rfl) ?_)
 refine VO.nil ?_
 refine V.seq ?_
 replace hm0 := bindO hm0; rcases hm0 with ⟨y1, hh1, hm0⟩
 refine V.region ?_
 refine VO.cons rfl (V1.move rfl rfl rfl (ltb rfl) ?_)
 refine VO.cons rfl (V1.callM 1 (rn + ρ0 + 1) [] [.ref b0 3 0 0, .int .i64 (2 : Int)] (p := (b0, ⟨3, [encCur ρ0 y0.2]⟩)) rfl rfl rfl cok_153 rfl rfl ⟨_, _, rfl, .same _, ⟨_, _, rfl, .same _, rfl⟩⟩ bwNil (ok_spec_l1Cur_one hh1) rfl (.inl rfl) (ltb rfl) ?_)
 rintro _ _ ⟨rfl, rfl⟩
 refine VO.cons rfl (V1.assign rfl rfl rfl (ltb rfl) ?_)
 refine VO.nil ?_
 refine V.keep 26 [5, 6, 7] [0, 1] (E0 := [(5, .ref b0 3 0 0), (6, .sref b1 7 0 (List.length y0.1)), (7, .bool y1.1)]) (H0 := [(b0, ⟨3, [encCur ρ0 y1.2]⟩), (b1, ⟨7, List.map encFile y0.1⟩)]) rfl (⟨_, _, rfl, rfl, ⟨_, _, rfl, rfl, ⟨_, _, rfl, rfl, rfl⟩⟩⟩) (⟨_, _, rfl, rfl, ⟨_, _, rfl, rfl, rfl⟩⟩) rfl ?_
 refine V.seq ?_
 refine V.seq ?_
 refine V.region ?_
 refine VO.cons rfl (V1.move rfl rfl rfl (ltb rfl) ?_)
 refine VO.nil ?_
 refine V.cond rfl (fun hc0 => ?_) (fun hc0 => ?_)
 ·
  replace hm0 := cond_t hc0 hm0
  refine V.seq ?_
  replace hm0 := bindO hm0; rcases hm0 with ⟨y2, hh2, hm0⟩
  refine V.region ?_
  refine VO.cons rfl (V1.move rfl rfl rfl (ltb rfl) ?_)
  refine VO.cons rfl (V1.move rfl rfl rfl (ltb rfl) ?_)
  refine VO.cons rfl (V1.move rfl rfl rfl (ltb rfl) ?_)
  refine VO.cons rfl (V1.callM 0 (rn + ρ0 + 1) [b1] [.ref b0 3 0 0, .vl (rn + ρ0 + 1) 7 (List.map encFile y0.1), .int .i64 (2 : Int)] (p := (b0, ⟨3, [encCur ρ0 y1.2]⟩)) rfl rfl rfl cok_201 rfl rfl ⟨_, _, rfl, .same _, ⟨_, _, rfl, Lend.srMap 1 rfl (fun _ => rfl) (.head _), ⟨_, _, rfl, .same _, rfl⟩⟩⟩ (bwCons (k := 0) rfl bwNil) (ok_spec_l1Cur_fileId hh2) rfl (.inr ⟨(by first | omega | (dsimp only; omega)), by rintro _ _ ⟨rfl, rfl⟩; exact ⟨by simp [PV.no, PV.noL, optS_no, noL_iff, nbeq] <;> omega, by intro b ob h; first | exact optH_no (noL_map (fun _ => by simp [PV.no, PV.noL, noL_iff, nbeq]) _) b ob h | (simp at h; obtain ⟨rfl, rfl⟩ := h; exact noL_map (fun _ => by simp [PV.no, PV.noL, noL_iff, nbeq]) _) | (simp at h; obtain ⟨rfl, rfl⟩ := h; simp [PV.no, PV.noL, optS_no, noL_iff, nbeq] <;> omega)⟩⟩) (ltb rfl) ?_)
  rintro _ _ ⟨rfl, rfl⟩
  refine VO.cons rfl (V1.move rfl rfl rfl (ltb rfl) ?_)
  refine VO.cons rfl (V1.assign rfl rfl rfl (ltb rfl) ?_)
  refine VO.cons rfl (V1.assign rfl rfl rfl (ltb rfl) ?_)
  refine VO.cons rfl (V1.assign rfl rfl rfl (ltb rfl) ?_)
  refine VO.nil ?_
  refine V.keep 26 [2, 3, 4] [1] (E0 := [(2, .sref b1 7 0 (List.length y0.1)), (3, .int .i64 y2.1), (4, .bool y1.1)]) (H0 := [(b1, ⟨7, List.map encFile y0.1⟩)]) rfl (⟨_, _, rfl, rfl, ⟨_, _, rfl, rfl, ⟨_, _, rfl, rfl, rfl⟩⟩⟩) (⟨_, _, rfl, rfl, rfl⟩) rfl ?_
  refine V.ret ?_
  obtain rfl := Option.some.inj hm0
  exact ⟨_, _, ⟨_, _, rfl, rfl, ⟨_, _, rfl, rfl, ⟨_, _, rfl, rfl, rfl⟩⟩⟩, List.Sublist.refl _, b1, rfl, rfl⟩
 ·
  replace hm0 := cond_f hc0 hm0
  refine V.skip ?_
  refine V.seq ?_
  replace hm0 := bindO hm0; rcases hm0 with ⟨y3, hh3, hm0⟩
  refine V.region ?_
  refine VO.cons rfl (V1.move rfl rfl rfl (ltb rfl) ?_)
  refine VO.cons rfl (V1.move rfl rfl rfl (ltb rfl) ?_)
  refine VO.cons rfl (V1.move rfl rfl rfl (ltb rfl) ?_)
  refine VO.cons rfl (V1.callM 0 (rn + ρ0 + 1) [b1] [.ref b0 3 0 0, .vl (rn + ρ0 + 1) 7 (List.map encFile y0.1), .int .i64 (1 : Int)] (p := (b0, ⟨3, [encCur ρ0 y1.2]⟩)) rfl rfl rfl cok_201 rfl rfl ⟨_, _, rfl, .same _, ⟨_, _, rfl, Lend.srMap 1 rfl (fun _ => rfl) (.head _), ⟨_, _, rfl, .same _, rfl⟩⟩⟩ (bwCons (k := 0) rfl bwNil) (ok_spec_l1Cur_fileId hh3) rfl (.inr ⟨(by first | omega | (dsimp only; omega)), by rintro _ _ ⟨rfl, rfl⟩; exact ⟨by simp [PV.no, PV.noL, optS_no, noL_iff, nbeq] <;> omega, by intro b ob h; first | exact optH_no (noL_map (fun _ => by simp [PV.no, PV.noL, noL_iff, nbeq]) _) b ob h | (simp at h; obtain ⟨rfl, rfl⟩ := h; exact noL_map (fun _ => by simp [PV.no, PV.noL, noL_iff, nbeq]) _) | (simp at h; obtain ⟨rfl, rfl⟩ := h; simp [PV.no, PV.noL, optS_no, noL_iff, nbeq] <;> omega)⟩⟩) (ltb rfl) ?_)
  rintro _ _ ⟨rfl, rfl⟩
  refine VO.cons rfl (V1.move rfl rfl rfl (ltb rfl) ?_)
  refine VO.cons rfl (V1.assign rfl rfl rfl (ltb rfl) ?_)
  refine VO.cons rfl (V1.assign rfl rfl rfl (ltb rfl) ?_)
  refine VO.cons rfl (V1.assign rfl rfl rfl (ltb rfl) ?_)
  refine VO.nil ?_
  refine V.keep 26 [2, 3, 4] [1] (E0 := [(2, .sref b1 7 0 (List.length y0.1)), (3, .int .i64 y3.1), (4, .bool y1.1)]) (H0 := [(b1, ⟨7, List.map encFile y0.1⟩)]) rfl (⟨_, _, rfl, rfl, ⟨_, _, rfl, rfl, ⟨_, _, rfl, rfl, rfl⟩⟩⟩) (⟨_, _, rfl, rfl, rfl⟩) rfl ?_
  refine V.ret ?_
  obtain rfl := Option.some.inj hm0
  exact ⟨_, _, ⟨_, _, rfl, rfl, ⟨_, _, rfl, rfl, ⟨_, _, rfl, rfl, rfl⟩⟩⟩, List.Sublist.refl _, b1, rfl, rfl⟩

theorem ok_impl_LendFile {ρ0 rn : Nat} {list : List File} {id_ : Int} {back : Bool} {r : List File × Bool} (h : M.impl_LendFile list id_ back = some r) : Does Tryd.prog 69 [.vl ρ0 7 (List.map encFile list), .int .i64 id_, .bool back] [] rn (fun x H => ∃ (ob0_ : Option Nat), (ob0_ = none → r.1 = []) ∧ x = .tup [optS 7 ob0_ (List.length r.1), .bool r.2] ∧ H = optH 7 ob0_ (List.map encFile r.1)) := by
 have hm0 := h; clear h; unfold M.impl_LendFile at hm0
 try dsimp only at hm0
 refine Does.intro (N := 33) Tryd.func69 rfl rfl rfl rfl ?_
 intro w0 S0
 refine V.seq ?_
 refine V.region ?_
 refine VO.cons rfl (V1.assign rfl rfl rfl (ltb rfl) ?_)
 refine VO.cons rfl (V1.assign rfl rfl rfl (ltb rfl) ?_)
 refine VO.nil ?_
 refine V.seq ?_
 refine V.region ?_
 refine VO.cons rfl (V1.assign rfl rfl rfl (ltb rfl) ?_)
 refine VO.cons rfl (V1.assign rfl rfl rfl (ltb rfl) ?_)
 refine VO.nil ?_
 refine V.seq ?_
 replace hm0 := bindO hm0; rcases hm0 with ⟨j0, hm1, hm0⟩
 refine V.cutT (D := (Int × Int) × (Unit)) (fun ⟨⟨from_, to_⟩, _⟩ => ⟨33, [(8, .int .i64 from_), (9, .int .i64 to_), (0, .vl ρ0 7 (List.map encFile list)), (1, .int .i64 id_)], []⟩) (fun ⟨⟨from_, to_⟩, _⟩ => ((from_, to_) = j0)) ?_ ?_
 ·
  refine V.seq ?_
  refine V.region ?_
  refine VO.cons rfl (V1.move rfl rfl rfl (ltb rfl) ?_)
  refine VO.nil ?_
  refine V.cond rfl (fun hc0 => ?_) (fun hc0 => ?_)
  ·
   replace hm1 := cond_t hc0 hm1
   refine V.region ?_
   refine VO.cons rfl (V1.move rfl rfl rfl (ltb rfl) ?_)
   refine VO.cons rfl (V1.move rfl rfl rfl (ltb rfl) ?_)
   refine VO.cons rfl (V1.assign rfl rfl rfl (ltb rfl) ?_)
   refine VO.cons rfl (V1.assign rfl rfl rfl (ltb rfl) ?_)
   refine VO.nil ?_
   exact ⟨(((2 : Int), (1 : Int)), ()), Option.some.inj hm1, Keeps.mk (ks := []) rfl ⟨rfl, rfl, rfl, rfl, trivial⟩ (rfl) rfl⟩
  ·
   replace hm1 := cond_f hc0 hm1
   refine V.skip ?_
   exact ⟨(((1 : Int), (2 : Int)), ()), Option.some.inj hm1, Keeps.mk (ks := []) rfl ⟨rfl, rfl, rfl, rfl, trivial⟩ (rfl) rfl⟩
 ·
  rintro ⟨⟨from_, to_⟩, _⟩ rfl
  try dsimp only at hm0
  refine V.seq ?_
  replace hm0 := bindO hm0; rcases hm0 with ⟨y0, hh0, hm0⟩
  refine V.region ?_
  refine VO.cons rfl (V1.move rfl rfl rfl (ltb rfl) ?_)
  refine VO.cons rfl (V1.move rfl rfl rfl (ltb rfl) ?_)
  refine VO.cons rfl (V1.move rfl rfl rfl (ltb rfl) ?_)
  refine VO.cons rfl (V1.call rfl rfl rfl cok_203 rfl (ok_impl_inState hh0) rfl (ltb rfl) ?_)
  rintro _ _ ⟨rfl, rfl⟩
  refine VO.cons rfl (V1.move rfl rfl rfl (ltb rfl) ?_)
  refine VO.cons rfl (V1.extract rfl rfl rfl rfl (ltb rfl) ?_)
  refine VO.cons rfl (V1.extract rfl rfl rfl rfl (ltb rfl) ?_)
  refine VO.cons rfl (V1.assign rfl rfl rfl (ltb rfl) ?_)
  refine VO.cons rfl (V1.assign rfl rfl rfl (ltb rfl) ?_)
  refine VO.nil ?_
  refine V.keep 33 [0, 9, 10, 11] [] (E0 := [(0, .vl ρ0 7 (List.map encFile list)), (9, .int .i64 to_), (10, .int .i64 y0.1), (11, .bool y0.2)]) (H0 := []) rfl (⟨_, _, rfl, rfl, ⟨_, _, rfl, rfl, ⟨_, _, rfl, rfl, ⟨_, _, rfl, rfl, rfl⟩⟩⟩⟩) (rfl) rfl ?_
  refine V.seq ?_
  refine V.seq ?_
  refine V.region ?_
  refine VO.cons rfl (V1.move rfl rfl rfl (ltb rfl) ?_)
  refine VO.cons rfl (V1.not rfl rfl rfl (ltb rfl) ?_)
  refine VO.nil ?_
  refine V.cond rfl (fun hc1 => ?_) (fun hc1 => ?_)
  ·
   replace hm0 := cond_t hc1 hm0
   refine V.seq ?_
   refine V.region ?_
   refine VO.cons rfl (V1.assign rfl rfl rfl (ltb rfl) ?_)
   refine VO.cons rfl (V1.assign rfl rfl rfl (ltb rfl) ?_)
   refine VO.nil ?_
   refine V.keep 33 [6, 7] [] (E0 := [(6, .nils), (7, .bool false)]) (H0 := []) rfl (⟨_, _, rfl, rfl, ⟨_, _, rfl, rfl, rfl⟩⟩) (rfl) rfl ?_
   refine V.ret ?_
   obtain rfl := Option.some.inj hm0
   exact ⟨_, _, ⟨_, _, rfl, rfl, ⟨_, _, rfl, rfl, rfl⟩⟩, List.Sublist.refl _, none, (fun _ => rfl), rfl, rfl⟩
  ·
   replace hm0 := cond_f hc1 hm0
   refine V.skip ?_
   refine V.seq ?_
   replace hm0 := bindO hm0; rcases hm0 with ⟨y1, hh1, hm0⟩
   refine V.region ?_
   refine VO.cons rfl (V1.move rfl rfl rfl (ltb rfl) ?_)
   refine VO.cons rfl (V1.permK (V1.call rfl rfl rfl cok_205 rfl (ok_slices_Clone_impl_File_impl_File hh1) rfl (ltb rfl) ?_))
   rintro _ _ ⟨ob0, hob0, rfl, rfl⟩
   refine ⟨_, ?_, Keeps.optBack (n := 7) (ob := ob0) (xs := List.map encFile y1) (H1 := []) (H2 := []) rfl⟩
   refine VO.cons rfl (V1.assign rfl rfl rfl (ltb rfl) ?_)
   refine VO.nil ?_
   rcases ob0 with _ | ob0
   ·
    refine V.keep 33 [9, 10, 12] [] (E0 := [(9, .int .i64 to_), (10, .int .i64 y0.1), (12, .nils)]) (H0 := []) rfl (⟨_, _, rfl, rfl, ⟨_, _, rfl, rfl, ⟨_, _, rfl, rfl, rfl⟩⟩⟩) (rfl) rfl ?_
    refine V.seq ?_
    replace hm0 := asrt_some hm0; rcases hm0 with ⟨hh2, hm0⟩
    refine V.region ?_
    refine VO.cons rfl (V1.move rfl rfl rfl (ltb rfl) ?_)
    refine VO.cons rfl (V1.move rfl rfl rfl (ltb rfl) ?_)
    refine VO.cons rfl (V1.move rfl rfl rfl (ltb rfl) ?_)
    refine VO.weakenK (Keeps.nilsE (l := y1) 27 rn 7 encFile (hob0 rfl) rfl rfl) ?_
    refine VO.cons rfl (V1.indexI rfl rfl esz_78 rfl rfl hh2 (ltb rfl) ?_)
    refine VO.cons rfl (V1.fieldPin rfl rfl fo_93_5 rfl (ltb rfl) ?_)
    exact (nilsNo (hob0 rfl) hh2).elim
   ·
    refine V.keep 33 [9, 10, 12] [0] (E0 := [(9, .int .i64 to_), (10, .int .i64 y0.1), (12, .sref ob0 7 0 (List.length y1))]) (H0 := [(ob0, ⟨7, List.map encFile y1⟩)]) rfl (⟨_, _, rfl, rfl, ⟨_, _, rfl, rfl, ⟨_, _, rfl, rfl, rfl⟩⟩⟩) (⟨_, _, rfl, rfl, rfl⟩) rfl ?_
    refine V.seq ?_
    replace hm0 := asrt_some hm0; rcases hm0 with ⟨hh2, hm0⟩
    refine V.region ?_
    refine VO.cons rfl (V1.move rfl rfl rfl (ltb rfl) ?_)
    refine VO.cons rfl (V1.move rfl rfl rfl (ltb rfl) ?_)
    refine VO.cons rfl (V1.move rfl rfl rfl (ltb rfl) ?_)
    refine VO.cons rfl (V1.indexSr rfl rfl esz_78 rfl rfl hh2 (ltb rfl) ?_)
    refine VO.cons rfl (V1.fieldRef rfl rfl fo_93_5 rfl (ltb rfl) ?_)
    refine VO.cons rfl (V1.storeMapCell (k := 0) (f := encFile) (x := (⟨(y1.getD (Int.toNat y0.1) default).Id, (y1.getD (Int.toNat y0.1) default).Series, (y1.getD (Int.toNat y0.1) default).Title, (y1.getD (Int.toNat y0.1) default).Opened, (y1.getD (Int.toNat y0.1) default).Closed, to_, (y1.getD (Int.toNat y0.1) default).Pages⟩ : File)) rfl rfl tyk_3 rfl rfl (by simpa using natLt hh2.1 hh2.2) rfl rfl rfl rfl rfl rfl ?_)
    refine VO.weakenK (Keeps.say 12 (y := .sref ob0 7 0 (List.length (y1.set (Int.toNat y0.1) (⟨(y1.getD (Int.toNat y0.1) default).Id, (y1.getD (Int.toNat y0.1) default).Series, (y1.getD (Int.toNat y0.1) default).Title, (y1.getD (Int.toNat y0.1) default).Opened, (y1.getD (Int.toNat y0.1) default).Closed, to_, (y1.getD (Int.toNat y0.1) default).Pages⟩ : File)))) rfl (by simp [optS])) ?_
    refine VO.nil ?_
    refine V.keep 33 [12] [0] (E0 := [(12, .sref ob0 7 0 (List.length (y1.set (Int.toNat y0.1) (⟨(y1.getD (Int.toNat y0.1) default).Id, (y1.getD (Int.toNat y0.1) default).Series, (y1.getD (Int.toNat y0.1) default).Title, (y1.getD (Int.toNat y0.1) default).Opened, (y1.getD (Int.toNat y0.1) default).Closed, to_, (y1.getD (Int.toNat y0.1) default).Pages⟩ : File))))]) (H0 := [(ob0, ⟨7, List.map encFile (y1.set (Int.toNat y0.1) (⟨(y1.getD (Int.toNat y0.1) default).Id, (y1.getD (Int.toNat y0.1) default).Series, (y1.getD (Int.toNat y0.1) default).Title, (y1.getD (Int.toNat y0.1) default).Opened, (y1.getD (Int.toNat y0.1) default).Closed, to_, (y1.getD (Int.toNat y0.1) default).Pages⟩ : File))⟩)]) rfl (⟨_, _, rfl, rfl, rfl⟩) (⟨_, _, rfl, rfl, rfl⟩) rfl ?_
    refine V.seq ?_
    refine V.region ?_
    refine VO.cons rfl (V1.move rfl rfl rfl (ltb rfl) ?_)
    refine VO.cons rfl (V1.assign rfl rfl rfl (ltb rfl) ?_)
    refine VO.cons rfl (V1.assign rfl rfl rfl (ltb rfl) ?_)
    refine VO.nil ?_
    refine V.keep 33 [6, 7] [0] (E0 := [(6, .sref ob0 7 0 (List.length (y1.set (Int.toNat y0.1) (⟨(y1.getD (Int.toNat y0.1) default).Id, (y1.getD (Int.toNat y0.1) default).Series, (y1.getD (Int.toNat y0.1) default).Title, (y1.getD (Int.toNat y0.1) default).Opened, (y1.getD (Int.toNat y0.1) default).Closed, to_, (y1.getD (Int.toNat y0.1) default).Pages⟩ : File)))), (7, .bool true)]) (H0 := [(ob0, ⟨7, List.map encFile (y1.set (Int.toNat y0.1) (⟨(y1.getD (Int.toNat y0.1) default).Id, (y1.getD (Int.toNat y0.1) default).Series, (y1.getD (Int.toNat y0.1) default).Title, (y1.getD (Int.toNat y0.1) default).Opened, (y1.getD (Int.toNat y0.1) default).Closed, to_, (y1.getD (Int.toNat y0.1) default).Pages⟩ : File))⟩)]) rfl (⟨_, _, rfl, rfl, ⟨_, _, rfl, rfl, rfl⟩⟩) (⟨_, _, rfl, rfl, rfl⟩) rfl ?_
    refine V.ret ?_
    obtain rfl := Option.some.inj hm0
    exact ⟨_, _, ⟨_, _, rfl, rfl, ⟨_, _, rfl, rfl, rfl⟩⟩, List.Sublist.refl _, some ob0, (fun e => by cases e), rfl, rfl⟩

theorem ok_spec_LendFile {ρ0 rn : Nat} {list : List File} {id_ : Int} {back : Bool} {r : List File × Bool} (h : M.spec_LendFile list id_ back = some r) : Does Tryd.prog 70 [.vl ρ0 7 (List.map encFile list), .int .i64 id_, .bool back] [] rn (fun x H => ∃ (ob0_ : Nat), x = .tup [PV.sref ob0_ 7 0 (List.length r.1), .bool r.2] ∧ H = [(ob0_, ⟨7, List.map encFile r.1⟩)]) := by
 have hm0 := h; clear h; unfold M.spec_LendFile at hm0
 try dsimp only at hm0
 refine Does.intro (N := 37) Tryd.func70 rfl rfl rfl rfl ?_
 intro w0 S0
 refine V.seq ?_
 refine V.region ?_
 refine VO.cons rfl (V1.assign rfl rfl rfl (ltb rfl) ?_)
 refine VO.cons rfl (V1.assign rfl rfl rfl (ltb rfl) ?_)
 refine VO.nil ?_
 refine V.seq ?_
 refine V.region ?_
 refine VO.cons rfl (V1.assign rfl rfl rfl (ltb rfl) ?_)
 refine VO.cons rfl (V1.assign rfl rfl rfl (ltb rfl) ?_)
 refine VO.nil ?_
 refine V.seq ?_
 replace hm0 := bindO hm0; rcases hm0 with ⟨j0, hm1, hm0⟩
 refine V.cutT (D := (Int × Int) × (Unit)) (fun ⟨⟨from_, to_⟩, _⟩ => ⟨37, [(8, .int .i64 from_), (9, .int .i64 to_), (0, .vl ρ0 7 (List.map encFile list)), (1, .int .i64 id_)], []⟩) (fun ⟨⟨from_, to_⟩, _⟩ => ((from_, to_) = j0)) ?_ ?_
 ·
  refine V.seq ?_
  refine V.region ?_
  refine VO.cons rfl (V1.move rfl rfl rfl (ltb rfl) ?_)
  refine VO.nil ?_
  refine V.cond rfl (fun hc0 => ?_) (fun hc0 => ?_)
  ·
   replace hm1 := cond_t hc0 hm1
   refine V.seq ?_
   refine V.region ?_
   refine VO.cons rfl (V1.assign rfl rfl rfl (ltb rfl) ?_)
   refine VO.nil ?_
   refine V.keep 37 [0, 1, 8] [] (E0 := [(0, .vl ρ0 7 (List.map encFile list)), (1, .int .i64 id_), (8, .int .i64 (2 : Int))]) (H0 := []) rfl (⟨_, _, rfl, rfl, ⟨_, _, rfl, rfl, ⟨_, _, rfl, rfl, rfl⟩⟩⟩) (rfl) rfl ?_
   refine V.region ?_
   refine VO.cons rfl (V1.assign rfl rfl rfl (ltb rfl) ?_)
   refine VO.nil ?_
   exact ⟨(((2 : Int), (1 : Int)), ()), Option.some.inj hm1, Keeps.mk (ks := []) rfl ⟨rfl, rfl, rfl, rfl, trivial⟩ (rfl) rfl⟩
  ·
   replace hm1 := cond_f hc0 hm1
   refine V.skip ?_
   exact ⟨(((1 : Int), (2 : Int)), ()), Option.some.inj hm1, Keeps.mk (ks := []) rfl ⟨rfl, rfl, rfl, rfl, trivial⟩ (rfl) rfl⟩
 ·
  rintro ⟨⟨from_, to_⟩, _⟩ rfl
  try dsimp only at hm0
  refine V.seq ?_
  replace hm0 := bindO hm0; rcases hm0 with ⟨y0, hh0, hm0⟩
  refine V.region ?_
  refine VO.cons rfl (V1.move rfl rfl rfl (ltb rfl) ?_)
  refine VO.cons rfl (V1.move rfl rfl rfl (ltb rfl) ?_)
  refine VO.cons rfl (V1.move rfl rfl rfl (ltb rfl) ?_)
  refine VO.cons rfl (V1.call rfl rfl rfl cok_206 rfl (ok_spec_l5Find hh0) rfl (ltb rfl) ?_)
  rintro _ _ ⟨rfl, rfl⟩
  refine VO.cons rfl (V1.assign rfl rfl rfl (ltb rfl) ?_)
  refine VO.nil ?_
  refine V.keep 37 [0, 9, 10] [] (E0 := [(0, .vl ρ0 7 (List.map encFile list)), (9, .int .i64 to_), (10, .int .i64 y0)]) (H0 := []) rfl (⟨_, _, rfl, rfl, ⟨_, _, rfl, rfl, ⟨_, _, rfl, rfl, rfl⟩⟩⟩) (rfl) rfl ?_
  refine V.seq ?_
  refine V.seq ?_
  refine V.region ?_
  refine VO.cons rfl (V1.move rfl rfl rfl (ltb rfl) ?_)
  refine VO.cons rfl (V1.int rfl rfl rfl rfl rfl (ltb rfl) ?_)
  refine VO.nil ?_
  refine V.cond rfl (fun hc1 => ?_) (fun hc1 => ?_)
  ·
   replace hm0 := cond_t hc1 hm0
   refine V.seq ?_
   refine V.region ?_
   refine VO.cons rfl (V1.buildSliceT (f := encFile) ([] : List File) rfl rfl esz_78 zk_93 rfl rfl rfl rfl rfl rfl rfl (ltb rfl) ?_)
   intro b0
   refine VO.cons rfl (V1.assign rfl rfl rfl (ltb rfl) ?_)
   refine VO.cons rfl (V1.assign rfl rfl rfl (ltb rfl) ?_)
   refine VO.nil ?_
   refine V.keep 37 [6, 7] [0] (E0 := [(6, .sref b0 7 0 (List.length ([] : List File))), (7, .bool false)]) (H0 := [(b0, ⟨7, List.map encFile ([] : List File)⟩)]) rfl (⟨_, _, rfl, rfl, ⟨_, _, rfl, rfl, rfl⟩⟩) (⟨_, _, rfl, rfl, rfl⟩) rfl ?_
   refine V.ret ?_
   obtain rfl := Option.some.inj hm0
   exact ⟨_, _, ⟨_, _, rfl, rfl, ⟨_, _, rfl, rfl, rfl⟩⟩, List.Sublist.refl _, b0, rfl, rfl⟩
  ·
   replace hm0 := cond_f hc1 hm0
   refine V.skip ?_
   refine V.seq ?_
   replace hm0 := asrt_some hm0; rcases hm0 with ⟨hh1, hm0⟩
   refine V.region ?_
   refine VO.cons rfl (V1.move rfl rfl rfl (ltb rfl) ?_)
   refine VO.cons rfl (V1.move rfl rfl rfl (ltb rfl) ?_)
   refine VO.cons rfl (V1.indexI rfl rfl esz_78 rfl rfl hh1 (ltb rfl) ?_)
   refine VO.cons rfl (V1.loadPinAll rfl rfl tyk_93 rfl rfl (ltb rfl) ?_)
   refine VO.cons rfl (V1.alloc rfl rfl zk_93 (ltb rfl) ?_)
   intro b1
   refine VO.cons rfl (V1.storeRefAll (k := 0) rfl rfl tyk_93 rfl rfl rfl rfl rfl rfl ?_)
   refine VO.nil ?_
   refine V.keep 37 [0, 9, 10, 11] [0] (E0 := [(0, .vl ρ0 7 (List.map encFile list)), (9, .int .i64 to_), (10, .int .i64 y0), (11, .ref b1 7 0 0)]) (H0 := [(b1, ⟨7, [encFile (list.getD (Int.toNat y0) default)]⟩)]) rfl (⟨_, _, rfl, rfl, ⟨_, _, rfl, rfl, ⟨_, _, rfl, rfl, ⟨_, _, rfl, rfl, rfl⟩⟩⟩⟩) (⟨_, _, rfl, rfl, rfl⟩) rfl ?_
   refine V.seq ?_
   refine V.region ?_
   refine VO.cons rfl (V1.move rfl rfl rfl (ltb rfl) ?_)
   refine VO.cons rfl (V1.fieldRef rfl rfl fo_93_5 rfl (ltb rfl) ?_)
   refine VO.cons rfl (V1.storeRef (k := 0) rfl rfl tyk_3 rfl rfl rfl rfl rfl rfl rfl rfl rfl ?_)
   refine VO.nil ?_
   refine V.seq ?_
   replace hm0 := bindO hm0; rcases hm0 with ⟨y1, hh2, hm0⟩
   refine V.region ?_
   refine VO.cons rfl (V1.move rfl rfl rfl (ltb rfl) ?_)
   refine VO.cons rfl (V1.move rfl rfl rfl (ltb rfl) ?_)
   refine VO.cons rfl (V1.loadRefAll (k := 0) rfl rfl tyk_93 rfl rfl rfl rfl rfl (ltb rfl) ?_)
   refine VO.cons rfl (V1.call rfl rfl rfl cok_207 rfl (ok_spec_l5With hh2) rfl (ltb rfl) ?_)
   rintro _ _ ⟨b2, rfl, rfl⟩
   refine VO.cons rfl (V1.move rfl rfl rfl (ltb rfl) ?_)
   refine VO.cons rfl (V1.extract rfl rfl rfl rfl (ltb rfl) ?_)
   refine VO.cons rfl (V1.extract rfl rfl rfl rfl (ltb rfl) ?_)
   refine VO.cons rfl (V1.assign rfl rfl rfl (ltb rfl) ?_)
   refine VO.cons rfl (V1.assign rfl rfl rfl (ltb rfl) ?_)
   refine VO.nil ?_
   refine V.keep 37 [12, 13] [0] (E0 := [(12, .sref b2 7 0 (List.length y1.1)), (13, .bool y1.2)]) (H0 := [(b2, ⟨7, List.map encFile y1.1⟩)]) rfl (⟨_, _, rfl, rfl, ⟨_, _, rfl, rfl, rfl⟩⟩) (⟨_, _, rfl, rfl, rfl⟩) rfl ?_
   refine V.seq ?_
   refine V.region ?_
   refine VO.cons rfl (V1.move rfl rfl rfl (ltb rfl) ?_)
   refine VO.cons rfl (V1.move rfl rfl rfl (ltb rfl) ?_)
   refine VO.cons rfl (V1.assign rfl rfl rfl (ltb rfl) ?_)
   refine VO.cons rfl (V1.assign rfl rfl rfl (ltb rfl) ?_)
   refine VO.nil ?_
   refine V.keep 37 [6, 7] [0] (E0 := [(6, .sref b2 7 0 (List.length y1.1)), (7, .bool y1.2)]) (H0 := [(b2, ⟨7, List.map encFile y1.1⟩)]) rfl (⟨_, _, rfl, rfl, ⟨_, _, rfl, rfl, rfl⟩⟩) (⟨_, _, rfl, rfl, rfl⟩) rfl ?_
   refine V.ret ?_
   obtain rfl := Option.some.inj hm0
   exact ⟨_, _, ⟨_, _, rfl, rfl, ⟨_, _, rfl, rfl, rfl⟩⟩, List.Sublist.refl _, b2, rfl, rfl⟩

theorem ok_spec_DrawReopenFile {ρ0 rn : Nat} {code : List Int} {r : List File × Int} (h : M.spec_DrawReopenFile code = some r) : Does Tryd.prog 71 [.vl ρ0 1 (List.map encU8 code)] [] rn (fun x H => ∃ (ob0_ : Nat), x = .tup [PV.sref ob0_ 7 0 (List.length r.1), .int .i64 r.2] ∧ H = [(ob0_, ⟨7, List.map encFile r.1⟩)]) := by
 have hm0 := h; clear h; unfold M.spec_DrawReopenFile at hm0
 try dsimp only at hm0
 refine Does.intro (N := 15) Tryd.func71 rfl rfl rfl rfl ?_
 intro w0 S0
 refine V.seq ?_
 refine V.region ?_
 refine VO.cons rfl (V1.assign rfl rfl rfl (ltb rfl) ?_)
 refine VO.cons rfl (V1.assign rfl rfl rfl (ltb rfl) ?_)
 refine VO.nil ?_
 refine V.seq ?_
 refine V.region ?_
 refine VO.cons rfl (V1.move rfl rfl rfl (ltb rfl) ?_)
 refine VO.cons rfl (V1.build rfl rfl zk_164 pl_164 rfl rfl (ltb rfl) ?_)
 refine VO.cons rfl (V1.boxN (n := 3) rfl rfl rfl rfl rfl (ltb rfl) ?_)
 intro b0
 refine VO.cons rfl (V1.assign rfl rfl rfl (ltb rfl) ?_)
 refine VO.nil ?_
 refine V.keep 15 [4] [0] (E0 := [(4, .ref b0 3 0 0)]) (H0 := [(b0, ⟨3, [.agg [.vl ρ0 1 (List.map encU8 code), .int .i64 (0 : Int), .int .u64 (0 : Int)]]⟩)]) rfl (⟨_, _, rfl, rfl, rfl⟩) (⟨_, _, rfl, rfl, rfl⟩) rfl ?_
 refine V.seq ?_
 replace hm0 := bindO hm0; rcases hm0 with ⟨y0, hh0, hm0⟩
 refine V.region ?_
 refine VO.cons rfl (V1.move rfl rfl rfl (ltb rfl) ?_)
 refine VO.cons rfl (V1.callM 0 (rn + ρ0 + 1) [] [.ref b0 3 0 0] (p := (b0, ⟨3, [.agg [.vl ρ0 1 (List.map encU8 code), .int .i64 (0 : Int), .int .u64 (0 : Int)]]⟩)) rfl rfl rfl cok_200 rfl rfl ⟨_, _, rfl, .same _, rfl⟩ bwNil (ok_spec_l1Cur_files5 hh0) rfl (.inl rfl) (ltb rfl) ?_)
 rintro _ _ ⟨b1, rfl, rfl⟩
 refine VO.cons rfl (V1.assign rfl rfl rfl (ltb rfl) ?_)
 refine VO.nil ?_
 refine V.seq ?_
 replace hm0 := bindO hm0; rcases hm0 with ⟨y1, hh1, hm0⟩
 refine V.region ?_
 refine VO.cons rfl (V1.move rfl rfl rfl (ltb rfl) ?_)
 refine VO.cons rfl (V1.move rfl rfl rfl (ltb rfl) ?_)
 refine VO.cons rfl (V1.move rfl rfl rfl (ltb rfl) ?_)
 refine VO.cons rfl (V1.callM 1 (rn + ρ0 + 1) [b1] [.ref b0 3 0 0, .vl (rn + ρ0 + 1) 7 (List.map encFile y0.1), .int .i64 (1 : Int)] (p := (b0, ⟨3, [encCur ρ0 y0.2]⟩)) rfl rfl rfl cok_201 rfl rfl ⟨_, _, rfl, .same _, ⟨_, _, rfl, Lend.srMap 0 rfl (fun _ => rfl) (.head _), ⟨_, _, rfl, .same _, rfl⟩⟩⟩ (bwCons (k := 0) rfl bwNil) (ok_spec_l1Cur_fileId hh1) rfl (.inr ⟨(by first | omega | (dsimp only; omega)), by rintro _ _ ⟨rfl, rfl⟩; exact ⟨by simp [PV.no, PV.noL, optS_no, noL_iff, nbeq] <;> omega, by intro b ob h; first | exact optH_no (noL_map (fun _ => by simp [PV.no, PV.noL, noL_iff, nbeq]) _) b ob h | (simp at h; obtain ⟨rfl, rfl⟩ := h; exact noL_map (fun _ => by simp [PV.no, PV.noL, noL_iff, nbeq]) _) | (simp at h; obtain ⟨rfl, rfl⟩ := h; simp [PV.no, PV.noL, optS_no, noL_iff, nbeq] <;> omega)⟩⟩) (ltb rfl) ?_)
 rintro _ _ ⟨rfl, rfl⟩
 refine VO.cons rfl (V1.assign rfl rfl rfl (ltb rfl) ?_)
 refine VO.cons rfl (V1.assign rfl rfl rfl (ltb rfl) ?_)
 refine VO.nil ?_
 refine V.keep 15 [2, 3] [1] (E0 := [(2, .sref b1 7 0 (List.length y0.1)), (3, .int .i64 y1.1)]) (H0 := [(b1, ⟨7, List.map encFile y0.1⟩)]) rfl (⟨_, _, rfl, rfl, ⟨_, _, rfl, rfl, rfl⟩⟩) (⟨_, _, rfl, rfl, rfl⟩) rfl ?_
 refine V.ret ?_
 obtain rfl := Option.some.inj hm0
 exact ⟨_, _, ⟨_, _, rfl, rfl, ⟨_, _, rfl, rfl, rfl⟩⟩, List.Sublist.refl _, b1, rfl, rfl⟩

theorem ok_spec_ReopenFile {ρ0 rn : Nat} {list : List File} {id_ : Int} {r : List File × Bool} (h : M.spec_ReopenFile list id_ = some r) : Does Tryd.prog 72 [.vl ρ0 7 (List.map encFile list), .int .i64 id_] [] rn (fun x H => ∃ (ob0_ : Nat), x = .tup [PV.sref ob0_ 7 0 (List.length r.1), .bool r.2] ∧ H = [(ob0_, ⟨7, List.map encFile r.1⟩)]) := by
 have hm0 := h; clear h; unfold M.spec_ReopenFile at hm0
 try dsimp only at hm0
 refine Does.intro (N := 31) Tryd.func72 rfl rfl rfl rfl ?_
 intro w0 S0
 refine V.seq ?_
 refine V.region ?_
 refine VO.cons rfl (V1.assign rfl rfl rfl (ltb rfl) ?_)
 refine VO.cons rfl (V1.assign rfl rfl rfl (ltb rfl) ?_)
 refine VO.nil ?_
 refine V.seq ?_
 replace hm0 := bindO hm0; rcases hm0 with ⟨y0, hh0, hm0⟩
 refine V.region ?_
 refine VO.cons rfl (V1.move rfl rfl rfl (ltb rfl) ?_)
 refine VO.cons rfl (V1.move rfl rfl rfl (ltb rfl) ?_)
 refine VO.cons rfl (V1.call rfl rfl rfl cok_206 rfl (ok_spec_l5Find hh0) rfl (ltb rfl) ?_)
 rintro _ _ ⟨rfl, rfl⟩
 refine VO.cons rfl (V1.assign rfl rfl rfl (ltb rfl) ?_)
 refine VO.nil ?_
 refine V.keep 31 [0, 6] [] (E0 := [(0, .vl ρ0 7 (List.map encFile list)), (6, .int .i64 y0)]) (H0 := []) rfl (⟨_, _, rfl, rfl, ⟨_, _, rfl, rfl, rfl⟩⟩) (rfl) rfl ?_
 refine V.seq ?_
 refine V.seq ?_
 refine V.region ?_
 refine VO.cons rfl (V1.move rfl rfl rfl (ltb rfl) ?_)
 refine VO.cons rfl (V1.int rfl rfl rfl rfl rfl (ltb rfl) ?_)
 refine VO.nil ?_
 refine V.cond rfl (fun hc0 => ?_) (fun hc0 => ?_)
 ·
  replace hm0 := cond_t hc0 hm0
  refine V.seq ?_
  refine V.region ?_
  refine VO.cons rfl (V1.buildSliceT (f := encFile) ([] : List File) rfl rfl esz_78 zk_93 rfl rfl rfl rfl rfl rfl rfl (ltb rfl) ?_)
  intro b0
  refine VO.cons rfl (V1.assign rfl rfl rfl (ltb rfl) ?_)
  refine VO.cons rfl (V1.assign rfl rfl rfl (ltb rfl) ?_)
  refine VO.nil ?_
  refine V.keep 31 [4, 5] [0] (E0 := [(4, .sref b0 7 0 (List.length ([] : List File))), (5, .bool false)]) (H0 := [(b0, ⟨7, List.map encFile ([] : List File)⟩)]) rfl (⟨_, _, rfl, rfl, ⟨_, _, rfl, rfl, rfl⟩⟩) (⟨_, _, rfl, rfl, rfl⟩) rfl ?_
  refine V.ret ?_
  obtain rfl := Option.some.inj hm0
  exact ⟨_, _, ⟨_, _, rfl, rfl, ⟨_, _, rfl, rfl, rfl⟩⟩, List.Sublist.refl _, b0, rfl, rfl⟩
 ·
  replace hm0 := cond_f hc0 hm0
  refine V.skip ?_
  refine V.seq ?_
  replace hm0 := asrt_some hm0; rcases hm0 with ⟨hh1, hm0⟩
  refine V.region ?_
  refine VO.cons rfl (V1.move rfl rfl rfl (ltb rfl) ?_)
  refine VO.cons rfl (V1.move rfl rfl rfl (ltb rfl) ?_)
  refine VO.cons rfl (V1.indexI rfl rfl esz_78 rfl rfl hh1 (ltb rfl) ?_)
  refine VO.cons rfl (V1.loadPinAll rfl rfl tyk_93 rfl rfl (ltb rfl) ?_)
  refine VO.cons rfl (V1.alloc rfl rfl zk_93 (ltb rfl) ?_)
  intro b1
  refine VO.cons rfl (V1.storeRefAll (k := 0) rfl rfl tyk_93 rfl rfl rfl rfl rfl rfl ?_)
  refine VO.nil ?_
  refine V.keep 31 [0, 6, 7] [0] (E0 := [(0, .vl ρ0 7 (List.map encFile list)), (6, .int .i64 y0), (7, .ref b1 7 0 0)]) (H0 := [(b1, ⟨7, [encFile (list.getD (Int.toNat y0) default)]⟩)]) rfl (⟨_, _, rfl, rfl, ⟨_, _, rfl, rfl, ⟨_, _, rfl, rfl, rfl⟩⟩⟩) (⟨_, _, rfl, rfl, rfl⟩) rfl ?_
  refine V.seq ?_
  refine V.region ?_
  refine VO.cons rfl (V1.fieldRef rfl rfl fo_93_5 rfl (ltb rfl) ?_)
  refine VO.cons rfl (V1.storeRef (k := 0) rfl rfl tyk_3 rfl rfl rfl rfl rfl rfl rfl rfl rfl ?_)
  refine VO.nil ?_
  refine V.seq ?_
  refine V.region ?_
  refine VO.cons rfl (V1.fieldRef rfl rfl fo_93_4 rfl (ltb rfl) ?_)
  refine VO.cons rfl (V1.storeRef (k := 0) rfl rfl tyk_3 rfl rfl rfl rfl rfl rfl rfl rfl rfl ?_)
  refine VO.nil ?_
  refine V.seq ?_
  replace hm0 := bindO hm0; rcases hm0 with ⟨y1, hh2, hm0⟩
  refine V.region ?_
  refine VO.cons rfl (V1.move rfl rfl rfl (ltb rfl) ?_)
  refine VO.cons rfl (V1.move rfl rfl rfl (ltb rfl) ?_)
  refine VO.cons rfl (V1.loadRefAll (k := 0) rfl rfl tyk_93 rfl rfl rfl rfl rfl (ltb rfl) ?_)
  refine VO.cons rfl (V1.call rfl rfl rfl cok_207 rfl (ok_spec_l5With hh2) rfl (ltb rfl) ?_)
  rintro _ _ ⟨b2, rfl, rfl⟩
  refine VO.cons rfl (V1.move rfl rfl rfl (ltb rfl) ?_)
  refine VO.cons rfl (V1.extract rfl rfl rfl rfl (ltb rfl) ?_)
  refine VO.cons rfl (V1.extract rfl rfl rfl rfl (ltb rfl) ?_)
  refine VO.cons rfl (V1.assign rfl rfl rfl (ltb rfl) ?_)
  refine VO.cons rfl (V1.assign rfl rfl rfl (ltb rfl) ?_)
  refine VO.nil ?_
  refine V.keep 31 [8, 9] [0] (E0 := [(8, .sref b2 7 0 (List.length y1.1)), (9, .bool y1.2)]) (H0 := [(b2, ⟨7, List.map encFile y1.1⟩)]) rfl (⟨_, _, rfl, rfl, ⟨_, _, rfl, rfl, rfl⟩⟩) (⟨_, _, rfl, rfl, rfl⟩) rfl ?_
  refine V.seq ?_
  refine V.region ?_
  refine VO.cons rfl (V1.move rfl rfl rfl (ltb rfl) ?_)
  refine VO.cons rfl (V1.move rfl rfl rfl (ltb rfl) ?_)
  refine VO.cons rfl (V1.assign rfl rfl rfl (ltb rfl) ?_)
  refine VO.cons rfl (V1.assign rfl rfl rfl (ltb rfl) ?_)
  refine VO.nil ?_
  refine V.keep 31 [4, 5] [0] (E0 := [(4, .sref b2 7 0 (List.length y1.1)), (5, .bool y1.2)]) (H0 := [(b2, ⟨7, List.map encFile y1.1⟩)]) rfl (⟨_, _, rfl, rfl, ⟨_, _, rfl, rfl, rfl⟩⟩) (⟨_, _, rfl, rfl, rfl⟩) rfl ?_
  refine V.ret ?_
  obtain rfl := Option.some.inj hm0
  exact ⟨_, _, ⟨_, _, rfl, rfl, ⟨_, _, rfl, rfl, rfl⟩⟩, List.Sublist.refl _, b2, rfl, rfl⟩

theorem ok_spec_DrawDaysOpen {ρ0 rn : Nat} {code : List Int} {r : List File × Int × Int} (h : M.spec_DrawDaysOpen code = some r) : Does Tryd.prog 73 [.vl ρ0 1 (List.map encU8 code)] [] rn (fun x H => ∃ (ob0_ : Nat), x = .tup [PV.sref ob0_ 7 0 (List.length r.1), .int .i64 r.2.1, .int .i64 r.2.2] ∧ H = [(ob0_, ⟨7, List.map encFile r.1⟩)]) := by
 have hm0 := h; clear h; unfold M.spec_DrawDaysOpen at hm0
 try dsimp only at hm0
 refine Does.intro (N := 20) Tryd.func73 rfl rfl rfl rfl ?_
 intro w0 S0
 refine V.seq ?_
 refine V.region ?_
 refine VO.cons rfl (V1.assign rfl rfl rfl (ltb rfl) ?_)
 refine VO.cons rfl (V1.assign rfl rfl rfl (ltb rfl) ?_)
 refine VO.cons rfl (V1.assign rfl rfl rfl (ltb rfl) ?_)
 refine VO.nil ?_
 refine V.seq ?_
 refine V.region ?_
 refine VO.cons rfl (V1.move rfl rfl rfl (ltb rfl) ?_)
 refine VO.cons rfl (V1.build rfl rfl zk_164 pl_164 rfl rfl (ltb rfl) ?_)
 refine VO.cons rfl (V1.boxN (n := 3) rfl rfl rfl rfl rfl (ltb rfl) ?_)
 intro b0
 refine VO.cons rfl (V1.assign rfl rfl rfl (ltb rfl) ?_)
 refine VO.nil ?_
 refine V.keep 20 [5] [0] (E0 := [(5, .ref b0 3 0 0)]) (H0 := [(b0, ⟨3, [.agg [.vl ρ0 1 (List.map encU8 code), .int .i64 (0 : Int), .int .u64 (0 : Int)]]⟩)]) rfl (⟨_, _, rfl, rfl, rfl⟩) (⟨_, _, rfl, rfl, rfl⟩) rfl ?_
 refine V.seq ?_
 replace hm0 := bindO hm0; rcases hm0 with ⟨y0, hh0, hm0⟩
 refine V.region ?_
 refine VO.cons rfl (V1.move rfl rfl rfl (ltb rfl) ?_)
 refine VO.cons rfl (V1.callM 0 (rn + ρ0 + 1) [] [.ref b0 3 0 0] (p := (b0, ⟨3, [.agg [.vl ρ0 1 (List.map encU8 code), .int .i64 (0 : Int), .int .u64 (0 : Int)]]⟩)) rfl rfl rfl cok_200 rfl rfl ⟨_, _, rfl, .same _, rfl⟩ bwNil (ok_spec_l1Cur_files5 hh0) rfl (.inl rfl) (ltb rfl) ?_)
 rintro _ _ ⟨b1, rfl, rfl⟩
 refine VO.cons rfl (V1.assign rfl rfl rfl (ltb rfl) ?_)
 refine VO.nil ?_
 refine V.seq ?_
 replace hm0 := bindO hm0; rcases hm0 with ⟨y1, hh1, hm0⟩
 replace hm0 := bindO hm0; rcases hm0 with ⟨y2, hh2, hm0⟩
 replace hm0 := bindO hm0; rcases hm0 with ⟨y3, hh3, hm0⟩
 refine V.region ?_
 refine VO.cons rfl (V1.move rfl rfl rfl (ltb rfl) ?_)
 refine VO.cons rfl (V1.move rfl rfl rfl (ltb rfl) ?_)
 refine VO.cons rfl (V1.move rfl rfl rfl (ltb rfl) ?_)
 refine VO.cons rfl (V1.move rfl rfl rfl (ltb rfl) ?_)
 refine VO.cons rfl (V1.callM 1 (rn + ρ0 + 1) [] [.ref b0 3 0 0, .int .i64 (3 : Int)] (p := (b0, ⟨3, [encCur ρ0 y0.2]⟩)) rfl rfl rfl cok_196 rfl rfl ⟨_, _, rfl, .same _, ⟨_, _, rfl, .same _, rfl⟩⟩ bwNil (ok_spec_l1Cur_pick hh1) rfl (.inl rfl) (ltb rfl) ?_)
 rintro _ _ ⟨rfl, rfl⟩
 refine VO.cons rfl (V1.callM 0 (rn + ρ0 + 1) [b1] [.ref b0 3 0 0, .vl (rn + ρ0 + 1) 7 (List.map encFile y0.1), .int .i64 y1.1] (p := (b0, ⟨3, [encCur ρ0 y1.2]⟩)) rfl rfl rfl cok_201 rfl rfl ⟨_, _, rfl, .same _, ⟨_, _, rfl, Lend.srMap 1 rfl (fun _ => rfl) (.head _), ⟨_, _, rfl, .same _, rfl⟩⟩⟩ (bwCons (k := 0) rfl bwNil) (ok_spec_l1Cur_fileId hh2) rfl (.inr ⟨(by first | omega | (dsimp only; omega)), by rintro _ _ ⟨rfl, rfl⟩; exact ⟨by simp [PV.no, PV.noL, optS_no, noL_iff, nbeq] <;> omega, by intro b ob h; first | exact optH_no (noL_map (fun _ => by simp [PV.no, PV.noL, noL_iff, nbeq]) _) b ob h | (simp at h; obtain ⟨rfl, rfl⟩ := h; exact noL_map (fun _ => by simp [PV.no, PV.noL, noL_iff, nbeq]) _) | (simp at h; obtain ⟨rfl, rfl⟩ := h; simp [PV.no, PV.noL, optS_no, noL_iff, nbeq] <;> omega)⟩⟩) (ltb rfl) ?_)
 rintro _ _ ⟨rfl, rfl⟩
 refine VO.cons rfl (V1.move rfl rfl rfl (ltb rfl) ?_)
 refine VO.cons rfl (V1.callM 0 (rn + ρ0 + 1) [] [.ref b0 3 0 0] (p := (b0, ⟨3, [encCur ρ0 y2.2]⟩)) rfl rfl rfl cok_202 rfl rfl ⟨_, _, rfl, .same _, rfl⟩ bwNil (ok_spec_l1Cur_day5 hh3) rfl (.inl rfl) (ltb rfl) ?_)
 rintro _ _ ⟨rfl, rfl⟩
 refine VO.cons rfl (V1.assign rfl rfl rfl (ltb rfl) ?_)
 refine VO.cons rfl (V1.assign rfl rfl rfl (ltb rfl) ?_)
 refine VO.cons rfl (V1.assign rfl rfl rfl (ltb rfl) ?_)
 refine VO.nil ?_
 refine V.keep 20 [2, 3, 4] [1] (E0 := [(2, .sref b1 7 0 (List.length y0.1)), (3, .int .i64 y2.1), (4, .int .i64 y3.1)]) (H0 := [(b1, ⟨7, List.map encFile y0.1⟩)]) rfl (⟨_, _, rfl, rfl, ⟨_, _, rfl, rfl, ⟨_, _, rfl, rfl, rfl⟩⟩⟩) (⟨_, _, rfl, rfl, rfl⟩) rfl ?_
 refine V.ret ?_
 obtain rfl := Option.some.inj hm0
 exact ⟨_, _, ⟨_, _, rfl, rfl, ⟨_, _, rfl, rfl, ⟨_, _, rfl, rfl, rfl⟩⟩⟩, List.Sublist.refl _, b1, rfl, rfl⟩

theorem ok_impl_DaysOpen {ρ0 rn : Nat} {list : List File} {id_ : Int} {day : Int} {r : Int × Bool} (h : M.impl_DaysOpen list id_ day = some r) : Does Tryd.prog 74 [.vl ρ0 7 (List.map encFile list), .int .i64 id_, .int .i64 day] [] rn (fun x H => x = .tup [.int .i64 r.1, .bool r.2] ∧ H = []) := by
 have hm0 := h; clear h; unfold M.impl_DaysOpen at hm0
 try dsimp only at hm0
 refine Does.intro (N := 50) Tryd.func74 rfl rfl rfl rfl ?_
 intro w0 S0
 refine V.seq ?_
 refine V.region ?_
 refine VO.cons rfl (V1.assign rfl rfl rfl (ltb rfl) ?_)
 refine VO.cons rfl (V1.assign rfl rfl rfl (ltb rfl) ?_)
 refine VO.nil ?_
 refine V.seq ?_
 replace hm0 := bindO hm0; rcases hm0 with ⟨y0, hh0, hm0⟩
 refine V.region ?_
 refine VO.cons rfl (V1.move rfl rfl rfl (ltb rfl) ?_)
 refine VO.cons rfl (V1.move rfl rfl rfl (ltb rfl) ?_)
 refine VO.cons rfl (V1.call rfl rfl rfl cok_210 rfl (ok_impl_fileAt hh0) rfl (ltb rfl) ?_)
 rintro _ _ ⟨rfl, rfl⟩
 refine VO.cons rfl (V1.assign rfl rfl rfl (ltb rfl) ?_)
 refine VO.nil ?_
 refine V.keep 50 [0, 2, 8] [] (E0 := [(0, .vl ρ0 7 (List.map encFile list)), (2, .int .i64 day), (8, .int .i64 y0)]) (H0 := []) rfl (⟨_, _, rfl, rfl, ⟨_, _, rfl, rfl, ⟨_, _, rfl, rfl, rfl⟩⟩⟩) (rfl) rfl ?_
 refine V.seq ?_
 refine V.seq ?_
 replace hm0 := bindO hm0; rcases hm0 with ⟨y1, hh1, hm0⟩
 replace hm0 := asrt_some hm0; rcases hm0 with ⟨hh2, hm0⟩
 replace hm0 := bindO hm0; rcases hm0 with ⟨y2, hh3, hm0⟩
 refine V.region ?_
 refine VO.cons rfl (V1.move rfl rfl rfl (ltb rfl) ?_)
 refine VO.cons rfl (V1.call rfl rfl rfl cok_83 rfl (ok_impl_AreFiles hh1) rfl (ltb rfl) ?_)
 rintro _ _ ⟨rfl, rfl⟩
 refine VO.cons rfl (V1.not rfl rfl rfl (ltb rfl) ?_)
 refine VO.cons rfl (V1.move rfl rfl rfl (ltb rfl) ?_)
 apply VO.or (n := 2) rfl rfl rfl rfl rfl rfl (ltb rfl) (.none rfl)
 ·
  intro hg0
  refine VO.step (.some rfl rfl rfl) (V1.move rfl rfl rfl (ltb rfl) ?_)
  refine VO.step (.some rfl rfl rfl) (V1.int rfl rfl rfl rfl rfl (ltb rfl) ?_)
  exact VO.nil ⟨rfl, rfl, rfl, rfl, .inr ⟨rfl, .inr ⟨rfl, .inr ⟨rfl, .inl rfl⟩⟩⟩⟩
 refine VO.cons rfl (V1.move rfl rfl rfl (ltb rfl) ?_)
 apply VO.or (n := 8) rfl rfl rfl rfl rfl rfl (ltb rfl) (.none rfl)
 ·
  intro hg1
  refine VO.step (.some rfl rfl rfl) (V1.move rfl rfl rfl (ltb rfl) ?_)
  refine VO.step (.some rfl rfl rfl) (V1.move rfl rfl rfl (ltb rfl) ?_)
  refine VO.step (.some rfl rfl rfl) (V1.indexI rfl rfl esz_78 rfl rfl (hh2 hg1) (ltb rfl) ?_)
  refine VO.step (.some rfl rfl rfl) (V1.fieldPin rfl rfl fo_93_3 rfl (ltb rfl) ?_)
  refine VO.step (.some rfl rfl rfl) (V1.loadPin rfl rfl tyk_3 rfl rfl (ltb rfl) ?_)
  refine VO.step (.some rfl rfl rfl) (V1.move rfl rfl rfl (ltb rfl) ?_)
  refine VO.step (.some rfl rfl rfl) (V1.call rfl rfl rfl cok_204 rfl (ok_impl_areDays (cond_f hg1 hh3)) rfl (ltb rfl) ?_)
  rintro _ _ ⟨rfl, rfl⟩
  refine VO.step (.some rfl rfl rfl) (V1.not rfl rfl rfl (ltb rfl) ?_)
  exact VO.nil ⟨rfl, rfl, rfl, rfl, .inr ⟨rfl, .inr ⟨rfl, .inr ⟨rfl, .inr ⟨rfl, .inr ⟨rfl, .inr ⟨rfl, .inr ⟨rfl, .inr ⟨rfl, .inr ⟨rfl, .inl rfl⟩⟩⟩⟩⟩⟩⟩⟩⟩⟩
 refine VO.nil ?_
 refine V.keep 50 [0, 2, 8, 28] [] (E0 := [(0, .vl ρ0 7 (List.map encFile list)), (2, .int .i64 day), (8, .int .i64 y0), (28, .bool (((!y1) || (decide (y0 < (0 : Int)))) || (!y2)))]) (H0 := []) rfl (⟨_, _, rfl, rfl, ⟨_, _, rfl, rfl, ⟨_, _, rfl, rfl, ⟨_, _, rfl, rfl, rfl⟩⟩⟩⟩) (rfl) rfl ?_
 refine V.cond rfl (fun hc0 => ?_) (fun hc0 => ?_)
 ·
  replace hm0 := cond_t hc0 hm0
  refine V.seq ?_
  refine V.region ?_
  refine VO.cons rfl (V1.assign rfl rfl rfl (ltb rfl) ?_)
  refine VO.cons rfl (V1.assign rfl rfl rfl (ltb rfl) ?_)
  refine VO.nil ?_
  refine V.ret ?_
  obtain rfl := Option.some.inj hm0
  exact ⟨_, [], ⟨_, _, rfl, rfl, ⟨_, _, rfl, rfl, rfl⟩⟩, List.nil_sublist _, rfl, rfl⟩
 ·
  replace hm0 := cond_f hc0 hm0
  refine V.skip ?_
  refine V.seq ?_
  replace hm0 := bindO hm0; rcases hm0 with ⟨j0, hm1, hm0⟩
  refine V.cutT (D := (Int) × (Unit)) (fun ⟨day0, _⟩ => ⟨50, [(2, .int .i64 day0), (0, .vl ρ0 7 (List.map encFile list)), (8, .int .i64 y0)], []⟩) (fun ⟨day0, _⟩ => (day0 = j0)) ?_ ?_
  ·
   refine V.seq ?_
   replace hm1 := asrt_some hm1; rcases hm1 with ⟨hh4, hm1⟩
   refine V.region ?_
   refine VO.cons rfl (V1.move rfl rfl rfl (ltb rfl) ?_)
   refine VO.cons rfl (V1.move rfl rfl rfl (ltb rfl) ?_)
   refine VO.cons rfl (V1.indexI rfl rfl esz_78 rfl rfl hh4 (ltb rfl) ?_)
   refine VO.cons rfl (V1.fieldPin rfl rfl fo_93_5 rfl (ltb rfl) ?_)
   refine VO.cons rfl (V1.loadPin rfl rfl tyk_3 rfl rfl (ltb rfl) ?_)
   refine VO.cons rfl (V1.int rfl rfl rfl rfl rfl (ltb rfl) ?_)
   refine VO.nil ?_
   refine V.keep 50 [0, 2, 8, 34] [] (E0 := [(0, .vl ρ0 7 (List.map encFile list)), (2, .int .i64 day), (8, .int .i64 y0), (34, .bool (((list.getD (Int.toNat y0) default).State) != (0 : Int)))]) (H0 := []) rfl (⟨_, _, rfl, rfl, ⟨_, _, rfl, rfl, ⟨_, _, rfl, rfl, ⟨_, _, rfl, rfl, rfl⟩⟩⟩⟩) (rfl) rfl ?_
   refine V.cond rfl (fun hc1 => ?_) (fun hc1 => ?_)
   ·
    replace hm1 := cond_t hc1 hm1
    replace hm1 := asrt_some hm1; rcases hm1 with ⟨hh5, hm1⟩
    refine V.region ?_
    refine VO.cons rfl (V1.move rfl rfl rfl (ltb rfl) ?_)
    refine VO.cons rfl (V1.move rfl rfl rfl (ltb rfl) ?_)
    refine VO.cons rfl (V1.move rfl rfl rfl (ltb rfl) ?_)
    refine VO.cons rfl (V1.indexI rfl rfl esz_78 rfl rfl hh5 (ltb rfl) ?_)
    refine VO.cons rfl (V1.fieldPin rfl rfl fo_93_4 rfl (ltb rfl) ?_)
    refine VO.cons rfl (V1.loadPin rfl rfl tyk_3 rfl rfl (ltb rfl) ?_)
    refine VO.cons rfl (V1.minI rfl rfl rfl rfl rfl rfl (ltb rfl) ?_)
    refine VO.cons rfl (V1.assign rfl rfl rfl (ltb rfl) ?_)
    refine VO.nil ?_
    exact ⟨((bif decide (((list.getD (Int.toNat y0) default).Closed) < day) then ((list.getD (Int.toNat y0) default).Closed) else day), ()), Option.some.inj hm1, Keeps.mk (ks := []) rfl ⟨rfl, rfl, rfl, trivial⟩ (rfl) rfl⟩
   ·
    replace hm1 := cond_f hc1 hm1
    refine V.skip ?_
    exact ⟨(day, ()), Option.some.inj hm1, Keeps.mk (ks := []) rfl ⟨rfl, rfl, rfl, trivial⟩ (rfl) rfl⟩
  ·
   rintro ⟨day0, _⟩ rfl
   try dsimp only at hm0
   refine V.seq ?_
   replace hm0 := asrt_some hm0; rcases hm0 with ⟨hh6, hm0⟩
   refine V.region ?_
   refine VO.cons rfl (V1.move rfl rfl rfl (ltb rfl) ?_)
   refine VO.cons rfl (V1.move rfl rfl rfl (ltb rfl) ?_)
   refine VO.cons rfl (V1.move rfl rfl rfl (ltb rfl) ?_)
   refine VO.cons rfl (V1.indexI rfl rfl esz_78 rfl rfl hh6 (ltb rfl) ?_)
   refine VO.cons rfl (V1.fieldPin rfl rfl fo_93_3 rfl (ltb rfl) ?_)
   refine VO.cons rfl (V1.loadPin rfl rfl tyk_3 rfl rfl (ltb rfl) ?_)
   refine VO.cons rfl (V1.int rfl rfl rfl rfl rfl (ltb rfl) ?_)
   refine VO.cons rfl (V1.int rfl rfl rfl rfl rfl (ltb rfl) ?_)
   refine VO.cons rfl (V1.assign rfl rfl rfl (ltb rfl) ?_)
   refine VO.cons rfl (V1.assign rfl rfl rfl (ltb rfl) ?_)
   refine VO.nil ?_
   refine V.ret ?_
   obtain rfl := Option.some.inj hm0
   exact ⟨_, [], ⟨_, _, rfl, rfl, ⟨_, _, rfl, rfl, rfl⟩⟩, List.nil_sublist _, rfl, rfl⟩

theorem ok_spec_DaysOpen {ρ0 rn : Nat} {list : List File} {id_ : Int} {day : Int} {r : Int × Bool} (h : M.spec_DaysOpen list id_ day = some r) : Does Tryd.prog 75 [.vl ρ0 7 (List.map encFile list), .int .i64 id_, .int .i64 day] [] rn (fun x H => x = .tup [.int .i64 r.1, .bool r.2] ∧ H = []) := by
 have hm0 := h; clear h; unfold M.spec_DaysOpen at hm0
 try dsimp only at hm0
 refine Does.intro (N := 49) Tryd.func75 rfl rfl rfl rfl ?_
 intro w0 S0
 refine V.seq ?_
 refine V.region ?_
 refine VO.cons rfl (V1.assign rfl rfl rfl (ltb rfl) ?_)
 refine VO.cons rfl (V1.assign rfl rfl rfl (ltb rfl) ?_)
 refine VO.nil ?_
 refine V.seq ?_
 replace hm0 := bindO hm0; rcases hm0 with ⟨y0, hh0, hm0⟩
 refine V.region ?_
 refine VO.cons rfl (V1.move rfl rfl rfl (ltb rfl) ?_)
 refine VO.cons rfl (V1.move rfl rfl rfl (ltb rfl) ?_)
 refine VO.cons rfl (V1.call rfl rfl rfl cok_206 rfl (ok_spec_l5Find hh0) rfl (ltb rfl) ?_)
 rintro _ _ ⟨rfl, rfl⟩
 refine VO.cons rfl (V1.assign rfl rfl rfl (ltb rfl) ?_)
 refine VO.nil ?_
 refine V.keep 49 [0, 2, 8] [] (E0 := [(0, .vl ρ0 7 (List.map encFile list)), (2, .int .i64 day), (8, .int .i64 y0)]) (H0 := []) rfl (⟨_, _, rfl, rfl, ⟨_, _, rfl, rfl, ⟨_, _, rfl, rfl, rfl⟩⟩⟩) (rfl) rfl ?_
 refine V.seq ?_
 refine V.seq ?_
 replace hm0 := bindO hm0; rcases hm0 with ⟨y1, hh1, hm0⟩
 replace hm0 := asrt_some hm0; rcases hm0 with ⟨hh2, hm0⟩
 refine V.region ?_
 refine VO.cons rfl (V1.move rfl rfl rfl (ltb rfl) ?_)
 refine VO.cons rfl (V1.int rfl rfl rfl rfl rfl (ltb rfl) ?_)
 refine VO.cons rfl (V1.move rfl rfl rfl (ltb rfl) ?_)
 apply VO.or (n := 3) rfl rfl rfl rfl rfl rfl (ltb rfl) (.none rfl)
 ·
  intro hg0
  refine VO.step (.some rfl rfl rfl) (V1.move rfl rfl rfl (ltb rfl) ?_)
  refine VO.step (.some rfl rfl rfl) (V1.call rfl rfl rfl cok_191 rfl (ok_spec_l2Day (cond_f hg0 hh1)) rfl (ltb rfl) ?_)
  rintro _ _ ⟨rfl, rfl⟩
  refine VO.step (.some rfl rfl rfl) (V1.not rfl rfl rfl (ltb rfl) ?_)
  exact VO.nil ⟨rfl, rfl, rfl, rfl, .inr ⟨rfl, .inr ⟨rfl, .inr ⟨rfl, .inr ⟨rfl, .inl rfl⟩⟩⟩⟩⟩
 refine VO.cons rfl (V1.move rfl rfl rfl (ltb rfl) ?_)
 apply VO.or (n := 7) rfl rfl rfl rfl rfl rfl (ltb rfl) (.none rfl)
 ·
  intro hg1
  refine VO.step (.some rfl rfl rfl) (V1.move rfl rfl rfl (ltb rfl) ?_)
  refine VO.step (.some rfl rfl rfl) (V1.move rfl rfl rfl (ltb rfl) ?_)
  refine VO.step (.some rfl rfl rfl) (V1.move rfl rfl rfl (ltb rfl) ?_)
  refine VO.step (.some rfl rfl rfl) (V1.indexI rfl rfl esz_78 rfl rfl (hh2 hg1) (ltb rfl) ?_)
  refine VO.step (.some rfl rfl rfl) (V1.fieldPin rfl rfl fo_93_3 rfl (ltb rfl) ?_)
  refine VO.step (.some rfl rfl rfl) (V1.loadPin rfl rfl tyk_3 rfl rfl (ltb rfl) ?_)
  refine VO.step (.some rfl rfl rfl) (V1.int rfl rfl rfl rfl rfl (ltb rfl) ?_)
  exact VO.nil ⟨rfl, rfl, rfl, rfl, .inr ⟨rfl, .inr ⟨rfl, .inr ⟨rfl, .inr ⟨rfl, .inr ⟨rfl, .inr ⟨rfl, .inr ⟨rfl, .inr ⟨rfl, .inl rfl⟩⟩⟩⟩⟩⟩⟩⟩⟩
 refine VO.nil ?_
 refine V.keep 49 [0, 2, 8, 27] [] (E0 := [(0, .vl ρ0 7 (List.map encFile list)), (2, .int .i64 day), (8, .int .i64 y0), (27, .bool (((decide (y0 < (0 : Int))) || (!y1)) || (decide (day < ((list.getD (Int.toNat y0) default).Opened)))))]) (H0 := []) rfl (⟨_, _, rfl, rfl, ⟨_, _, rfl, rfl, ⟨_, _, rfl, rfl, ⟨_, _, rfl, rfl, rfl⟩⟩⟩⟩) (rfl) rfl ?_
 refine V.cond rfl (fun hc0 => ?_) (fun hc0 => ?_)
 ·
  replace hm0 := cond_t hc0 hm0
  refine V.seq ?_
  refine V.region ?_
  refine VO.cons rfl (V1.assign rfl rfl rfl (ltb rfl) ?_)
  refine VO.cons rfl (V1.assign rfl rfl rfl (ltb rfl) ?_)
  refine VO.nil ?_
  refine V.ret ?_
  obtain rfl := Option.some.inj hm0
  exact ⟨_, [], ⟨_, _, rfl, rfl, ⟨_, _, rfl, rfl, rfl⟩⟩, List.nil_sublist _, rfl, rfl⟩
 ·
  replace hm0 := cond_f hc0 hm0
  refine V.skip ?_
  refine V.seq ?_
  replace hm0 := bindO hm0; rcases hm0 with ⟨j0, hm1, hm0⟩
  refine V.cutT (D := (Int) × (Unit)) (fun ⟨day0, _⟩ => ⟨49, [(2, .int .i64 day0), (0, .vl ρ0 7 (List.map encFile list)), (8, .int .i64 y0)], []⟩) (fun ⟨day0, _⟩ => (day0 = j0)) ?_ ?_
  ·
   refine V.seq ?_
   replace hm1 := asrt_some hm1; rcases hm1 with ⟨hh3, hm1⟩
   refine V.region ?_
   refine VO.cons rfl (V1.move rfl rfl rfl (ltb rfl) ?_)
   refine VO.cons rfl (V1.move rfl rfl rfl (ltb rfl) ?_)
   refine VO.cons rfl (V1.indexI rfl rfl esz_78 rfl rfl hh3 (ltb rfl) ?_)
   refine VO.cons rfl (V1.fieldPin rfl rfl fo_93_5 rfl (ltb rfl) ?_)
   refine VO.cons rfl (V1.loadPin rfl rfl tyk_3 rfl rfl (ltb rfl) ?_)
   refine VO.cons rfl (V1.int rfl rfl rfl rfl rfl (ltb rfl) ?_)
   refine VO.nil ?_
   refine V.keep 49 [0, 2, 8, 33] [] (E0 := [(0, .vl ρ0 7 (List.map encFile list)), (2, .int .i64 day), (8, .int .i64 y0), (33, .bool (((list.getD (Int.toNat y0) default).State) != (0 : Int)))]) (H0 := []) rfl (⟨_, _, rfl, rfl, ⟨_, _, rfl, rfl, ⟨_, _, rfl, rfl, ⟨_, _, rfl, rfl, rfl⟩⟩⟩⟩) (rfl) rfl ?_
   refine V.cond rfl (fun hc1 => ?_) (fun hc1 => ?_)
   ·
    replace hm1 := cond_t hc1 hm1
    replace hm1 := asrt_some hm1; rcases hm1 with ⟨hh4, hm1⟩
    replace hm1 := bindO hm1; rcases hm1 with ⟨y2, hh5, hm1⟩
    refine V.region ?_
    refine VO.cons rfl (V1.move rfl rfl rfl (ltb rfl) ?_)
    refine VO.cons rfl (V1.move rfl rfl rfl (ltb rfl) ?_)
    refine VO.cons rfl (V1.move rfl rfl rfl (ltb rfl) ?_)
    refine VO.cons rfl (V1.indexI rfl rfl esz_78 rfl rfl hh4 (ltb rfl) ?_)
    refine VO.cons rfl (V1.fieldPin rfl rfl fo_93_4 rfl (ltb rfl) ?_)
    refine VO.cons rfl (V1.loadPin rfl rfl tyk_3 rfl rfl (ltb rfl) ?_)
    refine VO.cons rfl (V1.call rfl rfl rfl cok_211 rfl (ok_spec_l1Least hh5) rfl (ltb rfl) ?_)
    rintro _ _ ⟨rfl, rfl⟩
    refine VO.cons rfl (V1.assign rfl rfl rfl (ltb rfl) ?_)
    refine VO.nil ?_
    exact ⟨(y2, ()), Option.some.inj hm1, Keeps.mk (ks := []) rfl ⟨rfl, rfl, rfl, trivial⟩ (rfl) rfl⟩
   ·
    replace hm1 := cond_f hc1 hm1
    refine V.skip ?_
    exact ⟨(day, ()), Option.some.inj hm1, Keeps.mk (ks := []) rfl ⟨rfl, rfl, rfl, trivial⟩ (rfl) rfl⟩
  ·
   rintro ⟨day0, _⟩ rfl
   try dsimp only at hm0
   refine V.seq ?_
   replace hm0 := asrt_some hm0; rcases hm0 with ⟨hh6, hm0⟩
   refine V.region ?_
   refine VO.cons rfl (V1.move rfl rfl rfl (ltb rfl) ?_)
   refine VO.cons rfl (V1.move rfl rfl rfl (ltb rfl) ?_)
   refine VO.cons rfl (V1.move rfl rfl rfl (ltb rfl) ?_)
   refine VO.cons rfl (V1.indexI rfl rfl esz_78 rfl rfl hh6 (ltb rfl) ?_)
   refine VO.cons rfl (V1.fieldPin rfl rfl fo_93_3 rfl (ltb rfl) ?_)
   refine VO.cons rfl (V1.loadPin rfl rfl tyk_3 rfl rfl (ltb rfl) ?_)
   refine VO.cons rfl (V1.int rfl rfl rfl rfl rfl (ltb rfl) ?_)
   refine VO.cons rfl (V1.int rfl rfl rfl rfl rfl (ltb rfl) ?_)
   refine VO.cons rfl (V1.assign rfl rfl rfl (ltb rfl) ?_)
   refine VO.cons rfl (V1.assign rfl rfl rfl (ltb rfl) ?_)
   refine VO.nil ?_
   refine V.ret ?_
   obtain rfl := Option.some.inj hm0
   exact ⟨_, [], ⟨_, _, rfl, rfl, ⟨_, _, rfl, rfl, rfl⟩⟩, List.nil_sublist _, rfl, rfl⟩

theorem ok_spec_DrawIsFile {ρ0 rn : Nat} {code : List Int} {r : File} (h : M.spec_DrawIsFile code = some r) : Does Tryd.prog 76 [.vl ρ0 1 (List.map encU8 code)] [] rn (fun x H => x = encFile r ∧ H = []) := by
 have hm0 := h; clear h; unfold M.spec_DrawIsFile at hm0
 try dsimp only at hm0
 refine Does.intro (N := 12) Tryd.func76 rfl rfl rfl rfl ?_
 intro w0 S0
 refine V.seq ?_
 refine V.region ?_
 refine VO.cons rfl (V1.alloc rfl rfl zk_93 (ltb rfl) ?_)
 intro b0
 refine VO.nil ?_
 refine V.seq ?_
 refine V.region ?_
 refine VO.cons rfl (V1.move rfl rfl rfl (ltb rfl) ?_)
 refine VO.cons rfl (V1.build rfl rfl zk_164 pl_164 rfl rfl (ltb rfl) ?_)
 refine VO.cons rfl (V1.boxN (n := 3) rfl rfl rfl rfl rfl (ltb rfl) ?_)
 intro b1
 refine VO.cons rfl (V1.assign rfl rfl rfl (ltb rfl) ?_)
 refine VO.nil ?_
 refine V.keep 12 [2, 3] [0, 1] (E0 := [(2, .ref b0 7 0 0), (3, .ref b1 3 0 0)]) (H0 := [(b1, ⟨3, [.agg [.vl ρ0 1 (List.map encU8 code), .int .i64 (0 : Int), .int .u64 (0 : Int)]]⟩), (b0, ⟨7, [.agg [.int .i64 (0 : Int), .int .i64 (0 : Int), .str ([]), .int .i64 (0 : Int), .int .i64 (0 : Int), .int .i64 (0 : Int), .int .i64 (0 : Int)]]⟩)]) rfl (⟨_, _, rfl, rfl, ⟨_, _, rfl, rfl, rfl⟩⟩) (⟨_, _, rfl, rfl, ⟨_, _, rfl, rfl, rfl⟩⟩) rfl ?_
 refine V.seq ?_
 replace hm0 := bindO hm0; rcases hm0 with ⟨y0, hh0, hm0⟩
 replace hm0 := bindO hm0; rcases hm0 with ⟨y1, hh1, hm0⟩
 refine V.region ?_
 refine VO.cons rfl (V1.move rfl rfl rfl (ltb rfl) ?_)
 refine VO.cons rfl (V1.move rfl rfl rfl (ltb rfl) ?_)
 refine VO.cons rfl (V1.buildSliceT (f := encInt) ([(1 : Int), (42 : Int), (999 : Int)] : List Int) rfl rfl esz_35 zk_3 rfl rfl rfl rfl rfl rfl rfl (ltb rfl) ?_)
 intro b2
 refine VO.cons rfl (V1.callM 1 (rn + ρ0 + 1) [b2] [.ref b1 3 0 0, .vl (rn + ρ0 + 1) 1 (List.map encInt ([(1 : Int), (42 : Int), (999 : Int)] : List Int))] (p := (b1, ⟨3, [.agg [.vl ρ0 1 (List.map encU8 code), .int .i64 (0 : Int), .int .u64 (0 : Int)]]⟩)) rfl rfl rfl cok_195 rfl rfl ⟨_, _, rfl, .same _, ⟨_, _, rfl, Lend.srMap 0 rfl (fun _ => rfl) (.head _), rfl⟩⟩ (bwCons (k := 0) rfl bwNil) (ok_spec_l1Cur_among hh0) rfl (.inr ⟨(by first | omega | (dsimp only; omega)), by rintro _ _ ⟨rfl, rfl⟩; exact ⟨by simp [PV.no, PV.noL, optS_no, noL_iff, nbeq] <;> omega, by intro b ob h; first | exact optH_no (noL_map (fun _ => by simp [PV.no, PV.noL, noL_iff, nbeq]) _) b ob h | (simp at h; obtain ⟨rfl, rfl⟩ := h; exact noL_map (fun _ => by simp [PV.no, PV.noL, noL_iff, nbeq]) _) | (simp at h; obtain ⟨rfl, rfl⟩ := h; simp [PV.no, PV.noL, optS_no, noL_iff, nbeq] <;> omega)⟩⟩) (ltb rfl) ?_)
 rintro _ _ ⟨rfl, rfl⟩
 refine VO.cons rfl (V1.callM 0 (rn + ρ0 + 1) [] [.ref b1 3 0 0, .int .i64 y0.1] (p := (b1, ⟨3, [encCur ρ0 y0.2]⟩)) rfl rfl rfl cok_212 rfl rfl ⟨_, _, rfl, .same _, ⟨_, _, rfl, .same _, rfl⟩⟩ bwNil (ok_spec_l1Cur_file5 hh1) rfl (.inl rfl) (ltb rfl) ?_)
 rintro _ _ ⟨rfl, rfl⟩
 refine VO.cons rfl (V1.storeRefAll (k := 2) rfl rfl tyk_93 rfl rfl rfl rfl rfl rfl ?_)
 refine VO.nil ?_
 refine V.ret ?_
 obtain rfl := Option.some.inj hm0
 exact ⟨_, [], ⟨_, _, rfl, ⟨_, _, 2, _, rfl, rfl, rfl, rfl, tyk_93, rfl⟩, rfl⟩, List.nil_sublist _, rfl, rfl⟩

theorem ok_spec_IsFile {rn : Nat} {f : File} {r : Bool} (h : M.spec_IsFile f = some r) : Does Tryd.prog 78 [encFile f] [] rn (fun x H => x = .bool r ∧ H = []) := by
 have hm0 := h; clear h; unfold M.spec_IsFile at hm0
 try dsimp only at hm0
 refine Does.intro (N := 5) Tryd.func78 rfl rfl rfl rfl ?_
 intro w0 S0
 refine V.seq ?_
 refine V.region ?_
 refine VO.cons rfl (V1.boxN (n := 7) rfl rfl rfl rfl rfl (ltb rfl) ?_)
 intro b0
 refine VO.cons rfl (V1.assign rfl rfl rfl (ltb rfl) ?_)
 refine VO.nil ?_
 refine V.seq ?_
 replace hm0 := bindO hm0; rcases hm0 with ⟨y0, hh0, hm0⟩
 refine V.region ?_
 refine VO.cons rfl (V1.loadRefAll (k := 0) rfl rfl tyk_93 rfl rfl rfl rfl rfl (ltb rfl) ?_)
 refine VO.cons rfl (V1.call rfl rfl rfl cok_213 rfl (ok_spec_l5One hh0) rfl (ltb rfl) ?_)
 rintro _ _ ⟨rfl, rfl⟩
 refine VO.cons rfl (V1.assign rfl rfl rfl (ltb rfl) ?_)
 refine VO.nil ?_
 refine V.ret ?_
 obtain rfl := Option.some.inj hm0
 exact ⟨_, [], ⟨_, _, rfl, rfl, rfl⟩, List.nil_sublist _, rfl, rfl⟩

theorem ok_laws_FnFiles {ρ0 rn : Nat} {code : List Int} {r : Bool} (h : M.laws_FnFiles code = some r) : Does Tryd.prog 6 [.vl ρ0 1 (List.map encU8 code)] [] rn (fun x H => x = .bool r ∧ H = []) := by
 have hm0 := h; clear h; unfold M.laws_FnFiles at hm0
 try dsimp only at hm0
 refine Does.intro (N := 214) Tryd.func6 rfl rfl rfl rfl ?_
 intro w0 S0
 refine V.seq ?_
 refine V.region ?_
 refine VO.cons rfl (V1.assign rfl rfl rfl (ltb rfl) ?_)
 refine VO.nil ?_
 refine V.seq ?_
 refine V.seq ?_
 replace hm0 := bindO hm0; rcases hm0 with ⟨y0, hh0, hm0⟩
 refine V.region ?_
 refine VO.cons rfl (V1.move rfl rfl rfl (ltb rfl) ?_)
 refine VO.cons rfl (V1.call rfl rfl rfl cok_12 rfl (ok_laws_rBig hh0) rfl (ltb rfl) ?_)
 rintro _ _ ⟨rfl, rfl⟩
 refine VO.nil ?_
 refine V.cond rfl (fun hc0 => ?_) (fun hc0 => ?_)
 ·
  replace hm0 := cond_t hc0 hm0
  refine V.seq ?_
  refine V.region ?_
  refine VO.cons rfl (V1.assign rfl rfl rfl (ltb rfl) ?_)
  refine VO.nil ?_
  refine V.ret ?_
  obtain rfl := Option.some.inj hm0
  exact ⟨_, [], ⟨_, _, rfl, rfl, rfl⟩, List.nil_sublist _, rfl, rfl⟩
 ·
  replace hm0 := cond_f hc0 hm0
  refine V.skip ?_
  refine V.seq ?_
  replace hm0 := bindO hm0; rcases hm0 with ⟨y1, hh1, hm0⟩
  refine V.region ?_
  refine VO.cons rfl (V1.move rfl rfl rfl (ltb rfl) ?_)
  refine VO.cons rfl (V1.call rfl rfl rfl cok_62 rfl (ok_spec_DrawCloseFile hh1) rfl (ltb rfl) ?_)
  rintro _ _ ⟨b0, rfl, rfl⟩
  refine VO.cons rfl (V1.move rfl rfl rfl (ltb rfl) ?_)
  refine VO.cons rfl (V1.extract rfl rfl rfl rfl (ltb rfl) ?_)
  refine VO.weakenK (Keeps.freezeG 0 rn [(42, .vl rn 7 (List.map encFile y1.1))] [] (f := encFile) (l := y1.1) rfl (fun _ => rfl) ⟨⟨_, rfl, .here⟩, trivial⟩ rfl rfl iNil) ?_
  refine VO.cons rfl (V1.extract rfl rfl rfl rfl (ltb rfl) ?_)
  refine VO.cons rfl (V1.extract rfl rfl rfl rfl (ltb rfl) ?_)
  refine VO.cons rfl (V1.assign rfl rfl rfl (ltb rfl) ?_)
  refine VO.cons rfl (V1.assign rfl rfl rfl (ltb rfl) ?_)
  refine VO.cons rfl (V1.assign rfl rfl rfl (ltb rfl) ?_)
  refine VO.nil ?_
  refine V.keep 214 [0, 3, 4, 5] [] (E0 := [(0, .vl ρ0 1 (List.map encU8 code)), (3, .vl rn 7 (List.map encFile y1.1)), (4, .int .i64 y1.2.1), (5, .int .i64 y1.2.2)]) (H0 := []) rfl (⟨_, _, rfl, rfl, ⟨_, _, rfl, rfl, ⟨_, _, rfl, rfl, ⟨_, _, rfl, rfl, rfl⟩⟩⟩⟩) (rfl) rfl ?_
  refine V.seq ?_
  replace hm0 := bindO hm0; rcases hm0 with ⟨y2, hh2, hm0⟩
  refine V.region ?_
  refine VO.cons rfl (V1.move rfl rfl rfl (ltb rfl) ?_)
  refine VO.cons rfl (V1.move rfl rfl rfl (ltb rfl) ?_)
  refine VO.cons rfl (V1.move rfl rfl rfl (ltb rfl) ?_)
  refine VO.cons rfl (V1.permK (V1.call rfl rfl rfl cok_63 rfl (ok_impl_CloseFile hh2) rfl (ltb rfl) ?_))
  rintro _ _ ⟨ob0, hob0, rfl, rfl⟩
  refine ⟨_, ?_, Keeps.optBack (n := 7) (ob := ob0) (xs := List.map encFile y2.1) (H1 := []) (H2 := []) rfl⟩
  refine VO.cons rfl (V1.move rfl rfl rfl (ltb rfl) ?_)
  refine VO.cons rfl (V1.extract rfl rfl rfl rfl (ltb rfl) ?_)
  refine VO.weakenK (Keeps.optFront (n := 7) (ob := ob0) (xs := List.map encFile y2.1) (H1 := []) rfl) ?_
  refine VO.weakenK (Keeps.optVl 50 [] rn (f := encFile) (l := y2.1) (ob := ob0) (H1 := []) hob0 rfl rfl ⟨rfl, trivial⟩ (fun _ => rfl) rfl iNil) ?_
  refine VO.cons rfl (V1.extract rfl rfl rfl rfl (ltb rfl) ?_)
  refine VO.cons rfl (V1.assign rfl rfl rfl (ltb rfl) ?_)
  refine VO.cons rfl (V1.assign rfl rfl rfl (ltb rfl) ?_)
  refine VO.nil ?_
  refine V.keep 214 [0, 3, 4, 5, 6, 7] [] (E0 := [(0, .vl ρ0 1 (List.map encU8 code)), (3, .vl rn 7 (List.map encFile y1.1)), (4, .int .i64 y1.2.1), (5, .int .i64 y1.2.2), (6, .vl rn 7 (List.map encFile y2.1)), (7, .bool y2.2)]) (H0 := []) rfl (⟨_, _, rfl, rfl, ⟨_, _, rfl, rfl, ⟨_, _, rfl, rfl, ⟨_, _, rfl, rfl, ⟨_, _, rfl, rfl, ⟨_, _, rfl, rfl, rfl⟩⟩⟩⟩⟩⟩) (rfl) rfl ?_
  refine V.seq ?_
  refine V.seq ?_
  replace hm0 := bindO hm0; rcases hm0 with ⟨y3, hh3, hm0⟩
  refine V.region ?_
  refine VO.cons rfl (V1.move rfl rfl rfl (ltb rfl) ?_)
  refine VO.cons rfl (V1.move rfl rfl rfl (ltb rfl) ?_)
  refine VO.cons rfl (V1.move rfl rfl rfl (ltb rfl) ?_)
  refine VO.cons rfl (V1.call rfl rfl rfl cok_64 rfl (ok_spec_CloseFile hh3) rfl (ltb rfl) ?_)
  rintro _ _ ⟨b1, rfl, rfl⟩
  refine VO.cons rfl (V1.move rfl rfl rfl (ltb rfl) ?_)
  refine VO.cons rfl (V1.extract rfl rfl rfl rfl (ltb rfl) ?_)
  refine VO.weakenK (Keeps.freezeG 0 rn [(57, .vl rn 7 (List.map encFile y3.1))] [] (f := encFile) (l := y3.1) rfl (fun _ => rfl) ⟨⟨_, rfl, .here⟩, trivial⟩ rfl rfl iNil) ?_
  refine VO.cons rfl (V1.extract rfl rfl rfl rfl (ltb rfl) ?_)
  refine VO.cons rfl (V1.assign rfl rfl rfl (ltb rfl) ?_)
  refine VO.cons rfl (V1.assign rfl rfl rfl (ltb rfl) ?_)
  refine VO.nil ?_
  refine V.keep 214 [0, 3, 4, 5, 6, 7, 8, 9] [] (E0 := [(0, .vl ρ0 1 (List.map encU8 code)), (3, .vl rn 7 (List.map encFile y1.1)), (4, .int .i64 y1.2.1), (5, .int .i64 y1.2.2), (6, .vl rn 7 (List.map encFile y2.1)), (7, .bool y2.2), (8, .vl rn 7 (List.map encFile y3.1)), (9, .bool y3.2)]) (H0 := []) rfl (⟨_, _, rfl, rfl, ⟨_, _, rfl, rfl, ⟨_, _, rfl, rfl, ⟨_, _, rfl, rfl, ⟨_, _, rfl, rfl, ⟨_, _, rfl, rfl, ⟨_, _, rfl, rfl, ⟨_, _, rfl, rfl, rfl⟩⟩⟩⟩⟩⟩⟩⟩) (rfl) rfl ?_
  refine V.seq ?_
  replace hm0 := bindO hm0; rcases hm0 with ⟨y4, hh4, hm0⟩
  refine V.region ?_
  refine VO.cons rfl (V1.move rfl rfl rfl (ltb rfl) ?_)
  refine VO.cons rfl (V1.move rfl rfl rfl (ltb rfl) ?_)
  refine VO.cons rfl (V1.boolNeq rfl rfl und_4 rfl rfl (ltb rfl) ?_)
  refine VO.cons rfl (V1.move rfl rfl rfl (ltb rfl) ?_)
  apply VO.or (n := 4) rfl rfl rfl rfl rfl rfl (ltb rfl) (.none rfl)
  ·
   intro hg0
   refine VO.step (.some rfl rfl rfl) (V1.move rfl rfl rfl (ltb rfl) ?_)
   refine VO.step (.some rfl rfl rfl) (V1.move rfl rfl rfl (ltb rfl) ?_)
   refine VO.step (.some rfl rfl rfl) (V1.call rfl rfl rfl cok_65 rfl (ok_laws_rFiles (cond_f hg0 hh4)) rfl (ltb rfl) ?_)
   rintro _ _ ⟨rfl, rfl⟩
   refine VO.step (.some rfl rfl rfl) (V1.not rfl rfl rfl (ltb rfl) ?_)
   exact VO.nil ⟨rfl, rfl, rfl, rfl, .inr ⟨rfl, .inr ⟨rfl, .inr ⟨rfl, .inr ⟨rfl, .inr ⟨rfl, .inl rfl⟩⟩⟩⟩⟩⟩
  refine VO.nil ?_
  refine V.keep 214 [0, 3, 4, 5, 6, 7, 67] [] (E0 := [(0, .vl ρ0 1 (List.map encU8 code)), (3, .vl rn 7 (List.map encFile y1.1)), (4, .int .i64 y1.2.1), (5, .int .i64 y1.2.2), (6, .vl rn 7 (List.map encFile y2.1)), (7, .bool y2.2), (67, .bool ((!(y2.2 == y3.2)) || (!y4)))]) (H0 := []) rfl (⟨_, _, rfl, rfl, ⟨_, _, rfl, rfl, ⟨_, _, rfl, rfl, ⟨_, _, rfl, rfl, ⟨_, _, rfl, rfl, ⟨_, _, rfl, rfl, ⟨_, _, rfl, rfl, rfl⟩⟩⟩⟩⟩⟩⟩) (rfl) rfl ?_
  refine V.cond rfl (fun hc1 => ?_) (fun hc1 => ?_)
  ·
   replace hm0 := cond_t hc1 hm0
   refine V.seq ?_
   refine V.region ?_
   refine VO.cons rfl (V1.assign rfl rfl rfl (ltb rfl) ?_)
   refine VO.nil ?_
   refine V.ret ?_
   obtain rfl := Option.some.inj hm0
   exact ⟨_, [], ⟨_, _, rfl, rfl, rfl⟩, List.nil_sublist _, rfl, rfl⟩
  ·
   replace hm0 := cond_f hc1 hm0
   refine V.skip ?_
   refine V.seq ?_
   replace hm0 := bindO hm0; rcases hm0 with ⟨j0, hm1, hm0⟩
   refine V.cutT (D := (Unit) × (Unit)) (fun ⟨_, _⟩ => ⟨214, [(0, .vl ρ0 1 (List.map encU8 code))], []⟩) (fun ⟨_, _⟩ => (.inl () = j0)) ?_ ?_
   ·
    refine V.seq ?_
    refine V.region ?_
    refine VO.cons rfl (V1.move rfl rfl rfl (ltb rfl) ?_)
    refine VO.nil ?_
    refine V.cond rfl (fun hc2 => ?_) (fun hc2 => ?_)
    ·
     replace hm1 := cond_t hc2 hm1
     refine V.seq ?_
     replace hm1 := bindO hm1; rcases hm1 with ⟨y5, hh5, hm1⟩
     refine V.region ?_
     refine VO.cons rfl (V1.move rfl rfl rfl (ltb rfl) ?_)
     refine VO.cons rfl (V1.move rfl rfl rfl (ltb rfl) ?_)
     refine VO.cons rfl (V1.permK (V1.call rfl rfl rfl cok_66 rfl (ok_impl_ReopenFile hh5) rfl (ltb rfl) ?_))
     rintro _ _ ⟨ob1, hob1, rfl, rfl⟩
     refine ⟨_, ?_, Keeps.optBack (n := 7) (ob := ob1) (xs := List.map encFile y5.1) (H1 := []) (H2 := []) rfl⟩
     refine VO.cons rfl (V1.move rfl rfl rfl (ltb rfl) ?_)
     refine VO.cons rfl (V1.extract rfl rfl rfl rfl (ltb rfl) ?_)
     refine VO.weakenK (Keeps.optFront (n := 7) (ob := ob1) (xs := List.map encFile y5.1) (H1 := []) rfl) ?_
     refine VO.weakenK (Keeps.optVl 73 [] rn (f := encFile) (l := y5.1) (ob := ob1) (H1 := []) hob1 rfl rfl ⟨rfl, trivial⟩ (fun _ => rfl) rfl iNil) ?_
     refine VO.cons rfl (V1.extract rfl rfl rfl rfl (ltb rfl) ?_)
     refine VO.cons rfl (V1.assign rfl rfl rfl (ltb rfl) ?_)
     refine VO.cons rfl (V1.assign rfl rfl rfl (ltb rfl) ?_)
     refine VO.nil ?_
     refine V.keep 214 [0, 3, 4, 5, 6, 10, 11] [] (E0 := [(0, .vl ρ0 1 (List.map encU8 code)), (3, .vl rn 7 (List.map encFile y1.1)), (4, .int .i64 y1.2.1), (5, .int .i64 y1.2.2), (6, .vl rn 7 (List.map encFile y2.1)), (10, .vl rn 7 (List.map encFile y5.1)), (11, .bool y5.2)]) (H0 := []) rfl (⟨_, _, rfl, rfl, ⟨_, _, rfl, rfl, ⟨_, _, rfl, rfl, ⟨_, _, rfl, rfl, ⟨_, _, rfl, rfl, ⟨_, _, rfl, rfl, ⟨_, _, rfl, rfl, rfl⟩⟩⟩⟩⟩⟩⟩) (rfl) rfl ?_
     refine V.seq ?_
     replace hm1 := bindO hm1; rcases hm1 with ⟨y6, hh6, hm1⟩
     refine V.region ?_
     refine VO.cons rfl (V1.move rfl rfl rfl (ltb rfl) ?_)
     refine VO.cons rfl (V1.move rfl rfl rfl (ltb rfl) ?_)
     refine VO.cons rfl (V1.move rfl rfl rfl (ltb rfl) ?_)
     refine VO.cons rfl (V1.permK (V1.call rfl rfl rfl cok_67 rfl (ok_impl_ClosedSince hh6) rfl (ltb rfl) ?_))
     rintro _ _ ⟨ob2, hob2, rfl, rfl⟩
     refine ⟨_, ?_, Keeps.optBack (n := 1) (ob := ob2) (xs := List.map encInt y6.1) (H1 := []) (H2 := []) rfl⟩
     refine VO.cons rfl (V1.move rfl rfl rfl (ltb rfl) ?_)
     refine VO.cons rfl (V1.extract rfl rfl rfl rfl (ltb rfl) ?_)
     refine VO.weakenK (Keeps.optFront (n := 1) (ob := ob2) (xs := List.map encInt y6.1) (H1 := []) rfl) ?_
     refine VO.weakenK (Keeps.optVl 80 [] rn (f := encInt) (l := y6.1) (ob := ob2) (H1 := []) hob2 rfl rfl ⟨rfl, trivial⟩ (fun _ => rfl) rfl iNil) ?_
     refine VO.cons rfl (V1.extract rfl rfl rfl rfl (ltb rfl) ?_)
     refine VO.cons rfl (V1.assign rfl rfl rfl (ltb rfl) ?_)
     refine VO.cons rfl (V1.assign rfl rfl rfl (ltb rfl) ?_)
     refine VO.nil ?_
     refine V.keep 214 [0, 3, 4, 10, 11, 12, 13] [] (E0 := [(0, .vl ρ0 1 (List.map encU8 code)), (3, .vl rn 7 (List.map encFile y1.1)), (4, .int .i64 y1.2.1), (10, .vl rn 7 (List.map encFile y5.1)), (11, .bool y5.2), (12, .vl rn 1 (List.map encInt y6.1)), (13, .bool y6.2)]) (H0 := []) rfl (⟨_, _, rfl, rfl, ⟨_, _, rfl, rfl, ⟨_, _, rfl, rfl, ⟨_, _, rfl, rfl, ⟨_, _, rfl, rfl, ⟨_, _, rfl, rfl, ⟨_, _, rfl, rfl, rfl⟩⟩⟩⟩⟩⟩⟩) (rfl) rfl ?_
     refine V.seq ?_
     replace hm1 := bindO hm1; rcases hm1 with ⟨y7, hh7, hm1⟩
     replace hm1 := bindO hm1; rcases hm1 with ⟨y8, hh8, hm1⟩
     refine V.region ?_
     refine VO.cons rfl (V1.move rfl rfl rfl (ltb rfl) ?_)
     refine VO.cons rfl (V1.not rfl rfl rfl (ltb rfl) ?_)
     refine VO.cons rfl (V1.move rfl rfl rfl (ltb rfl) ?_)
     apply VO.or (n := 4) rfl rfl rfl rfl rfl rfl (ltb rfl) (.none rfl)
     ·
      intro hg1
      refine VO.step (.some rfl rfl rfl) (V1.move rfl rfl rfl (ltb rfl) ?_)
      refine VO.step (.some rfl rfl rfl) (V1.move rfl rfl rfl (ltb rfl) ?_)
      refine VO.step (.some rfl rfl rfl) (V1.call rfl rfl rfl cok_65 rfl (ok_laws_rFiles (cond_f hg1 hh7)) rfl (ltb rfl) ?_)
      rintro _ _ ⟨rfl, rfl⟩
      refine VO.step (.some rfl rfl rfl) (V1.not rfl rfl rfl (ltb rfl) ?_)
      exact VO.nil ⟨rfl, rfl, rfl, rfl, .inr ⟨rfl, .inr ⟨rfl, .inr ⟨rfl, .inr ⟨rfl, .inr ⟨rfl, .inl rfl⟩⟩⟩⟩⟩⟩
     refine VO.cons rfl (V1.move rfl rfl rfl (ltb rfl) ?_)
     apply VO.or (n := 2) rfl rfl rfl rfl rfl rfl (ltb rfl) (.none rfl)
     ·
      intro hg2
      refine VO.step (.some rfl rfl rfl) (V1.move rfl rfl rfl (ltb rfl) ?_)
      refine VO.step (.some rfl rfl rfl) (V1.not rfl rfl rfl (ltb rfl) ?_)
      exact VO.nil ⟨rfl, rfl, rfl, rfl, .inr ⟨rfl, .inr ⟨rfl, .inr ⟨rfl, .inl rfl⟩⟩⟩⟩
     refine VO.cons rfl (V1.move rfl rfl rfl (ltb rfl) ?_)
     apply VO.or (n := 4) rfl rfl rfl rfl rfl rfl (ltb rfl) (.none rfl)
     ·
      intro hg3
      refine VO.step (.some rfl rfl rfl) (V1.move rfl rfl rfl (ltb rfl) ?_)
      refine VO.step (.some rfl rfl rfl) (V1.move rfl rfl rfl (ltb rfl) ?_)
      refine VO.step (.some rfl rfl rfl) (V1.call rfl rfl rfl cok_26 rfl (ok_laws_rHas (cond_f hg3 hh8)) rfl (ltb rfl) ?_)
      rintro _ _ ⟨rfl, rfl⟩
      refine VO.step (.some rfl rfl rfl) (V1.not rfl rfl rfl (ltb rfl) ?_)
      exact VO.nil ⟨rfl, rfl, rfl, rfl, .inr ⟨rfl, .inr ⟨rfl, .inr ⟨rfl, .inr ⟨rfl, .inr ⟨rfl, .inl rfl⟩⟩⟩⟩⟩⟩
     refine VO.nil ?_
     refine V.keep 214 [0, 99] [] (E0 := [(0, .vl ρ0 1 (List.map encU8 code)), (99, .bool ((((!y5.2) || (!y7)) || (!y6.2)) || (!y8)))]) (H0 := []) rfl (⟨_, _, rfl, rfl, ⟨_, _, rfl, rfl, rfl⟩⟩) (rfl) rfl ?_
     refine V.cond rfl (fun hc3 => ?_) (fun hc3 => ?_)
     ·
      replace hm1 := cond_t hc3 hm1
      refine V.seq ?_
      refine V.region ?_
      refine VO.cons rfl (V1.assign rfl rfl rfl (ltb rfl) ?_)
      refine VO.nil ?_
      refine V.ret ?_
      obtain rfl := Option.some.inj hm1
      change some _ = some _ at hm0
      obtain rfl := Option.some.inj hm0
      exact ⟨_, [], ⟨_, _, rfl, rfl, rfl⟩, List.nil_sublist _, rfl, rfl⟩
     ·
      replace hm1 := cond_f hc3 hm1
      refine V.skip ?_
      exact ⟨((), ()), Option.some.inj hm1, Keeps.mk (ks := []) rfl ⟨rfl, trivial⟩ (rfl) rfl⟩
    ·
     replace hm1 := cond_f hc2 hm1
     refine V.skip ?_
     exact ⟨((), ()), Option.some.inj hm1, Keeps.mk (ks := []) rfl ⟨rfl, trivial⟩ (rfl) rfl⟩
   ·
    rintro ⟨_, _⟩ rfl
    try dsimp only at hm0
    refine V.seq ?_
    replace hm0 := bindO hm0; rcases hm0 with ⟨y9, hh9, hm0⟩
    refine V.region ?_
    refine VO.cons rfl (V1.move rfl rfl rfl (ltb rfl) ?_)
    refine VO.cons rfl (V1.call rfl rfl rfl cok_68 rfl (ok_spec_DrawLendFile hh9) rfl (ltb rfl) ?_)
    rintro _ _ ⟨b2, rfl, rfl⟩
    refine VO.cons rfl (V1.move rfl rfl rfl (ltb rfl) ?_)
    refine VO.cons rfl (V1.extract rfl rfl rfl rfl (ltb rfl) ?_)
    refine VO.weakenK (Keeps.freezeG 0 rn [(103, .vl rn 7 (List.map encFile y9.1))] [] (f := encFile) (l := y9.1) rfl (fun _ => rfl) ⟨⟨_, rfl, .here⟩, trivial⟩ rfl rfl iNil) ?_
    refine VO.cons rfl (V1.extract rfl rfl rfl rfl (ltb rfl) ?_)
    refine VO.cons rfl (V1.extract rfl rfl rfl rfl (ltb rfl) ?_)
    refine VO.cons rfl (V1.assign rfl rfl rfl (ltb rfl) ?_)
    refine VO.cons rfl (V1.assign rfl rfl rfl (ltb rfl) ?_)
    refine VO.cons rfl (V1.assign rfl rfl rfl (ltb rfl) ?_)
    refine VO.nil ?_
    refine V.keep 214 [0, 14, 15, 16] [] (E0 := [(0, .vl ρ0 1 (List.map encU8 code)), (14, .vl rn 7 (List.map encFile y9.1)), (15, .int .i64 y9.2.1), (16, .bool y9.2.2)]) (H0 := []) rfl (⟨_, _, rfl, rfl, ⟨_, _, rfl, rfl, ⟨_, _, rfl, rfl, ⟨_, _, rfl, rfl, rfl⟩⟩⟩⟩) (rfl) rfl ?_
    refine V.seq ?_
    replace hm0 := bindO hm0; rcases hm0 with ⟨y10, hh10, hm0⟩
    refine V.region ?_
    refine VO.cons rfl (V1.move rfl rfl rfl (ltb rfl) ?_)
    refine VO.cons rfl (V1.move rfl rfl rfl (ltb rfl) ?_)
    refine VO.cons rfl (V1.move rfl rfl rfl (ltb rfl) ?_)
    refine VO.cons rfl (V1.permK (V1.call rfl rfl rfl cok_69 rfl (ok_impl_LendFile hh10) rfl (ltb rfl) ?_))
    rintro _ _ ⟨ob3, hob3, rfl, rfl⟩
    refine ⟨_, ?_, Keeps.optBack (n := 7) (ob := ob3) (xs := List.map encFile y10.1) (H1 := []) (H2 := []) rfl⟩
    refine VO.cons rfl (V1.move rfl rfl rfl (ltb rfl) ?_)
    refine VO.cons rfl (V1.extract rfl rfl rfl rfl (ltb rfl) ?_)
    refine VO.weakenK (Keeps.optFront (n := 7) (ob := ob3) (xs := List.map encFile y10.1) (H1 := []) rfl) ?_
    refine VO.weakenK (Keeps.optVl 111 [] rn (f := encFile) (l := y10.1) (ob := ob3) (H1 := []) hob3 rfl rfl ⟨rfl, trivial⟩ (fun _ => rfl) rfl iNil) ?_
    refine VO.cons rfl (V1.extract rfl rfl rfl rfl (ltb rfl) ?_)
    refine VO.cons rfl (V1.assign rfl rfl rfl (ltb rfl) ?_)
    refine VO.cons rfl (V1.assign rfl rfl rfl (ltb rfl) ?_)
    refine VO.nil ?_
    refine V.keep 214 [0, 14, 15, 16, 17, 18] [] (E0 := [(0, .vl ρ0 1 (List.map encU8 code)), (14, .vl rn 7 (List.map encFile y9.1)), (15, .int .i64 y9.2.1), (16, .bool y9.2.2), (17, .vl rn 7 (List.map encFile y10.1)), (18, .bool y10.2)]) (H0 := []) rfl (⟨_, _, rfl, rfl, ⟨_, _, rfl, rfl, ⟨_, _, rfl, rfl, ⟨_, _, rfl, rfl, ⟨_, _, rfl, rfl, ⟨_, _, rfl, rfl, rfl⟩⟩⟩⟩⟩⟩) (rfl) rfl ?_
    refine V.seq ?_
    refine V.seq ?_
    replace hm0 := bindO hm0; rcases hm0 with ⟨y11, hh11, hm0⟩
    refine V.region ?_
    refine VO.cons rfl (V1.move rfl rfl rfl (ltb rfl) ?_)
    refine VO.cons rfl (V1.move rfl rfl rfl (ltb rfl) ?_)
    refine VO.cons rfl (V1.move rfl rfl rfl (ltb rfl) ?_)
    refine VO.cons rfl (V1.call rfl rfl rfl cok_70 rfl (ok_spec_LendFile hh11) rfl (ltb rfl) ?_)
    rintro _ _ ⟨b3, rfl, rfl⟩
    refine VO.cons rfl (V1.move rfl rfl rfl (ltb rfl) ?_)
    refine VO.cons rfl (V1.extract rfl rfl rfl rfl (ltb rfl) ?_)
    refine VO.weakenK (Keeps.freezeG 0 rn [(118, .vl rn 7 (List.map encFile y11.1))] [] (f := encFile) (l := y11.1) rfl (fun _ => rfl) ⟨⟨_, rfl, .here⟩, trivial⟩ rfl rfl iNil) ?_
    refine VO.cons rfl (V1.extract rfl rfl rfl rfl (ltb rfl) ?_)
    refine VO.cons rfl (V1.assign rfl rfl rfl (ltb rfl) ?_)
    refine VO.cons rfl (V1.assign rfl rfl rfl (ltb rfl) ?_)
    refine VO.nil ?_
    refine V.keep 214 [0, 14, 15, 16, 17, 18, 19, 20] [] (E0 := [(0, .vl ρ0 1 (List.map encU8 code)), (14, .vl rn 7 (List.map encFile y9.1)), (15, .int .i64 y9.2.1), (16, .bool y9.2.2), (17, .vl rn 7 (List.map encFile y10.1)), (18, .bool y10.2), (19, .vl rn 7 (List.map encFile y11.1)), (20, .bool y11.2)]) (H0 := []) rfl (⟨_, _, rfl, rfl, ⟨_, _, rfl, rfl, ⟨_, _, rfl, rfl, ⟨_, _, rfl, rfl, ⟨_, _, rfl, rfl, ⟨_, _, rfl, rfl, ⟨_, _, rfl, rfl, ⟨_, _, rfl, rfl, rfl⟩⟩⟩⟩⟩⟩⟩⟩) (rfl) rfl ?_
    refine V.seq ?_
    replace hm0 := bindO hm0; rcases hm0 with ⟨y12, hh12, hm0⟩
    refine V.region ?_
    refine VO.cons rfl (V1.move rfl rfl rfl (ltb rfl) ?_)
    refine VO.cons rfl (V1.move rfl rfl rfl (ltb rfl) ?_)
    refine VO.cons rfl (V1.boolNeq rfl rfl und_4 rfl rfl (ltb rfl) ?_)
    refine VO.cons rfl (V1.move rfl rfl rfl (ltb rfl) ?_)
    apply VO.or (n := 4) rfl rfl rfl rfl rfl rfl (ltb rfl) (.none rfl)
    ·
     intro hg4
     refine VO.step (.some rfl rfl rfl) (V1.move rfl rfl rfl (ltb rfl) ?_)
     refine VO.step (.some rfl rfl rfl) (V1.move rfl rfl rfl (ltb rfl) ?_)
     refine VO.step (.some rfl rfl rfl) (V1.call rfl rfl rfl cok_65 rfl (ok_laws_rFiles (cond_f hg4 hh12)) rfl (ltb rfl) ?_)
     rintro _ _ ⟨rfl, rfl⟩
     refine VO.step (.some rfl rfl rfl) (V1.not rfl rfl rfl (ltb rfl) ?_)
     exact VO.nil ⟨rfl, rfl, rfl, rfl, .inr ⟨rfl, .inr ⟨rfl, .inr ⟨rfl, .inr ⟨rfl, .inr ⟨rfl, .inl rfl⟩⟩⟩⟩⟩⟩
    refine VO.nil ?_
    refine V.keep 214 [0, 14, 15, 16, 17, 18, 128] [] (E0 := [(0, .vl ρ0 1 (List.map encU8 code)), (14, .vl rn 7 (List.map encFile y9.1)), (15, .int .i64 y9.2.1), (16, .bool y9.2.2), (17, .vl rn 7 (List.map encFile y10.1)), (18, .bool y10.2), (128, .bool ((!(y10.2 == y11.2)) || (!y12)))]) (H0 := []) rfl (⟨_, _, rfl, rfl, ⟨_, _, rfl, rfl, ⟨_, _, rfl, rfl, ⟨_, _, rfl, rfl, ⟨_, _, rfl, rfl, ⟨_, _, rfl, rfl, ⟨_, _, rfl, rfl, rfl⟩⟩⟩⟩⟩⟩⟩) (rfl) rfl ?_
    refine V.cond rfl (fun hc4 => ?_) (fun hc4 => ?_)
    ·
     replace hm0 := cond_t hc4 hm0
     refine V.seq ?_
     refine V.region ?_
     refine VO.cons rfl (V1.assign rfl rfl rfl (ltb rfl) ?_)
     refine VO.nil ?_
     refine V.ret ?_
     obtain rfl := Option.some.inj hm0
     exact ⟨_, [], ⟨_, _, rfl, rfl, rfl⟩, List.nil_sublist _, rfl, rfl⟩
    ·
     replace hm0 := cond_f hc4 hm0
     refine V.skip ?_
     refine V.seq ?_
     replace hm0 := bindO hm0; rcases hm0 with ⟨j1, hm1, hm0⟩
     refine V.cutT (D := (Unit) × (Unit)) (fun ⟨_, _⟩ => ⟨214, [(0, .vl ρ0 1 (List.map encU8 code))], []⟩) (fun ⟨_, _⟩ => (.inl () = j1)) ?_ ?_
     ·
      refine V.seq ?_
      refine V.region ?_
      refine VO.cons rfl (V1.move rfl rfl rfl (ltb rfl) ?_)
      refine VO.nil ?_
      refine V.cond rfl (fun hc5 => ?_) (fun hc5 => ?_)
      ·
       replace hm1 := cond_t hc5 hm1
       refine V.seq ?_
       replace hm1 := bindO hm1; rcases hm1 with ⟨y13, hh13, hm1⟩
       refine V.region ?_
       refine VO.cons rfl (V1.move rfl rfl rfl (ltb rfl) ?_)
       refine VO.cons rfl (V1.move rfl rfl rfl (ltb rfl) ?_)
       refine VO.cons rfl (V1.move rfl rfl rfl (ltb rfl) ?_)
       refine VO.cons rfl (V1.not rfl rfl rfl (ltb rfl) ?_)
       refine VO.cons rfl (V1.permK (V1.call rfl rfl rfl cok_69 rfl (ok_impl_LendFile hh13) rfl (ltb rfl) ?_))
       rintro _ _ ⟨ob4, hob4, rfl, rfl⟩
       refine ⟨_, ?_, Keeps.optBack (n := 7) (ob := ob4) (xs := List.map encFile y13.1) (H1 := []) (H2 := []) rfl⟩
       refine VO.cons rfl (V1.move rfl rfl rfl (ltb rfl) ?_)
       refine VO.cons rfl (V1.extract rfl rfl rfl rfl (ltb rfl) ?_)
       refine VO.weakenK (Keeps.optFront (n := 7) (ob := ob4) (xs := List.map encFile y13.1) (H1 := []) rfl) ?_
       refine VO.weakenK (Keeps.optVl 136 [] rn (f := encFile) (l := y13.1) (ob := ob4) (H1 := []) hob4 rfl rfl ⟨rfl, trivial⟩ (fun _ => rfl) rfl iNil) ?_
       refine VO.cons rfl (V1.extract rfl rfl rfl rfl (ltb rfl) ?_)
       refine VO.cons rfl (V1.assign rfl rfl rfl (ltb rfl) ?_)
       refine VO.cons rfl (V1.assign rfl rfl rfl (ltb rfl) ?_)
       refine VO.nil ?_
       refine V.keep 214 [0, 14, 21, 22] [] (E0 := [(0, .vl ρ0 1 (List.map encU8 code)), (14, .vl rn 7 (List.map encFile y9.1)), (21, .vl rn 7 (List.map encFile y13.1)), (22, .bool y13.2)]) (H0 := []) rfl (⟨_, _, rfl, rfl, ⟨_, _, rfl, rfl, ⟨_, _, rfl, rfl, ⟨_, _, rfl, rfl, rfl⟩⟩⟩⟩) (rfl) rfl ?_
       refine V.seq ?_
       replace hm1 := bindO hm1; rcases hm1 with ⟨y14, hh14, hm1⟩
       refine V.region ?_
       refine VO.cons rfl (V1.move rfl rfl rfl (ltb rfl) ?_)
       refine VO.cons rfl (V1.not rfl rfl rfl (ltb rfl) ?_)
       refine VO.cons rfl (V1.move rfl rfl rfl (ltb rfl) ?_)
       apply VO.or (n := 4) rfl rfl rfl rfl rfl rfl (ltb rfl) (.none rfl)
       ·
        intro hg5
        refine VO.step (.some rfl rfl rfl) (V1.move rfl rfl rfl (ltb rfl) ?_)
        refine VO.step (.some rfl rfl rfl) (V1.move rfl rfl rfl (ltb rfl) ?_)
        refine VO.step (.some rfl rfl rfl) (V1.call rfl rfl rfl cok_65 rfl (ok_laws_rFiles (cond_f hg5 hh14)) rfl (ltb rfl) ?_)
        rintro _ _ ⟨rfl, rfl⟩
        refine VO.step (.some rfl rfl rfl) (V1.not rfl rfl rfl (ltb rfl) ?_)
        exact VO.nil ⟨rfl, rfl, rfl, rfl, .inr ⟨rfl, .inr ⟨rfl, .inr ⟨rfl, .inr ⟨rfl, .inr ⟨rfl, .inl rfl⟩⟩⟩⟩⟩⟩
       refine VO.nil ?_
       refine V.keep 214 [0, 145] [] (E0 := [(0, .vl ρ0 1 (List.map encU8 code)), (145, .bool ((!y13.2) || (!y14)))]) (H0 := []) rfl (⟨_, _, rfl, rfl, ⟨_, _, rfl, rfl, rfl⟩⟩) (rfl) rfl ?_
       refine V.cond rfl (fun hc6 => ?_) (fun hc6 => ?_)
       ·
        replace hm1 := cond_t hc6 hm1
        refine V.seq ?_
        refine V.region ?_
        refine VO.cons rfl (V1.assign rfl rfl rfl (ltb rfl) ?_)
        refine VO.nil ?_
        refine V.ret ?_
        obtain rfl := Option.some.inj hm1
        change some _ = some _ at hm0
        obtain rfl := Option.some.inj hm0
        exact ⟨_, [], ⟨_, _, rfl, rfl, rfl⟩, List.nil_sublist _, rfl, rfl⟩
       ·
        replace hm1 := cond_f hc6 hm1
        refine V.skip ?_
        exact ⟨((), ()), Option.some.inj hm1, Keeps.mk (ks := []) rfl ⟨rfl, trivial⟩ (rfl) rfl⟩
      ·
       replace hm1 := cond_f hc5 hm1
       refine V.skip ?_
       exact ⟨((), ()), Option.some.inj hm1, Keeps.mk (ks := []) rfl ⟨rfl, trivial⟩ (rfl) rfl⟩
     ·
      rintro ⟨_, _⟩ rfl
      try dsimp only at hm0
      refine V.seq ?_
      replace hm0 := bindO hm0; rcases hm0 with ⟨y15, hh15, hm0⟩
      refine V.region ?_
      refine VO.cons rfl (V1.move rfl rfl rfl (ltb rfl) ?_)
      refine VO.cons rfl (V1.call rfl rfl rfl cok_71 rfl (ok_spec_DrawReopenFile hh15) rfl (ltb rfl) ?_)
      rintro _ _ ⟨b4, rfl, rfl⟩
      refine VO.cons rfl (V1.move rfl rfl rfl (ltb rfl) ?_)
      refine VO.cons rfl (V1.extract rfl rfl rfl rfl (ltb rfl) ?_)
      refine VO.weakenK (Keeps.freezeG 0 rn [(149, .vl rn 7 (List.map encFile y15.1))] [] (f := encFile) (l := y15.1) rfl (fun _ => rfl) ⟨⟨_, rfl, .here⟩, trivial⟩ rfl rfl iNil) ?_
      refine VO.cons rfl (V1.extract rfl rfl rfl rfl (ltb rfl) ?_)
      refine VO.cons rfl (V1.assign rfl rfl rfl (ltb rfl) ?_)
      refine VO.cons rfl (V1.assign rfl rfl rfl (ltb rfl) ?_)
      refine VO.nil ?_
      refine V.keep 214 [0, 23, 24] [] (E0 := [(0, .vl ρ0 1 (List.map encU8 code)), (23, .vl rn 7 (List.map encFile y15.1)), (24, .int .i64 y15.2)]) (H0 := []) rfl (⟨_, _, rfl, rfl, ⟨_, _, rfl, rfl, ⟨_, _, rfl, rfl, rfl⟩⟩⟩) (rfl) rfl ?_
      refine V.seq ?_
      replace hm0 := bindO hm0; rcases hm0 with ⟨y16, hh16, hm0⟩
      refine V.region ?_
      refine VO.cons rfl (V1.move rfl rfl rfl (ltb rfl) ?_)
      refine VO.cons rfl (V1.move rfl rfl rfl (ltb rfl) ?_)
      refine VO.cons rfl (V1.permK (V1.call rfl rfl rfl cok_66 rfl (ok_impl_ReopenFile hh16) rfl (ltb rfl) ?_))
      rintro _ _ ⟨ob5, hob5, rfl, rfl⟩
      refine ⟨_, ?_, Keeps.optBack (n := 7) (ob := ob5) (xs := List.map encFile y16.1) (H1 := []) (H2 := []) rfl⟩
      refine VO.cons rfl (V1.move rfl rfl rfl (ltb rfl) ?_)
      refine VO.cons rfl (V1.extract rfl rfl rfl rfl (ltb rfl) ?_)
      refine VO.weakenK (Keeps.optFront (n := 7) (ob := ob5) (xs := List.map encFile y16.1) (H1 := []) rfl) ?_
      refine VO.weakenK (Keeps.optVl 155 [] rn (f := encFile) (l := y16.1) (ob := ob5) (H1 := []) hob5 rfl rfl ⟨rfl, trivial⟩ (fun _ => rfl) rfl iNil) ?_
      refine VO.cons rfl (V1.extract rfl rfl rfl rfl (ltb rfl) ?_)
      refine VO.cons rfl (V1.assign rfl rfl rfl (ltb rfl) ?_)
      refine VO.cons rfl (V1.assign rfl rfl rfl (ltb rfl) ?_)
      refine VO.nil ?_
      refine V.keep 214 [0, 23, 24, 25, 26] [] (E0 := [(0, .vl ρ0 1 (List.map encU8 code)), (23, .vl rn 7 (List.map encFile y15.1)), (24, .int .i64 y15.2), (25, .vl rn 7 (List.map encFile y16.1)), (26, .bool y16.2)]) (H0 := []) rfl (⟨_, _, rfl, rfl, ⟨_, _, rfl, rfl, ⟨_, _, rfl, rfl, ⟨_, _, rfl, rfl, ⟨_, _, rfl, rfl, rfl⟩⟩⟩⟩⟩) (rfl) rfl ?_
      refine V.seq ?_
      refine V.seq ?_
      replace hm0 := bindO hm0; rcases hm0 with ⟨y17, hh17, hm0⟩
      refine V.region ?_
      refine VO.cons rfl (V1.move rfl rfl rfl (ltb rfl) ?_)
      refine VO.cons rfl (V1.move rfl rfl rfl (ltb rfl) ?_)
      refine VO.cons rfl (V1.call rfl rfl rfl cok_72 rfl (ok_spec_ReopenFile hh17) rfl (ltb rfl) ?_)
      rintro _ _ ⟨b5, rfl, rfl⟩
      refine VO.cons rfl (V1.move rfl rfl rfl (ltb rfl) ?_)
      refine VO.cons rfl (V1.extract rfl rfl rfl rfl (ltb rfl) ?_)
      refine VO.weakenK (Keeps.freezeG 0 rn [(161, .vl rn 7 (List.map encFile y17.1))] [] (f := encFile) (l := y17.1) rfl (fun _ => rfl) ⟨⟨_, rfl, .here⟩, trivial⟩ rfl rfl iNil) ?_
      refine VO.cons rfl (V1.extract rfl rfl rfl rfl (ltb rfl) ?_)
      refine VO.cons rfl (V1.assign rfl rfl rfl (ltb rfl) ?_)
      refine VO.cons rfl (V1.assign rfl rfl rfl (ltb rfl) ?_)
      refine VO.nil ?_
      refine V.keep 214 [0, 25, 26, 27, 28] [] (E0 := [(0, .vl ρ0 1 (List.map encU8 code)), (25, .vl rn 7 (List.map encFile y16.1)), (26, .bool y16.2), (27, .vl rn 7 (List.map encFile y17.1)), (28, .bool y17.2)]) (H0 := []) rfl (⟨_, _, rfl, rfl, ⟨_, _, rfl, rfl, ⟨_, _, rfl, rfl, ⟨_, _, rfl, rfl, ⟨_, _, rfl, rfl, rfl⟩⟩⟩⟩⟩) (rfl) rfl ?_
      refine V.seq ?_
      replace hm0 := bindO hm0; rcases hm0 with ⟨y18, hh18, hm0⟩
      refine V.region ?_
      refine VO.cons rfl (V1.move rfl rfl rfl (ltb rfl) ?_)
      refine VO.cons rfl (V1.move rfl rfl rfl (ltb rfl) ?_)
      refine VO.cons rfl (V1.boolNeq rfl rfl und_4 rfl rfl (ltb rfl) ?_)
      refine VO.cons rfl (V1.move rfl rfl rfl (ltb rfl) ?_)
      apply VO.or (n := 4) rfl rfl rfl rfl rfl rfl (ltb rfl) (.none rfl)
      ·
       intro hg6
       refine VO.step (.some rfl rfl rfl) (V1.move rfl rfl rfl (ltb rfl) ?_)
       refine VO.step (.some rfl rfl rfl) (V1.move rfl rfl rfl (ltb rfl) ?_)
       refine VO.step (.some rfl rfl rfl) (V1.call rfl rfl rfl cok_65 rfl (ok_laws_rFiles (cond_f hg6 hh18)) rfl (ltb rfl) ?_)
       rintro _ _ ⟨rfl, rfl⟩
       refine VO.step (.some rfl rfl rfl) (V1.not rfl rfl rfl (ltb rfl) ?_)
       exact VO.nil ⟨rfl, rfl, rfl, rfl, .inr ⟨rfl, .inr ⟨rfl, .inr ⟨rfl, .inr ⟨rfl, .inr ⟨rfl, .inl rfl⟩⟩⟩⟩⟩⟩
      refine VO.nil ?_
      refine V.keep 214 [0, 171] [] (E0 := [(0, .vl ρ0 1 (List.map encU8 code)), (171, .bool ((!(y16.2 == y17.2)) || (!y18)))]) (H0 := []) rfl (⟨_, _, rfl, rfl, ⟨_, _, rfl, rfl, rfl⟩⟩) (rfl) rfl ?_
      refine V.cond rfl (fun hc7 => ?_) (fun hc7 => ?_)
      ·
       replace hm0 := cond_t hc7 hm0
       refine V.seq ?_
       refine V.region ?_
       refine VO.cons rfl (V1.assign rfl rfl rfl (ltb rfl) ?_)
       refine VO.nil ?_
       refine V.ret ?_
       obtain rfl := Option.some.inj hm0
       exact ⟨_, [], ⟨_, _, rfl, rfl, rfl⟩, List.nil_sublist _, rfl, rfl⟩
      ·
       replace hm0 := cond_f hc7 hm0
       refine V.skip ?_
       refine V.seq ?_
       replace hm0 := bindO hm0; rcases hm0 with ⟨y19, hh19, hm0⟩
       refine V.region ?_
       refine VO.cons rfl (V1.move rfl rfl rfl (ltb rfl) ?_)
       refine VO.cons rfl (V1.call rfl rfl rfl cok_73 rfl (ok_spec_DrawDaysOpen hh19) rfl (ltb rfl) ?_)
       rintro _ _ ⟨b6, rfl, rfl⟩
       refine VO.cons rfl (V1.move rfl rfl rfl (ltb rfl) ?_)
       refine VO.cons rfl (V1.extract rfl rfl rfl rfl (ltb rfl) ?_)
       refine VO.weakenK (Keeps.freezeG 0 rn [(175, .vl rn 7 (List.map encFile y19.1))] [] (f := encFile) (l := y19.1) rfl (fun _ => rfl) ⟨⟨_, rfl, .here⟩, trivial⟩ rfl rfl iNil) ?_
       refine VO.cons rfl (V1.extract rfl rfl rfl rfl (ltb rfl) ?_)
       refine VO.cons rfl (V1.extract rfl rfl rfl rfl (ltb rfl) ?_)
       refine VO.cons rfl (V1.assign rfl rfl rfl (ltb rfl) ?_)
       refine VO.cons rfl (V1.assign rfl rfl rfl (ltb rfl) ?_)
       refine VO.cons rfl (V1.assign rfl rfl rfl (ltb rfl) ?_)
       refine VO.nil ?_
       refine V.keep 214 [0, 29, 30, 31] [] (E0 := [(0, .vl ρ0 1 (List.map encU8 code)), (29, .vl rn 7 (List.map encFile y19.1)), (30, .int .i64 y19.2.1), (31, .int .i64 y19.2.2)]) (H0 := []) rfl (⟨_, _, rfl, rfl, ⟨_, _, rfl, rfl, ⟨_, _, rfl, rfl, ⟨_, _, rfl, rfl, rfl⟩⟩⟩⟩) (rfl) rfl ?_
       refine V.seq ?_
       replace hm0 := bindO hm0; rcases hm0 with ⟨y20, hh20, hm0⟩
       refine V.region ?_
       refine VO.cons rfl (V1.move rfl rfl rfl (ltb rfl) ?_)
       refine VO.cons rfl (V1.move rfl rfl rfl (ltb rfl) ?_)
       refine VO.cons rfl (V1.move rfl rfl rfl (ltb rfl) ?_)
       refine VO.cons rfl (V1.call rfl rfl rfl cok_74 rfl (ok_impl_DaysOpen hh20) rfl (ltb rfl) ?_)
       rintro _ _ ⟨rfl, rfl⟩
       refine VO.cons rfl (V1.move rfl rfl rfl (ltb rfl) ?_)
       refine VO.cons rfl (V1.extract rfl rfl rfl rfl (ltb rfl) ?_)
       refine VO.cons rfl (V1.extract rfl rfl rfl rfl (ltb rfl) ?_)
       refine VO.cons rfl (V1.assign rfl rfl rfl (ltb rfl) ?_)
       refine VO.cons rfl (V1.assign rfl rfl rfl (ltb rfl) ?_)
       refine VO.nil ?_
       refine V.keep 214 [0, 29, 30, 31, 32, 33] [] (E0 := [(0, .vl ρ0 1 (List.map encU8 code)), (29, .vl rn 7 (List.map encFile y19.1)), (30, .int .i64 y19.2.1), (31, .int .i64 y19.2.2), (32, .int .i64 y20.1), (33, .bool y20.2)]) (H0 := []) rfl (⟨_, _, rfl, rfl, ⟨_, _, rfl, rfl, ⟨_, _, rfl, rfl, ⟨_, _, rfl, rfl, ⟨_, _, rfl, rfl, ⟨_, _, rfl, rfl, rfl⟩⟩⟩⟩⟩⟩) (rfl) rfl ?_
       refine V.seq ?_
       refine V.seq ?_
       replace hm0 := bindO hm0; rcases hm0 with ⟨y21, hh21, hm0⟩
       refine V.region ?_
       refine VO.cons rfl (V1.move rfl rfl rfl (ltb rfl) ?_)
       refine VO.cons rfl (V1.move rfl rfl rfl (ltb rfl) ?_)
       refine VO.cons rfl (V1.move rfl rfl rfl (ltb rfl) ?_)
       refine VO.cons rfl (V1.call rfl rfl rfl cok_75 rfl (ok_spec_DaysOpen hh21) rfl (ltb rfl) ?_)
       rintro _ _ ⟨rfl, rfl⟩
       refine VO.cons rfl (V1.move rfl rfl rfl (ltb rfl) ?_)
       refine VO.cons rfl (V1.extract rfl rfl rfl rfl (ltb rfl) ?_)
       refine VO.cons rfl (V1.extract rfl rfl rfl rfl (ltb rfl) ?_)
       refine VO.cons rfl (V1.assign rfl rfl rfl (ltb rfl) ?_)
       refine VO.cons rfl (V1.assign rfl rfl rfl (ltb rfl) ?_)
       refine VO.nil ?_
       refine V.keep 214 [0, 32, 33, 34, 35] [] (E0 := [(0, .vl ρ0 1 (List.map encU8 code)), (32, .int .i64 y20.1), (33, .bool y20.2), (34, .int .i64 y21.1), (35, .bool y21.2)]) (H0 := []) rfl (⟨_, _, rfl, rfl, ⟨_, _, rfl, rfl, ⟨_, _, rfl, rfl, ⟨_, _, rfl, rfl, ⟨_, _, rfl, rfl, rfl⟩⟩⟩⟩⟩) (rfl) rfl ?_
       refine V.seq ?_
       refine V.region ?_
       refine VO.cons rfl (V1.move rfl rfl rfl (ltb rfl) ?_)
       refine VO.cons rfl (V1.move rfl rfl rfl (ltb rfl) ?_)
       refine VO.cons rfl (V1.int rfl rfl rfl rfl rfl (ltb rfl) ?_)
       refine VO.cons rfl (V1.move rfl rfl rfl (ltb rfl) ?_)
       apply VO.or (n := 3) rfl rfl rfl rfl rfl rfl (ltb rfl) (.none rfl)
       ·
        intro hg7
        refine VO.step (.some rfl rfl rfl) (V1.move rfl rfl rfl (ltb rfl) ?_)
        refine VO.step (.some rfl rfl rfl) (V1.move rfl rfl rfl (ltb rfl) ?_)
        refine VO.step (.some rfl rfl rfl) (V1.boolNeq rfl rfl und_4 rfl rfl (ltb rfl) ?_)
        exact VO.nil ⟨rfl, rfl, rfl, rfl, .inr ⟨rfl, .inr ⟨rfl, .inr ⟨rfl, .inr ⟨rfl, .inl rfl⟩⟩⟩⟩⟩
       refine VO.cons rfl (V1.move rfl rfl rfl (ltb rfl) ?_)
       apply VO.or (n := 5) rfl rfl rfl rfl rfl rfl (ltb rfl) (.none rfl)
       ·
        intro hg8
        refine VO.step (.some rfl rfl rfl) (V1.move rfl rfl rfl (ltb rfl) ?_)
        refine VO.step (.some rfl rfl rfl) (V1.move rfl rfl rfl (ltb rfl) ?_)
        apply VO.and (n := 2) rfl rfl rfl rfl rfl rfl (ltb rfl) (.some rfl rfl rfl)
        ·
         intro hg9
         refine VO.step (.some rfl rfl rfl) (V1.move rfl rfl rfl (ltb rfl) ?_)
         refine VO.step (.some rfl rfl rfl) (V1.int rfl rfl rfl rfl rfl (ltb rfl) ?_)
         exact VO.nil ⟨rfl, rfl, rfl, rfl, .inr ⟨rfl, .inr ⟨rfl, .inr ⟨rfl, .inl rfl⟩⟩⟩⟩
        exact VO.nil ⟨rfl, rfl, rfl, rfl, .inr ⟨rfl, .inr ⟨rfl, .inr ⟨rfl, .inr ⟨rfl, .inl rfl⟩⟩⟩⟩⟩
       refine VO.nil ?_
       refine V.keep 214 [0, 206] [] (E0 := [(0, .vl ρ0 1 (List.map encU8 code)), (206, .bool (((y20.1 != y21.1) || (!(y20.2 == y21.2))) || (y20.2 && (decide (y20.1 < (1 : Int))))))]) (H0 := []) rfl (⟨_, _, rfl, rfl, ⟨_, _, rfl, rfl, rfl⟩⟩) (rfl) rfl ?_
       refine V.cond rfl (fun hc8 => ?_) (fun hc8 => ?_)
       ·
        replace hm0 := cond_t hc8 hm0
        refine V.seq ?_
        refine V.region ?_
        refine VO.cons rfl (V1.assign rfl rfl rfl (ltb rfl) ?_)
        refine VO.nil ?_
        refine V.ret ?_
        obtain rfl := Option.some.inj hm0
        exact ⟨_, [], ⟨_, _, rfl, rfl, rfl⟩, List.nil_sublist _, rfl, rfl⟩
       ·
        replace hm0 := cond_f hc8 hm0
        refine V.skip ?_
        refine V.seq ?_
        replace hm0 := bindO hm0; rcases hm0 with ⟨y22, hh22, hm0⟩
        refine V.region ?_
        refine VO.cons rfl (V1.move rfl rfl rfl (ltb rfl) ?_)
        refine VO.cons rfl (V1.call rfl rfl rfl cok_76 rfl (ok_spec_DrawIsFile hh22) rfl (ltb rfl) ?_)
        rintro _ _ ⟨rfl, rfl⟩
        refine VO.cons rfl (V1.alloc rfl rfl zk_93 (ltb rfl) ?_)
        intro b7
        refine VO.cons rfl (V1.storeRefAll (k := 0) rfl rfl tyk_93 rfl rfl rfl rfl rfl rfl ?_)
        refine VO.nil ?_
        refine V.keep 214 [36] [0] (E0 := [(36, .ref b7 7 0 0)]) (H0 := [(b7, ⟨7, [encFile y22]⟩)]) rfl (⟨_, _, rfl, rfl, rfl⟩) (⟨_, _, rfl, rfl, rfl⟩) rfl ?_
        refine V.seq ?_
        replace hm0 := bindO hm0; rcases hm0 with ⟨y23, hh23, hm0⟩
        replace hm0 := bindO hm0; rcases hm0 with ⟨y24, hh24, hm0⟩
        refine V.regionM 214 3 [⟨[(36, none)], [], none⟩, ⟨[(209, some 0)], [], none⟩, ⟨[(36, none)], [], none⟩] [(210, some 1), (211, some 0)] (⟨_, rfl, ⟨_, rfl, ⟨_, rfl, ⟨rfl, rfl⟩⟩⟩⟩) mixed_orders rfl (by decide +kernel) (fun hck33 => ?_)
        refine VP.step (p := ?pv7) rfl rfl rfl (⟨_, _, rfl, rfl, rfl⟩) ?hv7 ?rest7 hck33
        case hv7 =>
         intro E1
         refine (V1.loadRefAll (k := 0) rfl rfl tyk_93 rfl rfl rfl rfl rfl (ltb rfl) ?_)
         exact rfl
        refine VP.step (p := ?pv8) rfl rfl rfl (⟨_, _, rfl, rfl, rfl⟩) ?hv8 ?rest8 hck33
        case hv8 =>
         intro E1
         refine (V1.call rfl rfl rfl cok_77 rfl (ok_impl_IsFile hh23) rfl (ltb rfl) ?_)
         rintro _ _ ⟨rfl, rfl⟩
         exact rfl
        refine VP.step (p := ?pv9) rfl rfl rfl (⟨_, _, rfl, rfl, rfl⟩) ?hv9 ?rest9 hck33
        case hv9 =>
         intro E1
         refine (V1.loadRefAll (k := 0) rfl rfl tyk_93 rfl rfl rfl rfl rfl (ltb rfl) ?_)
         exact rfl
        refine VP.fin rfl (⟨_, _, rfl, rfl, ⟨_, _, rfl, rfl, rfl⟩⟩) ?_
        refine VO.cons rfl (V1.call rfl rfl rfl cok_78 rfl (ok_spec_IsFile hh24) rfl (ltb rfl) ?_)
        rintro _ _ ⟨rfl, rfl⟩
        refine VO.cons rfl (V1.boolEql rfl rfl und_4 rfl rfl (ltb rfl) ?_)
        refine VO.cons rfl (V1.assign rfl rfl rfl (ltb rfl) ?_)
        refine VO.nil ?_
        refine V.ret ?_
        obtain rfl := Option.some.inj hm0
        exact ⟨_, [], ⟨_, _, rfl, rfl, rfl⟩, List.nil_sublist _, rfl, rfl⟩
end Go.Proofs.YthfndefhmmfjaaaDoor
