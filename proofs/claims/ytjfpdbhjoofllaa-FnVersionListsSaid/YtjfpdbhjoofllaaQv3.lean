/- the functions do what their models say -/
import Derived.Test.YtjfpdbhjoofllaaQv2
set_option linter.unusedSimpArgs false
set_option linter.unusedVariables false
set_option maxRecDepth 100000
set_option maxHeartbeats 4000000
namespace Go.Proofs.Ytjfpdbhjoofllaa
open Go.VS

theorem ok_slices_Insert_impl_Version_impl_Version {rn : Nat} {oq : Option Nat} {bv : Nat} {s : List Version} {i : Int} {v r : List Version} (h : M.slices_Insert_impl_Version_impl_Version s i v = some r) (hoq : oq = none → s = []) : Does Try.prog 90 [optS 2 oq (List.length s), .int .i64 i, .sref bv 2 0 (List.length v)] ((bv, ⟨2, List.map (encVersion rn) v⟩) :: optH 2 oq (List.map (encVersion rn) s)) rn (fun x H => ∃ b0_ : Nat, x = .sref b0_ 2 0 (List.length r) ∧ H = [(b0_, ⟨2, List.map (encVersion rn) r⟩)]) := by
 have hm0 := h; clear h; unfold M.slices_Insert_impl_Version_impl_Version at hm0
 replace hm0 := asrt_some hm0; rcases hm0 with ⟨⟨hi0, hi1, hl, hv1⟩, hm0⟩
 obtain rfl := oi hm0; clear hm0
 obtain ⟨y, rfl⟩ : ∃ y, v = [y] := List.length_eq_one_iff.1 hv1
 rcases oq with _ | b
 ·
  obtain rfl := hoq rfl
  obtain rfl : i = 0 := by simp only [List.length_nil] at hi1; omega
  refine Does.intro (N := 95) Try.func90 rfl rfl rfl rfl ?_
  intro w0 S0
  refine V.seq (V.region (VO.cons rfl (V1.as ?_)))
  refine VO.nil (V.seq (V.region (VO.cons rfl (V1.mv ?_))))
  refine VO.cons rfl (V1.mv ?_)
  refine VO.weakenK (Keeps.nilsE (l := ([] : List Version)) 10 rn 2 (encVersion rn) rfl rfl rfl) ?_
  refine VO.cons rfl (V1.sliceMap (a := (0 : Int)) (b := (0 : Int)) rfl rfl esz_57 rfl (Bnd.some rfl (Int.le_refl 0) _) (Bnd.none _ _) ⟨Int.le_refl 0, Int.le_refl 0, Int.le_refl 0⟩ lt0 ?_)
  refine VO.nil (V.seq (V.region (VO.cons rfl (V1.mv ?_))))
  refine VO.cons rfl (V1.lenSref rfl rfl rfl rfl rfl rfl isl_57 lt0 ?_)
  refine VO.cons rfl (V1.as ?_)
  refine VO.nil (V.seq ?_)
  first | refine V.region ?_ | (refine V.seq ?_; refine V.region ?_)
  refine VO.cons rfl (V1.mv ?_)
  refine VO.cons rfl (V1.it ?_)
  refine VO.nil (V.cond rfl (fun hc0 => absurd hc0 (by simp)) (fun _ => ?_))
  refine V.skip ?_
  refine V.seq (V.region (VO.cons rfl (V1.mv ?_)))
  refine VO.weakenK (Keeps.nilsE (l := ([] : List Version)) 18 rn 2 (encVersion rn) rfl rfl rfl) ?_
  refine VO.cons rfl (V1.lenMap rfl rfl rfl rfl rfl rfl isl_57 lt0 ?_)
  refine VO.cons rfl (V1.as ?_)
  refine VO.nil (V.seq ?_)
  first | refine V.region ?_ | (refine V.seq ?_; refine V.region ?_)
  refine VO.cons rfl (V1.mv ?_)
  refine VO.cons rfl (V1.mv ?_)
  refine VO.cons rfl (V1.it ?_)
  refine VO.nil (V.cond rfl (fun hc1 => ?_) (fun hc1 => ?_))
  ·
   refine V.seq (V.region (VO.cons rfl (V1.mv ?_)))
   refine VO.cons rfl (V1.mv ?_)
   refine VO.cons rfl (V1.appendOpt (f := (encVersion rn)) (l := ([] : List Version)) (m := [y]) (ob := none) [(bv, ⟨2, List.map (encVersion rn) [y]⟩)] (fun _ => rfl) rfl rfl rfl rfl rfl esz_57 eby_57 zk_60 rfl rfl rfl rfl (SrcOf.srMap (k := 0) rfl isl_57) rfl (by simp) lt0 ?_)
   intro b1
   refine VO.cons rfl (V1.as ?_)
   refine VO.nil (V.ret ?_)
   exact ⟨_, [(b1, ⟨2, List.map (encVersion rn) [y]⟩)], ⟨_, _, rfl, rfl, rfl⟩, (List.nil_sublist _).cons_cons _, b1, rfl, rfl⟩
  ·
   exact absurd hc1 (by decide)
 ·
  by_cases hin : i = (s.length : Int)
  ·
   have er : s.take i.toNat ++ [y] ++ s.drop i.toNat = s ++ [y] := by rw [hin]; simp
   rw [er]
   refine Does.intro (N := 95) Try.func90 rfl rfl rfl rfl ?_
   intro w0 S0
   refine V.seq (V.region (VO.cons rfl (V1.as ?_)))
   refine VO.nil (V.seq (V.region (VO.cons rfl (V1.mv ?_))))
   refine VO.cons rfl (V1.mv ?_)
   refine VO.cons rfl (V1.sliceSw (c := ((s.length : Nat) : Int)) rfl rfl esz_57 rfl (Bnd.some rfl hi0 _) (Bnd.none _ _) ⟨hi0, hi1, Int.le_refl _⟩ lt0 ?_)
   refine VO.nil (V.seq (V.region (VO.cons rfl (V1.mv ?_))))
   refine VO.cons rfl (V1.lenSref rfl rfl rfl rfl rfl rfl isl_57 lt0 ?_)
   refine VO.cons rfl (V1.as ?_)
   refine VO.nil (V.seq ?_)
   first | refine V.region ?_ | (refine V.seq ?_; refine V.region ?_)
   refine VO.cons rfl (V1.mv ?_)
   refine VO.cons rfl (V1.it ?_)
   refine VO.nil (V.cond rfl (fun hc0 => absurd hc0 (by simp)) (fun _ => ?_))
   refine V.skip ?_
   refine V.seq (V.region (VO.cons rfl (V1.mv ?_)))
   refine VO.cons rfl (V1.lenSref rfl rfl rfl rfl rfl rfl isl_57 lt0 ?_)
   refine VO.cons rfl (V1.as ?_)
   refine VO.nil (V.seq ?_)
   first | refine V.region ?_ | (refine V.seq ?_; refine V.region ?_)
   refine VO.cons rfl (V1.mv ?_)
   refine VO.cons rfl (V1.mv ?_)
   refine VO.cons rfl (V1.it ?_)
   refine VO.nil (V.cond rfl (fun hc1 => ?_) (fun hc1 => ?_))
   ·
    refine V.seq (V.region (VO.cons rfl (V1.mv ?_)))
    refine VO.cons rfl (V1.mv ?_)
    refine VO.cons rfl (V1.appendMap (k := 1) (f := (encVersion rn)) (l := s) (m := [y]) rfl rfl rfl rfl rfl esz_57 eby_57 zk_60 rfl rfl rfl (SrcOf.srMap (k := 0) rfl isl_57) (by simp; omega) lt0 ?_)
    intro b1
    refine VO.cons rfl (V1.as ?_)
    refine VO.nil (V.ret ?_)
    exact ⟨_, [(b1, ⟨2, List.map (encVersion rn) (s ++ [y])⟩)], ⟨_, _, rfl, rfl, rfl⟩, (List.nil_sublist _).cons_cons _, b1, rfl, rfl⟩
   ·
    exact absurd hc1 (by rw [hin]; simp)
  ·
   obtain ⟨k, rfl⟩ := Int.eq_ofNat_of_zero_le hi0
   have hk : k < s.length := by omega
   have e0 : Int.toNat (k : Int) = k := Int.toNat_natCast k
   have ewn : IntKind.i64.wrap ((s.length : Int) + (([y].length : Nat) : Int)) = ((s.length + 1 : Nat) : Int) := by
    have e : ([y].length : Nat) = 1 := rfl
    rw [e, wrap64_id (by omega) (by omega)]; omega
   have ewk : IntKind.i64.wrap ((k : Int) + (([y].length : Nat) : Int)) = ((k + 1 : Nat) : Int) := by
    have e : ([y].length : Nat) = 1 := rfl
    rw [e, wrap64_id (by omega) (by omega)]; omega
   have ewm : IntKind.i64.wrap (IntKind.i64.wrap ((s.length : Int) + (([y].length : Nat) : Int)) - (k : Int)) = ((s.length + 1 - k : Nat) : Int) := by
    rw [ewn, wrap64_id (by omega) (by omega)]; omega
   refine Does.introR (N := 95) Try.func90 rfl rfl rfl rfl ?_
   intro w0 S0 vs0 hR0 _
   obtain ⟨u0, us0, _, hu0, _⟩ := Reps.cons_iff.1 hR0
   obtain ⟨cp, hB, hcp⟩ := Rep.hasCap (w := w0) (S := S0) (b := b) (n := 2) (off := 0) (len := s.length) (v := u0) hu0 (by omega)
   clear hR0 hu0
   refine V.seq (V.region (VO.cons rfl (V1.as ?_)))
   refine VO.nil (V.seq (V.region (VO.cons rfl (V1.mv ?_))))
   refine VO.cons rfl (V1.mv ?_)
   refine VO.cons rfl (V1.sliceSw (c := ((s.length : Nat) : Int)) rfl rfl esz_57 rfl (Bnd.some rfl hi0 _) (Bnd.none _ _) ⟨hi0, hi1, Int.le_refl _⟩ lt0 ?_)
   refine VO.nil (V.seq (V.region (VO.cons rfl (V1.mv ?_))))
   refine VO.cons rfl (V1.lenSref rfl rfl rfl rfl rfl rfl isl_57 lt0 ?_)
   refine VO.cons rfl (V1.as ?_)
   refine VO.nil (V.seq ?_)
   first | refine V.region ?_ | (refine V.seq ?_; refine V.region ?_)
   refine VO.cons rfl (V1.mv ?_)
   refine VO.cons rfl (V1.it ?_)
   refine VO.nil (V.cond rfl (fun hc0 => absurd hc0 (by simp)) (fun _ => ?_))
   refine V.skip ?_
   refine V.seq (V.region (VO.cons rfl (V1.mv ?_)))
   refine VO.cons rfl (V1.lenSref rfl rfl rfl rfl rfl rfl isl_57 lt0 ?_)
   refine VO.cons rfl (V1.as ?_)
   refine VO.nil (V.seq ?_)
   first | refine V.region ?_ | (refine V.seq ?_; refine V.region ?_)
   refine VO.cons rfl (V1.mv ?_)
   refine VO.cons rfl (V1.mv ?_)
   refine VO.cons rfl (V1.it ?_)
   refine VO.nil (V.cond rfl (fun hc1 => ?_) (fun hc1 => ?_))
   ·
    exact absurd (by simpa using hc1) hin
   ·
    refine V.skip ?_
    refine V.seq ?_
    first | refine V.region ?_ | (refine V.seq ?_; refine V.region ?_)
    refine VO.cons rfl (V1.mv ?_)
    refine VO.cons rfl (V1.mv ?_)
    refine VO.cons rfl (V1.it ?_)
    refine VO.cons rfl (V1.mv ?_)
    refine VO.cons rfl (V1.capOwn rfl rfl rfl rfl rfl rfl isl_57 hB (by decide) (by omega) lt0 ?_)
    refine VO.cons rfl (V1.it ?_)
    refine VO.nil ?_
    first | refine V.cond rfl (fun hc2 => ?_) (fun hc2 => ?_) | (refine V.seq ?_; refine V.cond rfl (fun hc2 => ?_) (fun hc2 => ?_))
    ·
     have hgrow : cp < s.length + 1 := by
      rw [decide_eq_true_eq, ewn] at hc2
      omega
     refine V.seq (V.region (VO.cons rfl (V1.mv ?_)))
     refine VO.cons rfl (V1.mv ?_)
     refine VO.cons rfl (V1.sliceSw (a := (0 : Int)) (c := (k : Int)) rfl rfl esz_57 rfl (Bnd.none _ _) (Bnd.some rfl (by omega) _) ⟨by omega, by omega, by omega⟩ lt0 ?_)
     refine VO.cons rfl (V1.mv ?_)
     refine VO.cons rfl (V1.mv ?_)
     refine VO.cons rfl (V1.it ?_)
     refine VO.cons rfl (V1.mv ?_)
     refine VO.cons rfl (V1.it ?_)
     refine VO.cons rfl (V1.appendZ (i := k) (k := 1) (m := s.length + 1 - k) (cp := cp) rfl rfl rfl rfl rfl esz_57 eby_57 zk_60 und_3 rfl rfl rfl (by simp; omega) (congrArg (fun q => some (PV.int .i64 q)) ewm) hB (by omega) (by omega) (by omega) lt0 ?_)
     intro b1
     refine VO.cons rfl (V1.as ?_)
     refine VO.nil (V.seq (V.region (VO.cons rfl (V1.mv ?_))))
     refine VO.cons rfl (V1.mv ?_)
     refine VO.cons rfl (V1.sliceSw (a := (k : Int)) (c := ((k + (s.length + 1 - k) : Nat) : Int)) rfl rfl esz_57 rfl (Bnd.some rfl (by omega) _) (Bnd.none _ _) ⟨by omega, by omega, by omega⟩ lt0 ?_)
     refine VO.cons rfl (V1.mv ?_)
     refine VO.cons rfl (V1.copyOwn (k := 0) (ys := List.map (encVersion rn) [y]) rfl rfl rfl rfl rfl esz_57 rfl rfl rfl (by simp; omega) (by omega) rfl (SrcK.of (SrcOf.srMap (k := 1) rfl isl_57) (by simp only [List.length_map, List.length_cons, List.length_nil]; omega)) lt0 ?_)
     refine VO.nil (V.seq (V.regionM 95 8 [⟨[(9, none)], [], none⟩, ⟨[(1, none)], [], none⟩, ⟨[(7, none)], [], none⟩, ⟨[(47, some 1), (48, some 0)], [], none⟩, ⟨[(46, some 3), (49, some 0)], [], none⟩, ⟨[(0, none)], [], none⟩, ⟨[(1, none)], [], none⟩, ⟨[(51, some 1), (52, some 0)], [], none⟩] [(9, none), (50, some 3), (53, some 0)] (⟨_, rfl, ⟨_, rfl, ⟨_, rfl, ⟨_, rfl, ⟨_, rfl, ⟨_, rfl, ⟨_, rfl, ⟨_, rfl, ⟨rfl, rfl⟩⟩⟩⟩⟩⟩⟩⟩⟩) mixed_orders rfl (by decide +kernel) (fun hck1 => ?_)))
     refine VP.step (p := ?pvA0) rfl rfl rfl (⟨_, _, rfl, rfl, rfl⟩) ?hvA0 ?restA0 hck1
     case hvA0 =>
      intro E1
      refine (V1.mv ?_)
      exact rfl
     refine VP.step (p := ?pvA1) rfl rfl rfl (⟨_, _, rfl, rfl, rfl⟩) ?hvA1 ?restA1 hck1
     case hvA1 =>
      intro E1
      refine (V1.mv ?_)
      exact rfl
     refine VP.step (p := ?pvA2) rfl rfl rfl (⟨_, _, rfl, rfl, rfl⟩) ?hvA2 ?restA2 hck1
     case hvA2 =>
      intro E1
      refine (V1.mv ?_)
      exact rfl
     refine VP.step (p := ?pvA3) rfl rfl rfl (⟨_, _, rfl, rfl, ⟨_, _, rfl, rfl, rfl⟩⟩) ?hvA3 ?restA3 hck1
     case hvA3 =>
      intro E1
      refine (V1.it ?_)
      exact rfl
     refine VP.step (p := ?pvA4) rfl rfl rfl (⟨_, _, rfl, rfl, ⟨_, _, rfl, rfl, rfl⟩⟩) ?hvA4 ?restA4 hck1
     case hvA4 =>
      intro E1
      refine (V1.sliceSw (c := ((k + (s.length + 1 - k) : Nat) : Int)) rfl rfl esz_57 rfl (Bnd.some rfl (by rw [ewk]; omega) _) (Bnd.none _ _) (by rw [ewk]; exact ⟨by omega, by omega, by omega⟩) lt0 ?_)
      exact rfl
     refine VP.step (p := ?pvA5) rfl rfl rfl (⟨_, _, rfl, rfl, rfl⟩) ?hvA5 ?restA5 hck1
     case hvA5 =>
      intro E1
      refine (V1.mv ?_)
      exact rfl
     refine VP.step (p := ?pvA6) rfl rfl rfl (⟨_, _, rfl, rfl, rfl⟩) ?hvA6 ?restA6 hck1
     case hvA6 =>
      intro E1
      refine (V1.mv ?_)
      exact rfl
     refine VP.step (p := ?pvA7) rfl rfl rfl (⟨_, _, rfl, rfl, ⟨_, _, rfl, rfl, rfl⟩⟩) ?hvA7 ?restA7 hck1
     case hvA7 =>
      intro E1
      refine (V1.sliceSw (c := ((s.length : Nat) : Int)) rfl rfl esz_57 rfl (Bnd.some rfl (by omega) _) (Bnd.none _ _) ⟨by omega, by omega, by omega⟩ lt0 ?_)
      exact rfl
     refine VP.fin rfl (⟨_, _, rfl, rfl, ⟨_, _, rfl, rfl, ⟨_, _, rfl, rfl, rfl⟩⟩⟩) ?_
     refine VO.cons rfl (V1.copyOwn (k := 0) (ys := ((List.map (encVersion rn) s).drop k).take (s.length - k)) rfl rfl rfl rfl rfl esz_57 rfl rfl rfl (by rw [ewk]; simp; omega) (by rw [ewk]; omega) rfl (fun Φ S a w v he hr => ?src1) lt0 ?rest1)
     case src1 =>
      have e1 : (0 + Int.toNat (k : Int)) = k := by omega
      rw [e1, e0] at hr
      exact SrcK.of (SrcOf.sref (k := 2) (ob := ⟨2, List.map (encVersion rn) s⟩) rfl rfl (by simp; omega) isl_57) (by rw [ewk]; simp; omega) Φ S a w v he hr
     case rest1 =>
      refine VO.nil (V.seq (V.region (VO.cons rfl (V1.mv ?_))))
      refine VO.cons rfl (V1.as ?_)
      refine VO.nil (V.ret ?_)
      refine ⟨_, _, ⟨_, _, rfl, rfl, rfl⟩, (List.nil_sublist _).cons_cons _, b1, ?_, ?_⟩
      · refine congrArg (fun q => PV.sref b1 2 0 q) ?_
        simp
        omega
      · refine congrArg (fun q => [(b1, (⟨2, q⟩ : Obj'))]) ?_
        rw [ewk]
        simp only [e0, Int.toNat_natCast, Nat.zero_add, List.length_map]
        have hq : (((List.map (encVersion rn) s).drop k).take (s.length - k)).length = s.length - k := by simp
        rw [hq]
        have h := fun z => ins_grow (xs := List.map (encVersion rn) s) (ey := (encVersion rn) y) (k := k) (by simpa using hk) z rfl
        simp only [List.length_map] at h
        simp only [List.map_append, List.map_take, List.map_drop]
        exact h _
    ·
     have hroom : s.length + 1 ≤ cp := by
      rw [decide_eq_false_iff_not, ewn] at hc2
      omega
     refine V.skip ?_
     refine V.seq (V.region (VO.cons rfl (V1.mv ?_)))
     refine VO.cons rfl (V1.mv ?_)
     refine VO.cons rfl (V1.mv ?_)
     refine VO.cons rfl (V1.it ?_)
     refine VO.cons rfl (V1.sliceUp (cp := cp) rfl rfl esz_57 rfl rfl hB (by decide) (by omega) (by rw [ewn]; omega) lt0 ?_)
     refine VO.cons rfl (V1.as ?_)
     refine VO.nil (V.seq ?_)
     first | refine V.region ?_ | (refine V.seq ?_; refine V.region ?_)
     refine VO.cons rfl (V1.mv ?_)
     refine VO.cons rfl (V1.mv ?_)
     refine VO.cons rfl (V1.mv ?_)
     refine VO.cons rfl (V1.mv ?_)
     refine VO.cons rfl (V1.it ?_)
     refine VO.cons rfl (V1.sliceSw (c := (IntKind.i64.wrap ((s.length : Int) + (([y].length : Nat) : Int)))) rfl rfl esz_57 rfl (Bnd.some rfl (by rw [ewk]; omega) _) (Bnd.none _ _) (by rw [ewk, ewn]; exact ⟨by omega, by omega, by omega⟩) lt0 ?_)
     refine VO.cons rfl (V1.overlapsNo (k1 := 0) (k2 := 1) (fn := Try.f119) (tb := 4) rfl rfl rfl rfl Try.func119 rfl rfl (by kernel_rfl) (by kernel_rfl) esz_57 rfl rfl rfl rfl (by decide) (by simp) (by rw [ewk, ewn]; omega) (by decide) lt0 ?_)
     refine VO.cons rfl (V1.not rfl rfl rfl lt0 ?_)
     refine VO.nil ?_
     first | refine V.cond rfl (fun _ => ?_) (fun hc3 => absurd hc3 (by decide)) | (refine V.seq ?_; refine V.cond rfl (fun _ => ?_) (fun hc3 => absurd hc3 (by decide)))
     ·
      refine V.seq (V.regionM 95 8 [⟨[(0, none)], [], none⟩, ⟨[(1, none)], [], none⟩, ⟨[(7, none)], [], none⟩, ⟨[(70, some 1), (71, some 0)], [], none⟩, ⟨[(69, some 3), (72, some 0)], [], none⟩, ⟨[(0, none)], [], none⟩, ⟨[(1, none)], [], none⟩, ⟨[(74, some 1), (75, some 0)], [], none⟩] [(0, none), (1, none), (2, none), (73, some 3), (76, some 0)] (⟨_, rfl, ⟨_, rfl, ⟨_, rfl, ⟨_, rfl, ⟨_, rfl, ⟨_, rfl, ⟨_, rfl, ⟨_, rfl, ⟨rfl, rfl⟩⟩⟩⟩⟩⟩⟩⟩⟩) mixed_orders rfl (by decide +kernel) (fun hck2 => ?_))
      refine VP.step (p := ?pvB0) rfl rfl rfl (⟨_, _, rfl, rfl, rfl⟩) ?hvB0 ?restB0 hck2
      case hvB0 =>
       intro E1
       refine (V1.mv ?_)
       exact rfl
      refine VP.step (p := ?pvB1) rfl rfl rfl (⟨_, _, rfl, rfl, rfl⟩) ?hvB1 ?restB1 hck2
      case hvB1 =>
       intro E1
       refine (V1.mv ?_)
       exact rfl
      refine VP.step (p := ?pvB2) rfl rfl rfl (⟨_, _, rfl, rfl, rfl⟩) ?hvB2 ?restB2 hck2
      case hvB2 =>
       intro E1
       refine (V1.mv ?_)
       exact rfl
      refine VP.step (p := ?pvB3) rfl rfl rfl (⟨_, _, rfl, rfl, ⟨_, _, rfl, rfl, rfl⟩⟩) ?hvB3 ?restB3 hck2
      case hvB3 =>
       intro E1
       refine (V1.it ?_)
       exact rfl
      refine VP.step (p := ?pvB4) rfl rfl rfl (⟨_, _, rfl, rfl, ⟨_, _, rfl, rfl, rfl⟩⟩) ?hvB4 ?restB4 hck2
      case hvB4 =>
       intro E1
       refine (V1.sliceSw (c := (IntKind.i64.wrap ((s.length : Int) + (([y].length : Nat) : Int)))) rfl rfl esz_57 rfl (Bnd.some rfl (by rw [ewk]; omega) _) (Bnd.none _ _) (by rw [ewk, ewn]; exact ⟨by omega, by omega, by omega⟩) lt0 ?_)
       exact rfl
      refine VP.step (p := ?pvB5) rfl rfl rfl (⟨_, _, rfl, rfl, rfl⟩) ?hvB5 ?restB5 hck2
      case hvB5 =>
       intro E1
       refine (V1.mv ?_)
       exact rfl
      refine VP.step (p := ?pvB6) rfl rfl rfl (⟨_, _, rfl, rfl, rfl⟩) ?hvB6 ?restB6 hck2
      case hvB6 =>
       intro E1
       refine (V1.mv ?_)
       exact rfl
      refine VP.step (p := ?pvB7) rfl rfl rfl (⟨_, _, rfl, rfl, ⟨_, _, rfl, rfl, rfl⟩⟩) ?hvB7 ?restB7 hck2
      case hvB7 =>
       intro E1
       refine (V1.sliceSw (c := (IntKind.i64.wrap ((s.length : Int) + (([y].length : Nat) : Int)))) rfl rfl esz_57 rfl (Bnd.some rfl (by omega) _) (Bnd.none _ _) (by rw [ewn]; exact ⟨by omega, by omega, by omega⟩) lt0 ?_)
       exact rfl
      refine VP.fin rfl (⟨_, _, rfl, rfl, ⟨_, _, rfl, rfl, ⟨_, _, rfl, rfl, ⟨_, _, rfl, rfl, ⟨_, _, rfl, rfl, rfl⟩⟩⟩⟩⟩) ?_
      refine VO.cons rfl (V1.copyOwn (k := 1) (ys := ((List.map (encVersion rn) s).drop k).take (s.length - k)) rfl rfl rfl rfl rfl esz_57 rfl rfl rfl (by rw [ewk]; simp; omega) (by rw [ewk, ewn]; omega) rfl (fun Φ S a w v he hr => ?src2) lt0 ?rest2)
      case src2 =>
       have e1 : (0 + Int.toNat (k : Int)) = k := by omega
       rw [e1] at hr
       exact SrcK.sref (k := 1) (ob := ⟨2, List.map (encVersion rn) s⟩) rfl rfl (by simp; omega) isl_57 (by rw [ewk, ewn]; simp only [Nat.min_def]; split <;> omega) (by rw [ewn]; omega) Φ S a w v he hr
      case rest2 =>
       refine VO.nil (V.seq (V.region (VO.cons rfl (V1.mv ?_))))
       refine VO.cons rfl (V1.mv ?_)
       refine VO.cons rfl (V1.sliceSw (a := (k : Int)) (c := (IntKind.i64.wrap ((s.length : Int) + (([y].length : Nat) : Int)))) rfl rfl esz_57 rfl (Bnd.some rfl (by omega) _) (Bnd.none _ _) (by rw [ewn]; exact ⟨by omega, by omega, by omega⟩) lt0 ?_)
       refine VO.cons rfl (V1.mv ?_)
       refine VO.cons rfl (V1.copyOwn (k := 1) (ys := List.map (encVersion rn) [y]) rfl rfl rfl rfl rfl esz_57 rfl rfl rfl (by rw [ewk]; simp; omega) (by rw [ewn]; omega) rfl (SrcK.of (SrcOf.srMap (k := 0) rfl isl_57) (by rw [ewn]; simp only [List.length_map, List.length_cons, List.length_nil]; omega)) lt0 ?_)
       refine VO.nil (V.seq (V.region (VO.cons rfl (V1.mv ?_))))
       refine VO.cons rfl (V1.as ?_)
       refine VO.nil (V.ret ?_)
       refine ⟨_, _, ⟨_, _, rfl, rfl, rfl⟩, (List.Sublist.refl _).cons _, b, ?_, ?_⟩
       · refine congrArg (fun q => PV.sref b 2 0 q) ?_
         rw [ewn]
         simp
         omega
       · refine congrArg (fun q => [(b, (⟨2, q⟩ : Obj'))]) ?_
         rw [ewk]
         simp only [e0, Int.toNat_natCast, Nat.zero_add, List.length_map]
         have hq : (((List.map (encVersion rn) s).drop k).take (s.length - k)).length = s.length - k := by simp
         rw [hq]
         have h := ins_room (xs := List.map (encVersion rn) s) (ey := (encVersion rn) y) (k := k) (by simpa using hk) rfl
         simp only [List.length_map] at h
         simp only [List.map_append, List.map_take, List.map_drop]
         exact h


theorem ok_impl_PutVersion {rn : Nat} {list : List Version} {v : Version} {r : List Version × Bool} (h : M.impl_PutVersion list v = some r) : Does Try.prog 36 [.vl rn 2 (List.map (encVersion rn) list), encVersion rn v] [] rn (fun x H => ∃ (ob0_ : Option Nat), (ob0_ = none → r.1 = []) ∧ x = .tup [optS 2 ob0_ (List.length r.1), .bool r.2] ∧ H = optH 2 ob0_ (List.map (encVersion rn) r.1)) := by
 have hm0 := h; clear h; unfold M.impl_PutVersion at hm0
 try dsimp only at hm0
 refine Does.intro (N := 38) Try.func36 rfl rfl rfl rfl ?_
 intro w0 S0
 refine V.seq (V.region (VO.cons rfl (V1.boxN (n := 2) rfl rfl rfl rfl rfl lt0 ?_)))
 intro b0
 refine VO.cons rfl (V1.as ?_)
 refine VO.cons rfl (V1.as ?_)
 refine VO.nil (V.seq (V.seq ?_))
 replace hm0 := bindO hm0; rcases hm0 with ⟨y0, hh0, hm0⟩
 refine V.region (VO.cons rfl (V1.mv ?_))
 refine VO.cons rfl (V1.call rfl rfl rfl cok_41 rfl (ok_impl_AreVersions hh0) rfl lt0 ?_)
 rintro _ _ ⟨rfl, rfl⟩
 refine VO.cons rfl (V1.not rfl rfl rfl lt0 ?_)
 refine VO.nil (V.keep 38 [0, 3, 11] [0] (E0 := [(0, .vl rn 2 (List.map (encVersion rn) list)), (3, .ref b0 2 0 0), (11, .bool (!y0))]) (H0 := [(b0, ⟨2, [encVersion rn v]⟩)]) rfl (⟨_, _, rfl, rfl, ⟨_, _, rfl, rfl, ⟨_, _, rfl, rfl, rfl⟩⟩⟩) (⟨_, _, rfl, rfl, rfl⟩) rfl ?_)
 refine V.cond rfl (fun hc0 => ?_) (fun hc0 => ?_)
 ·
  replace hm0 := cond_t hc0 hm0
  refine V.seq (V.region (VO.cons rfl (V1.as ?_)))
  refine VO.cons rfl (V1.as ?_)
  refine VO.nil (V.keep 38 [4, 5] [] (E0 := [(4, .nils), (5, .bool false)]) (H0 := []) rfl (⟨_, _, rfl, rfl, ⟨_, _, rfl, rfl, rfl⟩⟩) (rfl) rfl ?_)
  refine V.ret ?_
  obtain rfl := oi hm0
  exact ⟨_, _, ⟨_, _, rfl, rfl, ⟨_, _, rfl, rfl, rfl⟩⟩, List.Sublist.refl _, none, (fun _ => rfl), rfl, rfl⟩
 ·
  replace hm0 := cond_f hc0 hm0
  refine V.skip ?_
  refine V.seq ?_
  replace hm0 := bindO hm0; rcases hm0 with ⟨y1, hh1, hm0⟩
  refine V.region (VO.cons rfl (V1.mv ?_))
  refine VO.cons rfl (V1.permK (V1.call rfl rfl rfl cok_85 rfl (ok_impl_copyVersions hh1) rfl lt0 ?_))
  rintro _ _ ⟨ob0, hob0, rfl, rfl⟩
  refine ⟨_, ?_, Keeps.optBack (n := 2) (ob := ob0) (xs := List.map (encVersion rn) y1) (H1 := []) (H2 := [(b0, ⟨2, [encVersion rn v]⟩)]) rfl⟩
  refine VO.cons rfl (V1.as ?_)
  refine VO.nil ?_
  rcases ob0 with _ | ob0
  ·
   refine V.seq ?_
   replace hm0 := bindO hm0; rcases hm0 with ⟨y2, hh2, hm0⟩
   refine V.region (VO.cons rfl (V1.fieldRef rfl rfl fo_60_1 rfl lt0 ?_))
   refine VO.cons rfl (V1.loadRef (k := 0) rfl rfl tyk_58 rfl rfl rfl rfl rfl lt0 ?_)
   refine VO.cons rfl (V1.permK (V1.call rfl rfl rfl cok_86 rfl (ok_slices_Clone_impl_Rule_impl_Rule hh2) rfl lt0 ?_))
   rintro _ _ ⟨ob1, hob1, rfl, rfl⟩
   refine ⟨_, ?_, Keeps.optBack (n := 4) (ob := ob1) (xs := List.map encRule y2) (H1 := []) (H2 := [(b0, ⟨2, [encVersion rn v]⟩)]) rfl⟩
   refine VO.weakenK (Keeps.optFront (n := 4) (ob := ob1) (xs := List.map encRule y2) (H1 := [(b0, ⟨2, [encVersion rn v]⟩)]) rfl) ?_
   refine VO.weakenK (Keeps.optVl 16 [] rn (f := encRule) (l := y2) (ob := ob1) (H1 := []) hob1 rfl rfl ⟨rfl, trivial⟩ (fun _ => rfl) rfl iNil) ?_
   refine VO.cons rfl (V1.fieldRef rfl rfl fo_60_1 rfl lt0 ?_)
   refine VO.cons rfl (V1.storeRef (k := 0) rfl rfl tyk_58 rfl rfl rfl rfl rfl rfl rfl rfl rfl ?_)
   refine VO.nil (V.keep 38 [3, 6] [0] (E0 := [(3, .ref b0 2 0 0), (6, .nils)]) (H0 := [(b0, ⟨2, [.agg [.int .i64 v.From, .vl rn 4 (List.map encRule y2)]]⟩)]) rfl (⟨_, _, rfl, rfl, ⟨_, _, rfl, rfl, rfl⟩⟩) (⟨_, _, rfl, rfl, rfl⟩) rfl ?_)
   refine V.seq ?_
   replace hm0 := bindO hm0; rcases hm0 with ⟨y3, hh3, hm0⟩
   refine V.region (VO.cons rfl (V1.mv ?_))
   refine VO.cons rfl (V1.loadRefAll (k := 0) rfl rfl tyk_60 rfl rfl rfl rfl rfl lt0 ?_)
   refine VO.weakenK (Keeps.nilsE (l := y1) 19 rn 2 (encVersion rn) (hob0 rfl) rfl rfl) ?_
   refine VO.cons rfl (V1.call rfl rfl rfl cok_87 rfl (ok_slices_BinarySearchFunc_impl_Version_impl_Version_impl_Version hh3 (fm := (fun x0 x1 => M.impl_PutVersion_1 x0 x1)) cok_88 (fun _ _ _ h => ok_impl_PutVersion_1 h)) rfl lt0 ?_)
   rintro _ _ ⟨rfl, rfl⟩
   refine VO.cons rfl (V1.mv ?_)
   refine VO.cons rfl (V1.extract rfl rfl rfl rfl lt0 ?_)
   refine VO.cons rfl (V1.extract rfl rfl rfl rfl lt0 ?_)
   refine VO.cons rfl (V1.as ?_)
   refine VO.cons rfl (V1.as ?_)
   refine VO.nil (V.keep 38 [3, 6, 7, 8] [0] (E0 := [(3, .ref b0 2 0 0), (6, .nils), (7, .int .i64 y3.1), (8, .bool y3.2)]) (H0 := [(b0, ⟨2, [.agg [.int .i64 v.From, .vl rn 4 (List.map encRule y2)]]⟩)]) rfl (⟨_, _, rfl, rfl, ⟨_, _, rfl, rfl, ⟨_, _, rfl, rfl, ⟨_, _, rfl, rfl, rfl⟩⟩⟩⟩) (⟨_, _, rfl, rfl, rfl⟩) rfl ?_)
   refine V.seq ?_
   replace hm0 := bindO hm0; rcases hm0 with ⟨j0, hm1, hm0⟩
   refine V.cutT (D := (List Version) × (Nat)) (fun ⟨out_, b1⟩ => ⟨38, [(6, .sref b1 2 0 (List.length out_))], [(b1, ⟨2, List.map (encVersion rn) out_⟩)]⟩) (fun ⟨out_, b1⟩ => (out_ = j0)) ?_ ?_
   ·
    refine V.seq (V.region (VO.cons rfl (V1.mv ?_)))
    refine VO.nil (V.cond rfl (fun hc1 => ?_) (fun hc1 => ?_))
    ·
     replace hm1 := cond_t hc1 hm1
     replace hm1 := asrt_some hm1; rcases hm1 with ⟨hh4, hm1⟩
     refine V.region (VO.cons rfl (V1.mv ?_))
     refine VO.cons rfl (V1.mv ?_)
     refine VO.cons rfl (V1.loadRefAll (k := 0) rfl rfl tyk_60 rfl rfl rfl rfl rfl lt0 ?_)
     refine VO.weakenK (Keeps.nilsE (l := y1) 25 rn 2 (encVersion rn) (hob0 rfl) rfl rfl) ?_
     refine VO.cons rfl (V1.indexI rfl rfl esz_57 rfl rfl hh4 lt0 ?_)
     exact (nilsNo (hob0 rfl) hh4).elim
    ·
     replace hm1 := cond_f hc1 hm1
     replace hm1 := bindO hm1; rcases hm1 with ⟨y4, hh5, hm1⟩
     refine V.region (VO.cons rfl (V1.mv ?_))
     refine VO.cons rfl (V1.mv ?_)
     refine VO.cons rfl (V1.loadRefAll (k := 0) rfl rfl tyk_60 rfl rfl rfl rfl rfl lt0 ?_)
     refine VO.cons rfl (V1.buildSliceT (f := (encVersion rn)) ([(⟨v.From, y2⟩ : Version)] : List Version) rfl rfl esz_57 zk_60 rfl rfl rfl rfl rfl rfl rfl lt0 ?_)
     intro b2
     refine VO.cons rfl (V1.callI (n := 2) (ob := none) (xs := List.map (encVersion rn) y1) 0 [(b0, ⟨2, [.agg [.int .i64 v.From, .vl rn 4 (List.map encRule y2)]]⟩)] rfl rfl rfl cok_90 rfl rfl (.of_eq (List.append_nil _).symm) (ok_slices_Insert_impl_Version_impl_Version hh5 (bv := b2) (oq := none) (s := y1) (fun _ => (hob0 rfl))) rfl lt0 ?_)
     rintro _ _ ⟨b3, rfl, rfl⟩
     refine VO.cons rfl (V1.as ?_)
     refine VO.nil ?_
     exact ⟨(y4, b3), oi hm1, Keeps.mk (ks := [0]) rfl ⟨rfl, trivial⟩ (⟨_, _, rfl, rfl, rfl⟩) rfl⟩
   ·
    rintro ⟨out_, b1⟩ rfl
    try dsimp only at hm0
    refine V.seq (V.seq ?_)
    replace hm0 := bindO hm0; rcases hm0 with ⟨y5, hh6, hm0⟩
    refine V.region (VO.cons rfl (V1.mv ?_))
    refine VO.cons rfl (V1.callL (rn + 1) [b1] [.vl (rn + 1) 2 (List.map (encVersion rn) out_)] rfl rfl rfl cok_41 rfl ⟨_, _, rfl, Lend.srMap 0 rfl (fun _ => rfl) (.head _), rfl⟩ (bwCons (k := 0) rfl bwNil) (ok_impl_AreVersions hh6) rfl (⟨(by first | omega | (dsimp only; omega)), by rintro _ _ ⟨rfl, rfl⟩; exact ⟨rfl, by simp⟩⟩) lt0 ?_)
    rintro _ _ ⟨rfl, rfl⟩
    refine VO.cons rfl (V1.not rfl rfl rfl lt0 ?_)
    refine VO.nil (V.cond rfl (fun hc2 => ?_) (fun hc2 => ?_))
    ·
     replace hm0 := cond_t hc2 hm0
     refine V.seq (V.region (VO.cons rfl (V1.as ?_)))
     refine VO.cons rfl (V1.as ?_)
     refine VO.nil (V.keep 38 [4, 5] [] (E0 := [(4, .nils), (5, .bool false)]) (H0 := []) rfl (⟨_, _, rfl, rfl, ⟨_, _, rfl, rfl, rfl⟩⟩) (rfl) rfl ?_)
     refine V.ret ?_
     obtain rfl := oi hm0
     exact ⟨_, _, ⟨_, _, rfl, rfl, ⟨_, _, rfl, rfl, rfl⟩⟩, List.Sublist.refl _, none, (fun _ => rfl), rfl, rfl⟩
    ·
     replace hm0 := cond_f hc2 hm0
     refine V.skip ?_
     refine V.seq (V.region (VO.cons rfl (V1.mv ?_)))
     refine VO.cons rfl (V1.as ?_)
     refine VO.cons rfl (V1.as ?_)
     refine VO.nil (V.keep 38 [4, 5] [0] (E0 := [(4, .sref b1 2 0 (List.length out_)), (5, .bool true)]) (H0 := [(b1, ⟨2, List.map (encVersion rn) out_⟩)]) rfl (⟨_, _, rfl, rfl, ⟨_, _, rfl, rfl, rfl⟩⟩) (⟨_, _, rfl, rfl, rfl⟩) rfl ?_)
     refine V.ret ?_
     obtain rfl := oi hm0
     exact ⟨_, _, ⟨_, _, rfl, rfl, ⟨_, _, rfl, rfl, rfl⟩⟩, List.Sublist.refl _, some b1, (fun e => by cases e), rfl, rfl⟩
  ·
   refine V.seq ?_
   replace hm0 := bindO hm0; rcases hm0 with ⟨y2, hh2, hm0⟩
   refine V.region (VO.cons rfl (V1.fieldRef rfl rfl fo_60_1 rfl lt0 ?_))
   refine VO.cons rfl (V1.loadRef (k := 0) rfl rfl tyk_58 rfl rfl rfl rfl rfl lt0 ?_)
   refine VO.cons rfl (V1.permK (V1.call rfl rfl rfl cok_86 rfl (ok_slices_Clone_impl_Rule_impl_Rule hh2) rfl lt0 ?_))
   rintro _ _ ⟨ob1, hob1, rfl, rfl⟩
   refine ⟨_, ?_, Keeps.optBack (n := 4) (ob := ob1) (xs := List.map encRule y2) (H1 := []) (H2 := [(b0, ⟨2, [encVersion rn v]⟩), (ob0, ⟨2, List.map (encVersion rn) y1⟩)]) rfl⟩
   refine VO.weakenK (Keeps.optFront (n := 4) (ob := ob1) (xs := List.map encRule y2) (H1 := [(b0, ⟨2, [encVersion rn v]⟩), (ob0, ⟨2, List.map (encVersion rn) y1⟩)]) rfl) ?_
   refine VO.weakenK (Keeps.optVl 16 [] rn (f := encRule) (l := y2) (ob := ob1) (H1 := []) hob1 rfl rfl ⟨rfl, trivial⟩ (fun _ => rfl) rfl iNil) ?_
   refine VO.cons rfl (V1.fieldRef rfl rfl fo_60_1 rfl lt0 ?_)
   refine VO.cons rfl (V1.storeRef (k := 0) rfl rfl tyk_58 rfl rfl rfl rfl rfl rfl rfl rfl rfl ?_)
   refine VO.nil (V.keep 38 [3, 6] [0, 1] (E0 := [(3, .ref b0 2 0 0), (6, .sref ob0 2 0 (List.length y1))]) (H0 := [(b0, ⟨2, [.agg [.int .i64 v.From, .vl rn 4 (List.map encRule y2)]]⟩), (ob0, ⟨2, List.map (encVersion rn) y1⟩)]) rfl (⟨_, _, rfl, rfl, ⟨_, _, rfl, rfl, rfl⟩⟩) (⟨_, _, rfl, rfl, ⟨_, _, rfl, rfl, rfl⟩⟩) rfl ?_)
   refine V.seq ?_
   replace hm0 := bindO hm0; rcases hm0 with ⟨y3, hh3, hm0⟩
   refine V.region (VO.cons rfl (V1.mv ?_))
   refine VO.cons rfl (V1.loadRefAll (k := 0) rfl rfl tyk_60 rfl rfl rfl rfl rfl lt0 ?_)
   refine VO.cons rfl (V1.callL (rn + 1) [ob0] [.vl (rn + 1) 2 (List.map (encVersion rn) y1), .agg [.int .i64 v.From, .vl rn 4 (List.map encRule y2)], .fn 88 []] rfl rfl rfl cok_87 rfl ⟨_, _, rfl, Lend.srMap 1 rfl (fun _ => rfl) (.head _), ⟨_, _, rfl, .same _, ⟨_, _, rfl, Lend.fn rfl, rfl⟩⟩⟩ (bwCons (k := 1) rfl bwNil) (ok_slices_BinarySearchFunc_impl_Version_impl_Version_impl_Version hh3 (fm := (fun x0 x1 => M.impl_PutVersion_1 x0 x1)) cok_88 (fun _ _ _ h => ok_impl_PutVersion_1 h)) rfl (⟨(by first | omega | (dsimp only; omega)), by rintro _ _ ⟨rfl, rfl⟩; exact ⟨rfl, by simp⟩⟩) lt0 ?_)
   rintro _ _ ⟨rfl, rfl⟩
   refine VO.cons rfl (V1.mv ?_)
   refine VO.cons rfl (V1.extract rfl rfl rfl rfl lt0 ?_)
   refine VO.cons rfl (V1.extract rfl rfl rfl rfl lt0 ?_)
   refine VO.cons rfl (V1.as ?_)
   refine VO.cons rfl (V1.as ?_)
   refine VO.nil (V.keep 38 [3, 6, 7, 8] [0, 1] (E0 := [(3, .ref b0 2 0 0), (6, .sref ob0 2 0 (List.length y1)), (7, .int .i64 y3.1), (8, .bool y3.2)]) (H0 := [(b0, ⟨2, [.agg [.int .i64 v.From, .vl rn 4 (List.map encRule y2)]]⟩), (ob0, ⟨2, List.map (encVersion rn) y1⟩)]) rfl (⟨_, _, rfl, rfl, ⟨_, _, rfl, rfl, ⟨_, _, rfl, rfl, ⟨_, _, rfl, rfl, rfl⟩⟩⟩⟩) (⟨_, _, rfl, rfl, ⟨_, _, rfl, rfl, rfl⟩⟩) rfl ?_)
   refine V.seq ?_
   replace hm0 := bindO hm0; rcases hm0 with ⟨j0, hm1, hm0⟩
   refine V.cutT (D := (List Version) × (Nat)) (fun ⟨out_, b1⟩ => ⟨38, [(6, .sref b1 2 0 (List.length out_))], [(b1, ⟨2, List.map (encVersion rn) out_⟩)]⟩) (fun ⟨out_, b1⟩ => (out_ = j0)) ?_ ?_
   ·
    refine V.seq (V.region (VO.cons rfl (V1.mv ?_)))
    refine VO.nil (V.cond rfl (fun hc1 => ?_) (fun hc1 => ?_))
    ·
     replace hm1 := cond_t hc1 hm1
     replace hm1 := asrt_some hm1; rcases hm1 with ⟨hh4, hm1⟩
     refine V.region (VO.cons rfl (V1.mv ?_))
     refine VO.cons rfl (V1.mv ?_)
     refine VO.cons rfl (V1.loadRefAll (k := 0) rfl rfl tyk_60 rfl rfl rfl rfl rfl lt0 ?_)
     refine VO.cons rfl (V1.indexSr rfl rfl esz_57 rfl rfl hh4 lt0 ?_)
     refine VO.cons rfl (V1.storeMap (k := 1) (f := (encVersion rn)) (x := (⟨v.From, y2⟩ : Version)) rfl rfl tyk_60 rfl rfl (by simpa using natLt hh4.1 hh4.2) rfl rfl ?_)
     refine VO.weakenK (Keeps.say 6 (y := .sref ob0 2 0 (List.length (y1.set (Int.toNat y3.1) (⟨v.From, y2⟩ : Version)))) rfl (by simp [optS])) ?_
     refine VO.nil ?_
     exact ⟨((y1.set (Int.toNat y3.1) (⟨v.From, y2⟩ : Version)), ob0), oi hm1, Keeps.mk (ks := [1]) rfl ⟨rfl, trivial⟩ (⟨_, _, rfl, rfl, rfl⟩) rfl⟩
    ·
     replace hm1 := cond_f hc1 hm1
     replace hm1 := bindO hm1; rcases hm1 with ⟨y4, hh5, hm1⟩
     refine V.region (VO.cons rfl (V1.mv ?_))
     refine VO.cons rfl (V1.mv ?_)
     refine VO.cons rfl (V1.loadRefAll (k := 0) rfl rfl tyk_60 rfl rfl rfl rfl rfl lt0 ?_)
     refine VO.cons rfl (V1.buildSliceT (f := (encVersion rn)) ([(⟨v.From, y2⟩ : Version)] : List Version) rfl rfl esz_57 zk_60 rfl rfl rfl rfl rfl rfl rfl lt0 ?_)
     intro b2
     refine VO.cons rfl (V1.callI (n := 2) (ob := (some ob0)) (xs := List.map (encVersion rn) y1) 0 [(b0, ⟨2, [.agg [.int .i64 v.From, .vl rn 4 (List.map encRule y2)]]⟩)] rfl rfl rfl cok_90 rfl rfl (perm_two (j := 1) rfl rfl) (ok_slices_Insert_impl_Version_impl_Version hh5 (bv := b2) (oq := some ob0) (fun e => by cases e)) rfl lt0 ?_)
     rintro _ _ ⟨b3, rfl, rfl⟩
     refine VO.cons rfl (V1.as ?_)
     refine VO.nil ?_
     exact ⟨(y4, b3), oi hm1, Keeps.mk (ks := [0]) rfl ⟨rfl, trivial⟩ (⟨_, _, rfl, rfl, rfl⟩) rfl⟩
   ·
    rintro ⟨out_, b1⟩ rfl
    try dsimp only at hm0
    refine V.seq (V.seq ?_)
    replace hm0 := bindO hm0; rcases hm0 with ⟨y5, hh6, hm0⟩
    refine V.region (VO.cons rfl (V1.mv ?_))
    refine VO.cons rfl (V1.callL (rn + 1) [b1] [.vl (rn + 1) 2 (List.map (encVersion rn) out_)] rfl rfl rfl cok_41 rfl ⟨_, _, rfl, Lend.srMap 0 rfl (fun _ => rfl) (.head _), rfl⟩ (bwCons (k := 0) rfl bwNil) (ok_impl_AreVersions hh6) rfl (⟨(by first | omega | (dsimp only; omega)), by rintro _ _ ⟨rfl, rfl⟩; exact ⟨rfl, by simp⟩⟩) lt0 ?_)
    rintro _ _ ⟨rfl, rfl⟩
    refine VO.cons rfl (V1.not rfl rfl rfl lt0 ?_)
    refine VO.nil (V.cond rfl (fun hc2 => ?_) (fun hc2 => ?_))
    ·
     replace hm0 := cond_t hc2 hm0
     refine V.seq (V.region (VO.cons rfl (V1.as ?_)))
     refine VO.cons rfl (V1.as ?_)
     refine VO.nil (V.keep 38 [4, 5] [] (E0 := [(4, .nils), (5, .bool false)]) (H0 := []) rfl (⟨_, _, rfl, rfl, ⟨_, _, rfl, rfl, rfl⟩⟩) (rfl) rfl ?_)
     refine V.ret ?_
     obtain rfl := oi hm0
     exact ⟨_, _, ⟨_, _, rfl, rfl, ⟨_, _, rfl, rfl, rfl⟩⟩, List.Sublist.refl _, none, (fun _ => rfl), rfl, rfl⟩
    ·
     replace hm0 := cond_f hc2 hm0
     refine V.skip ?_
     refine V.seq (V.region (VO.cons rfl (V1.mv ?_)))
     refine VO.cons rfl (V1.as ?_)
     refine VO.cons rfl (V1.as ?_)
     refine VO.nil (V.keep 38 [4, 5] [0] (E0 := [(4, .sref b1 2 0 (List.length out_)), (5, .bool true)]) (H0 := [(b1, ⟨2, List.map (encVersion rn) out_⟩)]) rfl (⟨_, _, rfl, rfl, ⟨_, _, rfl, rfl, rfl⟩⟩) (⟨_, _, rfl, rfl, rfl⟩) rfl ?_)
     refine V.ret ?_
     obtain rfl := oi hm0
     exact ⟨_, _, ⟨_, _, rfl, rfl, ⟨_, _, rfl, rfl, rfl⟩⟩, List.Sublist.refl _, some b1, (fun e => by cases e), rfl, rfl⟩

theorem ok_spec_l2Day {rn : Nat} {d : Int} {r : Bool} (h : M.spec_l2Day d = some r) : Does Try.prog 62 [.int .i64 d] [] rn (fun x H => x = .bool r ∧ H = []) := by
 have hm0 := h; clear h; unfold M.spec_l2Day at hm0
 try dsimp only at hm0
 refine Does.intro (N := 5) Try.func62 rfl rfl rfl rfl ?_
 intro w0 S0
 refine V.seq (V.region (VO.cons rfl (V1.as ?_)))
 refine VO.nil (V.seq ?_)
 replace hm0 := bindO hm0; rcases hm0 with ⟨y0, hh0, hm0⟩
 refine V.region (VO.cons rfl (V1.mv ?_))
 refine VO.cons rfl (V1.call rfl rfl rfl cok_60 rfl (ok_spec_l1In hh0) rfl lt0 ?_)
 rintro _ _ ⟨rfl, rfl⟩
 refine VO.cons rfl (V1.as ?_)
 refine VO.nil (V.ret ?_)
 obtain rfl := oi hm0
 exact ⟨_, [], ⟨_, _, rfl, rfl, rfl⟩, List.nil_sublist _, rfl, rfl⟩

theorem ok_spec_l8Good {ρ0 σ0 rn : Nat} {list : List Version} {r : Bool} (h : M.spec_l8Good list = some r) : Does Try.prog 91 [.vl ρ0 2 (List.map (encVersion σ0) list)] [] rn (fun x H => x = .bool r ∧ H = []) := by
 have hm0 := h; clear h; unfold M.spec_l8Good at hm0
 try dsimp only at hm0
 refine Does.intro (N := 47) Try.func91 rfl rfl rfl rfl ?_
 intro w0 S0
 refine V.seq (V.region (VO.cons rfl (V1.as ?_)))
 refine VO.nil (V.seq (V.seq (V.region (VO.cons rfl (V1.as ?_)))))
 refine VO.nil ?_
 replace hm0 := bindO hm0; rcases hm0 with ⟨e0, he1, hm0⟩
 refine V.cutT (D := (Unit) × (Unit)) (fun ⟨_, _⟩ => ⟨47, [(0, .vl ρ0 2 (List.map (encVersion σ0) list))], []⟩) (fun ⟨_, _⟩ => (.inl () = e0)) ?_ ?_
 ·
  refine V.block ?_
  refine V.keep 47 [3, 0] [] (E0 := [(3, .int .i64 (0 : Int)), (0, .vl ρ0 2 (List.map (encVersion σ0) list))]) (H0 := []) rfl (⟨_, _, rfl, rfl, ⟨_, _, rfl, rfl, rfl⟩⟩) (rfl) rfl ?_
  refine V.loopE (D := Nat × (Int) × (Unit)) (fun ⟨n0, i, _⟩ => [(3, .int .i64 i)]) (fun ⟨n0, i, _⟩ => []) (fun ⟨n0, i, _⟩ => loopO (M.spec_l8Good_l0 list) n0 i = some e0) (fun ⟨n0, _, _⟩ => n0) (rounds, (0 : Int), ()) rfl he1 ?_
  rintro ⟨n0, i, _⟩ hP0
  obtain ⟨m0, y0, rfl, hm1, hl1, hr1⟩ := loop_head hP0
  unfold M.spec_l8Good_l0 at hm1; dsimp only at hm1
  show V _ _ _ ⟨47, [(3, .int .i64 i), (0, .vl ρ0 2 (List.map (encVersion σ0) list))], []⟩
  refine V.seq (V.seq (V.region (VO.cons rfl (V1.mv ?_))))
  refine VO.cons rfl (V1.mv ?_)
  refine VO.cons rfl (V1.lenMap rfl rfl rfl rfl rfl rfl isl_57 lt0 ?_)
  refine VO.cons rfl (V1.it ?_)
  refine VO.nil (V.cond rfl (fun hc0 => ?_) (fun hc0 => ?_))
  ·
   replace hm1 := cond_t hc0 hm1
   refine V.skip ?_
   refine V.keep 47 [0, 3] [] (E0 := [(0, .vl ρ0 2 (List.map (encVersion σ0) list)), (3, .int .i64 i)]) (H0 := []) rfl (⟨_, _, rfl, rfl, ⟨_, _, rfl, rfl, rfl⟩⟩) (rfl) rfl ?_
   refine V.seq (V.block ?_)
   refine V.seq ?_
   replace hm1 := asrt_some hm1; rcases hm1 with ⟨hh0, hm1⟩
   replace hm1 := bindO hm1; rcases hm1 with ⟨y1, hh1, hm1⟩
   replace hm1 := asrt_some hm1; rcases hm1 with ⟨hh2, hm1⟩
   replace hm1 := bindO hm1; rcases hm1 with ⟨y2, hh3, hm1⟩
   replace hm1 := asrt_some hm1; rcases hm1 with ⟨hh4, hm1⟩
   replace hm1 := asrt_some hm1; rcases hm1 with ⟨hh5, hm1⟩
   refine V.regionM 47 34 [⟨[(0, none)], [], none⟩, ⟨[(3, none)], [], none⟩, ⟨[(10, some 1), (11, some 0)], [], none⟩, ⟨[(12, some 0)], [], none⟩, ⟨[(13, some 0)], [], none⟩, ⟨[(14, some 0)], [], none⟩, ⟨[(15, some 0)], [], none⟩, ⟨[(16, some 0)], [], none⟩, ⟨[(0, none)], [(0, false)], none⟩, ⟨[(3, none)], [(1, false)], none⟩, ⟨[(18, some 1), (19, some 0)], [(2, false)], none⟩, ⟨[(20, some 0)], [(3, false)], none⟩, ⟨[(21, some 0)], [(4, false)], none⟩, ⟨[(22, some 0)], [(5, false)], none⟩, ⟨[(23, some 0)], [(6, false)], none⟩, ⟨[], [], some (false, 17, 24, 7, 0)⟩, ⟨[(25, some 0)], [], none⟩, ⟨[(3, none)], [(0, false)], none⟩, ⟨[(27, some 0)], [(1, false)], none⟩, ⟨[(28, some 0)], [(2, false)], none⟩, ⟨[(0, none)], [(0, true), (3, false)], none⟩, ⟨[(3, none)], [(1, true), (4, false)], none⟩, ⟨[(31, some 0)], [(2, true), (5, false)], none⟩, ⟨[(30, some 2), (32, some 0)], [(3, true), (6, false)], none⟩, ⟨[(33, some 0)], [(4, true), (7, false)], none⟩, ⟨[(34, some 0)], [(5, true), (8, false)], none⟩, ⟨[(0, none)], [(6, true), (9, false)], none⟩, ⟨[(3, none)], [(7, true), (10, false)], none⟩, ⟨[(36, some 1), (37, some 0)], [(8, true), (11, false)], none⟩, ⟨[(38, some 0)], [(9, true), (12, false)], none⟩, ⟨[(39, some 0)], [(10, true), (13, false)], none⟩, ⟨[(35, some 5), (40, some 0)], [(11, true), (14, false)], none⟩, ⟨[], [(15, false)], some (true, 29, 41, 12, 0)⟩, ⟨[], [], some (false, 26, 42, 16, 0)⟩] [(0, none), (3, none), (43, some 0)] (⟨_, rfl, ⟨_, rfl, ⟨_, rfl, ⟨_, rfl, ⟨_, rfl, ⟨_, rfl, ⟨_, rfl, ⟨_, rfl, ⟨_, rfl, ⟨_, rfl, ⟨_, rfl, ⟨_, rfl, ⟨_, rfl, ⟨_, rfl, ⟨_, rfl, ⟨_, rfl, ⟨_, rfl, ⟨_, rfl, ⟨_, rfl, ⟨_, rfl, ⟨_, rfl, ⟨_, rfl, ⟨_, rfl, ⟨_, rfl, ⟨_, rfl, ⟨_, rfl, ⟨_, rfl, ⟨_, rfl, ⟨_, rfl, ⟨_, rfl, ⟨_, rfl, ⟨_, rfl, ⟨_, rfl, ⟨_, rfl, ⟨rfl, rfl⟩⟩⟩⟩⟩⟩⟩⟩⟩⟩⟩⟩⟩⟩⟩⟩⟩⟩⟩⟩⟩⟩⟩⟩⟩⟩⟩⟩⟩⟩⟩⟩⟩⟩⟩) mixed_orders rfl (by decide +kernel) (fun hck4 => ?_)
   refine VP.step (p := ?pv249) rfl rfl rfl (⟨_, _, rfl, rfl, rfl⟩) ?hv249 ?rest249 hck4
   case hv249 =>
    intro E1
    refine (V1.mv ?_)
    exact rfl
   refine VP.step (p := ?pv250) rfl rfl rfl (⟨_, _, rfl, rfl, rfl⟩) ?hv250 ?rest250 hck4
   case hv250 =>
    intro E1
    refine (V1.mv ?_)
    exact rfl
   refine VP.step (p := ?pv251) rfl rfl rfl (⟨_, _, rfl, rfl, ⟨_, _, rfl, rfl, rfl⟩⟩) ?hv251 ?rest251 hck4
   case hv251 =>
    intro E1
    refine (V1.indexI rfl rfl esz_57 rfl rfl hh0 lt0 ?_)
    exact rfl
   refine VP.step (p := ?pv252) rfl rfl rfl (⟨_, _, rfl, rfl, rfl⟩) ?hv252 ?rest252 hck4
   case hv252 =>
    intro E1
    refine (V1.fieldPin rfl rfl fo_60_0 rfl lt0 ?_)
    exact rfl
   refine VP.step (p := ?pv253) rfl rfl rfl (⟨_, _, rfl, rfl, rfl⟩) ?hv253 ?rest253 hck4
   case hv253 =>
    intro E1
    refine (V1.loadPin rfl rfl tyk_3 rfl rfl lt0 ?_)
    exact rfl
   refine VP.step (p := ?pv254) rfl rfl rfl (⟨_, _, rfl, rfl, rfl⟩) ?hv254 ?rest254 hck4
   case hv254 =>
    intro E1
    refine (V1.call rfl rfl rfl cok_62 rfl (ok_spec_l2Day hh1) rfl lt0 ?_)
    rintro _ _ ⟨rfl, rfl⟩
    exact rfl
   refine VP.step (p := ?pv255) rfl rfl rfl (⟨_, _, rfl, rfl, rfl⟩) ?hv255 ?rest255 hck4
   case hv255 =>
    intro E1
    refine (V1.not rfl rfl rfl lt0 ?_)
    exact rfl
   refine VP.step (p := ?pv256) rfl rfl rfl (⟨_, _, rfl, rfl, rfl⟩) ?hv256 ?rest256 hck4
   case hv256 =>
    intro E1
    refine (V1.mv ?_)
    exact rfl
   refine VP.step (p := ?pv257) rfl rfl rfl (⟨_, _, rfl, rfl, rfl⟩) ?hv257 ?rest257 hck4
   case hv257 =>
    refine ⟨_, rfl, fun hg0 => ?_⟩
    intro E1
    refine (V1.mv ?_)
    exact rfl
   refine VP.step (p := ?pv258) rfl rfl rfl (⟨_, _, rfl, rfl, rfl⟩) ?hv258 ?rest258 hck4
   case hv258 =>
    refine ⟨_, rfl, fun hg0 => ?_⟩
    intro E1
    refine (V1.mv ?_)
    exact rfl
   refine VP.step (p := ?pv259) rfl rfl rfl (⟨_, _, rfl, rfl, ⟨_, _, rfl, rfl, rfl⟩⟩) ?hv259 ?rest259 hck4
   case hv259 =>
    refine ⟨_, rfl, fun hg0 => ?_⟩
    intro E1
    refine (V1.indexI rfl rfl esz_57 rfl rfl (hh2 hg0) lt0 ?_)
    exact rfl
   refine VP.step (p := ?pv260) rfl rfl rfl (⟨_, _, rfl, rfl, rfl⟩) ?hv260 ?rest260 hck4
   case hv260 =>
    refine ⟨_, rfl, fun hg0 => ?_⟩
    intro E1
    refine (V1.fieldPin rfl rfl fo_60_1 rfl lt0 ?_)
    exact rfl
   refine VP.step (p := ?pv261) rfl rfl rfl (⟨_, _, rfl, rfl, rfl⟩) ?hv261 ?rest261 hck4
   case hv261 =>
    refine ⟨_, rfl, fun hg0 => ?_⟩
    intro E1
    refine (V1.loadPin rfl rfl tyk_58 rfl rfl lt0 ?_)
    exact rfl
   refine VP.step (p := ?pv262) rfl rfl rfl (⟨_, _, rfl, rfl, rfl⟩) ?hv262 ?rest262 hck4
   case hv262 =>
    refine ⟨_, rfl, fun hg0 => ?_⟩
    intro E1
    refine (V1.call rfl rfl rfl cok_114 rfl (ok_spec_l4Good (cond_f hg0 hh3)) rfl lt0 ?_)
    rintro _ _ ⟨rfl, rfl⟩
    exact rfl
   refine VP.step (p := ?pv263) rfl rfl rfl (⟨_, _, rfl, rfl, rfl⟩) ?hv263 ?rest263 hck4
   case hv263 =>
    refine ⟨_, rfl, fun hg0 => ?_⟩
    intro E1
    refine (V1.not rfl rfl rfl lt0 ?_)
    exact rfl
   refine VP.pickOr rfl rfl rfl rfl rfl rfl (trivial) ?_ hck4
   refine VP.step (p := ?pv264) rfl rfl rfl (⟨_, _, rfl, rfl, rfl⟩) ?hv264 ?rest264 hck4
   case hv264 =>
    intro E1
    refine (V1.mv ?_)
    exact rfl
   refine VP.step (p := ?pv265) rfl rfl rfl (⟨_, _, rfl, rfl, rfl⟩) ?hv265 ?rest265 hck4
   case hv265 =>
    refine ⟨_, rfl, fun hg1 => ?_⟩
    intro E1
    refine (V1.mv ?_)
    exact rfl
   refine VP.step (p := ?pv266) rfl rfl rfl (⟨_, _, rfl, rfl, rfl⟩) ?hv266 ?rest266 hck4
   case hv266 =>
    refine ⟨_, rfl, fun hg1 => ?_⟩
    intro E1
    refine (V1.it ?_)
    exact rfl
   refine VP.step (p := ?pv267) rfl rfl rfl (⟨_, _, rfl, rfl, rfl⟩) ?hv267 ?rest267 hck4
   case hv267 =>
    refine ⟨_, rfl, fun hg1 => ?_⟩
    intro E1
    refine (V1.mv ?_)
    exact rfl
   refine VP.step (p := ?pv268) rfl rfl rfl (⟨_, _, rfl, rfl, rfl⟩) ?hv268 ?rest268 hck4
   case hv268 =>
    refine ⟨_, rfl, fun hg2 => ?_⟩
    refine ⟨_, rfl, fun hg1 => ?_⟩
    intro E1
    refine (V1.mv ?_)
    exact rfl
   refine VP.step (p := ?pv269) rfl rfl rfl (⟨_, _, rfl, rfl, rfl⟩) ?hv269 ?rest269 hck4
   case hv269 =>
    refine ⟨_, rfl, fun hg2 => ?_⟩
    refine ⟨_, rfl, fun hg1 => ?_⟩
    intro E1
    refine (V1.mv ?_)
    exact rfl
   refine VP.step (p := ?pv270) rfl rfl rfl (⟨_, _, rfl, rfl, rfl⟩) ?hv270 ?rest270 hck4
   case hv270 =>
    refine ⟨_, rfl, fun hg2 => ?_⟩
    refine ⟨_, rfl, fun hg1 => ?_⟩
    intro E1
    refine (V1.it ?_)
    exact rfl
   refine VP.step (p := ?pv271) rfl rfl rfl (⟨_, _, rfl, rfl, ⟨_, _, rfl, rfl, rfl⟩⟩) ?hv271 ?rest271 hck4
   case hv271 =>
    refine ⟨_, rfl, fun hg2 => ?_⟩
    refine ⟨_, rfl, fun hg1 => ?_⟩
    intro E1
    refine (V1.indexI rfl rfl esz_57 rfl rfl (hh4 hg1 hg2) lt0 ?_)
    exact rfl
   refine VP.step (p := ?pv272) rfl rfl rfl (⟨_, _, rfl, rfl, rfl⟩) ?hv272 ?rest272 hck4
   case hv272 =>
    refine ⟨_, rfl, fun hg2 => ?_⟩
    refine ⟨_, rfl, fun hg1 => ?_⟩
    intro E1
    refine (V1.fieldPin rfl rfl fo_60_0 rfl lt0 ?_)
    exact rfl
   refine VP.step (p := ?pv273) rfl rfl rfl (⟨_, _, rfl, rfl, rfl⟩) ?hv273 ?rest273 hck4
   case hv273 =>
    refine ⟨_, rfl, fun hg2 => ?_⟩
    refine ⟨_, rfl, fun hg1 => ?_⟩
    intro E1
    refine (V1.loadPin rfl rfl tyk_3 rfl rfl lt0 ?_)
    exact rfl
   refine VP.step (p := ?pv274) rfl rfl rfl (⟨_, _, rfl, rfl, rfl⟩) ?hv274 ?rest274 hck4
   case hv274 =>
    refine ⟨_, rfl, fun hg2 => ?_⟩
    refine ⟨_, rfl, fun hg1 => ?_⟩
    intro E1
    refine (V1.mv ?_)
    exact rfl
   refine VP.step (p := ?pv275) rfl rfl rfl (⟨_, _, rfl, rfl, rfl⟩) ?hv275 ?rest275 hck4
   case hv275 =>
    refine ⟨_, rfl, fun hg2 => ?_⟩
    refine ⟨_, rfl, fun hg1 => ?_⟩
    intro E1
    refine (V1.mv ?_)
    exact rfl
   refine VP.step (p := ?pv276) rfl rfl rfl (⟨_, _, rfl, rfl, ⟨_, _, rfl, rfl, rfl⟩⟩) ?hv276 ?rest276 hck4
   case hv276 =>
    refine ⟨_, rfl, fun hg2 => ?_⟩
    refine ⟨_, rfl, fun hg1 => ?_⟩
    intro E1
    refine (V1.indexI rfl rfl esz_57 rfl rfl (hh5 hg1 hg2) lt0 ?_)
    exact rfl
   refine VP.step (p := ?pv277) rfl rfl rfl (⟨_, _, rfl, rfl, rfl⟩) ?hv277 ?rest277 hck4
   case hv277 =>
    refine ⟨_, rfl, fun hg2 => ?_⟩
    refine ⟨_, rfl, fun hg1 => ?_⟩
    intro E1
    refine (V1.fieldPin rfl rfl fo_60_0 rfl lt0 ?_)
    exact rfl
   refine VP.step (p := ?pv278) rfl rfl rfl (⟨_, _, rfl, rfl, rfl⟩) ?hv278 ?rest278 hck4
   case hv278 =>
    refine ⟨_, rfl, fun hg2 => ?_⟩
    refine ⟨_, rfl, fun hg1 => ?_⟩
    intro E1
    refine (V1.loadPin rfl rfl tyk_3 rfl rfl lt0 ?_)
    exact rfl
   refine VP.step (p := ?pv279) rfl rfl rfl (⟨_, _, rfl, rfl, ⟨_, _, rfl, rfl, rfl⟩⟩) ?hv279 ?rest279 hck4
   case hv279 =>
    refine ⟨_, rfl, fun hg2 => ?_⟩
    refine ⟨_, rfl, fun hg1 => ?_⟩
    intro E1
    refine (V1.it ?_)
    exact rfl
   refine VP.pickAnd rfl rfl rfl rfl rfl rfl (⟨_, rfl, fun _ => trivial⟩) ?_ hck4
   refine VP.pickOr rfl rfl rfl rfl rfl rfl (trivial) ?_ hck4
   refine VP.fin rfl (⟨_, _, rfl, rfl, ⟨_, _, rfl, rfl, ⟨_, _, rfl, rfl, rfl⟩⟩⟩) ?_
   refine VO.nil (V.cond rfl (fun hc1 => ?_) (fun hc1 => ?_))
   ·
    replace hm1 := cond_t hc1 hm1
    refine V.seq (V.region (VO.cons rfl (V1.as ?_)))
    refine VO.nil (V.ret ?_)
    obtain rfl := hr1 _ (oi hm1).symm
    change some _ = some _ at hm0
    obtain rfl := oi hm0
    exact ⟨_, [], ⟨_, _, rfl, rfl, rfl⟩, List.nil_sublist _, rfl, rfl⟩
   ·
    replace hm1 := cond_f hc1 hm1
    refine V.skip ?_
    refine V.region (VO.cons rfl (V1.mv ?_))
    refine VO.cons rfl (V1.it ?_)
    refine VO.cons rfl (V1.as ?_)
    refine VO.nil ?_
    exact ⟨(m0, (IntKind.i64.wrap (i + (1 : Int))), ()), hl1 _ (oi hm1).symm, Nat.lt_succ_self _, Keeps.mk (ks := []) rfl ⟨rfl, rfl, trivial⟩ (rfl) rfl⟩
  ·
   replace hm1 := cond_f hc0 hm1
   refine V.exit ?_
   obtain rfl := hr1 _ (oi hm1).symm
   exact ⟨((), ()), rfl, Keeps.mk (ks := []) rfl ⟨rfl, trivial⟩ (rfl) rfl⟩
 ·
  rintro ⟨_, _⟩ rfl
  try dsimp only at hm0
  refine V.seq (V.region (VO.cons rfl (V1.mv ?_)))
  refine VO.cons rfl (V1.lenMap rfl rfl rfl rfl rfl rfl isl_57 lt0 ?_)
  refine VO.cons rfl (V1.it ?_)
  refine VO.cons rfl (V1.as ?_)
  refine VO.nil (V.ret ?_)
  obtain rfl := oi hm0
  exact ⟨_, [], ⟨_, _, rfl, rfl, rfl⟩, List.nil_sublist _, rfl, rfl⟩

theorem ok_spec_l8Own {ρ0 rn : Nat} {v : Version} {r : Version} (h : M.spec_l8Own v = some r) : Does Try.prog 92 [encVersion ρ0 v] [] rn (fun x H => x = encVersion rn r ∧ H = []) := by
 have hm0 := h; clear h; unfold M.spec_l8Own at hm0
 try dsimp only at hm0
 refine Does.intro (N := 10) Try.func92 rfl rfl rfl rfl ?_
 intro w0 S0
 refine V.seq (V.region (VO.cons rfl (V1.boxN (n := 2) rfl rfl rfl rfl rfl lt0 ?_)))
 intro b0
 refine VO.cons rfl (V1.alloc rfl rfl zk_60 lt0 ?_)
 intro b1
 refine VO.nil (V.seq ?_)
 replace hm0 := asrt_some hm0; rcases hm0 with ⟨hh0, hm0⟩
 refine V.regionS [(b0, ⟨2, [encVersion ρ0 v]⟩)] 10 6 [⟨[(1, none)], false⟩, ⟨[(3, some 0)], false⟩, ⟨[], true⟩, ⟨[(1, none)], false⟩, ⟨[(6, some 3)], false⟩, ⟨[(5, some 2), (7, some 4)], true⟩] [(2, none), (4, some 1), (8, some 5)] 2 (⟨_, rfl, ⟨_, rfl, ⟨_, rfl, ⟨_, rfl, ⟨_, rfl, ⟨_, rfl, ⟨rfl, rfl⟩⟩⟩⟩⟩⟩⟩) mixed_orders rfl (by decide +kernel) ?_
 refine WalkP.step (p := ?pv13) 0 rfl rfl rfl rfl rfl (⟨_, _, rfl, rfl, rfl⟩) ?hv13 ?rest13
 case hv13 =>
  intro E1 H1 hI1
  refine (V1.fieldRef rfl rfl fo_60_0 rfl lt0 ?_)
  exact rfl
 refine WalkP.step (p := ?pv14) 1 rfl rfl rfl rfl rfl (⟨_, _, rfl, rfl, rfl⟩) ?hv14 ?rest14
 case hv14 =>
  intro E1 H1 hI1
  obtain ⟨k15_, hk15_⟩ := inGet 0 rfl hI1
  refine (V1.loadRef (k := k15_) rfl rfl tyk_3 rfl hk15_ rfl rfl rfl lt0 ?_)
  exact rfl
 refine WalkP.step (p := ?pv16) 3 rfl rfl rfl rfl rfl (⟨_, _, rfl, rfl, rfl⟩) ?hv16 ?rest16
 case hv16 =>
  intro E1 H1 hI1
  refine (V1.fieldRef rfl rfl fo_60_1 rfl lt0 ?_)
  exact rfl
 refine WalkP.step (p := ?pv17) 4 rfl rfl rfl rfl rfl (⟨_, _, rfl, rfl, rfl⟩) ?hv17 ?rest17
 case hv17 =>
  intro E1 H1 hI1
  obtain ⟨k18_, hk18_⟩ := inGet 0 rfl hI1
  refine (V1.loadRef (k := k18_) rfl rfl tyk_58 rfl hk18_ rfl rfl rfl lt0 ?_)
  exact rfl
 refine WalkP.nil (NodeS.branch [2] (inCons 1 rfl inNil) rfl rfl rfl ⟨?_, trivial⟩)
 ·
  refine ⟨_, _, _, _, rfl, rfl, rfl, (rfl), fun E1 => ?_⟩
  refine (V1.buildSliceT (f := encRule) ([] : List Rule) rfl rfl esz_58 zk_109 rfl rfl rfl rfl rfl rfl rfl lt0 ?_)
  intro b4
  refine ⟨_, _, rfl, ?_⟩
  refine WalkP.nil (NodeS.branch [5] (inCons 2 rfl inNil) rfl rfl rfl ⟨?_, trivial⟩)
  ·
   refine ⟨_, _, _, _, rfl, rfl, rfl, (⟨_, _, rfl, rfl, ⟨_, _, rfl, rfl, rfl⟩⟩), fun E1 => ?_⟩
   refine (V1.appendMap (k := 0) (f := encRule) (l := ([] : List Rule)) (m := v.Rules) rfl rfl rfl rfl rfl esz_58 eby_58 zk_109 rfl rfl rfl (.vl isl_58) hh0 lt0 ?_)
   intro b5
   refine ⟨_, _, rfl, ?_⟩
   refine WalkP.nil (NodeS.fin (inCons 2 rfl inNil) rfl rfl rfl (⟨_, _, rfl, rfl, ⟨_, _, rfl, rfl, ⟨_, _, rfl, rfl, rfl⟩⟩⟩) ?_)
   refine VO.cons rfl (V1.build rfl rfl zk_60 pl_60 rfl rfl lt0 ?_)
   refine VO.cons rfl (V1.storeRefAll (k := 1) rfl rfl tyk_60 rfl rfl rfl rfl rfl rfl ?_)
   refine VO.nil (V.weakenK (Keeps.freezeG 0 rn [(8, .vl rn 4 (List.map encRule (([] : List Rule) ++ v.Rules))), (9, .agg [.int .i64 v.From, .vl rn 4 (List.map encRule (([] : List Rule) ++ v.Rules))])] [(b1, ⟨2, [.agg [.int .i64 v.From, .vl rn 4 (List.map encRule (([] : List Rule) ++ v.Rules))]]⟩), (b0, ⟨2, [encVersion ρ0 v]⟩)] (f := encRule) (l := (([] : List Rule) ++ v.Rules)) rfl (fun _ => rfl) ⟨⟨_, rfl, .here⟩, ⟨_, rfl, (.agg (.cons .same (.cons .here .nil)))⟩, trivial⟩ ⟨_, _, rfl, rfl, .inr (.cons (.agg (.cons .same (.cons .here .nil))) .nil), ⟨_, _, rfl, rfl, .inl rfl, rfl⟩⟩ rfl iNil) ?_)
   refine V.ret ?_
   obtain rfl := oi hm0
   exact ⟨_, [], ⟨_, _, rfl, ⟨_, _, 0, _, rfl, rfl, rfl, rfl, tyk_60, rfl⟩, rfl⟩, List.nil_sublist _, rfl, rfl⟩

theorem ok_spec_PutVersion {ρ0 σ0 rn : Nat} {list : List Version} {v : Version} {r : List Version × Bool} (h : M.spec_PutVersion list v = some r) : Does Try.prog 37 [.vl ρ0 2 (List.map (encVersion σ0) list), encVersion rn v] [] rn (fun x H => ∃ (ob0_ : Nat), x = .tup [PV.sref ob0_ 2 0 (List.length r.1), .bool r.2] ∧ H = [(ob0_, ⟨2, List.map (encVersion rn) r.1⟩)]) := by
 have hm0 := h; clear h; unfold M.spec_PutVersion at hm0
 try dsimp only at hm0
 refine Does.intro (N := 74) Try.func37 rfl rfl rfl rfl ?_
 intro w0 S0
 refine V.seq (V.region (VO.cons rfl (V1.boxN (n := 2) rfl rfl rfl rfl rfl lt0 ?_)))
 intro b0
 refine VO.cons rfl (V1.as ?_)
 refine VO.cons rfl (V1.as ?_)
 refine VO.nil (V.seq (V.seq ?_))
 replace hm0 := bindO hm0; rcases hm0 with ⟨y0, hh0, hm0⟩
 replace hm0 := bindO hm0; rcases hm0 with ⟨y1, hh1, hm0⟩
 refine V.region (VO.cons rfl (V1.mv ?_))
 refine VO.cons rfl (V1.call rfl rfl rfl cok_91 rfl (ok_spec_l8Good hh0) rfl lt0 ?_)
 rintro _ _ ⟨rfl, rfl⟩
 refine VO.cons rfl (V1.not rfl rfl rfl lt0 ?_)
 refine VO.cons rfl (V1.mv ?_)
 apply VO.or (n := 4) rfl rfl rfl rfl rfl rfl lt0 (.none rfl)
 ·
  intro hg0
  refine VO.step (.some rfl rfl rfl) (V1.loadRefAll (k := 0) rfl rfl tyk_60 rfl rfl rfl rfl rfl lt0 ?_)
  refine VO.step (.some rfl rfl rfl) (V1.buildSliceT (f := (encVersion rn)) ([v] : List Version) rfl rfl esz_57 zk_60 rfl rfl rfl rfl rfl rfl rfl lt0 ?_)
  intro b1
  refine VO.step (.some rfl rfl rfl) (V1.callL (rn + 1) [b1] [.vl (rn + 1) 2 (List.map (encVersion rn) ([v] : List Version))] rfl rfl rfl cok_91 rfl ⟨_, _, rfl, Lend.srMap 0 rfl (fun _ => rfl) (.head _), rfl⟩ (bwCons (k := 0) rfl bwNil) (ok_spec_l8Good (cond_f hg0 hh1)) rfl (⟨(by first | omega | (dsimp only; omega)), by rintro _ _ ⟨rfl, rfl⟩; exact ⟨rfl, by simp⟩⟩) lt0 ?_)
  rintro _ _ ⟨rfl, rfl⟩
  refine VO.step (.some rfl rfl rfl) (V1.not rfl rfl rfl lt0 ?_)
  refine VO.weakenK (Keeps.dropAt 0 (H' := [(b0, ⟨2, [encVersion rn v]⟩)]) rfl) ?_
  exact VO.nil ⟨rfl, rfl, rfl, rfl, .inr ⟨rfl, .inr ⟨rfl, .inr ⟨rfl, .inr ⟨rfl, .inr ⟨rfl, .inl rfl⟩⟩⟩⟩⟩⟩
 refine VO.nil (V.keep 74 [0, 3, 17] [0] (E0 := [(0, .vl ρ0 2 (List.map (encVersion σ0) list)), (3, .ref b0 2 0 0), (17, .bool ((!y0) || (!y1)))]) (H0 := [(b0, ⟨2, [encVersion rn v]⟩)]) rfl (⟨_, _, rfl, rfl, ⟨_, _, rfl, rfl, ⟨_, _, rfl, rfl, rfl⟩⟩⟩) (⟨_, _, rfl, rfl, rfl⟩) rfl ?_)
 refine V.cond rfl (fun hc0 => ?_) (fun hc0 => ?_)
 ·
  replace hm0 := cond_t hc0 hm0
  refine V.seq (V.region (VO.cons rfl (V1.buildSliceT (f := (encVersion rn)) ([] : List Version) rfl rfl esz_57 zk_60 rfl rfl rfl rfl rfl rfl rfl lt0 ?_)))
  intro b2
  refine VO.cons rfl (V1.as ?_)
  refine VO.cons rfl (V1.as ?_)
  refine VO.nil (V.keep 74 [4, 5] [0] (E0 := [(4, .sref b2 2 0 (List.length ([] : List Version))), (5, .bool false)]) (H0 := [(b2, ⟨2, List.map (encVersion rn) ([] : List Version)⟩)]) rfl (⟨_, _, rfl, rfl, ⟨_, _, rfl, rfl, rfl⟩⟩) (⟨_, _, rfl, rfl, rfl⟩) rfl ?_)
  refine V.ret ?_
  obtain rfl := oi hm0
  exact ⟨_, _, ⟨_, _, rfl, rfl, ⟨_, _, rfl, rfl, rfl⟩⟩, List.Sublist.refl _, b2, rfl, rfl⟩
 ·
  replace hm0 := cond_f hc0 hm0
  refine V.skip ?_
  refine V.seq (V.region (VO.cons rfl (V1.buildSliceT (f := (encVersion rn)) ([] : List Version) rfl rfl esz_57 zk_60 rfl rfl rfl rfl rfl rfl rfl lt0 ?_)))
  intro b3
  refine VO.cons rfl (V1.as ?_)
  refine VO.nil (V.seq (V.seq (V.region (VO.cons rfl (V1.as ?_)))))
  refine VO.nil ?_
  replace hm0 := bindO hm0; rcases hm0 with ⟨e0, he1, hm0⟩
  refine V.cutT (D := (List Version) × (Nat)) (fun ⟨out_, b4⟩ => ⟨74, [(6, .sref b4 2 0 (List.length out_)), (0, .vl ρ0 2 (List.map (encVersion σ0) list)), (3, .ref b0 2 0 0)], [(b4, ⟨2, List.map (encVersion rn) out_⟩), (b0, ⟨2, [encVersion rn v]⟩)]⟩) (fun ⟨out_, b4⟩ => (out_ = e0)) ?_ ?_
  ·
   refine V.block ?_
   refine V.keep 74 [6, 7, 0, 3] [0, 1] (E0 := [(6, .sref b3 2 0 (List.length ([] : List Version))), (7, .int .i64 (0 : Int)), (0, .vl ρ0 2 (List.map (encVersion σ0) list)), (3, .ref b0 2 0 0)]) (H0 := [(b3, ⟨2, List.map (encVersion rn) ([] : List Version)⟩), (b0, ⟨2, [encVersion rn v]⟩)]) rfl (⟨_, _, rfl, rfl, ⟨_, _, rfl, rfl, ⟨_, _, rfl, rfl, ⟨_, _, rfl, rfl, rfl⟩⟩⟩⟩) (⟨_, _, rfl, rfl, ⟨_, _, rfl, rfl, rfl⟩⟩) rfl ?_
   refine V.loopE (D := Nat × (List Version × Int) × (Nat)) (fun ⟨n0, ⟨out_0, i⟩, b5⟩ => [(6, .sref b5 2 0 (List.length out_0)), (7, .int .i64 i)]) (fun ⟨n0, ⟨out_0, i⟩, b5⟩ => [(b5, ⟨2, List.map (encVersion rn) out_0⟩)]) (fun ⟨n0, ⟨out_0, i⟩, b5⟩ => loopO (M.spec_PutVersion_l0 list v) n0 (out_0, i) = some e0) (fun ⟨n0, _, _⟩ => n0) (rounds, (([] : List Version), (0 : Int)), b3) rfl he1 ?_
   rintro ⟨n0, ⟨out_0, i⟩, b5⟩ hP0
   obtain ⟨m0, y2, rfl, hm1, hl1, hr1⟩ := loop_head hP0
   unfold M.spec_PutVersion_l0 at hm1; dsimp only at hm1
   show V _ _ _ ⟨74, [(6, .sref b5 2 0 (List.length out_0)), (7, .int .i64 i), (0, .vl ρ0 2 (List.map (encVersion σ0) list)), (3, .ref b0 2 0 0)], [(b5, ⟨2, List.map (encVersion rn) out_0⟩), (b0, ⟨2, [encVersion rn v]⟩)]⟩
   refine V.seq (V.seq (V.region (VO.cons rfl (V1.mv ?_))))
   refine VO.cons rfl (V1.mv ?_)
   refine VO.cons rfl (V1.lenMap rfl rfl rfl rfl rfl rfl isl_57 lt0 ?_)
   refine VO.cons rfl (V1.it ?_)
   refine VO.nil (V.cond rfl (fun hc1 => ?_) (fun hc1 => ?_))
   ·
    replace hm1 := cond_t hc1 hm1
    refine V.skip ?_
    refine V.keep 74 [0, 3, 6, 7] [0, 1] (E0 := [(0, .vl ρ0 2 (List.map (encVersion σ0) list)), (3, .ref b0 2 0 0), (6, .sref b5 2 0 (List.length out_0)), (7, .int .i64 i)]) (H0 := [(b5, ⟨2, List.map (encVersion rn) out_0⟩), (b0, ⟨2, [encVersion rn v]⟩)]) rfl (⟨_, _, rfl, rfl, ⟨_, _, rfl, rfl, ⟨_, _, rfl, rfl, ⟨_, _, rfl, rfl, rfl⟩⟩⟩⟩) (⟨_, _, rfl, rfl, ⟨_, _, rfl, rfl, rfl⟩⟩) rfl ?_
    refine V.seq ?_
    replace hm1 := bindO hm1; rcases hm1 with ⟨j0, hm2, hm1⟩
    refine V.cutT (D := (List Version) × (Nat)) (fun ⟨out_1, b6⟩ => ⟨74, [(6, .sref b6 2 0 (List.length out_1)), (0, .vl ρ0 2 (List.map (encVersion σ0) list)), (3, .ref b0 2 0 0), (7, .int .i64 i)], [(b6, ⟨2, List.map (encVersion rn) out_1⟩), (b0, ⟨2, [encVersion rn v]⟩)]⟩) (fun ⟨out_1, b6⟩ => (out_1 = j0)) ?_ ?_
    ·
     refine V.block ?_
     refine V.seq ?_
     replace hm2 := asrt_some hm2; rcases hm2 with ⟨hh2, hm2⟩
     refine V.regionM 74 7 [⟨[(0, none)], [], none⟩, ⟨[(7, none)], [], none⟩, ⟨[(26, some 1), (27, some 0)], [], none⟩, ⟨[(28, some 0)], [], none⟩, ⟨[(29, some 0)], [], none⟩, ⟨[(3, none)], [], none⟩, ⟨[(31, some 0)], [], none⟩] [(0, none), (3, none), (6, none), (7, none), (30, some 2), (32, some 0)] (⟨_, rfl, ⟨_, rfl, ⟨_, rfl, ⟨_, rfl, ⟨_, rfl, ⟨_, rfl, ⟨_, rfl, ⟨rfl, rfl⟩⟩⟩⟩⟩⟩⟩⟩) mixed_orders rfl (by decide +kernel) (fun hck7 => ?_)
     refine VP.step (p := ?pv204) rfl rfl rfl (⟨_, _, rfl, rfl, rfl⟩) ?hv204 ?rest204 hck7
     case hv204 =>
      intro E1
      refine (V1.mv ?_)
      exact rfl
     refine VP.step (p := ?pv205) rfl rfl rfl (⟨_, _, rfl, rfl, rfl⟩) ?hv205 ?rest205 hck7
     case hv205 =>
      intro E1
      refine (V1.mv ?_)
      exact rfl
     refine VP.step (p := ?pv206) rfl rfl rfl (⟨_, _, rfl, rfl, ⟨_, _, rfl, rfl, rfl⟩⟩) ?hv206 ?rest206 hck7
     case hv206 =>
      intro E1
      refine (V1.indexI rfl rfl esz_57 rfl rfl hh2 lt0 ?_)
      exact rfl
     refine VP.step (p := ?pv207) rfl rfl rfl (⟨_, _, rfl, rfl, rfl⟩) ?hv207 ?rest207 hck7
     case hv207 =>
      intro E1
      refine (V1.fieldPin rfl rfl fo_60_0 rfl lt0 ?_)
      exact rfl
     refine VP.step (p := ?pv208) rfl rfl rfl (⟨_, _, rfl, rfl, rfl⟩) ?hv208 ?rest208 hck7
     case hv208 =>
      intro E1
      refine (V1.loadPin rfl rfl tyk_3 rfl rfl lt0 ?_)
      exact rfl
     refine VP.step (p := ?pv209) rfl rfl rfl (⟨_, _, rfl, rfl, rfl⟩) ?hv209 ?rest209 hck7
     case hv209 =>
      intro E1
      refine (V1.fieldRef rfl rfl fo_60_0 rfl lt0 ?_)
      exact rfl
     refine VP.step (p := ?pv210) rfl rfl rfl (⟨_, _, rfl, rfl, rfl⟩) ?hv210 ?rest210 hck7
     case hv210 =>
      intro E1
      refine (V1.loadRef (k := 1) rfl rfl tyk_3 rfl rfl rfl rfl rfl lt0 ?_)
      exact rfl
     refine VP.fin rfl (⟨_, _, rfl, rfl, ⟨_, _, rfl, rfl, ⟨_, _, rfl, rfl, ⟨_, _, rfl, rfl, ⟨_, _, rfl, rfl, ⟨_, _, rfl, rfl, rfl⟩⟩⟩⟩⟩⟩) ?_
     refine VO.cons rfl (V1.it ?_)
     refine VO.nil (V.cond rfl (fun hc2 => ?_) (fun hc2 => ?_))
     ·
      replace hm2 := cond_t hc2 hm2
      replace hm2 := asrt_some hm2; rcases hm2 with ⟨hh3, hm2⟩
      replace hm2 := bindO hm2; rcases hm2 with ⟨y3, hh4, hm2⟩
      replace hm2 := asrt_some hm2; rcases hm2 with ⟨hh5, hm2⟩
      refine V.region (VO.cons rfl (V1.mv ?_))
      refine VO.cons rfl (V1.mv ?_)
      refine VO.cons rfl (V1.mv ?_)
      refine VO.cons rfl (V1.indexI rfl rfl esz_57 rfl rfl hh3 lt0 ?_)
      refine VO.cons rfl (V1.loadPinAll rfl rfl tyk_60 rfl rfl lt0 ?_)
      refine VO.cons rfl (V1.call rfl rfl rfl cok_92 rfl (ok_spec_l8Own hh4) rfl lt0 ?_)
      rintro _ _ ⟨rfl, rfl⟩
      refine VO.cons rfl (V1.buildSliceT (f := (encVersion rn)) ([y3] : List Version) rfl rfl esz_57 zk_60 rfl rfl rfl rfl rfl rfl rfl lt0 ?_)
      intro b7
      refine VO.cons rfl (V1.appendMap (k := 1) (f := (encVersion rn)) (l := out_0) (m := ([y3] : List Version)) rfl rfl rfl rfl rfl esz_57 eby_57 zk_60 rfl rfl rfl (SrcOf.srMap (k := 0) rfl isl_57) hh5 lt0 ?_)
      intro b8
      refine VO.cons rfl (V1.as ?_)
      refine VO.nil ?_
      exact ⟨((out_0 ++ ([y3] : List Version)), b8), oi hm2, Keeps.mk (ks := [0, 2]) rfl ⟨rfl, rfl, rfl, rfl, trivial⟩ (⟨_, _, rfl, rfl, ⟨_, _, rfl, rfl, rfl⟩⟩) rfl⟩
     ·
      replace hm2 := cond_f hc2 hm2
      refine V.skip ?_
      exact ⟨(out_0, b5), oi hm2, Keeps.mk (ks := [0, 1]) rfl ⟨rfl, rfl, rfl, rfl, trivial⟩ (⟨_, _, rfl, rfl, ⟨_, _, rfl, rfl, rfl⟩⟩) rfl⟩
    ·
     rintro ⟨out_1, b6⟩ rfl
     try dsimp only at hm1
     refine V.region (VO.cons rfl (V1.mv ?_))
     refine VO.cons rfl (V1.it ?_)
     refine VO.cons rfl (V1.as ?_)
     refine VO.nil ?_
     exact ⟨(m0, (out_1, (IntKind.i64.wrap (i + (1 : Int)))), b6), hl1 _ (oi hm1).symm, Nat.lt_succ_self _, Keeps.mk (ks := [0, 1]) rfl ⟨rfl, rfl, rfl, rfl, trivial⟩ (⟨_, _, rfl, rfl, ⟨_, _, rfl, rfl, rfl⟩⟩) rfl⟩
   ·
    replace hm1 := cond_f hc1 hm1
    refine V.exit ?_
    obtain rfl := hr1 _ (oi hm1).symm
    exact ⟨(out_0, b5), rfl, Keeps.mk (ks := [0, 1]) rfl ⟨rfl, rfl, rfl, trivial⟩ (⟨_, _, rfl, rfl, ⟨_, _, rfl, rfl, rfl⟩⟩) rfl⟩
  ·
   rintro ⟨out_, b4⟩ rfl
   try dsimp only at hm0
   refine V.seq ?_
   replace hm0 := bindO hm0; rcases hm0 with ⟨y4, hh6, hm0⟩
   replace hm0 := asrt_some hm0; rcases hm0 with ⟨hh7, hm0⟩
   refine V.region (VO.cons rfl (V1.mv ?_))
   refine VO.cons rfl (V1.loadRefAll (k := 1) rfl rfl tyk_60 rfl rfl rfl rfl rfl lt0 ?_)
   refine VO.cons rfl (V1.call rfl rfl rfl cok_92 rfl (ok_spec_l8Own hh6) rfl lt0 ?_)
   rintro _ _ ⟨rfl, rfl⟩
   refine VO.cons rfl (V1.buildSliceT (f := (encVersion rn)) ([y4] : List Version) rfl rfl esz_57 zk_60 rfl rfl rfl rfl rfl rfl rfl lt0 ?_)
   intro b9
   refine VO.cons rfl (V1.appendMap (k := 1) (f := (encVersion rn)) (l := out_) (m := ([y4] : List Version)) rfl rfl rfl rfl rfl esz_57 eby_57 zk_60 rfl rfl rfl (SrcOf.srMap (k := 0) rfl isl_57) hh7 lt0 ?_)
   intro b10
   refine VO.cons rfl (V1.as ?_)
   refine VO.nil (V.keep 74 [0, 3, 6] [0, 2] (E0 := [(0, .vl ρ0 2 (List.map (encVersion σ0) list)), (3, .ref b0 2 0 0), (6, .sref b10 2 0 (List.length (out_ ++ ([y4] : List Version))))]) (H0 := [(b10, ⟨2, List.map (encVersion rn) (out_ ++ ([y4] : List Version))⟩), (b0, ⟨2, [encVersion rn v]⟩)]) rfl (⟨_, _, rfl, rfl, ⟨_, _, rfl, rfl, ⟨_, _, rfl, rfl, rfl⟩⟩⟩) (⟨_, _, rfl, rfl, ⟨_, _, rfl, rfl, rfl⟩⟩) rfl ?_)
   refine V.seq (V.seq (V.region (VO.cons rfl (V1.as ?_))))
   refine VO.nil ?_
   replace hm0 := bindO hm0; rcases hm0 with ⟨e1, he1, hm0⟩
   refine V.cutT (D := (List Version) × (Nat)) (fun ⟨out_2, b11⟩ => ⟨74, [(6, .sref b11 2 0 (List.length out_2))], [(b11, ⟨2, List.map (encVersion rn) out_2⟩)]⟩) (fun ⟨out_2, b11⟩ => (out_2 = e1)) ?_ ?_
   ·
    refine V.block ?_
    refine V.keep 74 [6, 8, 0, 3] [0, 1] (E0 := [(6, .sref b10 2 0 (List.length (out_ ++ ([y4] : List Version)))), (8, .int .i64 (0 : Int)), (0, .vl ρ0 2 (List.map (encVersion σ0) list)), (3, .ref b0 2 0 0)]) (H0 := [(b10, ⟨2, List.map (encVersion rn) (out_ ++ ([y4] : List Version))⟩), (b0, ⟨2, [encVersion rn v]⟩)]) rfl (⟨_, _, rfl, rfl, ⟨_, _, rfl, rfl, ⟨_, _, rfl, rfl, ⟨_, _, rfl, rfl, rfl⟩⟩⟩⟩) (⟨_, _, rfl, rfl, ⟨_, _, rfl, rfl, rfl⟩⟩) rfl ?_
    refine V.loopE (D := Nat × (List Version × Int) × (Nat)) (fun ⟨n1, ⟨out_3, i0⟩, b12⟩ => [(6, .sref b12 2 0 (List.length out_3)), (8, .int .i64 i0)]) (fun ⟨n1, ⟨out_3, i0⟩, b12⟩ => [(b12, ⟨2, List.map (encVersion rn) out_3⟩)]) (fun ⟨n1, ⟨out_3, i0⟩, b12⟩ => loopO (M.spec_PutVersion_l1 list v) n1 (out_3, i0) = some e1) (fun ⟨n1, _, _⟩ => n1) (rounds, ((out_ ++ ([y4] : List Version)), (0 : Int)), b10) rfl he1 ?_
    rintro ⟨n1, ⟨out_3, i0⟩, b12⟩ hP1
    obtain ⟨m1, y5, rfl, hm1, hl1, hr1⟩ := loop_head hP1
    unfold M.spec_PutVersion_l1 at hm1; dsimp only at hm1
    show V _ _ _ ⟨74, [(6, .sref b12 2 0 (List.length out_3)), (8, .int .i64 i0), (0, .vl ρ0 2 (List.map (encVersion σ0) list)), (3, .ref b0 2 0 0)], [(b12, ⟨2, List.map (encVersion rn) out_3⟩), (b0, ⟨2, [encVersion rn v]⟩)]⟩
    refine V.seq (V.seq (V.region (VO.cons rfl (V1.mv ?_))))
    refine VO.cons rfl (V1.mv ?_)
    refine VO.cons rfl (V1.lenMap rfl rfl rfl rfl rfl rfl isl_57 lt0 ?_)
    refine VO.cons rfl (V1.it ?_)
    refine VO.nil (V.cond rfl (fun hc3 => ?_) (fun hc3 => ?_))
    ·
     replace hm1 := cond_t hc3 hm1
     refine V.skip ?_
     refine V.keep 74 [0, 3, 6, 8] [0, 1] (E0 := [(0, .vl ρ0 2 (List.map (encVersion σ0) list)), (3, .ref b0 2 0 0), (6, .sref b12 2 0 (List.length out_3)), (8, .int .i64 i0)]) (H0 := [(b12, ⟨2, List.map (encVersion rn) out_3⟩), (b0, ⟨2, [encVersion rn v]⟩)]) rfl (⟨_, _, rfl, rfl, ⟨_, _, rfl, rfl, ⟨_, _, rfl, rfl, ⟨_, _, rfl, rfl, rfl⟩⟩⟩⟩) (⟨_, _, rfl, rfl, ⟨_, _, rfl, rfl, rfl⟩⟩) rfl ?_
     refine V.seq ?_
     replace hm1 := bindO hm1; rcases hm1 with ⟨j1, hm2, hm1⟩
     refine V.cutT (D := (List Version) × (Nat)) (fun ⟨out_4, b13⟩ => ⟨74, [(6, .sref b13 2 0 (List.length out_4)), (0, .vl ρ0 2 (List.map (encVersion σ0) list)), (3, .ref b0 2 0 0), (8, .int .i64 i0)], [(b13, ⟨2, List.map (encVersion rn) out_4⟩), (b0, ⟨2, [encVersion rn v]⟩)]⟩) (fun ⟨out_4, b13⟩ => (out_4 = j1)) ?_ ?_
     ·
      refine V.block ?_
      refine V.seq ?_
      replace hm2 := asrt_some hm2; rcases hm2 with ⟨hh8, hm2⟩
      refine V.regionM 74 7 [⟨[(0, none)], [], none⟩, ⟨[(8, none)], [], none⟩, ⟨[(53, some 1), (54, some 0)], [], none⟩, ⟨[(55, some 0)], [], none⟩, ⟨[(56, some 0)], [], none⟩, ⟨[(3, none)], [], none⟩, ⟨[(58, some 0)], [], none⟩] [(0, none), (3, none), (6, none), (8, none), (57, some 2), (59, some 0)] (⟨_, rfl, ⟨_, rfl, ⟨_, rfl, ⟨_, rfl, ⟨_, rfl, ⟨_, rfl, ⟨_, rfl, ⟨rfl, rfl⟩⟩⟩⟩⟩⟩⟩⟩) mixed_orders rfl (by decide +kernel) (fun hck13 => ?_)
      refine VP.step (p := ?pv246) rfl rfl rfl (⟨_, _, rfl, rfl, rfl⟩) ?hv246 ?rest246 hck13
      case hv246 =>
       intro E1
       refine (V1.mv ?_)
       exact rfl
      refine VP.step (p := ?pv247) rfl rfl rfl (⟨_, _, rfl, rfl, rfl⟩) ?hv247 ?rest247 hck13
      case hv247 =>
       intro E1
       refine (V1.mv ?_)
       exact rfl
      refine VP.step (p := ?pv248) rfl rfl rfl (⟨_, _, rfl, rfl, ⟨_, _, rfl, rfl, rfl⟩⟩) ?hv248 ?rest248 hck13
      case hv248 =>
       intro E1
       refine (V1.indexI rfl rfl esz_57 rfl rfl hh8 lt0 ?_)
       exact rfl
      refine VP.step (p := ?pv249) rfl rfl rfl (⟨_, _, rfl, rfl, rfl⟩) ?hv249 ?rest249 hck13
      case hv249 =>
       intro E1
       refine (V1.fieldPin rfl rfl fo_60_0 rfl lt0 ?_)
       exact rfl
      refine VP.step (p := ?pv250) rfl rfl rfl (⟨_, _, rfl, rfl, rfl⟩) ?hv250 ?rest250 hck13
      case hv250 =>
       intro E1
       refine (V1.loadPin rfl rfl tyk_3 rfl rfl lt0 ?_)
       exact rfl
      refine VP.step (p := ?pv251) rfl rfl rfl (⟨_, _, rfl, rfl, rfl⟩) ?hv251 ?rest251 hck13
      case hv251 =>
       intro E1
       refine (V1.fieldRef rfl rfl fo_60_0 rfl lt0 ?_)
       exact rfl
      refine VP.step (p := ?pv252) rfl rfl rfl (⟨_, _, rfl, rfl, rfl⟩) ?hv252 ?rest252 hck13
      case hv252 =>
       intro E1
       refine (V1.loadRef (k := 1) rfl rfl tyk_3 rfl rfl rfl rfl rfl lt0 ?_)
       exact rfl
      refine VP.fin rfl (⟨_, _, rfl, rfl, ⟨_, _, rfl, rfl, ⟨_, _, rfl, rfl, ⟨_, _, rfl, rfl, ⟨_, _, rfl, rfl, ⟨_, _, rfl, rfl, rfl⟩⟩⟩⟩⟩⟩) ?_
      refine VO.cons rfl (V1.it ?_)
      refine VO.nil (V.cond rfl (fun hc4 => ?_) (fun hc4 => ?_))
      ·
       replace hm2 := cond_t hc4 hm2
       replace hm2 := asrt_some hm2; rcases hm2 with ⟨hh9, hm2⟩
       replace hm2 := bindO hm2; rcases hm2 with ⟨y6, hh10, hm2⟩
       replace hm2 := asrt_some hm2; rcases hm2 with ⟨hh11, hm2⟩
       refine V.region (VO.cons rfl (V1.mv ?_))
       refine VO.cons rfl (V1.mv ?_)
       refine VO.cons rfl (V1.mv ?_)
       refine VO.cons rfl (V1.indexI rfl rfl esz_57 rfl rfl hh9 lt0 ?_)
       refine VO.cons rfl (V1.loadPinAll rfl rfl tyk_60 rfl rfl lt0 ?_)
       refine VO.cons rfl (V1.call rfl rfl rfl cok_92 rfl (ok_spec_l8Own hh10) rfl lt0 ?_)
       rintro _ _ ⟨rfl, rfl⟩
       refine VO.cons rfl (V1.buildSliceT (f := (encVersion rn)) ([y6] : List Version) rfl rfl esz_57 zk_60 rfl rfl rfl rfl rfl rfl rfl lt0 ?_)
       intro b14
       refine VO.cons rfl (V1.appendMap (k := 1) (f := (encVersion rn)) (l := out_3) (m := ([y6] : List Version)) rfl rfl rfl rfl rfl esz_57 eby_57 zk_60 rfl rfl rfl (SrcOf.srMap (k := 0) rfl isl_57) hh11 lt0 ?_)
       intro b15
       refine VO.cons rfl (V1.as ?_)
       refine VO.nil ?_
       exact ⟨((out_3 ++ ([y6] : List Version)), b15), oi hm2, Keeps.mk (ks := [0, 2]) rfl ⟨rfl, rfl, rfl, rfl, trivial⟩ (⟨_, _, rfl, rfl, ⟨_, _, rfl, rfl, rfl⟩⟩) rfl⟩
      ·
       replace hm2 := cond_f hc4 hm2
       refine V.skip ?_
       exact ⟨(out_3, b12), oi hm2, Keeps.mk (ks := [0, 1]) rfl ⟨rfl, rfl, rfl, rfl, trivial⟩ (⟨_, _, rfl, rfl, ⟨_, _, rfl, rfl, rfl⟩⟩) rfl⟩
     ·
      rintro ⟨out_4, b13⟩ rfl
      try dsimp only at hm1
      refine V.region (VO.cons rfl (V1.mv ?_))
      refine VO.cons rfl (V1.it ?_)
      refine VO.cons rfl (V1.as ?_)
      refine VO.nil ?_
      exact ⟨(m1, (out_4, (IntKind.i64.wrap (i0 + (1 : Int)))), b13), hl1 _ (oi hm1).symm, Nat.lt_succ_self _, Keeps.mk (ks := [0, 1]) rfl ⟨rfl, rfl, rfl, rfl, trivial⟩ (⟨_, _, rfl, rfl, ⟨_, _, rfl, rfl, rfl⟩⟩) rfl⟩
    ·
     replace hm1 := cond_f hc3 hm1
     refine V.exit ?_
     obtain rfl := hr1 _ (oi hm1).symm
     exact ⟨(out_3, b12), rfl, Keeps.mk (ks := [0]) rfl ⟨rfl, trivial⟩ (⟨_, _, rfl, rfl, rfl⟩) rfl⟩
   ·
    rintro ⟨out_2, b11⟩ rfl
    try dsimp only at hm0
    refine V.seq (V.seq ?_)
    replace hm0 := bindO hm0; rcases hm0 with ⟨y7, hh12, hm0⟩
    refine V.region (VO.cons rfl (V1.mv ?_))
    refine VO.cons rfl (V1.callL (rn + 1) [b11] [.vl (rn + 1) 2 (List.map (encVersion rn) out_2)] rfl rfl rfl cok_91 rfl ⟨_, _, rfl, Lend.srMap 0 rfl (fun _ => rfl) (.head _), rfl⟩ (bwCons (k := 0) rfl bwNil) (ok_spec_l8Good hh12) rfl (⟨(by first | omega | (dsimp only; omega)), by rintro _ _ ⟨rfl, rfl⟩; exact ⟨rfl, by simp⟩⟩) lt0 ?_)
    rintro _ _ ⟨rfl, rfl⟩
    refine VO.cons rfl (V1.not rfl rfl rfl lt0 ?_)
    refine VO.nil (V.cond rfl (fun hc5 => ?_) (fun hc5 => ?_))
    ·
     replace hm0 := cond_t hc5 hm0
     refine V.seq (V.region (VO.cons rfl (V1.buildSliceT (f := (encVersion rn)) ([] : List Version) rfl rfl esz_57 zk_60 rfl rfl rfl rfl rfl rfl rfl lt0 ?_)))
     intro b16
     refine VO.cons rfl (V1.as ?_)
     refine VO.cons rfl (V1.as ?_)
     refine VO.nil (V.keep 74 [4, 5] [0] (E0 := [(4, .sref b16 2 0 (List.length ([] : List Version))), (5, .bool false)]) (H0 := [(b16, ⟨2, List.map (encVersion rn) ([] : List Version)⟩)]) rfl (⟨_, _, rfl, rfl, ⟨_, _, rfl, rfl, rfl⟩⟩) (⟨_, _, rfl, rfl, rfl⟩) rfl ?_)
     refine V.ret ?_
     obtain rfl := oi hm0
     exact ⟨_, _, ⟨_, _, rfl, rfl, ⟨_, _, rfl, rfl, rfl⟩⟩, List.Sublist.refl _, b16, rfl, rfl⟩
    ·
     replace hm0 := cond_f hc5 hm0
     refine V.skip ?_
     refine V.seq (V.region (VO.cons rfl (V1.mv ?_)))
     refine VO.cons rfl (V1.as ?_)
     refine VO.cons rfl (V1.as ?_)
     refine VO.nil (V.keep 74 [4, 5] [0] (E0 := [(4, .sref b11 2 0 (List.length out_2)), (5, .bool true)]) (H0 := [(b11, ⟨2, List.map (encVersion rn) out_2⟩)]) rfl (⟨_, _, rfl, rfl, ⟨_, _, rfl, rfl, rfl⟩⟩) (⟨_, _, rfl, rfl, rfl⟩) rfl ?_)
     refine V.ret ?_
     obtain rfl := oi hm0
     exact ⟨_, _, ⟨_, _, rfl, rfl, ⟨_, _, rfl, rfl, rfl⟩⟩, List.Sublist.refl _, b11, rfl, rfl⟩

theorem ok_laws_vRules {ρ0 ρ1 rn : Nat} {a : List Rule} {b_ : List Rule} {r : Bool} (h : M.laws_vRules a b_ = some r) : Does Try.prog 40 [.vl ρ0 4 (List.map encRule a), .vl ρ1 4 (List.map encRule b_)] [] rn (fun x H => x = .bool r ∧ H = []) := by
 have hm0 := h; clear h; unfold M.laws_vRules at hm0
 try dsimp only at hm0
 refine Does.intro (N := 26) Try.func40 rfl rfl rfl rfl ?_
 intro w0 S0
 refine V.seq (V.region (VO.cons rfl (V1.as ?_)))
 refine VO.nil (V.seq (V.seq (V.region (VO.cons rfl (V1.mv ?_)))))
 refine VO.cons rfl (V1.lenMap rfl rfl rfl rfl rfl rfl isl_58 lt0 ?_)
 refine VO.cons rfl (V1.mv ?_)
 refine VO.cons rfl (V1.lenMap rfl rfl rfl rfl rfl rfl isl_58 lt0 ?_)
 refine VO.cons rfl (V1.it ?_)
 refine VO.nil (V.keep 26 [0, 1, 10] [] (E0 := [(0, .vl ρ0 4 (List.map encRule a)), (1, .vl ρ1 4 (List.map encRule b_)), (10, .bool ((a.length : Int) != (b_.length : Int)))]) (H0 := []) rfl (⟨_, _, rfl, rfl, ⟨_, _, rfl, rfl, ⟨_, _, rfl, rfl, rfl⟩⟩⟩) (rfl) rfl ?_)
 refine V.cond rfl (fun hc0 => ?_) (fun hc0 => ?_)
 ·
  replace hm0 := cond_t hc0 hm0
  refine V.seq (V.region (VO.cons rfl (V1.as ?_)))
  refine VO.nil (V.ret ?_)
  obtain rfl := oi hm0
  exact ⟨_, [], ⟨_, _, rfl, rfl, rfl⟩, List.nil_sublist _, rfl, rfl⟩
 ·
  replace hm0 := cond_f hc0 hm0
  refine V.skip ?_
  refine V.seq (V.seq (V.region (VO.cons rfl (V1.as ?_))))
  refine VO.nil ?_
  replace hm0 := bindO hm0; rcases hm0 with ⟨e0, he1, hm0⟩
  refine V.cutT (D := (Unit) × (Unit)) (fun ⟨_, _⟩ => ⟨26, [], []⟩) (fun ⟨_, _⟩ => (.inl () = e0)) ?_ ?_
  ·
   refine V.block ?_
   refine V.keep 26 [5, 0, 1] [] (E0 := [(5, .int .i64 (0 : Int)), (0, .vl ρ0 4 (List.map encRule a)), (1, .vl ρ1 4 (List.map encRule b_))]) (H0 := []) rfl (⟨_, _, rfl, rfl, ⟨_, _, rfl, rfl, ⟨_, _, rfl, rfl, rfl⟩⟩⟩) (rfl) rfl ?_
   refine V.loopE (D := Nat × (Int) × (Unit)) (fun ⟨n0, i, _⟩ => [(5, .int .i64 i)]) (fun ⟨n0, i, _⟩ => []) (fun ⟨n0, i, _⟩ => loopO (M.laws_vRules_l0 a b_) n0 i = some e0) (fun ⟨n0, _, _⟩ => n0) (rounds, (0 : Int), ()) rfl he1 ?_
   rintro ⟨n0, i, _⟩ hP0
   obtain ⟨m0, y0, rfl, hm1, hl1, hr1⟩ := loop_head hP0
   unfold M.laws_vRules_l0 at hm1; dsimp only at hm1
   show V _ _ _ ⟨26, [(5, .int .i64 i), (0, .vl ρ0 4 (List.map encRule a)), (1, .vl ρ1 4 (List.map encRule b_))], []⟩
   refine V.seq (V.seq (V.region (VO.cons rfl (V1.mv ?_))))
   refine VO.cons rfl (V1.mv ?_)
   refine VO.cons rfl (V1.lenMap rfl rfl rfl rfl rfl rfl isl_58 lt0 ?_)
   refine VO.cons rfl (V1.it ?_)
   refine VO.nil (V.cond rfl (fun hc1 => ?_) (fun hc1 => ?_))
   ·
    replace hm1 := cond_t hc1 hm1
    refine V.skip ?_
    refine V.keep 26 [0, 1, 5] [] (E0 := [(0, .vl ρ0 4 (List.map encRule a)), (1, .vl ρ1 4 (List.map encRule b_)), (5, .int .i64 i)]) (H0 := []) rfl (⟨_, _, rfl, rfl, ⟨_, _, rfl, rfl, ⟨_, _, rfl, rfl, rfl⟩⟩⟩) (rfl) rfl ?_
    refine V.seq (V.block ?_)
    refine V.seq ?_
    replace hm1 := asrt_some hm1; rcases hm1 with ⟨hh0, hm1⟩
    replace hm1 := asrt_some hm1; rcases hm1 with ⟨hh1, hm1⟩
    refine V.regionM 26 8 [⟨[(0, none)], [], none⟩, ⟨[(5, none)], [], none⟩, ⟨[(17, some 1), (18, some 0)], [], none⟩, ⟨[(19, some 0)], [], none⟩, ⟨[(1, none)], [], none⟩, ⟨[(5, none)], [], none⟩, ⟨[(21, some 1), (22, some 0)], [], none⟩, ⟨[(23, some 0)], [], none⟩] [(0, none), (1, none), (5, none), (20, some 4), (24, some 0)] (⟨_, rfl, ⟨_, rfl, ⟨_, rfl, ⟨_, rfl, ⟨_, rfl, ⟨_, rfl, ⟨_, rfl, ⟨_, rfl, ⟨rfl, rfl⟩⟩⟩⟩⟩⟩⟩⟩⟩) mixed_orders rfl (by decide +kernel) (fun hck6 => ?_)
    refine VP.step (p := ?pv65) rfl rfl rfl (⟨_, _, rfl, rfl, rfl⟩) ?hv65 ?rest65 hck6
    case hv65 =>
     intro E1
     refine (V1.mv ?_)
     exact rfl
    refine VP.step (p := ?pv66) rfl rfl rfl (⟨_, _, rfl, rfl, rfl⟩) ?hv66 ?rest66 hck6
    case hv66 =>
     intro E1
     refine (V1.mv ?_)
     exact rfl
    refine VP.step (p := ?pv67) rfl rfl rfl (⟨_, _, rfl, rfl, ⟨_, _, rfl, rfl, rfl⟩⟩) ?hv67 ?rest67 hck6
    case hv67 =>
     intro E1
     refine (V1.indexI rfl rfl esz_58 rfl rfl hh0 lt0 ?_)
     exact rfl
    refine VP.step (p := ?pv68) rfl rfl rfl (⟨_, _, rfl, rfl, rfl⟩) ?hv68 ?rest68 hck6
    case hv68 =>
     intro E1
     refine (V1.loadPinAll rfl rfl tyk_109 rfl rfl lt0 ?_)
     exact rfl
    refine VP.step (p := ?pv69) rfl rfl rfl (⟨_, _, rfl, rfl, rfl⟩) ?hv69 ?rest69 hck6
    case hv69 =>
     intro E1
     refine (V1.mv ?_)
     exact rfl
    refine VP.step (p := ?pv70) rfl rfl rfl (⟨_, _, rfl, rfl, rfl⟩) ?hv70 ?rest70 hck6
    case hv70 =>
     intro E1
     refine (V1.mv ?_)
     exact rfl
    refine VP.step (p := ?pv71) rfl rfl rfl (⟨_, _, rfl, rfl, ⟨_, _, rfl, rfl, rfl⟩⟩) ?hv71 ?rest71 hck6
    case hv71 =>
     intro E1
     refine (V1.indexI rfl rfl esz_58 rfl rfl hh1 lt0 ?_)
     exact rfl
    refine VP.step (p := ?pv72) rfl rfl rfl (⟨_, _, rfl, rfl, rfl⟩) ?hv72 ?rest72 hck6
    case hv72 =>
     intro E1
     refine (V1.loadPinAll rfl rfl tyk_109 rfl rfl lt0 ?_)
     exact rfl
    refine VP.fin rfl (⟨_, _, rfl, rfl, ⟨_, _, rfl, rfl, ⟨_, _, rfl, rfl, ⟨_, _, rfl, rfl, ⟨_, _, rfl, rfl, rfl⟩⟩⟩⟩⟩) ?_
    refine VO.cons rfl (V1.aggEqG true rfl rfl fe_109 rfl rfl rfl rfl rfl lt0 ?_)
    refine VO.nil (V.cond rfl (fun hc2 => ?_) (fun hc2 => ?_))
    ·
     replace hm1 := cond_t hc2 hm1
     refine V.seq (V.region (VO.cons rfl (V1.as ?_)))
     refine VO.nil (V.ret ?_)
     obtain rfl := hr1 _ (oi hm1).symm
     change some _ = some _ at hm0
     obtain rfl := oi hm0
     exact ⟨_, [], ⟨_, _, rfl, rfl, rfl⟩, List.nil_sublist _, rfl, rfl⟩
    ·
     replace hm1 := cond_f hc2 hm1
     refine V.skip ?_
     refine V.region (VO.cons rfl (V1.mv ?_))
     refine VO.cons rfl (V1.it ?_)
     refine VO.cons rfl (V1.as ?_)
     refine VO.nil ?_
     exact ⟨(m0, (IntKind.i64.wrap (i + (1 : Int))), ()), hl1 _ (oi hm1).symm, Nat.lt_succ_self _, Keeps.mk (ks := []) rfl ⟨rfl, rfl, rfl, trivial⟩ (rfl) rfl⟩
   ·
    replace hm1 := cond_f hc1 hm1
    refine V.exit ?_
    obtain rfl := hr1 _ (oi hm1).symm
    exact ⟨((), ()), rfl, Keeps.mk (ks := []) rfl trivial (rfl) rfl⟩
  ·
   rintro ⟨_, _⟩ rfl
   try dsimp only at hm0
   refine V.seq (V.region (VO.cons rfl (V1.as ?_)))
   refine VO.nil (V.ret ?_)
   obtain rfl := oi hm0
   exact ⟨_, [], ⟨_, _, rfl, rfl, rfl⟩, List.nil_sublist _, rfl, rfl⟩

theorem ok_laws_vVersions {ρ0 σ0 ρ1 σ1 rn : Nat} {a : List Version} {b_ : List Version} {r : Bool} (h : M.laws_vVersions a b_ = some r) : Does Try.prog 38 [.vl ρ0 2 (List.map (encVersion σ0) a), .vl ρ1 2 (List.map (encVersion σ1) b_)] [] rn (fun x H => x = .bool r ∧ H = []) := by
 have hm0 := h; clear h; unfold M.laws_vVersions at hm0
 try dsimp only at hm0
 refine Does.intro (N := 42) Try.func38 rfl rfl rfl rfl ?_
 intro w0 S0
 refine V.seq (V.region (VO.cons rfl (V1.as ?_)))
 refine VO.nil (V.seq (V.seq (V.region (VO.cons rfl (V1.mv ?_)))))
 refine VO.cons rfl (V1.lenMap rfl rfl rfl rfl rfl rfl isl_57 lt0 ?_)
 refine VO.cons rfl (V1.mv ?_)
 refine VO.cons rfl (V1.lenMap rfl rfl rfl rfl rfl rfl isl_57 lt0 ?_)
 refine VO.cons rfl (V1.it ?_)
 refine VO.nil (V.keep 42 [0, 1, 10] [] (E0 := [(0, .vl ρ0 2 (List.map (encVersion σ0) a)), (1, .vl ρ1 2 (List.map (encVersion σ1) b_)), (10, .bool ((a.length : Int) != (b_.length : Int)))]) (H0 := []) rfl (⟨_, _, rfl, rfl, ⟨_, _, rfl, rfl, ⟨_, _, rfl, rfl, rfl⟩⟩⟩) (rfl) rfl ?_)
 refine V.cond rfl (fun hc0 => ?_) (fun hc0 => ?_)
 ·
  replace hm0 := cond_t hc0 hm0
  refine V.seq (V.region (VO.cons rfl (V1.as ?_)))
  refine VO.nil (V.ret ?_)
  obtain rfl := oi hm0
  exact ⟨_, [], ⟨_, _, rfl, rfl, rfl⟩, List.nil_sublist _, rfl, rfl⟩
 ·
  replace hm0 := cond_f hc0 hm0
  refine V.skip ?_
  refine V.seq (V.seq (V.region (VO.cons rfl (V1.as ?_))))
  refine VO.nil ?_
  replace hm0 := bindO hm0; rcases hm0 with ⟨e0, he1, hm0⟩
  refine V.cutT (D := (Unit) × (Unit)) (fun ⟨_, _⟩ => ⟨42, [], []⟩) (fun ⟨_, _⟩ => (.inl () = e0)) ?_ ?_
  ·
   refine V.block ?_
   refine V.keep 42 [5, 0, 1] [] (E0 := [(5, .int .i64 (0 : Int)), (0, .vl ρ0 2 (List.map (encVersion σ0) a)), (1, .vl ρ1 2 (List.map (encVersion σ1) b_))]) (H0 := []) rfl (⟨_, _, rfl, rfl, ⟨_, _, rfl, rfl, ⟨_, _, rfl, rfl, rfl⟩⟩⟩) (rfl) rfl ?_
   refine V.loopE (D := Nat × (Int) × (Unit)) (fun ⟨n0, i, _⟩ => [(5, .int .i64 i)]) (fun ⟨n0, i, _⟩ => []) (fun ⟨n0, i, _⟩ => loopO (M.laws_vVersions_l0 a b_) n0 i = some e0) (fun ⟨n0, _, _⟩ => n0) (rounds, (0 : Int), ()) rfl he1 ?_
   rintro ⟨n0, i, _⟩ hP0
   obtain ⟨m0, y0, rfl, hm1, hl1, hr1⟩ := loop_head hP0
   unfold M.laws_vVersions_l0 at hm1; dsimp only at hm1
   show V _ _ _ ⟨42, [(5, .int .i64 i), (0, .vl ρ0 2 (List.map (encVersion σ0) a)), (1, .vl ρ1 2 (List.map (encVersion σ1) b_))], []⟩
   refine V.seq (V.seq (V.region (VO.cons rfl (V1.mv ?_))))
   refine VO.cons rfl (V1.mv ?_)
   refine VO.cons rfl (V1.lenMap rfl rfl rfl rfl rfl rfl isl_57 lt0 ?_)
   refine VO.cons rfl (V1.it ?_)
   refine VO.nil (V.cond rfl (fun hc1 => ?_) (fun hc1 => ?_))
   ·
    replace hm1 := cond_t hc1 hm1
    refine V.skip ?_
    refine V.keep 42 [0, 1, 5] [] (E0 := [(0, .vl ρ0 2 (List.map (encVersion σ0) a)), (1, .vl ρ1 2 (List.map (encVersion σ1) b_)), (5, .int .i64 i)]) (H0 := []) rfl (⟨_, _, rfl, rfl, ⟨_, _, rfl, rfl, ⟨_, _, rfl, rfl, rfl⟩⟩⟩) (rfl) rfl ?_
    refine V.seq (V.block ?_)
    refine V.seq ?_
    replace hm1 := asrt_some hm1; rcases hm1 with ⟨hh0, hm1⟩
    replace hm1 := asrt_some hm1; rcases hm1 with ⟨hh1, hm1⟩
    replace hm1 := asrt_some hm1; rcases hm1 with ⟨hh2, hm1⟩
    replace hm1 := asrt_some hm1; rcases hm1 with ⟨hh3, hm1⟩
    replace hm1 := bindO hm1; rcases hm1 with ⟨y1, hh4, hm1⟩
    refine V.regionM 42 25 [⟨[(0, none)], [], none⟩, ⟨[(5, none)], [], none⟩, ⟨[(17, some 1), (18, some 0)], [], none⟩, ⟨[(19, some 0)], [], none⟩, ⟨[(20, some 0)], [], none⟩, ⟨[(1, none)], [], none⟩, ⟨[(5, none)], [], none⟩, ⟨[(22, some 1), (23, some 0)], [], none⟩, ⟨[(24, some 0)], [], none⟩, ⟨[(25, some 0)], [], none⟩, ⟨[(21, some 5), (26, some 0)], [], none⟩, ⟨[(27, some 0)], [], none⟩, ⟨[(0, none)], [(0, false)], none⟩, ⟨[(5, none)], [(1, false)], none⟩, ⟨[(29, some 1), (30, some 0)], [(2, false)], none⟩, ⟨[(31, some 0)], [(3, false)], none⟩, ⟨[(32, some 0)], [(4, false)], none⟩, ⟨[(1, none)], [(5, false)], none⟩, ⟨[(5, none)], [(6, false)], none⟩, ⟨[(34, some 1), (35, some 0)], [(7, false)], none⟩, ⟨[(36, some 0)], [(8, false)], none⟩, ⟨[(37, some 0)], [(9, false)], none⟩, ⟨[(33, some 5), (38, some 0)], [(10, false)], none⟩, ⟨[(39, some 0)], [(11, false)], none⟩, ⟨[], [], some (false, 28, 40, 12, 0)⟩] [(0, none), (1, none), (5, none), (41, some 0)] (⟨_, rfl, ⟨_, rfl, ⟨_, rfl, ⟨_, rfl, ⟨_, rfl, ⟨_, rfl, ⟨_, rfl, ⟨_, rfl, ⟨_, rfl, ⟨_, rfl, ⟨_, rfl, ⟨_, rfl, ⟨_, rfl, ⟨_, rfl, ⟨_, rfl, ⟨_, rfl, ⟨_, rfl, ⟨_, rfl, ⟨_, rfl, ⟨_, rfl, ⟨_, rfl, ⟨_, rfl, ⟨_, rfl, ⟨_, rfl, ⟨_, rfl, ⟨rfl, rfl⟩⟩⟩⟩⟩⟩⟩⟩⟩⟩⟩⟩⟩⟩⟩⟩⟩⟩⟩⟩⟩⟩⟩⟩⟩⟩) mixed_orders rfl (by decide +kernel) (fun hck6 => ?_)
    refine VP.step (p := ?pv193) rfl rfl rfl (⟨_, _, rfl, rfl, rfl⟩) ?hv193 ?rest193 hck6
    case hv193 =>
     intro E1
     refine (V1.mv ?_)
     exact rfl
    refine VP.step (p := ?pv194) rfl rfl rfl (⟨_, _, rfl, rfl, rfl⟩) ?hv194 ?rest194 hck6
    case hv194 =>
     intro E1
     refine (V1.mv ?_)
     exact rfl
    refine VP.step (p := ?pv195) rfl rfl rfl (⟨_, _, rfl, rfl, ⟨_, _, rfl, rfl, rfl⟩⟩) ?hv195 ?rest195 hck6
    case hv195 =>
     intro E1
     refine (V1.indexI rfl rfl esz_57 rfl rfl hh0 lt0 ?_)
     exact rfl
    refine VP.step (p := ?pv196) rfl rfl rfl (⟨_, _, rfl, rfl, rfl⟩) ?hv196 ?rest196 hck6
    case hv196 =>
     intro E1
     refine (V1.fieldPin rfl rfl fo_60_0 rfl lt0 ?_)
     exact rfl
    refine VP.step (p := ?pv197) rfl rfl rfl (⟨_, _, rfl, rfl, rfl⟩) ?hv197 ?rest197 hck6
    case hv197 =>
     intro E1
     refine (V1.loadPin rfl rfl tyk_3 rfl rfl lt0 ?_)
     exact rfl
    refine VP.step (p := ?pv198) rfl rfl rfl (⟨_, _, rfl, rfl, rfl⟩) ?hv198 ?rest198 hck6
    case hv198 =>
     intro E1
     refine (V1.mv ?_)
     exact rfl
    refine VP.step (p := ?pv199) rfl rfl rfl (⟨_, _, rfl, rfl, rfl⟩) ?hv199 ?rest199 hck6
    case hv199 =>
     intro E1
     refine (V1.mv ?_)
     exact rfl
    refine VP.step (p := ?pv200) rfl rfl rfl (⟨_, _, rfl, rfl, ⟨_, _, rfl, rfl, rfl⟩⟩) ?hv200 ?rest200 hck6
    case hv200 =>
     intro E1
     refine (V1.indexI rfl rfl esz_57 rfl rfl hh1 lt0 ?_)
     exact rfl
    refine VP.step (p := ?pv201) rfl rfl rfl (⟨_, _, rfl, rfl, rfl⟩) ?hv201 ?rest201 hck6
    case hv201 =>
     intro E1
     refine (V1.fieldPin rfl rfl fo_60_0 rfl lt0 ?_)
     exact rfl
    refine VP.step (p := ?pv202) rfl rfl rfl (⟨_, _, rfl, rfl, rfl⟩) ?hv202 ?rest202 hck6
    case hv202 =>
     intro E1
     refine (V1.loadPin rfl rfl tyk_3 rfl rfl lt0 ?_)
     exact rfl
    refine VP.step (p := ?pv203) rfl rfl rfl (⟨_, _, rfl, rfl, ⟨_, _, rfl, rfl, rfl⟩⟩) ?hv203 ?rest203 hck6
    case hv203 =>
     intro E1
     refine (V1.it ?_)
     exact rfl
    refine VP.step (p := ?pv204) rfl rfl rfl (⟨_, _, rfl, rfl, rfl⟩) ?hv204 ?rest204 hck6
    case hv204 =>
     intro E1
     refine (V1.mv ?_)
     exact rfl
    refine VP.step (p := ?pv205) rfl rfl rfl (⟨_, _, rfl, rfl, rfl⟩) ?hv205 ?rest205 hck6
    case hv205 =>
     refine ⟨_, rfl, fun hg0 => ?_⟩
     intro E1
     refine (V1.mv ?_)
     exact rfl
    refine VP.step (p := ?pv206) rfl rfl rfl (⟨_, _, rfl, rfl, rfl⟩) ?hv206 ?rest206 hck6
    case hv206 =>
     refine ⟨_, rfl, fun hg0 => ?_⟩
     intro E1
     refine (V1.mv ?_)
     exact rfl
    refine VP.step (p := ?pv207) rfl rfl rfl (⟨_, _, rfl, rfl, ⟨_, _, rfl, rfl, rfl⟩⟩) ?hv207 ?rest207 hck6
    case hv207 =>
     refine ⟨_, rfl, fun hg0 => ?_⟩
     intro E1
     refine (V1.indexI rfl rfl esz_57 rfl rfl (hh2 hg0) lt0 ?_)
     exact rfl
    refine VP.step (p := ?pv208) rfl rfl rfl (⟨_, _, rfl, rfl, rfl⟩) ?hv208 ?rest208 hck6
    case hv208 =>
     refine ⟨_, rfl, fun hg0 => ?_⟩
     intro E1
     refine (V1.fieldPin rfl rfl fo_60_1 rfl lt0 ?_)
     exact rfl
    refine VP.step (p := ?pv209) rfl rfl rfl (⟨_, _, rfl, rfl, rfl⟩) ?hv209 ?rest209 hck6
    case hv209 =>
     refine ⟨_, rfl, fun hg0 => ?_⟩
     intro E1
     refine (V1.loadPin rfl rfl tyk_58 rfl rfl lt0 ?_)
     exact rfl
    refine VP.step (p := ?pv210) rfl rfl rfl (⟨_, _, rfl, rfl, rfl⟩) ?hv210 ?rest210 hck6
    case hv210 =>
     refine ⟨_, rfl, fun hg0 => ?_⟩
     intro E1
     refine (V1.mv ?_)
     exact rfl
    refine VP.step (p := ?pv211) rfl rfl rfl (⟨_, _, rfl, rfl, rfl⟩) ?hv211 ?rest211 hck6
    case hv211 =>
     refine ⟨_, rfl, fun hg0 => ?_⟩
     intro E1
     refine (V1.mv ?_)
     exact rfl
    refine VP.step (p := ?pv212) rfl rfl rfl (⟨_, _, rfl, rfl, ⟨_, _, rfl, rfl, rfl⟩⟩) ?hv212 ?rest212 hck6
    case hv212 =>
     refine ⟨_, rfl, fun hg0 => ?_⟩
     intro E1
     refine (V1.indexI rfl rfl esz_57 rfl rfl (hh3 hg0) lt0 ?_)
     exact rfl
    refine VP.step (p := ?pv213) rfl rfl rfl (⟨_, _, rfl, rfl, rfl⟩) ?hv213 ?rest213 hck6
    case hv213 =>
     refine ⟨_, rfl, fun hg0 => ?_⟩
     intro E1
     refine (V1.fieldPin rfl rfl fo_60_1 rfl lt0 ?_)
     exact rfl
    refine VP.step (p := ?pv214) rfl rfl rfl (⟨_, _, rfl, rfl, rfl⟩) ?hv214 ?rest214 hck6
    case hv214 =>
     refine ⟨_, rfl, fun hg0 => ?_⟩
     intro E1
     refine (V1.loadPin rfl rfl tyk_58 rfl rfl lt0 ?_)
     exact rfl
    refine VP.step (p := ?pv215) rfl rfl rfl (⟨_, _, rfl, rfl, ⟨_, _, rfl, rfl, rfl⟩⟩) ?hv215 ?rest215 hck6
    case hv215 =>
     refine ⟨_, rfl, fun hg0 => ?_⟩
     intro E1
     refine (V1.call rfl rfl rfl cok_40 rfl (ok_laws_vRules (cond_f hg0 hh4)) rfl lt0 ?_)
     rintro _ _ ⟨rfl, rfl⟩
     exact rfl
    refine VP.step (p := ?pv216) rfl rfl rfl (⟨_, _, rfl, rfl, rfl⟩) ?hv216 ?rest216 hck6
    case hv216 =>
     refine ⟨_, rfl, fun hg0 => ?_⟩
     intro E1
     refine (V1.not rfl rfl rfl lt0 ?_)
     exact rfl
    refine VP.pickOr rfl rfl rfl rfl rfl rfl (trivial) ?_ hck6
    refine VP.fin rfl (⟨_, _, rfl, rfl, ⟨_, _, rfl, rfl, ⟨_, _, rfl, rfl, ⟨_, _, rfl, rfl, rfl⟩⟩⟩⟩) ?_
    refine VO.nil (V.cond rfl (fun hc2 => ?_) (fun hc2 => ?_))
    ·
     replace hm1 := cond_t hc2 hm1
     refine V.seq (V.region (VO.cons rfl (V1.as ?_)))
     refine VO.nil (V.ret ?_)
     obtain rfl := hr1 _ (oi hm1).symm
     change some _ = some _ at hm0
     obtain rfl := oi hm0
     exact ⟨_, [], ⟨_, _, rfl, rfl, rfl⟩, List.nil_sublist _, rfl, rfl⟩
    ·
     replace hm1 := cond_f hc2 hm1
     refine V.skip ?_
     refine V.region (VO.cons rfl (V1.mv ?_))
     refine VO.cons rfl (V1.it ?_)
     refine VO.cons rfl (V1.as ?_)
     refine VO.nil ?_
     exact ⟨(m0, (IntKind.i64.wrap (i + (1 : Int))), ()), hl1 _ (oi hm1).symm, Nat.lt_succ_self _, Keeps.mk (ks := []) rfl ⟨rfl, rfl, rfl, trivial⟩ (rfl) rfl⟩
   ·
    replace hm1 := cond_f hc1 hm1
    refine V.exit ?_
    obtain rfl := hr1 _ (oi hm1).symm
    exact ⟨((), ()), rfl, Keeps.mk (ks := []) rfl trivial (rfl) rfl⟩
  ·
   rintro ⟨_, _⟩ rfl
   try dsimp only at hm0
   refine V.seq (V.region (VO.cons rfl (V1.as ?_)))
   refine VO.nil (V.ret ?_)
   obtain rfl := oi hm0
   exact ⟨_, [], ⟨_, _, rfl, rfl, rfl⟩, List.nil_sublist _, rfl, rfl⟩

theorem ok_impl_versionOn {ρ0 σ0 rn : Nat} {list : List Version} {day : Int} {r : Int} (h : M.impl_versionOn list day = some r) : Does Try.prog 93 [.vl ρ0 2 (List.map (encVersion σ0) list), .int .i64 day] [] rn (fun x H => x = .int .i64 r ∧ H = []) := by
 have hm0 := h; clear h; unfold M.impl_versionOn at hm0
 try dsimp only at hm0
 refine Does.intro (N := 22) Try.func93 rfl rfl rfl rfl ?_
 intro w0 S0
 refine V.seq (V.region (VO.cons rfl (V1.as ?_)))
 refine VO.nil (V.seq (V.region (VO.cons rfl (V1.as ?_))))
 refine VO.nil (V.seq (V.seq (V.region (VO.cons rfl (V1.mv ?_)))))
 refine VO.cons rfl (V1.lenMap rfl rfl rfl rfl rfl rfl isl_57 lt0 ?_)
 refine VO.cons rfl (V1.mv ?_)
 refine VO.nil ?_
 replace hm0 := bindO hm0; rcases hm0 with ⟨e0, he1, hm0⟩
 refine V.cutT (D := (Int) × (Unit)) (fun ⟨at_, _⟩ => ⟨22, [(5, .int .i64 at_)], []⟩) (fun ⟨at_, _⟩ => (at_ = e0)) ?_ ?_
 ·
  refine V.block ?_
  refine V.keep 22 [5, 10, 1, 8, 9] [] (E0 := [(5, .int .i64 (-1 : Int)), (10, .int .i64 (0 : Int)), (1, .int .i64 day), (8, .vl ρ0 2 (List.map (encVersion σ0) list)), (9, .int .i64 (list.length : Int))]) (H0 := []) rfl (⟨_, _, rfl, rfl, ⟨_, _, rfl, rfl, ⟨_, _, rfl, rfl, ⟨_, _, rfl, rfl, ⟨_, _, rfl, rfl, rfl⟩⟩⟩⟩⟩) (rfl) rfl ?_
  refine V.loopE (D := Nat × (Int × Int) × (Unit)) (fun ⟨n0, ⟨at_0, v⟩, _⟩ => [(5, .int .i64 at_0), (10, .int .i64 v)]) (fun ⟨n0, ⟨at_0, v⟩, _⟩ => []) (fun ⟨n0, ⟨at_0, v⟩, _⟩ => loopO (M.impl_versionOn_l0 list day) n0 (at_0, v) = some e0) (fun ⟨n0, _, _⟩ => n0) (rounds, ((-1 : Int), (0 : Int)), ()) rfl he1 ?_
  rintro ⟨n0, ⟨at_0, v⟩, _⟩ hP0
  obtain ⟨m0, y0, rfl, hm1, hl1, hr1⟩ := loop_head hP0
  unfold M.impl_versionOn_l0 at hm1; dsimp only at hm1
  show V _ _ _ ⟨22, [(5, .int .i64 at_0), (10, .int .i64 v), (1, .int .i64 day), (8, .vl ρ0 2 (List.map (encVersion σ0) list)), (9, .int .i64 (list.length : Int))], []⟩
  refine V.seq (V.region (VO.cons rfl (V1.it ?_)))
  refine VO.nil (V.seq (V.cond rfl (fun hc0 => ?_) (fun hc0 => ?_)))
  ·
   replace hm1 := cond_t hc0 hm1
   refine V.skip ?_
   refine V.seq ?_
   replace hm1 := bindO hm1; rcases hm1 with ⟨j0, hm2, hm1⟩
   refine V.cutT (D := (Int) × (Unit)) (fun ⟨at_1, _⟩ => ⟨22, [(5, .int .i64 at_1), (1, .int .i64 day), (8, .vl ρ0 2 (List.map (encVersion σ0) list)), (9, .int .i64 (list.length : Int)), (10, .int .i64 v)], []⟩) (fun ⟨at_1, _⟩ => (at_1 = j0)) ?_ ?_
   ·
    refine V.block ?_
    refine V.seq ?_
    replace hm2 := asrt_some hm2; rcases hm2 with ⟨hh0, hm2⟩
    refine V.region (VO.cons rfl (V1.mv ?_))
    refine VO.cons rfl (V1.indexI rfl rfl esz_57 rfl rfl hh0 lt0 ?_)
    refine VO.cons rfl (V1.loadPinAll rfl rfl tyk_60 rfl rfl lt0 ?_)
    refine VO.cons rfl (V1.alloc rfl rfl zk_60 lt0 ?_)
    intro b0
    refine VO.cons rfl (V1.as ?_)
    refine VO.cons rfl (V1.storeRefAll (k := 0) rfl rfl tyk_60 rfl rfl rfl rfl rfl rfl ?_)
    refine VO.nil (V.keep 22 [1, 5, 6, 7, 8, 9, 10] [0] (E0 := [(1, .int .i64 day), (5, .int .i64 at_0), (6, .int .i64 v), (7, .ref b0 2 0 0), (8, .vl ρ0 2 (List.map (encVersion σ0) list)), (9, .int .i64 (list.length : Int)), (10, .int .i64 v)]) (H0 := [(b0, ⟨2, [encVersion σ0 (list.getD (Int.toNat v) default)]⟩)]) rfl (⟨_, _, rfl, rfl, ⟨_, _, rfl, rfl, ⟨_, _, rfl, rfl, ⟨_, _, rfl, rfl, ⟨_, _, rfl, rfl, ⟨_, _, rfl, rfl, ⟨_, _, rfl, rfl, rfl⟩⟩⟩⟩⟩⟩⟩) (⟨_, _, rfl, rfl, rfl⟩) rfl ?_)
    refine V.seq (V.region (VO.cons rfl (V1.fieldRef rfl rfl fo_60_0 rfl lt0 ?_)))
    refine VO.cons rfl (V1.loadRef (k := 0) rfl rfl tyk_3 rfl rfl rfl rfl rfl lt0 ?_)
    refine VO.cons rfl (V1.mv ?_)
    refine VO.cons rfl (V1.it ?_)
    refine VO.nil (V.keep 22 [1, 5, 6, 8, 9, 10, 18] [] (E0 := [(1, .int .i64 day), (5, .int .i64 at_0), (6, .int .i64 v), (8, .vl ρ0 2 (List.map (encVersion σ0) list)), (9, .int .i64 (list.length : Int)), (10, .int .i64 v), (18, .bool (decide (((list.getD (Int.toNat v) default).From) ≤ day)))]) (H0 := []) rfl (⟨_, _, rfl, rfl, ⟨_, _, rfl, rfl, ⟨_, _, rfl, rfl, ⟨_, _, rfl, rfl, ⟨_, _, rfl, rfl, ⟨_, _, rfl, rfl, ⟨_, _, rfl, rfl, rfl⟩⟩⟩⟩⟩⟩⟩) (rfl) rfl ?_)
    refine V.cond rfl (fun hc1 => ?_) (fun hc1 => ?_)
    ·
     replace hm2 := cond_t hc1 hm2
     refine V.region (VO.cons rfl (V1.mv ?_))
     refine VO.cons rfl (V1.as ?_)
     refine VO.nil ?_
     exact ⟨(v, ()), oi hm2, Keeps.mk (ks := []) rfl ⟨rfl, rfl, rfl, rfl, rfl, trivial⟩ (rfl) rfl⟩
    ·
     replace hm2 := cond_f hc1 hm2
     refine V.skip ?_
     exact ⟨(at_0, ()), oi hm2, Keeps.mk (ks := []) rfl ⟨rfl, rfl, rfl, rfl, rfl, trivial⟩ (rfl) rfl⟩
   ·
    rintro ⟨at_1, _⟩ rfl
    try dsimp only at hm1
    refine V.region (VO.cons rfl (V1.it ?_))
    refine VO.cons rfl (V1.mv ?_)
    refine VO.nil ?_
    exact ⟨(m0, (at_1, (IntKind.i64.wrap (v + (1 : Int)))), ()), hl1 _ (oi hm1).symm, Nat.lt_succ_self _, Keeps.mk (ks := []) rfl ⟨rfl, rfl, rfl, rfl, rfl, trivial⟩ (rfl) rfl⟩
  ·
   replace hm1 := cond_f hc0 hm1
   refine V.exit ?_
   obtain rfl := hr1 _ (oi hm1).symm
   exact ⟨(at_0, ()), rfl, Keeps.mk (ks := []) rfl ⟨rfl, trivial⟩ (rfl) rfl⟩
 ·
  rintro ⟨at_, _⟩ rfl
  try dsimp only at hm0
  refine V.seq (V.region (VO.cons rfl (V1.mv ?_)))
  refine VO.cons rfl (V1.as ?_)
  refine VO.nil (V.ret ?_)
  obtain rfl := oi hm0
  exact ⟨_, [], ⟨_, _, rfl, rfl, rfl⟩, List.nil_sublist _, rfl, rfl⟩

theorem ok_impl_VersionOn {ρ0 σ0 rn : Nat} {list : List Version} {day : Int} {r : Int × Bool} (h : M.impl_VersionOn list day = some r) : Does Try.prog 39 [.vl ρ0 2 (List.map (encVersion σ0) list), .int .i64 day] [] rn (fun x H => x = .tup [.int .i64 r.1, .bool r.2] ∧ H = []) := by
 have hm0 := h; clear h; unfold M.impl_VersionOn at hm0
 try dsimp only at hm0
 refine Does.intro (N := 23) Try.func39 rfl rfl rfl rfl ?_
 intro w0 S0
 refine V.seq (V.region (VO.cons rfl (V1.as ?_)))
 refine VO.cons rfl (V1.as ?_)
 refine VO.nil (V.seq (V.seq ?_))
 replace hm0 := bindO hm0; rcases hm0 with ⟨y0, hh0, hm0⟩
 replace hm0 := bindO hm0; rcases hm0 with ⟨y1, hh1, hm0⟩
 replace hm0 := bindO hm0; rcases hm0 with ⟨y2, hh2, hm0⟩
 refine V.region (VO.cons rfl (V1.mv ?_))
 refine VO.cons rfl (V1.call rfl rfl rfl cok_41 rfl (ok_impl_AreVersions hh0) rfl lt0 ?_)
 rintro _ _ ⟨rfl, rfl⟩
 refine VO.cons rfl (V1.not rfl rfl rfl lt0 ?_)
 refine VO.cons rfl (V1.mv ?_)
 apply VO.or (n := 3) rfl rfl rfl rfl rfl rfl lt0 (.none rfl)
 ·
  intro hg0
  refine VO.step (.some rfl rfl rfl) (V1.mv ?_)
  refine VO.step (.some rfl rfl rfl) (V1.call rfl rfl rfl cok_56 rfl (ok_impl_isDay (cond_f hg0 hh1)) rfl lt0 ?_)
  rintro _ _ ⟨rfl, rfl⟩
  refine VO.step (.some rfl rfl rfl) (V1.not rfl rfl rfl lt0 ?_)
  exact VO.nil ⟨rfl, rfl, rfl, rfl, .inr ⟨rfl, .inr ⟨rfl, .inr ⟨rfl, .inr ⟨rfl, .inl rfl⟩⟩⟩⟩⟩
 refine VO.cons rfl (V1.mv ?_)
 apply VO.or (n := 4) rfl rfl rfl rfl rfl rfl lt0 (.none rfl)
 ·
  intro hg1
  refine VO.step (.some rfl rfl rfl) (V1.mv ?_)
  refine VO.step (.some rfl rfl rfl) (V1.mv ?_)
  refine VO.step (.some rfl rfl rfl) (V1.call rfl rfl rfl cok_93 rfl (ok_impl_versionOn (cond_f hg1 hh2)) rfl lt0 ?_)
  rintro _ _ ⟨rfl, rfl⟩
  refine VO.step (.some rfl rfl rfl) (V1.it ?_)
  exact VO.nil ⟨rfl, rfl, rfl, rfl, .inr ⟨rfl, .inr ⟨rfl, .inr ⟨rfl, .inr ⟨rfl, .inr ⟨rfl, .inl rfl⟩⟩⟩⟩⟩⟩
 refine VO.nil (V.keep 23 [0, 1, 19] [] (E0 := [(0, .vl ρ0 2 (List.map (encVersion σ0) list)), (1, .int .i64 day), (19, .bool (((!y0) || (!y1)) || (decide (y2 < (0 : Int)))))]) (H0 := []) rfl (⟨_, _, rfl, rfl, ⟨_, _, rfl, rfl, ⟨_, _, rfl, rfl, rfl⟩⟩⟩) (rfl) rfl ?_)
 refine V.cond rfl (fun hc0 => ?_) (fun hc0 => ?_)
 ·
  replace hm0 := cond_t hc0 hm0
  refine V.seq (V.region (VO.cons rfl (V1.as ?_)))
  refine VO.cons rfl (V1.as ?_)
  refine VO.nil (V.ret ?_)
  obtain rfl := oi hm0
  exact ⟨_, [], ⟨_, _, rfl, rfl, ⟨_, _, rfl, rfl, rfl⟩⟩, List.nil_sublist _, rfl, rfl⟩
 ·
  replace hm0 := cond_f hc0 hm0
  refine V.skip ?_
  refine V.seq ?_
  replace hm0 := bindO hm0; rcases hm0 with ⟨y3, hh3, hm0⟩
  refine V.region (VO.cons rfl (V1.mv ?_))
  refine VO.cons rfl (V1.mv ?_)
  refine VO.cons rfl (V1.call rfl rfl rfl cok_93 rfl (ok_impl_versionOn hh3) rfl lt0 ?_)
  rintro _ _ ⟨rfl, rfl⟩
  refine VO.cons rfl (V1.as ?_)
  refine VO.cons rfl (V1.as ?_)
  refine VO.nil (V.ret ?_)
  obtain rfl := oi hm0
  exact ⟨_, [], ⟨_, _, rfl, rfl, ⟨_, _, rfl, rfl, rfl⟩⟩, List.nil_sublist _, rfl, rfl⟩

theorem ok_slices_Index_int_int {ρ0 rn : Nat} {s : List Int} {v : Int} {r : Int} (h : M.slices_Index_int_int s v = some r) : Does Try.prog 137 [.vl ρ0 1 (List.map encInt s), .int .i64 v] [] rn (fun x H => x = .int .i64 r ∧ H = []) := by
 have hm0 := h; clear h; unfold M.slices_Index_int_int at hm0
 try dsimp only at hm0
 refine Does.intro (N := 19) Try.func137 rfl rfl rfl rfl ?_
 intro w0 S0
 refine V.seq (V.region (VO.cons rfl (V1.as ?_)))
 refine VO.nil (V.seq (V.seq (V.region (VO.cons rfl (V1.mv ?_)))))
 refine VO.cons rfl (V1.lenMap rfl rfl rfl rfl rfl rfl isl_69 lt0 ?_)
 refine VO.cons rfl (V1.mv ?_)
 refine VO.nil ?_
 replace hm0 := bindO hm0; rcases hm0 with ⟨e0, he1, hm0⟩
 refine V.cutT (D := (Unit) × (Unit)) (fun ⟨_, _⟩ => ⟨19, [], []⟩) (fun ⟨_, _⟩ => (.inl () = e0)) ?_ ?_
 ·
  refine V.block ?_
  refine V.keep 19 [8, 0, 1, 7] [] (E0 := [(8, .int .i64 (0 : Int)), (0, .vl ρ0 1 (List.map encInt s)), (1, .int .i64 v), (7, .int .i64 (s.length : Int))]) (H0 := []) rfl (⟨_, _, rfl, rfl, ⟨_, _, rfl, rfl, ⟨_, _, rfl, rfl, ⟨_, _, rfl, rfl, rfl⟩⟩⟩⟩) (rfl) rfl ?_
  refine V.loopE (D := Nat × (Int) × (Unit)) (fun ⟨n0, v0, _⟩ => [(8, .int .i64 v0)]) (fun ⟨n0, v0, _⟩ => []) (fun ⟨n0, v0, _⟩ => loopO (M.slices_Index_int_int_l0 s v) n0 v0 = some e0) (fun ⟨n0, _, _⟩ => n0) (rounds, (0 : Int), ()) rfl he1 ?_
  rintro ⟨n0, v0, _⟩ hP0
  obtain ⟨m0, y0, rfl, hm1, hl1, hr1⟩ := loop_head hP0
  unfold M.slices_Index_int_int_l0 at hm1; dsimp only at hm1
  show V _ _ _ ⟨19, [(8, .int .i64 v0), (0, .vl ρ0 1 (List.map encInt s)), (1, .int .i64 v), (7, .int .i64 (s.length : Int))], []⟩
  refine V.seq (V.region (VO.cons rfl (V1.it ?_)))
  refine VO.nil (V.seq (V.cond rfl (fun hc0 => ?_) (fun hc0 => ?_)))
  ·
   replace hm1 := cond_t hc0 hm1
   refine V.skip ?_
   refine V.seq (V.block ?_)
   refine V.seq (V.region (VO.cons rfl (V1.mv ?_)))
   refine VO.cons rfl (V1.as ?_)
   refine VO.nil (V.seq ?_)
   replace hm1 := asrt_some hm1; rcases hm1 with ⟨hh0, hm1⟩
   refine V.region (VO.cons rfl (V1.mv ?_))
   refine VO.cons rfl (V1.mv ?_)
   refine VO.cons rfl (V1.mv ?_)
   refine VO.cons rfl (V1.indexI rfl rfl esz_69 rfl rfl hh0 lt0 ?_)
   refine VO.cons rfl (V1.loadPin rfl rfl tyk_3 rfl rfl lt0 ?_)
   refine VO.cons rfl (V1.it ?_)
   refine VO.nil (V.keep 19 [0, 1, 5, 7, 8, 16] [] (E0 := [(0, .vl ρ0 1 (List.map encInt s)), (1, .int .i64 v), (5, .int .i64 v0), (7, .int .i64 (s.length : Int)), (8, .int .i64 v0), (16, .bool (v == (s.getD (Int.toNat v0) default)))]) (H0 := []) rfl (⟨_, _, rfl, rfl, ⟨_, _, rfl, rfl, ⟨_, _, rfl, rfl, ⟨_, _, rfl, rfl, ⟨_, _, rfl, rfl, ⟨_, _, rfl, rfl, rfl⟩⟩⟩⟩⟩⟩) (rfl) rfl ?_)
   refine V.cond rfl (fun hc1 => ?_) (fun hc1 => ?_)
   ·
    replace hm1 := cond_t hc1 hm1
    refine V.seq (V.region (VO.cons rfl (V1.mv ?_)))
    refine VO.cons rfl (V1.as ?_)
    refine VO.nil (V.ret ?_)
    obtain rfl := hr1 _ (oi hm1).symm
    change some _ = some _ at hm0
    obtain rfl := oi hm0
    exact ⟨_, [], ⟨_, _, rfl, rfl, rfl⟩, List.nil_sublist _, rfl, rfl⟩
   ·
    replace hm1 := cond_f hc1 hm1
    refine V.skip ?_
    refine V.region (VO.cons rfl (V1.it ?_))
    refine VO.cons rfl (V1.mv ?_)
    refine VO.nil ?_
    exact ⟨(m0, (IntKind.i64.wrap (v0 + (1 : Int))), ()), hl1 _ (oi hm1).symm, Nat.lt_succ_self _, Keeps.mk (ks := []) rfl ⟨rfl, rfl, rfl, rfl, trivial⟩ (rfl) rfl⟩
  ·
   replace hm1 := cond_f hc0 hm1
   refine V.exit ?_
   obtain rfl := hr1 _ (oi hm1).symm
   exact ⟨((), ()), rfl, Keeps.mk (ks := []) rfl trivial (rfl) rfl⟩
 ·
  rintro ⟨_, _⟩ rfl
  try dsimp only at hm0
  refine V.seq (V.region (VO.cons rfl (V1.as ?_)))
  refine VO.nil (V.ret ?_)
  obtain rfl := oi hm0
  exact ⟨_, [], ⟨_, _, rfl, rfl, rfl⟩, List.nil_sublist _, rfl, rfl⟩

theorem ok_slices_Contains_int_int {ρ0 rn : Nat} {s : List Int} {v : Int} {r : Bool} (h : M.slices_Contains_int_int s v = some r) : Does Try.prog 123 [.vl ρ0 1 (List.map encInt s), .int .i64 v] [] rn (fun x H => x = .bool r ∧ H = []) := by
 have hm0 := h; clear h; unfold M.slices_Contains_int_int at hm0
 try dsimp only at hm0
 refine Does.intro (N := 9) Try.func123 rfl rfl rfl rfl ?_
 intro w0 S0
 refine V.seq (V.region (VO.cons rfl (V1.as ?_)))
 refine VO.nil (V.seq ?_)
 replace hm0 := bindO hm0; rcases hm0 with ⟨y0, hh0, hm0⟩
 refine V.region (VO.cons rfl (V1.mv ?_))
 refine VO.cons rfl (V1.mv ?_)
 refine VO.cons rfl (V1.call rfl rfl rfl cok_137 rfl (ok_slices_Index_int_int hh0) rfl lt0 ?_)
 rintro _ _ ⟨rfl, rfl⟩
 refine VO.cons rfl (V1.it ?_)
 refine VO.cons rfl (V1.as ?_)
 refine VO.nil (V.ret ?_)
 obtain rfl := oi hm0
 exact ⟨_, [], ⟨_, _, rfl, rfl, rfl⟩, List.nil_sublist _, rfl, rfl⟩

theorem ok_impl_seriesIn {ρ0 rn : Nat} {list : List Rule} {r : List Int} (h : M.impl_seriesIn list = some r) : Does Try.prog 95 [.vl ρ0 4 (List.map encRule list)] [] rn (fun x H => ∃ (ob0_ : Option Nat), (ob0_ = none → r = []) ∧ x = optS 1 ob0_ (List.length r) ∧ H = optH 1 ob0_ (List.map encInt r)) := by
 have hm0 := h; clear h; unfold M.impl_seriesIn at hm0
 try dsimp only at hm0
 refine Does.intro (N := 24) Try.func95 rfl rfl rfl rfl ?_
 intro w0 S0
 refine V.seq (V.region (VO.cons rfl (V1.as ?_)))
 refine VO.nil (V.seq (V.region (VO.cons rfl (V1.as ?_))))
 refine VO.nil (V.seq (V.seq (V.region (VO.cons rfl (V1.mv ?_)))))
 refine VO.cons rfl (V1.lenMap rfl rfl rfl rfl rfl rfl isl_58 lt0 ?_)
 refine VO.cons rfl (V1.mv ?_)
 refine VO.nil ?_
 replace hm0 := bindO hm0; rcases hm0 with ⟨e0, he1, hm0⟩
 refine V.cutT (D := (List Int) × (Option Nat)) (fun ⟨out_, ob0⟩ => ⟨24, [(3, optS 1 ob0 (List.length out_))], optH 1 ob0 (List.map encInt out_)⟩) (fun ⟨out_, ob0⟩ => (out_ = e0) ∧ (ob0 = none → out_ = [])) ?_ ?_
 ·
  refine V.block ?_
  refine V.keep 24 [3, 8, 6, 7] [] (E0 := [(3, .nils), (8, .int .i64 (0 : Int)), (6, .vl ρ0 4 (List.map encRule list)), (7, .int .i64 (list.length : Int))]) (H0 := []) rfl (⟨_, _, rfl, rfl, ⟨_, _, rfl, rfl, ⟨_, _, rfl, rfl, ⟨_, _, rfl, rfl, rfl⟩⟩⟩⟩) (rfl) rfl ?_
  refine V.loopE (D := Nat × (List Int × Int) × (Option Nat)) (fun ⟨n0, ⟨out_0, v⟩, ob1⟩ => [(3, optS 1 ob1 (List.length out_0)), (8, .int .i64 v)]) (fun ⟨n0, ⟨out_0, v⟩, ob1⟩ => optH 1 ob1 (List.map encInt out_0)) (fun ⟨n0, ⟨out_0, v⟩, ob1⟩ => loopO (M.impl_seriesIn_l0 list) n0 (out_0, v) = some e0 ∧ (ob1 = none → out_0 = [])) (fun ⟨n0, _, _⟩ => n0) (rounds, (([] : List Int), (0 : Int)), none) rfl ⟨he1, (fun _ => rfl)⟩ ?_
  rintro ⟨n0, ⟨out_0, v⟩, ob1⟩ ⟨hP0, hob1⟩
  obtain ⟨m0, y0, rfl, hm1, hl1, hr1⟩ := loop_head hP0
  unfold M.impl_seriesIn_l0 at hm1; dsimp only at hm1
  rcases ob1 with _ | ob1
  ·
   replace hob1 := hob1 rfl
   show V _ _ _ ⟨24, [(3, .nils), (8, .int .i64 v), (6, .vl ρ0 4 (List.map encRule list)), (7, .int .i64 (list.length : Int))], []⟩
   refine V.seq (V.region (VO.cons rfl (V1.it ?_)))
   refine VO.nil (V.seq (V.cond rfl (fun hc0 => ?_) (fun hc0 => ?_)))
   ·
    replace hm1 := cond_t hc0 hm1
    refine V.skip ?_
    refine V.seq ?_
    replace hm1 := bindO hm1; rcases hm1 with ⟨j0, hm2, hm1⟩
    refine V.cutT (D := (List Int) × (Option Nat)) (fun ⟨out_1, ob2⟩ => ⟨24, [(3, optS 1 ob2 (List.length out_1)), (6, .vl ρ0 4 (List.map encRule list)), (7, .int .i64 (list.length : Int)), (8, .int .i64 v)], optH 1 ob2 (List.map encInt out_1)⟩) (fun ⟨out_1, ob2⟩ => (out_1 = j0) ∧ (ob2 = none → out_1 = [])) ?_ ?_
    ·
     refine V.block ?_
     refine V.seq ?_
     replace hm2 := asrt_some hm2; rcases hm2 with ⟨hh0, hm2⟩
     refine V.region (VO.cons rfl (V1.indexI rfl rfl esz_58 rfl rfl hh0 lt0 ?_))
     refine VO.cons rfl (V1.loadPinAll rfl rfl tyk_109 rfl rfl lt0 ?_)
     refine VO.cons rfl (V1.alloc rfl rfl zk_109 lt0 ?_)
     intro b0
     refine VO.cons rfl (V1.storeRefAll (k := 0) rfl rfl tyk_109 rfl rfl rfl rfl rfl rfl ?_)
     refine VO.nil (V.seq ?_)
     replace hm2 := bindO hm2; rcases hm2 with ⟨y1, hh1, hm2⟩
     refine V.region (VO.cons rfl (V1.mv ?_))
     refine VO.cons rfl (V1.fieldRef rfl rfl fo_109_0 rfl lt0 ?_)
     refine VO.cons rfl (V1.loadRef (k := 0) rfl rfl tyk_3 rfl rfl rfl rfl rfl lt0 ?_)
     refine VO.weakenK (Keeps.nilsE (l := out_0) 12 rn 1 encInt hob1 rfl rfl) ?_
     refine VO.cons rfl (V1.call rfl rfl rfl cok_123 rfl (ok_slices_Contains_int_int hh1) rfl lt0 ?_)
     rintro _ _ ⟨rfl, rfl⟩
     refine VO.cons rfl (V1.not rfl rfl rfl lt0 ?_)
     refine VO.nil (V.keep 24 [3, 5, 6, 7, 8, 16] [0] (E0 := [(3, .nils), (5, .ref b0 4 0 0), (6, .vl ρ0 4 (List.map encRule list)), (7, .int .i64 (list.length : Int)), (8, .int .i64 v), (16, .bool (!y1))]) (H0 := [(b0, ⟨4, [encRule (list.getD (Int.toNat v) default)]⟩)]) rfl (⟨_, _, rfl, rfl, ⟨_, _, rfl, rfl, ⟨_, _, rfl, rfl, ⟨_, _, rfl, rfl, ⟨_, _, rfl, rfl, ⟨_, _, rfl, rfl, rfl⟩⟩⟩⟩⟩⟩) (⟨_, _, rfl, rfl, rfl⟩) rfl ?_)
     refine V.cond rfl (fun hc1 => ?_) (fun hc1 => ?_)
     ·
      replace hm2 := cond_t hc1 hm2
      replace hm2 := asrt_some hm2; rcases hm2 with ⟨hh2, hm2⟩
      refine V.region (VO.cons rfl (V1.mv ?_))
      refine VO.cons rfl (V1.fieldRef rfl rfl fo_109_0 rfl lt0 ?_)
      refine VO.cons rfl (V1.loadRef (k := 0) rfl rfl tyk_3 rfl rfl rfl rfl rfl lt0 ?_)
      refine VO.cons rfl (V1.buildSliceT (f := encInt) ([(list.getD (Int.toNat v) default).Series] : List Int) rfl rfl esz_69 zk_3 rfl rfl rfl rfl rfl rfl rfl lt0 ?_)
      intro b1
      refine VO.cons rfl (V1.appendNilE (f := encInt) (l := out_0) (m := ([(list.getD (Int.toNat v) default).Series] : List Int)) hob1 rfl rfl rfl rfl rfl esz_69 eby_69 zk_3 rfl rfl rfl (SrcOf.srMap (k := 0) rfl isl_69) rfl hh2 lt0 ?_)
      intro b2
      refine VO.cons rfl (V1.as ?_)
      refine VO.nil ?_
      exact ⟨((out_0 ++ ([(list.getD (Int.toNat v) default).Series] : List Int)), (some b2)), ⟨oi hm2, (fun e => by cases e)⟩, Keeps.mk (ks := [0]) rfl ⟨rfl, rfl, rfl, rfl, trivial⟩ (⟨_, _, rfl, rfl, rfl⟩) rfl⟩
     ·
      replace hm2 := cond_f hc1 hm2
      refine V.skip ?_
      exact ⟨(out_0, none), ⟨oi hm2, (fun _ => hob1)⟩, Keeps.mk (ks := []) rfl ⟨rfl, rfl, rfl, rfl, trivial⟩ (rfl) rfl⟩
    ·
     rintro ⟨out_1, ob2⟩ ⟨rfl, hob2⟩
     try dsimp only at hm1
     rcases ob2 with _ | ob2
     ·
      replace hob2 := hob2 rfl
      refine V.region (VO.cons rfl (V1.it ?_))
      refine VO.cons rfl (V1.mv ?_)
      refine VO.nil ?_
      exact ⟨(m0, (out_1, (IntKind.i64.wrap (v + (1 : Int)))), none), ⟨hl1 _ (oi hm1).symm, (fun _ => hob2)⟩, Nat.lt_succ_self _, Keeps.mk (ks := []) rfl ⟨rfl, rfl, rfl, rfl, trivial⟩ (rfl) rfl⟩
     ·
      refine V.region (VO.cons rfl (V1.it ?_))
      refine VO.cons rfl (V1.mv ?_)
      refine VO.nil ?_
      exact ⟨(m0, (out_1, (IntKind.i64.wrap (v + (1 : Int)))), (some ob2)), ⟨hl1 _ (oi hm1).symm, (fun e => by cases e)⟩, Nat.lt_succ_self _, Keeps.mk (ks := [0]) rfl ⟨rfl, rfl, rfl, rfl, trivial⟩ (⟨_, _, rfl, rfl, rfl⟩) rfl⟩
   ·
    replace hm1 := cond_f hc0 hm1
    refine V.exit ?_
    obtain rfl := hr1 _ (oi hm1).symm
    exact ⟨(out_0, none), ⟨rfl, (fun _ => hob1)⟩, Keeps.mk (ks := []) rfl ⟨rfl, trivial⟩ (rfl) rfl⟩
  ·
   show V _ _ _ ⟨24, [(3, .sref ob1 1 0 (List.length out_0)), (8, .int .i64 v), (6, .vl ρ0 4 (List.map encRule list)), (7, .int .i64 (list.length : Int))], [(ob1, ⟨1, List.map encInt out_0⟩)]⟩
   refine V.seq (V.region (VO.cons rfl (V1.it ?_)))
   refine VO.nil (V.seq (V.cond rfl (fun hc0 => ?_) (fun hc0 => ?_)))
   ·
    replace hm1 := cond_t hc0 hm1
    refine V.skip ?_
    refine V.seq ?_
    replace hm1 := bindO hm1; rcases hm1 with ⟨j0, hm2, hm1⟩
    refine V.cutT (D := (List Int) × (Nat)) (fun ⟨out_1, b0⟩ => ⟨24, [(3, .sref b0 1 0 (List.length out_1)), (6, .vl ρ0 4 (List.map encRule list)), (7, .int .i64 (list.length : Int)), (8, .int .i64 v)], [(b0, ⟨1, List.map encInt out_1⟩)]⟩) (fun ⟨out_1, b0⟩ => (out_1 = j0)) ?_ ?_
    ·
     refine V.block ?_
     refine V.seq ?_
     replace hm2 := asrt_some hm2; rcases hm2 with ⟨hh0, hm2⟩
     refine V.region (VO.cons rfl (V1.indexI rfl rfl esz_58 rfl rfl hh0 lt0 ?_))
     refine VO.cons rfl (V1.loadPinAll rfl rfl tyk_109 rfl rfl lt0 ?_)
     refine VO.cons rfl (V1.alloc rfl rfl zk_109 lt0 ?_)
     intro b1
     refine VO.cons rfl (V1.storeRefAll (k := 0) rfl rfl tyk_109 rfl rfl rfl rfl rfl rfl ?_)
     refine VO.nil (V.seq ?_)
     replace hm2 := bindO hm2; rcases hm2 with ⟨y1, hh1, hm2⟩
     refine V.region (VO.cons rfl (V1.mv ?_))
     refine VO.cons rfl (V1.fieldRef rfl rfl fo_109_0 rfl lt0 ?_)
     refine VO.cons rfl (V1.loadRef (k := 0) rfl rfl tyk_3 rfl rfl rfl rfl rfl lt0 ?_)
     refine VO.cons rfl (V1.callL (rn + 1) [ob1] [.vl (rn + 1) 1 (List.map encInt out_0), .int .i64 ((list.getD (Int.toNat v) default).Series)] rfl rfl rfl cok_123 rfl ⟨_, _, rfl, Lend.srMap 1 rfl (fun _ => rfl) (.head _), ⟨_, _, rfl, .same _, rfl⟩⟩ (bwCons (k := 1) rfl bwNil) (ok_slices_Contains_int_int hh1) rfl (⟨(by first | omega | (dsimp only; omega)), by rintro _ _ ⟨rfl, rfl⟩; exact ⟨rfl, by simp⟩⟩) lt0 ?_)
     rintro _ _ ⟨rfl, rfl⟩
     refine VO.cons rfl (V1.not rfl rfl rfl lt0 ?_)
     refine VO.nil (V.keep 24 [3, 5, 6, 7, 8, 16] [0, 1] (E0 := [(3, .sref ob1 1 0 (List.length out_0)), (5, .ref b1 4 0 0), (6, .vl ρ0 4 (List.map encRule list)), (7, .int .i64 (list.length : Int)), (8, .int .i64 v), (16, .bool (!y1))]) (H0 := [(b1, ⟨4, [encRule (list.getD (Int.toNat v) default)]⟩), (ob1, ⟨1, List.map encInt out_0⟩)]) rfl (⟨_, _, rfl, rfl, ⟨_, _, rfl, rfl, ⟨_, _, rfl, rfl, ⟨_, _, rfl, rfl, ⟨_, _, rfl, rfl, ⟨_, _, rfl, rfl, rfl⟩⟩⟩⟩⟩⟩) (⟨_, _, rfl, rfl, ⟨_, _, rfl, rfl, rfl⟩⟩) rfl ?_)
     refine V.cond rfl (fun hc1 => ?_) (fun hc1 => ?_)
     ·
      replace hm2 := cond_t hc1 hm2
      replace hm2 := asrt_some hm2; rcases hm2 with ⟨hh2, hm2⟩
      refine V.region (VO.cons rfl (V1.mv ?_))
      refine VO.cons rfl (V1.fieldRef rfl rfl fo_109_0 rfl lt0 ?_)
      refine VO.cons rfl (V1.loadRef (k := 0) rfl rfl tyk_3 rfl rfl rfl rfl rfl lt0 ?_)
      refine VO.cons rfl (V1.buildSliceT (f := encInt) ([(list.getD (Int.toNat v) default).Series] : List Int) rfl rfl esz_69 zk_3 rfl rfl rfl rfl rfl rfl rfl lt0 ?_)
      intro b2
      refine VO.cons rfl (V1.appendMap (k := 2) (f := encInt) (l := out_0) (m := ([(list.getD (Int.toNat v) default).Series] : List Int)) rfl rfl rfl rfl rfl esz_69 eby_69 zk_3 rfl rfl rfl (SrcOf.srMap (k := 0) rfl isl_69) hh2 lt0 ?_)
      intro b3
      refine VO.cons rfl (V1.as ?_)
      refine VO.nil ?_
      exact ⟨((out_0 ++ ([(list.getD (Int.toNat v) default).Series] : List Int)), b3), oi hm2, Keeps.mk (ks := [0]) rfl ⟨rfl, rfl, rfl, rfl, trivial⟩ (⟨_, _, rfl, rfl, rfl⟩) rfl⟩
     ·
      replace hm2 := cond_f hc1 hm2
      refine V.skip ?_
      exact ⟨(out_0, ob1), oi hm2, Keeps.mk (ks := [1]) rfl ⟨rfl, rfl, rfl, rfl, trivial⟩ (⟨_, _, rfl, rfl, rfl⟩) rfl⟩
    ·
     rintro ⟨out_1, b0⟩ rfl
     try dsimp only at hm1
     refine V.region (VO.cons rfl (V1.it ?_))
     refine VO.cons rfl (V1.mv ?_)
     refine VO.nil ?_
     exact ⟨(m0, (out_1, (IntKind.i64.wrap (v + (1 : Int)))), (some b0)), ⟨hl1 _ (oi hm1).symm, (fun e => by cases e)⟩, Nat.lt_succ_self _, Keeps.mk (ks := [0]) rfl ⟨rfl, rfl, rfl, rfl, trivial⟩ (⟨_, _, rfl, rfl, rfl⟩) rfl⟩
   ·
    replace hm1 := cond_f hc0 hm1
    refine V.exit ?_
    obtain rfl := hr1 _ (oi hm1).symm
    exact ⟨(out_0, (some ob1)), ⟨rfl, (fun e => by cases e)⟩, Keeps.mk (ks := [0]) rfl ⟨rfl, trivial⟩ (⟨_, _, rfl, rfl, rfl⟩) rfl⟩
 ·
  rintro ⟨out_, ob0⟩ ⟨rfl, hob0⟩
  try dsimp only at hm0
  rcases ob0 with _ | ob0
  ·
   replace hob0 := hob0 rfl
   refine V.seq (V.region (VO.cons rfl (V1.mv ?_)))
   refine VO.cons rfl (V1.as ?_)
   refine VO.nil (V.keep 24 [2] [] (E0 := [(2, .nils)]) (H0 := []) rfl (⟨_, _, rfl, rfl, rfl⟩) (rfl) rfl ?_)
   refine V.ret ?_
   obtain rfl := oi hm0
   exact ⟨_, _, ⟨_, _, rfl, rfl, rfl⟩, List.Sublist.refl _, none, (fun _ => hob0), rfl, rfl⟩
  ·
   refine V.seq (V.region (VO.cons rfl (V1.mv ?_)))
   refine VO.cons rfl (V1.as ?_)
   refine VO.nil (V.keep 24 [2] [0] (E0 := [(2, .sref ob0 1 0 (List.length out_))]) (H0 := [(ob0, ⟨1, List.map encInt out_⟩)]) rfl (⟨_, _, rfl, rfl, rfl⟩) (⟨_, _, rfl, rfl, rfl⟩) rfl ?_)
   refine V.ret ?_
   obtain rfl := oi hm0
   exact ⟨_, _, ⟨_, _, rfl, rfl, rfl⟩, List.Sublist.refl _, some ob0, (fun e => by cases e), rfl, rfl⟩

theorem okz_impl_seriesIn {ρ0 rn : Nat} {list : List Rule} {r : List Int} (h : M.impl_seriesIn list = some r) : Does Try.prog 95 [.vl ρ0 4 (List.map encRule list)] [] rn (fun x H => x = .vl rn 1 (List.map encInt r) ∧ H = []) := by
 have hm0 := h; clear h; unfold M.impl_seriesIn at hm0
 try dsimp only at hm0
 refine Does.intro (N := 24) Try.func95 rfl rfl rfl rfl ?_
 intro w0 S0
 refine V.seq (V.region (VO.cons rfl (V1.as ?_)))
 refine VO.nil (V.seq (V.region (VO.cons rfl (V1.as ?_))))
 refine VO.nil (V.seq (V.seq (V.region (VO.cons rfl (V1.mv ?_)))))
 refine VO.cons rfl (V1.lenMap rfl rfl rfl rfl rfl rfl isl_58 lt0 ?_)
 refine VO.cons rfl (V1.mv ?_)
 refine VO.nil ?_
 replace hm0 := bindO hm0; rcases hm0 with ⟨e0, he1, hm0⟩
 refine V.cutT (D := (List Int) × (Unit)) (fun ⟨out_, _⟩ => ⟨24, [(3, .vl rn 1 (List.map encInt out_))], []⟩) (fun ⟨out_, _⟩ => (out_ = e0)) ?_ ?_
 ·
  refine V.block ?_
  refine V.keep 24 [3, 8, 6, 7] [] (E0 := [(3, .nils), (8, .int .i64 (0 : Int)), (6, .vl ρ0 4 (List.map encRule list)), (7, .int .i64 (list.length : Int))]) (H0 := []) rfl (⟨_, _, rfl, rfl, ⟨_, _, rfl, rfl, ⟨_, _, rfl, rfl, ⟨_, _, rfl, rfl, rfl⟩⟩⟩⟩) (rfl) rfl ?_
  refine V.loopE (D := Nat × (List Int × Int) × (Option Nat)) (fun ⟨n0, ⟨out_0, v⟩, ob0⟩ => [(3, optS 1 ob0 (List.length out_0)), (8, .int .i64 v)]) (fun ⟨n0, ⟨out_0, v⟩, ob0⟩ => optH 1 ob0 (List.map encInt out_0)) (fun ⟨n0, ⟨out_0, v⟩, ob0⟩ => loopO (M.impl_seriesIn_l0 list) n0 (out_0, v) = some e0 ∧ (ob0 = none → out_0 = [])) (fun ⟨n0, _, _⟩ => n0) (rounds, (([] : List Int), (0 : Int)), none) rfl ⟨he1, (fun _ => rfl)⟩ ?_
  rintro ⟨n0, ⟨out_0, v⟩, ob0⟩ ⟨hP0, hob0⟩
  obtain ⟨m0, y0, rfl, hm1, hl1, hr1⟩ := loop_head hP0
  unfold M.impl_seriesIn_l0 at hm1; dsimp only at hm1
  rcases ob0 with _ | ob0
  ·
   replace hob0 := hob0 rfl
   show V _ _ _ ⟨24, [(3, .nils), (8, .int .i64 v), (6, .vl ρ0 4 (List.map encRule list)), (7, .int .i64 (list.length : Int))], []⟩
   refine V.seq (V.region (VO.cons rfl (V1.it ?_)))
   refine VO.nil (V.seq (V.cond rfl (fun hc0 => ?_) (fun hc0 => ?_)))
   ·
    replace hm1 := cond_t hc0 hm1
    refine V.skip ?_
    refine V.seq ?_
    replace hm1 := bindO hm1; rcases hm1 with ⟨j0, hm2, hm1⟩
    refine V.cutT (D := (List Int) × (Option Nat)) (fun ⟨out_1, ob1⟩ => ⟨24, [(3, optS 1 ob1 (List.length out_1)), (6, .vl ρ0 4 (List.map encRule list)), (7, .int .i64 (list.length : Int)), (8, .int .i64 v)], optH 1 ob1 (List.map encInt out_1)⟩) (fun ⟨out_1, ob1⟩ => (out_1 = j0) ∧ (ob1 = none → out_1 = [])) ?_ ?_
    ·
     refine V.block ?_
     refine V.seq ?_
     replace hm2 := asrt_some hm2; rcases hm2 with ⟨hh0, hm2⟩
     refine V.region (VO.cons rfl (V1.indexI rfl rfl esz_58 rfl rfl hh0 lt0 ?_))
     refine VO.cons rfl (V1.loadPinAll rfl rfl tyk_109 rfl rfl lt0 ?_)
     refine VO.cons rfl (V1.alloc rfl rfl zk_109 lt0 ?_)
     intro b0
     refine VO.cons rfl (V1.storeRefAll (k := 0) rfl rfl tyk_109 rfl rfl rfl rfl rfl rfl ?_)
     refine VO.nil (V.seq ?_)
     replace hm2 := bindO hm2; rcases hm2 with ⟨y1, hh1, hm2⟩
     refine V.region (VO.cons rfl (V1.mv ?_))
     refine VO.cons rfl (V1.fieldRef rfl rfl fo_109_0 rfl lt0 ?_)
     refine VO.cons rfl (V1.loadRef (k := 0) rfl rfl tyk_3 rfl rfl rfl rfl rfl lt0 ?_)
     refine VO.weakenK (Keeps.nilsE (l := out_0) 12 rn 1 encInt hob0 rfl rfl) ?_
     refine VO.cons rfl (V1.call rfl rfl rfl cok_123 rfl (ok_slices_Contains_int_int hh1) rfl lt0 ?_)
     rintro _ _ ⟨rfl, rfl⟩
     refine VO.cons rfl (V1.not rfl rfl rfl lt0 ?_)
     refine VO.nil (V.keep 24 [3, 5, 6, 7, 8, 16] [0] (E0 := [(3, .nils), (5, .ref b0 4 0 0), (6, .vl ρ0 4 (List.map encRule list)), (7, .int .i64 (list.length : Int)), (8, .int .i64 v), (16, .bool (!y1))]) (H0 := [(b0, ⟨4, [encRule (list.getD (Int.toNat v) default)]⟩)]) rfl (⟨_, _, rfl, rfl, ⟨_, _, rfl, rfl, ⟨_, _, rfl, rfl, ⟨_, _, rfl, rfl, ⟨_, _, rfl, rfl, ⟨_, _, rfl, rfl, rfl⟩⟩⟩⟩⟩⟩) (⟨_, _, rfl, rfl, rfl⟩) rfl ?_)
     refine V.cond rfl (fun hc1 => ?_) (fun hc1 => ?_)
     ·
      replace hm2 := cond_t hc1 hm2
      replace hm2 := asrt_some hm2; rcases hm2 with ⟨hh2, hm2⟩
      refine V.region (VO.cons rfl (V1.mv ?_))
      refine VO.cons rfl (V1.fieldRef rfl rfl fo_109_0 rfl lt0 ?_)
      refine VO.cons rfl (V1.loadRef (k := 0) rfl rfl tyk_3 rfl rfl rfl rfl rfl lt0 ?_)
      refine VO.cons rfl (V1.buildSliceT (f := encInt) ([(list.getD (Int.toNat v) default).Series] : List Int) rfl rfl esz_69 zk_3 rfl rfl rfl rfl rfl rfl rfl lt0 ?_)
      intro b1
      refine VO.cons rfl (V1.appendNilE (f := encInt) (l := out_0) (m := ([(list.getD (Int.toNat v) default).Series] : List Int)) hob0 rfl rfl rfl rfl rfl esz_69 eby_69 zk_3 rfl rfl rfl (SrcOf.srMap (k := 0) rfl isl_69) rfl hh2 lt0 ?_)
      intro b2
      refine VO.cons rfl (V1.as ?_)
      refine VO.nil ?_
      exact ⟨((out_0 ++ ([(list.getD (Int.toNat v) default).Series] : List Int)), (some b2)), ⟨oi hm2, (fun e => by cases e)⟩, Keeps.mk (ks := [0]) rfl ⟨rfl, rfl, rfl, rfl, trivial⟩ (⟨_, _, rfl, rfl, rfl⟩) rfl⟩
     ·
      replace hm2 := cond_f hc1 hm2
      refine V.skip ?_
      exact ⟨(out_0, none), ⟨oi hm2, (fun _ => hob0)⟩, Keeps.mk (ks := []) rfl ⟨rfl, rfl, rfl, rfl, trivial⟩ (rfl) rfl⟩
    ·
     rintro ⟨out_1, ob1⟩ ⟨rfl, hob1⟩
     try dsimp only at hm1
     rcases ob1 with _ | ob1
     ·
      replace hob1 := hob1 rfl
      refine V.region (VO.cons rfl (V1.it ?_))
      refine VO.cons rfl (V1.mv ?_)
      refine VO.nil ?_
      exact ⟨(m0, (out_1, (IntKind.i64.wrap (v + (1 : Int)))), none), ⟨hl1 _ (oi hm1).symm, (fun _ => hob1)⟩, Nat.lt_succ_self _, Keeps.mk (ks := []) rfl ⟨rfl, rfl, rfl, rfl, trivial⟩ (rfl) rfl⟩
     ·
      refine V.region (VO.cons rfl (V1.it ?_))
      refine VO.cons rfl (V1.mv ?_)
      refine VO.nil ?_
      exact ⟨(m0, (out_1, (IntKind.i64.wrap (v + (1 : Int)))), (some ob1)), ⟨hl1 _ (oi hm1).symm, (fun e => by cases e)⟩, Nat.lt_succ_self _, Keeps.mk (ks := [0]) rfl ⟨rfl, rfl, rfl, rfl, trivial⟩ (⟨_, _, rfl, rfl, rfl⟩) rfl⟩
   ·
    replace hm1 := cond_f hc0 hm1
    refine V.exit ?_
    obtain rfl := hr1 _ (oi hm1).symm
    exact ⟨(out_0, ()), rfl, Keeps.trans (Keeps.nilsE (l := out_0) 3 rn 1 encInt hob0 rfl rfl) (Keeps.mk (ks := []) rfl ⟨rfl, trivial⟩ (rfl) rfl)⟩
  ·
   show V _ _ _ ⟨24, [(3, .sref ob0 1 0 (List.length out_0)), (8, .int .i64 v), (6, .vl ρ0 4 (List.map encRule list)), (7, .int .i64 (list.length : Int))], [(ob0, ⟨1, List.map encInt out_0⟩)]⟩
   refine V.seq (V.region (VO.cons rfl (V1.it ?_)))
   refine VO.nil (V.seq (V.cond rfl (fun hc0 => ?_) (fun hc0 => ?_)))
   ·
    replace hm1 := cond_t hc0 hm1
    refine V.skip ?_
    refine V.seq ?_
    replace hm1 := bindO hm1; rcases hm1 with ⟨j0, hm2, hm1⟩
    refine V.cutT (D := (List Int) × (Nat)) (fun ⟨out_1, b0⟩ => ⟨24, [(3, .sref b0 1 0 (List.length out_1)), (6, .vl ρ0 4 (List.map encRule list)), (7, .int .i64 (list.length : Int)), (8, .int .i64 v)], [(b0, ⟨1, List.map encInt out_1⟩)]⟩) (fun ⟨out_1, b0⟩ => (out_1 = j0)) ?_ ?_
    ·
     refine V.block ?_
     refine V.seq ?_
     replace hm2 := asrt_some hm2; rcases hm2 with ⟨hh0, hm2⟩
     refine V.region (VO.cons rfl (V1.indexI rfl rfl esz_58 rfl rfl hh0 lt0 ?_))
     refine VO.cons rfl (V1.loadPinAll rfl rfl tyk_109 rfl rfl lt0 ?_)
     refine VO.cons rfl (V1.alloc rfl rfl zk_109 lt0 ?_)
     intro b1
     refine VO.cons rfl (V1.storeRefAll (k := 0) rfl rfl tyk_109 rfl rfl rfl rfl rfl rfl ?_)
     refine VO.nil (V.seq ?_)
     replace hm2 := bindO hm2; rcases hm2 with ⟨y1, hh1, hm2⟩
     refine V.region (VO.cons rfl (V1.mv ?_))
     refine VO.cons rfl (V1.fieldRef rfl rfl fo_109_0 rfl lt0 ?_)
     refine VO.cons rfl (V1.loadRef (k := 0) rfl rfl tyk_3 rfl rfl rfl rfl rfl lt0 ?_)
     refine VO.cons rfl (V1.callL (rn + 1) [ob0] [.vl (rn + 1) 1 (List.map encInt out_0), .int .i64 ((list.getD (Int.toNat v) default).Series)] rfl rfl rfl cok_123 rfl ⟨_, _, rfl, Lend.srMap 1 rfl (fun _ => rfl) (.head _), ⟨_, _, rfl, .same _, rfl⟩⟩ (bwCons (k := 1) rfl bwNil) (ok_slices_Contains_int_int hh1) rfl (⟨(by first | omega | (dsimp only; omega)), by rintro _ _ ⟨rfl, rfl⟩; exact ⟨rfl, by simp⟩⟩) lt0 ?_)
     rintro _ _ ⟨rfl, rfl⟩
     refine VO.cons rfl (V1.not rfl rfl rfl lt0 ?_)
     refine VO.nil (V.keep 24 [3, 5, 6, 7, 8, 16] [0, 1] (E0 := [(3, .sref ob0 1 0 (List.length out_0)), (5, .ref b1 4 0 0), (6, .vl ρ0 4 (List.map encRule list)), (7, .int .i64 (list.length : Int)), (8, .int .i64 v), (16, .bool (!y1))]) (H0 := [(b1, ⟨4, [encRule (list.getD (Int.toNat v) default)]⟩), (ob0, ⟨1, List.map encInt out_0⟩)]) rfl (⟨_, _, rfl, rfl, ⟨_, _, rfl, rfl, ⟨_, _, rfl, rfl, ⟨_, _, rfl, rfl, ⟨_, _, rfl, rfl, ⟨_, _, rfl, rfl, rfl⟩⟩⟩⟩⟩⟩) (⟨_, _, rfl, rfl, ⟨_, _, rfl, rfl, rfl⟩⟩) rfl ?_)
     refine V.cond rfl (fun hc1 => ?_) (fun hc1 => ?_)
     ·
      replace hm2 := cond_t hc1 hm2
      replace hm2 := asrt_some hm2; rcases hm2 with ⟨hh2, hm2⟩
      refine V.region (VO.cons rfl (V1.mv ?_))
      refine VO.cons rfl (V1.fieldRef rfl rfl fo_109_0 rfl lt0 ?_)
      refine VO.cons rfl (V1.loadRef (k := 0) rfl rfl tyk_3 rfl rfl rfl rfl rfl lt0 ?_)
      refine VO.cons rfl (V1.buildSliceT (f := encInt) ([(list.getD (Int.toNat v) default).Series] : List Int) rfl rfl esz_69 zk_3 rfl rfl rfl rfl rfl rfl rfl lt0 ?_)
      intro b2
      refine VO.cons rfl (V1.appendMap (k := 2) (f := encInt) (l := out_0) (m := ([(list.getD (Int.toNat v) default).Series] : List Int)) rfl rfl rfl rfl rfl esz_69 eby_69 zk_3 rfl rfl rfl (SrcOf.srMap (k := 0) rfl isl_69) hh2 lt0 ?_)
      intro b3
      refine VO.cons rfl (V1.as ?_)
      refine VO.nil ?_
      exact ⟨((out_0 ++ ([(list.getD (Int.toNat v) default).Series] : List Int)), b3), oi hm2, Keeps.mk (ks := [0]) rfl ⟨rfl, rfl, rfl, rfl, trivial⟩ (⟨_, _, rfl, rfl, rfl⟩) rfl⟩
     ·
      replace hm2 := cond_f hc1 hm2
      refine V.skip ?_
      exact ⟨(out_0, ob0), oi hm2, Keeps.mk (ks := [1]) rfl ⟨rfl, rfl, rfl, rfl, trivial⟩ (⟨_, _, rfl, rfl, rfl⟩) rfl⟩
    ·
     rintro ⟨out_1, b0⟩ rfl
     try dsimp only at hm1
     refine V.region (VO.cons rfl (V1.it ?_))
     refine VO.cons rfl (V1.mv ?_)
     refine VO.nil ?_
     exact ⟨(m0, (out_1, (IntKind.i64.wrap (v + (1 : Int)))), (some b0)), ⟨hl1 _ (oi hm1).symm, (fun e => by cases e)⟩, Nat.lt_succ_self _, Keeps.mk (ks := [0]) rfl ⟨rfl, rfl, rfl, rfl, trivial⟩ (⟨_, _, rfl, rfl, rfl⟩) rfl⟩
   ·
    replace hm1 := cond_f hc0 hm1
    refine V.exit ?_
    obtain rfl := hr1 _ (oi hm1).symm
    exact ⟨(out_0, ()), rfl, Keeps.trans (Keeps.freezeG 0 rn [(3, .vl rn 1 (List.map encInt out_0))] [] (f := encInt) (l := out_0) rfl (fun _ => rfl) ⟨⟨_, rfl, .here⟩, trivial⟩ rfl rfl iNil) (Keeps.mk (ks := []) rfl ⟨rfl, trivial⟩ (rfl) rfl)⟩
 ·
  rintro ⟨out_, _⟩ rfl
  try dsimp only at hm0
  refine V.seq (V.region (VO.cons rfl (V1.mv ?_)))
  refine VO.cons rfl (V1.as ?_)
  refine VO.nil (V.ret ?_)
  obtain rfl := oi hm0
  exact ⟨_, [], ⟨_, _, rfl, rfl, rfl⟩, List.nil_sublist _, rfl, rfl⟩

theorem ok_slices_Sort_int_int {rn : Nat} {oq : Option Nat} {s r : List Int} (h : M.slices_Sort_int_int s = some r) (hoq : oq = none → s = []) : Does Try.prog 96 [optS 1 oq (List.length s)] (optH 1 oq (List.map encInt s)) rn (fun x H => x = .tup [] ∧ H = optH 1 oq (List.map encInt r)) := by
 unfold M.slices_Sort_int_int at h
 obtain ⟨h1, h⟩ := asrt_some h
 obtain rfl := oi h; clear h
 exact Does.sortI hoq (fun blk off cap zs w h1 h2 h3 => Go.Proofs.Any.slices_Sort_int Go.Proofs.Try.lays189 blk off cap zs w h1 h2 h3) (fun p cap w => Go.Proofs.Any.slices_Sort_int_none Go.Proofs.Try.lays189 p cap w) h1

theorem ok_slices_Compact_int_int {rn : Nat} {oq : Option Nat} {s : List Int} {r : List Int} (h : M.slices_Compact_int_int s = some r) (hoq : oq = none → s = []) : Does Try.prog 98 [optS 1 oq (List.length s)] (optH 1 oq (List.map encInt s)) rn (fun x H => ∃ (ob0_ : Option Nat), (ob0_ = none → r = []) ∧ x = optS 1 ob0_ (List.length r) ∧ H = optH 1 ob0_ (List.map encInt r)) := by
 have hm0 := h; clear h; unfold M.slices_Compact_int_int at hm0
 try dsimp only at hm0
 refine Does.intro (N := 61) Try.func98 rfl rfl rfl rfl ?_
 intro w0 S0
 rcases oq with _ | oq
 ·
  refine V.seq (V.region (VO.cons rfl (V1.as ?_)))
  refine VO.nil (V.seq (V.seq (V.region (VO.cons rfl (V1.mv ?_)))))
  refine VO.cons rfl (V1.lenNilsE (l := s) (hoq rfl) rfl rfl rfl rfl rfl rfl isl_69 lt0 ?_)
  refine VO.cons rfl (V1.it ?_)
  refine VO.nil (V.cond rfl (fun hc0 => ?_) (fun hc0 => ?_))
  ·
   replace hm0 := cond_t hc0 hm0
   refine V.seq (V.region (VO.cons rfl (V1.mv ?_)))
   refine VO.cons rfl (V1.as ?_)
   refine VO.nil (V.keep 61 [2] [] (E0 := [(2, .nils)]) (H0 := []) rfl (⟨_, _, rfl, rfl, rfl⟩) (rfl) rfl ?_)
   refine V.ret ?_
   obtain rfl := oi hm0
   exact ⟨_, _, ⟨_, _, rfl, rfl, rfl⟩, List.Sublist.refl _, none, (fun _ => (hoq rfl)), rfl, rfl⟩
  ·
   replace hm0 := cond_f hc0 hm0
   exfalso
   obtain rfl := hoq rfl; simp at hc0
 ·
  refine V.seq (V.region (VO.cons rfl (V1.as ?_)))
  refine VO.nil (V.seq (V.seq (V.region (VO.cons rfl (V1.mv ?_)))))
  refine VO.cons rfl (V1.lenSref rfl rfl rfl rfl rfl rfl isl_69 lt0 ?_)
  refine VO.cons rfl (V1.it ?_)
  refine VO.nil (V.cond rfl (fun hc0 => ?_) (fun hc0 => ?_))
  ·
   replace hm0 := cond_t hc0 hm0
   refine V.seq (V.region (VO.cons rfl (V1.mv ?_)))
   refine VO.cons rfl (V1.as ?_)
   refine VO.nil (V.keep 61 [2] [0] (E0 := [(2, .sref oq 1 0 (List.length s))]) (H0 := [(oq, ⟨1, List.map encInt s⟩)]) rfl (⟨_, _, rfl, rfl, rfl⟩) (⟨_, _, rfl, rfl, rfl⟩) rfl ?_)
   refine V.ret ?_
   obtain rfl := oi hm0
   exact ⟨_, _, ⟨_, _, rfl, rfl, rfl⟩, List.Sublist.refl _, some oq, (fun e => by cases e), rfl, rfl⟩
  ·
   replace hm0 := cond_f hc0 hm0
   refine V.skip ?_
   refine V.keep 61 [0] [0] (E0 := [(0, .sref oq 1 0 (List.length s))]) (H0 := [(oq, ⟨1, List.map encInt s⟩)]) rfl (⟨_, _, rfl, rfl, rfl⟩) (⟨_, _, rfl, rfl, rfl⟩) rfl ?_
   refine V.seq (V.seq (V.region (VO.cons rfl (V1.as ?_))))
   refine VO.nil ?_
   replace hm0 := bindO hm0; rcases hm0 with ⟨e0, he1, hm0⟩
   refine V.cutT (D := (Unit) × (Unit)) (fun ⟨_, _⟩ => ⟨61, [(0, .sref oq 1 0 (List.length s))], [(oq, ⟨1, List.map encInt s⟩)]⟩) (fun ⟨_, _⟩ => (.inl () = e0)) ?_ ?_
   ·
    refine V.block ?_
    refine V.keep 61 [3, 0] [0] (E0 := [(3, .int .i64 (1 : Int)), (0, .sref oq 1 0 (List.length s))]) (H0 := [(oq, ⟨1, List.map encInt s⟩)]) rfl (⟨_, _, rfl, rfl, ⟨_, _, rfl, rfl, rfl⟩⟩) (⟨_, _, rfl, rfl, rfl⟩) rfl ?_
    refine V.loopE (D := Nat × (Int) × (Unit)) (fun ⟨n0, k, _⟩ => [(3, .int .i64 k)]) (fun ⟨n0, k, _⟩ => []) (fun ⟨n0, k, _⟩ => loopO (M.slices_Compact_int_int_l0 s) n0 k = some e0) (fun ⟨n0, _, _⟩ => n0) (rounds, (1 : Int), ()) rfl he1 ?_
    rintro ⟨n0, k, _⟩ hP0
    obtain ⟨m0, y0, rfl, hm1, hl1, hr1⟩ := loop_head hP0
    unfold M.slices_Compact_int_int_l0 at hm1; dsimp only at hm1
    show V _ _ _ ⟨61, [(3, .int .i64 k), (0, .sref oq 1 0 (List.length s))], [(oq, ⟨1, List.map encInt s⟩)]⟩
    refine V.seq (V.seq (V.region (VO.cons rfl (V1.mv ?_))))
    refine VO.cons rfl (V1.mv ?_)
    refine VO.cons rfl (V1.lenSref rfl rfl rfl rfl rfl rfl isl_69 lt0 ?_)
    refine VO.cons rfl (V1.it ?_)
    refine VO.nil (V.cond rfl (fun hc1 => ?_) (fun hc1 => ?_))
    ·
     replace hm1 := cond_t hc1 hm1
     refine V.skip ?_
     refine V.keep 61 [0, 3] [0] (E0 := [(0, .sref oq 1 0 (List.length s)), (3, .int .i64 k)]) (H0 := [(oq, ⟨1, List.map encInt s⟩)]) rfl (⟨_, _, rfl, rfl, ⟨_, _, rfl, rfl, rfl⟩⟩) (⟨_, _, rfl, rfl, rfl⟩) rfl ?_
     refine V.seq (V.block ?_)
     refine V.seq ?_
     replace hm1 := asrt_some hm1; rcases hm1 with ⟨hh0, hm1⟩
     replace hm1 := asrt_some hm1; rcases hm1 with ⟨hh1, hm1⟩
     refine V.regionM 61 9 [⟨[(0, none)], [], none⟩, ⟨[(3, none)], [], none⟩, ⟨[(16, some 1), (17, some 0)], [], none⟩, ⟨[(18, some 0)], [], none⟩, ⟨[(0, none)], [], none⟩, ⟨[(3, none)], [], none⟩, ⟨[(21, some 0)], [], none⟩, ⟨[(20, some 2), (22, some 0)], [], none⟩, ⟨[(23, some 0)], [], none⟩] [(0, none), (3, none), (19, some 5), (24, some 0)] (⟨_, rfl, ⟨_, rfl, ⟨_, rfl, ⟨_, rfl, ⟨_, rfl, ⟨_, rfl, ⟨_, rfl, ⟨_, rfl, ⟨_, rfl, ⟨rfl, rfl⟩⟩⟩⟩⟩⟩⟩⟩⟩⟩) mixed_orders rfl (by decide +kernel) (fun hck6 => ?_)
     refine VP.step (p := ?pv649) rfl rfl rfl (⟨_, _, rfl, rfl, rfl⟩) ?hv649 ?rest649 hck6
     case hv649 =>
      intro E1
      refine (V1.mv ?_)
      exact rfl
     refine VP.step (p := ?pv650) rfl rfl rfl (⟨_, _, rfl, rfl, rfl⟩) ?hv650 ?rest650 hck6
     case hv650 =>
      intro E1
      refine (V1.mv ?_)
      exact rfl
     refine VP.step (p := ?pv651) rfl rfl rfl (⟨_, _, rfl, rfl, ⟨_, _, rfl, rfl, rfl⟩⟩) ?hv651 ?rest651 hck6
     case hv651 =>
      intro E1
      refine (V1.indexSr rfl rfl esz_69 rfl rfl hh0 lt0 ?_)
      exact rfl
     refine VP.step (p := ?pv652) rfl rfl rfl (⟨_, _, rfl, rfl, rfl⟩) ?hv652 ?rest652 hck6
     case hv652 =>
      intro E1
      refine (V1.loadMap (k := 0) (f := encInt) rfl rfl tyk_3 rfl rfl (by simpa using natLt hh0.1 hh0.2) rfl lt0 ?_)
      exact rfl
     refine VP.step (p := ?pv653) rfl rfl rfl (⟨_, _, rfl, rfl, rfl⟩) ?hv653 ?rest653 hck6
     case hv653 =>
      intro E1
      refine (V1.mv ?_)
      exact rfl
     refine VP.step (p := ?pv654) rfl rfl rfl (⟨_, _, rfl, rfl, rfl⟩) ?hv654 ?rest654 hck6
     case hv654 =>
      intro E1
      refine (V1.mv ?_)
      exact rfl
     refine VP.step (p := ?pv655) rfl rfl rfl (⟨_, _, rfl, rfl, rfl⟩) ?hv655 ?rest655 hck6
     case hv655 =>
      intro E1
      refine (V1.it ?_)
      exact rfl
     refine VP.step (p := ?pv656) rfl rfl rfl (⟨_, _, rfl, rfl, ⟨_, _, rfl, rfl, rfl⟩⟩) ?hv656 ?rest656 hck6
     case hv656 =>
      intro E1
      refine (V1.indexSr rfl rfl esz_69 rfl rfl hh1 lt0 ?_)
      exact rfl
     refine VP.step (p := ?pv657) rfl rfl rfl (⟨_, _, rfl, rfl, rfl⟩) ?hv657 ?rest657 hck6
     case hv657 =>
      intro E1
      refine (V1.loadMap (k := 0) (f := encInt) rfl rfl tyk_3 rfl rfl (by simpa using natLt hh1.1 hh1.2) rfl lt0 ?_)
      exact rfl
     refine VP.fin rfl (⟨_, _, rfl, rfl, ⟨_, _, rfl, rfl, ⟨_, _, rfl, rfl, ⟨_, _, rfl, rfl, rfl⟩⟩⟩⟩) ?_
     refine VO.cons rfl (V1.it ?_)
     refine VO.nil (V.cond rfl (fun hc2 => ?_) (fun hc2 => ?_))
     ·
      replace hm1 := cond_t hc2 hm1
      refine V.seq ?_
      replace hm1 := asrt_some hm1; rcases hm1 with ⟨hh2, hm1⟩
      refine V.region (VO.cons rfl (V1.mv ?_))
      refine VO.cons rfl (V1.mv ?_)
      refine VO.cons rfl (V1.sliceSw (a := k) (c := (((List.length s) : Nat) : Int)) rfl rfl esz_69 rfl (Bnd.some rfl hh2.1 _) (Bnd.none _ _) hh2 lt0 ?_)
      refine VO.cons rfl (V1.as ?_)
      refine VO.nil (V.keep 61 [0, 3, 4] [0] (E0 := [(0, .sref oq 1 0 (List.length s)), (3, .int .i64 k), (4, .sref oq 1 (0 + Int.toNat k) (Int.toNat (((List.length s) : Nat) : Int) - Int.toNat k))]) (H0 := [(oq, ⟨1, List.map encInt s⟩)]) rfl (⟨_, _, rfl, rfl, ⟨_, _, rfl, rfl, ⟨_, _, rfl, rfl, rfl⟩⟩⟩) (⟨_, _, rfl, rfl, rfl⟩) rfl ?_)
      refine V.seq (V.seq (V.region (VO.cons rfl (V1.as ?_))))
      refine VO.nil ?_
      replace hm1 := bindO hm1; rcases hm1 with ⟨e1, he2, hm1⟩
      refine V.cutT (D := (List Int × Int) × (Unit)) (fun ⟨⟨s0, k0⟩, _⟩ => ⟨61, [(0, .sref oq 1 0 (List.length s0)), (3, .int .i64 k0)], [(oq, ⟨1, List.map encInt s0⟩)]⟩) (fun ⟨⟨s0, k0⟩, _⟩ => ((s0, k0) = e1)) ?_ ?_
      ·
       refine V.block ?_
       refine V.keep 61 [0, 3, 5, 4] [0] (E0 := [(0, .sref oq 1 0 (List.length s)), (3, .int .i64 k), (5, .int .i64 (1 : Int)), (4, .sref oq 1 (0 + Int.toNat k) (Int.toNat (((List.length s) : Nat) : Int) - Int.toNat k))]) (H0 := [(oq, ⟨1, List.map encInt s⟩)]) rfl (⟨_, _, rfl, rfl, ⟨_, _, rfl, rfl, ⟨_, _, rfl, rfl, ⟨_, _, rfl, rfl, rfl⟩⟩⟩⟩) (⟨_, _, rfl, rfl, rfl⟩) rfl ?_
       refine V.loopE (D := Nat × (List Int × Int × Int) × (Unit)) (fun ⟨n1, ⟨s1, k1, k2⟩, _⟩ => [(0, .sref oq 1 0 (List.length s1)), (3, .int .i64 k1), (5, .int .i64 k2)]) (fun ⟨n1, ⟨s1, k1, k2⟩, _⟩ => [(oq, ⟨1, List.map encInt s1⟩)]) (fun ⟨n1, ⟨s1, k1, k2⟩, _⟩ => loopO (M.slices_Compact_int_int_l1 s k) n1 (s1, k1, k2) = some e1) (fun ⟨n1, _, _⟩ => n1) (rounds, (s, k, (1 : Int)), ()) rfl he2 ?_
       rintro ⟨n1, ⟨s1, k1, k2⟩, _⟩ hP1
       obtain ⟨m1, y1, rfl, hm2, hl2, hr2⟩ := loop_head hP1
       unfold M.slices_Compact_int_int_l1 at hm2; dsimp only at hm2
       show V _ _ _ ⟨61, [(0, .sref oq 1 0 (List.length s1)), (3, .int .i64 k1), (5, .int .i64 k2), (4, .sref oq 1 (0 + Int.toNat k) (Int.toNat (((List.length s) : Nat) : Int) - Int.toNat k))], [(oq, ⟨1, List.map encInt s1⟩)]⟩
       refine V.seq (V.seq (V.region (VO.cons rfl (V1.mv ?_))))
       refine VO.cons rfl (V1.mv ?_)
       refine VO.cons rfl (V1.lenSref rfl rfl rfl rfl rfl rfl isl_69 lt0 ?_)
       refine VO.cons rfl (V1.it ?_)
       refine VO.nil (V.cond rfl (fun hc3 => ?_) (fun hc3 => ?_))
       ·
        replace hm2 := cond_t hc3 hm2
        refine V.skip ?_
        refine V.keep 61 [0, 3, 4, 5] [0] (E0 := [(0, .sref oq 1 0 (List.length s1)), (3, .int .i64 k1), (4, .sref oq 1 (0 + Int.toNat k) (Int.toNat (((List.length s) : Nat) : Int) - Int.toNat k)), (5, .int .i64 k2)]) (H0 := [(oq, ⟨1, List.map encInt s1⟩)]) rfl (⟨_, _, rfl, rfl, ⟨_, _, rfl, rfl, ⟨_, _, rfl, rfl, ⟨_, _, rfl, rfl, rfl⟩⟩⟩⟩) (⟨_, _, rfl, rfl, rfl⟩) rfl ?_
        refine V.seq ?_
        replace hm2 := bindO hm2; rcases hm2 with ⟨j0, hm3, hm2⟩
        refine V.cutT (D := (List Int × Int) × (Unit)) (fun ⟨⟨s2, k3⟩, _⟩ => ⟨61, [(0, .sref oq 1 0 (List.length s2)), (3, .int .i64 k3), (4, .sref oq 1 (0 + Int.toNat k) (Int.toNat (((List.length s) : Nat) : Int) - Int.toNat k)), (5, .int .i64 k2)], [(oq, ⟨1, List.map encInt s2⟩)]⟩) (fun ⟨⟨s2, k3⟩, _⟩ => ((s2, k3) = j0)) ?_ ?_
        ·
         refine V.block ?_
         refine V.seq ?_
         replace hm3 := asrt_some hm3; rcases hm3 with ⟨hh3, hm3⟩
         replace hm3 := asrt_some hm3; rcases hm3 with ⟨hh4, hm3⟩
         replace hm3 := asrt_some hm3; rcases hm3 with ⟨hh5, hm3⟩
         replace hm3 := asrt_some hm3; rcases hm3 with ⟨hh6, hm3⟩
         refine V.regionM 61 9 [⟨[(4, none)], [], none⟩, ⟨[(5, none)], [], none⟩, ⟨[(35, some 1), (36, some 0)], [], none⟩, ⟨[(37, some 0)], [], none⟩, ⟨[(4, none)], [], none⟩, ⟨[(5, none)], [], none⟩, ⟨[(40, some 0)], [], none⟩, ⟨[(39, some 2), (41, some 0)], [], none⟩, ⟨[(42, some 0)], [], none⟩] [(0, none), (3, none), (4, none), (5, none), (38, some 5), (43, some 0)] (⟨_, rfl, ⟨_, rfl, ⟨_, rfl, ⟨_, rfl, ⟨_, rfl, ⟨_, rfl, ⟨_, rfl, ⟨_, rfl, ⟨_, rfl, ⟨rfl, rfl⟩⟩⟩⟩⟩⟩⟩⟩⟩⟩) mixed_orders rfl (by decide +kernel) (fun hck11 => ?_)
         refine VP.step (p := ?pv721) rfl rfl rfl (⟨_, _, rfl, rfl, rfl⟩) ?hv721 ?rest721 hck11
         case hv721 =>
          intro E1
          refine (V1.mv ?_)
          exact rfl
         refine VP.step (p := ?pv722) rfl rfl rfl (⟨_, _, rfl, rfl, rfl⟩) ?hv722 ?rest722 hck11
         case hv722 =>
          intro E1
          refine (V1.mv ?_)
          exact rfl
         refine VP.step (p := ?pv723) rfl rfl rfl (⟨_, _, rfl, rfl, ⟨_, _, rfl, rfl, rfl⟩⟩) ?hv723 ?rest723 hck11
         case hv723 =>
          intro E1
          refine (V1.indexSw rfl rfl esz_69 rfl rfl hh3 lt0 ?_)
          exact rfl
         refine VP.step (p := ?pv724) rfl rfl rfl (⟨_, _, rfl, rfl, rfl⟩) ?hv724 ?rest724 hck11
         case hv724 =>
          intro E1
          refine (V1.loadMap (k := 0) (f := encInt) rfl rfl tyk_3 rfl rfl hh4 rfl lt0 ?_)
          exact rfl
         refine VP.step (p := ?pv725) rfl rfl rfl (⟨_, _, rfl, rfl, rfl⟩) ?hv725 ?rest725 hck11
         case hv725 =>
          intro E1
          refine (V1.mv ?_)
          exact rfl
         refine VP.step (p := ?pv726) rfl rfl rfl (⟨_, _, rfl, rfl, rfl⟩) ?hv726 ?rest726 hck11
         case hv726 =>
          intro E1
          refine (V1.mv ?_)
          exact rfl
         refine VP.step (p := ?pv727) rfl rfl rfl (⟨_, _, rfl, rfl, rfl⟩) ?hv727 ?rest727 hck11
         case hv727 =>
          intro E1
          refine (V1.it ?_)
          exact rfl
         refine VP.step (p := ?pv728) rfl rfl rfl (⟨_, _, rfl, rfl, ⟨_, _, rfl, rfl, rfl⟩⟩) ?hv728 ?rest728 hck11
         case hv728 =>
          intro E1
          refine (V1.indexSw rfl rfl esz_69 rfl rfl hh5 lt0 ?_)
          exact rfl
         refine VP.step (p := ?pv729) rfl rfl rfl (⟨_, _, rfl, rfl, rfl⟩) ?hv729 ?rest729 hck11
         case hv729 =>
          intro E1
          refine (V1.loadMap (k := 0) (f := encInt) rfl rfl tyk_3 rfl rfl hh6 rfl lt0 ?_)
          exact rfl
         refine VP.fin rfl (⟨_, _, rfl, rfl, ⟨_, _, rfl, rfl, ⟨_, _, rfl, rfl, ⟨_, _, rfl, rfl, ⟨_, _, rfl, rfl, ⟨_, _, rfl, rfl, rfl⟩⟩⟩⟩⟩⟩) ?_
         refine VO.cons rfl (V1.it ?_)
         refine VO.nil (V.cond rfl (fun hc4 => ?_) (fun hc4 => ?_))
         ·
          replace hm3 := cond_t hc4 hm3
          refine V.seq ?_
          replace hm3 := asrt_some hm3; rcases hm3 with ⟨hh7, hm3⟩
          replace hm3 := asrt_some hm3; rcases hm3 with ⟨hh8, hm3⟩
          replace hm3 := asrt_some hm3; rcases hm3 with ⟨hh9, hm3⟩
          refine V.region (VO.cons rfl (V1.mv ?_))
          refine VO.cons rfl (V1.mv ?_)
          refine VO.cons rfl (V1.mv ?_)
          refine VO.cons rfl (V1.mv ?_)
          refine VO.cons rfl (V1.indexSw rfl rfl esz_69 rfl rfl hh7 lt0 ?_)
          refine VO.cons rfl (V1.loadMap (k := 0) (f := encInt) rfl rfl tyk_3 rfl rfl hh8 rfl lt0 ?_)
          refine VO.cons rfl (V1.indexSr rfl rfl esz_69 rfl rfl hh9 lt0 ?_)
          refine VO.cons rfl (V1.storeMap (k := 0) (f := encInt) (x := (s1.getD ((0 + Int.toNat k) + Int.toNat k2) default)) rfl rfl tyk_3 rfl rfl (by simpa using natLt hh9.1 hh9.2) rfl rfl ?_)
          refine VO.weakenK (Keeps.say 0 (y := .sref oq 1 0 (List.length (s1.set (Int.toNat k1) (s1.getD ((0 + Int.toNat k) + Int.toNat k2) default)))) rfl (by simp [optS])) ?_
          refine VO.nil (V.keep 61 [0, 3, 4, 5] [0] (E0 := [(0, .sref oq 1 0 (List.length (s1.set (Int.toNat k1) (s1.getD ((0 + Int.toNat k) + Int.toNat k2) default)))), (3, .int .i64 k1), (4, .sref oq 1 (0 + Int.toNat k) (Int.toNat (((List.length s) : Nat) : Int) - Int.toNat k)), (5, .int .i64 k2)]) (H0 := [(oq, ⟨1, List.map encInt (s1.set (Int.toNat k1) (s1.getD ((0 + Int.toNat k) + Int.toNat k2) default))⟩)]) rfl (⟨_, _, rfl, rfl, ⟨_, _, rfl, rfl, ⟨_, _, rfl, rfl, ⟨_, _, rfl, rfl, rfl⟩⟩⟩⟩) (⟨_, _, rfl, rfl, rfl⟩) rfl ?_)
          refine V.region (VO.cons rfl (V1.mv ?_))
          refine VO.cons rfl (V1.it ?_)
          refine VO.cons rfl (V1.as ?_)
          refine VO.nil ?_
          exact ⟨(((s1.set (Int.toNat k1) (s1.getD ((0 + Int.toNat k) + Int.toNat k2) default)), (IntKind.i64.wrap (k1 + (1 : Int)))), ()), oi hm3, Keeps.mk (ks := [0]) rfl ⟨(someSref (by simp)), rfl, rfl, rfl, trivial⟩ (⟨_, _, rfl, rfl, rfl⟩) rfl⟩
         ·
          replace hm3 := cond_f hc4 hm3
          refine V.skip ?_
          exact ⟨((s1, k1), ()), oi hm3, Keeps.mk (ks := [0]) rfl ⟨(someSref (by simp)), rfl, rfl, rfl, trivial⟩ (⟨_, _, rfl, rfl, rfl⟩) rfl⟩
        ·
         rintro ⟨⟨s2, k3⟩, _⟩ rfl
         try dsimp only at hm2
         refine V.region (VO.cons rfl (V1.mv ?_))
         refine VO.cons rfl (V1.it ?_)
         refine VO.cons rfl (V1.as ?_)
         refine VO.nil ?_
         exact ⟨(m1, (s2, k3, (IntKind.i64.wrap (k2 + (1 : Int)))), ()), hl2 _ (oi hm2).symm, Nat.lt_succ_self _, Keeps.mk (ks := [0]) rfl ⟨(someSref (by simp)), rfl, rfl, rfl, trivial⟩ (⟨_, _, rfl, rfl, rfl⟩) rfl⟩
       ·
        replace hm2 := cond_f hc3 hm2
        refine V.exit ?_
        obtain rfl := hr2 _ (oi hm2).symm
        exact ⟨((s1, k1), ()), rfl, Keeps.mk (ks := [0]) rfl ⟨(someSref (by simp)), rfl, trivial⟩ (⟨_, _, rfl, rfl, rfl⟩) rfl⟩
      ·
       rintro ⟨⟨s0, k0⟩, _⟩ rfl
       try dsimp only at hm1
       refine V.seq ?_
       replace hm1 := asrt_some hm1; rcases hm1 with ⟨hh10, hm1⟩
       replace hm1 := asrt_some hm1; rcases hm1 with ⟨hh11, hm1⟩
       refine V.region (VO.cons rfl (V1.mv ?_))
       refine VO.cons rfl (V1.mv ?_)
       refine VO.cons rfl (V1.sliceSw (a := k0) (c := (((List.length s0) : Nat) : Int)) rfl rfl esz_69 rfl (Bnd.some rfl hh10.1 _) (Bnd.none _ _) hh10 lt0 ?_)
       refine VO.cons rfl (V1.clearSw (k := 0) (f := encInt) (l := s0) (z := (0 : Int)) rfl rfl rfl rfl rfl esz_69 zk_3 .same rfl rfl hh11 ?_)
       refine VO.weakenK (Keeps.say 0 (y := .sref oq 1 0 (List.length (List.take (0 + Int.toNat k0) s0 ++ List.replicate (Int.toNat (((List.length s0) : Nat) : Int) - Int.toNat k0) (0 : Int) ++ List.drop ((0 + Int.toNat k0) + (Int.toNat (((List.length s0) : Nat) : Int) - Int.toNat k0)) s0))) rfl (congrArg (PV.sref oq 1 0) (segLen (z := (0 : Int)) hh11))) ?_
       refine VO.nil (V.seq ?_)
       replace hm1 := asrt_some hm1; rcases hm1 with ⟨hh12, hm1⟩
       refine V.region (VO.cons rfl (V1.mv ?_))
       refine VO.cons rfl (V1.mv ?_)
       refine VO.cons rfl (V1.sliceSw (a := (0 : Int)) (c := k0) rfl rfl esz_69 rfl (Bnd.none _ _) (Bnd.some rfl (Int.le_trans hh12.1 hh12.2.1) _) hh12 lt0 ?_)
       refine VO.cons rfl (V1.as ?_)
       refine VO.nil ?_
       replace hm1 := asrt_some hm1; rcases hm1 with ⟨hh13, hm1⟩
       refine V.weakenK (Keeps.cut 2 0 (Int.toNat k0 - Int.toNat (0 : Int)) (f := encInt) (l := (List.take (0 + Int.toNat k0) s0 ++ List.replicate (Int.toNat (((List.length s0) : Nat) : Int) - Int.toNat k0) (0 : Int) ++ List.drop ((0 + Int.toNat k0) + (Int.toNat (((List.length s0) : Nat) : Int) - Int.toNat k0)) s0)) rfl rfl hh13) ?_
       refine V.keep 61 [2] [0] (E0 := [(2, .sref oq 1 0 (List.length (List.take (Int.toNat k0 - Int.toNat (0 : Int)) (List.take (0 + Int.toNat k0) s0 ++ List.replicate (Int.toNat (((List.length s0) : Nat) : Int) - Int.toNat k0) (0 : Int) ++ List.drop ((0 + Int.toNat k0) + (Int.toNat (((List.length s0) : Nat) : Int) - Int.toNat k0)) s0))))]) (H0 := [(oq, ⟨1, List.map encInt (List.take (Int.toNat k0 - Int.toNat (0 : Int)) (List.take (0 + Int.toNat k0) s0 ++ List.replicate (Int.toNat (((List.length s0) : Nat) : Int) - Int.toNat k0) (0 : Int) ++ List.drop ((0 + Int.toNat k0) + (Int.toNat (((List.length s0) : Nat) : Int) - Int.toNat k0)) s0))⟩)]) rfl (⟨_, _, rfl, rfl, rfl⟩) (⟨_, _, rfl, rfl, rfl⟩) rfl ?_
       refine V.ret ?_
       obtain rfl := hr1 _ (oi hm1).symm
       change some _ = some _ at hm0
       obtain rfl := oi hm0
       exact ⟨_, _, ⟨_, _, rfl, rfl, rfl⟩, List.Sublist.refl _, some oq, (fun e => by cases e), rfl, rfl⟩
     ·
      replace hm1 := cond_f hc2 hm1
      refine V.skip ?_
      refine V.region (VO.cons rfl (V1.mv ?_))
      refine VO.cons rfl (V1.it ?_)
      refine VO.cons rfl (V1.as ?_)
      refine VO.nil ?_
      exact ⟨(m0, (IntKind.i64.wrap (k + (1 : Int))), ()), hl1 _ (oi hm1).symm, Nat.lt_succ_self _, Keeps.mk (ks := [0]) rfl ⟨rfl, rfl, trivial⟩ (⟨_, _, rfl, rfl, rfl⟩) rfl⟩
    ·
     replace hm1 := cond_f hc1 hm1
     refine V.exit ?_
     obtain rfl := hr1 _ (oi hm1).symm
     exact ⟨((), ()), rfl, Keeps.mk (ks := [0]) rfl ⟨rfl, trivial⟩ (⟨_, _, rfl, rfl, rfl⟩) rfl⟩
   ·
    rintro ⟨_, _⟩ rfl
    try dsimp only at hm0
    refine V.seq (V.region (VO.cons rfl (V1.mv ?_)))
    refine VO.cons rfl (V1.as ?_)
    refine VO.nil (V.keep 61 [2] [0] (E0 := [(2, .sref oq 1 0 (List.length s))]) (H0 := [(oq, ⟨1, List.map encInt s⟩)]) rfl (⟨_, _, rfl, rfl, rfl⟩) (⟨_, _, rfl, rfl, rfl⟩) rfl ?_)
    refine V.ret ?_
    obtain rfl := oi hm0
    exact ⟨_, _, ⟨_, _, rfl, rfl, rfl⟩, List.Sublist.refl _, some oq, (fun e => by cases e), rfl, rfl⟩

theorem ok_impl_rulesFor {ρ0 rn : Nat} {list : List Rule} {series : Int} {r : List Rule} (h : M.impl_rulesFor list series = some r) : Does Try.prog 101 [.vl ρ0 4 (List.map encRule list), .int .i64 series] [] rn (fun x H => ∃ (ob0_ : Option Nat), (ob0_ = none → r = []) ∧ x = optS 4 ob0_ (List.length r) ∧ H = optH 4 ob0_ (List.map encRule r)) := by
 have hm0 := h; clear h; unfold M.impl_rulesFor at hm0
 try dsimp only at hm0
 refine Does.intro (N := 24) Try.func101 rfl rfl rfl rfl ?_
 intro w0 S0
 refine V.seq (V.region (VO.cons rfl (V1.as ?_)))
 refine VO.nil (V.seq (V.region (VO.cons rfl (V1.as ?_))))
 refine VO.nil (V.seq (V.seq (V.region (VO.cons rfl (V1.mv ?_)))))
 refine VO.cons rfl (V1.lenMap rfl rfl rfl rfl rfl rfl isl_58 lt0 ?_)
 refine VO.cons rfl (V1.mv ?_)
 refine VO.nil ?_
 replace hm0 := bindO hm0; rcases hm0 with ⟨e0, he1, hm0⟩
 refine V.cutT (D := (List Rule) × (Option Nat)) (fun ⟨out_, ob0⟩ => ⟨24, [(5, optS 4 ob0 (List.length out_))], optH 4 ob0 (List.map encRule out_)⟩) (fun ⟨out_, ob0⟩ => (out_ = e0) ∧ (ob0 = none → out_ = [])) ?_ ?_
 ·
  refine V.block ?_
  refine V.keep 24 [5, 10, 1, 8, 9] [] (E0 := [(5, .nils), (10, .int .i64 (0 : Int)), (1, .int .i64 series), (8, .vl ρ0 4 (List.map encRule list)), (9, .int .i64 (list.length : Int))]) (H0 := []) rfl (⟨_, _, rfl, rfl, ⟨_, _, rfl, rfl, ⟨_, _, rfl, rfl, ⟨_, _, rfl, rfl, ⟨_, _, rfl, rfl, rfl⟩⟩⟩⟩⟩) (rfl) rfl ?_
  refine V.loopE (D := Nat × (List Rule × Int) × (Option Nat)) (fun ⟨n0, ⟨out_0, v⟩, ob1⟩ => [(5, optS 4 ob1 (List.length out_0)), (10, .int .i64 v)]) (fun ⟨n0, ⟨out_0, v⟩, ob1⟩ => optH 4 ob1 (List.map encRule out_0)) (fun ⟨n0, ⟨out_0, v⟩, ob1⟩ => loopO (M.impl_rulesFor_l0 list series) n0 (out_0, v) = some e0 ∧ (ob1 = none → out_0 = [])) (fun ⟨n0, _, _⟩ => n0) (rounds, (([] : List Rule), (0 : Int)), none) rfl ⟨he1, (fun _ => rfl)⟩ ?_
  rintro ⟨n0, ⟨out_0, v⟩, ob1⟩ ⟨hP0, hob1⟩
  obtain ⟨m0, y0, rfl, hm1, hl1, hr1⟩ := loop_head hP0
  unfold M.impl_rulesFor_l0 at hm1; dsimp only at hm1
  rcases ob1 with _ | ob1
  ·
   replace hob1 := hob1 rfl
   show V _ _ _ ⟨24, [(5, .nils), (10, .int .i64 v), (1, .int .i64 series), (8, .vl ρ0 4 (List.map encRule list)), (9, .int .i64 (list.length : Int))], []⟩
   refine V.seq (V.region (VO.cons rfl (V1.it ?_)))
   refine VO.nil (V.seq (V.cond rfl (fun hc0 => ?_) (fun hc0 => ?_)))
   ·
    replace hm1 := cond_t hc0 hm1
    refine V.skip ?_
    refine V.seq ?_
    replace hm1 := bindO hm1; rcases hm1 with ⟨j0, hm2, hm1⟩
    refine V.cutT (D := (List Rule) × (Option Nat)) (fun ⟨out_1, ob2⟩ => ⟨24, [(5, optS 4 ob2 (List.length out_1)), (1, .int .i64 series), (8, .vl ρ0 4 (List.map encRule list)), (9, .int .i64 (list.length : Int)), (10, .int .i64 v)], optH 4 ob2 (List.map encRule out_1)⟩) (fun ⟨out_1, ob2⟩ => (out_1 = j0) ∧ (ob2 = none → out_1 = [])) ?_ ?_
    ·
     refine V.block ?_
     refine V.seq ?_
     replace hm2 := asrt_some hm2; rcases hm2 with ⟨hh0, hm2⟩
     refine V.region (VO.cons rfl (V1.indexI rfl rfl esz_58 rfl rfl hh0 lt0 ?_))
     refine VO.cons rfl (V1.loadPinAll rfl rfl tyk_109 rfl rfl lt0 ?_)
     refine VO.cons rfl (V1.alloc rfl rfl zk_109 lt0 ?_)
     intro b0
     refine VO.cons rfl (V1.storeRefAll (k := 0) rfl rfl tyk_109 rfl rfl rfl rfl rfl rfl ?_)
     refine VO.nil (V.seq (V.region (VO.cons rfl (V1.fieldRef rfl rfl fo_109_0 rfl lt0 ?_))))
     refine VO.cons rfl (V1.loadRef (k := 0) rfl rfl tyk_3 rfl rfl rfl rfl rfl lt0 ?_)
     refine VO.cons rfl (V1.mv ?_)
     refine VO.cons rfl (V1.it ?_)
     refine VO.nil (V.keep 24 [1, 5, 7, 8, 9, 10, 17] [0] (E0 := [(1, .int .i64 series), (5, .nils), (7, .ref b0 4 0 0), (8, .vl ρ0 4 (List.map encRule list)), (9, .int .i64 (list.length : Int)), (10, .int .i64 v), (17, .bool (((list.getD (Int.toNat v) default).Series) == series))]) (H0 := [(b0, ⟨4, [encRule (list.getD (Int.toNat v) default)]⟩)]) rfl (⟨_, _, rfl, rfl, ⟨_, _, rfl, rfl, ⟨_, _, rfl, rfl, ⟨_, _, rfl, rfl, ⟨_, _, rfl, rfl, ⟨_, _, rfl, rfl, ⟨_, _, rfl, rfl, rfl⟩⟩⟩⟩⟩⟩⟩) (⟨_, _, rfl, rfl, rfl⟩) rfl ?_)
     refine V.cond rfl (fun hc1 => ?_) (fun hc1 => ?_)
     ·
      replace hm2 := cond_t hc1 hm2
      replace hm2 := asrt_some hm2; rcases hm2 with ⟨hh1, hm2⟩
      refine V.region (VO.cons rfl (V1.mv ?_))
      refine VO.cons rfl (V1.loadRefAll (k := 0) rfl rfl tyk_109 rfl rfl rfl rfl rfl lt0 ?_)
      refine VO.cons rfl (V1.buildSliceT (f := encRule) ([(list.getD (Int.toNat v) default)] : List Rule) rfl rfl esz_58 zk_109 rfl rfl rfl rfl rfl rfl rfl lt0 ?_)
      intro b1
      refine VO.cons rfl (V1.appendNilE (f := encRule) (l := out_0) (m := ([(list.getD (Int.toNat v) default)] : List Rule)) hob1 rfl rfl rfl rfl rfl esz_58 eby_58 zk_109 rfl rfl rfl (SrcOf.srMap (k := 0) rfl isl_58) rfl hh1 lt0 ?_)
      intro b2
      refine VO.cons rfl (V1.as ?_)
      refine VO.nil ?_
      exact ⟨((out_0 ++ ([(list.getD (Int.toNat v) default)] : List Rule)), (some b2)), ⟨oi hm2, (fun e => by cases e)⟩, Keeps.mk (ks := [0]) rfl ⟨rfl, rfl, rfl, rfl, rfl, trivial⟩ (⟨_, _, rfl, rfl, rfl⟩) rfl⟩
     ·
      replace hm2 := cond_f hc1 hm2
      refine V.skip ?_
      exact ⟨(out_0, none), ⟨oi hm2, (fun _ => hob1)⟩, Keeps.mk (ks := []) rfl ⟨rfl, rfl, rfl, rfl, rfl, trivial⟩ (rfl) rfl⟩
    ·
     rintro ⟨out_1, ob2⟩ ⟨rfl, hob2⟩
     try dsimp only at hm1
     rcases ob2 with _ | ob2
     ·
      replace hob2 := hob2 rfl
      refine V.region (VO.cons rfl (V1.it ?_))
      refine VO.cons rfl (V1.mv ?_)
      refine VO.nil ?_
      exact ⟨(m0, (out_1, (IntKind.i64.wrap (v + (1 : Int)))), none), ⟨hl1 _ (oi hm1).symm, (fun _ => hob2)⟩, Nat.lt_succ_self _, Keeps.mk (ks := []) rfl ⟨rfl, rfl, rfl, rfl, rfl, trivial⟩ (rfl) rfl⟩
     ·
      refine V.region (VO.cons rfl (V1.it ?_))
      refine VO.cons rfl (V1.mv ?_)
      refine VO.nil ?_
      exact ⟨(m0, (out_1, (IntKind.i64.wrap (v + (1 : Int)))), (some ob2)), ⟨hl1 _ (oi hm1).symm, (fun e => by cases e)⟩, Nat.lt_succ_self _, Keeps.mk (ks := [0]) rfl ⟨rfl, rfl, rfl, rfl, rfl, trivial⟩ (⟨_, _, rfl, rfl, rfl⟩) rfl⟩
   ·
    replace hm1 := cond_f hc0 hm1
    refine V.exit ?_
    obtain rfl := hr1 _ (oi hm1).symm
    exact ⟨(out_0, none), ⟨rfl, (fun _ => hob1)⟩, Keeps.mk (ks := []) rfl ⟨rfl, trivial⟩ (rfl) rfl⟩
  ·
   show V _ _ _ ⟨24, [(5, .sref ob1 4 0 (List.length out_0)), (10, .int .i64 v), (1, .int .i64 series), (8, .vl ρ0 4 (List.map encRule list)), (9, .int .i64 (list.length : Int))], [(ob1, ⟨4, List.map encRule out_0⟩)]⟩
   refine V.seq (V.region (VO.cons rfl (V1.it ?_)))
   refine VO.nil (V.seq (V.cond rfl (fun hc0 => ?_) (fun hc0 => ?_)))
   ·
    replace hm1 := cond_t hc0 hm1
    refine V.skip ?_
    refine V.seq ?_
    replace hm1 := bindO hm1; rcases hm1 with ⟨j0, hm2, hm1⟩
    refine V.cutT (D := (List Rule) × (Nat)) (fun ⟨out_1, b0⟩ => ⟨24, [(5, .sref b0 4 0 (List.length out_1)), (1, .int .i64 series), (8, .vl ρ0 4 (List.map encRule list)), (9, .int .i64 (list.length : Int)), (10, .int .i64 v)], [(b0, ⟨4, List.map encRule out_1⟩)]⟩) (fun ⟨out_1, b0⟩ => (out_1 = j0)) ?_ ?_
    ·
     refine V.block ?_
     refine V.seq ?_
     replace hm2 := asrt_some hm2; rcases hm2 with ⟨hh0, hm2⟩
     refine V.region (VO.cons rfl (V1.indexI rfl rfl esz_58 rfl rfl hh0 lt0 ?_))
     refine VO.cons rfl (V1.loadPinAll rfl rfl tyk_109 rfl rfl lt0 ?_)
     refine VO.cons rfl (V1.alloc rfl rfl zk_109 lt0 ?_)
     intro b1
     refine VO.cons rfl (V1.storeRefAll (k := 0) rfl rfl tyk_109 rfl rfl rfl rfl rfl rfl ?_)
     refine VO.nil (V.seq (V.region (VO.cons rfl (V1.fieldRef rfl rfl fo_109_0 rfl lt0 ?_))))
     refine VO.cons rfl (V1.loadRef (k := 0) rfl rfl tyk_3 rfl rfl rfl rfl rfl lt0 ?_)
     refine VO.cons rfl (V1.mv ?_)
     refine VO.cons rfl (V1.it ?_)
     refine VO.nil (V.keep 24 [1, 5, 7, 8, 9, 10, 17] [0, 1] (E0 := [(1, .int .i64 series), (5, .sref ob1 4 0 (List.length out_0)), (7, .ref b1 4 0 0), (8, .vl ρ0 4 (List.map encRule list)), (9, .int .i64 (list.length : Int)), (10, .int .i64 v), (17, .bool (((list.getD (Int.toNat v) default).Series) == series))]) (H0 := [(b1, ⟨4, [encRule (list.getD (Int.toNat v) default)]⟩), (ob1, ⟨4, List.map encRule out_0⟩)]) rfl (⟨_, _, rfl, rfl, ⟨_, _, rfl, rfl, ⟨_, _, rfl, rfl, ⟨_, _, rfl, rfl, ⟨_, _, rfl, rfl, ⟨_, _, rfl, rfl, ⟨_, _, rfl, rfl, rfl⟩⟩⟩⟩⟩⟩⟩) (⟨_, _, rfl, rfl, ⟨_, _, rfl, rfl, rfl⟩⟩) rfl ?_)
     refine V.cond rfl (fun hc1 => ?_) (fun hc1 => ?_)
     ·
      replace hm2 := cond_t hc1 hm2
      replace hm2 := asrt_some hm2; rcases hm2 with ⟨hh1, hm2⟩
      refine V.region (VO.cons rfl (V1.mv ?_))
      refine VO.cons rfl (V1.loadRefAll (k := 0) rfl rfl tyk_109 rfl rfl rfl rfl rfl lt0 ?_)
      refine VO.cons rfl (V1.buildSliceT (f := encRule) ([(list.getD (Int.toNat v) default)] : List Rule) rfl rfl esz_58 zk_109 rfl rfl rfl rfl rfl rfl rfl lt0 ?_)
      intro b2
      refine VO.cons rfl (V1.appendMap (k := 2) (f := encRule) (l := out_0) (m := ([(list.getD (Int.toNat v) default)] : List Rule)) rfl rfl rfl rfl rfl esz_58 eby_58 zk_109 rfl rfl rfl (SrcOf.srMap (k := 0) rfl isl_58) hh1 lt0 ?_)
      intro b3
      refine VO.cons rfl (V1.as ?_)
      refine VO.nil ?_
      exact ⟨((out_0 ++ ([(list.getD (Int.toNat v) default)] : List Rule)), b3), oi hm2, Keeps.mk (ks := [0]) rfl ⟨rfl, rfl, rfl, rfl, rfl, trivial⟩ (⟨_, _, rfl, rfl, rfl⟩) rfl⟩
     ·
      replace hm2 := cond_f hc1 hm2
      refine V.skip ?_
      exact ⟨(out_0, ob1), oi hm2, Keeps.mk (ks := [1]) rfl ⟨rfl, rfl, rfl, rfl, rfl, trivial⟩ (⟨_, _, rfl, rfl, rfl⟩) rfl⟩
    ·
     rintro ⟨out_1, b0⟩ rfl
     try dsimp only at hm1
     refine V.region (VO.cons rfl (V1.it ?_))
     refine VO.cons rfl (V1.mv ?_)
     refine VO.nil ?_
     exact ⟨(m0, (out_1, (IntKind.i64.wrap (v + (1 : Int)))), (some b0)), ⟨hl1 _ (oi hm1).symm, (fun e => by cases e)⟩, Nat.lt_succ_self _, Keeps.mk (ks := [0]) rfl ⟨rfl, rfl, rfl, rfl, rfl, trivial⟩ (⟨_, _, rfl, rfl, rfl⟩) rfl⟩
   ·
    replace hm1 := cond_f hc0 hm1
    refine V.exit ?_
    obtain rfl := hr1 _ (oi hm1).symm
    exact ⟨(out_0, (some ob1)), ⟨rfl, (fun e => by cases e)⟩, Keeps.mk (ks := [0]) rfl ⟨rfl, trivial⟩ (⟨_, _, rfl, rfl, rfl⟩) rfl⟩
 ·
  rintro ⟨out_, ob0⟩ ⟨rfl, hob0⟩
  try dsimp only at hm0
  rcases ob0 with _ | ob0
  ·
   replace hob0 := hob0 rfl
   refine V.seq (V.region (VO.cons rfl (V1.mv ?_)))
   refine VO.cons rfl (V1.as ?_)
   refine VO.nil (V.keep 24 [4] [] (E0 := [(4, .nils)]) (H0 := []) rfl (⟨_, _, rfl, rfl, rfl⟩) (rfl) rfl ?_)
   refine V.ret ?_
   obtain rfl := oi hm0
   exact ⟨_, _, ⟨_, _, rfl, rfl, rfl⟩, List.Sublist.refl _, none, (fun _ => hob0), rfl, rfl⟩
  ·
   refine V.seq (V.region (VO.cons rfl (V1.mv ?_)))
   refine VO.cons rfl (V1.as ?_)
   refine VO.nil (V.keep 24 [4] [0] (E0 := [(4, .sref ob0 4 0 (List.length out_))]) (H0 := [(ob0, ⟨4, List.map encRule out_⟩)]) rfl (⟨_, _, rfl, rfl, rfl⟩) (⟨_, _, rfl, rfl, rfl⟩) rfl ?_)
   refine V.ret ?_
   obtain rfl := oi hm0
   exact ⟨_, _, ⟨_, _, rfl, rfl, rfl⟩, List.Sublist.refl _, some ob0, (fun e => by cases e), rfl, rfl⟩

theorem okz_impl_rulesFor {ρ0 rn : Nat} {list : List Rule} {series : Int} {r : List Rule} (h : M.impl_rulesFor list series = some r) : Does Try.prog 101 [.vl ρ0 4 (List.map encRule list), .int .i64 series] [] rn (fun x H => x = .vl rn 4 (List.map encRule r) ∧ H = []) := by
 have hm0 := h; clear h; unfold M.impl_rulesFor at hm0
 try dsimp only at hm0
 refine Does.intro (N := 24) Try.func101 rfl rfl rfl rfl ?_
 intro w0 S0
 refine V.seq (V.region (VO.cons rfl (V1.as ?_)))
 refine VO.nil (V.seq (V.region (VO.cons rfl (V1.as ?_))))
 refine VO.nil (V.seq (V.seq (V.region (VO.cons rfl (V1.mv ?_)))))
 refine VO.cons rfl (V1.lenMap rfl rfl rfl rfl rfl rfl isl_58 lt0 ?_)
 refine VO.cons rfl (V1.mv ?_)
 refine VO.nil ?_
 replace hm0 := bindO hm0; rcases hm0 with ⟨e0, he1, hm0⟩
 refine V.cutT (D := (List Rule) × (Unit)) (fun ⟨out_, _⟩ => ⟨24, [(5, .vl rn 4 (List.map encRule out_))], []⟩) (fun ⟨out_, _⟩ => (out_ = e0)) ?_ ?_
 ·
  refine V.block ?_
  refine V.keep 24 [5, 10, 1, 8, 9] [] (E0 := [(5, .nils), (10, .int .i64 (0 : Int)), (1, .int .i64 series), (8, .vl ρ0 4 (List.map encRule list)), (9, .int .i64 (list.length : Int))]) (H0 := []) rfl (⟨_, _, rfl, rfl, ⟨_, _, rfl, rfl, ⟨_, _, rfl, rfl, ⟨_, _, rfl, rfl, ⟨_, _, rfl, rfl, rfl⟩⟩⟩⟩⟩) (rfl) rfl ?_
  refine V.loopE (D := Nat × (List Rule × Int) × (Option Nat)) (fun ⟨n0, ⟨out_0, v⟩, ob0⟩ => [(5, optS 4 ob0 (List.length out_0)), (10, .int .i64 v)]) (fun ⟨n0, ⟨out_0, v⟩, ob0⟩ => optH 4 ob0 (List.map encRule out_0)) (fun ⟨n0, ⟨out_0, v⟩, ob0⟩ => loopO (M.impl_rulesFor_l0 list series) n0 (out_0, v) = some e0 ∧ (ob0 = none → out_0 = [])) (fun ⟨n0, _, _⟩ => n0) (rounds, (([] : List Rule), (0 : Int)), none) rfl ⟨he1, (fun _ => rfl)⟩ ?_
  rintro ⟨n0, ⟨out_0, v⟩, ob0⟩ ⟨hP0, hob0⟩
  obtain ⟨m0, y0, rfl, hm1, hl1, hr1⟩ := loop_head hP0
  unfold M.impl_rulesFor_l0 at hm1; dsimp only at hm1
  rcases ob0 with _ | ob0
  ·
   replace hob0 := hob0 rfl
   show V _ _ _ ⟨24, [(5, .nils), (10, .int .i64 v), (1, .int .i64 series), (8, .vl ρ0 4 (List.map encRule list)), (9, .int .i64 (list.length : Int))], []⟩
   refine V.seq (V.region (VO.cons rfl (V1.it ?_)))
   refine VO.nil (V.seq (V.cond rfl (fun hc0 => ?_) (fun hc0 => ?_)))
   ·
    replace hm1 := cond_t hc0 hm1
    refine V.skip ?_
    refine V.seq ?_
    replace hm1 := bindO hm1; rcases hm1 with ⟨j0, hm2, hm1⟩
    refine V.cutT (D := (List Rule) × (Option Nat)) (fun ⟨out_1, ob1⟩ => ⟨24, [(5, optS 4 ob1 (List.length out_1)), (1, .int .i64 series), (8, .vl ρ0 4 (List.map encRule list)), (9, .int .i64 (list.length : Int)), (10, .int .i64 v)], optH 4 ob1 (List.map encRule out_1)⟩) (fun ⟨out_1, ob1⟩ => (out_1 = j0) ∧ (ob1 = none → out_1 = [])) ?_ ?_
    ·
     refine V.block ?_
     refine V.seq ?_
     replace hm2 := asrt_some hm2; rcases hm2 with ⟨hh0, hm2⟩
     refine V.region (VO.cons rfl (V1.indexI rfl rfl esz_58 rfl rfl hh0 lt0 ?_))
     refine VO.cons rfl (V1.loadPinAll rfl rfl tyk_109 rfl rfl lt0 ?_)
     refine VO.cons rfl (V1.alloc rfl rfl zk_109 lt0 ?_)
     intro b0
     refine VO.cons rfl (V1.storeRefAll (k := 0) rfl rfl tyk_109 rfl rfl rfl rfl rfl rfl ?_)
     refine VO.nil (V.seq (V.region (VO.cons rfl (V1.fieldRef rfl rfl fo_109_0 rfl lt0 ?_))))
     refine VO.cons rfl (V1.loadRef (k := 0) rfl rfl tyk_3 rfl rfl rfl rfl rfl lt0 ?_)
     refine VO.cons rfl (V1.mv ?_)
     refine VO.cons rfl (V1.it ?_)
     refine VO.nil (V.keep 24 [1, 5, 7, 8, 9, 10, 17] [0] (E0 := [(1, .int .i64 series), (5, .nils), (7, .ref b0 4 0 0), (8, .vl ρ0 4 (List.map encRule list)), (9, .int .i64 (list.length : Int)), (10, .int .i64 v), (17, .bool (((list.getD (Int.toNat v) default).Series) == series))]) (H0 := [(b0, ⟨4, [encRule (list.getD (Int.toNat v) default)]⟩)]) rfl (⟨_, _, rfl, rfl, ⟨_, _, rfl, rfl, ⟨_, _, rfl, rfl, ⟨_, _, rfl, rfl, ⟨_, _, rfl, rfl, ⟨_, _, rfl, rfl, ⟨_, _, rfl, rfl, rfl⟩⟩⟩⟩⟩⟩⟩) (⟨_, _, rfl, rfl, rfl⟩) rfl ?_)
     refine V.cond rfl (fun hc1 => ?_) (fun hc1 => ?_)
     ·
      replace hm2 := cond_t hc1 hm2
      replace hm2 := asrt_some hm2; rcases hm2 with ⟨hh1, hm2⟩
      refine V.region (VO.cons rfl (V1.mv ?_))
      refine VO.cons rfl (V1.loadRefAll (k := 0) rfl rfl tyk_109 rfl rfl rfl rfl rfl lt0 ?_)
      refine VO.cons rfl (V1.buildSliceT (f := encRule) ([(list.getD (Int.toNat v) default)] : List Rule) rfl rfl esz_58 zk_109 rfl rfl rfl rfl rfl rfl rfl lt0 ?_)
      intro b1
      refine VO.cons rfl (V1.appendNilE (f := encRule) (l := out_0) (m := ([(list.getD (Int.toNat v) default)] : List Rule)) hob0 rfl rfl rfl rfl rfl esz_58 eby_58 zk_109 rfl rfl rfl (SrcOf.srMap (k := 0) rfl isl_58) rfl hh1 lt0 ?_)
      intro b2
      refine VO.cons rfl (V1.as ?_)
      refine VO.nil ?_
      exact ⟨((out_0 ++ ([(list.getD (Int.toNat v) default)] : List Rule)), (some b2)), ⟨oi hm2, (fun e => by cases e)⟩, Keeps.mk (ks := [0]) rfl ⟨rfl, rfl, rfl, rfl, rfl, trivial⟩ (⟨_, _, rfl, rfl, rfl⟩) rfl⟩
     ·
      replace hm2 := cond_f hc1 hm2
      refine V.skip ?_
      exact ⟨(out_0, none), ⟨oi hm2, (fun _ => hob0)⟩, Keeps.mk (ks := []) rfl ⟨rfl, rfl, rfl, rfl, rfl, trivial⟩ (rfl) rfl⟩
    ·
     rintro ⟨out_1, ob1⟩ ⟨rfl, hob1⟩
     try dsimp only at hm1
     rcases ob1 with _ | ob1
     ·
      replace hob1 := hob1 rfl
      refine V.region (VO.cons rfl (V1.it ?_))
      refine VO.cons rfl (V1.mv ?_)
      refine VO.nil ?_
      exact ⟨(m0, (out_1, (IntKind.i64.wrap (v + (1 : Int)))), none), ⟨hl1 _ (oi hm1).symm, (fun _ => hob1)⟩, Nat.lt_succ_self _, Keeps.mk (ks := []) rfl ⟨rfl, rfl, rfl, rfl, rfl, trivial⟩ (rfl) rfl⟩
     ·
      refine V.region (VO.cons rfl (V1.it ?_))
      refine VO.cons rfl (V1.mv ?_)
      refine VO.nil ?_
      exact ⟨(m0, (out_1, (IntKind.i64.wrap (v + (1 : Int)))), (some ob1)), ⟨hl1 _ (oi hm1).symm, (fun e => by cases e)⟩, Nat.lt_succ_self _, Keeps.mk (ks := [0]) rfl ⟨rfl, rfl, rfl, rfl, rfl, trivial⟩ (⟨_, _, rfl, rfl, rfl⟩) rfl⟩
   ·
    replace hm1 := cond_f hc0 hm1
    refine V.exit ?_
    obtain rfl := hr1 _ (oi hm1).symm
    exact ⟨(out_0, ()), rfl, Keeps.trans (Keeps.nilsE (l := out_0) 5 rn 4 encRule hob0 rfl rfl) (Keeps.mk (ks := []) rfl ⟨rfl, trivial⟩ (rfl) rfl)⟩
  ·
   show V _ _ _ ⟨24, [(5, .sref ob0 4 0 (List.length out_0)), (10, .int .i64 v), (1, .int .i64 series), (8, .vl ρ0 4 (List.map encRule list)), (9, .int .i64 (list.length : Int))], [(ob0, ⟨4, List.map encRule out_0⟩)]⟩
   refine V.seq (V.region (VO.cons rfl (V1.it ?_)))
   refine VO.nil (V.seq (V.cond rfl (fun hc0 => ?_) (fun hc0 => ?_)))
   ·
    replace hm1 := cond_t hc0 hm1
    refine V.skip ?_
    refine V.seq ?_
    replace hm1 := bindO hm1; rcases hm1 with ⟨j0, hm2, hm1⟩
    refine V.cutT (D := (List Rule) × (Nat)) (fun ⟨out_1, b0⟩ => ⟨24, [(5, .sref b0 4 0 (List.length out_1)), (1, .int .i64 series), (8, .vl ρ0 4 (List.map encRule list)), (9, .int .i64 (list.length : Int)), (10, .int .i64 v)], [(b0, ⟨4, List.map encRule out_1⟩)]⟩) (fun ⟨out_1, b0⟩ => (out_1 = j0)) ?_ ?_
    ·
     refine V.block ?_
     refine V.seq ?_
     replace hm2 := asrt_some hm2; rcases hm2 with ⟨hh0, hm2⟩
     refine V.region (VO.cons rfl (V1.indexI rfl rfl esz_58 rfl rfl hh0 lt0 ?_))
     refine VO.cons rfl (V1.loadPinAll rfl rfl tyk_109 rfl rfl lt0 ?_)
     refine VO.cons rfl (V1.alloc rfl rfl zk_109 lt0 ?_)
     intro b1
     refine VO.cons rfl (V1.storeRefAll (k := 0) rfl rfl tyk_109 rfl rfl rfl rfl rfl rfl ?_)
     refine VO.nil (V.seq (V.region (VO.cons rfl (V1.fieldRef rfl rfl fo_109_0 rfl lt0 ?_))))
     refine VO.cons rfl (V1.loadRef (k := 0) rfl rfl tyk_3 rfl rfl rfl rfl rfl lt0 ?_)
     refine VO.cons rfl (V1.mv ?_)
     refine VO.cons rfl (V1.it ?_)
     refine VO.nil (V.keep 24 [1, 5, 7, 8, 9, 10, 17] [0, 1] (E0 := [(1, .int .i64 series), (5, .sref ob0 4 0 (List.length out_0)), (7, .ref b1 4 0 0), (8, .vl ρ0 4 (List.map encRule list)), (9, .int .i64 (list.length : Int)), (10, .int .i64 v), (17, .bool (((list.getD (Int.toNat v) default).Series) == series))]) (H0 := [(b1, ⟨4, [encRule (list.getD (Int.toNat v) default)]⟩), (ob0, ⟨4, List.map encRule out_0⟩)]) rfl (⟨_, _, rfl, rfl, ⟨_, _, rfl, rfl, ⟨_, _, rfl, rfl, ⟨_, _, rfl, rfl, ⟨_, _, rfl, rfl, ⟨_, _, rfl, rfl, ⟨_, _, rfl, rfl, rfl⟩⟩⟩⟩⟩⟩⟩) (⟨_, _, rfl, rfl, ⟨_, _, rfl, rfl, rfl⟩⟩) rfl ?_)
     refine V.cond rfl (fun hc1 => ?_) (fun hc1 => ?_)
     ·
      replace hm2 := cond_t hc1 hm2
      replace hm2 := asrt_some hm2; rcases hm2 with ⟨hh1, hm2⟩
      refine V.region (VO.cons rfl (V1.mv ?_))
      refine VO.cons rfl (V1.loadRefAll (k := 0) rfl rfl tyk_109 rfl rfl rfl rfl rfl lt0 ?_)
      refine VO.cons rfl (V1.buildSliceT (f := encRule) ([(list.getD (Int.toNat v) default)] : List Rule) rfl rfl esz_58 zk_109 rfl rfl rfl rfl rfl rfl rfl lt0 ?_)
      intro b2
      refine VO.cons rfl (V1.appendMap (k := 2) (f := encRule) (l := out_0) (m := ([(list.getD (Int.toNat v) default)] : List Rule)) rfl rfl rfl rfl rfl esz_58 eby_58 zk_109 rfl rfl rfl (SrcOf.srMap (k := 0) rfl isl_58) hh1 lt0 ?_)
      intro b3
      refine VO.cons rfl (V1.as ?_)
      refine VO.nil ?_
      exact ⟨((out_0 ++ ([(list.getD (Int.toNat v) default)] : List Rule)), b3), oi hm2, Keeps.mk (ks := [0]) rfl ⟨rfl, rfl, rfl, rfl, rfl, trivial⟩ (⟨_, _, rfl, rfl, rfl⟩) rfl⟩
     ·
      replace hm2 := cond_f hc1 hm2
      refine V.skip ?_
      exact ⟨(out_0, ob0), oi hm2, Keeps.mk (ks := [1]) rfl ⟨rfl, rfl, rfl, rfl, rfl, trivial⟩ (⟨_, _, rfl, rfl, rfl⟩) rfl⟩
    ·
     rintro ⟨out_1, b0⟩ rfl
     try dsimp only at hm1
     refine V.region (VO.cons rfl (V1.it ?_))
     refine VO.cons rfl (V1.mv ?_)
     refine VO.nil ?_
     exact ⟨(m0, (out_1, (IntKind.i64.wrap (v + (1 : Int)))), (some b0)), ⟨hl1 _ (oi hm1).symm, (fun e => by cases e)⟩, Nat.lt_succ_self _, Keeps.mk (ks := [0]) rfl ⟨rfl, rfl, rfl, rfl, rfl, trivial⟩ (⟨_, _, rfl, rfl, rfl⟩) rfl⟩
   ·
    replace hm1 := cond_f hc0 hm1
    refine V.exit ?_
    obtain rfl := hr1 _ (oi hm1).symm
    exact ⟨(out_0, ()), rfl, Keeps.trans (Keeps.freezeG 0 rn [(5, .vl rn 4 (List.map encRule out_0))] [] (f := encRule) (l := out_0) rfl (fun _ => rfl) ⟨⟨_, rfl, .here⟩, trivial⟩ rfl rfl iNil) (Keeps.mk (ks := []) rfl ⟨rfl, trivial⟩ (rfl) rfl)⟩
 ·
  rintro ⟨out_, _⟩ rfl
  try dsimp only at hm0
  refine V.seq (V.region (VO.cons rfl (V1.mv ?_)))
  refine VO.cons rfl (V1.as ?_)
  refine VO.nil (V.ret ?_)
  obtain rfl := oi hm0
  exact ⟨_, [], ⟨_, _, rfl, rfl, rfl⟩, List.nil_sublist _, rfl, rfl⟩

theorem ok_slices_Equal_impl_Rule_impl_Rule {ρ0 ρ1 rn : Nat} {s1 : List Rule} {s2 : List Rule} {r : Bool} (h : M.slices_Equal_impl_Rule_impl_Rule s1 s2 = some r) : Does Try.prog 100 [.vl ρ0 4 (List.map encRule s1), .vl ρ1 4 (List.map encRule s2)] [] rn (fun x H => x = .bool r ∧ H = []) := by
 have hm0 := h; clear h; unfold M.slices_Equal_impl_Rule_impl_Rule at hm0
 try dsimp only at hm0
 refine Does.intro (N := 26) Try.func100 rfl rfl rfl rfl ?_
 intro w0 S0
 refine V.seq (V.region (VO.cons rfl (V1.as ?_)))
 refine VO.nil (V.seq (V.seq (V.region (VO.cons rfl (V1.mv ?_)))))
 refine VO.cons rfl (V1.lenMap rfl rfl rfl rfl rfl rfl isl_58 lt0 ?_)
 refine VO.cons rfl (V1.mv ?_)
 refine VO.cons rfl (V1.lenMap rfl rfl rfl rfl rfl rfl isl_58 lt0 ?_)
 refine VO.cons rfl (V1.it ?_)
 refine VO.nil (V.keep 26 [0, 1, 10] [] (E0 := [(0, .vl ρ0 4 (List.map encRule s1)), (1, .vl ρ1 4 (List.map encRule s2)), (10, .bool ((s1.length : Int) != (s2.length : Int)))]) (H0 := []) rfl (⟨_, _, rfl, rfl, ⟨_, _, rfl, rfl, ⟨_, _, rfl, rfl, rfl⟩⟩⟩) (rfl) rfl ?_)
 refine V.cond rfl (fun hc0 => ?_) (fun hc0 => ?_)
 ·
  replace hm0 := cond_t hc0 hm0
  refine V.seq (V.region (VO.cons rfl (V1.as ?_)))
  refine VO.nil (V.ret ?_)
  obtain rfl := oi hm0
  exact ⟨_, [], ⟨_, _, rfl, rfl, rfl⟩, List.nil_sublist _, rfl, rfl⟩
 ·
  replace hm0 := cond_f hc0 hm0
  refine V.skip ?_
  refine V.seq (V.seq (V.region (VO.cons rfl (V1.mv ?_))))
  refine VO.cons rfl (V1.lenMap rfl rfl rfl rfl rfl rfl isl_58 lt0 ?_)
  refine VO.cons rfl (V1.mv ?_)
  refine VO.nil ?_
  replace hm0 := bindO hm0; rcases hm0 with ⟨e0, he1, hm0⟩
  refine V.cutT (D := (Unit) × (Unit)) (fun ⟨_, _⟩ => ⟨26, [], []⟩) (fun ⟨_, _⟩ => (.inl () = e0)) ?_ ?_
  ·
   refine V.block ?_
   refine V.keep 26 [13, 0, 1, 12] [] (E0 := [(13, .int .i64 (0 : Int)), (0, .vl ρ0 4 (List.map encRule s1)), (1, .vl ρ1 4 (List.map encRule s2)), (12, .int .i64 (s1.length : Int))]) (H0 := []) rfl (⟨_, _, rfl, rfl, ⟨_, _, rfl, rfl, ⟨_, _, rfl, rfl, ⟨_, _, rfl, rfl, rfl⟩⟩⟩⟩) (rfl) rfl ?_
   refine V.loopE (D := Nat × (Int) × (Unit)) (fun ⟨n0, v, _⟩ => [(13, .int .i64 v)]) (fun ⟨n0, v, _⟩ => []) (fun ⟨n0, v, _⟩ => loopO (M.slices_Equal_impl_Rule_impl_Rule_l0 s1 s2) n0 v = some e0) (fun ⟨n0, _, _⟩ => n0) (rounds, (0 : Int), ()) rfl he1 ?_
   rintro ⟨n0, v, _⟩ hP0
   obtain ⟨m0, y0, rfl, hm1, hl1, hr1⟩ := loop_head hP0
   unfold M.slices_Equal_impl_Rule_impl_Rule_l0 at hm1; dsimp only at hm1
   show V _ _ _ ⟨26, [(13, .int .i64 v), (0, .vl ρ0 4 (List.map encRule s1)), (1, .vl ρ1 4 (List.map encRule s2)), (12, .int .i64 (s1.length : Int))], []⟩
   refine V.seq (V.region (VO.cons rfl (V1.it ?_)))
   refine VO.nil (V.seq (V.cond rfl (fun hc1 => ?_) (fun hc1 => ?_)))
   ·
    replace hm1 := cond_t hc1 hm1
    refine V.skip ?_
    refine V.seq (V.block ?_)
    refine V.seq (V.region (VO.cons rfl (V1.mv ?_)))
    refine VO.cons rfl (V1.as ?_)
    refine VO.nil (V.seq ?_)
    replace hm1 := asrt_some hm1; rcases hm1 with ⟨hh0, hm1⟩
    replace hm1 := asrt_some hm1; rcases hm1 with ⟨hh1, hm1⟩
    refine V.regionM 26 8 [⟨[(0, none)], [], none⟩, ⟨[(5, none)], [], none⟩, ⟨[(16, some 1), (17, some 0)], [], none⟩, ⟨[(18, some 0)], [], none⟩, ⟨[(1, none)], [], none⟩, ⟨[(5, none)], [], none⟩, ⟨[(20, some 1), (21, some 0)], [], none⟩, ⟨[(22, some 0)], [], none⟩] [(0, none), (1, none), (12, none), (13, none), (19, some 4), (23, some 0)] (⟨_, rfl, ⟨_, rfl, ⟨_, rfl, ⟨_, rfl, ⟨_, rfl, ⟨_, rfl, ⟨_, rfl, ⟨_, rfl, ⟨rfl, rfl⟩⟩⟩⟩⟩⟩⟩⟩⟩) mixed_orders rfl (by decide +kernel) (fun hck6 => ?_)
    refine VP.step (p := ?pv65) rfl rfl rfl (⟨_, _, rfl, rfl, rfl⟩) ?hv65 ?rest65 hck6
    case hv65 =>
     intro E1
     refine (V1.mv ?_)
     exact rfl
    refine VP.step (p := ?pv66) rfl rfl rfl (⟨_, _, rfl, rfl, rfl⟩) ?hv66 ?rest66 hck6
    case hv66 =>
     intro E1
     refine (V1.mv ?_)
     exact rfl
    refine VP.step (p := ?pv67) rfl rfl rfl (⟨_, _, rfl, rfl, ⟨_, _, rfl, rfl, rfl⟩⟩) ?hv67 ?rest67 hck6
    case hv67 =>
     intro E1
     refine (V1.indexI rfl rfl esz_58 rfl rfl hh0 lt0 ?_)
     exact rfl
    refine VP.step (p := ?pv68) rfl rfl rfl (⟨_, _, rfl, rfl, rfl⟩) ?hv68 ?rest68 hck6
    case hv68 =>
     intro E1
     refine (V1.loadPinAll rfl rfl tyk_109 rfl rfl lt0 ?_)
     exact rfl
    refine VP.step (p := ?pv69) rfl rfl rfl (⟨_, _, rfl, rfl, rfl⟩) ?hv69 ?rest69 hck6
    case hv69 =>
     intro E1
     refine (V1.mv ?_)
     exact rfl
    refine VP.step (p := ?pv70) rfl rfl rfl (⟨_, _, rfl, rfl, rfl⟩) ?hv70 ?rest70 hck6
    case hv70 =>
     intro E1
     refine (V1.mv ?_)
     exact rfl
    refine VP.step (p := ?pv71) rfl rfl rfl (⟨_, _, rfl, rfl, ⟨_, _, rfl, rfl, rfl⟩⟩) ?hv71 ?rest71 hck6
    case hv71 =>
     intro E1
     refine (V1.indexI rfl rfl esz_58 rfl rfl hh1 lt0 ?_)
     exact rfl
    refine VP.step (p := ?pv72) rfl rfl rfl (⟨_, _, rfl, rfl, rfl⟩) ?hv72 ?rest72 hck6
    case hv72 =>
     intro E1
     refine (V1.loadPinAll rfl rfl tyk_109 rfl rfl lt0 ?_)
     exact rfl
    refine VP.fin rfl (⟨_, _, rfl, rfl, ⟨_, _, rfl, rfl, ⟨_, _, rfl, rfl, ⟨_, _, rfl, rfl, ⟨_, _, rfl, rfl, ⟨_, _, rfl, rfl, rfl⟩⟩⟩⟩⟩⟩) ?_
    refine VO.cons rfl (V1.aggEqG true rfl rfl fe_109 rfl rfl rfl rfl rfl lt0 ?_)
    refine VO.nil (V.cond rfl (fun hc2 => ?_) (fun hc2 => ?_))
    ·
     replace hm1 := cond_t hc2 hm1
     refine V.seq (V.region (VO.cons rfl (V1.as ?_)))
     refine VO.nil (V.ret ?_)
     obtain rfl := hr1 _ (oi hm1).symm
     change some _ = some _ at hm0
     obtain rfl := oi hm0
     exact ⟨_, [], ⟨_, _, rfl, rfl, rfl⟩, List.nil_sublist _, rfl, rfl⟩
    ·
     replace hm1 := cond_f hc2 hm1
     refine V.skip ?_
     refine V.region (VO.cons rfl (V1.it ?_))
     refine VO.cons rfl (V1.mv ?_)
     refine VO.nil ?_
     exact ⟨(m0, (IntKind.i64.wrap (v + (1 : Int))), ()), hl1 _ (oi hm1).symm, Nat.lt_succ_self _, Keeps.mk (ks := []) rfl ⟨rfl, rfl, rfl, rfl, trivial⟩ (rfl) rfl⟩
   ·
    replace hm1 := cond_f hc1 hm1
    refine V.exit ?_
    obtain rfl := hr1 _ (oi hm1).symm
    exact ⟨((), ()), rfl, Keeps.mk (ks := []) rfl trivial (rfl) rfl⟩
  ·
   rintro ⟨_, _⟩ rfl
   try dsimp only at hm0
   refine V.seq (V.region (VO.cons rfl (V1.as ?_)))
   refine VO.nil (V.ret ?_)
   obtain rfl := oi hm0
   exact ⟨_, [], ⟨_, _, rfl, rfl, rfl⟩, List.nil_sublist _, rfl, rfl⟩

theorem ok_impl_ChangedSeries_1 {ρ1 τ1 ρ2 τ2 rn : Nat} {series : Int} {before : List Rule} {own : List Rule} {r : Bool} (h : M.impl_ChangedSeries_1 series before own = some r) : Does Try.prog 99 [.int .i64 series, .pin τ1 (.vl ρ1 4 (List.map encRule before)) 0, .pin τ2 (.vl ρ2 4 (List.map encRule own)) 0] [] rn (fun x H => x = .bool r ∧ H = []) := by
 have hm0 := h; clear h; unfold M.impl_ChangedSeries_1 at hm0
 try dsimp only at hm0
 refine Does.intro (N := 12) Try.func99 rfl rfl rfl rfl ?_
 intro w0 S0
 refine V.seq (V.region (VO.cons rfl (V1.as ?_)))
 refine VO.nil (V.seq ?_)
 replace hm0 := bindO hm0; rcases hm0 with ⟨y0, hh0, hm0⟩
 replace hm0 := bindO hm0; rcases hm0 with ⟨y1, hh1, hm0⟩
 replace hm0 := bindO hm0; rcases hm0 with ⟨y2, hh2, hm0⟩
 refine V.regionM 12 5 [⟨[(1, none)], [], none⟩, ⟨[(0, none)], [], none⟩, ⟨[(5, some 1), (6, some 0)], [], none⟩, ⟨[(2, none)], [], none⟩, ⟨[(0, none)], [], none⟩] [(7, some 2), (8, some 1), (9, some 0)] (⟨_, rfl, ⟨_, rfl, ⟨_, rfl, ⟨_, rfl, ⟨_, rfl, ⟨rfl, rfl⟩⟩⟩⟩⟩⟩) mixed_orders rfl (by decide +kernel) (fun hck1 => ?_)
 refine VP.step (p := ?pv11) rfl rfl rfl (⟨_, _, rfl, rfl, rfl⟩) ?hv11 ?rest11 hck1
 case hv11 =>
  intro E1
  refine (V1.loadPin rfl rfl tyk_58 rfl rfl lt0 ?_)
  exact rfl
 refine VP.step (p := ?pv12) rfl rfl rfl (⟨_, _, rfl, rfl, rfl⟩) ?hv12 ?rest12 hck1
 case hv12 =>
  intro E1
  refine (V1.mv ?_)
  exact rfl
 refine VP.step (p := ?pv13) rfl rfl rfl (⟨_, _, rfl, rfl, ⟨_, _, rfl, rfl, rfl⟩⟩) ?hv13 ?rest13 hck1
 case hv13 =>
  intro E1
  refine (V1.call rfl rfl rfl cok_101 rfl (okz_impl_rulesFor hh0) rfl lt0 ?_)
  rintro _ _ ⟨rfl, rfl⟩
  exact rfl
 refine VP.step (p := ?pv14) rfl rfl rfl (⟨_, _, rfl, rfl, rfl⟩) ?hv14 ?rest14 hck1
 case hv14 =>
  intro E1
  refine (V1.loadPin rfl rfl tyk_58 rfl rfl lt0 ?_)
  exact rfl
 refine VP.step (p := ?pv15) rfl rfl rfl (⟨_, _, rfl, rfl, rfl⟩) ?hv15 ?rest15 hck1
 case hv15 =>
  intro E1
  refine (V1.mv ?_)
  exact rfl
 refine VP.fin rfl (⟨_, _, rfl, rfl, ⟨_, _, rfl, rfl, ⟨_, _, rfl, rfl, rfl⟩⟩⟩) ?_
 refine VO.cons rfl (V1.permK (V1.call rfl rfl rfl cok_101 rfl (ok_impl_rulesFor hh1) rfl lt0 ?_))
 rintro _ _ ⟨ob0, hob0, rfl, rfl⟩
 refine ⟨_, ?_, Keeps.optBack (n := 4) (ob := ob0) (xs := List.map encRule y1) (H1 := []) (H2 := []) rfl⟩
 refine VO.weakenK (Keeps.optFront (n := 4) (ob := ob0) (xs := List.map encRule y1) (H1 := []) rfl) ?_
 refine VO.weakenK (Keeps.optVl 10 [] rn (f := encRule) (l := y1) (ob := ob0) (H1 := []) hob0 rfl rfl ⟨rfl, trivial⟩ (fun _ => rfl) rfl iNil) ?_
 refine VO.cons rfl (V1.call rfl rfl rfl cok_100 rfl (ok_slices_Equal_impl_Rule_impl_Rule hh2) rfl lt0 ?_)
 rintro _ _ ⟨rfl, rfl⟩
 refine VO.cons rfl (V1.as ?_)
 refine VO.nil (V.ret ?_)
 obtain rfl := oi hm0
 exact ⟨_, [], ⟨_, _, rfl, rfl, rfl⟩, List.nil_sublist _, rfl, rfl⟩

theorem ok_slices_IndexFunc_int_int {ρ0 rn : Nat} {s : List Int} {f1 : Nat} {cs1 : List PV} {r : Int} {fm : Int → Option Bool} (h : M.slices_IndexFunc_int_int s fm = some r) (hok1 : callOK Try.prog f1 = true) (hf1 : ∀ x0 r, fm x0 = some r → Does Try.prog f1 (.int .i64 x0 :: cs1) [] rn (fun x H => x = .bool r ∧ H = [])) : Does Try.prog 126 [.vl ρ0 1 (List.map encInt s), .fn f1 cs1] [] rn (fun x H => x = .int .i64 r ∧ H = []) := by
 have hm0 := h; clear h; unfold M.slices_IndexFunc_int_int at hm0
 try dsimp only at hm0
 refine Does.intro (N := 19) Try.func126 rfl rfl rfl rfl ?_
 intro w0 S0
 refine V.seq (V.region (VO.cons rfl (V1.as ?_)))
 refine VO.nil (V.seq (V.seq (V.region (VO.cons rfl (V1.mv ?_)))))
 refine VO.cons rfl (V1.lenMap rfl rfl rfl rfl rfl rfl isl_69 lt0 ?_)
 refine VO.cons rfl (V1.mv ?_)
 refine VO.nil ?_
 replace hm0 := bindO hm0; rcases hm0 with ⟨e0, he1, hm0⟩
 refine V.cutT (D := (Unit) × (Unit)) (fun ⟨_, _⟩ => ⟨19, [], []⟩) (fun ⟨_, _⟩ => (.inl () = e0)) ?_ ?_
 ·
  refine V.block ?_
  refine V.keep 19 [8, 0, 1, 7] [] (E0 := [(8, .int .i64 (0 : Int)), (0, .vl ρ0 1 (List.map encInt s)), (1, .fn f1 cs1), (7, .int .i64 (s.length : Int))]) (H0 := []) rfl (⟨_, _, rfl, rfl, ⟨_, _, rfl, rfl, ⟨_, _, rfl, rfl, ⟨_, _, rfl, rfl, rfl⟩⟩⟩⟩) (rfl) rfl ?_
  refine V.loopE (D := Nat × (Int) × (Unit)) (fun ⟨n0, v, _⟩ => [(8, .int .i64 v)]) (fun ⟨n0, v, _⟩ => []) (fun ⟨n0, v, _⟩ => loopO (M.slices_IndexFunc_int_int_l0 s fm) n0 v = some e0) (fun ⟨n0, _, _⟩ => n0) (rounds, (0 : Int), ()) rfl he1 ?_
  rintro ⟨n0, v, _⟩ hP0
  obtain ⟨m0, y0, rfl, hm1, hl1, hr1⟩ := loop_head hP0
  unfold M.slices_IndexFunc_int_int_l0 at hm1; dsimp only at hm1
  show V _ _ _ ⟨19, [(8, .int .i64 v), (0, .vl ρ0 1 (List.map encInt s)), (1, .fn f1 cs1), (7, .int .i64 (s.length : Int))], []⟩
  refine V.seq (V.region (VO.cons rfl (V1.it ?_)))
  refine VO.nil (V.seq (V.cond rfl (fun hc0 => ?_) (fun hc0 => ?_)))
  ·
   replace hm1 := cond_t hc0 hm1
   refine V.skip ?_
   refine V.seq (V.block ?_)
   refine V.seq (V.region (VO.cons rfl (V1.mv ?_)))
   refine VO.cons rfl (V1.as ?_)
   refine VO.nil (V.seq ?_)
   replace hm1 := asrt_some hm1; rcases hm1 with ⟨hh0, hm1⟩
   replace hm1 := bindO hm1; rcases hm1 with ⟨y1, hh1, hm1⟩
   refine V.region (VO.cons rfl (V1.mv ?_))
   refine VO.cons rfl (V1.mv ?_)
   refine VO.cons rfl (V1.mv ?_)
   refine VO.cons rfl (V1.indexI rfl rfl esz_69 rfl rfl hh0 lt0 ?_)
   refine VO.cons rfl (V1.loadPin rfl rfl tyk_3 rfl rfl lt0 ?_)
   refine VO.cons rfl (V1.callG (τ := 0) (Bw := []) rfl lt0 (run_callFn rfl rfl rfl hok1 rfl) (.refl _) (Lends.same _) (fun _ h => by cases h) ((hf1 _  _) hh1) (.inl rfl) (.inl rfl) ?_)
   rintro _ _ ⟨rfl, rfl⟩
   refine VO.nil (V.keep 19 [0, 1, 5, 7, 8, 16] [] (E0 := [(0, .vl ρ0 1 (List.map encInt s)), (1, .fn f1 cs1), (5, .int .i64 v), (7, .int .i64 (s.length : Int)), (8, .int .i64 v), (16, .bool y1)]) (H0 := []) rfl (⟨_, _, rfl, rfl, ⟨_, _, rfl, rfl, ⟨_, _, rfl, rfl, ⟨_, _, rfl, rfl, ⟨_, _, rfl, rfl, ⟨_, _, rfl, rfl, rfl⟩⟩⟩⟩⟩⟩) (rfl) rfl ?_)
   refine V.cond rfl (fun hc1 => ?_) (fun hc1 => ?_)
   ·
    replace hm1 := cond_t hc1 hm1
    refine V.seq (V.region (VO.cons rfl (V1.mv ?_)))
    refine VO.cons rfl (V1.as ?_)
    refine VO.nil (V.ret ?_)
    obtain rfl := hr1 _ (oi hm1).symm
    change some _ = some _ at hm0
    obtain rfl := oi hm0
    exact ⟨_, [], ⟨_, _, rfl, rfl, rfl⟩, List.nil_sublist _, rfl, rfl⟩
   ·
    replace hm1 := cond_f hc1 hm1
    refine V.skip ?_
    refine V.region (VO.cons rfl (V1.it ?_))
    refine VO.cons rfl (V1.mv ?_)
    refine VO.nil ?_
    exact ⟨(m0, (IntKind.i64.wrap (v + (1 : Int))), ()), hl1 _ (oi hm1).symm, Nat.lt_succ_self _, Keeps.mk (ks := []) rfl ⟨rfl, rfl, rfl, rfl, trivial⟩ (rfl) rfl⟩
  ·
   replace hm1 := cond_f hc0 hm1
   refine V.exit ?_
   obtain rfl := hr1 _ (oi hm1).symm
   exact ⟨((), ()), rfl, Keeps.mk (ks := []) rfl trivial (rfl) rfl⟩
 ·
  rintro ⟨_, _⟩ rfl
  try dsimp only at hm0
  refine V.seq (V.region (VO.cons rfl (V1.as ?_)))
  refine VO.nil (V.ret ?_)
  obtain rfl := oi hm0
  exact ⟨_, [], ⟨_, _, rfl, rfl, rfl⟩, List.nil_sublist _, rfl, rfl⟩

theorem ok_slices_DeleteFunc_int_int {rn : Nat} {oq : Option Nat} {s : List Int} {f1 : Nat} {cs1 : List PV} {r : List Int} {fm : Int → Option Bool} (h : M.slices_DeleteFunc_int_int s fm = some r) (hoq : oq = none → s = []) (hok1 : callOK Try.prog f1 = true) (hf1 : ∀ x0 r, fm x0 = some r → Does Try.prog f1 (.int .i64 x0 :: cs1) [] rn (fun x H => x = .bool r ∧ H = [])) : Does Try.prog 97 [optS 1 oq (List.length s), .fn f1 cs1] (optH 1 oq (List.map encInt s)) rn (fun x H => ∃ (ob0_ : Option Nat), (ob0_ = none → r = []) ∧ x = optS 1 ob0_ (List.length r) ∧ H = optH 1 ob0_ (List.map encInt r)) := by
 have hm0 := h; clear h; unfold M.slices_DeleteFunc_int_int at hm0
 try dsimp only at hm0
 refine Does.intro (N := 42) Try.func97 rfl rfl rfl rfl ?_
 intro w0 S0
 rcases oq with _ | oq
 ·
  refine V.seq (V.region (VO.cons rfl (V1.as ?_)))
  refine VO.nil (V.seq ?_)
  replace hm0 := bindO hm0; rcases hm0 with ⟨y0, hh0, hm0⟩
  refine V.region (VO.cons rfl (V1.mv ?_))
  refine VO.cons rfl (V1.mv ?_)
  refine VO.weakenK (Keeps.nilsE (l := s) 8 rn 1 encInt (hoq rfl) rfl rfl) ?_
  refine VO.cons rfl (V1.call rfl rfl rfl cok_126 rfl (ok_slices_IndexFunc_int_int hh0 (fm := fm) hok1 hf1) rfl lt0 ?_)
  rintro _ _ ⟨rfl, rfl⟩
  refine VO.cons rfl (V1.as ?_)
  refine VO.nil (V.keep 42 [0, 1, 5] [] (E0 := [(0, .nils), (1, .fn f1 cs1), (5, .int .i64 y0)]) (H0 := []) rfl (⟨_, _, rfl, rfl, ⟨_, _, rfl, rfl, ⟨_, _, rfl, rfl, rfl⟩⟩⟩) (rfl) rfl ?_)
  refine V.seq (V.seq (V.region (VO.cons rfl (V1.mv ?_))))
  refine VO.cons rfl (V1.it ?_)
  refine VO.nil (V.cond rfl (fun hc0 => ?_) (fun hc0 => ?_))
  ·
   replace hm0 := cond_t hc0 hm0
   refine V.seq (V.region (VO.cons rfl (V1.mv ?_)))
   refine VO.cons rfl (V1.as ?_)
   refine VO.nil (V.keep 42 [4] [] (E0 := [(4, .nils)]) (H0 := []) rfl (⟨_, _, rfl, rfl, rfl⟩) (rfl) rfl ?_)
   refine V.ret ?_
   obtain rfl := oi hm0
   exact ⟨_, _, ⟨_, _, rfl, rfl, rfl⟩, List.Sublist.refl _, none, (fun _ => (hoq rfl)), rfl, rfl⟩
  ·
   replace hm0 := cond_f hc0 hm0
   exfalso
   obtain rfl := hoq rfl; have hz_ : M.slices_IndexFunc_int_int [] fm = some (-1) := by unfold M.slices_IndexFunc_int_int; rw [iterO_now (e := .inl ()) (by unfold M.slices_IndexFunc_int_int_l0; rfl)]; rfl
   first | (rw [hz_] at hh0; obtain rfl := oi hh0) | skip
   revert hc0; decide
 ·
  refine V.seq (V.region (VO.cons rfl (V1.as ?_)))
  refine VO.nil (V.seq ?_)
  replace hm0 := bindO hm0; rcases hm0 with ⟨y0, hh0, hm0⟩
  refine V.region (VO.cons rfl (V1.mv ?_))
  refine VO.cons rfl (V1.mv ?_)
  refine VO.cons rfl (V1.callL (rn + 1) [oq] [.vl (rn + 1) 1 (List.map encInt s), .fn f1 cs1] rfl rfl rfl cok_126 rfl ⟨_, _, rfl, Lend.srMap 0 rfl (fun _ => rfl) (.head _), ⟨_, _, rfl, .same _, rfl⟩⟩ (bwCons (k := 0) rfl bwNil) (ok_slices_IndexFunc_int_int hh0 (fm := fm) hok1 hf1) rfl (⟨(by first | omega | (dsimp only; omega)), by rintro _ _ ⟨rfl, rfl⟩; exact ⟨rfl, by simp⟩⟩) lt0 ?_)
  rintro _ _ ⟨rfl, rfl⟩
  refine VO.cons rfl (V1.as ?_)
  refine VO.nil (V.keep 42 [0, 1, 5] [0] (E0 := [(0, .sref oq 1 0 (List.length s)), (1, .fn f1 cs1), (5, .int .i64 y0)]) (H0 := [(oq, ⟨1, List.map encInt s⟩)]) rfl (⟨_, _, rfl, rfl, ⟨_, _, rfl, rfl, ⟨_, _, rfl, rfl, rfl⟩⟩⟩) (⟨_, _, rfl, rfl, rfl⟩) rfl ?_)
  refine V.seq (V.seq (V.region (VO.cons rfl (V1.mv ?_))))
  refine VO.cons rfl (V1.it ?_)
  refine VO.nil (V.cond rfl (fun hc0 => ?_) (fun hc0 => ?_))
  ·
   replace hm0 := cond_t hc0 hm0
   refine V.seq (V.region (VO.cons rfl (V1.mv ?_)))
   refine VO.cons rfl (V1.as ?_)
   refine VO.nil (V.keep 42 [4] [0] (E0 := [(4, .sref oq 1 0 (List.length s))]) (H0 := [(oq, ⟨1, List.map encInt s⟩)]) rfl (⟨_, _, rfl, rfl, rfl⟩) (⟨_, _, rfl, rfl, rfl⟩) rfl ?_)
   refine V.ret ?_
   obtain rfl := oi hm0
   exact ⟨_, _, ⟨_, _, rfl, rfl, rfl⟩, List.Sublist.refl _, some oq, (fun e => by cases e), rfl, rfl⟩
  ·
   replace hm0 := cond_f hc0 hm0
   refine V.skip ?_
   refine V.seq (V.seq (V.region (VO.cons rfl (V1.mv ?_))))
   refine VO.cons rfl (V1.it ?_)
   refine VO.cons rfl (V1.as ?_)
   refine VO.nil (V.keep 42 [0, 1, 5, 6] [0] (E0 := [(0, .sref oq 1 0 (List.length s)), (1, .fn f1 cs1), (5, .int .i64 y0), (6, .int .i64 (IntKind.i64.wrap (y0 + (1 : Int))))]) (H0 := [(oq, ⟨1, List.map encInt s⟩)]) rfl (⟨_, _, rfl, rfl, ⟨_, _, rfl, rfl, ⟨_, _, rfl, rfl, ⟨_, _, rfl, rfl, rfl⟩⟩⟩⟩) (⟨_, _, rfl, rfl, rfl⟩) rfl ?_)
   replace hm0 := bindO hm0; rcases hm0 with ⟨e0, he1, hm0⟩
   refine V.cutT (D := (List Int × Int) × (Unit)) (fun ⟨⟨s0, i⟩, _⟩ => ⟨42, [(0, .sref oq 1 0 (List.length s0)), (5, .int .i64 i)], [(oq, ⟨1, List.map encInt s0⟩)]⟩) (fun ⟨⟨s0, i⟩, _⟩ => ((s0, i) = e0)) ?_ ?_
   ·
    refine V.block ?_
    refine V.keep 42 [0, 5, 6, 1] [0] (E0 := [(0, .sref oq 1 0 (List.length s)), (5, .int .i64 y0), (6, .int .i64 (IntKind.i64.wrap (y0 + (1 : Int)))), (1, .fn f1 cs1)]) (H0 := [(oq, ⟨1, List.map encInt s⟩)]) rfl (⟨_, _, rfl, rfl, ⟨_, _, rfl, rfl, ⟨_, _, rfl, rfl, ⟨_, _, rfl, rfl, rfl⟩⟩⟩⟩) (⟨_, _, rfl, rfl, rfl⟩) rfl ?_
    refine V.loopE (D := Nat × (List Int × Int × Int) × (Unit)) (fun ⟨n0, ⟨s1, i0, j_⟩, _⟩ => [(0, .sref oq 1 0 (List.length s1)), (5, .int .i64 i0), (6, .int .i64 j_)]) (fun ⟨n0, ⟨s1, i0, j_⟩, _⟩ => [(oq, ⟨1, List.map encInt s1⟩)]) (fun ⟨n0, ⟨s1, i0, j_⟩, _⟩ => loopO (M.slices_DeleteFunc_int_int_l0 fm) n0 (s1, i0, j_) = some e0) (fun ⟨n0, _, _⟩ => n0) (rounds, (s, y0, (IntKind.i64.wrap (y0 + (1 : Int)))), ()) rfl he1 ?_
    rintro ⟨n0, ⟨s1, i0, j_⟩, _⟩ hP0
    obtain ⟨m0, y1, rfl, hm1, hl1, hr1⟩ := loop_head hP0
    unfold M.slices_DeleteFunc_int_int_l0 at hm1; dsimp only at hm1
    show V _ _ _ ⟨42, [(0, .sref oq 1 0 (List.length s1)), (5, .int .i64 i0), (6, .int .i64 j_), (1, .fn f1 cs1)], [(oq, ⟨1, List.map encInt s1⟩)]⟩
    refine V.seq (V.seq (V.region (VO.cons rfl (V1.mv ?_))))
    refine VO.cons rfl (V1.mv ?_)
    refine VO.cons rfl (V1.lenSref rfl rfl rfl rfl rfl rfl isl_69 lt0 ?_)
    refine VO.cons rfl (V1.it ?_)
    refine VO.nil (V.cond rfl (fun hc1 => ?_) (fun hc1 => ?_))
    ·
     replace hm1 := cond_t hc1 hm1
     refine V.skip ?_
     refine V.keep 42 [0, 1, 5, 6] [0] (E0 := [(0, .sref oq 1 0 (List.length s1)), (1, .fn f1 cs1), (5, .int .i64 i0), (6, .int .i64 j_)]) (H0 := [(oq, ⟨1, List.map encInt s1⟩)]) rfl (⟨_, _, rfl, rfl, ⟨_, _, rfl, rfl, ⟨_, _, rfl, rfl, ⟨_, _, rfl, rfl, rfl⟩⟩⟩⟩) (⟨_, _, rfl, rfl, rfl⟩) rfl ?_
     refine V.seq ?_
     replace hm1 := bindO hm1; rcases hm1 with ⟨j0, hm2, hm1⟩
     refine V.cutT (D := (List Int × Int) × (Unit)) (fun ⟨⟨s2, i1⟩, _⟩ => ⟨42, [(0, .sref oq 1 0 (List.length s2)), (5, .int .i64 i1), (1, .fn f1 cs1), (6, .int .i64 j_)], [(oq, ⟨1, List.map encInt s2⟩)]⟩) (fun ⟨⟨s2, i1⟩, _⟩ => ((s2, i1) = j0)) ?_ ?_
     ·
      refine V.block ?_
      refine V.seq ?_
      replace hm2 := asrt_some hm2; rcases hm2 with ⟨hh1, hm2⟩
      refine V.region (VO.cons rfl (V1.mv ?_))
      refine VO.cons rfl (V1.mv ?_)
      refine VO.cons rfl (V1.indexSr rfl rfl esz_69 rfl rfl hh1 lt0 ?_)
      refine VO.cons rfl (V1.loadMap (k := 0) (f := encInt) rfl rfl tyk_3 rfl rfl (by simpa using natLt hh1.1 hh1.2) rfl lt0 ?_)
      refine VO.cons rfl (V1.as ?_)
      refine VO.nil (V.keep 42 [0, 1, 5, 6, 7] [0] (E0 := [(0, .sref oq 1 0 (List.length s1)), (1, .fn f1 cs1), (5, .int .i64 i0), (6, .int .i64 j_), (7, .int .i64 (s1.getD (Int.toNat j_) default))]) (H0 := [(oq, ⟨1, List.map encInt s1⟩)]) rfl (⟨_, _, rfl, rfl, ⟨_, _, rfl, rfl, ⟨_, _, rfl, rfl, ⟨_, _, rfl, rfl, ⟨_, _, rfl, rfl, rfl⟩⟩⟩⟩⟩) (⟨_, _, rfl, rfl, rfl⟩) rfl ?_)
      refine V.seq ?_
      replace hm2 := bindO hm2; rcases hm2 with ⟨y2, hh2, hm2⟩
      refine V.region (VO.cons rfl (V1.mv ?_))
      refine VO.cons rfl (V1.mv ?_)
      refine VO.cons rfl (V1.callG (τ := 0) (Bw := []) rfl lt0 (run_callFn rfl rfl rfl hok1 rfl) (.refl _) (Lends.same _) (fun _ h => by cases h) ((hf1 _  _) hh2) (.inl rfl) (.inl rfl) ?_)
      rintro _ _ ⟨rfl, rfl⟩
      refine VO.cons rfl (V1.not rfl rfl rfl lt0 ?_)
      refine VO.nil (V.cond rfl (fun hc2 => ?_) (fun hc2 => ?_))
      ·
       replace hm2 := cond_t hc2 hm2
       refine V.seq ?_
       replace hm2 := asrt_some hm2; rcases hm2 with ⟨hh3, hm2⟩
       refine V.region (VO.cons rfl (V1.mv ?_))
       refine VO.cons rfl (V1.mv ?_)
       refine VO.cons rfl (V1.mv ?_)
       refine VO.cons rfl (V1.indexSr rfl rfl esz_69 rfl rfl hh3 lt0 ?_)
       refine VO.cons rfl (V1.storeMap (k := 0) (f := encInt) (x := (s1.getD (Int.toNat j_) default)) rfl rfl tyk_3 rfl rfl (by simpa using natLt hh3.1 hh3.2) rfl rfl ?_)
       refine VO.weakenK (Keeps.say 0 (y := .sref oq 1 0 (List.length (s1.set (Int.toNat i0) (s1.getD (Int.toNat j_) default)))) rfl (by simp [optS])) ?_
       refine VO.nil (V.keep 42 [0, 1, 5, 6] [0] (E0 := [(0, .sref oq 1 0 (List.length (s1.set (Int.toNat i0) (s1.getD (Int.toNat j_) default)))), (1, .fn f1 cs1), (5, .int .i64 i0), (6, .int .i64 j_)]) (H0 := [(oq, ⟨1, List.map encInt (s1.set (Int.toNat i0) (s1.getD (Int.toNat j_) default))⟩)]) rfl (⟨_, _, rfl, rfl, ⟨_, _, rfl, rfl, ⟨_, _, rfl, rfl, ⟨_, _, rfl, rfl, rfl⟩⟩⟩⟩) (⟨_, _, rfl, rfl, rfl⟩) rfl ?_)
       refine V.region (VO.cons rfl (V1.mv ?_))
       refine VO.cons rfl (V1.it ?_)
       refine VO.cons rfl (V1.as ?_)
       refine VO.nil ?_
       exact ⟨(((s1.set (Int.toNat i0) (s1.getD (Int.toNat j_) default)), (IntKind.i64.wrap (i0 + (1 : Int)))), ()), oi hm2, Keeps.mk (ks := [0]) rfl ⟨(someSref (by simp)), rfl, rfl, rfl, trivial⟩ (⟨_, _, rfl, rfl, rfl⟩) rfl⟩
      ·
       replace hm2 := cond_f hc2 hm2
       refine V.skip ?_
       exact ⟨((s1, i0), ()), oi hm2, Keeps.mk (ks := [0]) rfl ⟨(someSref (by simp)), rfl, rfl, rfl, trivial⟩ (⟨_, _, rfl, rfl, rfl⟩) rfl⟩
     ·
      rintro ⟨⟨s2, i1⟩, _⟩ rfl
      try dsimp only at hm1
      refine V.region (VO.cons rfl (V1.mv ?_))
      refine VO.cons rfl (V1.it ?_)
      refine VO.cons rfl (V1.as ?_)
      refine VO.nil ?_
      exact ⟨(m0, (s2, i1, (IntKind.i64.wrap (j_ + (1 : Int)))), ()), hl1 _ (oi hm1).symm, Nat.lt_succ_self _, Keeps.mk (ks := [0]) rfl ⟨(someSref (by simp)), rfl, rfl, rfl, trivial⟩ (⟨_, _, rfl, rfl, rfl⟩) rfl⟩
    ·
     replace hm1 := cond_f hc1 hm1
     refine V.exit ?_
     obtain rfl := hr1 _ (oi hm1).symm
     exact ⟨((s1, i0), ()), rfl, Keeps.mk (ks := [0]) rfl ⟨(someSref (by simp)), rfl, trivial⟩ (⟨_, _, rfl, rfl, rfl⟩) rfl⟩
   ·
    rintro ⟨⟨s0, i⟩, _⟩ rfl
    try dsimp only at hm0
    refine V.seq ?_
    replace hm0 := asrt_some hm0; rcases hm0 with ⟨hh4, hm0⟩
    replace hm0 := asrt_some hm0; rcases hm0 with ⟨hh5, hm0⟩
    refine V.region (VO.cons rfl (V1.mv ?_))
    refine VO.cons rfl (V1.mv ?_)
    refine VO.cons rfl (V1.sliceSw (a := i) (c := (((List.length s0) : Nat) : Int)) rfl rfl esz_69 rfl (Bnd.some rfl hh4.1 _) (Bnd.none _ _) hh4 lt0 ?_)
    refine VO.cons rfl (V1.clearSw (k := 0) (f := encInt) (l := s0) (z := (0 : Int)) rfl rfl rfl rfl rfl esz_69 zk_3 .same rfl rfl hh5 ?_)
    refine VO.weakenK (Keeps.say 0 (y := .sref oq 1 0 (List.length (List.take (0 + Int.toNat i) s0 ++ List.replicate (Int.toNat (((List.length s0) : Nat) : Int) - Int.toNat i) (0 : Int) ++ List.drop ((0 + Int.toNat i) + (Int.toNat (((List.length s0) : Nat) : Int) - Int.toNat i)) s0))) rfl (congrArg (PV.sref oq 1 0) (segLen (z := (0 : Int)) hh5))) ?_
    refine VO.nil (V.seq ?_)
    replace hm0 := asrt_some hm0; rcases hm0 with ⟨hh6, hm0⟩
    refine V.region (VO.cons rfl (V1.mv ?_))
    refine VO.cons rfl (V1.mv ?_)
    refine VO.cons rfl (V1.sliceSw (a := (0 : Int)) (c := i) rfl rfl esz_69 rfl (Bnd.none _ _) (Bnd.some rfl (Int.le_trans hh6.1 hh6.2.1) _) hh6 lt0 ?_)
    refine VO.cons rfl (V1.as ?_)
    refine VO.nil ?_
    replace hm0 := asrt_some hm0; rcases hm0 with ⟨hh7, hm0⟩
    refine V.weakenK (Keeps.cut 4 0 (Int.toNat i - Int.toNat (0 : Int)) (f := encInt) (l := (List.take (0 + Int.toNat i) s0 ++ List.replicate (Int.toNat (((List.length s0) : Nat) : Int) - Int.toNat i) (0 : Int) ++ List.drop ((0 + Int.toNat i) + (Int.toNat (((List.length s0) : Nat) : Int) - Int.toNat i)) s0)) rfl rfl hh7) ?_
    refine V.keep 42 [4] [0] (E0 := [(4, .sref oq 1 0 (List.length (List.take (Int.toNat i - Int.toNat (0 : Int)) (List.take (0 + Int.toNat i) s0 ++ List.replicate (Int.toNat (((List.length s0) : Nat) : Int) - Int.toNat i) (0 : Int) ++ List.drop ((0 + Int.toNat i) + (Int.toNat (((List.length s0) : Nat) : Int) - Int.toNat i)) s0))))]) (H0 := [(oq, ⟨1, List.map encInt (List.take (Int.toNat i - Int.toNat (0 : Int)) (List.take (0 + Int.toNat i) s0 ++ List.replicate (Int.toNat (((List.length s0) : Nat) : Int) - Int.toNat i) (0 : Int) ++ List.drop ((0 + Int.toNat i) + (Int.toNat (((List.length s0) : Nat) : Int) - Int.toNat i)) s0))⟩)]) rfl (⟨_, _, rfl, rfl, rfl⟩) (⟨_, _, rfl, rfl, rfl⟩) rfl ?_
    refine V.ret ?_
    obtain rfl := oi hm0
    exact ⟨_, _, ⟨_, _, rfl, rfl, rfl⟩, List.Sublist.refl _, some oq, (fun e => by cases e), rfl, rfl⟩

theorem ok_impl_ChangedSeries {ρ0 rn : Nat} {list : List Version} {version : Int} {r : List Int × Bool} (h : M.impl_ChangedSeries list version = some r) : Does Try.prog 42 [.vl ρ0 2 (List.map (encVersion ρ0) list), .int .i64 version] [] rn (fun x H => ∃ (ob0_ : Option Nat), (ob0_ = none → r.1 = []) ∧ x = .tup [optS 1 ob0_ (List.length r.1), .bool r.2] ∧ H = optH 1 ob0_ (List.map encInt r.1)) := by
 have hm0 := h; clear h; unfold M.impl_ChangedSeries at hm0
 try dsimp only at hm0
 refine Does.intro (N := 42) Try.func42 rfl rfl rfl rfl ?_
 intro w0 S0
 refine V.seq (V.region (VO.cons rfl (V1.as ?_)))
 refine VO.cons rfl (V1.as ?_)
 refine VO.nil (V.seq (V.seq ?_))
 replace hm0 := bindO hm0; rcases hm0 with ⟨y0, hh0, hm0⟩
 replace hm0 := bindO hm0; rcases hm0 with ⟨y1, hh1, hm0⟩
 refine V.region (VO.cons rfl (V1.mv ?_))
 refine VO.cons rfl (V1.call rfl rfl rfl cok_41 rfl (ok_impl_AreVersions hh0) rfl lt0 ?_)
 rintro _ _ ⟨rfl, rfl⟩
 refine VO.cons rfl (V1.not rfl rfl rfl lt0 ?_)
 refine VO.cons rfl (V1.mv ?_)
 apply VO.or (n := 6) rfl rfl rfl rfl rfl rfl lt0 (.none rfl)
 ·
  intro hg0
  refine VO.step (.some rfl rfl rfl) (V1.mv ?_)
  refine VO.step (.some rfl rfl rfl) (V1.mv ?_)
  refine VO.step (.some rfl rfl rfl) (V1.lenMap rfl rfl rfl rfl rfl rfl isl_57 lt0 ?_)
  refine VO.step (.some rfl rfl rfl) (V1.it ?_)
  refine VO.step (.some rfl rfl rfl) (V1.call rfl rfl rfl cok_57 rfl (ok_impl_within (cond_f hg0 hh1)) rfl lt0 ?_)
  rintro _ _ ⟨rfl, rfl⟩
  refine VO.step (.some rfl rfl rfl) (V1.not rfl rfl rfl lt0 ?_)
  exact VO.nil ⟨rfl, rfl, rfl, rfl, .inr ⟨rfl, .inr ⟨rfl, .inr ⟨rfl, .inr ⟨rfl, .inr ⟨rfl, .inr ⟨rfl, .inr ⟨rfl, .inl rfl⟩⟩⟩⟩⟩⟩⟩⟩
 refine VO.nil (V.keep 42 [0, 1, 19] [] (E0 := [(0, .vl ρ0 2 (List.map (encVersion ρ0) list)), (1, .int .i64 version), (19, .bool ((!y0) || (!y1)))]) (H0 := []) rfl (⟨_, _, rfl, rfl, ⟨_, _, rfl, rfl, ⟨_, _, rfl, rfl, rfl⟩⟩⟩) (rfl) rfl ?_)
 refine V.cond rfl (fun hc0 => ?_) (fun hc0 => ?_)
 ·
  replace hm0 := cond_t hc0 hm0
  refine V.seq (V.region (VO.cons rfl (V1.as ?_)))
  refine VO.cons rfl (V1.as ?_)
  refine VO.nil (V.keep 42 [4, 5] [] (E0 := [(4, .nils), (5, .bool false)]) (H0 := []) rfl (⟨_, _, rfl, rfl, ⟨_, _, rfl, rfl, rfl⟩⟩) (rfl) rfl ?_)
  refine V.ret ?_
  obtain rfl := oi hm0
  exact ⟨_, _, ⟨_, _, rfl, rfl, ⟨_, _, rfl, rfl, rfl⟩⟩, List.Sublist.refl _, none, (fun _ => rfl), rfl, rfl⟩
 ·
  replace hm0 := cond_f hc0 hm0
  refine V.skip ?_
  refine V.seq ?_
  replace hm0 := asrt_some hm0; rcases hm0 with ⟨hh2, hm0⟩
  replace hm0 := asrt_some hm0; rcases hm0 with ⟨hh3, hm0⟩
  replace hm0 := bindO hm0; rcases hm0 with ⟨j0, hm1, hm0⟩
  refine V.cutT (D := (Unit) × (Nat × Nat)) (fun ⟨_, ⟨b2, b3⟩⟩ => ⟨42, [(6, .ref b2 1 0 0), (7, .ref b3 1 0 0)], [(b2, ⟨1, [.vl ρ0 4 (List.map encRule ((list.getD (Int.toNat (IntKind.i64.wrap (version - (1 : Int)))) default).Rules))]⟩), (b3, ⟨1, [.vl ρ0 4 (List.map encRule ((list.getD (Int.toNat version) default).Rules))]⟩)]⟩) (fun ⟨_, ⟨b2, b3⟩⟩ => (() = j0)) ?_ ?_
  ·
   refine V.regionS [] 42 14 [⟨[(0, none)], false⟩, ⟨[(1, none)], false⟩, ⟨[(21, some 1)], false⟩, ⟨[(20, some 0), (22, some 2)], false⟩, ⟨[(23, some 3)], false⟩, ⟨[(24, some 4)], false⟩, ⟨[(0, none)], false⟩, ⟨[(1, none)], false⟩, ⟨[(26, some 6), (27, some 7)], false⟩, ⟨[(28, some 8)], false⟩, ⟨[(29, some 9)], false⟩, ⟨[], true⟩, ⟨[], true⟩, ⟨[(6, some 11), (25, some 5)], true⟩] [(6, some 11), (7, some 12), (30, some 10)] 3 (⟨_, rfl, ⟨_, rfl, ⟨_, rfl, ⟨_, rfl, ⟨_, rfl, ⟨_, rfl, ⟨_, rfl, ⟨_, rfl, ⟨_, rfl, ⟨_, rfl, ⟨_, rfl, ⟨_, rfl, ⟨_, rfl, ⟨_, rfl, ⟨rfl, rfl⟩⟩⟩⟩⟩⟩⟩⟩⟩⟩⟩⟩⟩⟩⟩) mixed_orders rfl (by decide +kernel) ?_
   refine WalkP.step (p := ?pv64) 0 rfl rfl rfl rfl rfl (⟨_, _, rfl, rfl, rfl⟩) ?hv64 ?rest64
   case hv64 =>
    intro E1 H1 hI1
    refine (V1.mv ?_)
    exact rfl
   refine WalkP.step (p := ?pv65) 1 rfl rfl rfl rfl rfl (⟨_, _, rfl, rfl, rfl⟩) ?hv65 ?rest65
   case hv65 =>
    intro E1 H1 hI1
    refine (V1.mv ?_)
    exact rfl
   refine WalkP.step (p := ?pv66) 2 rfl rfl rfl rfl rfl (⟨_, _, rfl, rfl, rfl⟩) ?hv66 ?rest66
   case hv66 =>
    intro E1 H1 hI1
    refine (V1.it ?_)
    exact rfl
   refine WalkP.step (p := ?pv67) 3 rfl rfl rfl rfl rfl (⟨_, _, rfl, rfl, ⟨_, _, rfl, rfl, rfl⟩⟩) ?hv67 ?rest67
   case hv67 =>
    intro E1 H1 hI1
    refine (V1.indexI rfl rfl esz_57 rfl rfl hh2 lt0 ?_)
    exact rfl
   refine WalkP.step (p := ?pv68) 4 rfl rfl rfl rfl rfl (⟨_, _, rfl, rfl, rfl⟩) ?hv68 ?rest68
   case hv68 =>
    intro E1 H1 hI1
    refine (V1.fieldPin rfl rfl fo_60_1 rfl lt0 ?_)
    exact rfl
   refine WalkP.step (p := ?pv69) 5 rfl rfl rfl rfl rfl (⟨_, _, rfl, rfl, rfl⟩) ?hv69 ?rest69
   case hv69 =>
    intro E1 H1 hI1
    refine (V1.loadPin rfl rfl tyk_58 rfl rfl lt0 ?_)
    exact rfl
   refine WalkP.step (p := ?pv70) 6 rfl rfl rfl rfl rfl (⟨_, _, rfl, rfl, rfl⟩) ?hv70 ?rest70
   case hv70 =>
    intro E1 H1 hI1
    refine (V1.mv ?_)
    exact rfl
   refine WalkP.step (p := ?pv71) 7 rfl rfl rfl rfl rfl (⟨_, _, rfl, rfl, rfl⟩) ?hv71 ?rest71
   case hv71 =>
    intro E1 H1 hI1
    refine (V1.mv ?_)
    exact rfl
   refine WalkP.step (p := ?pv72) 8 rfl rfl rfl rfl rfl (⟨_, _, rfl, rfl, ⟨_, _, rfl, rfl, rfl⟩⟩) ?hv72 ?rest72
   case hv72 =>
    intro E1 H1 hI1
    refine (V1.indexI rfl rfl esz_57 rfl rfl hh3 lt0 ?_)
    exact rfl
   refine WalkP.step (p := ?pv73) 9 rfl rfl rfl rfl rfl (⟨_, _, rfl, rfl, rfl⟩) ?hv73 ?rest73
   case hv73 =>
    intro E1 H1 hI1
    refine (V1.fieldPin rfl rfl fo_60_1 rfl lt0 ?_)
    exact rfl
   refine WalkP.step (p := ?pv74) 10 rfl rfl rfl rfl rfl (⟨_, _, rfl, rfl, rfl⟩) ?hv74 ?rest74
   case hv74 =>
    intro E1 H1 hI1
    refine (V1.loadPin rfl rfl tyk_58 rfl rfl lt0 ?_)
    exact rfl
   refine WalkP.nil (NodeS.branch [11, 12] inNil rfl rfl rfl ⟨?_, ?_, trivial⟩)
   ·
    refine ⟨_, _, _, _, rfl, rfl, rfl, (rfl), fun E1 => ?_⟩
    refine (V1.alloc rfl rfl zk_58 lt0 ?_)
    intro b4
    refine ⟨_, _, rfl, ?_⟩
    refine WalkP.nil (NodeS.branch [12] inNil rfl rfl rfl ⟨?_, trivial⟩)
    ·
     refine ⟨_, _, _, _, rfl, rfl, rfl, (rfl), fun E1 => ?_⟩
     refine (V1.alloc rfl rfl zk_58 lt0 ?_)
     intro b5
     refine ⟨_, _, rfl, ?_⟩
     refine WalkP.nil (NodeS.branch [13] inNil rfl rfl rfl ⟨?_, trivial⟩)
     ·
      refine ⟨_, _, _, _, rfl, rfl, rfl, (⟨_, _, rfl, rfl, ⟨_, _, rfl, rfl, rfl⟩⟩), fun E1 => ?_⟩
      refine (V1.storeRefAll (k := 1) rfl rfl tyk_58 rfl rfl rfl rfl rfl rfl ?_)
      refine ⟨.undef, _, rfl, ?_⟩
      refine WalkP.nil (NodeS.fin inNil rfl rfl rfl (⟨_, _, rfl, rfl, ⟨_, _, rfl, rfl, ⟨_, _, rfl, rfl, rfl⟩⟩⟩) ?_)
      refine VO.cons rfl (V1.storeRefAll (k := 0) rfl rfl tyk_58 rfl rfl rfl rfl rfl rfl ?_)
      refine VO.nil ?_
      exact ⟨((), (b4, b5)), oi hm1, Keeps.mk (ks := [1, 0]) rfl ⟨rfl, rfl, trivial⟩ (⟨_, _, rfl, rfl, ⟨_, _, rfl, rfl, rfl⟩⟩) rfl⟩
   ·
    refine ⟨_, _, _, _, rfl, rfl, rfl, (rfl), fun E1 => ?_⟩
    refine (V1.alloc rfl rfl zk_58 lt0 ?_)
    intro b6
    refine ⟨_, _, rfl, ?_⟩
    refine WalkP.nil (NodeS.branch [11] inNil rfl rfl rfl ⟨?_, trivial⟩)
    ·
     refine ⟨_, _, _, _, rfl, rfl, rfl, (rfl), fun E1 => ?_⟩
     refine (V1.alloc rfl rfl zk_58 lt0 ?_)
     intro b7
     refine ⟨_, _, rfl, ?_⟩
     refine WalkP.nil (NodeS.branch [13] inNil rfl rfl rfl ⟨?_, trivial⟩)
     ·
      refine ⟨_, _, _, _, rfl, rfl, rfl, (⟨_, _, rfl, rfl, ⟨_, _, rfl, rfl, rfl⟩⟩), fun E1 => ?_⟩
      refine (V1.storeRefAll (k := 0) rfl rfl tyk_58 rfl rfl rfl rfl rfl rfl ?_)
      refine ⟨.undef, _, rfl, ?_⟩
      refine WalkP.nil (NodeS.fin inNil rfl rfl rfl (⟨_, _, rfl, rfl, ⟨_, _, rfl, rfl, ⟨_, _, rfl, rfl, rfl⟩⟩⟩) ?_)
      refine VO.cons rfl (V1.storeRefAll (k := 1) rfl rfl tyk_58 rfl rfl rfl rfl rfl rfl ?_)
      refine VO.nil ?_
      exact ⟨((), (b7, b6)), oi hm1, Keeps.mk (ks := [0, 1]) rfl ⟨rfl, rfl, trivial⟩ (⟨_, _, rfl, rfl, ⟨_, _, rfl, rfl, rfl⟩⟩) rfl⟩
  ·
   rintro ⟨_, ⟨b2, b3⟩⟩ rfl
   try dsimp only at hm0
   refine V.seq ?_
   replace hm0 := bindO hm0; rcases hm0 with ⟨y2, hh4, hm0⟩
   replace hm0 := bindO hm0; rcases hm0 with ⟨y3, hh5, hm0⟩
   replace hm0 := asrt_some hm0; rcases hm0 with ⟨hh6, hm0⟩
   refine V.regionS [(b2, ⟨1, [.vl ρ0 4 (List.map encRule ((list.getD (Int.toNat (IntKind.i64.wrap (version - (1 : Int)))) default).Rules))]⟩), (b3, ⟨1, [.vl ρ0 4 (List.map encRule ((list.getD (Int.toNat version) default).Rules))]⟩)] 42 3 [⟨[(6, none)], false⟩, ⟨[(31, some 0)], true⟩, ⟨[(7, none)], false⟩] [(6, none), (7, none), (32, some 1), (33, some 2)] 1 (⟨_, rfl, ⟨_, rfl, ⟨_, rfl, ⟨rfl, rfl⟩⟩⟩⟩) mixed_orders rfl (by decide +kernel) ?_
   refine WalkP.step (p := ?pv75) 0 rfl rfl rfl rfl rfl (⟨_, _, rfl, rfl, rfl⟩) ?hv75 ?rest75
   case hv75 =>
    intro E1 H1 hI1
    obtain ⟨k76_, hk76_⟩ := inGet 0 rfl hI1
    refine (V1.loadRef (k := k76_) rfl rfl tyk_58 rfl hk76_ rfl rfl rfl lt0 ?_)
    exact rfl
   refine WalkP.step (p := ?pv77) 2 rfl rfl rfl rfl rfl (⟨_, _, rfl, rfl, rfl⟩) ?hv77 ?rest77
   case hv77 =>
    intro E1 H1 hI1
    obtain ⟨k78_, hk78_⟩ := inGet 1 rfl hI1
    refine (V1.loadRef (k := k78_) rfl rfl tyk_58 rfl hk78_ rfl rfl rfl lt0 ?_)
    exact rfl
   refine WalkP.nil (NodeS.branch [1] (inCons 0 rfl (inCons 1 rfl inNil)) rfl rfl rfl ⟨?_, trivial⟩)
   ·
    refine ⟨_, _, _, _, rfl, rfl, rfl, (⟨_, _, rfl, rfl, rfl⟩), fun E1 => ?_⟩
    refine (V1.permK (V1.call rfl rfl rfl cok_95 rfl (ok_impl_seriesIn hh4) rfl lt0 ?_))
    rintro _ _ ⟨ob2, hob2, rfl, rfl⟩
    refine ⟨_, ?_, Keeps.optBack (n := 1) (ob := ob2) (xs := List.map encInt y2) (H1 := []) (H2 := [(b2, ⟨1, [.vl ρ0 4 (List.map encRule ((list.getD (Int.toNat (IntKind.i64.wrap (version - (1 : Int)))) default).Rules))]⟩), (b3, ⟨1, [.vl ρ0 4 (List.map encRule ((list.getD (Int.toNat version) default).Rules))]⟩)]) rfl⟩
    refine ⟨_, _, rfl, ?_⟩
    refine WalkP.nil (NodeS.fin (inCons 0 rfl (inCons 1 rfl inNil)) rfl rfl rfl (⟨_, _, rfl, rfl, ⟨_, _, rfl, rfl, ⟨_, _, rfl, rfl, ⟨_, _, rfl, rfl, rfl⟩⟩⟩⟩) ?_)
    refine VO.cons rfl (V1.call rfl rfl rfl cok_95 rfl (okz_impl_seriesIn hh5) rfl lt0 ?_)
    rintro _ _ ⟨rfl, rfl⟩
    refine VO.cons rfl (V1.permK (V1.appendOO (f := encInt) (l := y2) (m := y3) [(b2, ⟨1, [.vl ρ0 4 (List.map encRule ((list.getD (Int.toNat (IntKind.i64.wrap (version - (1 : Int)))) default).Rules))]⟩), (b3, ⟨1, [.vl ρ0 4 (List.map encRule ((list.getD (Int.toNat version) default).Rules))]⟩)] hob2 rfl rfl rfl rfl rfl esz_69 eby_69 zk_3 rfl rfl rfl rfl (.vl isl_69) hh6 lt0 ?_))
    intro ob3 hob3
    refine ⟨_, ?_, Keeps.optBack (n := 1) (ob := ob3) (xs := List.map encInt (y2 ++ y3)) (H1 := []) (H2 := [(b2, ⟨1, [.vl ρ0 4 (List.map encRule ((list.getD (Int.toNat (IntKind.i64.wrap (version - (1 : Int)))) default).Rules))]⟩), (b3, ⟨1, [.vl ρ0 4 (List.map encRule ((list.getD (Int.toNat version) default).Rules))]⟩)]) rfl⟩
    refine VO.cons rfl (V1.as ?_)
    refine VO.nil ?_
    rcases ob3 with _ | ob3
    ·
     refine V.seq ?_
     replace hm0 := bindO hm0; rcases hm0 with ⟨y4, hh7, hm0⟩
     replace hm0 := asrt_some hm0; rcases hm0 with ⟨hh8, hm0⟩
     refine V.region (VO.cons rfl (V1.mv ?_))
     refine VO.cons rfl (V1.call rfl rfl rfl cok_96 rfl (ok_slices_Sort_int_int hh7 (oq := none) (s := (y2 ++ y3)) (fun _ => (hob3 rfl))) rfl lt0 ?_)
     rintro _ _ ⟨rfl, rfl⟩
     refine VO.nil (V.seq ?_)
     replace hm0 := bindO hm0; rcases hm0 with ⟨y5, hh9, hm0⟩
     replace hm0 := bindO hm0; rcases hm0 with ⟨y6, hh10, hm0⟩
     refine V.region (VO.cons rfl (V1.mv ?_))
     refine VO.cons rfl (V1.permK (V1.call rfl rfl rfl cok_98 rfl (ok_slices_Compact_int_int hh9 (oq := none) (s := y4) (fun _ => (List.length_eq_zero_iff.1 (hh8.trans (congrArg List.length (hob3 rfl)))))) rfl lt0 ?_))
     rintro _ _ ⟨ob4, hob4, rfl, rfl⟩
     refine ⟨_, ?_, Keeps.optBack (n := 1) (ob := ob4) (xs := List.map encInt y5) (H1 := []) (H2 := [(b2, ⟨1, [.vl ρ0 4 (List.map encRule ((list.getD (Int.toNat (IntKind.i64.wrap (version - (1 : Int)))) default).Rules))]⟩), (b3, ⟨1, [.vl ρ0 4 (List.map encRule ((list.getD (Int.toNat version) default).Rules))]⟩)]) rfl⟩
     refine VO.cons rfl (V1.makeFunc rfl rfl rfl lt0 ?_)
     refine VO.cons rfl (V1.permK (V1.callO (n := 1) (ob := ob4) (xs := List.map encInt y5) (rn + 1) [b2, b3] [optS 1 ob4 (List.length y5), .fn 99 [.pin (rn + 1) (.vl ρ0 4 (List.map encRule ((list.getD (Int.toNat (IntKind.i64.wrap (version - (1 : Int)))) default).Rules))) 0, .pin (rn + 1) (.vl ρ0 4 (List.map encRule ((list.getD (Int.toNat version) default).Rules))) 0]] [(b2, ⟨1, [.vl ρ0 4 (List.map encRule ((list.getD (Int.toNat (IntKind.i64.wrap (version - (1 : Int)))) default).Rules))]⟩), (b3, ⟨1, [.vl ρ0 4 (List.map encRule ((list.getD (Int.toNat version) default).Rules))]⟩)] rfl rfl rfl cok_97 rfl rfl ⟨_, _, rfl, .same _, ⟨_, _, rfl, Lend.fn ⟨_, _, rfl, Lend.ref 0 rfl rfl rfl rfl (.head _), ⟨_, _, rfl, Lend.ref 1 rfl rfl rfl rfl (.tail _ (.head _)), rfl⟩⟩, rfl⟩⟩ (bwCons (k := 0) rfl (bwCons (k := 1) rfl bwNil)) (ok_slices_DeleteFunc_int_int hh10 (oq := ob4) hob4 (fm := (fun x0 => M.impl_ChangedSeries_1 x0 ((list.getD (Int.toNat (IntKind.i64.wrap (version - (1 : Int)))) default).Rules) ((list.getD (Int.toNat version) default).Rules))) cok_99 (fun _ _ h => ok_impl_ChangedSeries_1 h)) rfl (.inr ⟨(by first | omega | (dsimp only; omega)), by rintro _ _ ⟨ob5, hob5, rfl, rfl⟩; exact ⟨by simp [PV.no, PV.noL, optS_no, noL_iff, nbeq] <;> omega, by intro b ob h; first | exact optH_no (noL_map (fun _ => by simp [PV.no, PV.noL, noL_iff, nbeq]) _) b ob h | (simp only [List.append_assoc, List.mem_append, List.mem_cons, List.mem_singleton, List.not_mem_nil, or_false, Prod.mk.injEq] at h; rcases h with ⟨rfl, rfl⟩ | ⟨rfl, rfl⟩ <;> first | exact noL_map (fun _ => by simp [PV.no, PV.noL, noL_iff, nbeq]) _ | (simp [PV.no, PV.noL, optS_no, noL_iff, nbeq] <;> omega)) | (simp at h; obtain ⟨rfl, rfl⟩ := h; exact noL_map (fun _ => by simp [PV.no, PV.noL, noL_iff, nbeq]) _) | (simp at h; obtain ⟨rfl, rfl⟩ := h; simp [PV.no, PV.noL, optS_no, noL_iff, nbeq] <;> omega)⟩⟩) lt0 ?_))
     rintro _ _ ⟨ob5, hob5, rfl, rfl⟩
     refine ⟨_, ?_, Keeps.optBack (n := 1) (ob := ob5) (xs := List.map encInt y6) (H1 := []) (H2 := [(b2, ⟨1, [.vl ρ0 4 (List.map encRule ((list.getD (Int.toNat (IntKind.i64.wrap (version - (1 : Int)))) default).Rules))]⟩), (b3, ⟨1, [.vl ρ0 4 (List.map encRule ((list.getD (Int.toNat version) default).Rules))]⟩)]) rfl⟩
     refine VO.cons rfl (V1.as ?_)
     refine VO.cons rfl (V1.as ?_)
     refine VO.nil ?_
     rcases ob5 with _ | ob5
     ·
      refine V.keep 42 [4, 5] [] (E0 := [(4, .nils), (5, .bool true)]) (H0 := []) rfl (⟨_, _, rfl, rfl, ⟨_, _, rfl, rfl, rfl⟩⟩) (rfl) rfl ?_
      refine V.ret ?_
      obtain rfl := oi hm0
      exact ⟨_, _, ⟨_, _, rfl, rfl, ⟨_, _, rfl, rfl, rfl⟩⟩, List.Sublist.refl _, none, (fun _ => (hob5 rfl)), rfl, rfl⟩
     ·
      refine V.keep 42 [4, 5] [2] (E0 := [(4, .sref ob5 1 0 (List.length y6)), (5, .bool true)]) (H0 := [(ob5, ⟨1, List.map encInt y6⟩)]) rfl (⟨_, _, rfl, rfl, ⟨_, _, rfl, rfl, rfl⟩⟩) (⟨_, _, rfl, rfl, rfl⟩) rfl ?_
      refine V.ret ?_
      obtain rfl := oi hm0
      exact ⟨_, _, ⟨_, _, rfl, rfl, ⟨_, _, rfl, rfl, rfl⟩⟩, List.Sublist.refl _, some ob5, (fun e => by cases e), rfl, rfl⟩
    ·
     refine V.seq ?_
     replace hm0 := bindO hm0; rcases hm0 with ⟨y4, hh7, hm0⟩
     replace hm0 := asrt_some hm0; rcases hm0 with ⟨hh8, hm0⟩
     refine V.region (VO.cons rfl (V1.mv ?_))
     refine VO.cons rfl (V1.callM 2 (rn + 1) [] [.sref ob3 1 0 (List.length (y2 ++ y3))] (p := (ob3, ⟨1, List.map encInt (y2 ++ y3)⟩)) rfl rfl rfl cok_96 rfl rfl ⟨_, _, rfl, .same _, rfl⟩ bwNil (ok_slices_Sort_int_int hh7 (oq := some ob3) (fun e => by cases e)) rfl (.inl rfl) lt0 ?_)
     rintro _ _ ⟨rfl, rfl⟩
     refine VO.weakenK (Keeps.say 8 (y := .sref ob3 1 0 (List.length y4)) rfl (congrArg (PV.sref ob3 1 0) hh8.symm)) ?_
     refine VO.nil (V.seq ?_)
     replace hm0 := bindO hm0; rcases hm0 with ⟨y5, hh9, hm0⟩
     replace hm0 := bindO hm0; rcases hm0 with ⟨y6, hh10, hm0⟩
     refine V.region (VO.cons rfl (V1.mv ?_))
     refine VO.cons rfl (V1.permK (V1.callM 0 (rn + 1) [] [.sref ob3 1 0 (List.length y4)] (p := (ob3, ⟨1, List.map encInt y4⟩)) rfl rfl rfl cok_98 rfl rfl ⟨_, _, rfl, .same _, rfl⟩ bwNil (ok_slices_Compact_int_int hh9 (oq := some ob3) (fun e => by cases e)) rfl (.inl rfl) lt0 ?_))
     rintro _ _ ⟨ob4, hob4, rfl, rfl⟩
     refine ⟨_, ?_, Keeps.optBack (n := 1) (ob := ob4) (xs := List.map encInt y5) (H1 := []) (H2 := [(b2, ⟨1, [.vl ρ0 4 (List.map encRule ((list.getD (Int.toNat (IntKind.i64.wrap (version - (1 : Int)))) default).Rules))]⟩), (b3, ⟨1, [.vl ρ0 4 (List.map encRule ((list.getD (Int.toNat version) default).Rules))]⟩)]) rfl⟩
     refine VO.cons rfl (V1.makeFunc rfl rfl rfl lt0 ?_)
     refine VO.cons rfl (V1.permK (V1.callO (n := 1) (ob := ob4) (xs := List.map encInt y5) (rn + 1) [b2, b3] [optS 1 ob4 (List.length y5), .fn 99 [.pin (rn + 1) (.vl ρ0 4 (List.map encRule ((list.getD (Int.toNat (IntKind.i64.wrap (version - (1 : Int)))) default).Rules))) 0, .pin (rn + 1) (.vl ρ0 4 (List.map encRule ((list.getD (Int.toNat version) default).Rules))) 0]] [(b2, ⟨1, [.vl ρ0 4 (List.map encRule ((list.getD (Int.toNat (IntKind.i64.wrap (version - (1 : Int)))) default).Rules))]⟩), (b3, ⟨1, [.vl ρ0 4 (List.map encRule ((list.getD (Int.toNat version) default).Rules))]⟩)] rfl rfl rfl cok_97 rfl rfl ⟨_, _, rfl, .same _, ⟨_, _, rfl, Lend.fn ⟨_, _, rfl, Lend.ref 0 rfl rfl rfl rfl (.head _), ⟨_, _, rfl, Lend.ref 1 rfl rfl rfl rfl (.tail _ (.head _)), rfl⟩⟩, rfl⟩⟩ (bwCons (k := 0) rfl (bwCons (k := 1) rfl bwNil)) (ok_slices_DeleteFunc_int_int hh10 (oq := ob4) hob4 (fm := (fun x0 => M.impl_ChangedSeries_1 x0 ((list.getD (Int.toNat (IntKind.i64.wrap (version - (1 : Int)))) default).Rules) ((list.getD (Int.toNat version) default).Rules))) cok_99 (fun _ _ h => ok_impl_ChangedSeries_1 h)) rfl (.inr ⟨(by first | omega | (dsimp only; omega)), by rintro _ _ ⟨ob5, hob5, rfl, rfl⟩; exact ⟨by simp [PV.no, PV.noL, optS_no, noL_iff, nbeq] <;> omega, by intro b ob h; first | exact optH_no (noL_map (fun _ => by simp [PV.no, PV.noL, noL_iff, nbeq]) _) b ob h | (simp only [List.append_assoc, List.mem_append, List.mem_cons, List.mem_singleton, List.not_mem_nil, or_false, Prod.mk.injEq] at h; rcases h with ⟨rfl, rfl⟩ | ⟨rfl, rfl⟩ <;> first | exact noL_map (fun _ => by simp [PV.no, PV.noL, noL_iff, nbeq]) _ | (simp [PV.no, PV.noL, optS_no, noL_iff, nbeq] <;> omega)) | (simp at h; obtain ⟨rfl, rfl⟩ := h; exact noL_map (fun _ => by simp [PV.no, PV.noL, noL_iff, nbeq]) _) | (simp at h; obtain ⟨rfl, rfl⟩ := h; simp [PV.no, PV.noL, optS_no, noL_iff, nbeq] <;> omega)⟩⟩) lt0 ?_))
     rintro _ _ ⟨ob5, hob5, rfl, rfl⟩
     refine ⟨_, ?_, Keeps.optBack (n := 1) (ob := ob5) (xs := List.map encInt y6) (H1 := []) (H2 := [(b2, ⟨1, [.vl ρ0 4 (List.map encRule ((list.getD (Int.toNat (IntKind.i64.wrap (version - (1 : Int)))) default).Rules))]⟩), (b3, ⟨1, [.vl ρ0 4 (List.map encRule ((list.getD (Int.toNat version) default).Rules))]⟩)]) rfl⟩
     refine VO.cons rfl (V1.as ?_)
     refine VO.cons rfl (V1.as ?_)
     refine VO.nil ?_
     rcases ob5 with _ | ob5
     ·
      refine V.keep 42 [4, 5] [] (E0 := [(4, .nils), (5, .bool true)]) (H0 := []) rfl (⟨_, _, rfl, rfl, ⟨_, _, rfl, rfl, rfl⟩⟩) (rfl) rfl ?_
      refine V.ret ?_
      obtain rfl := oi hm0
      exact ⟨_, _, ⟨_, _, rfl, rfl, ⟨_, _, rfl, rfl, rfl⟩⟩, List.Sublist.refl _, none, (fun _ => (hob5 rfl)), rfl, rfl⟩
     ·
      refine V.keep 42 [4, 5] [2] (E0 := [(4, .sref ob5 1 0 (List.length y6)), (5, .bool true)]) (H0 := [(ob5, ⟨1, List.map encInt y6⟩)]) rfl (⟨_, _, rfl, rfl, ⟨_, _, rfl, rfl, rfl⟩⟩) (⟨_, _, rfl, rfl, rfl⟩) rfl ?_
      refine V.ret ?_
      obtain rfl := oi hm0
      exact ⟨_, _, ⟨_, _, rfl, rfl, ⟨_, _, rfl, rfl, rfl⟩⟩, List.Sublist.refl _, some ob5, (fun e => by cases e), rfl, rfl⟩

theorem ok_impl_RulesFor {ρ0 rn : Nat} {list : List Rule} {series : Int} {r : List Rule × Bool} (h : M.impl_RulesFor list series = some r) : Does Try.prog 43 [.vl ρ0 4 (List.map encRule list), .int .i64 series] [] rn (fun x H => ∃ (ob0_ : Option Nat), (ob0_ = none → r.1 = []) ∧ x = .tup [optS 4 ob0_ (List.length r.1), .bool r.2] ∧ H = optH 4 ob0_ (List.map encRule r.1)) := by
 have hm0 := h; clear h; unfold M.impl_RulesFor at hm0
 try dsimp only at hm0
 refine Does.intro (N := 17) Try.func43 rfl rfl rfl rfl ?_
 intro w0 S0
 refine V.seq (V.region (VO.cons rfl (V1.as ?_)))
 refine VO.cons rfl (V1.as ?_)
 refine VO.nil (V.seq (V.seq ?_))
 replace hm0 := bindO hm0; rcases hm0 with ⟨y0, hh0, hm0⟩
 replace hm0 := bindO hm0; rcases hm0 with ⟨y1, hh1, hm0⟩
 refine V.region (VO.cons rfl (V1.mv ?_))
 refine VO.cons rfl (V1.call rfl rfl rfl cok_94 rfl (ok_impl_IsSchedule hh0) rfl lt0 ?_)
 rintro _ _ ⟨rfl, rfl⟩
 refine VO.cons rfl (V1.not rfl rfl rfl lt0 ?_)
 refine VO.cons rfl (V1.mv ?_)
 apply VO.or (n := 3) rfl rfl rfl rfl rfl rfl lt0 (.none rfl)
 ·
  intro hg0
  refine VO.step (.some rfl rfl rfl) (V1.mv ?_)
  refine VO.step (.some rfl rfl rfl) (V1.call rfl rfl rfl cok_55 rfl (ok_impl_isId (cond_f hg0 hh1)) rfl lt0 ?_)
  rintro _ _ ⟨rfl, rfl⟩
  refine VO.step (.some rfl rfl rfl) (V1.not rfl rfl rfl lt0 ?_)
  exact VO.nil ⟨rfl, rfl, rfl, rfl, .inr ⟨rfl, .inr ⟨rfl, .inr ⟨rfl, .inr ⟨rfl, .inl rfl⟩⟩⟩⟩⟩
 refine VO.nil (V.keep 17 [0, 1, 13] [] (E0 := [(0, .vl ρ0 4 (List.map encRule list)), (1, .int .i64 series), (13, .bool ((!y0) || (!y1)))]) (H0 := []) rfl (⟨_, _, rfl, rfl, ⟨_, _, rfl, rfl, ⟨_, _, rfl, rfl, rfl⟩⟩⟩) (rfl) rfl ?_)
 refine V.cond rfl (fun hc0 => ?_) (fun hc0 => ?_)
 ·
  replace hm0 := cond_t hc0 hm0
  refine V.seq (V.region (VO.cons rfl (V1.as ?_)))
  refine VO.cons rfl (V1.as ?_)
  refine VO.nil (V.keep 17 [4, 5] [] (E0 := [(4, .nils), (5, .bool false)]) (H0 := []) rfl (⟨_, _, rfl, rfl, ⟨_, _, rfl, rfl, rfl⟩⟩) (rfl) rfl ?_)
  refine V.ret ?_
  obtain rfl := oi hm0
  exact ⟨_, _, ⟨_, _, rfl, rfl, ⟨_, _, rfl, rfl, rfl⟩⟩, List.Sublist.refl _, none, (fun _ => rfl), rfl, rfl⟩
 ·
  replace hm0 := cond_f hc0 hm0
  refine V.skip ?_
  refine V.seq ?_
  replace hm0 := bindO hm0; rcases hm0 with ⟨y2, hh2, hm0⟩
  refine V.region (VO.cons rfl (V1.mv ?_))
  refine VO.cons rfl (V1.mv ?_)
  refine VO.cons rfl (V1.permK (V1.call rfl rfl rfl cok_101 rfl (ok_impl_rulesFor hh2) rfl lt0 ?_))
  rintro _ _ ⟨ob0, hob0, rfl, rfl⟩
  refine ⟨_, ?_, Keeps.optBack (n := 4) (ob := ob0) (xs := List.map encRule y2) (H1 := []) (H2 := []) rfl⟩
  refine VO.cons rfl (V1.as ?_)
  refine VO.cons rfl (V1.as ?_)
  refine VO.nil ?_
  rcases ob0 with _ | ob0
  ·
   refine V.keep 17 [4, 5] [] (E0 := [(4, .nils), (5, .bool true)]) (H0 := []) rfl (⟨_, _, rfl, rfl, ⟨_, _, rfl, rfl, rfl⟩⟩) (rfl) rfl ?_
   refine V.ret ?_
   obtain rfl := oi hm0
   exact ⟨_, _, ⟨_, _, rfl, rfl, ⟨_, _, rfl, rfl, rfl⟩⟩, List.Sublist.refl _, none, (fun _ => (hob0 rfl)), rfl, rfl⟩
  ·
   refine V.keep 17 [4, 5] [0] (E0 := [(4, .sref ob0 4 0 (List.length y2)), (5, .bool true)]) (H0 := [(ob0, ⟨4, List.map encRule y2⟩)]) rfl (⟨_, _, rfl, rfl, ⟨_, _, rfl, rfl, rfl⟩⟩) (⟨_, _, rfl, rfl, rfl⟩) rfl ?_
   refine V.ret ?_
   obtain rfl := oi hm0
   exact ⟨_, _, ⟨_, _, rfl, rfl, ⟨_, _, rfl, rfl, rfl⟩⟩, List.Sublist.refl _, some ob0, (fun e => by cases e), rfl, rfl⟩

theorem ok_spec_l2Event {rn : Nat} {e_ : Event} {r : Bool} (h : M.spec_l2Event e_ = some r) : Does Try.prog 73 [encEvent e_] [] rn (fun x H => x = .bool r ∧ H = []) := by
 have hm0 := h; clear h; unfold M.spec_l2Event at hm0
 try dsimp only at hm0
 refine Does.intro (N := 11) Try.func73 rfl rfl rfl rfl ?_
 intro w0 S0
 refine V.seq (V.region (VO.cons rfl (V1.boxN (n := 2) rfl rfl rfl rfl rfl lt0 ?_)))
 intro b0
 refine VO.cons rfl (V1.as ?_)
 refine VO.nil (V.seq ?_)
 replace hm0 := bindO hm0; rcases hm0 with ⟨y0, hh0, hm0⟩
 replace hm0 := bindO hm0; rcases hm0 with ⟨y1, hh1, hm0⟩
 refine V.region (VO.cons rfl (V1.fieldRef rfl rfl fo_46_0 rfl lt0 ?_))
 refine VO.cons rfl (V1.loadRef (k := 0) rfl rfl tyk_3 rfl rfl rfl rfl rfl lt0 ?_)
 refine VO.cons rfl (V1.call rfl rfl rfl cok_60 rfl (ok_spec_l1In hh0) rfl lt0 ?_)
 rintro _ _ ⟨rfl, rfl⟩
 refine VO.cons rfl (V1.mv ?_)
 apply VO.and (n := 3) rfl rfl rfl rfl rfl rfl lt0 (.none rfl)
 ·
  intro hg0
  refine VO.step (.some rfl rfl rfl) (V1.fieldRef rfl rfl fo_46_1 rfl lt0 ?_)
  refine VO.step (.some rfl rfl rfl) (V1.loadRef (k := 0) rfl rfl tyk_3 rfl rfl rfl rfl rfl lt0 ?_)
  refine VO.step (.some rfl rfl rfl) (V1.call rfl rfl rfl cok_62 rfl (ok_spec_l2Day (cond_t hg0 hh1)) rfl lt0 ?_)
  rintro _ _ ⟨rfl, rfl⟩
  exact VO.nil ⟨rfl, rfl, rfl, rfl, .inr ⟨rfl, .inr ⟨rfl, .inr ⟨rfl, .inr ⟨rfl, .inl rfl⟩⟩⟩⟩⟩
 refine VO.cons rfl (V1.as ?_)
 refine VO.nil (V.ret ?_)
 obtain rfl := oi hm0
 exact ⟨_, [], ⟨_, _, rfl, rfl, rfl⟩, List.nil_sublist _, rfl, rfl⟩

theorem ok_spec_l2Record {ρ0 rn : Nat} {r_ : Record} {r : Bool} (h : M.spec_l2Record r_ = some r) : Does Try.prog 72 [encRecord ρ0 r_] [] rn (fun x H => x = .bool r ∧ H = []) := by
 have hm0 := h; clear h; unfold M.spec_l2Record at hm0
 try dsimp only at hm0
 refine Does.intro (N := 62) Try.func72 rfl rfl rfl rfl ?_
 intro w0 S0
 refine V.seq (V.region (VO.cons rfl (V1.boxN (n := 4) rfl rfl rfl rfl rfl lt0 ?_)))
 intro b0
 refine VO.cons rfl (V1.as ?_)
 refine VO.nil (V.seq (V.seq (V.region (VO.cons rfl (V1.as ?_)))))
 refine VO.nil ?_
 replace hm0 := bindO hm0; rcases hm0 with ⟨e0, he1, hm0⟩
 refine V.cutT (D := (Unit) × (Unit)) (fun ⟨_, _⟩ => ⟨62, [(1, .ref b0 4 0 0)], [(b0, ⟨4, [encRecord ρ0 r_]⟩)]⟩) (fun ⟨_, _⟩ => (.inl () = e0)) ?_ ?_
 ·
  refine V.block ?_
  refine V.keep 62 [3, 1] [0] (E0 := [(3, .int .i64 (0 : Int)), (1, .ref b0 4 0 0)]) (H0 := [(b0, ⟨4, [encRecord ρ0 r_]⟩)]) rfl (⟨_, _, rfl, rfl, ⟨_, _, rfl, rfl, rfl⟩⟩) (⟨_, _, rfl, rfl, rfl⟩) rfl ?_
  refine V.loopE (D := Nat × (Int) × (Unit)) (fun ⟨n0, i, _⟩ => [(3, .int .i64 i)]) (fun ⟨n0, i, _⟩ => []) (fun ⟨n0, i, _⟩ => loopO (M.spec_l2Record_l0 r_) n0 i = some e0) (fun ⟨n0, _, _⟩ => n0) (rounds, (0 : Int), ()) rfl he1 ?_
  rintro ⟨n0, i, _⟩ hP0
  obtain ⟨m0, y0, rfl, hm1, hl1, hr1⟩ := loop_head hP0
  unfold M.spec_l2Record_l0 at hm1; dsimp only at hm1
  show V _ _ _ ⟨62, [(3, .int .i64 i), (1, .ref b0 4 0 0)], [(b0, ⟨4, [encRecord ρ0 r_]⟩)]⟩
  refine V.seq (V.seq (V.region (VO.cons rfl (V1.mv ?_))))
  refine VO.cons rfl (V1.fieldRef rfl rfl fo_44_3 rfl lt0 ?_)
  refine VO.cons rfl (V1.loadRef (k := 0) rfl rfl tyk_42 rfl rfl rfl rfl rfl lt0 ?_)
  refine VO.cons rfl (V1.lenMap rfl rfl rfl rfl rfl rfl isl_42 lt0 ?_)
  refine VO.cons rfl (V1.it ?_)
  refine VO.nil (V.keep 62 [1, 3, 9] [0] (E0 := [(1, .ref b0 4 0 0), (3, .int .i64 i), (9, .bool (decide (i < (r_.Events.length : Int))))]) (H0 := [(b0, ⟨4, [encRecord ρ0 r_]⟩)]) rfl (⟨_, _, rfl, rfl, ⟨_, _, rfl, rfl, ⟨_, _, rfl, rfl, rfl⟩⟩⟩) (⟨_, _, rfl, rfl, rfl⟩) rfl ?_)
  refine V.cond rfl (fun hc0 => ?_) (fun hc0 => ?_)
  ·
   replace hm1 := cond_t hc0 hm1
   refine V.skip ?_
   refine V.seq (V.block ?_)
   refine V.seq ?_
   replace hm1 := asrt_some hm1; rcases hm1 with ⟨hh0, hm1⟩
   refine V.region (VO.cons rfl (V1.fieldRef rfl rfl fo_44_3 rfl lt0 ?_))
   refine VO.cons rfl (V1.loadRef (k := 0) rfl rfl tyk_42 rfl rfl rfl rfl rfl lt0 ?_)
   refine VO.cons rfl (V1.mv ?_)
   refine VO.cons rfl (V1.indexI rfl rfl esz_42 rfl rfl hh0 lt0 ?_)
   refine VO.cons rfl (V1.loadPinAll rfl rfl tyk_46 rfl rfl lt0 ?_)
   refine VO.cons rfl (V1.alloc rfl rfl zk_46 lt0 ?_)
   intro b1
   refine VO.cons rfl (V1.storeRefAll (k := 0) rfl rfl tyk_46 rfl rfl rfl rfl rfl rfl ?_)
   refine VO.nil (V.keep 62 [1, 3, 4] [0, 1] (E0 := [(1, .ref b0 4 0 0), (3, .int .i64 i), (4, .ref b1 2 0 0)]) (H0 := [(b1, ⟨2, [encEvent (r_.Events.getD (Int.toNat i) default)]⟩), (b0, ⟨4, [encRecord ρ0 r_]⟩)]) rfl (⟨_, _, rfl, rfl, ⟨_, _, rfl, rfl, ⟨_, _, rfl, rfl, rfl⟩⟩⟩) (⟨_, _, rfl, rfl, ⟨_, _, rfl, rfl, rfl⟩⟩) rfl ?_)
   refine V.seq ?_
   replace hm1 := bindO hm1; rcases hm1 with ⟨y1, hh1, hm1⟩
   replace hm1 := asrt_some hm1; rcases hm1 with ⟨hh2, hm1⟩
   refine V.regionM 62 26 [⟨[(4, none)], [], none⟩, ⟨[(17, some 0)], [], none⟩, ⟨[(18, some 0)], [], none⟩, ⟨[(19, some 0)], [], none⟩, ⟨[(4, none)], [(0, false)], none⟩, ⟨[(21, some 0)], [(1, false)], none⟩, ⟨[(1, none)], [(2, false)], none⟩, ⟨[(23, some 0)], [(3, false)], none⟩, ⟨[(22, some 2), (24, some 0)], [(4, false)], none⟩, ⟨[], [], some (false, 20, 25, 5, 0)⟩, ⟨[(26, some 0)], [], none⟩, ⟨[(3, none)], [(0, false)], none⟩, ⟨[(28, some 0)], [(1, false)], none⟩, ⟨[(29, some 0)], [(2, false)], none⟩, ⟨[(1, none)], [(0, true), (3, false)], none⟩, ⟨[(31, some 0)], [(1, true), (4, false)], none⟩, ⟨[(3, none)], [(2, true), (5, false)], none⟩, ⟨[(33, some 0)], [(3, true), (6, false)], none⟩, ⟨[(32, some 2), (34, some 0)], [(4, true), (7, false)], none⟩, ⟨[(35, some 0)], [(5, true), (8, false)], none⟩, ⟨[(36, some 0)], [(6, true), (9, false)], none⟩, ⟨[(4, none)], [(7, true), (10, false)], none⟩, ⟨[(38, some 0)], [(8, true), (11, false)], none⟩, ⟨[(37, some 2), (39, some 0)], [(9, true), (12, false)], none⟩, ⟨[], [(13, false)], some (true, 30, 40, 10, 0)⟩, ⟨[], [], some (false, 27, 41, 14, 0)⟩] [(1, none), (3, none), (42, some 0)] (⟨_, rfl, ⟨_, rfl, ⟨_, rfl, ⟨_, rfl, ⟨_, rfl, ⟨_, rfl, ⟨_, rfl, ⟨_, rfl, ⟨_, rfl, ⟨_, rfl, ⟨_, rfl, ⟨_, rfl, ⟨_, rfl, ⟨_, rfl, ⟨_, rfl, ⟨_, rfl, ⟨_, rfl, ⟨_, rfl, ⟨_, rfl, ⟨_, rfl, ⟨_, rfl, ⟨_, rfl, ⟨_, rfl, ⟨_, rfl, ⟨_, rfl, ⟨_, rfl, ⟨rfl, rfl⟩⟩⟩⟩⟩⟩⟩⟩⟩⟩⟩⟩⟩⟩⟩⟩⟩⟩⟩⟩⟩⟩⟩⟩⟩⟩⟩) mixed_orders rfl (by decide +kernel) (fun hck5 => ?_)
   refine VP.step (p := ?pv185) rfl rfl rfl (⟨_, _, rfl, rfl, rfl⟩) ?hv185 ?rest185 hck5
   case hv185 =>
    intro E1
    refine (V1.loadRefAll (k := 0) rfl rfl tyk_46 rfl rfl rfl rfl rfl lt0 ?_)
    exact rfl
   refine VP.step (p := ?pv186) rfl rfl rfl (⟨_, _, rfl, rfl, rfl⟩) ?hv186 ?rest186 hck5
   case hv186 =>
    intro E1
    refine (V1.call rfl rfl rfl cok_73 rfl (ok_spec_l2Event hh1) rfl lt0 ?_)
    rintro _ _ ⟨rfl, rfl⟩
    exact rfl
   refine VP.step (p := ?pv187) rfl rfl rfl (⟨_, _, rfl, rfl, rfl⟩) ?hv187 ?rest187 hck5
   case hv187 =>
    intro E1
    refine (V1.not rfl rfl rfl lt0 ?_)
    exact rfl
   refine VP.step (p := ?pv188) rfl rfl rfl (⟨_, _, rfl, rfl, rfl⟩) ?hv188 ?rest188 hck5
   case hv188 =>
    intro E1
    refine (V1.mv ?_)
    exact rfl
   refine VP.step (p := ?pv189) rfl rfl rfl (⟨_, _, rfl, rfl, rfl⟩) ?hv189 ?rest189 hck5
   case hv189 =>
    refine ⟨_, rfl, fun hg0 => ?_⟩
    intro E1
    refine (V1.fieldRef rfl rfl fo_46_1 rfl lt0 ?_)
    exact rfl
   refine VP.step (p := ?pv190) rfl rfl rfl (⟨_, _, rfl, rfl, rfl⟩) ?hv190 ?rest190 hck5
   case hv190 =>
    refine ⟨_, rfl, fun hg0 => ?_⟩
    intro E1
    refine (V1.loadRef (k := 0) rfl rfl tyk_3 rfl rfl rfl rfl rfl lt0 ?_)
    exact rfl
   refine VP.step (p := ?pv191) rfl rfl rfl (⟨_, _, rfl, rfl, rfl⟩) ?hv191 ?rest191 hck5
   case hv191 =>
    refine ⟨_, rfl, fun hg0 => ?_⟩
    intro E1
    refine (V1.fieldRef rfl rfl fo_44_2 rfl lt0 ?_)
    exact rfl
   refine VP.step (p := ?pv192) rfl rfl rfl (⟨_, _, rfl, rfl, rfl⟩) ?hv192 ?rest192 hck5
   case hv192 =>
    refine ⟨_, rfl, fun hg0 => ?_⟩
    intro E1
    refine (V1.loadRef (k := 1) rfl rfl tyk_3 rfl rfl rfl rfl rfl lt0 ?_)
    exact rfl
   refine VP.step (p := ?pv193) rfl rfl rfl (⟨_, _, rfl, rfl, ⟨_, _, rfl, rfl, rfl⟩⟩) ?hv193 ?rest193 hck5
   case hv193 =>
    refine ⟨_, rfl, fun hg0 => ?_⟩
    intro E1
    refine (V1.it ?_)
    exact rfl
   refine VP.pickOr rfl rfl rfl rfl rfl rfl (trivial) ?_ hck5
   refine VP.step (p := ?pv194) rfl rfl rfl (⟨_, _, rfl, rfl, rfl⟩) ?hv194 ?rest194 hck5
   case hv194 =>
    intro E1
    refine (V1.mv ?_)
    exact rfl
   refine VP.step (p := ?pv195) rfl rfl rfl (⟨_, _, rfl, rfl, rfl⟩) ?hv195 ?rest195 hck5
   case hv195 =>
    refine ⟨_, rfl, fun hg1 => ?_⟩
    intro E1
    refine (V1.mv ?_)
    exact rfl
   refine VP.step (p := ?pv196) rfl rfl rfl (⟨_, _, rfl, rfl, rfl⟩) ?hv196 ?rest196 hck5
   case hv196 =>
    refine ⟨_, rfl, fun hg1 => ?_⟩
    intro E1
    refine (V1.it ?_)
    exact rfl
   refine VP.step (p := ?pv197) rfl rfl rfl (⟨_, _, rfl, rfl, rfl⟩) ?hv197 ?rest197 hck5
   case hv197 =>
    refine ⟨_, rfl, fun hg1 => ?_⟩
    intro E1
    refine (V1.mv ?_)
    exact rfl
   refine VP.step (p := ?pv198) rfl rfl rfl (⟨_, _, rfl, rfl, rfl⟩) ?hv198 ?rest198 hck5
   case hv198 =>
    refine ⟨_, rfl, fun hg2 => ?_⟩
    refine ⟨_, rfl, fun hg1 => ?_⟩
    intro E1
    refine (V1.fieldRef rfl rfl fo_44_3 rfl lt0 ?_)
    exact rfl
   refine VP.step (p := ?pv199) rfl rfl rfl (⟨_, _, rfl, rfl, rfl⟩) ?hv199 ?rest199 hck5
   case hv199 =>
    refine ⟨_, rfl, fun hg2 => ?_⟩
    refine ⟨_, rfl, fun hg1 => ?_⟩
    intro E1
    refine (V1.loadRef (k := 1) rfl rfl tyk_42 rfl rfl rfl rfl rfl lt0 ?_)
    exact rfl
   refine VP.step (p := ?pv200) rfl rfl rfl (⟨_, _, rfl, rfl, rfl⟩) ?hv200 ?rest200 hck5
   case hv200 =>
    refine ⟨_, rfl, fun hg2 => ?_⟩
    refine ⟨_, rfl, fun hg1 => ?_⟩
    intro E1
    refine (V1.mv ?_)
    exact rfl
   refine VP.step (p := ?pv201) rfl rfl rfl (⟨_, _, rfl, rfl, rfl⟩) ?hv201 ?rest201 hck5
   case hv201 =>
    refine ⟨_, rfl, fun hg2 => ?_⟩
    refine ⟨_, rfl, fun hg1 => ?_⟩
    intro E1
    refine (V1.it ?_)
    exact rfl
   refine VP.step (p := ?pv202) rfl rfl rfl (⟨_, _, rfl, rfl, ⟨_, _, rfl, rfl, rfl⟩⟩) ?hv202 ?rest202 hck5
   case hv202 =>
    refine ⟨_, rfl, fun hg2 => ?_⟩
    refine ⟨_, rfl, fun hg1 => ?_⟩
    intro E1
    refine (V1.indexI rfl rfl esz_42 rfl rfl (hh2 hg1 hg2) lt0 ?_)
    exact rfl
   refine VP.step (p := ?pv203) rfl rfl rfl (⟨_, _, rfl, rfl, rfl⟩) ?hv203 ?rest203 hck5
   case hv203 =>
    refine ⟨_, rfl, fun hg2 => ?_⟩
    refine ⟨_, rfl, fun hg1 => ?_⟩
    intro E1
    refine (V1.fieldPin rfl rfl fo_46_0 rfl lt0 ?_)
    exact rfl
   refine VP.step (p := ?pv204) rfl rfl rfl (⟨_, _, rfl, rfl, rfl⟩) ?hv204 ?rest204 hck5
   case hv204 =>
    refine ⟨_, rfl, fun hg2 => ?_⟩
    refine ⟨_, rfl, fun hg1 => ?_⟩
    intro E1
    refine (V1.loadPin rfl rfl tyk_3 rfl rfl lt0 ?_)
    exact rfl
   refine VP.step (p := ?pv205) rfl rfl rfl (⟨_, _, rfl, rfl, rfl⟩) ?hv205 ?rest205 hck5
   case hv205 =>
    refine ⟨_, rfl, fun hg2 => ?_⟩
    refine ⟨_, rfl, fun hg1 => ?_⟩
    intro E1
    refine (V1.fieldRef rfl rfl fo_46_0 rfl lt0 ?_)
    exact rfl
   refine VP.step (p := ?pv206) rfl rfl rfl (⟨_, _, rfl, rfl, rfl⟩) ?hv206 ?rest206 hck5
   case hv206 =>
    refine ⟨_, rfl, fun hg2 => ?_⟩
    refine ⟨_, rfl, fun hg1 => ?_⟩
    intro E1
    refine (V1.loadRef (k := 0) rfl rfl tyk_3 rfl rfl rfl rfl rfl lt0 ?_)
    exact rfl
   refine VP.step (p := ?pv207) rfl rfl rfl (⟨_, _, rfl, rfl, ⟨_, _, rfl, rfl, rfl⟩⟩) ?hv207 ?rest207 hck5
   case hv207 =>
    refine ⟨_, rfl, fun hg2 => ?_⟩
    refine ⟨_, rfl, fun hg1 => ?_⟩
    intro E1
    refine (V1.it ?_)
    exact rfl
   refine VP.pickAnd rfl rfl rfl rfl rfl rfl (⟨_, rfl, fun _ => trivial⟩) ?_ hck5
   refine VP.pickOr rfl rfl rfl rfl rfl rfl (trivial) ?_ hck5
   refine VP.fin rfl (⟨_, _, rfl, rfl, ⟨_, _, rfl, rfl, ⟨_, _, rfl, rfl, rfl⟩⟩⟩) ?_
   refine VO.nil (V.cond rfl (fun hc1 => ?_) (fun hc1 => ?_))
   ·
    replace hm1 := cond_t hc1 hm1
    refine V.seq (V.region (VO.cons rfl (V1.as ?_)))
    refine VO.nil (V.ret ?_)
    obtain rfl := hr1 _ (oi hm1).symm
    change some _ = some _ at hm0
    obtain rfl := oi hm0
    exact ⟨_, [], ⟨_, _, rfl, rfl, rfl⟩, List.nil_sublist _, rfl, rfl⟩
   ·
    replace hm1 := cond_f hc1 hm1
    refine V.skip ?_
    refine V.region (VO.cons rfl (V1.mv ?_))
    refine VO.cons rfl (V1.it ?_)
    refine VO.cons rfl (V1.as ?_)
    refine VO.nil ?_
    exact ⟨(m0, (IntKind.i64.wrap (i + (1 : Int))), ()), hl1 _ (oi hm1).symm, Nat.lt_succ_self _, Keeps.mk (ks := [1]) rfl ⟨rfl, rfl, trivial⟩ (⟨_, _, rfl, rfl, rfl⟩) rfl⟩
  ·
   replace hm1 := cond_f hc0 hm1
   refine V.exit ?_
   obtain rfl := hr1 _ (oi hm1).symm
   exact ⟨((), ()), rfl, Keeps.mk (ks := [0]) rfl ⟨rfl, trivial⟩ (⟨_, _, rfl, rfl, rfl⟩) rfl⟩
 ·
  rintro ⟨_, _⟩ rfl
  try dsimp only at hm0
  refine V.seq ?_
  replace hm0 := bindO hm0; rcases hm0 with ⟨y2, hh3, hm0⟩
  replace hm0 := bindO hm0; rcases hm0 with ⟨y3, hh4, hm0⟩
  replace hm0 := bindO hm0; rcases hm0 with ⟨y4, hh5, hm0⟩
  refine V.region (VO.cons rfl (V1.fieldRef rfl rfl fo_44_0 rfl lt0 ?_))
  refine VO.cons rfl (V1.loadRef (k := 0) rfl rfl tyk_3 rfl rfl rfl rfl rfl lt0 ?_)
  refine VO.cons rfl (V1.call rfl rfl rfl cok_60 rfl (ok_spec_l1In hh3) rfl lt0 ?_)
  rintro _ _ ⟨rfl, rfl⟩
  refine VO.cons rfl (V1.mv ?_)
  apply VO.and (n := 3) rfl rfl rfl rfl rfl rfl lt0 (.none rfl)
  ·
   intro hg3
   refine VO.step (.some rfl rfl rfl) (V1.fieldRef rfl rfl fo_44_1 rfl lt0 ?_)
   refine VO.step (.some rfl rfl rfl) (V1.loadRef (k := 0) rfl rfl tyk_3 rfl rfl rfl rfl rfl lt0 ?_)
   refine VO.step (.some rfl rfl rfl) (V1.call rfl rfl rfl cok_60 rfl (ok_spec_l1In (cond_t hg3 hh4)) rfl lt0 ?_)
   rintro _ _ ⟨rfl, rfl⟩
   exact VO.nil ⟨rfl, rfl, rfl, rfl, .inr ⟨rfl, .inr ⟨rfl, .inr ⟨rfl, .inr ⟨rfl, .inl rfl⟩⟩⟩⟩⟩
  refine VO.cons rfl (V1.mv ?_)
  apply VO.and (n := 3) rfl rfl rfl rfl rfl rfl lt0 (.none rfl)
  ·
   intro hg4
   refine VO.step (.some rfl rfl rfl) (V1.fieldRef rfl rfl fo_44_2 rfl lt0 ?_)
   refine VO.step (.some rfl rfl rfl) (V1.loadRef (k := 0) rfl rfl tyk_3 rfl rfl rfl rfl rfl lt0 ?_)
   refine VO.step (.some rfl rfl rfl) (V1.call rfl rfl rfl cok_62 rfl (ok_spec_l2Day (cond_t hg4 hh5)) rfl lt0 ?_)
   rintro _ _ ⟨rfl, rfl⟩
   exact VO.nil ⟨rfl, rfl, rfl, rfl, .inr ⟨rfl, .inr ⟨rfl, .inr ⟨rfl, .inr ⟨rfl, .inl rfl⟩⟩⟩⟩⟩
  refine VO.cons rfl (V1.mv ?_)
  apply VO.and (n := 4) rfl rfl rfl rfl rfl rfl lt0 (.none rfl)
  ·
   intro hg5
   refine VO.step (.some rfl rfl rfl) (V1.fieldRef rfl rfl fo_44_3 rfl lt0 ?_)
   refine VO.step (.some rfl rfl rfl) (V1.loadRef (k := 0) rfl rfl tyk_42 rfl rfl rfl rfl rfl lt0 ?_)
   refine VO.step (.some rfl rfl rfl) (V1.lenMap rfl rfl rfl rfl rfl rfl isl_42 lt0 ?_)
   refine VO.step (.some rfl rfl rfl) (V1.it ?_)
   exact VO.nil ⟨rfl, rfl, rfl, rfl, .inr ⟨rfl, .inr ⟨rfl, .inr ⟨rfl, .inr ⟨rfl, .inr ⟨rfl, .inl rfl⟩⟩⟩⟩⟩⟩
  refine VO.cons rfl (V1.as ?_)
  refine VO.nil (V.ret ?_)
  obtain rfl := oi hm0
  exact ⟨_, [], ⟨_, _, rfl, rfl, rfl⟩, List.nil_sublist _, rfl, rfl⟩

theorem ok_spec_l8Asked {ρ0 σ0 ρ1 rn : Nat} {list : List Version} {r_ : Record} {day : Int} {r : Bool} (h : M.spec_l8Asked list r_ day = some r) : Does Try.prog 149 [.vl ρ0 2 (List.map (encVersion σ0) list), encRecord ρ1 r_, .int .i64 day] [] rn (fun x H => x = .bool r ∧ H = []) := by
 have hm0 := h; clear h; unfold M.spec_l8Asked at hm0
 try dsimp only at hm0
 refine Does.intro (N := 17) Try.func149 rfl rfl rfl rfl ?_
 intro w0 S0
 refine V.seq (V.region (VO.cons rfl (V1.boxN (n := 4) rfl rfl rfl rfl rfl lt0 ?_)))
 intro b0
 refine VO.cons rfl (V1.as ?_)
 refine VO.nil (V.seq ?_)
 replace hm0 := bindO hm0; rcases hm0 with ⟨y0, hh0, hm0⟩
 replace hm0 := bindO hm0; rcases hm0 with ⟨y1, hh1, hm0⟩
 replace hm0 := bindO hm0; rcases hm0 with ⟨y2, hh2, hm0⟩
 refine V.region (VO.cons rfl (V1.mv ?_))
 refine VO.cons rfl (V1.call rfl rfl rfl cok_91 rfl (ok_spec_l8Good hh0) rfl lt0 ?_)
 rintro _ _ ⟨rfl, rfl⟩
 refine VO.cons rfl (V1.mv ?_)
 apply VO.and (n := 2) rfl rfl rfl rfl rfl rfl lt0 (.none rfl)
 ·
  intro hg0
  refine VO.step (.some rfl rfl rfl) (V1.loadRefAll (k := 0) rfl rfl tyk_44 rfl rfl rfl rfl rfl lt0 ?_)
  refine VO.step (.some rfl rfl rfl) (V1.call rfl rfl rfl cok_72 rfl (ok_spec_l2Record (cond_t hg0 hh1)) rfl lt0 ?_)
  rintro _ _ ⟨rfl, rfl⟩
  exact VO.nil ⟨rfl, rfl, rfl, rfl, .inr ⟨rfl, .inr ⟨rfl, .inr ⟨rfl, .inl rfl⟩⟩⟩⟩
 refine VO.cons rfl (V1.mv ?_)
 apply VO.and (n := 2) rfl rfl rfl rfl rfl rfl lt0 (.none rfl)
 ·
  intro hg1
  refine VO.step (.some rfl rfl rfl) (V1.mv ?_)
  refine VO.step (.some rfl rfl rfl) (V1.call rfl rfl rfl cok_62 rfl (ok_spec_l2Day (cond_t hg1 hh2)) rfl lt0 ?_)
  rintro _ _ ⟨rfl, rfl⟩
  exact VO.nil ⟨rfl, rfl, rfl, rfl, .inr ⟨rfl, .inr ⟨rfl, .inr ⟨rfl, .inl rfl⟩⟩⟩⟩
 refine VO.cons rfl (V1.as ?_)
 refine VO.nil (V.ret ?_)
 obtain rfl := oi hm0
 exact ⟨_, [], ⟨_, _, rfl, rfl, rfl⟩, List.nil_sublist _, rfl, rfl⟩
end Go.Proofs.Ytjfpdbhjoofllaa
