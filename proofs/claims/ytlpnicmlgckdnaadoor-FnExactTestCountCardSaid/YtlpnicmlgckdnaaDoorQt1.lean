/- the functions do what their models say -/
import Derived.Test.YtlpnicmlgckdnaaDoorFacts
import Derived.Test.YtlpnicmlgckdnaaDoorSh
import Derived.KernelRfl
import Derived.Test.YtlpnicmlgckdnaaDoorMrM
set_option linter.unusedSimpArgs false
set_option linter.unusedVariables false
set_option maxRecDepth 100000
set_option maxHeartbeats 4000000
namespace Go.Proofs.YtlpnicmlgckdnaaDoor
open Go.VS

theorem ok_spec_l1In {rn : Nat} {x : Int} {a : Int} {b_ : Int} {r : Bool} (h : M.spec_l1In x a b_ = some r) : Does Tryd.prog 22 [.int .i64 x, .int .i64 a, .int .i64 b_] [] rn (fun x H => x = .bool r ∧ H = []) := by
 have hm0 := h; clear h; unfold M.spec_l1In at hm0
 try dsimp only at hm0
 refine Does.intro (N := 15) Tryd.func22 rfl rfl rfl rfl ?_
 intro w0 S0 L0
 refine V.seq ?_
 refine V.region ?_
 refine VO.cons rfl (V1.assign rfl rfl rfl lt0 ?_)
 refine VO.nil ?_
 refine V.seq ?_
 refine V.region ?_
 refine VO.cons rfl (V1.move rfl rfl rfl lt0 ?_)
 refine VO.cons rfl (V1.move rfl rfl rfl lt0 ?_)
 refine VO.cons rfl (V1.int rfl rfl rfl rfl rfl lt0 ?_)
 refine VO.cons rfl (V1.move rfl rfl rfl lt0 ?_)
 apply VO.and (n := 3) rfl rfl rfl rfl rfl rfl lt0 (.none rfl)
 ·
  intro hg0
  refine VO.step (.some rfl rfl rfl) (V1.move rfl rfl rfl lt0 ?_)
  refine VO.step (.some rfl rfl rfl) (V1.move rfl rfl rfl lt0 ?_)
  refine VO.step (.some rfl rfl rfl) (V1.int rfl rfl rfl rfl rfl lt0 ?_)
  exact VO.nil ⟨rfl, rfl, rfl, rfl, .inr ⟨rfl, .inr ⟨rfl, .inr ⟨rfl, .inr ⟨rfl, .inl rfl⟩⟩⟩⟩⟩
 refine VO.cons rfl (V1.assign rfl rfl rfl lt0 ?_)
 refine VO.nil ?_
 refine V.ret ?_
 obtain rfl := Option.some.inj hm0
 exact ⟨_, [], ⟨_, _, rfl, rfl, rfl⟩, List.nil_sublist _, rfl, rfl⟩

theorem ok_spec_l1Num_s {rn : Nat} {n : Int} {r : List UInt8} {rec_ : Int → Option (List UInt8)} (hrec_ : ∀ {rn : Nat} {n : Int} {r : List UInt8} , rec_ n = some r → Does Tryd.prog 44 [.int .i64 n] [] rn (fun x H => x = .str r ∧ H = [])) (h : M.spec_l1Num_s rec_ n = some r) : Does Tryd.prog 44 [.int .i64 n] [] rn (fun x H => x = .str r ∧ H = []) := by
 have hm0 := h; clear h; unfold M.spec_l1Num_s at hm0
 try dsimp only at hm0
 refine Does.intro (N := 25) Tryd.func44 rfl rfl rfl rfl ?_
 intro w0 S0 L0
 refine V.seq ?_
 refine V.region ?_
 refine VO.cons rfl (V1.assign rfl rfl rfl lt0 ?_)
 refine VO.nil ?_
 refine V.seq ?_
 refine V.seq ?_
 refine V.region ?_
 refine VO.cons rfl (V1.move rfl rfl rfl lt0 ?_)
 refine VO.cons rfl (V1.int rfl rfl rfl rfl rfl lt0 ?_)
 refine VO.nil ?_
 refine V.cond rfl (fun hc0 => ?_) (fun hc0 => ?_)
 ·
  replace hm0 := cond_t hc0 hm0
  refine V.seq ?_
  replace hm0 := bindO hm0; rcases hm0 with ⟨y0, hh0, hm0⟩
  replace hm0 := asrt_some hm0; rcases hm0 with ⟨hh1, hm0⟩
  refine V.region ?_
  refine VO.cons rfl (V1.move rfl rfl rfl lt0 ?_)
  refine VO.cons rfl (V1.neg rfl rfl rfl lt0 ?_)
  refine VO.cons rfl (V1.call rfl rfl rfl cok_44 rfl (hrec_ hh0) rfl lt0 ?_)
  rintro _ _ ⟨rfl, rfl⟩
  refine VO.cons rfl (V1.strAdd rfl rfl rfl rfl hh1 lt0 ?_)
  refine VO.cons rfl (V1.assign rfl rfl rfl lt0 ?_)
  refine VO.nil ?_
  refine V.ret ?_
  obtain rfl := Option.some.inj hm0
  exact ⟨_, [], ⟨_, _, rfl, rfl, rfl⟩, List.nil_sublist _, rfl, rfl⟩
 ·
  replace hm0 := cond_f hc0 hm0
  refine V.skip ?_
  refine V.seq ?_
  refine V.seq ?_
  refine V.region ?_
  refine VO.cons rfl (V1.move rfl rfl rfl lt0 ?_)
  refine VO.cons rfl (V1.int rfl rfl rfl rfl rfl lt0 ?_)
  refine VO.nil ?_
  refine V.keep 25 [0, 10] [] (E0 := [(0, .int .i64 n), (10, .bool (decide (n < (10 : Int))))]) (H0 := []) rfl (⟨_, _, rfl, rfl, _, _, rfl, rfl, rfl⟩) (rfl) rfl ?_
  refine V.cond rfl (fun hc1 => ?_) (fun hc1 => ?_)
  ·
   replace hm0 := cond_t hc1 hm0
   refine V.seq ?_
   replace hm0 := asrt_some hm0; rcases hm0 with ⟨hh2, hm0⟩
   refine V.region ?_
   refine VO.cons rfl (V1.move rfl rfl rfl lt0 ?_)
   refine VO.cons rfl (V1.move rfl rfl rfl lt0 ?_)
   refine VO.cons rfl (V1.int rfl rfl rfl rfl rfl lt0 ?_)
   refine VO.cons rfl (V1.sliceStrI (s := ([48, 49, 50, 51, 52, 53, 54, 55, 56, 57] : List UInt8)) (a := n) (b := (IntKind.i64.wrap (n + (1 : Int)))) rfl rfl istr_9 rfl (Bnd.some rfl hh2.1 _) (Bnd.some rfl (Int.le_trans hh2.1 hh2.2.1) _) hh2 lt0 ?_)
   refine VO.cons rfl (V1.assign rfl rfl rfl lt0 ?_)
   refine VO.nil ?_
   refine V.ret ?_
   obtain rfl := Option.some.inj hm0
   exact ⟨_, [], ⟨_, _, rfl, rfl, rfl⟩, List.nil_sublist _, rfl, rfl⟩
  ·
   replace hm0 := cond_f hc1 hm0
   refine V.skip ?_
   refine V.seq ?_
   replace hm0 := bindO hm0; rcases hm0 with ⟨y1, hh3, hm0⟩
   replace hm0 := asrt_some hm0; rcases hm0 with ⟨hh4, hm0⟩
   replace hm0 := asrt_some hm0; rcases hm0 with ⟨hh5, hm0⟩
   refine V.regionM 25 9 [⟨[(0, none)], [], none⟩, ⟨[(15, some 0)], [], none⟩, ⟨[(16, some 0)], [], none⟩, ⟨[(0, none)], [], none⟩, ⟨[(18, some 0)], [], none⟩, ⟨[(0, none)], [], none⟩, ⟨[(20, some 0)], [], none⟩, ⟨[(21, some 0)], [], none⟩, ⟨[(19, some 3), (22, some 0)], [], none⟩] [(17, some 6), (23, some 0)] (⟨_, rfl, ⟨_, rfl, ⟨_, rfl, ⟨_, rfl, ⟨_, rfl, ⟨_, rfl, ⟨_, rfl, ⟨_, rfl, ⟨_, rfl, ⟨rfl, rfl⟩⟩⟩⟩⟩⟩⟩⟩⟩⟩) mixed_orders rfl (by decide +kernel) (fun hck5 => ?_)
   refine VP.step (p := ?pv27) rfl rfl rfl (⟨_, _, rfl, rfl, rfl⟩) ?hv27 ?rest27 hck5
   case hv27 =>
    intro E1
    refine (V1.move rfl rfl rfl lt0 ?_)
    exact rfl
   refine VP.step (p := ?pv28) rfl rfl rfl (⟨_, _, rfl, rfl, rfl⟩) ?hv28 ?rest28 hck5
   case hv28 =>
    intro E1
    refine (V1.quo rfl rfl rfl rfl (by decide) lt0 ?_)
    exact rfl
   refine VP.step (p := ?pv29) rfl rfl rfl (⟨_, _, rfl, rfl, rfl⟩) ?hv29 ?rest29 hck5
   case hv29 =>
    intro E1
    refine (V1.call rfl rfl rfl cok_44 rfl (hrec_ hh3) rfl lt0 ?_)
    rintro _ _ ⟨rfl, rfl⟩
    exact rfl
   refine VP.step (p := ?pv31) rfl rfl rfl (⟨_, _, rfl, rfl, rfl⟩) ?hv31 ?rest31 hck5
   case hv31 =>
    intro E1
    refine (V1.move rfl rfl rfl lt0 ?_)
    exact rfl
   refine VP.step (p := ?pv32) rfl rfl rfl (⟨_, _, rfl, rfl, rfl⟩) ?hv32 ?rest32 hck5
   case hv32 =>
    intro E1
    refine (V1.rem rfl rfl rfl rfl (by decide) lt0 ?_)
    exact rfl
   refine VP.step (p := ?pv33) rfl rfl rfl (⟨_, _, rfl, rfl, rfl⟩) ?hv33 ?rest33 hck5
   case hv33 =>
    intro E1
    refine (V1.move rfl rfl rfl lt0 ?_)
    exact rfl
   refine VP.step (p := ?pv34) rfl rfl rfl (⟨_, _, rfl, rfl, rfl⟩) ?hv34 ?rest34 hck5
   case hv34 =>
    intro E1
    refine (V1.rem rfl rfl rfl rfl (by decide) lt0 ?_)
    exact rfl
   refine VP.step (p := ?pv35) rfl rfl rfl (⟨_, _, rfl, rfl, rfl⟩) ?hv35 ?rest35 hck5
   case hv35 =>
    intro E1
    refine (V1.int rfl rfl rfl rfl rfl lt0 ?_)
    exact rfl
   refine VP.step (p := ?pv36) rfl rfl rfl (⟨_, _, rfl, rfl, _, _, rfl, rfl, rfl⟩) ?hv36 ?rest36 hck5
   case hv36 =>
    intro E1
    refine (V1.sliceStrI (s := ([48, 49, 50, 51, 52, 53, 54, 55, 56, 57] : List UInt8)) (a := (Int.tmod n (10 : Int))) (b := (IntKind.i64.wrap ((Int.tmod n (10 : Int)) + (1 : Int)))) rfl rfl istr_9 rfl (Bnd.some rfl hh4.1 _) (Bnd.some rfl (Int.le_trans hh4.1 hh4.2.1) _) hh4 lt0 ?_)
    exact rfl
   refine VP.fin rfl (⟨_, _, rfl, rfl, _, _, rfl, rfl, rfl⟩) ?_
   refine VO.cons rfl (V1.strAdd rfl rfl rfl rfl hh5 lt0 ?_)
   refine VO.cons rfl (V1.assign rfl rfl rfl lt0 ?_)
   refine VO.nil ?_
   refine V.ret ?_
   obtain rfl := Option.some.inj hm0
   exact ⟨_, [], ⟨_, _, rfl, rfl, rfl⟩, List.nil_sublist _, rfl, rfl⟩

theorem ok_spec_l1Num_r (k_ : Nat) : ∀ {rn : Nat} {n : Int} {r : List UInt8} , M.spec_l1Num_r k_ n = some r → Does Tryd.prog 44 [.int .i64 n] [] rn (fun x H => x = .str r ∧ H = []) := by
 induction k_ with
 | zero =>
  intro rn n r h
  have h0 : (none : Option (List UInt8)) = some r := h
  cases h0
 | succ k_ ih =>
  intro rn n r h
  exact ok_spec_l1Num_s (rec_ := M.spec_l1Num_r k_) @ih h

theorem ok_spec_l1Num {rn : Nat} {n : Int} {r : List UInt8} (h : M.spec_l1Num n = some r) : Does Tryd.prog 44 [.int .i64 n] [] rn (fun x H => x = .str r ∧ H = []) := ok_spec_l1Num_r rounds h

theorem ok_spec_l1Read {rn : Nat} {s : List UInt8} {r : Int × Bool} (h : M.spec_l1Read s = some r) : Does Tryd.prog 41 [.str s] [] rn (fun x H => x = .tup [.int .i64 r.1, .bool r.2] ∧ H = []) := by
 have hm0 := h; clear h; unfold M.spec_l1Read at hm0
 try dsimp only at hm0
 refine Does.intro (N := 58) Tryd.func41 rfl rfl rfl rfl ?_
 intro w0 S0 L0
 refine V.seq ?_
 refine V.region ?_
 refine VO.cons rfl (V1.assign rfl rfl rfl lt0 ?_)
 refine VO.cons rfl (V1.assign rfl rfl rfl lt0 ?_)
 refine VO.nil ?_
 refine V.seq ?_
 refine V.region ?_
 refine VO.cons rfl (V1.move rfl rfl rfl lt0 ?_)
 refine VO.cons rfl (V1.assign rfl rfl rfl lt0 ?_)
 refine VO.nil ?_
 refine V.seq ?_
 replace hm0 := bindO hm0; rcases hm0 with ⟨j0, hm1, hm0⟩
 refine V.cutT (D := (List UInt8) × (Unit)) (fun ⟨t_, _⟩ => ⟨58, [(4, .str t_), (0, .str s)], []⟩) (fun ⟨t_, _⟩ => (t_ = j0)) ?_ ?_
 ·
  refine V.seq ?_
  replace hm1 := asrt_some hm1; rcases hm1 with ⟨hh0, hm1⟩
  refine V.region ?_
  refine VO.cons rfl (V1.move rfl rfl rfl lt0 ?_)
  refine VO.cons rfl (V1.lenStr rfl rfl rfl rfl rfl rfl istr_9 lt0 ?_)
  refine VO.cons rfl (V1.int rfl rfl rfl rfl rfl lt0 ?_)
  refine VO.cons rfl (V1.move rfl rfl rfl lt0 ?_)
  apply VO.and (n := 3) rfl rfl rfl rfl rfl rfl lt0 (.none rfl)
  ·
   intro hg0
   refine VO.step (.some rfl rfl rfl) (V1.move rfl rfl rfl lt0 ?_)
   refine VO.step (.some rfl rfl rfl) (V1.indexStrI rfl rfl istr_9 rfl rfl (hh0 hg0) lt0 ?_)
   refine VO.step (.some rfl rfl rfl) (V1.int rfl rfl rfl rfl rfl lt0 ?_)
   exact VO.nil ⟨rfl, rfl, rfl, rfl, .inr ⟨rfl, .inr ⟨rfl, .inr ⟨rfl, .inr ⟨rfl, .inl rfl⟩⟩⟩⟩⟩
  refine VO.nil ?_
  refine V.keep 58 [0, 4, 15] [] (E0 := [(0, .str s), (4, .str s), (15, .bool ((decide ((s.length : Int) > (1 : Int))) && (((s.getD (Int.toNat (0 : Int)) 0).toNat : Int) == (45 : Int))))]) (H0 := []) rfl (⟨_, _, rfl, rfl, _, _, rfl, rfl, _, _, rfl, rfl, rfl⟩) (rfl) rfl ?_
  refine V.cond rfl (fun hc0 => ?_) (fun hc0 => ?_)
  ·
   replace hm1 := cond_t hc0 hm1
   replace hm1 := asrt_some hm1; rcases hm1 with ⟨hh1, hm1⟩
   refine V.region ?_
   refine VO.cons rfl (V1.move rfl rfl rfl lt0 ?_)
   refine VO.cons rfl (V1.sliceStrI (a := (1 : Int)) (b := (s.length : Int)) rfl rfl istr_9 rfl (Bnd.some rfl hh1.1 _) (Bnd.none _ _) hh1 lt0 ?_)
   refine VO.cons rfl (V1.assign rfl rfl rfl lt0 ?_)
   refine VO.nil ?_
   exact ⟨((slc s (1 : Int) (s.length : Int)), ()), Option.some.inj hm1, Keeps.mk (ks := []) rfl ⟨rfl, rfl, trivial⟩ (rfl) rfl⟩
  ·
   replace hm1 := cond_f hc0 hm1
   refine V.skip ?_
   exact ⟨(s, ()), Option.some.inj hm1, Keeps.mk (ks := []) rfl ⟨rfl, rfl, trivial⟩ (rfl) rfl⟩
 ·
  rintro ⟨t_, _⟩ rfl
  try dsimp only at hm0
  refine V.seq ?_
  refine V.seq ?_
  replace hm0 := bindO hm0; rcases hm0 with ⟨y0, hh2, hm0⟩
  refine V.region ?_
  refine VO.cons rfl (V1.move rfl rfl rfl lt0 ?_)
  refine VO.cons rfl (V1.lenStr rfl rfl rfl rfl rfl rfl istr_9 lt0 ?_)
  refine VO.cons rfl (V1.call rfl rfl rfl cok_22 rfl (ok_spec_l1In hh2) rfl lt0 ?_)
  rintro _ _ ⟨rfl, rfl⟩
  refine VO.cons rfl (V1.not rfl rfl rfl lt0 ?_)
  refine VO.nil ?_
  refine V.cond rfl (fun hc1 => ?_) (fun hc1 => ?_)
  ·
   replace hm0 := cond_t hc1 hm0
   refine V.seq ?_
   refine V.region ?_
   refine VO.cons rfl (V1.assign rfl rfl rfl lt0 ?_)
   refine VO.cons rfl (V1.assign rfl rfl rfl lt0 ?_)
   refine VO.nil ?_
   refine V.ret ?_
   obtain rfl := Option.some.inj hm0
   exact ⟨_, [], ⟨_, _, rfl, rfl, _, _, rfl, rfl, rfl⟩, List.nil_sublist _, rfl, rfl⟩
  ·
   replace hm0 := cond_f hc1 hm0
   refine V.skip ?_
   refine V.keep 58 [0, 4] [] (E0 := [(0, .str s), (4, .str t_)]) (H0 := []) rfl (⟨_, _, rfl, rfl, _, _, rfl, rfl, rfl⟩) (rfl) rfl ?_
   refine V.seq ?_
   refine V.region ?_
   refine VO.cons rfl (V1.assign rfl rfl rfl lt0 ?_)
   refine VO.nil ?_
   refine V.seq ?_
   refine V.seq ?_
   refine V.region ?_
   refine VO.cons rfl (V1.assign rfl rfl rfl lt0 ?_)
   refine VO.nil ?_
   replace hm0 := bindO hm0; rcases hm0 with ⟨e0, he1, hm0⟩
   refine V.cutT (D := (Int) × (Unit)) (fun ⟨n_, _⟩ => ⟨58, [(5, .int .i64 n_), (0, .str s), (4, .str t_)], []⟩) (fun ⟨n_, _⟩ => (.inl n_ = e0)) ?_ ?_
   ·
    refine V.block ?_
    refine V.keep 58 [5, 6, 0, 4] [] (E0 := [(5, .int .i64 (0 : Int)), (6, .int .i64 (0 : Int)), (0, .str s), (4, .str t_)]) (H0 := []) rfl (⟨_, _, rfl, rfl, _, _, rfl, rfl, _, _, rfl, rfl, _, _, rfl, rfl, rfl⟩) (rfl) rfl ?_
    refine V.loopE (D := Nat × (Int × Int) × (Unit)) (fun ⟨n0, ⟨n_0, i⟩, _⟩ => [(5, .int .i64 n_0), (6, .int .i64 i)]) (fun ⟨n0, ⟨n_0, i⟩, _⟩ => []) (fun ⟨n0, ⟨n_0, i⟩, _⟩ => loopO (M.spec_l1Read_l0 t_) n0 (n_0, i) = some e0) (fun ⟨n0, _, _⟩ => n0) (rounds, ((0 : Int), (0 : Int)), ()) rfl he1 ?_
    rintro ⟨n0, ⟨n_0, i⟩, _⟩ hP0
    obtain ⟨m0, y1, rfl, hm1, hl1, hr1⟩ := loop_head hP0
    unfold M.spec_l1Read_l0 at hm1; dsimp only at hm1
    show V _ _ _ ⟨58, [(5, .int .i64 n_0), (6, .int .i64 i), (0, .str s), (4, .str t_)], []⟩
    refine V.seq ?_
    refine V.seq ?_
    refine V.region ?_
    refine VO.cons rfl (V1.move rfl rfl rfl lt0 ?_)
    refine VO.cons rfl (V1.move rfl rfl rfl lt0 ?_)
    refine VO.cons rfl (V1.lenStr rfl rfl rfl rfl rfl rfl istr_9 lt0 ?_)
    refine VO.cons rfl (V1.int rfl rfl rfl rfl rfl lt0 ?_)
    refine VO.nil ?_
    refine V.cond rfl (fun hc2 => ?_) (fun hc2 => ?_)
    ·
     replace hm1 := cond_t hc2 hm1
     refine V.skip ?_
     refine V.keep 58 [0, 4, 5, 6] [] (E0 := [(0, .str s), (4, .str t_), (5, .int .i64 n_0), (6, .int .i64 i)]) (H0 := []) rfl (⟨_, _, rfl, rfl, _, _, rfl, rfl, _, _, rfl, rfl, _, _, rfl, rfl, rfl⟩) (rfl) rfl ?_
     refine V.seq ?_
     refine V.block ?_
     refine V.seq ?_
     refine V.seq ?_
     replace hm1 := asrt_some hm1; rcases hm1 with ⟨hh3, hm1⟩
     replace hm1 := asrt_some hm1; rcases hm1 with ⟨hh4, hm1⟩
     refine V.region ?_
     refine VO.cons rfl (V1.move rfl rfl rfl lt0 ?_)
     refine VO.cons rfl (V1.move rfl rfl rfl lt0 ?_)
     refine VO.cons rfl (V1.indexStrI rfl rfl istr_9 rfl rfl hh3 lt0 ?_)
     refine VO.cons rfl (V1.int rfl rfl rfl rfl rfl lt0 ?_)
     refine VO.cons rfl (V1.move rfl rfl rfl lt0 ?_)
     apply VO.or (n := 4) rfl rfl rfl rfl rfl rfl lt0 (.none rfl)
     ·
      intro hg1
      refine VO.step (.some rfl rfl rfl) (V1.move rfl rfl rfl lt0 ?_)
      refine VO.step (.some rfl rfl rfl) (V1.move rfl rfl rfl lt0 ?_)
      refine VO.step (.some rfl rfl rfl) (V1.indexStrI rfl rfl istr_9 rfl rfl (hh4 hg1) lt0 ?_)
      refine VO.step (.some rfl rfl rfl) (V1.int rfl rfl rfl rfl rfl lt0 ?_)
      exact VO.nil ⟨rfl, rfl, rfl, rfl, .inr ⟨rfl, .inr ⟨rfl, .inr ⟨rfl, .inr ⟨rfl, .inr ⟨rfl, .inl rfl⟩⟩⟩⟩⟩⟩
     refine VO.nil ?_
     refine V.keep 58 [0, 4, 5, 6, 37] [] (E0 := [(0, .str s), (4, .str t_), (5, .int .i64 n_0), (6, .int .i64 i), (37, .bool ((decide (((t_.getD (Int.toNat i) 0).toNat : Int) < (48 : Int))) || (decide (((t_.getD (Int.toNat i) 0).toNat : Int) > (57 : Int)))))]) (H0 := []) rfl (⟨_, _, rfl, rfl, _, _, rfl, rfl, _, _, rfl, rfl, _, _, rfl, rfl, _, _, rfl, rfl, rfl⟩) (rfl) rfl ?_
     refine V.cond rfl (fun hc3 => ?_) (fun hc3 => ?_)
     ·
      replace hm1 := cond_t hc3 hm1
      refine V.seq ?_
      refine V.region ?_
      refine VO.cons rfl (V1.assign rfl rfl rfl lt0 ?_)
      refine VO.cons rfl (V1.assign rfl rfl rfl lt0 ?_)
      refine VO.nil ?_
      refine V.ret ?_
      obtain rfl := hr1 _ (Option.some.inj hm1).symm
      change some _ = some _ at hm0
      obtain rfl := Option.some.inj hm0
      exact ⟨_, [], ⟨_, _, rfl, rfl, _, _, rfl, rfl, rfl⟩, List.nil_sublist _, rfl, rfl⟩
     ·
      replace hm1 := cond_f hc3 hm1
      refine V.skip ?_
      replace hm1 := asrt_some hm1; rcases hm1 with ⟨hh5, hm1⟩
      refine V.region ?_
      refine VO.cons rfl (V1.move rfl rfl rfl lt0 ?_)
      refine VO.cons rfl (V1.int rfl rfl rfl rfl rfl lt0 ?_)
      refine VO.cons rfl (V1.move rfl rfl rfl lt0 ?_)
      refine VO.cons rfl (V1.move rfl rfl rfl lt0 ?_)
      refine VO.cons rfl (V1.indexStrI rfl rfl istr_9 rfl rfl hh5 lt0 ?_)
      refine VO.cons rfl (V1.int rfl rfl rfl rfl rfl lt0 ?_)
      refine VO.cons rfl (V1.conv rfl rfl und_5 und_3 rfl lt0 ?_)
      refine VO.cons rfl (V1.int rfl rfl rfl rfl rfl lt0 ?_)
      refine VO.cons rfl (V1.assign rfl rfl rfl lt0 ?_)
      refine VO.nil ?_
      refine V.keep 58 [0, 4, 5, 6] [] (E0 := [(0, .str s), (4, .str t_), (5, .int .i64 (IntKind.i64.wrap ((IntKind.i64.wrap ((10 : Int) * n_0)) + (IntKind.i64.wrap (IntKind.u8.wrap (((t_.getD (Int.toNat i) 0).toNat : Int) - (48 : Int))))))), (6, .int .i64 i)]) (H0 := []) rfl (⟨_, _, rfl, rfl, _, _, rfl, rfl, _, _, rfl, rfl, _, _, rfl, rfl, rfl⟩) (rfl) rfl ?_
      refine V.region ?_
      refine VO.cons rfl (V1.move rfl rfl rfl lt0 ?_)
      refine VO.cons rfl (V1.int rfl rfl rfl rfl rfl lt0 ?_)
      refine VO.cons rfl (V1.assign rfl rfl rfl lt0 ?_)
      refine VO.nil ?_
      exact ⟨(m0, ((IntKind.i64.wrap ((IntKind.i64.wrap ((10 : Int) * n_0)) + (IntKind.i64.wrap (IntKind.u8.wrap (((t_.getD (Int.toNat i) 0).toNat : Int) - (48 : Int)))))), (IntKind.i64.wrap (i + (1 : Int)))), ()), hl1 _ (Option.some.inj hm1).symm, Nat.lt_succ_self _, Keeps.mk (ks := []) rfl ⟨rfl, rfl, rfl, rfl, trivial⟩ (rfl) rfl⟩
    ·
     replace hm1 := cond_f hc2 hm1
     refine V.exit ?_
     obtain rfl := hr1 _ (Option.some.inj hm1).symm
     exact ⟨(n_0, ()), rfl, Keeps.mk (ks := []) rfl ⟨rfl, rfl, rfl, trivial⟩ (rfl) rfl⟩
   ·
    rintro ⟨n_, _⟩ rfl
    try dsimp only at hm0
    refine V.seq ?_
    replace hm0 := bindO hm0; rcases hm0 with ⟨j1, hm1, hm0⟩
    refine V.cutT (D := (Int) × (Unit)) (fun ⟨n_1, _⟩ => ⟨58, [(5, .int .i64 n_1), (0, .str s)], []⟩) (fun ⟨n_1, _⟩ => (n_1 = j1)) ?_ ?_
    ·
     refine V.seq ?_
     refine V.region ?_
     refine VO.cons rfl (V1.move rfl rfl rfl lt0 ?_)
     refine VO.cons rfl (V1.lenStr rfl rfl rfl rfl rfl rfl istr_9 lt0 ?_)
     refine VO.cons rfl (V1.move rfl rfl rfl lt0 ?_)
     refine VO.cons rfl (V1.lenStr rfl rfl rfl rfl rfl rfl istr_9 lt0 ?_)
     refine VO.cons rfl (V1.int rfl rfl rfl rfl rfl lt0 ?_)
     refine VO.nil ?_
     refine V.keep 58 [0, 5, 50] [] (E0 := [(0, .str s), (5, .int .i64 n_), (50, .bool (decide ((t_.length : Int) < (s.length : Int))))]) (H0 := []) rfl (⟨_, _, rfl, rfl, _, _, rfl, rfl, _, _, rfl, rfl, rfl⟩) (rfl) rfl ?_
     refine V.cond rfl (fun hc4 => ?_) (fun hc4 => ?_)
     ·
      replace hm1 := cond_t hc4 hm1
      refine V.region ?_
      refine VO.cons rfl (V1.move rfl rfl rfl lt0 ?_)
      refine VO.cons rfl (V1.neg rfl rfl rfl lt0 ?_)
      refine VO.cons rfl (V1.assign rfl rfl rfl lt0 ?_)
      refine VO.nil ?_
      exact ⟨((IntKind.i64.wrap (0 - n_)), ()), Option.some.inj hm1, Keeps.mk (ks := []) rfl ⟨rfl, rfl, trivial⟩ (rfl) rfl⟩
     ·
      replace hm1 := cond_f hc4 hm1
      refine V.skip ?_
      exact ⟨(n_, ()), Option.some.inj hm1, Keeps.mk (ks := []) rfl ⟨rfl, rfl, trivial⟩ (rfl) rfl⟩
    ·
     rintro ⟨n_1, _⟩ rfl
     try dsimp only at hm0
     refine V.seq ?_
     refine V.seq ?_
     replace hm0 := bindO hm0; rcases hm0 with ⟨y2, hh6, hm0⟩
     refine V.region ?_
     refine VO.cons rfl (V1.move rfl rfl rfl lt0 ?_)
     refine VO.cons rfl (V1.call rfl rfl rfl cok_44 rfl (ok_spec_l1Num hh6) rfl lt0 ?_)
     rintro _ _ ⟨rfl, rfl⟩
     refine VO.cons rfl (V1.move rfl rfl rfl lt0 ?_)
     refine VO.cons rfl (V1.str rfl rfl rfl rfl rfl lt0 ?_)
     refine VO.nil ?_
     refine V.keep 58 [5, 56] [] (E0 := [(5, .int .i64 n_1), (56, .bool (!(y2 == s)))]) (H0 := []) rfl (⟨_, _, rfl, rfl, _, _, rfl, rfl, rfl⟩) (rfl) rfl ?_
     refine V.cond rfl (fun hc5 => ?_) (fun hc5 => ?_)
     ·
      replace hm0 := cond_t hc5 hm0
      refine V.seq ?_
      refine V.region ?_
      refine VO.cons rfl (V1.assign rfl rfl rfl lt0 ?_)
      refine VO.cons rfl (V1.assign rfl rfl rfl lt0 ?_)
      refine VO.nil ?_
      refine V.ret ?_
      obtain rfl := Option.some.inj hm0
      exact ⟨_, [], ⟨_, _, rfl, rfl, _, _, rfl, rfl, rfl⟩, List.nil_sublist _, rfl, rfl⟩
     ·
      replace hm0 := cond_f hc5 hm0
      refine V.skip ?_
      refine V.seq ?_
      refine V.region ?_
      refine VO.cons rfl (V1.move rfl rfl rfl lt0 ?_)
      refine VO.cons rfl (V1.assign rfl rfl rfl lt0 ?_)
      refine VO.cons rfl (V1.assign rfl rfl rfl lt0 ?_)
      refine VO.nil ?_
      refine V.ret ?_
      obtain rfl := Option.some.inj hm0
      exact ⟨_, [], ⟨_, _, rfl, rfl, _, _, rfl, rfl, rfl⟩, List.nil_sublist _, rfl, rfl⟩

theorem ok_spec_l19Number {rn : Nat} {s : List UInt8} {at_ : Int} {r : Int × Int} (h : M.spec_l19Number s at_ = some r) : Does Tryd.prog 34 [.str s, .int .i64 at_] [] rn (fun x H => x = .tup [.int .i64 r.1, .int .i64 r.2] ∧ H = []) := by
 have hm0 := h; clear h; unfold M.spec_l19Number at hm0
 try dsimp only at hm0
 refine Does.intro (N := 40) Tryd.func34 rfl rfl rfl rfl ?_
 intro w0 S0 L0
 refine V.seq ?_
 refine V.region ?_
 refine VO.cons rfl (V1.assign rfl rfl rfl lt0 ?_)
 refine VO.cons rfl (V1.assign rfl rfl rfl lt0 ?_)
 refine VO.nil ?_
 refine V.seq ?_
 refine V.region ?_
 refine VO.cons rfl (V1.move rfl rfl rfl lt0 ?_)
 refine VO.cons rfl (V1.assign rfl rfl rfl lt0 ?_)
 refine VO.nil ?_
 refine V.seq ?_
 replace hm0 := bindO hm0; rcases hm0 with ⟨e0, he1, hm0⟩
 refine V.cutT (D := (Int) × (Unit)) (fun ⟨end_, _⟩ => ⟨40, [(6, .int .i64 end_), (0, .str s), (1, .int .i64 at_)], []⟩) (fun ⟨end_, _⟩ => (end_ = e0)) ?_ ?_
 ·
  refine V.block ?_
  refine V.keep 40 [6, 0, 1] [] (E0 := [(6, .int .i64 at_), (0, .str s), (1, .int .i64 at_)]) (H0 := []) rfl (⟨_, _, rfl, rfl, _, _, rfl, rfl, _, _, rfl, rfl, rfl⟩) (rfl) rfl ?_
  refine V.loopE (D := Nat × (Int) × (Unit)) (fun ⟨n0, end_0, _⟩ => [(6, .int .i64 end_0)]) (fun ⟨n0, end_0, _⟩ => []) (fun ⟨n0, end_0, _⟩ => loopO (M.spec_l19Number_l0 s) n0 end_0 = some e0) (fun ⟨n0, _, _⟩ => n0) (rounds, at_, ()) rfl he1 ?_
  rintro ⟨n0, end_0, _⟩ hP0
  obtain ⟨m0, y0, rfl, hm1, hl1, hr1⟩ := loop_head hP0
  unfold M.spec_l19Number_l0 at hm1; dsimp only at hm1
  show V _ _ _ ⟨40, [(6, .int .i64 end_0), (0, .str s), (1, .int .i64 at_)], []⟩
  refine V.seq ?_
  refine V.seq ?_
  replace hm1 := asrt_some hm1; rcases hm1 with ⟨hh0, hm1⟩
  replace hm1 := asrt_some hm1; rcases hm1 with ⟨hh1, hm1⟩
  refine V.region ?_
  refine VO.cons rfl (V1.move rfl rfl rfl lt0 ?_)
  refine VO.cons rfl (V1.move rfl rfl rfl lt0 ?_)
  refine VO.cons rfl (V1.lenStr rfl rfl rfl rfl rfl rfl istr_9 lt0 ?_)
  refine VO.cons rfl (V1.int rfl rfl rfl rfl rfl lt0 ?_)
  refine VO.cons rfl (V1.move rfl rfl rfl lt0 ?_)
  apply VO.and (n := 4) rfl rfl rfl rfl rfl rfl lt0 (.none rfl)
  ·
   intro hg0
   refine VO.step (.some rfl rfl rfl) (V1.move rfl rfl rfl lt0 ?_)
   refine VO.step (.some rfl rfl rfl) (V1.move rfl rfl rfl lt0 ?_)
   refine VO.step (.some rfl rfl rfl) (V1.indexStrI rfl rfl istr_9 rfl rfl (hh0 hg0) lt0 ?_)
   refine VO.step (.some rfl rfl rfl) (V1.int rfl rfl rfl rfl rfl lt0 ?_)
   exact VO.nil ⟨rfl, rfl, rfl, rfl, .inr ⟨rfl, .inr ⟨rfl, .inr ⟨rfl, .inr ⟨rfl, .inr ⟨rfl, .inl rfl⟩⟩⟩⟩⟩⟩
  refine VO.cons rfl (V1.move rfl rfl rfl lt0 ?_)
  apply VO.and (n := 4) rfl rfl rfl rfl rfl rfl lt0 (.none rfl)
  ·
   intro hg1
   refine VO.step (.some rfl rfl rfl) (V1.move rfl rfl rfl lt0 ?_)
   refine VO.step (.some rfl rfl rfl) (V1.move rfl rfl rfl lt0 ?_)
   refine VO.step (.some rfl rfl rfl) (V1.indexStrI rfl rfl istr_9 rfl rfl (hh1 hg1) lt0 ?_)
   refine VO.step (.some rfl rfl rfl) (V1.int rfl rfl rfl rfl rfl lt0 ?_)
   exact VO.nil ⟨rfl, rfl, rfl, rfl, .inr ⟨rfl, .inr ⟨rfl, .inr ⟨rfl, .inr ⟨rfl, .inr ⟨rfl, .inl rfl⟩⟩⟩⟩⟩⟩
  refine VO.nil ?_
  refine V.keep 40 [0, 1, 6, 25] [] (E0 := [(0, .str s), (1, .int .i64 at_), (6, .int .i64 end_0), (25, .bool (((decide (end_0 < (s.length : Int))) && (decide (((s.getD (Int.toNat end_0) 0).toNat : Int) ≥ (48 : Int)))) && (decide (((s.getD (Int.toNat end_0) 0).toNat : Int) ≤ (57 : Int)))))]) (H0 := []) rfl (⟨_, _, rfl, rfl, _, _, rfl, rfl, _, _, rfl, rfl, _, _, rfl, rfl, rfl⟩) (rfl) rfl ?_
  refine V.cond rfl (fun hc0 => ?_) (fun hc0 => ?_)
  ·
   replace hm1 := cond_t hc0 hm1
   refine V.skip ?_
   refine V.block ?_
   refine V.region ?_
   refine VO.cons rfl (V1.move rfl rfl rfl lt0 ?_)
   refine VO.cons rfl (V1.int rfl rfl rfl rfl rfl lt0 ?_)
   refine VO.cons rfl (V1.assign rfl rfl rfl lt0 ?_)
   refine VO.nil ?_
   exact ⟨(m0, (IntKind.i64.wrap (end_0 + (1 : Int))), ()), hl1 _ (Option.some.inj hm1).symm, Nat.lt_succ_self _, Keeps.mk (ks := []) rfl ⟨rfl, rfl, rfl, trivial⟩ (rfl) rfl⟩
  ·
   replace hm1 := cond_f hc0 hm1
   refine V.exit ?_
   obtain rfl := hr1 _ (Option.some.inj hm1).symm
   exact ⟨(end_0, ()), rfl, Keeps.mk (ks := []) rfl ⟨rfl, rfl, rfl, trivial⟩ (rfl) rfl⟩
 ·
  rintro ⟨end_, _⟩ rfl
  try dsimp only at hm0
  refine V.seq ?_
  replace hm0 := asrt_some hm0; rcases hm0 with ⟨hh2, hm0⟩
  replace hm0 := bindO hm0; rcases hm0 with ⟨y1, hh3, hm0⟩
  refine V.region ?_
  refine VO.cons rfl (V1.move rfl rfl rfl lt0 ?_)
  refine VO.cons rfl (V1.move rfl rfl rfl lt0 ?_)
  refine VO.cons rfl (V1.move rfl rfl rfl lt0 ?_)
  refine VO.cons rfl (V1.sliceStrI (a := at_) (b := end_) rfl rfl istr_9 rfl (Bnd.some rfl hh2.1 _) (Bnd.some rfl (Int.le_trans hh2.1 hh2.2.1) _) hh2 lt0 ?_)
  refine VO.cons rfl (V1.call rfl rfl rfl cok_41 rfl (ok_spec_l1Read hh3) rfl lt0 ?_)
  rintro _ _ ⟨rfl, rfl⟩
  refine VO.cons rfl (V1.move rfl rfl rfl lt0 ?_)
  refine VO.cons rfl (V1.extract rfl rfl rfl rfl lt0 ?_)
  refine VO.cons rfl (V1.extract rfl rfl rfl rfl lt0 ?_)
  refine VO.cons rfl (V1.assign rfl rfl rfl lt0 ?_)
  refine VO.cons rfl (V1.assign rfl rfl rfl lt0 ?_)
  refine VO.nil ?_
  refine V.keep 40 [6, 7, 8] [] (E0 := [(6, .int .i64 end_), (7, .int .i64 y1.1), (8, .bool y1.2)]) (H0 := []) rfl (⟨_, _, rfl, rfl, _, _, rfl, rfl, _, _, rfl, rfl, rfl⟩) (rfl) rfl ?_
  refine V.seq ?_
  refine V.seq ?_
  refine V.region ?_
  refine VO.cons rfl (V1.move rfl rfl rfl lt0 ?_)
  refine VO.cons rfl (V1.not rfl rfl rfl lt0 ?_)
  refine VO.nil ?_
  refine V.cond rfl (fun hc1 => ?_) (fun hc1 => ?_)
  ·
   replace hm0 := cond_t hc1 hm0
   refine V.seq ?_
   refine V.region ?_
   refine VO.cons rfl (V1.assign rfl rfl rfl lt0 ?_)
   refine VO.cons rfl (V1.assign rfl rfl rfl lt0 ?_)
   refine VO.nil ?_
   refine V.ret ?_
   obtain rfl := Option.some.inj hm0
   exact ⟨_, [], ⟨_, _, rfl, rfl, _, _, rfl, rfl, rfl⟩, List.nil_sublist _, rfl, rfl⟩
  ·
   replace hm0 := cond_f hc1 hm0
   refine V.skip ?_
   refine V.seq ?_
   refine V.region ?_
   refine VO.cons rfl (V1.move rfl rfl rfl lt0 ?_)
   refine VO.cons rfl (V1.move rfl rfl rfl lt0 ?_)
   refine VO.cons rfl (V1.assign rfl rfl rfl lt0 ?_)
   refine VO.cons rfl (V1.assign rfl rfl rfl lt0 ?_)
   refine VO.nil ?_
   refine V.ret ?_
   obtain rfl := Option.some.inj hm0
   exact ⟨_, [], ⟨_, _, rfl, rfl, _, _, rfl, rfl, rfl⟩, List.nil_sublist _, rfl, rfl⟩

theorem ok_spec_l2DayOf {ρ0 rn : Nat} {r_ : Record} {kind : Int} {r : Int} (h : M.spec_l2DayOf r_ kind = some r) : Does Tryd.prog 35 [encRecord ρ0 r_, .int .i64 kind] [] rn (fun x H => x = .int .i64 r ∧ H = []) := by
 have hm0 := h; clear h; unfold M.spec_l2DayOf at hm0
 try dsimp only at hm0
 refine Does.intro (N := 31) Tryd.func35 rfl rfl rfl rfl ?_
 intro w0 S0 L0
 refine V.seq ?_
 refine V.region ?_
 refine VO.cons rfl (V1.boxN (n := 4) rfl rfl rfl rfl rfl lt0 ?_)
 intro b0
 refine VO.cons rfl (V1.assign rfl rfl rfl lt0 ?_)
 refine VO.nil ?_
 refine V.seq ?_
 refine V.seq ?_
 refine V.region ?_
 refine VO.cons rfl (V1.move rfl rfl rfl lt0 ?_)
 refine VO.cons rfl (V1.int rfl rfl rfl rfl rfl lt0 ?_)
 refine VO.nil ?_
 refine V.cond rfl (fun hc0 => ?_) (fun hc0 => ?_)
 ·
  replace hm0 := cond_t hc0 hm0
  refine V.seq ?_
  refine V.region ?_
  refine VO.cons rfl (V1.fieldRef rfl rfl fo_41_2 rfl lt0 ?_)
  refine VO.cons rfl (V1.loadRef (k := 0) rfl rfl tyk_3 rfl rfl rfl rfl rfl lt0 ?_)
  refine VO.cons rfl (V1.assign rfl rfl rfl lt0 ?_)
  refine VO.nil ?_
  refine V.ret ?_
  obtain rfl := Option.some.inj hm0
  exact ⟨_, [], ⟨_, _, rfl, rfl, rfl⟩, List.nil_sublist _, rfl, rfl⟩
 ·
  replace hm0 := cond_f hc0 hm0
  refine V.skip ?_
  refine V.keep 31 [1, 2] [0] (E0 := [(1, .int .i64 kind), (2, .ref b0 4 0 0)]) (H0 := [(b0, ⟨4, [encRecord ρ0 r_]⟩)]) rfl (⟨_, _, rfl, rfl, _, _, rfl, rfl, rfl⟩) (⟨_, _, rfl, rfl, rfl⟩) rfl ?_
  refine V.seq ?_
  refine V.seq ?_
  refine V.region ?_
  refine VO.cons rfl (V1.assign rfl rfl rfl lt0 ?_)
  refine VO.nil ?_
  replace hm0 := bindO hm0; rcases hm0 with ⟨e0, he1, hm0⟩
  refine V.cutT (D := (Unit) × (Unit)) (fun ⟨_, _⟩ => ⟨31, [], []⟩) (fun ⟨_, _⟩ => (.inl () = e0)) ?_ ?_
  ·
   refine V.block ?_
   refine V.keep 31 [5, 1, 2] [0] (E0 := [(5, .int .i64 (0 : Int)), (1, .int .i64 kind), (2, .ref b0 4 0 0)]) (H0 := [(b0, ⟨4, [encRecord ρ0 r_]⟩)]) rfl (⟨_, _, rfl, rfl, _, _, rfl, rfl, _, _, rfl, rfl, rfl⟩) (⟨_, _, rfl, rfl, rfl⟩) rfl ?_
   refine V.loopE (D := Nat × (Int) × (Unit)) (fun ⟨n0, i, _⟩ => [(5, .int .i64 i)]) (fun ⟨n0, i, _⟩ => []) (fun ⟨n0, i, _⟩ => loopO (M.spec_l2DayOf_l0 r_ kind) n0 i = some e0) (fun ⟨n0, _, _⟩ => n0) (rounds, (0 : Int), ()) rfl he1 ?_
   rintro ⟨n0, i, _⟩ hP0
   obtain ⟨m0, y0, rfl, hm1, hl1, hr1⟩ := loop_head hP0
   unfold M.spec_l2DayOf_l0 at hm1; dsimp only at hm1
   show V _ _ _ ⟨31, [(5, .int .i64 i), (1, .int .i64 kind), (2, .ref b0 4 0 0)], [(b0, ⟨4, [encRecord ρ0 r_]⟩)]⟩
   refine V.seq ?_
   refine V.seq ?_
   refine V.region ?_
   refine VO.cons rfl (V1.move rfl rfl rfl lt0 ?_)
   refine VO.cons rfl (V1.fieldRef rfl rfl fo_41_3 rfl lt0 ?_)
   refine VO.cons rfl (V1.loadRef (k := 0) rfl rfl tyk_39 rfl rfl rfl rfl rfl lt0 ?_)
   refine VO.cons rfl (V1.lenMap rfl rfl rfl rfl rfl rfl isl_39 lt0 ?_)
   refine VO.cons rfl (V1.int rfl rfl rfl rfl rfl lt0 ?_)
   refine VO.nil ?_
   refine V.keep 31 [1, 2, 5, 14] [0] (E0 := [(1, .int .i64 kind), (2, .ref b0 4 0 0), (5, .int .i64 i), (14, .bool (decide (i < (r_.Events.length : Int))))]) (H0 := [(b0, ⟨4, [encRecord ρ0 r_]⟩)]) rfl (⟨_, _, rfl, rfl, _, _, rfl, rfl, _, _, rfl, rfl, _, _, rfl, rfl, rfl⟩) (⟨_, _, rfl, rfl, rfl⟩) rfl ?_
   refine V.cond rfl (fun hc1 => ?_) (fun hc1 => ?_)
   ·
    replace hm1 := cond_t hc1 hm1
    refine V.skip ?_
    refine V.seq ?_
    refine V.block ?_
    refine V.seq ?_
    replace hm1 := asrt_some hm1; rcases hm1 with ⟨hh0, hm1⟩
    refine V.region ?_
    refine VO.cons rfl (V1.fieldRef rfl rfl fo_41_3 rfl lt0 ?_)
    refine VO.cons rfl (V1.loadRef (k := 0) rfl rfl tyk_39 rfl rfl rfl rfl rfl lt0 ?_)
    refine VO.cons rfl (V1.move rfl rfl rfl lt0 ?_)
    refine VO.cons rfl (V1.indexI rfl rfl esz_39 rfl rfl hh0 lt0 ?_)
    refine VO.cons rfl (V1.fieldPin rfl rfl fo_52_0 rfl lt0 ?_)
    refine VO.cons rfl (V1.loadPin rfl rfl tyk_3 rfl rfl lt0 ?_)
    refine VO.cons rfl (V1.move rfl rfl rfl lt0 ?_)
    refine VO.cons rfl (V1.int rfl rfl rfl rfl rfl lt0 ?_)
    refine VO.nil ?_
    refine V.keep 31 [1, 2, 5, 24] [0] (E0 := [(1, .int .i64 kind), (2, .ref b0 4 0 0), (5, .int .i64 i), (24, .bool (((r_.Events.getD (Int.toNat i) default).Kind) == kind))]) (H0 := [(b0, ⟨4, [encRecord ρ0 r_]⟩)]) rfl (⟨_, _, rfl, rfl, _, _, rfl, rfl, _, _, rfl, rfl, _, _, rfl, rfl, rfl⟩) (⟨_, _, rfl, rfl, rfl⟩) rfl ?_
    refine V.cond rfl (fun hc2 => ?_) (fun hc2 => ?_)
    ·
     replace hm1 := cond_t hc2 hm1
     refine V.seq ?_
     replace hm1 := asrt_some hm1; rcases hm1 with ⟨hh1, hm1⟩
     refine V.region ?_
     refine VO.cons rfl (V1.fieldRef rfl rfl fo_41_3 rfl lt0 ?_)
     refine VO.cons rfl (V1.loadRef (k := 0) rfl rfl tyk_39 rfl rfl rfl rfl rfl lt0 ?_)
     refine VO.cons rfl (V1.move rfl rfl rfl lt0 ?_)
     refine VO.cons rfl (V1.indexI rfl rfl esz_39 rfl rfl hh1 lt0 ?_)
     refine VO.cons rfl (V1.fieldPin rfl rfl fo_52_1 rfl lt0 ?_)
     refine VO.cons rfl (V1.loadPin rfl rfl tyk_3 rfl rfl lt0 ?_)
     refine VO.cons rfl (V1.assign rfl rfl rfl lt0 ?_)
     refine VO.nil ?_
     refine V.ret ?_
     obtain rfl := hr1 _ (Option.some.inj hm1).symm
     change some _ = some _ at hm0
     obtain rfl := Option.some.inj hm0
     exact ⟨_, [], ⟨_, _, rfl, rfl, rfl⟩, List.nil_sublist _, rfl, rfl⟩
    ·
     replace hm1 := cond_f hc2 hm1
     refine V.skip ?_
     refine V.region ?_
     refine VO.cons rfl (V1.move rfl rfl rfl lt0 ?_)
     refine VO.cons rfl (V1.int rfl rfl rfl rfl rfl lt0 ?_)
     refine VO.cons rfl (V1.assign rfl rfl rfl lt0 ?_)
     refine VO.nil ?_
     exact ⟨(m0, (IntKind.i64.wrap (i + (1 : Int))), ()), hl1 _ (Option.some.inj hm1).symm, Nat.lt_succ_self _, Keeps.mk (ks := [0]) rfl ⟨rfl, rfl, rfl, trivial⟩ (⟨_, _, rfl, rfl, rfl⟩) rfl⟩
   ·
    replace hm1 := cond_f hc1 hm1
    refine V.exit ?_
    obtain rfl := hr1 _ (Option.some.inj hm1).symm
    exact ⟨((), ()), rfl, Keeps.mk (ks := []) rfl trivial (rfl) rfl⟩
  ·
   rintro ⟨_, _⟩ rfl
   try dsimp only at hm0
   refine V.seq ?_
   refine V.region ?_
   refine VO.cons rfl (V1.assign rfl rfl rfl lt0 ?_)
   refine VO.nil ?_
   refine V.ret ?_
   obtain rfl := Option.some.inj hm0
   exact ⟨_, [], ⟨_, _, rfl, rfl, rfl⟩, List.nil_sublist _, rfl, rfl⟩

theorem ok_spec_l2Day {rn : Nat} {d : Int} {r : Bool} (h : M.spec_l2Day d = some r) : Does Tryd.prog 36 [.int .i64 d] [] rn (fun x H => x = .bool r ∧ H = []) := by
 have hm0 := h; clear h; unfold M.spec_l2Day at hm0
 try dsimp only at hm0
 refine Does.intro (N := 5) Tryd.func36 rfl rfl rfl rfl ?_
 intro w0 S0 L0
 refine V.seq ?_
 refine V.region ?_
 refine VO.cons rfl (V1.assign rfl rfl rfl lt0 ?_)
 refine VO.nil ?_
 refine V.seq ?_
 replace hm0 := bindO hm0; rcases hm0 with ⟨y0, hh0, hm0⟩
 refine V.region ?_
 refine VO.cons rfl (V1.move rfl rfl rfl lt0 ?_)
 refine VO.cons rfl (V1.call rfl rfl rfl cok_22 rfl (ok_spec_l1In hh0) rfl lt0 ?_)
 rintro _ _ ⟨rfl, rfl⟩
 refine VO.cons rfl (V1.assign rfl rfl rfl lt0 ?_)
 refine VO.nil ?_
 refine V.ret ?_
 obtain rfl := Option.some.inj hm0
 exact ⟨_, [], ⟨_, _, rfl, rfl, rfl⟩, List.nil_sublist _, rfl, rfl⟩

theorem ok_spec_l19Test {ρ2 rn : Nat} {s : List UInt8} {at_ : Int} {r_ : Record} {r : Bool × Int} (h : M.spec_l19Test s at_ r_ = some r) : Does Tryd.prog 32 [.str s, .int .i64 at_, encRecord ρ2 r_] [] rn (fun x H => x = .tup [.bool r.1, .int .i64 r.2] ∧ H = []) := by
 have hm0 := h; clear h; unfold M.spec_l19Test at hm0
 try dsimp only at hm0
 refine Does.intro (N := 79) Tryd.func32 rfl rfl rfl rfl ?_
 intro w0 S0 L0
 refine V.seq ?_
 refine V.region ?_
 refine VO.cons rfl (V1.boxN (n := 4) rfl rfl rfl rfl rfl lt0 ?_)
 intro b0
 refine VO.cons rfl (V1.assign rfl rfl rfl lt0 ?_)
 refine VO.cons rfl (V1.assign rfl rfl rfl lt0 ?_)
 refine VO.nil ?_
 refine V.seq ?_
 refine V.seq ?_
 refine V.region ?_
 refine VO.cons rfl (V1.move rfl rfl rfl lt0 ?_)
 refine VO.cons rfl (V1.move rfl rfl rfl lt0 ?_)
 refine VO.cons rfl (V1.lenStr rfl rfl rfl rfl rfl rfl istr_9 lt0 ?_)
 refine VO.cons rfl (V1.int rfl rfl rfl rfl rfl lt0 ?_)
 refine VO.nil ?_
 refine V.keep 79 [0, 1, 5, 13] [0] (E0 := [(0, .str s), (1, .int .i64 at_), (5, .ref b0 4 0 0), (13, .bool (decide (at_ ≥ (s.length : Int))))]) (H0 := [(b0, ⟨4, [encRecord ρ2 r_]⟩)]) rfl (⟨_, _, rfl, rfl, _, _, rfl, rfl, _, _, rfl, rfl, _, _, rfl, rfl, rfl⟩) (⟨_, _, rfl, rfl, rfl⟩) rfl ?_
 refine V.cond rfl (fun hc0 => ?_) (fun hc0 => ?_)
 ·
  replace hm0 := cond_t hc0 hm0
  refine V.seq ?_
  refine V.region ?_
  refine VO.cons rfl (V1.assign rfl rfl rfl lt0 ?_)
  refine VO.cons rfl (V1.assign rfl rfl rfl lt0 ?_)
  refine VO.nil ?_
  refine V.ret ?_
  obtain rfl := Option.some.inj hm0
  exact ⟨_, [], ⟨_, _, rfl, rfl, _, _, rfl, rfl, rfl⟩, List.nil_sublist _, rfl, rfl⟩
 ·
  replace hm0 := cond_f hc0 hm0
  refine V.skip ?_
  refine V.seq ?_
  replace hm0 := bindO hm0; rcases hm0 with ⟨y0, hh0, hm0⟩
  refine V.region ?_
  refine VO.cons rfl (V1.move rfl rfl rfl lt0 ?_)
  refine VO.cons rfl (V1.move rfl rfl rfl lt0 ?_)
  refine VO.cons rfl (V1.int rfl rfl rfl rfl rfl lt0 ?_)
  refine VO.cons rfl (V1.call rfl rfl rfl cok_34 rfl (ok_spec_l19Number hh0) rfl lt0 ?_)
  rintro _ _ ⟨rfl, rfl⟩
  refine VO.cons rfl (V1.move rfl rfl rfl lt0 ?_)
  refine VO.cons rfl (V1.extract rfl rfl rfl rfl lt0 ?_)
  refine VO.cons rfl (V1.extract rfl rfl rfl rfl lt0 ?_)
  refine VO.cons rfl (V1.assign rfl rfl rfl lt0 ?_)
  refine VO.cons rfl (V1.assign rfl rfl rfl lt0 ?_)
  refine VO.nil ?_
  refine V.keep 79 [0, 1, 5, 8, 9] [0] (E0 := [(0, .str s), (1, .int .i64 at_), (5, .ref b0 4 0 0), (8, .int .i64 y0.1), (9, .int .i64 y0.2)]) (H0 := [(b0, ⟨4, [encRecord ρ2 r_]⟩)]) rfl (⟨_, _, rfl, rfl, _, _, rfl, rfl, _, _, rfl, rfl, _, _, rfl, rfl, _, _, rfl, rfl, rfl⟩) (⟨_, _, rfl, rfl, rfl⟩) rfl ?_
  refine V.seq ?_
  refine V.seq ?_
  refine V.region ?_
  refine VO.cons rfl (V1.move rfl rfl rfl lt0 ?_)
  refine VO.cons rfl (V1.int rfl rfl rfl rfl rfl lt0 ?_)
  refine VO.nil ?_
  refine V.cond rfl (fun hc1 => ?_) (fun hc1 => ?_)
  ·
   replace hm0 := cond_t hc1 hm0
   refine V.seq ?_
   refine V.region ?_
   refine VO.cons rfl (V1.assign rfl rfl rfl lt0 ?_)
   refine VO.cons rfl (V1.assign rfl rfl rfl lt0 ?_)
   refine VO.nil ?_
   refine V.ret ?_
   obtain rfl := Option.some.inj hm0
   exact ⟨_, [], ⟨_, _, rfl, rfl, _, _, rfl, rfl, rfl⟩, List.nil_sublist _, rfl, rfl⟩
  ·
   replace hm0 := cond_f hc1 hm0
   refine V.skip ?_
   refine V.seq ?_
   refine V.block ?_
   refine V.seq ?_
   replace hm0 := asrt_some hm0; rcases hm0 with ⟨hh1, hm0⟩
   replace hm0 := bindO hm0; rcases hm0 with ⟨y1, hh2, hm0⟩
   refine V.region ?_
   refine VO.cons rfl (V1.move rfl rfl rfl lt0 ?_)
   refine VO.cons rfl (V1.move rfl rfl rfl lt0 ?_)
   refine VO.cons rfl (V1.indexStrI rfl rfl istr_9 rfl rfl hh1 lt0 ?_)
   refine VO.cons rfl (V1.int rfl rfl rfl rfl rfl lt0 ?_)
   refine VO.cons rfl (V1.move rfl rfl rfl lt0 ?_)
   apply VO.and (n := 2) rfl rfl rfl rfl rfl rfl lt0 (.none rfl)
   ·
    intro hg0
    refine VO.step (.some rfl rfl rfl) (V1.move rfl rfl rfl lt0 ?_)
    refine VO.step (.some rfl rfl rfl) (V1.call rfl rfl rfl cok_22 rfl (ok_spec_l1In (cond_t hg0 hh2)) rfl lt0 ?_)
    rintro _ _ ⟨rfl, rfl⟩
    exact VO.nil ⟨rfl, rfl, rfl, rfl, .inr ⟨rfl, .inr ⟨rfl, .inr ⟨rfl, .inl rfl⟩⟩⟩⟩
   refine VO.cons rfl (V1.assign rfl rfl rfl lt0 ?_)
   refine VO.nil ?_
   refine V.keep 79 [0, 1, 5, 8, 9, 23] [0] (E0 := [(0, .str s), (1, .int .i64 at_), (5, .ref b0 4 0 0), (8, .int .i64 y0.1), (9, .int .i64 y0.2), (23, .bool ((((s.getD (Int.toNat at_) 0).toNat : Int) == (115 : Int)) && y1))]) (H0 := [(b0, ⟨4, [encRecord ρ2 r_]⟩)]) rfl (⟨_, _, rfl, rfl, _, _, rfl, rfl, _, _, rfl, rfl, _, _, rfl, rfl, _, _, rfl, rfl, _, _, rfl, rfl, rfl⟩) (⟨_, _, rfl, rfl, rfl⟩) rfl ?_
   refine V.cond rfl (fun hc2 => ?_) (fun hc2 => ?_)
   ·
    replace hm0 := cond_t hc2 hm0
    refine V.seq ?_
    refine V.region ?_
    refine VO.cons rfl (V1.fieldRef rfl rfl fo_41_1 rfl lt0 ?_)
    refine VO.cons rfl (V1.loadRef (k := 0) rfl rfl tyk_3 rfl rfl rfl rfl rfl lt0 ?_)
    refine VO.cons rfl (V1.move rfl rfl rfl lt0 ?_)
    refine VO.cons rfl (V1.int rfl rfl rfl rfl rfl lt0 ?_)
    refine VO.cons rfl (V1.move rfl rfl rfl lt0 ?_)
    refine VO.cons rfl (V1.assign rfl rfl rfl lt0 ?_)
    refine VO.cons rfl (V1.assign rfl rfl rfl lt0 ?_)
    refine VO.nil ?_
    refine V.ret ?_
    obtain rfl := Option.some.inj hm0
    exact ⟨_, [], ⟨_, _, rfl, rfl, _, _, rfl, rfl, rfl⟩, List.nil_sublist _, rfl, rfl⟩
   ·
    replace hm0 := cond_f hc2 hm0
    refine V.seq ?_
    replace hm0 := asrt_some hm0; rcases hm0 with ⟨hh3, hm0⟩
    replace hm0 := bindO hm0; rcases hm0 with ⟨y2, hh4, hm0⟩
    refine V.region ?_
    refine VO.cons rfl (V1.move rfl rfl rfl lt0 ?_)
    refine VO.cons rfl (V1.move rfl rfl rfl lt0 ?_)
    refine VO.cons rfl (V1.indexStrI rfl rfl istr_9 rfl rfl hh3 lt0 ?_)
    refine VO.cons rfl (V1.int rfl rfl rfl rfl rfl lt0 ?_)
    refine VO.cons rfl (V1.move rfl rfl rfl lt0 ?_)
    apply VO.and (n := 2) rfl rfl rfl rfl rfl rfl lt0 (.none rfl)
    ·
     intro hg1
     refine VO.step (.some rfl rfl rfl) (V1.move rfl rfl rfl lt0 ?_)
     refine VO.step (.some rfl rfl rfl) (V1.call rfl rfl rfl cok_22 rfl (ok_spec_l1In (cond_t hg1 hh4)) rfl lt0 ?_)
     rintro _ _ ⟨rfl, rfl⟩
     exact VO.nil ⟨rfl, rfl, rfl, rfl, .inr ⟨rfl, .inr ⟨rfl, .inr ⟨rfl, .inl rfl⟩⟩⟩⟩
    refine VO.cons rfl (V1.assign rfl rfl rfl lt0 ?_)
    refine VO.nil ?_
    refine V.keep 79 [0, 1, 5, 8, 9, 37] [0] (E0 := [(0, .str s), (1, .int .i64 at_), (5, .ref b0 4 0 0), (8, .int .i64 y0.1), (9, .int .i64 y0.2), (37, .bool ((((s.getD (Int.toNat at_) 0).toNat : Int) == (105 : Int)) && y2))]) (H0 := [(b0, ⟨4, [encRecord ρ2 r_]⟩)]) rfl (⟨_, _, rfl, rfl, _, _, rfl, rfl, _, _, rfl, rfl, _, _, rfl, rfl, _, _, rfl, rfl, _, _, rfl, rfl, rfl⟩) (⟨_, _, rfl, rfl, rfl⟩) rfl ?_
    refine V.cond rfl (fun hc3 => ?_) (fun hc3 => ?_)
    ·
     replace hm0 := cond_t hc3 hm0
     refine V.seq ?_
     refine V.region ?_
     refine VO.cons rfl (V1.fieldRef rfl rfl fo_41_0 rfl lt0 ?_)
     refine VO.cons rfl (V1.loadRef (k := 0) rfl rfl tyk_3 rfl rfl rfl rfl rfl lt0 ?_)
     refine VO.cons rfl (V1.move rfl rfl rfl lt0 ?_)
     refine VO.cons rfl (V1.int rfl rfl rfl rfl rfl lt0 ?_)
     refine VO.cons rfl (V1.move rfl rfl rfl lt0 ?_)
     refine VO.cons rfl (V1.assign rfl rfl rfl lt0 ?_)
     refine VO.cons rfl (V1.assign rfl rfl rfl lt0 ?_)
     refine VO.nil ?_
     refine V.ret ?_
     obtain rfl := Option.some.inj hm0
     exact ⟨_, [], ⟨_, _, rfl, rfl, _, _, rfl, rfl, rfl⟩, List.nil_sublist _, rfl, rfl⟩
    ·
     replace hm0 := cond_f hc3 hm0
     refine V.seq ?_
     replace hm0 := asrt_some hm0; rcases hm0 with ⟨hh5, hm0⟩
     replace hm0 := bindO hm0; rcases hm0 with ⟨y3, hh6, hm0⟩
     refine V.region ?_
     refine VO.cons rfl (V1.move rfl rfl rfl lt0 ?_)
     refine VO.cons rfl (V1.move rfl rfl rfl lt0 ?_)
     refine VO.cons rfl (V1.indexStrI rfl rfl istr_9 rfl rfl hh5 lt0 ?_)
     refine VO.cons rfl (V1.int rfl rfl rfl rfl rfl lt0 ?_)
     refine VO.cons rfl (V1.move rfl rfl rfl lt0 ?_)
     apply VO.and (n := 2) rfl rfl rfl rfl rfl rfl lt0 (.none rfl)
     ·
      intro hg2
      refine VO.step (.some rfl rfl rfl) (V1.move rfl rfl rfl lt0 ?_)
      refine VO.step (.some rfl rfl rfl) (V1.call rfl rfl rfl cok_22 rfl (ok_spec_l1In (cond_t hg2 hh6)) rfl lt0 ?_)
      rintro _ _ ⟨rfl, rfl⟩
      exact VO.nil ⟨rfl, rfl, rfl, rfl, .inr ⟨rfl, .inr ⟨rfl, .inr ⟨rfl, .inl rfl⟩⟩⟩⟩
     refine VO.cons rfl (V1.assign rfl rfl rfl lt0 ?_)
     refine VO.nil ?_
     refine V.keep 79 [0, 1, 5, 8, 9, 51] [0] (E0 := [(0, .str s), (1, .int .i64 at_), (5, .ref b0 4 0 0), (8, .int .i64 y0.1), (9, .int .i64 y0.2), (51, .bool ((((s.getD (Int.toNat at_) 0).toNat : Int) == (101 : Int)) && y3))]) (H0 := [(b0, ⟨4, [encRecord ρ2 r_]⟩)]) rfl (⟨_, _, rfl, rfl, _, _, rfl, rfl, _, _, rfl, rfl, _, _, rfl, rfl, _, _, rfl, rfl, _, _, rfl, rfl, rfl⟩) (⟨_, _, rfl, rfl, rfl⟩) rfl ?_
     refine V.cond rfl (fun hc4 => ?_) (fun hc4 => ?_)
     ·
      replace hm0 := cond_t hc4 hm0
      refine V.seq ?_
      replace hm0 := bindO hm0; rcases hm0 with ⟨y4, hh7, hm0⟩
      refine V.region ?_
      refine VO.cons rfl (V1.loadRefAll (k := 0) rfl rfl tyk_41 rfl rfl rfl rfl rfl lt0 ?_)
      refine VO.cons rfl (V1.move rfl rfl rfl lt0 ?_)
      refine VO.cons rfl (V1.call rfl rfl rfl cok_35 rfl (ok_spec_l2DayOf hh7) rfl lt0 ?_)
      rintro _ _ ⟨rfl, rfl⟩
      refine VO.cons rfl (V1.int rfl rfl rfl rfl rfl lt0 ?_)
      refine VO.cons rfl (V1.move rfl rfl rfl lt0 ?_)
      refine VO.cons rfl (V1.assign rfl rfl rfl lt0 ?_)
      refine VO.cons rfl (V1.assign rfl rfl rfl lt0 ?_)
      refine VO.nil ?_
      refine V.ret ?_
      obtain rfl := Option.some.inj hm0
      exact ⟨_, [], ⟨_, _, rfl, rfl, _, _, rfl, rfl, rfl⟩, List.nil_sublist _, rfl, rfl⟩
     ·
      replace hm0 := cond_f hc4 hm0
      refine V.seq ?_
      replace hm0 := asrt_some hm0; rcases hm0 with ⟨hh8, hm0⟩
      replace hm0 := bindO hm0; rcases hm0 with ⟨y5, hh9, hm0⟩
      refine V.region ?_
      refine VO.cons rfl (V1.move rfl rfl rfl lt0 ?_)
      refine VO.cons rfl (V1.move rfl rfl rfl lt0 ?_)
      refine VO.cons rfl (V1.indexStrI rfl rfl istr_9 rfl rfl hh8 lt0 ?_)
      refine VO.cons rfl (V1.int rfl rfl rfl rfl rfl lt0 ?_)
      refine VO.cons rfl (V1.move rfl rfl rfl lt0 ?_)
      apply VO.and (n := 2) rfl rfl rfl rfl rfl rfl lt0 (.none rfl)
      ·
       intro hg3
       refine VO.step (.some rfl rfl rfl) (V1.move rfl rfl rfl lt0 ?_)
       refine VO.step (.some rfl rfl rfl) (V1.call rfl rfl rfl cok_36 rfl (ok_spec_l2Day (cond_t hg3 hh9)) rfl lt0 ?_)
       rintro _ _ ⟨rfl, rfl⟩
       exact VO.nil ⟨rfl, rfl, rfl, rfl, .inr ⟨rfl, .inr ⟨rfl, .inr ⟨rfl, .inl rfl⟩⟩⟩⟩
      refine VO.cons rfl (V1.assign rfl rfl rfl lt0 ?_)
      refine VO.nil ?_
      refine V.keep 79 [5, 8, 9, 65] [0] (E0 := [(5, .ref b0 4 0 0), (8, .int .i64 y0.1), (9, .int .i64 y0.2), (65, .bool ((((s.getD (Int.toNat at_) 0).toNat : Int) == (97 : Int)) && y5))]) (H0 := [(b0, ⟨4, [encRecord ρ2 r_]⟩)]) rfl (⟨_, _, rfl, rfl, _, _, rfl, rfl, _, _, rfl, rfl, _, _, rfl, rfl, rfl⟩) (⟨_, _, rfl, rfl, rfl⟩) rfl ?_
      refine V.cond rfl (fun hc5 => ?_) (fun hc5 => ?_)
      ·
       replace hm0 := cond_t hc5 hm0
       refine V.seq ?_
       refine V.region ?_
       refine VO.cons rfl (V1.fieldRef rfl rfl fo_41_2 rfl lt0 ?_)
       refine VO.cons rfl (V1.loadRef (k := 0) rfl rfl tyk_3 rfl rfl rfl rfl rfl lt0 ?_)
       refine VO.cons rfl (V1.move rfl rfl rfl lt0 ?_)
       refine VO.cons rfl (V1.int rfl rfl rfl rfl rfl lt0 ?_)
       refine VO.cons rfl (V1.move rfl rfl rfl lt0 ?_)
       refine VO.cons rfl (V1.assign rfl rfl rfl lt0 ?_)
       refine VO.cons rfl (V1.assign rfl rfl rfl lt0 ?_)
       refine VO.nil ?_
       refine V.ret ?_
       obtain rfl := Option.some.inj hm0
       exact ⟨_, [], ⟨_, _, rfl, rfl, _, _, rfl, rfl, rfl⟩, List.nil_sublist _, rfl, rfl⟩
      ·
       replace hm0 := cond_f hc5 hm0
       refine V.skip ?_
       refine V.keep 79 [] [] (E0 := []) (H0 := []) rfl (rfl) (rfl) rfl ?_
       refine V.seq ?_
       refine V.region ?_
       refine VO.cons rfl (V1.assign rfl rfl rfl lt0 ?_)
       refine VO.cons rfl (V1.assign rfl rfl rfl lt0 ?_)
       refine VO.nil ?_
       refine V.ret ?_
       obtain rfl := Option.some.inj hm0
       exact ⟨_, [], ⟨_, _, rfl, rfl, _, _, rfl, rfl, rfl⟩, List.nil_sublist _, rfl, rfl⟩

theorem ok_spec_l19Term_p {rec_ : (List UInt8) → Int → Record → Option (Bool × Int)} (hrec_ : ∀ {ρ2 rn : Nat} {s : List UInt8} {at_ : Int} {r_ : Record} {r : Bool × Int} , rec_ s at_ r_ = some r → Does Tryd.prog 29 [.str s, .int .i64 at_, encRecord ρ2 r_] [] rn (fun x H => x = .tup [.bool r.1, .int .i64 r.2] ∧ H = [])) {ρ2 rn : Nat} {s : List UInt8} {at_ : Int} {r_ : Record} {r : Bool × Int} (h : M.spec_l19Term_p rec_ s at_ r_ = some r) : Does Tryd.prog 26 [.str s, .int .i64 at_, encRecord ρ2 r_] [] rn (fun x H => x = .tup [.bool r.1, .int .i64 r.2] ∧ H = []) := by
 have hm0 := h; clear h; unfold M.spec_l19Term_p at hm0
 try dsimp only at hm0
 refine Does.intro (N := 48) Tryd.func26 rfl rfl rfl rfl ?_
 intro w0 S0 L0
 refine V.seq ?_
 refine V.region ?_
 refine VO.cons rfl (V1.boxN (n := 4) rfl rfl rfl rfl rfl lt0 ?_)
 intro b0
 refine VO.cons rfl (V1.assign rfl rfl rfl lt0 ?_)
 refine VO.cons rfl (V1.assign rfl rfl rfl lt0 ?_)
 refine VO.nil ?_
 refine V.seq ?_
 replace hm0 := bindO hm0; rcases hm0 with ⟨y0, hh0, hm0⟩
 refine V.region ?_
 refine VO.cons rfl (V1.move rfl rfl rfl lt0 ?_)
 refine VO.cons rfl (V1.move rfl rfl rfl lt0 ?_)
 refine VO.cons rfl (V1.loadRefAll (k := 0) rfl rfl tyk_41 rfl rfl rfl rfl rfl lt0 ?_)
 refine VO.cons rfl (V1.call rfl rfl rfl cok_29 rfl (hrec_ hh0) rfl lt0 ?_)
 rintro _ _ ⟨rfl, rfl⟩
 refine VO.cons rfl (V1.move rfl rfl rfl lt0 ?_)
 refine VO.cons rfl (V1.extract rfl rfl rfl rfl lt0 ?_)
 refine VO.cons rfl (V1.extract rfl rfl rfl rfl lt0 ?_)
 refine VO.cons rfl (V1.assign rfl rfl rfl lt0 ?_)
 refine VO.cons rfl (V1.assign rfl rfl rfl lt0 ?_)
 refine VO.nil ?_
 refine V.keep 48 [0, 5, 8, 9] [0] (E0 := [(0, .str s), (5, .ref b0 4 0 0), (8, .bool y0.1), (9, .int .i64 y0.2)]) (H0 := [(b0, ⟨4, [encRecord ρ2 r_]⟩)]) rfl (⟨_, _, rfl, rfl, _, _, rfl, rfl, _, _, rfl, rfl, _, _, rfl, rfl, rfl⟩) (⟨_, _, rfl, rfl, rfl⟩) rfl ?_
 refine V.seq ?_
 replace hm0 := bindO hm0; rcases hm0 with ⟨e0, he1, hm0⟩
 refine V.cutT (D := (Bool × Int) × (Unit)) (fun ⟨⟨yes, end_⟩, _⟩ => ⟨48, [(8, .bool yes), (9, .int .i64 end_)], []⟩) (fun ⟨⟨yes, end_⟩, _⟩ => ((yes, end_) = e0)) ?_ ?_
 ·
  refine V.block ?_
  refine V.keep 48 [8, 9, 0, 5] [0] (E0 := [(8, .bool y0.1), (9, .int .i64 y0.2), (0, .str s), (5, .ref b0 4 0 0)]) (H0 := [(b0, ⟨4, [encRecord ρ2 r_]⟩)]) rfl (⟨_, _, rfl, rfl, _, _, rfl, rfl, _, _, rfl, rfl, _, _, rfl, rfl, rfl⟩) (⟨_, _, rfl, rfl, rfl⟩) rfl ?_
  refine V.loopE (D := Nat × (Bool × Int) × (Unit)) (fun ⟨n0, ⟨yes0, end_0⟩, _⟩ => [(8, .bool yes0), (9, .int .i64 end_0)]) (fun ⟨n0, ⟨yes0, end_0⟩, _⟩ => []) (fun ⟨n0, ⟨yes0, end_0⟩, _⟩ => loopO (M.spec_l19Term_p_l0 rec_ s r_) n0 (yes0, end_0) = some e0) (fun ⟨n0, _, _⟩ => n0) (rounds, (y0.1, y0.2), ()) rfl he1 ?_
  rintro ⟨n0, ⟨yes0, end_0⟩, _⟩ hP0
  obtain ⟨m0, y1, rfl, hm1, hl1, hr1⟩ := loop_head hP0
  unfold M.spec_l19Term_p_l0 at hm1; dsimp only at hm1
  show V _ _ _ ⟨48, [(8, .bool yes0), (9, .int .i64 end_0), (0, .str s), (5, .ref b0 4 0 0)], [(b0, ⟨4, [encRecord ρ2 r_]⟩)]⟩
  refine V.seq ?_
  refine V.seq ?_
  replace hm1 := asrt_some hm1; rcases hm1 with ⟨hh1, hm1⟩
  refine V.region ?_
  refine VO.cons rfl (V1.move rfl rfl rfl lt0 ?_)
  refine VO.cons rfl (V1.int rfl rfl rfl rfl rfl lt0 ?_)
  refine VO.cons rfl (V1.move rfl rfl rfl lt0 ?_)
  apply VO.and (n := 4) rfl rfl rfl rfl rfl rfl lt0 (.none rfl)
  ·
   intro hg0
   refine VO.step (.some rfl rfl rfl) (V1.move rfl rfl rfl lt0 ?_)
   refine VO.step (.some rfl rfl rfl) (V1.move rfl rfl rfl lt0 ?_)
   refine VO.step (.some rfl rfl rfl) (V1.lenStr rfl rfl rfl rfl rfl rfl istr_9 lt0 ?_)
   refine VO.step (.some rfl rfl rfl) (V1.int rfl rfl rfl rfl rfl lt0 ?_)
   exact VO.nil ⟨rfl, rfl, rfl, rfl, .inr ⟨rfl, .inr ⟨rfl, .inr ⟨rfl, .inr ⟨rfl, .inr ⟨rfl, .inl rfl⟩⟩⟩⟩⟩⟩
  refine VO.cons rfl (V1.move rfl rfl rfl lt0 ?_)
  apply VO.and (n := 4) rfl rfl rfl rfl rfl rfl lt0 (.none rfl)
  ·
   intro hg1
   refine VO.step (.some rfl rfl rfl) (V1.move rfl rfl rfl lt0 ?_)
   refine VO.step (.some rfl rfl rfl) (V1.move rfl rfl rfl lt0 ?_)
   refine VO.step (.some rfl rfl rfl) (V1.indexStrI rfl rfl istr_9 rfl rfl (hh1 hg1) lt0 ?_)
   refine VO.step (.some rfl rfl rfl) (V1.int rfl rfl rfl rfl rfl lt0 ?_)
   exact VO.nil ⟨rfl, rfl, rfl, rfl, .inr ⟨rfl, .inr ⟨rfl, .inr ⟨rfl, .inr ⟨rfl, .inr ⟨rfl, .inl rfl⟩⟩⟩⟩⟩⟩
  refine VO.nil ?_
  refine V.keep 48 [0, 5, 8, 9, 32] [0] (E0 := [(0, .str s), (5, .ref b0 4 0 0), (8, .bool yes0), (9, .int .i64 end_0), (32, .bool (((decide (end_0 ≥ (0 : Int))) && (decide (end_0 < (s.length : Int)))) && (((s.getD (Int.toNat end_0) 0).toNat : Int) == (38 : Int))))]) (H0 := [(b0, ⟨4, [encRecord ρ2 r_]⟩)]) rfl (⟨_, _, rfl, rfl, _, _, rfl, rfl, _, _, rfl, rfl, _, _, rfl, rfl, _, _, rfl, rfl, rfl⟩) (⟨_, _, rfl, rfl, rfl⟩) rfl ?_
  refine V.cond rfl (fun hc0 => ?_) (fun hc0 => ?_)
  ·
   replace hm1 := cond_t hc0 hm1
   refine V.skip ?_
   refine V.block ?_
   refine V.seq ?_
   replace hm1 := bindO hm1; rcases hm1 with ⟨y2, hh2, hm1⟩
   refine V.region ?_
   refine VO.cons rfl (V1.move rfl rfl rfl lt0 ?_)
   refine VO.cons rfl (V1.move rfl rfl rfl lt0 ?_)
   refine VO.cons rfl (V1.int rfl rfl rfl rfl rfl lt0 ?_)
   refine VO.cons rfl (V1.loadRefAll (k := 0) rfl rfl tyk_41 rfl rfl rfl rfl rfl lt0 ?_)
   refine VO.cons rfl (V1.call rfl rfl rfl cok_29 rfl (hrec_ hh2) rfl lt0 ?_)
   rintro _ _ ⟨rfl, rfl⟩
   refine VO.cons rfl (V1.move rfl rfl rfl lt0 ?_)
   refine VO.cons rfl (V1.extract rfl rfl rfl rfl lt0 ?_)
   refine VO.cons rfl (V1.extract rfl rfl rfl rfl lt0 ?_)
   refine VO.cons rfl (V1.assign rfl rfl rfl lt0 ?_)
   refine VO.cons rfl (V1.assign rfl rfl rfl lt0 ?_)
   refine VO.nil ?_
   refine V.keep 48 [0, 5, 8, 10, 11] [0] (E0 := [(0, .str s), (5, .ref b0 4 0 0), (8, .bool yes0), (10, .bool y2.1), (11, .int .i64 y2.2)]) (H0 := [(b0, ⟨4, [encRecord ρ2 r_]⟩)]) rfl (⟨_, _, rfl, rfl, _, _, rfl, rfl, _, _, rfl, rfl, _, _, rfl, rfl, _, _, rfl, rfl, rfl⟩) (⟨_, _, rfl, rfl, rfl⟩) rfl ?_
   refine V.seq ?_
   refine V.region ?_
   refine VO.cons rfl (V1.move rfl rfl rfl lt0 ?_)
   refine VO.cons rfl (V1.move rfl rfl rfl lt0 ?_)
   apply VO.and (n := 1) rfl rfl rfl rfl rfl rfl lt0 (.none rfl)
   ·
    intro hg2
    refine VO.step (.some rfl rfl rfl) (V1.move rfl rfl rfl lt0 ?_)
    exact VO.nil ⟨rfl, rfl, rfl, rfl, .inr ⟨rfl, .inr ⟨rfl, .inl rfl⟩⟩⟩
   refine VO.cons rfl (V1.assign rfl rfl rfl lt0 ?_)
   refine VO.nil ?_
   refine V.keep 48 [0, 5, 8, 11] [0] (E0 := [(0, .str s), (5, .ref b0 4 0 0), (8, .bool (yes0 && y2.1)), (11, .int .i64 y2.2)]) (H0 := [(b0, ⟨4, [encRecord ρ2 r_]⟩)]) rfl (⟨_, _, rfl, rfl, _, _, rfl, rfl, _, _, rfl, rfl, _, _, rfl, rfl, rfl⟩) (⟨_, _, rfl, rfl, rfl⟩) rfl ?_
   refine V.region ?_
   refine VO.cons rfl (V1.move rfl rfl rfl lt0 ?_)
   refine VO.cons rfl (V1.assign rfl rfl rfl lt0 ?_)
   refine VO.nil ?_
   exact ⟨(m0, ((yes0 && y2.1), y2.2), ()), hl1 _ (Option.some.inj hm1).symm, Nat.lt_succ_self _, Keeps.mk (ks := [0]) rfl ⟨rfl, rfl, rfl, rfl, trivial⟩ (⟨_, _, rfl, rfl, rfl⟩) rfl⟩
  ·
   replace hm1 := cond_f hc0 hm1
   refine V.exit ?_
   obtain rfl := hr1 _ (Option.some.inj hm1).symm
   exact ⟨((yes0, end_0), ()), rfl, Keeps.mk (ks := []) rfl ⟨rfl, rfl, trivial⟩ (rfl) rfl⟩
 ·
  rintro ⟨⟨yes, end_⟩, _⟩ rfl
  try dsimp only at hm0
  refine V.seq ?_
  refine V.region ?_
  refine VO.cons rfl (V1.move rfl rfl rfl lt0 ?_)
  refine VO.cons rfl (V1.move rfl rfl rfl lt0 ?_)
  refine VO.cons rfl (V1.assign rfl rfl rfl lt0 ?_)
  refine VO.cons rfl (V1.assign rfl rfl rfl lt0 ?_)
  refine VO.nil ?_
  refine V.ret ?_
  obtain rfl := Option.some.inj hm0
  exact ⟨_, [], ⟨_, _, rfl, rfl, _, _, rfl, rfl, rfl⟩, List.nil_sublist _, rfl, rfl⟩

theorem ok_spec_l19Query_p {rec_ : (List UInt8) → Int → Record → Option (Bool × Int)} (hrec_ : ∀ {ρ2 rn : Nat} {s : List UInt8} {at_ : Int} {r_ : Record} {r : Bool × Int} , rec_ s at_ r_ = some r → Does Tryd.prog 29 [.str s, .int .i64 at_, encRecord ρ2 r_] [] rn (fun x H => x = .tup [.bool r.1, .int .i64 r.2] ∧ H = [])) {ρ2 rn : Nat} {s : List UInt8} {at_ : Int} {r_ : Record} {r : Bool × Int} (h : M.spec_l19Query_p rec_ s at_ r_ = some r) : Does Tryd.prog 23 [.str s, .int .i64 at_, encRecord ρ2 r_] [] rn (fun x H => x = .tup [.bool r.1, .int .i64 r.2] ∧ H = []) := by
 have hm0 := h; clear h; unfold M.spec_l19Query_p at hm0
 try dsimp only at hm0
 refine Does.intro (N := 48) Tryd.func23 rfl rfl rfl rfl ?_
 intro w0 S0 L0
 refine V.seq ?_
 refine V.region ?_
 refine VO.cons rfl (V1.boxN (n := 4) rfl rfl rfl rfl rfl lt0 ?_)
 intro b0
 refine VO.cons rfl (V1.assign rfl rfl rfl lt0 ?_)
 refine VO.cons rfl (V1.assign rfl rfl rfl lt0 ?_)
 refine VO.nil ?_
 refine V.seq ?_
 replace hm0 := bindO hm0; rcases hm0 with ⟨y0, hh0, hm0⟩
 refine V.region ?_
 refine VO.cons rfl (V1.move rfl rfl rfl lt0 ?_)
 refine VO.cons rfl (V1.move rfl rfl rfl lt0 ?_)
 refine VO.cons rfl (V1.loadRefAll (k := 0) rfl rfl tyk_41 rfl rfl rfl rfl rfl lt0 ?_)
 refine VO.cons rfl (V1.call rfl rfl rfl cok_26 rfl (ok_spec_l19Term_p hrec_ hh0) rfl lt0 ?_)
 rintro _ _ ⟨rfl, rfl⟩
 refine VO.cons rfl (V1.move rfl rfl rfl lt0 ?_)
 refine VO.cons rfl (V1.extract rfl rfl rfl rfl lt0 ?_)
 refine VO.cons rfl (V1.extract rfl rfl rfl rfl lt0 ?_)
 refine VO.cons rfl (V1.assign rfl rfl rfl lt0 ?_)
 refine VO.cons rfl (V1.assign rfl rfl rfl lt0 ?_)
 refine VO.nil ?_
 refine V.keep 48 [0, 5, 8, 9] [0] (E0 := [(0, .str s), (5, .ref b0 4 0 0), (8, .bool y0.1), (9, .int .i64 y0.2)]) (H0 := [(b0, ⟨4, [encRecord ρ2 r_]⟩)]) rfl (⟨_, _, rfl, rfl, _, _, rfl, rfl, _, _, rfl, rfl, _, _, rfl, rfl, rfl⟩) (⟨_, _, rfl, rfl, rfl⟩) rfl ?_
 refine V.seq ?_
 replace hm0 := bindO hm0; rcases hm0 with ⟨e0, he1, hm0⟩
 refine V.cutT (D := (Bool × Int) × (Unit)) (fun ⟨⟨yes, end_⟩, _⟩ => ⟨48, [(8, .bool yes), (9, .int .i64 end_)], []⟩) (fun ⟨⟨yes, end_⟩, _⟩ => ((yes, end_) = e0)) ?_ ?_
 ·
  refine V.block ?_
  refine V.keep 48 [8, 9, 0, 5] [0] (E0 := [(8, .bool y0.1), (9, .int .i64 y0.2), (0, .str s), (5, .ref b0 4 0 0)]) (H0 := [(b0, ⟨4, [encRecord ρ2 r_]⟩)]) rfl (⟨_, _, rfl, rfl, _, _, rfl, rfl, _, _, rfl, rfl, _, _, rfl, rfl, rfl⟩) (⟨_, _, rfl, rfl, rfl⟩) rfl ?_
  refine V.loopE (D := Nat × (Bool × Int) × (Unit)) (fun ⟨n0, ⟨yes0, end_0⟩, _⟩ => [(8, .bool yes0), (9, .int .i64 end_0)]) (fun ⟨n0, ⟨yes0, end_0⟩, _⟩ => []) (fun ⟨n0, ⟨yes0, end_0⟩, _⟩ => loopO (M.spec_l19Query_p_l0 rec_ s r_) n0 (yes0, end_0) = some e0) (fun ⟨n0, _, _⟩ => n0) (rounds, (y0.1, y0.2), ()) rfl he1 ?_
  rintro ⟨n0, ⟨yes0, end_0⟩, _⟩ hP0
  obtain ⟨m0, y1, rfl, hm1, hl1, hr1⟩ := loop_head hP0
  unfold M.spec_l19Query_p_l0 at hm1; dsimp only at hm1
  show V _ _ _ ⟨48, [(8, .bool yes0), (9, .int .i64 end_0), (0, .str s), (5, .ref b0 4 0 0)], [(b0, ⟨4, [encRecord ρ2 r_]⟩)]⟩
  refine V.seq ?_
  refine V.seq ?_
  replace hm1 := asrt_some hm1; rcases hm1 with ⟨hh1, hm1⟩
  refine V.region ?_
  refine VO.cons rfl (V1.move rfl rfl rfl lt0 ?_)
  refine VO.cons rfl (V1.int rfl rfl rfl rfl rfl lt0 ?_)
  refine VO.cons rfl (V1.move rfl rfl rfl lt0 ?_)
  apply VO.and (n := 4) rfl rfl rfl rfl rfl rfl lt0 (.none rfl)
  ·
   intro hg0
   refine VO.step (.some rfl rfl rfl) (V1.move rfl rfl rfl lt0 ?_)
   refine VO.step (.some rfl rfl rfl) (V1.move rfl rfl rfl lt0 ?_)
   refine VO.step (.some rfl rfl rfl) (V1.lenStr rfl rfl rfl rfl rfl rfl istr_9 lt0 ?_)
   refine VO.step (.some rfl rfl rfl) (V1.int rfl rfl rfl rfl rfl lt0 ?_)
   exact VO.nil ⟨rfl, rfl, rfl, rfl, .inr ⟨rfl, .inr ⟨rfl, .inr ⟨rfl, .inr ⟨rfl, .inr ⟨rfl, .inl rfl⟩⟩⟩⟩⟩⟩
  refine VO.cons rfl (V1.move rfl rfl rfl lt0 ?_)
  apply VO.and (n := 4) rfl rfl rfl rfl rfl rfl lt0 (.none rfl)
  ·
   intro hg1
   refine VO.step (.some rfl rfl rfl) (V1.move rfl rfl rfl lt0 ?_)
   refine VO.step (.some rfl rfl rfl) (V1.move rfl rfl rfl lt0 ?_)
   refine VO.step (.some rfl rfl rfl) (V1.indexStrI rfl rfl istr_9 rfl rfl (hh1 hg1) lt0 ?_)
   refine VO.step (.some rfl rfl rfl) (V1.int rfl rfl rfl rfl rfl lt0 ?_)
   exact VO.nil ⟨rfl, rfl, rfl, rfl, .inr ⟨rfl, .inr ⟨rfl, .inr ⟨rfl, .inr ⟨rfl, .inr ⟨rfl, .inl rfl⟩⟩⟩⟩⟩⟩
  refine VO.nil ?_
  refine V.keep 48 [0, 5, 8, 9, 32] [0] (E0 := [(0, .str s), (5, .ref b0 4 0 0), (8, .bool yes0), (9, .int .i64 end_0), (32, .bool (((decide (end_0 ≥ (0 : Int))) && (decide (end_0 < (s.length : Int)))) && (((s.getD (Int.toNat end_0) 0).toNat : Int) == (124 : Int))))]) (H0 := [(b0, ⟨4, [encRecord ρ2 r_]⟩)]) rfl (⟨_, _, rfl, rfl, _, _, rfl, rfl, _, _, rfl, rfl, _, _, rfl, rfl, _, _, rfl, rfl, rfl⟩) (⟨_, _, rfl, rfl, rfl⟩) rfl ?_
  refine V.cond rfl (fun hc0 => ?_) (fun hc0 => ?_)
  ·
   replace hm1 := cond_t hc0 hm1
   refine V.skip ?_
   refine V.block ?_
   refine V.seq ?_
   replace hm1 := bindO hm1; rcases hm1 with ⟨y2, hh2, hm1⟩
   refine V.region ?_
   refine VO.cons rfl (V1.move rfl rfl rfl lt0 ?_)
   refine VO.cons rfl (V1.move rfl rfl rfl lt0 ?_)
   refine VO.cons rfl (V1.int rfl rfl rfl rfl rfl lt0 ?_)
   refine VO.cons rfl (V1.loadRefAll (k := 0) rfl rfl tyk_41 rfl rfl rfl rfl rfl lt0 ?_)
   refine VO.cons rfl (V1.call rfl rfl rfl cok_26 rfl (ok_spec_l19Term_p hrec_ hh2) rfl lt0 ?_)
   rintro _ _ ⟨rfl, rfl⟩
   refine VO.cons rfl (V1.move rfl rfl rfl lt0 ?_)
   refine VO.cons rfl (V1.extract rfl rfl rfl rfl lt0 ?_)
   refine VO.cons rfl (V1.extract rfl rfl rfl rfl lt0 ?_)
   refine VO.cons rfl (V1.assign rfl rfl rfl lt0 ?_)
   refine VO.cons rfl (V1.assign rfl rfl rfl lt0 ?_)
   refine VO.nil ?_
   refine V.keep 48 [0, 5, 8, 10, 11] [0] (E0 := [(0, .str s), (5, .ref b0 4 0 0), (8, .bool yes0), (10, .bool y2.1), (11, .int .i64 y2.2)]) (H0 := [(b0, ⟨4, [encRecord ρ2 r_]⟩)]) rfl (⟨_, _, rfl, rfl, _, _, rfl, rfl, _, _, rfl, rfl, _, _, rfl, rfl, _, _, rfl, rfl, rfl⟩) (⟨_, _, rfl, rfl, rfl⟩) rfl ?_
   refine V.seq ?_
   refine V.region ?_
   refine VO.cons rfl (V1.move rfl rfl rfl lt0 ?_)
   refine VO.cons rfl (V1.move rfl rfl rfl lt0 ?_)
   apply VO.or (n := 1) rfl rfl rfl rfl rfl rfl lt0 (.none rfl)
   ·
    intro hg2
    refine VO.step (.some rfl rfl rfl) (V1.move rfl rfl rfl lt0 ?_)
    exact VO.nil ⟨rfl, rfl, rfl, rfl, .inr ⟨rfl, .inr ⟨rfl, .inl rfl⟩⟩⟩
   refine VO.cons rfl (V1.assign rfl rfl rfl lt0 ?_)
   refine VO.nil ?_
   refine V.keep 48 [0, 5, 8, 11] [0] (E0 := [(0, .str s), (5, .ref b0 4 0 0), (8, .bool (yes0 || y2.1)), (11, .int .i64 y2.2)]) (H0 := [(b0, ⟨4, [encRecord ρ2 r_]⟩)]) rfl (⟨_, _, rfl, rfl, _, _, rfl, rfl, _, _, rfl, rfl, _, _, rfl, rfl, rfl⟩) (⟨_, _, rfl, rfl, rfl⟩) rfl ?_
   refine V.region ?_
   refine VO.cons rfl (V1.move rfl rfl rfl lt0 ?_)
   refine VO.cons rfl (V1.assign rfl rfl rfl lt0 ?_)
   refine VO.nil ?_
   exact ⟨(m0, ((yes0 || y2.1), y2.2), ()), hl1 _ (Option.some.inj hm1).symm, Nat.lt_succ_self _, Keeps.mk (ks := [0]) rfl ⟨rfl, rfl, rfl, rfl, trivial⟩ (⟨_, _, rfl, rfl, rfl⟩) rfl⟩
  ·
   replace hm1 := cond_f hc0 hm1
   refine V.exit ?_
   obtain rfl := hr1 _ (Option.some.inj hm1).symm
   exact ⟨((yes0, end_0), ()), rfl, Keeps.mk (ks := []) rfl ⟨rfl, rfl, trivial⟩ (rfl) rfl⟩
 ·
  rintro ⟨⟨yes, end_⟩, _⟩ rfl
  try dsimp only at hm0
  refine V.seq ?_
  refine V.region ?_
  refine VO.cons rfl (V1.move rfl rfl rfl lt0 ?_)
  refine VO.cons rfl (V1.move rfl rfl rfl lt0 ?_)
  refine VO.cons rfl (V1.assign rfl rfl rfl lt0 ?_)
  refine VO.cons rfl (V1.assign rfl rfl rfl lt0 ?_)
  refine VO.nil ?_
  refine V.ret ?_
  obtain rfl := Option.some.inj hm0
  exact ⟨_, [], ⟨_, _, rfl, rfl, _, _, rfl, rfl, rfl⟩, List.nil_sublist _, rfl, rfl⟩

theorem ok_spec_l19Factor_s {ρ2 rn : Nat} {s : List UInt8} {at_ : Int} {r_ : Record} {r : Bool × Int} {rec_ : (List UInt8) → Int → Record → Option (Bool × Int)} (hrec_ : ∀ {ρ2 rn : Nat} {s : List UInt8} {at_ : Int} {r_ : Record} {r : Bool × Int} , rec_ s at_ r_ = some r → Does Tryd.prog 29 [.str s, .int .i64 at_, encRecord ρ2 r_] [] rn (fun x H => x = .tup [.bool r.1, .int .i64 r.2] ∧ H = [])) (h : M.spec_l19Factor_s rec_ s at_ r_ = some r) : Does Tryd.prog 29 [.str s, .int .i64 at_, encRecord ρ2 r_] [] rn (fun x H => x = .tup [.bool r.1, .int .i64 r.2] ∧ H = []) := by
 have hm0 := h; clear h; unfold M.spec_l19Factor_s at hm0
 try dsimp only at hm0
 refine Does.intro (N := 79) Tryd.func29 rfl rfl rfl rfl ?_
 intro w0 S0 L0
 refine V.seq ?_
 refine V.region ?_
 refine VO.cons rfl (V1.boxN (n := 4) rfl rfl rfl rfl rfl lt0 ?_)
 intro b0
 refine VO.cons rfl (V1.assign rfl rfl rfl lt0 ?_)
 refine VO.cons rfl (V1.assign rfl rfl rfl lt0 ?_)
 refine VO.nil ?_
 refine V.seq ?_
 refine V.seq ?_
 replace hm0 := asrt_some hm0; rcases hm0 with ⟨hh0, hm0⟩
 refine V.region ?_
 refine VO.cons rfl (V1.move rfl rfl rfl lt0 ?_)
 refine VO.cons rfl (V1.move rfl rfl rfl lt0 ?_)
 refine VO.cons rfl (V1.lenStr rfl rfl rfl rfl rfl rfl istr_9 lt0 ?_)
 refine VO.cons rfl (V1.int rfl rfl rfl rfl rfl lt0 ?_)
 refine VO.cons rfl (V1.move rfl rfl rfl lt0 ?_)
 apply VO.and (n := 4) rfl rfl rfl rfl rfl rfl lt0 (.none rfl)
 ·
  intro hg0
  refine VO.step (.some rfl rfl rfl) (V1.move rfl rfl rfl lt0 ?_)
  refine VO.step (.some rfl rfl rfl) (V1.move rfl rfl rfl lt0 ?_)
  refine VO.step (.some rfl rfl rfl) (V1.indexStrI rfl rfl istr_9 rfl rfl (hh0 hg0) lt0 ?_)
  refine VO.step (.some rfl rfl rfl) (V1.int rfl rfl rfl rfl rfl lt0 ?_)
  exact VO.nil ⟨rfl, rfl, rfl, rfl, .inr ⟨rfl, .inr ⟨rfl, .inr ⟨rfl, .inr ⟨rfl, .inr ⟨rfl, .inl rfl⟩⟩⟩⟩⟩⟩
 refine VO.nil ?_
 refine V.keep 79 [0, 1, 5, 23] [0] (E0 := [(0, .str s), (1, .int .i64 at_), (5, .ref b0 4 0 0), (23, .bool ((decide (at_ < (s.length : Int))) && (((s.getD (Int.toNat at_) 0).toNat : Int) == (33 : Int))))]) (H0 := [(b0, ⟨4, [encRecord ρ2 r_]⟩)]) rfl (⟨_, _, rfl, rfl, _, _, rfl, rfl, _, _, rfl, rfl, _, _, rfl, rfl, rfl⟩) (⟨_, _, rfl, rfl, rfl⟩) rfl ?_
 refine V.cond rfl (fun hc0 => ?_) (fun hc0 => ?_)
 ·
  replace hm0 := cond_t hc0 hm0
  refine V.seq ?_
  replace hm0 := bindO hm0; rcases hm0 with ⟨y0, hh1, hm0⟩
  refine V.region ?_
  refine VO.cons rfl (V1.move rfl rfl rfl lt0 ?_)
  refine VO.cons rfl (V1.move rfl rfl rfl lt0 ?_)
  refine VO.cons rfl (V1.int rfl rfl rfl rfl rfl lt0 ?_)
  refine VO.cons rfl (V1.loadRefAll (k := 0) rfl rfl tyk_41 rfl rfl rfl rfl rfl lt0 ?_)
  refine VO.cons rfl (V1.call rfl rfl rfl cok_29 rfl (hrec_ hh1) rfl lt0 ?_)
  rintro _ _ ⟨rfl, rfl⟩
  refine VO.cons rfl (V1.move rfl rfl rfl lt0 ?_)
  refine VO.cons rfl (V1.extract rfl rfl rfl rfl lt0 ?_)
  refine VO.cons rfl (V1.extract rfl rfl rfl rfl lt0 ?_)
  refine VO.cons rfl (V1.assign rfl rfl rfl lt0 ?_)
  refine VO.cons rfl (V1.assign rfl rfl rfl lt0 ?_)
  refine VO.nil ?_
  refine V.keep 79 [8, 9] [] (E0 := [(8, .bool y0.1), (9, .int .i64 y0.2)]) (H0 := []) rfl (⟨_, _, rfl, rfl, _, _, rfl, rfl, rfl⟩) (rfl) rfl ?_
  refine V.seq ?_
  refine V.region ?_
  refine VO.cons rfl (V1.move rfl rfl rfl lt0 ?_)
  refine VO.cons rfl (V1.not rfl rfl rfl lt0 ?_)
  refine VO.cons rfl (V1.move rfl rfl rfl lt0 ?_)
  refine VO.cons rfl (V1.assign rfl rfl rfl lt0 ?_)
  refine VO.cons rfl (V1.assign rfl rfl rfl lt0 ?_)
  refine VO.nil ?_
  refine V.ret ?_
  obtain rfl := Option.some.inj hm0
  exact ⟨_, [], ⟨_, _, rfl, rfl, _, _, rfl, rfl, rfl⟩, List.nil_sublist _, rfl, rfl⟩
 ·
  replace hm0 := cond_f hc0 hm0
  refine V.skip ?_
  refine V.seq ?_
  refine V.seq ?_
  replace hm0 := asrt_some hm0; rcases hm0 with ⟨hh2, hm0⟩
  refine V.region ?_
  refine VO.cons rfl (V1.move rfl rfl rfl lt0 ?_)
  refine VO.cons rfl (V1.move rfl rfl rfl lt0 ?_)
  refine VO.cons rfl (V1.lenStr rfl rfl rfl rfl rfl rfl istr_9 lt0 ?_)
  refine VO.cons rfl (V1.int rfl rfl rfl rfl rfl lt0 ?_)
  refine VO.cons rfl (V1.move rfl rfl rfl lt0 ?_)
  apply VO.and (n := 4) rfl rfl rfl rfl rfl rfl lt0 (.none rfl)
  ·
   intro hg1
   refine VO.step (.some rfl rfl rfl) (V1.move rfl rfl rfl lt0 ?_)
   refine VO.step (.some rfl rfl rfl) (V1.move rfl rfl rfl lt0 ?_)
   refine VO.step (.some rfl rfl rfl) (V1.indexStrI rfl rfl istr_9 rfl rfl (hh2 hg1) lt0 ?_)
   refine VO.step (.some rfl rfl rfl) (V1.int rfl rfl rfl rfl rfl lt0 ?_)
   exact VO.nil ⟨rfl, rfl, rfl, rfl, .inr ⟨rfl, .inr ⟨rfl, .inr ⟨rfl, .inr ⟨rfl, .inr ⟨rfl, .inl rfl⟩⟩⟩⟩⟩⟩
  refine VO.nil ?_
  refine V.keep 79 [0, 1, 5, 44] [0] (E0 := [(0, .str s), (1, .int .i64 at_), (5, .ref b0 4 0 0), (44, .bool ((decide (at_ < (s.length : Int))) && (((s.getD (Int.toNat at_) 0).toNat : Int) == (40 : Int))))]) (H0 := [(b0, ⟨4, [encRecord ρ2 r_]⟩)]) rfl (⟨_, _, rfl, rfl, _, _, rfl, rfl, _, _, rfl, rfl, _, _, rfl, rfl, rfl⟩) (⟨_, _, rfl, rfl, rfl⟩) rfl ?_
  refine V.cond rfl (fun hc1 => ?_) (fun hc1 => ?_)
  ·
   replace hm0 := cond_t hc1 hm0
   refine V.seq ?_
   replace hm0 := bindO hm0; rcases hm0 with ⟨y1, hh3, hm0⟩
   refine V.region ?_
   refine VO.cons rfl (V1.move rfl rfl rfl lt0 ?_)
   refine VO.cons rfl (V1.move rfl rfl rfl lt0 ?_)
   refine VO.cons rfl (V1.int rfl rfl rfl rfl rfl lt0 ?_)
   refine VO.cons rfl (V1.loadRefAll (k := 0) rfl rfl tyk_41 rfl rfl rfl rfl rfl lt0 ?_)
   refine VO.cons rfl (V1.call rfl rfl rfl cok_23 rfl (ok_spec_l19Query_p hrec_ hh3) rfl lt0 ?_)
   rintro _ _ ⟨rfl, rfl⟩
   refine VO.cons rfl (V1.move rfl rfl rfl lt0 ?_)
   refine VO.cons rfl (V1.extract rfl rfl rfl rfl lt0 ?_)
   refine VO.cons rfl (V1.extract rfl rfl rfl rfl lt0 ?_)
   refine VO.cons rfl (V1.assign rfl rfl rfl lt0 ?_)
   refine VO.cons rfl (V1.assign rfl rfl rfl lt0 ?_)
   refine VO.nil ?_
   refine V.keep 79 [0, 10, 11] [] (E0 := [(0, .str s), (10, .bool y1.1), (11, .int .i64 y1.2)]) (H0 := []) rfl (⟨_, _, rfl, rfl, _, _, rfl, rfl, _, _, rfl, rfl, rfl⟩) (rfl) rfl ?_
   refine V.seq ?_
   refine V.seq ?_
   replace hm0 := asrt_some hm0; rcases hm0 with ⟨hh4, hm0⟩
   refine V.region ?_
   refine VO.cons rfl (V1.move rfl rfl rfl lt0 ?_)
   refine VO.cons rfl (V1.int rfl rfl rfl rfl rfl lt0 ?_)
   refine VO.cons rfl (V1.move rfl rfl rfl lt0 ?_)
   apply VO.or (n := 4) rfl rfl rfl rfl rfl rfl lt0 (.none rfl)
   ·
    intro hg2
    refine VO.step (.some rfl rfl rfl) (V1.move rfl rfl rfl lt0 ?_)
    refine VO.step (.some rfl rfl rfl) (V1.move rfl rfl rfl lt0 ?_)
    refine VO.step (.some rfl rfl rfl) (V1.lenStr rfl rfl rfl rfl rfl rfl istr_9 lt0 ?_)
    refine VO.step (.some rfl rfl rfl) (V1.int rfl rfl rfl rfl rfl lt0 ?_)
    exact VO.nil ⟨rfl, rfl, rfl, rfl, .inr ⟨rfl, .inr ⟨rfl, .inr ⟨rfl, .inr ⟨rfl, .inr ⟨rfl, .inl rfl⟩⟩⟩⟩⟩⟩
   refine VO.cons rfl (V1.move rfl rfl rfl lt0 ?_)
   apply VO.or (n := 4) rfl rfl rfl rfl rfl rfl lt0 (.none rfl)
   ·
    intro hg3
    refine VO.step (.some rfl rfl rfl) (V1.move rfl rfl rfl lt0 ?_)
    refine VO.step (.some rfl rfl rfl) (V1.move rfl rfl rfl lt0 ?_)
    refine VO.step (.some rfl rfl rfl) (V1.indexStrI rfl rfl istr_9 rfl rfl (hh4 hg3) lt0 ?_)
    refine VO.step (.some rfl rfl rfl) (V1.int rfl rfl rfl rfl rfl lt0 ?_)
    exact VO.nil ⟨rfl, rfl, rfl, rfl, .inr ⟨rfl, .inr ⟨rfl, .inr ⟨rfl, .inr ⟨rfl, .inr ⟨rfl, .inl rfl⟩⟩⟩⟩⟩⟩
   refine VO.nil ?_
   refine V.keep 79 [10, 11, 66] [] (E0 := [(10, .bool y1.1), (11, .int .i64 y1.2), (66, .bool (((decide (y1.2 < (0 : Int))) || (decide (y1.2 ≥ (s.length : Int)))) || (((s.getD (Int.toNat y1.2) 0).toNat : Int) != (41 : Int))))]) (H0 := []) rfl (⟨_, _, rfl, rfl, _, _, rfl, rfl, _, _, rfl, rfl, rfl⟩) (rfl) rfl ?_
   refine V.cond rfl (fun hc2 => ?_) (fun hc2 => ?_)
   ·
    replace hm0 := cond_t hc2 hm0
    refine V.seq ?_
    refine V.region ?_
    refine VO.cons rfl (V1.assign rfl rfl rfl lt0 ?_)
    refine VO.cons rfl (V1.assign rfl rfl rfl lt0 ?_)
    refine VO.nil ?_
    refine V.ret ?_
    obtain rfl := Option.some.inj hm0
    exact ⟨_, [], ⟨_, _, rfl, rfl, _, _, rfl, rfl, rfl⟩, List.nil_sublist _, rfl, rfl⟩
   ·
    replace hm0 := cond_f hc2 hm0
    refine V.skip ?_
    refine V.seq ?_
    refine V.region ?_
    refine VO.cons rfl (V1.move rfl rfl rfl lt0 ?_)
    refine VO.cons rfl (V1.move rfl rfl rfl lt0 ?_)
    refine VO.cons rfl (V1.int rfl rfl rfl rfl rfl lt0 ?_)
    refine VO.cons rfl (V1.assign rfl rfl rfl lt0 ?_)
    refine VO.cons rfl (V1.assign rfl rfl rfl lt0 ?_)
    refine VO.nil ?_
    refine V.ret ?_
    obtain rfl := Option.some.inj hm0
    exact ⟨_, [], ⟨_, _, rfl, rfl, _, _, rfl, rfl, rfl⟩, List.nil_sublist _, rfl, rfl⟩
  ·
   replace hm0 := cond_f hc1 hm0
   refine V.skip ?_
   refine V.seq ?_
   replace hm0 := bindO hm0; rcases hm0 with ⟨y2, hh5, hm0⟩
   refine V.region ?_
   refine VO.cons rfl (V1.move rfl rfl rfl lt0 ?_)
   refine VO.cons rfl (V1.move rfl rfl rfl lt0 ?_)
   refine VO.cons rfl (V1.loadRefAll (k := 0) rfl rfl tyk_41 rfl rfl rfl rfl rfl lt0 ?_)
   refine VO.cons rfl (V1.call rfl rfl rfl cok_32 rfl (ok_spec_l19Test hh5) rfl lt0 ?_)
   rintro _ _ ⟨rfl, rfl⟩
   refine VO.cons rfl (V1.move rfl rfl rfl lt0 ?_)
   refine VO.cons rfl (V1.extract rfl rfl rfl rfl lt0 ?_)
   refine VO.cons rfl (V1.extract rfl rfl rfl rfl lt0 ?_)
   refine VO.cons rfl (V1.assign rfl rfl rfl lt0 ?_)
   refine VO.cons rfl (V1.assign rfl rfl rfl lt0 ?_)
   refine VO.nil ?_
   refine V.keep 79 [12, 13] [] (E0 := [(12, .bool y2.1), (13, .int .i64 y2.2)]) (H0 := []) rfl (⟨_, _, rfl, rfl, _, _, rfl, rfl, rfl⟩) (rfl) rfl ?_
   refine V.seq ?_
   refine V.region ?_
   refine VO.cons rfl (V1.move rfl rfl rfl lt0 ?_)
   refine VO.cons rfl (V1.move rfl rfl rfl lt0 ?_)
   refine VO.cons rfl (V1.assign rfl rfl rfl lt0 ?_)
   refine VO.cons rfl (V1.assign rfl rfl rfl lt0 ?_)
   refine VO.nil ?_
   refine V.ret ?_
   obtain rfl := Option.some.inj hm0
   exact ⟨_, [], ⟨_, _, rfl, rfl, _, _, rfl, rfl, rfl⟩, List.nil_sublist _, rfl, rfl⟩

theorem ok_spec_l19Factor_r (k_ : Nat) : ∀ {ρ2 rn : Nat} {s : List UInt8} {at_ : Int} {r_ : Record} {r : Bool × Int} , M.spec_l19Factor_r k_ s at_ r_ = some r → Does Tryd.prog 29 [.str s, .int .i64 at_, encRecord ρ2 r_] [] rn (fun x H => x = .tup [.bool r.1, .int .i64 r.2] ∧ H = []) := by
 induction k_ with
 | zero =>
  intro ρ2 rn s at_ r_ r h
  have h0 : (none : Option (Bool × Int)) = some r := h
  cases h0
 | succ k_ ih =>
  intro ρ2 rn s at_ r_ r h
  exact ok_spec_l19Factor_s (rec_ := M.spec_l19Factor_r k_) @ih h

theorem ok_spec_l19Factor {ρ2 rn : Nat} {s : List UInt8} {at_ : Int} {r_ : Record} {r : Bool × Int} (h : M.spec_l19Factor s at_ r_ = some r) : Does Tryd.prog 29 [.str s, .int .i64 at_, encRecord ρ2 r_] [] rn (fun x H => x = .tup [.bool r.1, .int .i64 r.2] ∧ H = []) := ok_spec_l19Factor_r rounds h

theorem ok_spec_l19Query {ρ2 rn : Nat} {s : List UInt8} {at_ : Int} {r_ : Record} {r : Bool × Int} (h : M.spec_l19Query s at_ r_ = some r) : Does Tryd.prog 23 [.str s, .int .i64 at_, encRecord ρ2 r_] [] rn (fun x H => x = .tup [.bool r.1, .int .i64 r.2] ∧ H = []) := ok_spec_l19Query_p (rec_ := M.spec_l19Factor) (fun h_ => ok_spec_l19Factor h_) h

theorem ok_spec_l19Good {rn : Nat} {s : List UInt8} {r : Bool} (h : M.spec_l19Good s = some r) : Does Tryd.prog 15 [.str s] [] rn (fun x H => x = .bool r ∧ H = []) := by
 have hm0 := h; clear h; unfold M.spec_l19Good at hm0
 try dsimp only at hm0
 refine Does.intro (N := 19) Tryd.func15 rfl rfl rfl rfl ?_
 intro w0 S0 L0
 refine V.seq ?_
 refine V.region ?_
 refine VO.cons rfl (V1.assign rfl rfl rfl lt0 ?_)
 refine VO.nil ?_
 refine V.seq ?_
 refine V.seq ?_
 replace hm0 := bindO hm0; rcases hm0 with ⟨y0, hh0, hm0⟩
 refine V.region ?_
 refine VO.cons rfl (V1.move rfl rfl rfl lt0 ?_)
 refine VO.cons rfl (V1.lenStr rfl rfl rfl rfl rfl rfl istr_9 lt0 ?_)
 refine VO.cons rfl (V1.call rfl rfl rfl cok_22 rfl (ok_spec_l1In hh0) rfl lt0 ?_)
 rintro _ _ ⟨rfl, rfl⟩
 refine VO.cons rfl (V1.not rfl rfl rfl lt0 ?_)
 refine VO.nil ?_
 refine V.keep 19 [0, 8] [] (E0 := [(0, .str s), (8, .bool (!y0))]) (H0 := []) rfl (⟨_, _, rfl, rfl, _, _, rfl, rfl, rfl⟩) (rfl) rfl ?_
 refine V.cond rfl (fun hc0 => ?_) (fun hc0 => ?_)
 ·
  replace hm0 := cond_t hc0 hm0
  refine V.seq ?_
  refine V.region ?_
  refine VO.cons rfl (V1.assign rfl rfl rfl lt0 ?_)
  refine VO.nil ?_
  refine V.ret ?_
  obtain rfl := Option.some.inj hm0
  exact ⟨_, [], ⟨_, _, rfl, rfl, rfl⟩, List.nil_sublist _, rfl, rfl⟩
 ·
  replace hm0 := cond_f hc0 hm0
  refine V.skip ?_
  refine V.seq ?_
  replace hm0 := bindO hm0; rcases hm0 with ⟨y1, hh1, hm0⟩
  refine V.region ?_
  refine VO.cons rfl (V1.move rfl rfl rfl lt0 ?_)
  refine VO.cons rfl (V1.build rfl rfl zk_41 pl_41 rfl rfl lt0 ?_)
  refine VO.weakenK (Keeps.le 11 (.agg [.int .i64 (0 : Int), .int .i64 (0 : Int), .int .i64 (0 : Int), .vl rn 2 (List.map encEvent ([] : List Event))]) rfl (.agg (.cons .same (.cons .same (.cons .same (.cons (.nils (l := ([] : List Event)) (f := encEvent) rn 2 rfl rfl) .nil)))))) ?_
  refine VO.cons rfl (V1.call rfl rfl rfl cok_23 rfl (ok_spec_l19Query hh1) rfl lt0 ?_)
  rintro _ _ ⟨rfl, rfl⟩
  refine VO.cons rfl (V1.move rfl rfl rfl lt0 ?_)
  refine VO.cons rfl (V1.extract rfl rfl rfl rfl lt0 ?_)
  refine VO.cons rfl (V1.extract rfl rfl rfl rfl lt0 ?_)
  refine VO.cons rfl (V1.assign rfl rfl rfl lt0 ?_)
  refine VO.cons rfl (V1.assign rfl rfl rfl lt0 ?_)
  refine VO.nil ?_
  refine V.keep 19 [0, 4] [] (E0 := [(0, .str s), (4, .int .i64 y1.2)]) (H0 := []) rfl (⟨_, _, rfl, rfl, _, _, rfl, rfl, rfl⟩) (rfl) rfl ?_
  refine V.seq ?_
  refine V.region ?_
  refine VO.cons rfl (V1.move rfl rfl rfl lt0 ?_)
  refine VO.cons rfl (V1.move rfl rfl rfl lt0 ?_)
  refine VO.cons rfl (V1.lenStr rfl rfl rfl rfl rfl rfl istr_9 lt0 ?_)
  refine VO.cons rfl (V1.int rfl rfl rfl rfl rfl lt0 ?_)
  refine VO.cons rfl (V1.assign rfl rfl rfl lt0 ?_)
  refine VO.nil ?_
  refine V.ret ?_
  obtain rfl := Option.some.inj hm0
  exact ⟨_, [], ⟨_, _, rfl, rfl, rfl⟩, List.nil_sublist _, rfl, rfl⟩

theorem ok_spec_l15Letter {rn : Nat} {b_ : Int} {r : Bool} (h : M.spec_l15Letter b_ = some r) : Does Tryd.prog 19 [.int .u8 b_] [] rn (fun x H => x = .bool r ∧ H = []) := by
 have hm0 := h; clear h; unfold M.spec_l15Letter at hm0
 try dsimp only at hm0
 refine Does.intro (N := 9) Tryd.func19 rfl rfl rfl rfl ?_
 intro w0 S0 L0
 refine V.seq ?_
 refine V.region ?_
 refine VO.cons rfl (V1.assign rfl rfl rfl lt0 ?_)
 refine VO.nil ?_
 refine V.seq ?_
 refine V.region ?_
 refine VO.cons rfl (V1.move rfl rfl rfl lt0 ?_)
 refine VO.cons rfl (V1.int rfl rfl rfl rfl rfl lt0 ?_)
 refine VO.cons rfl (V1.move rfl rfl rfl lt0 ?_)
 apply VO.and (n := 2) rfl rfl rfl rfl rfl rfl lt0 (.none rfl)
 ·
  intro hg0
  refine VO.step (.some rfl rfl rfl) (V1.move rfl rfl rfl lt0 ?_)
  refine VO.step (.some rfl rfl rfl) (V1.int rfl rfl rfl rfl rfl lt0 ?_)
  exact VO.nil ⟨rfl, rfl, rfl, rfl, .inr ⟨rfl, .inr ⟨rfl, .inr ⟨rfl, .inl rfl⟩⟩⟩⟩
 refine VO.cons rfl (V1.assign rfl rfl rfl lt0 ?_)
 refine VO.nil ?_
 refine V.ret ?_
 obtain rfl := Option.some.inj hm0
 exact ⟨_, [], ⟨_, _, rfl, rfl, rfl⟩, List.nil_sublist _, rfl, rfl⟩

theorem ok_spec_TestCount {rn : Nat} {s : List UInt8} {r : Int × Bool} (h : M.spec_TestCount s = some r) : Does Tryd.prog 13 [.str s] [] rn (fun x H => x = .tup [.int .i64 r.1, .bool r.2] ∧ H = []) := by
 have hm0 := h; clear h; unfold M.spec_TestCount at hm0
 try dsimp only at hm0
 refine Does.intro (N := 22) Tryd.func13 rfl rfl rfl rfl ?_
 intro w0 S0 L0
 refine V.seq ?_
 refine V.region ?_
 refine VO.cons rfl (V1.assign rfl rfl rfl lt0 ?_)
 refine VO.cons rfl (V1.assign rfl rfl rfl lt0 ?_)
 refine VO.nil ?_
 refine V.seq ?_
 refine V.seq ?_
 replace hm0 := bindO hm0; rcases hm0 with ⟨y0, hh0, hm0⟩
 refine V.region ?_
 refine VO.cons rfl (V1.move rfl rfl rfl lt0 ?_)
 refine VO.cons rfl (V1.call rfl rfl rfl cok_15 rfl (ok_spec_l19Good hh0) rfl lt0 ?_)
 rintro _ _ ⟨rfl, rfl⟩
 refine VO.cons rfl (V1.not rfl rfl rfl lt0 ?_)
 refine VO.nil ?_
 refine V.keep 22 [0, 8] [] (E0 := [(0, .str s), (8, .bool (!y0))]) (H0 := []) rfl (⟨_, _, rfl, rfl, _, _, rfl, rfl, rfl⟩) (rfl) rfl ?_
 refine V.cond rfl (fun hc0 => ?_) (fun hc0 => ?_)
 ·
  replace hm0 := cond_t hc0 hm0
  refine V.seq ?_
  refine V.region ?_
  refine VO.cons rfl (V1.assign rfl rfl rfl lt0 ?_)
  refine VO.cons rfl (V1.assign rfl rfl rfl lt0 ?_)
  refine VO.nil ?_
  refine V.ret ?_
  obtain rfl := Option.some.inj hm0
  exact ⟨_, [], ⟨_, _, rfl, rfl, _, _, rfl, rfl, rfl⟩, List.nil_sublist _, rfl, rfl⟩
 ·
  replace hm0 := cond_f hc0 hm0
  refine V.skip ?_
  refine V.seq ?_
  refine V.region ?_
  refine VO.cons rfl (V1.assign rfl rfl rfl lt0 ?_)
  refine VO.nil ?_
  refine V.seq ?_
  refine V.seq ?_
  refine V.region ?_
  refine VO.cons rfl (V1.assign rfl rfl rfl lt0 ?_)
  refine VO.nil ?_
  replace hm0 := bindO hm0; rcases hm0 with ⟨e0, he1, hm0⟩
  refine V.cutT (D := (Int) × (Unit)) (fun ⟨n_, _⟩ => ⟨22, [(4, .int .i64 n_)], []⟩) (fun ⟨n_, _⟩ => (n_ = e0)) ?_ ?_
  ·
   refine V.block ?_
   refine V.keep 22 [4, 5, 0] [] (E0 := [(4, .int .i64 (0 : Int)), (5, .int .i64 (0 : Int)), (0, .str s)]) (H0 := []) rfl (⟨_, _, rfl, rfl, _, _, rfl, rfl, _, _, rfl, rfl, rfl⟩) (rfl) rfl ?_
   refine V.loopE (D := Nat × (Int × Int) × (Unit)) (fun ⟨n0, ⟨n_0, i⟩, _⟩ => [(4, .int .i64 n_0), (5, .int .i64 i)]) (fun ⟨n0, ⟨n_0, i⟩, _⟩ => []) (fun ⟨n0, ⟨n_0, i⟩, _⟩ => loopO (M.spec_TestCount_l0 s) n0 (n_0, i) = some e0) (fun ⟨n0, _, _⟩ => n0) (rounds, ((0 : Int), (0 : Int)), ()) rfl he1 ?_
   rintro ⟨n0, ⟨n_0, i⟩, _⟩ hP0
   obtain ⟨m0, y1, rfl, hm1, hl1, hr1⟩ := loop_head hP0
   unfold M.spec_TestCount_l0 at hm1; dsimp only at hm1
   show V _ _ _ ⟨22, [(4, .int .i64 n_0), (5, .int .i64 i), (0, .str s)], []⟩
   refine V.seq ?_
   refine V.seq ?_
   refine V.region ?_
   refine VO.cons rfl (V1.move rfl rfl rfl lt0 ?_)
   refine VO.cons rfl (V1.move rfl rfl rfl lt0 ?_)
   refine VO.cons rfl (V1.lenStr rfl rfl rfl rfl rfl rfl istr_9 lt0 ?_)
   refine VO.cons rfl (V1.int rfl rfl rfl rfl rfl lt0 ?_)
   refine VO.nil ?_
   refine V.cond rfl (fun hc1 => ?_) (fun hc1 => ?_)
   ·
    replace hm1 := cond_t hc1 hm1
    refine V.skip ?_
    refine V.keep 22 [0, 4, 5] [] (E0 := [(0, .str s), (4, .int .i64 n_0), (5, .int .i64 i)]) (H0 := []) rfl (⟨_, _, rfl, rfl, _, _, rfl, rfl, _, _, rfl, rfl, rfl⟩) (rfl) rfl ?_
    refine V.seq ?_
    replace hm1 := bindO hm1; rcases hm1 with ⟨j0, hm2, hm1⟩
    refine V.cutT (D := (Int) × (Unit)) (fun ⟨n_1, _⟩ => ⟨22, [(4, .int .i64 n_1), (0, .str s), (5, .int .i64 i)], []⟩) (fun ⟨n_1, _⟩ => (n_1 = j0)) ?_ ?_
    ·
     refine V.block ?_
     refine V.seq ?_
     replace hm2 := asrt_some hm2; rcases hm2 with ⟨hh1, hm2⟩
     replace hm2 := bindO hm2; rcases hm2 with ⟨y2, hh2, hm2⟩
     refine V.region ?_
     refine VO.cons rfl (V1.move rfl rfl rfl lt0 ?_)
     refine VO.cons rfl (V1.move rfl rfl rfl lt0 ?_)
     refine VO.cons rfl (V1.indexStrI rfl rfl istr_9 rfl rfl hh1 lt0 ?_)
     refine VO.cons rfl (V1.call rfl rfl rfl cok_19 rfl (ok_spec_l15Letter hh2) rfl lt0 ?_)
     rintro _ _ ⟨rfl, rfl⟩
     refine VO.nil ?_
     refine V.cond rfl (fun hc2 => ?_) (fun hc2 => ?_)
     ·
      replace hm2 := cond_t hc2 hm2
      refine V.region ?_
      refine VO.cons rfl (V1.move rfl rfl rfl lt0 ?_)
      refine VO.cons rfl (V1.int rfl rfl rfl rfl rfl lt0 ?_)
      refine VO.cons rfl (V1.assign rfl rfl rfl lt0 ?_)
      refine VO.nil ?_
      exact ⟨((IntKind.i64.wrap (n_0 + (1 : Int))), ()), Option.some.inj hm2, Keeps.mk (ks := []) rfl ⟨rfl, rfl, rfl, trivial⟩ (rfl) rfl⟩
     ·
      replace hm2 := cond_f hc2 hm2
      refine V.skip ?_
      exact ⟨(n_0, ()), Option.some.inj hm2, Keeps.mk (ks := []) rfl ⟨rfl, rfl, rfl, trivial⟩ (rfl) rfl⟩
    ·
     rintro ⟨n_1, _⟩ rfl
     try dsimp only at hm1
     refine V.region ?_
     refine VO.cons rfl (V1.move rfl rfl rfl lt0 ?_)
     refine VO.cons rfl (V1.int rfl rfl rfl rfl rfl lt0 ?_)
     refine VO.cons rfl (V1.assign rfl rfl rfl lt0 ?_)
     refine VO.nil ?_
     exact ⟨(m0, (n_1, (IntKind.i64.wrap (i + (1 : Int)))), ()), hl1 _ (Option.some.inj hm1).symm, Nat.lt_succ_self _, Keeps.mk (ks := []) rfl ⟨rfl, rfl, rfl, trivial⟩ (rfl) rfl⟩
   ·
    replace hm1 := cond_f hc1 hm1
    refine V.exit ?_
    obtain rfl := hr1 _ (Option.some.inj hm1).symm
    exact ⟨(n_0, ()), rfl, Keeps.mk (ks := []) rfl ⟨rfl, trivial⟩ (rfl) rfl⟩
  ·
   rintro ⟨n_, _⟩ rfl
   try dsimp only at hm0
   refine V.seq ?_
   refine V.region ?_
   refine VO.cons rfl (V1.move rfl rfl rfl lt0 ?_)
   refine VO.cons rfl (V1.assign rfl rfl rfl lt0 ?_)
   refine VO.cons rfl (V1.assign rfl rfl rfl lt0 ?_)
   refine VO.nil ?_
   refine V.ret ?_
   obtain rfl := Option.some.inj hm0
   exact ⟨_, [], ⟨_, _, rfl, rfl, _, _, rfl, rfl, rfl⟩, List.nil_sublist _, rfl, rfl⟩

theorem ok_impl_within {rn : Nat} {n : Int} {low : Int} {high : Int} {r : Bool} (h : M.impl_within n low high = some r) : Does Tryd.prog 24 [.int .i64 n, .int .i64 low, .int .i64 high] [] rn (fun x H => x = .bool r ∧ H = []) := by
 have hm0 := h; clear h; unfold M.impl_within at hm0
 try dsimp only at hm0
 refine Does.intro (N := 15) Tryd.func24 rfl rfl rfl rfl ?_
 intro w0 S0 L0
 refine V.seq ?_
 refine V.region ?_
 refine VO.cons rfl (V1.assign rfl rfl rfl lt0 ?_)
 refine VO.nil ?_
 refine V.seq ?_
 refine V.region ?_
 refine VO.cons rfl (V1.move rfl rfl rfl lt0 ?_)
 refine VO.cons rfl (V1.move rfl rfl rfl lt0 ?_)
 refine VO.cons rfl (V1.int rfl rfl rfl rfl rfl lt0 ?_)
 refine VO.cons rfl (V1.move rfl rfl rfl lt0 ?_)
 apply VO.and (n := 3) rfl rfl rfl rfl rfl rfl lt0 (.none rfl)
 ·
  intro hg0
  refine VO.step (.some rfl rfl rfl) (V1.move rfl rfl rfl lt0 ?_)
  refine VO.step (.some rfl rfl rfl) (V1.move rfl rfl rfl lt0 ?_)
  refine VO.step (.some rfl rfl rfl) (V1.int rfl rfl rfl rfl rfl lt0 ?_)
  exact VO.nil ⟨rfl, rfl, rfl, rfl, .inr ⟨rfl, .inr ⟨rfl, .inr ⟨rfl, .inr ⟨rfl, .inl rfl⟩⟩⟩⟩⟩
 refine VO.cons rfl (V1.assign rfl rfl rfl lt0 ?_)
 refine VO.nil ?_
 refine V.ret ?_
 obtain rfl := Option.some.inj hm0
 exact ⟨_, [], ⟨_, _, rfl, rfl, rfl⟩, List.nil_sublist _, rfl, rfl⟩

theorem ok_impl_parser_sees {rn bp : Nat} {p : Parser} {c : Int} {r : Bool × Parser} (h : M.impl_parser_sees p c = some r) : Does Tryd.prog 30 [.ref bp 5 0 0, .int .u8 c] [(bp, ⟨5, [encParser p]⟩)] rn (fun x H => x = .bool r.1 ∧ H = [(bp, ⟨5, [encParser r.2]⟩)]) := by
 have hm0 := h; clear h; unfold M.impl_parser_sees at hm0
 try dsimp only at hm0
 refine Does.intro (N := 35) Tryd.func30 rfl rfl rfl rfl ?_
 intro w0 S0 L0
 refine V.seq ?_
 refine V.region ?_
 refine VO.cons rfl (V1.assign rfl rfl rfl lt0 ?_)
 refine VO.nil ?_
 refine V.seq ?_
 refine V.seq ?_
 replace hm0 := asrt_some hm0; rcases hm0 with ⟨hh0, hm0⟩
 refine V.regionM 35 23 [⟨[(0, none)], [], none⟩, ⟨[(5, some 0)], [], none⟩, ⟨[(6, some 0)], [], none⟩, ⟨[(7, some 0)], [], none⟩, ⟨[(0, none)], [], none⟩, ⟨[(9, some 0)], [], none⟩, ⟨[(10, some 0)], [], none⟩, ⟨[(11, some 0)], [], none⟩, ⟨[(12, some 0)], [], none⟩, ⟨[(8, some 5), (13, some 0)], [], none⟩, ⟨[(14, some 0)], [], none⟩, ⟨[(0, none)], [(0, true)], none⟩, ⟨[(16, some 0)], [(1, true)], none⟩, ⟨[(17, some 0)], [(2, true)], none⟩, ⟨[(18, some 0)], [(3, true)], none⟩, ⟨[(0, none)], [(4, true)], none⟩, ⟨[(20, some 0)], [(5, true)], none⟩, ⟨[(21, some 0)], [(6, true)], none⟩, ⟨[(22, some 0)], [(7, true)], none⟩, ⟨[(19, some 4), (23, some 0)], [(8, true)], none⟩, ⟨[(1, none)], [(9, true)], none⟩, ⟨[(24, some 1), (25, some 0)], [(10, true)], none⟩, ⟨[], [], some (true, 15, 26, 11, 0)⟩] [(0, none), (27, some 0)] (⟨_, rfl, ⟨_, rfl, ⟨_, rfl, ⟨_, rfl, ⟨_, rfl, ⟨_, rfl, ⟨_, rfl, ⟨_, rfl, ⟨_, rfl, ⟨_, rfl, ⟨_, rfl, ⟨_, rfl, ⟨_, rfl, ⟨_, rfl, ⟨_, rfl, ⟨_, rfl, ⟨_, rfl, ⟨_, rfl, ⟨_, rfl, ⟨_, rfl, ⟨_, rfl, ⟨_, rfl, ⟨_, rfl, ⟨rfl, rfl⟩⟩⟩⟩⟩⟩⟩⟩⟩⟩⟩⟩⟩⟩⟩⟩⟩⟩⟩⟩⟩⟩⟩⟩) mixed_orders rfl (by decide +kernel) (fun hck1 => ?_)
 refine VP.step (p := ?pv45) rfl rfl rfl (⟨_, _, rfl, rfl, rfl⟩) ?hv45 ?rest45 hck1
 case hv45 =>
  intro E1
  refine (V1.move rfl rfl rfl lt0 ?_)
  exact rfl
 refine VP.step (p := ?pv46) rfl rfl rfl (⟨_, _, rfl, rfl, rfl⟩) ?hv46 ?rest46 hck1
 case hv46 =>
  intro E1
  refine (V1.nilRef rfl rfl rfl lt0 ?_)
  exact rfl
 refine VP.step (p := ?pv47) rfl rfl rfl (⟨_, _, rfl, rfl, rfl⟩) ?hv47 ?rest47 hck1
 case hv47 =>
  intro E1
  refine (V1.fieldRef rfl rfl fo_44_1 rfl lt0 ?_)
  exact rfl
 refine VP.step (p := ?pv48) rfl rfl rfl (⟨_, _, rfl, rfl, rfl⟩) ?hv48 ?rest48 hck1
 case hv48 =>
  intro E1
  refine (V1.loadRef (k := 0) rfl rfl tyk_3 rfl rfl rfl rfl rfl lt0 ?_)
  exact rfl
 refine VP.step (p := ?pv49) rfl rfl rfl (⟨_, _, rfl, rfl, rfl⟩) ?hv49 ?rest49 hck1
 case hv49 =>
  intro E1
  refine (V1.move rfl rfl rfl lt0 ?_)
  exact rfl
 refine VP.step (p := ?pv50) rfl rfl rfl (⟨_, _, rfl, rfl, rfl⟩) ?hv50 ?rest50 hck1
 case hv50 =>
  intro E1
  refine (V1.nilRef rfl rfl rfl lt0 ?_)
  exact rfl
 refine VP.step (p := ?pv51) rfl rfl rfl (⟨_, _, rfl, rfl, rfl⟩) ?hv51 ?rest51 hck1
 case hv51 =>
  intro E1
  refine (V1.fieldRef rfl rfl fo_44_0 rfl lt0 ?_)
  exact rfl
 refine VP.step (p := ?pv52) rfl rfl rfl (⟨_, _, rfl, rfl, rfl⟩) ?hv52 ?rest52 hck1
 case hv52 =>
  intro E1
  refine (V1.loadRef (k := 0) rfl rfl tyk_9 rfl rfl rfl rfl rfl lt0 ?_)
  exact rfl
 refine VP.step (p := ?pv53) rfl rfl rfl (⟨_, _, rfl, rfl, rfl⟩) ?hv53 ?rest53 hck1
 case hv53 =>
  intro E1
  refine (V1.lenStr rfl rfl rfl rfl rfl rfl istr_9 lt0 ?_)
  exact rfl
 refine VP.step (p := ?pv54) rfl rfl rfl (⟨_, _, rfl, rfl, _, _, rfl, rfl, rfl⟩) ?hv54 ?rest54 hck1
 case hv54 =>
  intro E1
  refine (V1.int rfl rfl rfl rfl rfl lt0 ?_)
  exact rfl
 refine VP.step (p := ?pv55) rfl rfl rfl (⟨_, _, rfl, rfl, rfl⟩) ?hv55 ?rest55 hck1
 case hv55 =>
  intro E1
  refine (V1.move rfl rfl rfl lt0 ?_)
  exact rfl
 refine VP.step (p := ?pv56) rfl rfl rfl (⟨_, _, rfl, rfl, rfl⟩) ?hv56 ?rest56 hck1
 case hv56 =>
  refine ⟨_, rfl, fun hg0 => ?_⟩
  intro E1
  refine (V1.move rfl rfl rfl lt0 ?_)
  exact rfl
 refine VP.step (p := ?pv57) rfl rfl rfl (⟨_, _, rfl, rfl, rfl⟩) ?hv57 ?rest57 hck1
 case hv57 =>
  refine ⟨_, rfl, fun hg0 => ?_⟩
  intro E1
  refine (V1.nilRef rfl rfl rfl lt0 ?_)
  exact rfl
 refine VP.step (p := ?pv58) rfl rfl rfl (⟨_, _, rfl, rfl, rfl⟩) ?hv58 ?rest58 hck1
 case hv58 =>
  refine ⟨_, rfl, fun hg0 => ?_⟩
  intro E1
  refine (V1.fieldRef rfl rfl fo_44_0 rfl lt0 ?_)
  exact rfl
 refine VP.step (p := ?pv59) rfl rfl rfl (⟨_, _, rfl, rfl, rfl⟩) ?hv59 ?rest59 hck1
 case hv59 =>
  refine ⟨_, rfl, fun hg0 => ?_⟩
  intro E1
  refine (V1.loadRef (k := 0) rfl rfl tyk_9 rfl rfl rfl rfl rfl lt0 ?_)
  exact rfl
 refine VP.step (p := ?pv60) rfl rfl rfl (⟨_, _, rfl, rfl, rfl⟩) ?hv60 ?rest60 hck1
 case hv60 =>
  refine ⟨_, rfl, fun hg0 => ?_⟩
  intro E1
  refine (V1.move rfl rfl rfl lt0 ?_)
  exact rfl
 refine VP.step (p := ?pv61) rfl rfl rfl (⟨_, _, rfl, rfl, rfl⟩) ?hv61 ?rest61 hck1
 case hv61 =>
  refine ⟨_, rfl, fun hg0 => ?_⟩
  intro E1
  refine (V1.nilRef rfl rfl rfl lt0 ?_)
  exact rfl
 refine VP.step (p := ?pv62) rfl rfl rfl (⟨_, _, rfl, rfl, rfl⟩) ?hv62 ?rest62 hck1
 case hv62 =>
  refine ⟨_, rfl, fun hg0 => ?_⟩
  intro E1
  refine (V1.fieldRef rfl rfl fo_44_1 rfl lt0 ?_)
  exact rfl
 refine VP.step (p := ?pv63) rfl rfl rfl (⟨_, _, rfl, rfl, rfl⟩) ?hv63 ?rest63 hck1
 case hv63 =>
  refine ⟨_, rfl, fun hg0 => ?_⟩
  intro E1
  refine (V1.loadRef (k := 0) rfl rfl tyk_3 rfl rfl rfl rfl rfl lt0 ?_)
  exact rfl
 refine VP.step (p := ?pv64) rfl rfl rfl (⟨_, _, rfl, rfl, _, _, rfl, rfl, rfl⟩) ?hv64 ?rest64 hck1
 case hv64 =>
  refine ⟨_, rfl, fun hg0 => ?_⟩
  intro E1
  refine (V1.indexStrI rfl rfl istr_9 rfl rfl (hh0 hg0) lt0 ?_)
  exact rfl
 refine VP.step (p := ?pv65) rfl rfl rfl (⟨_, _, rfl, rfl, rfl⟩) ?hv65 ?rest65 hck1
 case hv65 =>
  refine ⟨_, rfl, fun hg0 => ?_⟩
  intro E1
  refine (V1.move rfl rfl rfl lt0 ?_)
  exact rfl
 refine VP.step (p := ?pv66) rfl rfl rfl (⟨_, _, rfl, rfl, _, _, rfl, rfl, rfl⟩) ?hv66 ?rest66 hck1
 case hv66 =>
  refine ⟨_, rfl, fun hg0 => ?_⟩
  intro E1
  refine (V1.int rfl rfl rfl rfl rfl lt0 ?_)
  exact rfl
 refine VP.pickAnd rfl rfl rfl rfl rfl rfl (trivial) ?_ hck1
 refine VP.fin rfl (⟨_, _, rfl, rfl, _, _, rfl, rfl, rfl⟩) ?_
 refine VO.nil ?_
 refine V.cond rfl (fun hc0 => ?_) (fun hc0 => ?_)
 ·
  replace hm0 := cond_t hc0 hm0
  refine V.seq ?_
  refine V.region ?_
  refine VO.cons rfl (V1.move rfl rfl rfl lt0 ?_)
  refine VO.cons rfl (V1.nilRef rfl rfl rfl lt0 ?_)
  refine VO.cons rfl (V1.fieldRef rfl rfl fo_44_1 rfl lt0 ?_)
  refine VO.cons rfl (V1.loadRef (k := 0) rfl rfl tyk_3 rfl rfl rfl rfl rfl lt0 ?_)
  refine VO.cons rfl (V1.int rfl rfl rfl rfl rfl lt0 ?_)
  refine VO.cons rfl (V1.nilRef rfl rfl rfl lt0 ?_)
  refine VO.cons rfl (V1.fieldRef rfl rfl fo_44_1 rfl lt0 ?_)
  refine VO.cons rfl (V1.storeRef (k := 0) rfl rfl tyk_3 rfl rfl rfl rfl rfl rfl rfl rfl rfl ?_)
  refine VO.nil ?_
  refine V.keep 35 [] [0] (E0 := []) (H0 := [(bp, ⟨5, [.agg [.str p.S, .int .i64 (IntKind.i64.wrap (p.At + (1 : Int))), .bool p.Bad, .int .i64 p.Open, .int .i64 p.Most]]⟩)]) rfl (rfl) (⟨_, _, rfl, rfl, rfl⟩) rfl ?_
  refine V.seq ?_
  refine V.region ?_
  refine VO.cons rfl (V1.assign rfl rfl rfl lt0 ?_)
  refine VO.nil ?_
  refine V.ret ?_
  obtain rfl := Option.some.inj hm0
  exact ⟨_, _, ⟨_, _, rfl, rfl, rfl⟩, (sub1 (k := 0) rfl), rfl, rfl⟩
 ·
  replace hm0 := cond_f hc0 hm0
  refine V.skip ?_
  refine V.seq ?_
  refine V.region ?_
  refine VO.cons rfl (V1.assign rfl rfl rfl lt0 ?_)
  refine VO.nil ?_
  refine V.ret ?_
  obtain rfl := Option.some.inj hm0
  exact ⟨_, _, ⟨_, _, rfl, rfl, rfl⟩, (sub1 (k := 0) rfl), rfl, rfl⟩

theorem ok_strconv_Atoi {rn : Nat} {s : List UInt8} {r : Int × Bool} (h : M.strconv_Atoi s = some r) : Does Tryd.prog 42 [.str s] [] rn (fun x H => (∃ v, ErrIs v r.2 ∧ x = .tup [.int .i64 r.1, .val v]) ∧ H = []) := by
 unfold M.strconv_Atoi at h
 obtain ⟨h1, h⟩ := asrt_some h
 obtain rfl := Option.some.inj h
 exact Does.atoi Go.Proofs.Tryd.laysC_172 rfl h1

theorem ok_strconv_Itoa {rn : Nat} {n : Int} {r : List UInt8} (h : M.strconv_Itoa n = some r) : Does Tryd.prog 47 [.int .i64 n] [] rn (fun x H => x = .str r ∧ H = []) := by
 unfold M.strconv_Itoa at h
 obtain ⟨⟨h1, h2⟩, h⟩ := asrt_some h
 obtain rfl := Option.some.inj h; clear h
 refine Does.ofBelowW (vs := [.int .i64 n]) (v := .string ⟨(Go.Lib.itoa n).toArray⟩) (fun w S us hr => ?_) (fun w S => rep_str) (fun w hL => ?_)
 · obtain ⟨us1, rfl, hr1⟩ := reps_int hr
   rw [Reps.nil_iff.1 hr1]
 · refine (Go.Proofs.Any.strconv_Itoa Go.Proofs.Tryd.laysM_171 n h1 h2 w hL.pow10).mono ?_
   rintro e w' ⟨rfl, k, os, rfl⟩
   exact ⟨rfl, Go.Lib.below_grow _ w (Nat.le_refl _) k os⟩

theorem ok_impl_decimal {rn : Nat} {n : Int} {r : List UInt8} (h : M.impl_decimal n = some r) : Does Tryd.prog 43 [.int .i64 n] [] rn (fun x H => x = .str r ∧ H = []) := by
 have hm0 := h; clear h; unfold M.impl_decimal at hm0
 try dsimp only at hm0
 refine Does.intro (N := 5) Tryd.func43 rfl rfl rfl rfl ?_
 intro w0 S0 L0
 refine V.seq ?_
 refine V.region ?_
 refine VO.cons rfl (V1.assign rfl rfl rfl lt0 ?_)
 refine VO.nil ?_
 refine V.seq ?_
 replace hm0 := bindO hm0; rcases hm0 with ⟨y0, hh0, hm0⟩
 refine V.region ?_
 refine VO.cons rfl (V1.move rfl rfl rfl lt0 ?_)
 refine VO.cons rfl (V1.call rfl rfl rfl cok_47 rfl (ok_strconv_Itoa hh0) rfl lt0 ?_)
 rintro _ _ ⟨rfl, rfl⟩
 refine VO.cons rfl (V1.assign rfl rfl rfl lt0 ?_)
 refine VO.nil ?_
 refine V.ret ?_
 obtain rfl := Option.some.inj hm0
 exact ⟨_, [], ⟨_, _, rfl, rfl, rfl⟩, List.nil_sublist _, rfl, rfl⟩

theorem ok_impl_ParseInt {rn : Nat} {s : List UInt8} {r : Int × Bool} (h : M.impl_ParseInt s = some r) : Does Tryd.prog 37 [.str s] [] rn (fun x H => x = .tup [.int .i64 r.1, .bool r.2] ∧ H = []) := by
 have hm0 := h; clear h; unfold M.impl_ParseInt at hm0
 try dsimp only at hm0
 refine Does.intro (N := 25) Tryd.func37 rfl rfl rfl rfl ?_
 intro w0 S0 L0
 refine V.seq ?_
 refine V.region ?_
 refine VO.cons rfl (V1.assign rfl rfl rfl lt0 ?_)
 refine VO.cons rfl (V1.assign rfl rfl rfl lt0 ?_)
 refine VO.nil ?_
 refine V.seq ?_
 replace hm0 := bindO hm0; rcases hm0 with ⟨y0, hh0, hm0⟩
 refine V.region ?_
 refine VO.cons rfl (V1.move rfl rfl rfl lt0 ?_)
 refine VO.cons rfl (V1.call rfl rfl rfl cok_42 rfl (ok_strconv_Atoi hh0) rfl lt0 ?_)
 rintro _ _ ⟨⟨ev0, hev0, rfl⟩, rfl⟩
 refine VO.cons rfl (V1.move rfl rfl rfl lt0 ?_)
 refine VO.cons rfl (V1.extract rfl rfl rfl rfl lt0 ?_)
 refine VO.cons rfl (V1.extract rfl rfl rfl rfl lt0 ?_)
 refine VO.cons rfl (V1.assign rfl rfl rfl lt0 ?_)
 refine VO.cons rfl (V1.assign rfl rfl rfl lt0 ?_)
 refine VO.nil ?_
 refine V.keep 25 [0, 4, 5] [] (E0 := [(0, .str s), (4, .int .i64 y0.1), (5, .val ev0)]) (H0 := []) rfl (⟨_, _, rfl, rfl, _, _, rfl, rfl, _, _, rfl, rfl, rfl⟩) (rfl) rfl ?_
 refine V.seq ?_
 refine V.seq ?_
 replace hm0 := bindO hm0; rcases hm0 with ⟨y1, hh1, hm0⟩
 replace hm0 := bindO hm0; rcases hm0 with ⟨y2, hh2, hm0⟩
 refine V.region ?_
 refine VO.cons rfl (V1.move rfl rfl rfl lt0 ?_)
 refine VO.cons rfl (V1.errNe hev0 rfl rfl Tryd.underlying54 rfl lt0 ?_)
 refine VO.cons rfl (V1.move rfl rfl rfl lt0 ?_)
 apply VO.or (n := 3) rfl rfl rfl rfl rfl rfl lt0 (.none rfl)
 ·
  intro hg0
  refine VO.step (.some rfl rfl rfl) (V1.move rfl rfl rfl lt0 ?_)
  refine VO.step (.some rfl rfl rfl) (V1.call rfl rfl rfl cok_24 rfl (ok_impl_within (cond_f hg0 hh1)) rfl lt0 ?_)
  rintro _ _ ⟨rfl, rfl⟩
  refine VO.step (.some rfl rfl rfl) (V1.not rfl rfl rfl lt0 ?_)
  exact VO.nil ⟨rfl, rfl, rfl, rfl, .inr ⟨rfl, .inr ⟨rfl, .inr ⟨rfl, .inr ⟨rfl, .inl rfl⟩⟩⟩⟩⟩
 refine VO.cons rfl (V1.move rfl rfl rfl lt0 ?_)
 apply VO.or (n := 4) rfl rfl rfl rfl rfl rfl lt0 (.none rfl)
 ·
  intro hg1
  refine VO.step (.some rfl rfl rfl) (V1.move rfl rfl rfl lt0 ?_)
  refine VO.step (.some rfl rfl rfl) (V1.call rfl rfl rfl cok_43 rfl (ok_impl_decimal (cond_f hg1 hh2)) rfl lt0 ?_)
  rintro _ _ ⟨rfl, rfl⟩
  refine VO.step (.some rfl rfl rfl) (V1.move rfl rfl rfl lt0 ?_)
  refine VO.step (.some rfl rfl rfl) (V1.str rfl rfl rfl rfl rfl lt0 ?_)
  exact VO.nil ⟨rfl, rfl, rfl, rfl, .inr ⟨rfl, .inr ⟨rfl, .inr ⟨rfl, .inr ⟨rfl, .inr ⟨rfl, .inl rfl⟩⟩⟩⟩⟩⟩
 refine VO.nil ?_
 refine V.keep 25 [4, 23] [] (E0 := [(4, .int .i64 y0.1), (23, .bool ((y0.2 || (!y1)) || (!(y2 == s))))]) (H0 := []) rfl (⟨_, _, rfl, rfl, _, _, rfl, rfl, rfl⟩) (rfl) rfl ?_
 refine V.cond rfl (fun hc0 => ?_) (fun hc0 => ?_)
 ·
  replace hm0 := cond_t hc0 hm0
  refine V.seq ?_
  refine V.region ?_
  refine VO.cons rfl (V1.assign rfl rfl rfl lt0 ?_)
  refine VO.cons rfl (V1.assign rfl rfl rfl lt0 ?_)
  refine VO.nil ?_
  refine V.ret ?_
  obtain rfl := Option.some.inj hm0
  exact ⟨_, [], ⟨_, _, rfl, rfl, _, _, rfl, rfl, rfl⟩, List.nil_sublist _, rfl, rfl⟩
 ·
  replace hm0 := cond_f hc0 hm0
  refine V.skip ?_
  refine V.seq ?_
  refine V.region ?_
  refine VO.cons rfl (V1.move rfl rfl rfl lt0 ?_)
  refine VO.cons rfl (V1.assign rfl rfl rfl lt0 ?_)
  refine VO.cons rfl (V1.assign rfl rfl rfl lt0 ?_)
  refine VO.nil ?_
  refine V.ret ?_
  obtain rfl := Option.some.inj hm0
  exact ⟨_, [], ⟨_, _, rfl, rfl, _, _, rfl, rfl, rfl⟩, List.nil_sublist _, rfl, rfl⟩

theorem ok_impl_isId {rn : Nat} {id_ : Int} {r : Bool} (h : M.impl_isId id_ = some r) : Does Tryd.prog 38 [.int .i64 id_] [] rn (fun x H => x = .bool r ∧ H = []) := by
 have hm0 := h; clear h; unfold M.impl_isId at hm0
 try dsimp only at hm0
 refine Does.intro (N := 5) Tryd.func38 rfl rfl rfl rfl ?_
 intro w0 S0 L0
 refine V.seq ?_
 refine V.region ?_
 refine VO.cons rfl (V1.assign rfl rfl rfl lt0 ?_)
 refine VO.nil ?_
 refine V.seq ?_
 replace hm0 := bindO hm0; rcases hm0 with ⟨y0, hh0, hm0⟩
 refine V.region ?_
 refine VO.cons rfl (V1.move rfl rfl rfl lt0 ?_)
 refine VO.cons rfl (V1.call rfl rfl rfl cok_24 rfl (ok_impl_within hh0) rfl lt0 ?_)
 rintro _ _ ⟨rfl, rfl⟩
 refine VO.cons rfl (V1.assign rfl rfl rfl lt0 ?_)
 refine VO.nil ?_
 refine V.ret ?_
 obtain rfl := Option.some.inj hm0
 exact ⟨_, [], ⟨_, _, rfl, rfl, rfl⟩, List.nil_sublist _, rfl, rfl⟩

theorem ok_impl_isRecordId {rn : Nat} {id_ : Int} {r : Bool} (h : M.impl_isRecordId id_ = some r) : Does Tryd.prog 39 [.int .i64 id_] [] rn (fun x H => x = .bool r ∧ H = []) := by
 have hm0 := h; clear h; unfold M.impl_isRecordId at hm0
 try dsimp only at hm0
 refine Does.intro (N := 5) Tryd.func39 rfl rfl rfl rfl ?_
 intro w0 S0 L0
 refine V.seq ?_
 refine V.region ?_
 refine VO.cons rfl (V1.assign rfl rfl rfl lt0 ?_)
 refine VO.nil ?_
 refine V.seq ?_
 replace hm0 := bindO hm0; rcases hm0 with ⟨y0, hh0, hm0⟩
 refine V.region ?_
 refine VO.cons rfl (V1.move rfl rfl rfl lt0 ?_)
 refine VO.cons rfl (V1.call rfl rfl rfl cok_24 rfl (ok_impl_within hh0) rfl lt0 ?_)
 rintro _ _ ⟨rfl, rfl⟩
 refine VO.cons rfl (V1.assign rfl rfl rfl lt0 ?_)
 refine VO.nil ?_
 refine V.ret ?_
 obtain rfl := Option.some.inj hm0
 exact ⟨_, [], ⟨_, _, rfl, rfl, rfl⟩, List.nil_sublist _, rfl, rfl⟩

theorem ok_impl_isDay {rn : Nat} {day : Int} {r : Bool} (h : M.impl_isDay day = some r) : Does Tryd.prog 40 [.int .i64 day] [] rn (fun x H => x = .bool r ∧ H = []) := by
 have hm0 := h; clear h; unfold M.impl_isDay at hm0
 try dsimp only at hm0
 refine Does.intro (N := 5) Tryd.func40 rfl rfl rfl rfl ?_
 intro w0 S0 L0
 refine V.seq ?_
 refine V.region ?_
 refine VO.cons rfl (V1.assign rfl rfl rfl lt0 ?_)
 refine VO.nil ?_
 refine V.seq ?_
 replace hm0 := bindO hm0; rcases hm0 with ⟨y0, hh0, hm0⟩
 refine V.region ?_
 refine VO.cons rfl (V1.move rfl rfl rfl lt0 ?_)
 refine VO.cons rfl (V1.call rfl rfl rfl cok_24 rfl (ok_impl_within hh0) rfl lt0 ?_)
 rintro _ _ ⟨rfl, rfl⟩
 refine VO.cons rfl (V1.assign rfl rfl rfl lt0 ?_)
 refine VO.nil ?_
 refine V.ret ?_
 obtain rfl := Option.some.inj hm0
 exact ⟨_, [], ⟨_, _, rfl, rfl, rfl⟩, List.nil_sublist _, rfl, rfl⟩

theorem ok_impl_parser_test {rn bp : Nat} {p : Parser} {r : Query × Parser} (h : M.impl_parser_test p = some r) : Does Tryd.prog 33 [.ref bp 5 0 0] [(bp, ⟨5, [encParser p]⟩)] rn (fun x H => x = encQuery rn r.1 ∧ H = [(bp, ⟨5, [encParser r.2]⟩)]) := by
 have hm0 := h; clear h; unfold M.impl_parser_test at hm0
 try dsimp only at hm0
 refine Does.intro (N := 139) Tryd.func33 rfl rfl rfl rfl ?_
 intro w0 S0 L0
 refine V.seq ?_
 refine V.region ?_
 refine VO.cons rfl (V1.alloc rfl rfl zk_29 lt0 ?_)
 intro b0
 refine VO.nil ?_
 refine V.seq ?_
 refine V.seq ?_
 refine V.regionM 139 9 [⟨[(0, none)], [], none⟩, ⟨[(7, some 0)], [], none⟩, ⟨[(8, some 0)], [], none⟩, ⟨[(9, some 0)], [], none⟩, ⟨[(0, none)], [], none⟩, ⟨[(11, some 0)], [], none⟩, ⟨[(12, some 0)], [], none⟩, ⟨[(13, some 0)], [], none⟩, ⟨[(14, some 0)], [], none⟩] [(0, none), (2, none), (10, some 5), (15, some 0)] (⟨_, rfl, ⟨_, rfl, ⟨_, rfl, ⟨_, rfl, ⟨_, rfl, ⟨_, rfl, ⟨_, rfl, ⟨_, rfl, ⟨_, rfl, ⟨rfl, rfl⟩⟩⟩⟩⟩⟩⟩⟩⟩⟩) mixed_orders rfl (by decide +kernel) (fun hck1 => ?_)
 refine VP.step (p := ?pv357) rfl rfl rfl (⟨_, _, rfl, rfl, rfl⟩) ?hv357 ?rest357 hck1
 case hv357 =>
  intro E1
  refine (V1.move rfl rfl rfl lt0 ?_)
  exact rfl
 refine VP.step (p := ?pv358) rfl rfl rfl (⟨_, _, rfl, rfl, rfl⟩) ?hv358 ?rest358 hck1
 case hv358 =>
  intro E1
  refine (V1.nilRef rfl rfl rfl lt0 ?_)
  exact rfl
 refine VP.step (p := ?pv359) rfl rfl rfl (⟨_, _, rfl, rfl, rfl⟩) ?hv359 ?rest359 hck1
 case hv359 =>
  intro E1
  refine (V1.fieldRef rfl rfl fo_44_1 rfl lt0 ?_)
  exact rfl
 refine VP.step (p := ?pv360) rfl rfl rfl (⟨_, _, rfl, rfl, rfl⟩) ?hv360 ?rest360 hck1
 case hv360 =>
  intro E1
  refine (V1.loadRef (k := 1) rfl rfl tyk_3 rfl rfl rfl rfl rfl lt0 ?_)
  exact rfl
 refine VP.step (p := ?pv361) rfl rfl rfl (⟨_, _, rfl, rfl, rfl⟩) ?hv361 ?rest361 hck1
 case hv361 =>
  intro E1
  refine (V1.move rfl rfl rfl lt0 ?_)
  exact rfl
 refine VP.step (p := ?pv362) rfl rfl rfl (⟨_, _, rfl, rfl, rfl⟩) ?hv362 ?rest362 hck1
 case hv362 =>
  intro E1
  refine (V1.nilRef rfl rfl rfl lt0 ?_)
  exact rfl
 refine VP.step (p := ?pv363) rfl rfl rfl (⟨_, _, rfl, rfl, rfl⟩) ?hv363 ?rest363 hck1
 case hv363 =>
  intro E1
  refine (V1.fieldRef rfl rfl fo_44_0 rfl lt0 ?_)
  exact rfl
 refine VP.step (p := ?pv364) rfl rfl rfl (⟨_, _, rfl, rfl, rfl⟩) ?hv364 ?rest364 hck1
 case hv364 =>
  intro E1
  refine (V1.loadRef (k := 1) rfl rfl tyk_9 rfl rfl rfl rfl rfl lt0 ?_)
  exact rfl
 refine VP.step (p := ?pv365) rfl rfl rfl (⟨_, _, rfl, rfl, rfl⟩) ?hv365 ?rest365 hck1
 case hv365 =>
  intro E1
  refine (V1.lenStr rfl rfl rfl rfl rfl rfl istr_9 lt0 ?_)
  exact rfl
 refine VP.fin rfl (⟨_, _, rfl, rfl, _, _, rfl, rfl, _, _, rfl, rfl, _, _, rfl, rfl, rfl⟩) ?_
 refine VO.cons rfl (V1.int rfl rfl rfl rfl rfl lt0 ?_)
 refine VO.nil ?_
 refine V.cond rfl (fun hc0 => ?_) (fun hc0 => ?_)
 ·
  replace hm0 := cond_t hc0 hm0
  refine V.seq ?_
  refine V.region ?_
  refine VO.cons rfl (V1.move rfl rfl rfl lt0 ?_)
  refine VO.cons rfl (V1.nilRef rfl rfl rfl lt0 ?_)
  refine VO.cons rfl (V1.fieldRef rfl rfl fo_44_2 rfl lt0 ?_)
  refine VO.cons rfl (V1.storeRef (k := 1) rfl rfl tyk_4 rfl rfl rfl rfl rfl rfl rfl rfl rfl ?_)
  refine VO.nil ?_
  refine V.keep 139 [2] [0, 1] (E0 := [(2, .ref b0 3 0 0)]) (H0 := [(b0, ⟨3, [.agg [.int .u8 (0 : Int), .int .i64 (0 : Int), .nils]]⟩), (bp, ⟨5, [.agg [.str p.S, .int .i64 p.At, .bool true, .int .i64 p.Open, .int .i64 p.Most]]⟩)]) rfl (⟨_, _, rfl, rfl, rfl⟩) (⟨_, _, rfl, rfl, _, _, rfl, rfl, rfl⟩) rfl ?_
  refine V.seq ?_
  refine V.region ?_
  refine VO.cons rfl (V1.build rfl rfl zk_29 pl_29 rfl rfl lt0 ?_)
  refine VO.cons rfl (V1.storeRefAll (k := 0) rfl rfl tyk_29 rfl rfl rfl rfl rfl rfl ?_)
  refine VO.nil ?_
  refine V.weakenK (Keeps.leObj 0 [.agg [.int .u8 (0 : Int), .int .i64 (0 : Int), .vl rn 3 (List.map (encQE rn) ([] : List QE))]] rfl (.cons (.agg (.cons .same (.cons .same (.cons (.nils (l := ([] : List QE)) (f := (encQE rn)) rn 3 rfl rfl) .nil)))) .nil)) ?_
  refine V.ret ?_
  obtain rfl := Option.some.inj hm0
  exact ⟨_, _, ⟨_, _, rfl, ⟨_, _, 0, _, rfl, rfl, rfl, rfl, tyk_29, rfl⟩, rfl⟩, (sub1 (k := 1) rfl), rfl, rfl⟩
 ·
  replace hm0 := cond_f hc0 hm0
  refine V.skip ?_
  refine V.seq ?_
  replace hm0 := asrt_some hm0; rcases hm0 with ⟨hh0, hm0⟩
  refine V.regionM 139 8 [⟨[(0, none)], [], none⟩, ⟨[(21, some 0)], [], none⟩, ⟨[(22, some 0)], [], none⟩, ⟨[(23, some 0)], [], none⟩, ⟨[(0, none)], [], none⟩, ⟨[(25, some 0)], [], none⟩, ⟨[(26, some 0)], [], none⟩, ⟨[(27, some 0)], [], none⟩] [(0, none), (2, none), (24, some 4), (28, some 0)] (⟨_, rfl, ⟨_, rfl, ⟨_, rfl, ⟨_, rfl, ⟨_, rfl, ⟨_, rfl, ⟨_, rfl, ⟨_, rfl, ⟨rfl, rfl⟩⟩⟩⟩⟩⟩⟩⟩⟩) mixed_orders rfl (by decide +kernel) (fun hck4 => ?_)
  refine VP.step (p := ?pv366) rfl rfl rfl (⟨_, _, rfl, rfl, rfl⟩) ?hv366 ?rest366 hck4
  case hv366 =>
   intro E1
   refine (V1.move rfl rfl rfl lt0 ?_)
   exact rfl
  refine VP.step (p := ?pv367) rfl rfl rfl (⟨_, _, rfl, rfl, rfl⟩) ?hv367 ?rest367 hck4
  case hv367 =>
   intro E1
   refine (V1.nilRef rfl rfl rfl lt0 ?_)
   exact rfl
  refine VP.step (p := ?pv368) rfl rfl rfl (⟨_, _, rfl, rfl, rfl⟩) ?hv368 ?rest368 hck4
  case hv368 =>
   intro E1
   refine (V1.fieldRef rfl rfl fo_44_0 rfl lt0 ?_)
   exact rfl
  refine VP.step (p := ?pv369) rfl rfl rfl (⟨_, _, rfl, rfl, rfl⟩) ?hv369 ?rest369 hck4
  case hv369 =>
   intro E1
   refine (V1.loadRef (k := 1) rfl rfl tyk_9 rfl rfl rfl rfl rfl lt0 ?_)
   exact rfl
  refine VP.step (p := ?pv370) rfl rfl rfl (⟨_, _, rfl, rfl, rfl⟩) ?hv370 ?rest370 hck4
  case hv370 =>
   intro E1
   refine (V1.move rfl rfl rfl lt0 ?_)
   exact rfl
  refine VP.step (p := ?pv371) rfl rfl rfl (⟨_, _, rfl, rfl, rfl⟩) ?hv371 ?rest371 hck4
  case hv371 =>
   intro E1
   refine (V1.nilRef rfl rfl rfl lt0 ?_)
   exact rfl
  refine VP.step (p := ?pv372) rfl rfl rfl (⟨_, _, rfl, rfl, rfl⟩) ?hv372 ?rest372 hck4
  case hv372 =>
   intro E1
   refine (V1.fieldRef rfl rfl fo_44_1 rfl lt0 ?_)
   exact rfl
  refine VP.step (p := ?pv373) rfl rfl rfl (⟨_, _, rfl, rfl, rfl⟩) ?hv373 ?rest373 hck4
  case hv373 =>
   intro E1
   refine (V1.loadRef (k := 1) rfl rfl tyk_3 rfl rfl rfl rfl rfl lt0 ?_)
   exact rfl
  refine VP.fin rfl (⟨_, _, rfl, rfl, _, _, rfl, rfl, _, _, rfl, rfl, _, _, rfl, rfl, rfl⟩) ?_
  refine VO.cons rfl (V1.indexStrI rfl rfl istr_9 rfl rfl hh0 lt0 ?_)
  refine VO.cons rfl (V1.assign rfl rfl rfl lt0 ?_)
  refine VO.nil ?_
  refine V.seq ?_
  refine V.region ?_
  refine VO.cons rfl (V1.move rfl rfl rfl lt0 ?_)
  refine VO.cons rfl (V1.nilRef rfl rfl rfl lt0 ?_)
  refine VO.cons rfl (V1.fieldRef rfl rfl fo_44_1 rfl lt0 ?_)
  refine VO.cons rfl (V1.loadRef (k := 1) rfl rfl tyk_3 rfl rfl rfl rfl rfl lt0 ?_)
  refine VO.cons rfl (V1.int rfl rfl rfl rfl rfl lt0 ?_)
  refine VO.cons rfl (V1.nilRef rfl rfl rfl lt0 ?_)
  refine VO.cons rfl (V1.fieldRef rfl rfl fo_44_1 rfl lt0 ?_)
  refine VO.cons rfl (V1.storeRef (k := 1) rfl rfl tyk_3 rfl rfl rfl rfl rfl rfl rfl rfl rfl ?_)
  refine VO.nil ?_
  refine V.keep 139 [0, 2, 3] [0, 1] (E0 := [(0, .ref bp 5 0 0), (2, .ref b0 3 0 0), (3, .int .u8 ((p.S.getD (Int.toNat p.At) 0).toNat : Int))]) (H0 := [(b0, ⟨3, [.agg [.int .u8 (0 : Int), .int .i64 (0 : Int), .nils]]⟩), (bp, ⟨5, [.agg [.str p.S, .int .i64 (IntKind.i64.wrap (p.At + (1 : Int))), .bool p.Bad, .int .i64 p.Open, .int .i64 p.Most]]⟩)]) rfl (⟨_, _, rfl, rfl, _, _, rfl, rfl, _, _, rfl, rfl, rfl⟩) (⟨_, _, rfl, rfl, _, _, rfl, rfl, rfl⟩) rfl ?_
  refine V.seq ?_
  refine V.region ?_
  refine VO.cons rfl (V1.move rfl rfl rfl lt0 ?_)
  refine VO.cons rfl (V1.nilRef rfl rfl rfl lt0 ?_)
  refine VO.cons rfl (V1.fieldRef rfl rfl fo_44_1 rfl lt0 ?_)
  refine VO.cons rfl (V1.loadRef (k := 1) rfl rfl tyk_3 rfl rfl rfl rfl rfl lt0 ?_)
  refine VO.cons rfl (V1.assign rfl rfl rfl lt0 ?_)
  refine VO.nil ?_
  refine V.keep 139 [0, 2, 3, 4] [0, 1] (E0 := [(0, .ref bp 5 0 0), (2, .ref b0 3 0 0), (3, .int .u8 ((p.S.getD (Int.toNat p.At) 0).toNat : Int)), (4, .int .i64 (IntKind.i64.wrap (p.At + (1 : Int))))]) (H0 := [(b0, ⟨3, [.agg [.int .u8 (0 : Int), .int .i64 (0 : Int), .nils]]⟩), (bp, ⟨5, [.agg [.str p.S, .int .i64 (IntKind.i64.wrap (p.At + (1 : Int))), .bool p.Bad, .int .i64 p.Open, .int .i64 p.Most]]⟩)]) rfl (⟨_, _, rfl, rfl, _, _, rfl, rfl, _, _, rfl, rfl, _, _, rfl, rfl, rfl⟩) (⟨_, _, rfl, rfl, _, _, rfl, rfl, rfl⟩) rfl ?_
  refine V.seq ?_
  replace hm0 := bindO hm0; rcases hm0 with ⟨e0, he1, hm0⟩
  refine V.cutT (D := (Parser) × (Unit)) (fun ⟨p0, _⟩ => ⟨139, [(0, .ref bp 5 0 0), (2, .ref b0 3 0 0), (3, .int .u8 ((p.S.getD (Int.toNat p.At) 0).toNat : Int)), (4, .int .i64 (IntKind.i64.wrap (p.At + (1 : Int))))], [(bp, ⟨5, [encParser p0]⟩), (b0, ⟨3, [.agg [.int .u8 (0 : Int), .int .i64 (0 : Int), .nils]]⟩)]⟩) (fun ⟨p0, _⟩ => (p0 = e0)) ?_ ?_
  ·
   refine V.block ?_
   refine V.keep 139 [0, 2, 3, 4] [1, 0] (E0 := [(0, .ref bp 5 0 0), (2, .ref b0 3 0 0), (3, .int .u8 ((p.S.getD (Int.toNat p.At) 0).toNat : Int)), (4, .int .i64 (IntKind.i64.wrap (p.At + (1 : Int))))]) (H0 := [(bp, ⟨5, [.agg [.str p.S, .int .i64 (IntKind.i64.wrap (p.At + (1 : Int))), .bool p.Bad, .int .i64 p.Open, .int .i64 p.Most]]⟩), (b0, ⟨3, [.agg [.int .u8 (0 : Int), .int .i64 (0 : Int), .nils]]⟩)]) rfl (⟨_, _, rfl, rfl, _, _, rfl, rfl, _, _, rfl, rfl, _, _, rfl, rfl, rfl⟩) (⟨_, _, rfl, rfl, _, _, rfl, rfl, rfl⟩) rfl ?_
   refine V.loopE (D := Nat × (Parser) × (Unit)) (fun ⟨n0, p1, _⟩ => []) (fun ⟨n0, p1, _⟩ => [(bp, ⟨5, [encParser p1]⟩)]) (fun ⟨n0, p1, _⟩ => loopO (M.impl_parser_test_l0) n0 p1 = some e0) (fun ⟨n0, _, _⟩ => n0) (rounds, (⟨p.S, (IntKind.i64.wrap (p.At + (1 : Int))), p.Bad, p.Open, p.Most⟩ : Parser), ()) rfl he1 ?_
   rintro ⟨n0, p1, _⟩ hP0
   obtain ⟨m0, y0, rfl, hm1, hl1, hr1⟩ := loop_head hP0
   unfold M.impl_parser_test_l0 at hm1; dsimp only at hm1
   show V _ _ _ ⟨139, [(0, .ref bp 5 0 0), (2, .ref b0 3 0 0), (3, .int .u8 ((p.S.getD (Int.toNat p.At) 0).toNat : Int)), (4, .int .i64 (IntKind.i64.wrap (p.At + (1 : Int))))], [(bp, ⟨5, [encParser p1]⟩), (b0, ⟨3, [.agg [.int .u8 (0 : Int), .int .i64 (0 : Int), .nils]]⟩)]⟩
   refine V.seq ?_
   refine V.seq ?_
   replace hm1 := asrt_some hm1; rcases hm1 with ⟨hh1, hm1⟩
   replace hm1 := asrt_some hm1; rcases hm1 with ⟨hh2, hm1⟩
   refine V.regionM 139 34 [⟨[(0, none)], [], none⟩, ⟨[(41, some 0)], [], none⟩, ⟨[(42, some 0)], [], none⟩, ⟨[(43, some 0)], [], none⟩, ⟨[(0, none)], [], none⟩, ⟨[(45, some 0)], [], none⟩, ⟨[(46, some 0)], [], none⟩, ⟨[(47, some 0)], [], none⟩, ⟨[(48, some 0)], [], none⟩, ⟨[(44, some 5), (49, some 0)], [], none⟩, ⟨[(50, some 0)], [], none⟩, ⟨[(0, none)], [(0, true)], none⟩, ⟨[(52, some 0)], [(1, true)], none⟩, ⟨[(53, some 0)], [(2, true)], none⟩, ⟨[(54, some 0)], [(3, true)], none⟩, ⟨[(0, none)], [(4, true)], none⟩, ⟨[(56, some 0)], [(5, true)], none⟩, ⟨[(57, some 0)], [(6, true)], none⟩, ⟨[(58, some 0)], [(7, true)], none⟩, ⟨[(55, some 4), (59, some 0)], [(8, true)], none⟩, ⟨[(60, some 0)], [(9, true)], none⟩, ⟨[], [], some (true, 51, 61, 10, 0)⟩, ⟨[(62, some 0)], [], none⟩, ⟨[(0, none)], [(0, true)], none⟩, ⟨[(64, some 0)], [(1, true)], none⟩, ⟨[(65, some 0)], [(2, true)], none⟩, ⟨[(66, some 0)], [(3, true)], none⟩, ⟨[(0, none)], [(4, true)], none⟩, ⟨[(68, some 0)], [(5, true)], none⟩, ⟨[(69, some 0)], [(6, true)], none⟩, ⟨[(70, some 0)], [(7, true)], none⟩, ⟨[(67, some 4), (71, some 0)], [(8, true)], none⟩, ⟨[(72, some 0)], [(9, true)], none⟩, ⟨[], [], some (true, 63, 73, 10, 0)⟩] [(0, none), (2, none), (3, none), (4, none), (74, some 0)] (⟨_, rfl, ⟨_, rfl, ⟨_, rfl, ⟨_, rfl, ⟨_, rfl, ⟨_, rfl, ⟨_, rfl, ⟨_, rfl, ⟨_, rfl, ⟨_, rfl, ⟨_, rfl, ⟨_, rfl, ⟨_, rfl, ⟨_, rfl, ⟨_, rfl, ⟨_, rfl, ⟨_, rfl, ⟨_, rfl, ⟨_, rfl, ⟨_, rfl, ⟨_, rfl, ⟨_, rfl, ⟨_, rfl, ⟨_, rfl, ⟨_, rfl, ⟨_, rfl, ⟨_, rfl, ⟨_, rfl, ⟨_, rfl, ⟨_, rfl, ⟨_, rfl, ⟨_, rfl, ⟨_, rfl, ⟨_, rfl, ⟨rfl, rfl⟩⟩⟩⟩⟩⟩⟩⟩⟩⟩⟩⟩⟩⟩⟩⟩⟩⟩⟩⟩⟩⟩⟩⟩⟩⟩⟩⟩⟩⟩⟩⟩⟩⟩⟩) mixed_orders rfl (by decide +kernel) (fun hck7 => ?_)
   refine VP.step (p := ?pv470) rfl rfl rfl (⟨_, _, rfl, rfl, rfl⟩) ?hv470 ?rest470 hck7
   case hv470 =>
    intro E1
    refine (V1.move rfl rfl rfl lt0 ?_)
    exact rfl
   refine VP.step (p := ?pv471) rfl rfl rfl (⟨_, _, rfl, rfl, rfl⟩) ?hv471 ?rest471 hck7
   case hv471 =>
    intro E1
    refine (V1.nilRef rfl rfl rfl lt0 ?_)
    exact rfl
   refine VP.step (p := ?pv472) rfl rfl rfl (⟨_, _, rfl, rfl, rfl⟩) ?hv472 ?rest472 hck7
   case hv472 =>
    intro E1
    refine (V1.fieldRef rfl rfl fo_44_1 rfl lt0 ?_)
    exact rfl
   refine VP.step (p := ?pv473) rfl rfl rfl (⟨_, _, rfl, rfl, rfl⟩) ?hv473 ?rest473 hck7
   case hv473 =>
    intro E1
    refine (V1.loadRef (k := 0) rfl rfl tyk_3 rfl rfl rfl rfl rfl lt0 ?_)
    exact rfl
   refine VP.step (p := ?pv474) rfl rfl rfl (⟨_, _, rfl, rfl, rfl⟩) ?hv474 ?rest474 hck7
   case hv474 =>
    intro E1
    refine (V1.move rfl rfl rfl lt0 ?_)
    exact rfl
   refine VP.step (p := ?pv475) rfl rfl rfl (⟨_, _, rfl, rfl, rfl⟩) ?hv475 ?rest475 hck7
   case hv475 =>
    intro E1
    refine (V1.nilRef rfl rfl rfl lt0 ?_)
    exact rfl
   refine VP.step (p := ?pv476) rfl rfl rfl (⟨_, _, rfl, rfl, rfl⟩) ?hv476 ?rest476 hck7
   case hv476 =>
    intro E1
    refine (V1.fieldRef rfl rfl fo_44_0 rfl lt0 ?_)
    exact rfl
   refine VP.step (p := ?pv477) rfl rfl rfl (⟨_, _, rfl, rfl, rfl⟩) ?hv477 ?rest477 hck7
   case hv477 =>
    intro E1
    refine (V1.loadRef (k := 0) rfl rfl tyk_9 rfl rfl rfl rfl rfl lt0 ?_)
    exact rfl
   refine VP.step (p := ?pv478) rfl rfl rfl (⟨_, _, rfl, rfl, rfl⟩) ?hv478 ?rest478 hck7
   case hv478 =>
    intro E1
    refine (V1.lenStr rfl rfl rfl rfl rfl rfl istr_9 lt0 ?_)
    exact rfl
   refine VP.step (p := ?pv479) rfl rfl rfl (⟨_, _, rfl, rfl, _, _, rfl, rfl, rfl⟩) ?hv479 ?rest479 hck7
   case hv479 =>
    intro E1
    refine (V1.int rfl rfl rfl rfl rfl lt0 ?_)
    exact rfl
   refine VP.step (p := ?pv480) rfl rfl rfl (⟨_, _, rfl, rfl, rfl⟩) ?hv480 ?rest480 hck7
   case hv480 =>
    intro E1
    refine (V1.move rfl rfl rfl lt0 ?_)
    exact rfl
   refine VP.step (p := ?pv481) rfl rfl rfl (⟨_, _, rfl, rfl, rfl⟩) ?hv481 ?rest481 hck7
   case hv481 =>
    refine ⟨_, rfl, fun hg0 => ?_⟩
    intro E1
    refine (V1.move rfl rfl rfl lt0 ?_)
    exact rfl
   refine VP.step (p := ?pv482) rfl rfl rfl (⟨_, _, rfl, rfl, rfl⟩) ?hv482 ?rest482 hck7
   case hv482 =>
    refine ⟨_, rfl, fun hg0 => ?_⟩
    intro E1
    refine (V1.nilRef rfl rfl rfl lt0 ?_)
    exact rfl
   refine VP.step (p := ?pv483) rfl rfl rfl (⟨_, _, rfl, rfl, rfl⟩) ?hv483 ?rest483 hck7
   case hv483 =>
    refine ⟨_, rfl, fun hg0 => ?_⟩
    intro E1
    refine (V1.fieldRef rfl rfl fo_44_0 rfl lt0 ?_)
    exact rfl
   refine VP.step (p := ?pv484) rfl rfl rfl (⟨_, _, rfl, rfl, rfl⟩) ?hv484 ?rest484 hck7
   case hv484 =>
    refine ⟨_, rfl, fun hg0 => ?_⟩
    intro E1
    refine (V1.loadRef (k := 0) rfl rfl tyk_9 rfl rfl rfl rfl rfl lt0 ?_)
    exact rfl
   refine VP.step (p := ?pv485) rfl rfl rfl (⟨_, _, rfl, rfl, rfl⟩) ?hv485 ?rest485 hck7
   case hv485 =>
    refine ⟨_, rfl, fun hg0 => ?_⟩
    intro E1
    refine (V1.move rfl rfl rfl lt0 ?_)
    exact rfl
   refine VP.step (p := ?pv486) rfl rfl rfl (⟨_, _, rfl, rfl, rfl⟩) ?hv486 ?rest486 hck7
   case hv486 =>
    refine ⟨_, rfl, fun hg0 => ?_⟩
    intro E1
    refine (V1.nilRef rfl rfl rfl lt0 ?_)
    exact rfl
   refine VP.step (p := ?pv487) rfl rfl rfl (⟨_, _, rfl, rfl, rfl⟩) ?hv487 ?rest487 hck7
   case hv487 =>
    refine ⟨_, rfl, fun hg0 => ?_⟩
    intro E1
    refine (V1.fieldRef rfl rfl fo_44_1 rfl lt0 ?_)
    exact rfl
   refine VP.step (p := ?pv488) rfl rfl rfl (⟨_, _, rfl, rfl, rfl⟩) ?hv488 ?rest488 hck7
   case hv488 =>
    refine ⟨_, rfl, fun hg0 => ?_⟩
    intro E1
    refine (V1.loadRef (k := 0) rfl rfl tyk_3 rfl rfl rfl rfl rfl lt0 ?_)
    exact rfl
   refine VP.step (p := ?pv489) rfl rfl rfl (⟨_, _, rfl, rfl, _, _, rfl, rfl, rfl⟩) ?hv489 ?rest489 hck7
   case hv489 =>
    refine ⟨_, rfl, fun hg0 => ?_⟩
    intro E1
    refine (V1.indexStrI rfl rfl istr_9 rfl rfl (hh1 hg0) lt0 ?_)
    exact rfl
   refine VP.step (p := ?pv490) rfl rfl rfl (⟨_, _, rfl, rfl, rfl⟩) ?hv490 ?rest490 hck7
   case hv490 =>
    refine ⟨_, rfl, fun hg0 => ?_⟩
    intro E1
    refine (V1.int rfl rfl rfl rfl rfl lt0 ?_)
    exact rfl
   refine VP.pickAnd rfl rfl rfl rfl rfl rfl (trivial) ?_ hck7
   refine VP.step (p := ?pv491) rfl rfl rfl (⟨_, _, rfl, rfl, rfl⟩) ?hv491 ?rest491 hck7
   case hv491 =>
    intro E1
    refine (V1.move rfl rfl rfl lt0 ?_)
    exact rfl
   refine VP.step (p := ?pv492) rfl rfl rfl (⟨_, _, rfl, rfl, rfl⟩) ?hv492 ?rest492 hck7
   case hv492 =>
    refine ⟨_, rfl, fun hg1 => ?_⟩
    intro E1
    refine (V1.move rfl rfl rfl lt0 ?_)
    exact rfl
   refine VP.step (p := ?pv493) rfl rfl rfl (⟨_, _, rfl, rfl, rfl⟩) ?hv493 ?rest493 hck7
   case hv493 =>
    refine ⟨_, rfl, fun hg1 => ?_⟩
    intro E1
    refine (V1.nilRef rfl rfl rfl lt0 ?_)
    exact rfl
   refine VP.step (p := ?pv494) rfl rfl rfl (⟨_, _, rfl, rfl, rfl⟩) ?hv494 ?rest494 hck7
   case hv494 =>
    refine ⟨_, rfl, fun hg1 => ?_⟩
    intro E1
    refine (V1.fieldRef rfl rfl fo_44_0 rfl lt0 ?_)
    exact rfl
   refine VP.step (p := ?pv495) rfl rfl rfl (⟨_, _, rfl, rfl, rfl⟩) ?hv495 ?rest495 hck7
   case hv495 =>
    refine ⟨_, rfl, fun hg1 => ?_⟩
    intro E1
    refine (V1.loadRef (k := 0) rfl rfl tyk_9 rfl rfl rfl rfl rfl lt0 ?_)
    exact rfl
   refine VP.step (p := ?pv496) rfl rfl rfl (⟨_, _, rfl, rfl, rfl⟩) ?hv496 ?rest496 hck7
   case hv496 =>
    refine ⟨_, rfl, fun hg1 => ?_⟩
    intro E1
    refine (V1.move rfl rfl rfl lt0 ?_)
    exact rfl
   refine VP.step (p := ?pv497) rfl rfl rfl (⟨_, _, rfl, rfl, rfl⟩) ?hv497 ?rest497 hck7
   case hv497 =>
    refine ⟨_, rfl, fun hg1 => ?_⟩
    intro E1
    refine (V1.nilRef rfl rfl rfl lt0 ?_)
    exact rfl
   refine VP.step (p := ?pv498) rfl rfl rfl (⟨_, _, rfl, rfl, rfl⟩) ?hv498 ?rest498 hck7
   case hv498 =>
    refine ⟨_, rfl, fun hg1 => ?_⟩
    intro E1
    refine (V1.fieldRef rfl rfl fo_44_1 rfl lt0 ?_)
    exact rfl
   refine VP.step (p := ?pv499) rfl rfl rfl (⟨_, _, rfl, rfl, rfl⟩) ?hv499 ?rest499 hck7
   case hv499 =>
    refine ⟨_, rfl, fun hg1 => ?_⟩
    intro E1
    refine (V1.loadRef (k := 0) rfl rfl tyk_3 rfl rfl rfl rfl rfl lt0 ?_)
    exact rfl
   refine VP.step (p := ?pv500) rfl rfl rfl (⟨_, _, rfl, rfl, _, _, rfl, rfl, rfl⟩) ?hv500 ?rest500 hck7
   case hv500 =>
    refine ⟨_, rfl, fun hg1 => ?_⟩
    intro E1
    refine (V1.indexStrI rfl rfl istr_9 rfl rfl (hh2 hg1) lt0 ?_)
    exact rfl
   refine VP.step (p := ?pv501) rfl rfl rfl (⟨_, _, rfl, rfl, rfl⟩) ?hv501 ?rest501 hck7
   case hv501 =>
    refine ⟨_, rfl, fun hg1 => ?_⟩
    intro E1
    refine (V1.int rfl rfl rfl rfl rfl lt0 ?_)
    exact rfl
   refine VP.pickAnd rfl rfl rfl rfl rfl rfl (trivial) ?_ hck7
   refine VP.fin rfl (⟨_, _, rfl, rfl, _, _, rfl, rfl, _, _, rfl, rfl, _, _, rfl, rfl, _, _, rfl, rfl, rfl⟩) ?_
   refine VO.nil ?_
   refine V.cond rfl (fun hc1 => ?_) (fun hc1 => ?_)
   ·
    replace hm1 := cond_t hc1 hm1
    refine V.skip ?_
    refine V.block ?_
    refine V.region ?_
    refine VO.cons rfl (V1.move rfl rfl rfl lt0 ?_)
    refine VO.cons rfl (V1.nilRef rfl rfl rfl lt0 ?_)
    refine VO.cons rfl (V1.fieldRef rfl rfl fo_44_1 rfl lt0 ?_)
    refine VO.cons rfl (V1.loadRef (k := 0) rfl rfl tyk_3 rfl rfl rfl rfl rfl lt0 ?_)
    refine VO.cons rfl (V1.int rfl rfl rfl rfl rfl lt0 ?_)
    refine VO.cons rfl (V1.nilRef rfl rfl rfl lt0 ?_)
    refine VO.cons rfl (V1.fieldRef rfl rfl fo_44_1 rfl lt0 ?_)
    refine VO.cons rfl (V1.storeRef (k := 0) rfl rfl tyk_3 rfl rfl rfl rfl rfl rfl rfl rfl rfl ?_)
    refine VO.nil ?_
    exact ⟨(m0, (⟨p1.S, (IntKind.i64.wrap (p1.At + (1 : Int))), p1.Bad, p1.Open, p1.Most⟩ : Parser), ()), hl1 _ (Option.some.inj hm1).symm, Nat.lt_succ_self _, Keeps.mk (ks := [0, 1]) rfl ⟨rfl, rfl, rfl, rfl, trivial⟩ (⟨_, _, rfl, rfl, _, _, rfl, rfl, rfl⟩) rfl⟩
   ·
    replace hm1 := cond_f hc1 hm1
    refine V.exit ?_
    obtain rfl := hr1 _ (Option.some.inj hm1).symm
    exact ⟨(p1, ()), rfl, Keeps.mk (ks := [0, 1]) rfl ⟨rfl, rfl, rfl, rfl, trivial⟩ (⟨_, _, rfl, rfl, _, _, rfl, rfl, rfl⟩) rfl⟩
  ·
   rintro ⟨p0, _⟩ rfl
   try dsimp only at hm0
   refine V.seq ?_
   replace hm0 := asrt_some hm0; rcases hm0 with ⟨hh3, hm0⟩
   replace hm0 := bindO hm0; rcases hm0 with ⟨y1, hh4, hm0⟩
   refine V.regionM 139 15 [⟨[(0, none)], [], none⟩, ⟨[(83, some 0)], [], none⟩, ⟨[(84, some 0)], [], none⟩, ⟨[(85, some 0)], [], none⟩, ⟨[(4, none)], [], none⟩, ⟨[(0, none)], [], none⟩, ⟨[(88, some 0)], [], none⟩, ⟨[(89, some 0)], [], none⟩, ⟨[(90, some 0)], [], none⟩, ⟨[(86, some 5), (87, some 4), (91, some 0)], [], none⟩, ⟨[(92, some 0)], [], none⟩, ⟨[(93, some 0)], [], none⟩, ⟨[(82, some 0)], [], none⟩, ⟨[(82, some 1)], [], none⟩, ⟨[(94, some 1)], [], none⟩] [(0, none), (2, none), (3, none), (5, some 0), (95, some 1)] (⟨_, rfl, ⟨_, rfl, ⟨_, rfl, ⟨_, rfl, ⟨_, rfl, ⟨_, rfl, ⟨_, rfl, ⟨_, rfl, ⟨_, rfl, ⟨_, rfl, ⟨_, rfl, ⟨_, rfl, ⟨_, rfl, ⟨_, rfl, ⟨_, rfl, ⟨rfl, rfl⟩⟩⟩⟩⟩⟩⟩⟩⟩⟩⟩⟩⟩⟩⟩⟩) mixed_orders rfl (by decide +kernel) (fun hck9 => ?_)
   refine VP.step (p := ?pv503) rfl rfl rfl (⟨_, _, rfl, rfl, rfl⟩) ?hv503 ?rest503 hck9
   case hv503 =>
    intro E1
    refine (V1.move rfl rfl rfl lt0 ?_)
    exact rfl
   refine VP.step (p := ?pv504) rfl rfl rfl (⟨_, _, rfl, rfl, rfl⟩) ?hv504 ?rest504 hck9
   case hv504 =>
    intro E1
    refine (V1.nilRef rfl rfl rfl lt0 ?_)
    exact rfl
   refine VP.step (p := ?pv505) rfl rfl rfl (⟨_, _, rfl, rfl, rfl⟩) ?hv505 ?rest505 hck9
   case hv505 =>
    intro E1
    refine (V1.fieldRef rfl rfl fo_44_0 rfl lt0 ?_)
    exact rfl
   refine VP.step (p := ?pv506) rfl rfl rfl (⟨_, _, rfl, rfl, rfl⟩) ?hv506 ?rest506 hck9
   case hv506 =>
    intro E1
    refine (V1.loadRef (k := 0) rfl rfl tyk_9 rfl rfl rfl rfl rfl lt0 ?_)
    exact rfl
   refine VP.step (p := ?pv507) rfl rfl rfl (⟨_, _, rfl, rfl, rfl⟩) ?hv507 ?rest507 hck9
   case hv507 =>
    intro E1
    refine (V1.move rfl rfl rfl lt0 ?_)
    exact rfl
   refine VP.step (p := ?pv508) rfl rfl rfl (⟨_, _, rfl, rfl, rfl⟩) ?hv508 ?rest508 hck9
   case hv508 =>
    intro E1
    refine (V1.move rfl rfl rfl lt0 ?_)
    exact rfl
   refine VP.step (p := ?pv509) rfl rfl rfl (⟨_, _, rfl, rfl, rfl⟩) ?hv509 ?rest509 hck9
   case hv509 =>
    intro E1
    refine (V1.nilRef rfl rfl rfl lt0 ?_)
    exact rfl
   refine VP.step (p := ?pv510) rfl rfl rfl (⟨_, _, rfl, rfl, rfl⟩) ?hv510 ?rest510 hck9
   case hv510 =>
    intro E1
    refine (V1.fieldRef rfl rfl fo_44_1 rfl lt0 ?_)
    exact rfl
   refine VP.step (p := ?pv511) rfl rfl rfl (⟨_, _, rfl, rfl, rfl⟩) ?hv511 ?rest511 hck9
   case hv511 =>
    intro E1
    refine (V1.loadRef (k := 0) rfl rfl tyk_3 rfl rfl rfl rfl rfl lt0 ?_)
    exact rfl
   refine VP.step (p := ?pv512) rfl rfl rfl (⟨_, _, rfl, rfl, _, _, rfl, rfl, _, _, rfl, rfl, rfl⟩) ?hv512 ?rest512 hck9
   case hv512 =>
    intro E1
    refine (V1.sliceStrI (a := (IntKind.i64.wrap (p.At + (1 : Int)))) (b := p0.At) rfl rfl istr_9 rfl (Bnd.some rfl hh3.1 _) (Bnd.some rfl (Int.le_trans hh3.1 hh3.2.1) _) hh3 lt0 ?_)
    exact rfl
   refine VP.step (p := ?pv513) rfl rfl rfl (⟨_, _, rfl, rfl, rfl⟩) ?hv513 ?rest513 hck9
   case hv513 =>
    intro E1
    refine (V1.call rfl rfl rfl cok_37 rfl (ok_impl_ParseInt hh4) rfl lt0 ?_)
    rintro _ _ ⟨rfl, rfl⟩
    exact rfl
   refine VP.step (p := ?pv515) rfl rfl rfl (⟨_, _, rfl, rfl, rfl⟩) ?hv515 ?rest515 hck9
   case hv515 =>
    intro E1
    refine (V1.move rfl rfl rfl lt0 ?_)
    exact rfl
   refine VP.step (p := ?pv516) rfl rfl rfl (⟨_, _, rfl, rfl, rfl⟩) ?hv516 ?rest516 hck9
   case hv516 =>
    intro E1
    refine (V1.extract rfl rfl rfl rfl lt0 ?_)
    exact rfl
   refine VP.step (p := ?pv517) rfl rfl rfl (⟨_, _, rfl, rfl, rfl⟩) ?hv517 ?rest517 hck9
   case hv517 =>
    intro E1
    refine (V1.extract rfl rfl rfl rfl lt0 ?_)
    exact rfl
   refine VP.step (p := ?pv518) rfl rfl rfl (⟨_, _, rfl, rfl, rfl⟩) ?hv518 ?rest518 hck9
   case hv518 =>
    intro E1
    refine (V1.assign rfl rfl rfl lt0 ?_)
    exact rfl
   refine VP.fin rfl (⟨_, _, rfl, rfl, _, _, rfl, rfl, _, _, rfl, rfl, _, _, rfl, rfl, _, _, rfl, rfl, rfl⟩) ?_
   refine VO.cons rfl (V1.assign rfl rfl rfl lt0 ?_)
   refine VO.nil ?_
   refine V.seq ?_
   replace hm0 := bindO hm0; rcases hm0 with ⟨j0, hm1, hm0⟩
   refine V.cutT (D := (Bool) × (Unit)) (fun ⟨ok_, _⟩ => ⟨139, [(6, .bool ok_), (0, .ref bp 5 0 0), (2, .ref b0 3 0 0), (3, .int .u8 ((p.S.getD (Int.toNat p.At) 0).toNat : Int)), (5, .int .i64 y1.1)], [(bp, ⟨5, [encParser p0]⟩), (b0, ⟨3, [.agg [.int .u8 (0 : Int), .int .i64 (0 : Int), .nils]]⟩)]⟩) (fun ⟨ok_, _⟩ => (ok_ = j0)) ?_ ?_
   ·
    refine V.seq ?_
    refine V.region ?_
    refine VO.cons rfl (V1.move rfl rfl rfl lt0 ?_)
    refine VO.nil ?_
    replace hm1 := bindO hm1; rcases hm1 with ⟨j1, hm2, hm1⟩
    refine V.cutT (D := (Bool) × (Unit)) (fun ⟨ok_0, _⟩ => ⟨139, [(6, .bool ok_0), (0, .ref bp 5 0 0), (2, .ref b0 3 0 0), (3, .int .u8 ((p.S.getD (Int.toNat p.At) 0).toNat : Int)), (5, .int .i64 y1.1)], [(bp, ⟨5, [encParser p0]⟩), (b0, ⟨3, [.agg [.int .u8 (0 : Int), .int .i64 (0 : Int), .nils]]⟩)]⟩) (fun ⟨ok_0, _⟩ => (ok_0 = j1)) ?_ ?_
    ·
     refine V.block ?_
     refine V.seq ?_
     refine V.region ?_
     refine VO.cons rfl (V1.int rfl rfl rfl rfl rfl lt0 ?_)
     refine VO.cons rfl (V1.assign rfl rfl rfl lt0 ?_)
     refine VO.nil ?_
     refine V.cond rfl (fun hc2 => ?_) (fun hc2 => ?_)
     ·
      replace hm2 := cond_t hc2 hm2
      replace hm2 := bindO hm2; rcases hm2 with ⟨y2, hh5, hm2⟩
      refine V.region ?_
      refine VO.cons rfl (V1.move rfl rfl rfl lt0 ?_)
      refine VO.cons rfl (V1.move rfl rfl rfl lt0 ?_)
      apply VO.and (n := 2) rfl rfl rfl rfl rfl rfl lt0 (.none rfl)
      ·
       intro hg2
       refine VO.step (.some rfl rfl rfl) (V1.move rfl rfl rfl lt0 ?_)
       refine VO.step (.some rfl rfl rfl) (V1.call rfl rfl rfl cok_38 rfl (ok_impl_isId (cond_t hg2 hh5)) rfl lt0 ?_)
       rintro _ _ ⟨rfl, rfl⟩
       exact VO.nil ⟨rfl, rfl, rfl, rfl, .inr ⟨rfl, .inr ⟨rfl, .inr ⟨rfl, .inl rfl⟩⟩⟩⟩
      refine VO.cons rfl (V1.assign rfl rfl rfl lt0 ?_)
      refine VO.nil ?_
      exact ⟨((y1.2 && y2), ()), Option.some.inj hm2, Keeps.mk (ks := [0, 1]) rfl ⟨rfl, rfl, rfl, rfl, rfl, trivial⟩ (⟨_, _, rfl, rfl, _, _, rfl, rfl, rfl⟩) rfl⟩
     ·
      replace hm2 := cond_f hc2 hm2
      refine V.seq ?_
      refine V.region ?_
      refine VO.cons rfl (V1.int rfl rfl rfl rfl rfl lt0 ?_)
      refine VO.cons rfl (V1.assign rfl rfl rfl lt0 ?_)
      refine VO.nil ?_
      refine V.keep 139 [0, 2, 3, 5, 6, 96, 104] [0, 1] (E0 := [(0, .ref bp 5 0 0), (2, .ref b0 3 0 0), (3, .int .u8 ((p.S.getD (Int.toNat p.At) 0).toNat : Int)), (5, .int .i64 y1.1), (6, .bool y1.2), (96, .int .u8 ((p.S.getD (Int.toNat p.At) 0).toNat : Int)), (104, .bool (((p.S.getD (Int.toNat p.At) 0).toNat : Int) == (105 : Int)))]) (H0 := [(bp, ⟨5, [encParser p0]⟩), (b0, ⟨3, [.agg [.int .u8 (0 : Int), .int .i64 (0 : Int), .nils]]⟩)]) rfl (⟨_, _, rfl, rfl, _, _, rfl, rfl, _, _, rfl, rfl, _, _, rfl, rfl, _, _, rfl, rfl, _, _, rfl, rfl, _, _, rfl, rfl, rfl⟩) (⟨_, _, rfl, rfl, _, _, rfl, rfl, rfl⟩) rfl ?_
      refine V.cond rfl (fun hc3 => ?_) (fun hc3 => ?_)
      ·
       replace hm2 := cond_t hc3 hm2
       replace hm2 := bindO hm2; rcases hm2 with ⟨y3, hh6, hm2⟩
       refine V.region ?_
       refine VO.cons rfl (V1.move rfl rfl rfl lt0 ?_)
       refine VO.cons rfl (V1.move rfl rfl rfl lt0 ?_)
       apply VO.and (n := 2) rfl rfl rfl rfl rfl rfl lt0 (.none rfl)
       ·
        intro hg3
        refine VO.step (.some rfl rfl rfl) (V1.move rfl rfl rfl lt0 ?_)
        refine VO.step (.some rfl rfl rfl) (V1.call rfl rfl rfl cok_39 rfl (ok_impl_isRecordId (cond_t hg3 hh6)) rfl lt0 ?_)
        rintro _ _ ⟨rfl, rfl⟩
        exact VO.nil ⟨rfl, rfl, rfl, rfl, .inr ⟨rfl, .inr ⟨rfl, .inr ⟨rfl, .inl rfl⟩⟩⟩⟩
       refine VO.cons rfl (V1.assign rfl rfl rfl lt0 ?_)
       refine VO.nil ?_
       exact ⟨((y1.2 && y3), ()), Option.some.inj hm2, Keeps.mk (ks := [0, 1]) rfl ⟨rfl, rfl, rfl, rfl, rfl, trivial⟩ (⟨_, _, rfl, rfl, _, _, rfl, rfl, rfl⟩) rfl⟩
      ·
       replace hm2 := cond_f hc3 hm2
       refine V.seq ?_
       refine V.region ?_
       refine VO.cons rfl (V1.int rfl rfl rfl rfl rfl lt0 ?_)
       refine VO.cons rfl (V1.assign rfl rfl rfl lt0 ?_)
       refine VO.nil ?_
       refine V.cond rfl (fun hc4 => ?_) (fun hc4 => ?_)
       ·
        replace hm2 := cond_t hc4 hm2
        replace hm2 := bindO hm2; rcases hm2 with ⟨y4, hh7, hm2⟩
        refine V.region ?_
        refine VO.cons rfl (V1.move rfl rfl rfl lt0 ?_)
        refine VO.cons rfl (V1.move rfl rfl rfl lt0 ?_)
        apply VO.and (n := 2) rfl rfl rfl rfl rfl rfl lt0 (.none rfl)
        ·
         intro hg4
         refine VO.step (.some rfl rfl rfl) (V1.move rfl rfl rfl lt0 ?_)
         refine VO.step (.some rfl rfl rfl) (V1.call rfl rfl rfl cok_24 rfl (ok_impl_within (cond_t hg4 hh7)) rfl lt0 ?_)
         rintro _ _ ⟨rfl, rfl⟩
         exact VO.nil ⟨rfl, rfl, rfl, rfl, .inr ⟨rfl, .inr ⟨rfl, .inr ⟨rfl, .inl rfl⟩⟩⟩⟩
        refine VO.cons rfl (V1.assign rfl rfl rfl lt0 ?_)
        refine VO.nil ?_
        exact ⟨((y1.2 && y4), ()), Option.some.inj hm2, Keeps.mk (ks := [0, 1]) rfl ⟨rfl, rfl, rfl, rfl, rfl, trivial⟩ (⟨_, _, rfl, rfl, _, _, rfl, rfl, rfl⟩) rfl⟩
       ·
        replace hm2 := cond_f hc4 hm2
        refine V.seq ?_
        refine V.region ?_
        refine VO.cons rfl (V1.int rfl rfl rfl rfl rfl lt0 ?_)
        refine VO.cons rfl (V1.assign rfl rfl rfl lt0 ?_)
        refine VO.nil ?_
        refine V.keep 139 [0, 2, 3, 5, 6, 118] [0, 1] (E0 := [(0, .ref bp 5 0 0), (2, .ref b0 3 0 0), (3, .int .u8 ((p.S.getD (Int.toNat p.At) 0).toNat : Int)), (5, .int .i64 y1.1), (6, .bool y1.2), (118, .bool (((p.S.getD (Int.toNat p.At) 0).toNat : Int) == (97 : Int)))]) (H0 := [(bp, ⟨5, [encParser p0]⟩), (b0, ⟨3, [.agg [.int .u8 (0 : Int), .int .i64 (0 : Int), .nils]]⟩)]) rfl (⟨_, _, rfl, rfl, _, _, rfl, rfl, _, _, rfl, rfl, _, _, rfl, rfl, _, _, rfl, rfl, _, _, rfl, rfl, rfl⟩) (⟨_, _, rfl, rfl, _, _, rfl, rfl, rfl⟩) rfl ?_
        refine V.cond rfl (fun hc5 => ?_) (fun hc5 => ?_)
        ·
         replace hm2 := cond_t hc5 hm2
         replace hm2 := bindO hm2; rcases hm2 with ⟨y5, hh8, hm2⟩
         refine V.region ?_
         refine VO.cons rfl (V1.move rfl rfl rfl lt0 ?_)
         refine VO.cons rfl (V1.move rfl rfl rfl lt0 ?_)
         apply VO.and (n := 2) rfl rfl rfl rfl rfl rfl lt0 (.none rfl)
         ·
          intro hg5
          refine VO.step (.some rfl rfl rfl) (V1.move rfl rfl rfl lt0 ?_)
          refine VO.step (.some rfl rfl rfl) (V1.call rfl rfl rfl cok_40 rfl (ok_impl_isDay (cond_t hg5 hh8)) rfl lt0 ?_)
          rintro _ _ ⟨rfl, rfl⟩
          exact VO.nil ⟨rfl, rfl, rfl, rfl, .inr ⟨rfl, .inr ⟨rfl, .inr ⟨rfl, .inl rfl⟩⟩⟩⟩
         refine VO.cons rfl (V1.assign rfl rfl rfl lt0 ?_)
         refine VO.nil ?_
         exact ⟨((y1.2 && y5), ()), Option.some.inj hm2, Keeps.mk (ks := [0, 1]) rfl ⟨rfl, rfl, rfl, rfl, rfl, trivial⟩ (⟨_, _, rfl, rfl, _, _, rfl, rfl, rfl⟩) rfl⟩
        ·
         replace hm2 := cond_f hc5 hm2
         refine V.region ?_
         refine VO.cons rfl (V1.assign rfl rfl rfl lt0 ?_)
         refine VO.nil ?_
         exact ⟨(false, ()), Option.some.inj hm2, Keeps.mk (ks := [0, 1]) rfl ⟨rfl, rfl, rfl, rfl, rfl, trivial⟩ (⟨_, _, rfl, rfl, _, _, rfl, rfl, rfl⟩) rfl⟩
    ·
     rintro ⟨ok_0, _⟩ rfl
     try dsimp only at hm1
     exact ⟨(ok_0, ()), Option.some.inj hm1, Keeps.mk (ks := [0, 1]) rfl ⟨rfl, rfl, rfl, rfl, rfl, trivial⟩ (⟨_, _, rfl, rfl, _, _, rfl, rfl, rfl⟩) rfl⟩
   ·
    rintro ⟨ok_, _⟩ rfl
    try dsimp only at hm0
    refine V.seq ?_
    refine V.region ?_
    refine VO.cons rfl (V1.move rfl rfl rfl lt0 ?_)
    refine VO.cons rfl (V1.move rfl rfl rfl lt0 ?_)
    refine VO.cons rfl (V1.nilRef rfl rfl rfl lt0 ?_)
    refine VO.cons rfl (V1.fieldRef rfl rfl fo_44_2 rfl lt0 ?_)
    refine VO.cons rfl (V1.loadRef (k := 0) rfl rfl tyk_4 rfl rfl rfl rfl rfl lt0 ?_)
    refine VO.cons rfl (V1.move rfl rfl rfl lt0 ?_)
    apply VO.or (n := 2) rfl rfl rfl rfl rfl rfl lt0 (.none rfl)
    ·
     intro hg6
     refine VO.step (.some rfl rfl rfl) (V1.move rfl rfl rfl lt0 ?_)
     refine VO.step (.some rfl rfl rfl) (V1.not rfl rfl rfl lt0 ?_)
     exact VO.nil ⟨rfl, rfl, rfl, rfl, .inr ⟨rfl, .inr ⟨rfl, .inr ⟨rfl, .inl rfl⟩⟩⟩⟩
    refine VO.cons rfl (V1.nilRef rfl rfl rfl lt0 ?_)
    refine VO.cons rfl (V1.fieldRef rfl rfl fo_44_2 rfl lt0 ?_)
    refine VO.cons rfl (V1.storeRef (k := 0) rfl rfl tyk_4 rfl rfl rfl rfl rfl rfl rfl rfl rfl ?_)
    refine VO.nil ?_
    refine V.keep 139 [2, 3, 5] [0, 1] (E0 := [(2, .ref b0 3 0 0), (3, .int .u8 ((p.S.getD (Int.toNat p.At) 0).toNat : Int)), (5, .int .i64 y1.1)]) (H0 := [(bp, ⟨5, [.agg [.str p0.S, .int .i64 p0.At, .bool (p0.Bad || (!ok_)), .int .i64 p0.Open, .int .i64 p0.Most]]⟩), (b0, ⟨3, [.agg [.int .u8 (0 : Int), .int .i64 (0 : Int), .nils]]⟩)]) rfl (⟨_, _, rfl, rfl, _, _, rfl, rfl, _, _, rfl, rfl, rfl⟩) (⟨_, _, rfl, rfl, _, _, rfl, rfl, rfl⟩) rfl ?_
    refine V.seq ?_
    refine V.region ?_
    refine VO.cons rfl (V1.move rfl rfl rfl lt0 ?_)
    refine VO.cons rfl (V1.move rfl rfl rfl lt0 ?_)
    refine VO.cons rfl (V1.build rfl rfl zk_29 pl_29 rfl rfl lt0 ?_)
    refine VO.cons rfl (V1.storeRefAll (k := 1) rfl rfl tyk_29 rfl rfl rfl rfl rfl rfl ?_)
    refine VO.nil ?_
    refine V.weakenK (Keeps.leObj 1 [.agg [.int .u8 ((p.S.getD (Int.toNat p.At) 0).toNat : Int), .int .i64 y1.1, .vl rn 3 (List.map (encQE rn) ([] : List QE))]] rfl (.cons (.agg (.cons .same (.cons .same (.cons (.nils (l := ([] : List QE)) (f := (encQE rn)) rn 3 rfl rfl) .nil)))) .nil)) ?_
    refine V.ret ?_
    obtain rfl := Option.some.inj hm0
    exact ⟨_, _, ⟨_, _, rfl, ⟨_, _, 1, _, rfl, rfl, rfl, rfl, tyk_29, rfl⟩, rfl⟩, (sub1 (k := 0) rfl), rfl, rfl⟩

theorem ok_impl_parser_joined {rn bp : Nat} {p : Parser} {sign : Int} {f2 : Nat} {r : Query × Parser} {fm : Parser → Option (Query × Parser)} (h : M.impl_parser_joined p sign fm = some r) (hok2 : callOK Tryd.prog f2 = true) (hf2 : ∀ {p : Parser} {r : Query × Parser}, fm p = some r → Does Tryd.prog f2 [.ref bp 5 0 0] [(bp, ⟨5, [encParser p]⟩)] rn (fun x H => x = encQuery rn r.1 ∧ H = [(bp, ⟨5, [encParser r.2]⟩)])) : Does Tryd.prog 27 [.ref bp 5 0 0, .int .u8 sign, bound f2 bp 5 0 0] [(bp, ⟨5, [encParser p]⟩)] rn (fun x H => x = encQuery rn r.1 ∧ H = [(bp, ⟨5, [encParser r.2]⟩)]) := by
 have hm0 := h; clear h; unfold M.impl_parser_joined at hm0
 try dsimp only at hm0
 refine Does.intro (N := 31) Tryd.func27 rfl rfl rfl rfl ?_
 intro w0 S0 L0
 refine V.seq ?_
 refine V.region ?_
 refine VO.cons rfl (V1.alloc rfl rfl zk_29 lt0 ?_)
 intro b0
 refine VO.nil ?_
 refine V.seq ?_
 replace hm0 := bindO hm0; rcases hm0 with ⟨y0, hh0, hm0⟩
 refine V.region ?_
 refine VO.cons rfl (V1.move rfl rfl rfl lt0 ?_)
 refine VO.cons rfl (V1.move rfl rfl rfl lt0 ?_)
 refine VO.cons rfl (V1.callG (τ := 0) (Bw := []) (Hc := [(bp, ⟨5, [encParser p]⟩)]) rfl lt0 (run_callBound rfl rfl rfl hok2 rfl) (perm_erase (k := 1) rfl) (Lends.same _) (fun _ h => by cases h) (hf2 hh0) (.inl rfl) (.inl rfl) ?_)
 rintro _ _ ⟨rfl, rfl⟩
 refine VO.cons rfl (V1.buildSliceT (f := (encQE rn)) ([qe y0.1] : List QE) rfl rfl esz_27 zk_29 rfl rfl rfl rfl rfl (congrArg (fun z_ => [z_]) (encQE_qe rn _).symm) rfl lt0 ?_)
 intro b1
 refine VO.cons rfl (V1.build rfl rfl zk_29 pl_29 rfl rfl lt0 ?_)
 refine VO.cons rfl (V1.alloc rfl rfl zk_29 lt0 ?_)
 intro b2
 refine VO.cons rfl (V1.storeRefAll (k := 0) rfl rfl tyk_29 rfl rfl rfl rfl rfl rfl ?_)
 refine VO.nil ?_
 refine V.keep 31 [0, 1, 2, 6, 7] [0, 1, 2, 3] (E0 := [(0, .ref bp 5 0 0), (1, .int .u8 sign), (2, bound f2 bp 5 0 0), (6, .ref b0 3 0 0), (7, .ref b2 3 0 0)]) (H0 := [(b2, ⟨3, [.agg [.int .u8 sign, .int .i64 (0 : Int), .sref b1 3 0 (List.length ([qe y0.1] : List QE))]]⟩), (b1, ⟨3, List.map (encQE rn) ([qe y0.1] : List QE)⟩), (bp, ⟨5, [encParser y0.2]⟩), (b0, ⟨3, [.agg [.int .u8 (0 : Int), .int .i64 (0 : Int), .nils]]⟩)]) rfl (⟨_, _, rfl, rfl, _, _, rfl, rfl, _, _, rfl, rfl, _, _, rfl, rfl, _, _, rfl, rfl, rfl⟩) (⟨_, _, rfl, rfl, _, _, rfl, rfl, _, _, rfl, rfl, _, _, rfl, rfl, rfl⟩) rfl ?_
 refine V.seq ?_
 replace hm0 := bindO hm0; rcases hm0 with ⟨e0, he1, hm0⟩
 refine V.cutT (D := (List QE × Parser) × (Nat)) (fun ⟨⟨q_Parts, p0⟩, b3⟩ => ⟨31, [(6, .ref b0 3 0 0), (7, .ref b2 3 0 0)], [(b3, ⟨3, List.map (encQE rn) q_Parts⟩), (bp, ⟨5, [encParser p0]⟩), (b2, ⟨3, [.agg [.int .u8 sign, .int .i64 (0 : Int), .sref b3 3 0 (List.length q_Parts)]]⟩), (b0, ⟨3, [.agg [.int .u8 (0 : Int), .int .i64 (0 : Int), .nils]]⟩)]⟩) (fun ⟨⟨q_Parts, p0⟩, b3⟩ => ((q_Parts, p0) = e0)) ?_ ?_
 ·
  refine V.block ?_
  refine V.keep 31 [0, 1, 2, 6, 7] [1, 2, 0, 3] (E0 := [(0, .ref bp 5 0 0), (1, .int .u8 sign), (2, bound f2 bp 5 0 0), (6, .ref b0 3 0 0), (7, .ref b2 3 0 0)]) (H0 := [(b1, ⟨3, List.map (encQE rn) ([qe y0.1] : List QE)⟩), (bp, ⟨5, [encParser y0.2]⟩), (b2, ⟨3, [.agg [.int .u8 sign, .int .i64 (0 : Int), .sref b1 3 0 (List.length ([qe y0.1] : List QE))]]⟩), (b0, ⟨3, [.agg [.int .u8 (0 : Int), .int .i64 (0 : Int), .nils]]⟩)]) rfl (⟨_, _, rfl, rfl, _, _, rfl, rfl, _, _, rfl, rfl, _, _, rfl, rfl, _, _, rfl, rfl, rfl⟩) (⟨_, _, rfl, rfl, _, _, rfl, rfl, _, _, rfl, rfl, _, _, rfl, rfl, rfl⟩) rfl ?_
  refine V.loopE (D := Nat × (List QE × Parser) × (Nat)) (fun ⟨n0, ⟨q_Parts0, p1⟩, b4⟩ => []) (fun ⟨n0, ⟨q_Parts0, p1⟩, b4⟩ => [(b4, ⟨3, List.map (encQE rn) q_Parts0⟩), (bp, ⟨5, [encParser p1]⟩), (b2, ⟨3, [.agg [.int .u8 sign, .int .i64 (0 : Int), .sref b4 3 0 (List.length q_Parts0)]]⟩)]) (fun ⟨n0, ⟨q_Parts0, p1⟩, b4⟩ => loopO (M.impl_parser_joined_l0 sign fm) n0 (q_Parts0, p1) = some e0) (fun ⟨n0, _, _⟩ => n0) (rounds, (([qe y0.1] : List QE), y0.2), b1) rfl he1 ?_
  rintro ⟨n0, ⟨q_Parts0, p1⟩, b4⟩ hP0
  obtain ⟨m0, y1, rfl, hm1, hl1, hr1⟩ := loop_head hP0
  unfold M.impl_parser_joined_l0 at hm1; dsimp only at hm1
  show V _ _ _ ⟨31, [(0, .ref bp 5 0 0), (1, .int .u8 sign), (2, bound f2 bp 5 0 0), (6, .ref b0 3 0 0), (7, .ref b2 3 0 0)], [(b4, ⟨3, List.map (encQE rn) q_Parts0⟩), (bp, ⟨5, [encParser p1]⟩), (b2, ⟨3, [.agg [.int .u8 sign, .int .i64 (0 : Int), .sref b4 3 0 (List.length q_Parts0)]]⟩), (b0, ⟨3, [.agg [.int .u8 (0 : Int), .int .i64 (0 : Int), .nils]]⟩)]⟩
  refine V.seq ?_
  refine V.seq ?_
  replace hm1 := bindO hm1; rcases hm1 with ⟨y2, hh1, hm1⟩
  refine V.region ?_
  refine VO.cons rfl (V1.move rfl rfl rfl lt0 ?_)
  refine VO.cons rfl (V1.nilRef rfl rfl rfl lt0 ?_)
  refine VO.cons rfl (V1.fieldRef rfl rfl fo_44_2 rfl lt0 ?_)
  refine VO.cons rfl (V1.loadRef (k := 1) rfl rfl tyk_4 rfl rfl rfl rfl rfl lt0 ?_)
  refine VO.cons rfl (V1.not rfl rfl rfl lt0 ?_)
  refine VO.cons rfl (V1.move rfl rfl rfl lt0 ?_)
  apply VO.andH (n := 3) [(b4, ⟨3, List.map (encQE rn) q_Parts0⟩), (bp, ⟨5, [encParser (bif (!p1.Bad) then y2.2 else p1)]⟩), (b2, ⟨3, [.agg [.int .u8 sign, .int .i64 (0 : Int), .sref b4 3 0 (List.length q_Parts0)]]⟩), (b0, ⟨3, [.agg [.int .u8 (0 : Int), .int .i64 (0 : Int), .nils]]⟩)] rfl rfl rfl rfl rfl rfl lt0 (.none rfl) (fun h => by rw [h]; rfl)
  ·
   intro hg0
   refine VO.step (.some rfl rfl rfl) (V1.move rfl rfl rfl lt0 ?_)
   refine VO.step (.some rfl rfl rfl) (V1.move rfl rfl rfl lt0 ?_)
   refine VO.step (.some rfl rfl rfl) (V1.callM 1 (rn + 1) [] [.ref bp 5 0 0, .int .u8 sign] (p := (bp, ⟨5, [encParser p1]⟩)) rfl rfl rfl cok_30 rfl rfl ⟨_, _, rfl, .same _, ⟨_, _, rfl, .same _, rfl⟩⟩ bwNil (ok_impl_parser_sees (cond_t hg0 hh1)) rfl (.inl rfl) lt0 ?_)
   rintro _ _ ⟨rfl, rfl⟩
   refine VO.weakenK (Keeps.setAt (H := [(b4, ⟨3, List.map (encQE rn) q_Parts0⟩), (bp, ⟨5, [encParser p1]⟩), (b2, ⟨3, [.agg [.int .u8 sign, .int .i64 (0 : Int), .sref b4 3 0 (List.length q_Parts0)]]⟩), (b0, ⟨3, [.agg [.int .u8 (0 : Int), .int .i64 (0 : Int), .nils]]⟩)]) 1 lt0) ?_
   exact VO.nil ⟨rfl, rfl, rfl, (by rw [hg0]; rfl), .inr ⟨rfl, .inr ⟨rfl, .inr ⟨rfl, .inr ⟨rfl, .inl rfl⟩⟩⟩⟩⟩
  refine VO.nil ?_
  refine V.keep 31 [0, 1, 2, 6, 7, 22] [0, 1, 2, 3] (E0 := [(0, .ref bp 5 0 0), (1, .int .u8 sign), (2, bound f2 bp 5 0 0), (6, .ref b0 3 0 0), (7, .ref b2 3 0 0), (22, .bool ((!p1.Bad) && y2.1))]) (H0 := [(b4, ⟨3, List.map (encQE rn) q_Parts0⟩), (bp, ⟨5, [encParser (bif (!p1.Bad) then y2.2 else p1)]⟩), (b2, ⟨3, [.agg [.int .u8 sign, .int .i64 (0 : Int), .sref b4 3 0 (List.length q_Parts0)]]⟩), (b0, ⟨3, [.agg [.int .u8 (0 : Int), .int .i64 (0 : Int), .nils]]⟩)]) rfl (⟨_, _, rfl, rfl, _, _, rfl, rfl, _, _, rfl, rfl, _, _, rfl, rfl, _, _, rfl, rfl, _, _, rfl, rfl, rfl⟩) (⟨_, _, rfl, rfl, _, _, rfl, rfl, _, _, rfl, rfl, _, _, rfl, rfl, rfl⟩) rfl ?_
  refine V.cond rfl (fun hc0 => ?_) (fun hc0 => ?_)
  ·
   replace hm1 := cond_t hc0 hm1
   refine V.skip ?_
   refine V.block ?_
   replace hm1 := bindO hm1; rcases hm1 with ⟨y3, hh2, hm1⟩
   replace hm1 := asrt_some hm1; rcases hm1 with ⟨hh3, hm1⟩
   replace hm1 := bindO hm1; rcases hm1 with ⟨j0, hm2, hm1⟩
   refine V.cutT (D := (List QE × Parser) × (Nat)) (fun ⟨⟨q_Parts1, p2⟩, b7⟩ => ⟨31, [(0, .ref bp 5 0 0), (1, .int .u8 sign), (2, bound f2 bp 5 0 0), (6, .ref b0 3 0 0), (7, .ref b2 3 0 0)], [(b7, ⟨3, List.map (encQE rn) q_Parts1⟩), (bp, ⟨5, [encParser p2]⟩), (b2, ⟨3, [.agg [.int .u8 sign, .int .i64 (0 : Int), .sref b7 3 0 (List.length q_Parts1)]]⟩), (b0, ⟨3, [.agg [.int .u8 (0 : Int), .int .i64 (0 : Int), .nils]]⟩)]⟩) (fun ⟨⟨q_Parts1, p2⟩, b7⟩ => ((q_Parts1, p2) = j0)) ?_ ?_
   ·
    refine V.regionS [] 31 5 [⟨[(7, none)], false⟩, ⟨[(23, some 0)], true⟩, ⟨[(2, none)], false⟩, ⟨[(25, some 2)], true⟩, ⟨[(26, some 3)], true⟩] [(0, none), (1, none), (2, none), (6, none), (7, none), (24, some 1), (27, some 4)] 3 (⟨_, rfl, ⟨_, rfl, ⟨_, rfl, ⟨_, rfl, ⟨_, rfl, ⟨rfl, rfl⟩⟩⟩⟩⟩⟩) mixed_orders rfl (by decide +kernel) ?_
    refine WalkP.step (p := ?pv59) 0 rfl rfl rfl rfl rfl (⟨_, _, rfl, rfl, rfl⟩) ?hv59 ?rest59
    case hv59 =>
     intro E1 H1 hI1
     refine (V1.fieldRef rfl rfl fo_29_2 rfl lt0 ?_)
     exact rfl
    refine WalkP.step (p := ?pv60) 2 rfl rfl rfl rfl rfl (⟨_, _, rfl, rfl, rfl⟩) ?hv60 ?rest60
    case hv60 =>
     intro E1 H1 hI1
     refine (V1.move rfl rfl rfl lt0 ?_)
     exact rfl
    refine WalkP.nil ?_
    refine NodeS.branch [1, 3] inNil rfl rfl rfl ⟨?_, ?_, trivial⟩
    ·
     refine ⟨_, _, _, _, rfl, rfl, rfl, (⟨_, _, rfl, rfl, rfl⟩), fun E1 => ?_⟩
     refine (V1.loadRef (k := 2) rfl rfl tyk_27 rfl rfl rfl rfl rfl lt0 ?_)
     refine ⟨_, _, rfl, ?_⟩
     refine WalkP.nil ?_
     refine NodeS.branch [3] inNil rfl rfl rfl ⟨?_, trivial⟩
     ·
      refine ⟨_, _, _, _, rfl, rfl, rfl, (⟨_, _, rfl, rfl, rfl⟩), fun E1 => ?_⟩
      refine (V1.callG (τ := 0) (Bw := []) (Hc := [(bp, ⟨5, [encParser (bif (!p1.Bad) then y2.2 else p1)]⟩)]) rfl lt0 (run_callBound rfl rfl rfl hok2 rfl) (perm_erase (k := 1) rfl) (Lends.same _) (fun _ h => by cases h) (hf2 hh2) (.inl rfl) (.inl rfl) ?_)
      rintro _ _ ⟨rfl, rfl⟩
      refine ⟨_, _, rfl, ?_⟩
      refine WalkP.nil ?_
      refine NodeS.branch [4] inNil rfl rfl rfl ⟨?_, trivial⟩
      ·
       refine ⟨_, _, _, _, rfl, rfl, rfl, (⟨_, _, rfl, rfl, rfl⟩), fun E1 => ?_⟩
       refine (V1.buildSliceT (f := (encQE rn)) ([qe y3.1] : List QE) rfl rfl esz_27 zk_29 rfl rfl rfl rfl rfl (congrArg (fun z_ => [z_]) (encQE_qe rn _).symm) rfl lt0 ?_)
       intro b8
       refine ⟨_, _, rfl, ?_⟩
       refine WalkP.nil ?_
       refine NodeS.fin inNil rfl rfl rfl (⟨_, _, rfl, rfl, _, _, rfl, rfl, _, _, rfl, rfl, _, _, rfl, rfl, _, _, rfl, rfl, _, _, rfl, rfl, _, _, rfl, rfl, rfl⟩) ?_
       refine VO.cons rfl (V1.appendMap (k := 2) (f := (encQE rn)) (l := q_Parts0) (m := ([qe y3.1] : List QE)) rfl rfl rfl rfl rfl esz_27 eby_27 zk_29 rfl rfl rfl (SrcOf.srMap (k := 0) rfl isl_27) hh3 lt0 ?_)
       intro b9
       refine VO.cons rfl (V1.fieldRef rfl rfl fo_29_2 rfl lt0 ?_)
       refine VO.cons rfl (V1.storeRef (k := 3) rfl rfl tyk_27 rfl rfl rfl rfl rfl rfl rfl rfl rfl ?_)
       refine VO.nil ?_
       exact ⟨(((q_Parts0 ++ ([qe y3.1] : List QE)), y3.2), b9), Option.some.inj hm2, Keeps.mk (ks := [0, 2, 3, 4]) rfl ⟨rfl, rfl, rfl, rfl, rfl, trivial⟩ (⟨_, _, rfl, rfl, _, _, rfl, rfl, _, _, rfl, rfl, _, _, rfl, rfl, rfl⟩) rfl⟩
    ·
     refine ⟨_, _, _, _, rfl, rfl, rfl, (⟨_, _, rfl, rfl, rfl⟩), fun E1 => ?_⟩
     refine (V1.callG (τ := 0) (Bw := []) (Hc := [(bp, ⟨5, [encParser (bif (!p1.Bad) then y2.2 else p1)]⟩)]) rfl lt0 (run_callBound rfl rfl rfl hok2 rfl) (perm_erase (k := 1) rfl) (Lends.same _) (fun _ h => by cases h) (hf2 hh2) (.inl rfl) (.inl rfl) ?_)
     rintro _ _ ⟨rfl, rfl⟩
     refine ⟨_, _, rfl, ?_⟩
     refine WalkP.nil ?_
     refine NodeS.branch [1, 4] inNil rfl rfl rfl ⟨?_, ?_, trivial⟩
     ·
      refine ⟨_, _, _, _, rfl, rfl, rfl, (⟨_, _, rfl, rfl, rfl⟩), fun E1 => ?_⟩
      refine (V1.loadRef (k := 2) rfl rfl tyk_27 rfl rfl rfl rfl rfl lt0 ?_)
      refine ⟨_, _, rfl, ?_⟩
      refine WalkP.nil ?_
      refine NodeS.branch [4] inNil rfl rfl rfl ⟨?_, trivial⟩
      ·
       refine ⟨_, _, _, _, rfl, rfl, rfl, (⟨_, _, rfl, rfl, rfl⟩), fun E1 => ?_⟩
       refine (V1.buildSliceT (f := (encQE rn)) ([qe y3.1] : List QE) rfl rfl esz_27 zk_29 rfl rfl rfl rfl rfl (congrArg (fun z_ => [z_]) (encQE_qe rn _).symm) rfl lt0 ?_)
       intro b10
       refine ⟨_, _, rfl, ?_⟩
       refine WalkP.nil ?_
       refine NodeS.fin inNil rfl rfl rfl (⟨_, _, rfl, rfl, _, _, rfl, rfl, _, _, rfl, rfl, _, _, rfl, rfl, _, _, rfl, rfl, _, _, rfl, rfl, _, _, rfl, rfl, rfl⟩) ?_
       refine VO.cons rfl (V1.appendMap (k := 2) (f := (encQE rn)) (l := q_Parts0) (m := ([qe y3.1] : List QE)) rfl rfl rfl rfl rfl esz_27 eby_27 zk_29 rfl rfl rfl (SrcOf.srMap (k := 0) rfl isl_27) hh3 lt0 ?_)
       intro b11
       refine VO.cons rfl (V1.fieldRef rfl rfl fo_29_2 rfl lt0 ?_)
       refine VO.cons rfl (V1.storeRef (k := 3) rfl rfl tyk_27 rfl rfl rfl rfl rfl rfl rfl rfl rfl ?_)
       refine VO.nil ?_
       exact ⟨(((q_Parts0 ++ ([qe y3.1] : List QE)), y3.2), b11), Option.some.inj hm2, Keeps.mk (ks := [0, 2, 3, 4]) rfl ⟨rfl, rfl, rfl, rfl, rfl, trivial⟩ (⟨_, _, rfl, rfl, _, _, rfl, rfl, _, _, rfl, rfl, _, _, rfl, rfl, rfl⟩) rfl⟩
     ·
      refine ⟨_, _, _, _, rfl, rfl, rfl, (⟨_, _, rfl, rfl, rfl⟩), fun E1 => ?_⟩
      refine (V1.buildSliceT (f := (encQE rn)) ([qe y3.1] : List QE) rfl rfl esz_27 zk_29 rfl rfl rfl rfl rfl (congrArg (fun z_ => [z_]) (encQE_qe rn _).symm) rfl lt0 ?_)
      intro b12
      refine ⟨_, _, rfl, ?_⟩
      refine WalkP.nil ?_
      refine NodeS.branch [1] inNil rfl rfl rfl ⟨?_, trivial⟩
      ·
       refine ⟨_, _, _, _, rfl, rfl, rfl, (⟨_, _, rfl, rfl, rfl⟩), fun E1 => ?_⟩
       refine (V1.loadRef (k := 3) rfl rfl tyk_27 rfl rfl rfl rfl rfl lt0 ?_)
       refine ⟨_, _, rfl, ?_⟩
       refine WalkP.nil ?_
       refine NodeS.fin inNil rfl rfl rfl (⟨_, _, rfl, rfl, _, _, rfl, rfl, _, _, rfl, rfl, _, _, rfl, rfl, _, _, rfl, rfl, _, _, rfl, rfl, _, _, rfl, rfl, rfl⟩) ?_
       refine VO.cons rfl (V1.appendMap (k := 2) (f := (encQE rn)) (l := q_Parts0) (m := ([qe y3.1] : List QE)) rfl rfl rfl rfl rfl esz_27 eby_27 zk_29 rfl rfl rfl (SrcOf.srMap (k := 0) rfl isl_27) hh3 lt0 ?_)
       intro b13
       refine VO.cons rfl (V1.fieldRef rfl rfl fo_29_2 rfl lt0 ?_)
       refine VO.cons rfl (V1.storeRef (k := 3) rfl rfl tyk_27 rfl rfl rfl rfl rfl rfl rfl rfl rfl ?_)
       refine VO.nil ?_
       exact ⟨(((q_Parts0 ++ ([qe y3.1] : List QE)), y3.2), b13), Option.some.inj hm2, Keeps.mk (ks := [0, 2, 3, 4]) rfl ⟨rfl, rfl, rfl, rfl, rfl, trivial⟩ (⟨_, _, rfl, rfl, _, _, rfl, rfl, _, _, rfl, rfl, _, _, rfl, rfl, rfl⟩) rfl⟩
   ·
    rintro ⟨⟨q_Parts1, p2⟩, b7⟩ rfl
    try dsimp only at hm1
    exact ⟨(m0, (q_Parts1, p2), b7), hl1 _ (Option.some.inj hm1).symm, Nat.lt_succ_self _, Keeps.mk (ks := [0, 1, 2, 3]) rfl ⟨rfl, rfl, rfl, rfl, rfl, trivial⟩ (⟨_, _, rfl, rfl, _, _, rfl, rfl, _, _, rfl, rfl, _, _, rfl, rfl, rfl⟩) rfl⟩
  ·
   replace hm1 := cond_f hc0 hm1
   refine V.exit ?_
   obtain rfl := hr1 _ (Option.some.inj hm1).symm
   exact ⟨((q_Parts0, (bif (!p1.Bad) then y2.2 else p1)), b4), rfl, Keeps.mk (ks := [0, 1, 2, 3]) rfl ⟨rfl, rfl, trivial⟩ (⟨_, _, rfl, rfl, _, _, rfl, rfl, _, _, rfl, rfl, _, _, rfl, rfl, rfl⟩) rfl⟩
 ·
  rintro ⟨⟨q_Parts, p0⟩, b3⟩ rfl
  try dsimp only at hm0
  refine V.seq ?_
  refine V.region ?_
  refine VO.cons rfl (V1.loadRefAll (k := 2) rfl rfl tyk_29 rfl rfl rfl rfl rfl lt0 ?_)
  refine VO.cons rfl (V1.storeRefAll (k := 3) rfl rfl tyk_29 rfl rfl rfl rfl rfl rfl ?_)
  refine VO.nil ?_
  refine V.weakenK (Keeps.freezeG 0 rn [(30, .agg [.int .u8 sign, .int .i64 (0 : Int), .vl rn 3 (List.map (encQE rn) q_Parts)])] ([(bp, ⟨5, [encParser p0]⟩), (b2, ⟨3, [.agg [.int .u8 sign, .int .i64 (0 : Int), .vl rn 3 (List.map (encQE rn) q_Parts)]]⟩), (b0, ⟨3, [.agg [.int .u8 sign, .int .i64 (0 : Int), .vl rn 3 (List.map (encQE rn) q_Parts)]]⟩)]) (f := (encQE rn)) (l := q_Parts) rfl (fun z_ => by cases z_; rfl) ⟨⟨_, rfl, (.agg (.cons .same (.cons .same (.cons .here .nil))))⟩, trivial⟩ ⟨_, _, rfl, rfl, .inl rfl, ⟨_, _, rfl, rfl, .inr (.cons (.agg (.cons .same (.cons .same (.cons .here .nil)))) .nil), ⟨_, _, rfl, rfl, .inr (.cons (.agg (.cons .same (.cons .same (.cons .here .nil)))) .nil), rfl⟩⟩⟩ rfl (iOne (b := bp) 0 rfl)) ?_
  refine V.ret ?_
  obtain rfl := Option.some.inj hm0
  exact ⟨_, _, ⟨_, _, rfl, ⟨_, _, 2, _, rfl, rfl, rfl, rfl, tyk_29, rfl⟩, rfl⟩, (sub1 (k := 0) rfl), rfl, rfl⟩

theorem ok_impl_parser_term_p {rec_ : Parser → Option (Query × Parser)} (hrec_ : ∀ {rn bp : Nat} {p : Parser} {r : Query × Parser} , rec_ p = some r → Does Tryd.prog 31 [.ref bp 5 0 0] [(bp, ⟨5, [encParser p]⟩)] rn (fun x H => x = encQuery rn r.1 ∧ H = [(bp, ⟨5, [encParser r.2]⟩)])) {rn bp : Nat} {p : Parser} {r : Query × Parser} (h : M.impl_parser_term_p rec_ p = some r) : Does Tryd.prog 28 [.ref bp 5 0 0] [(bp, ⟨5, [encParser p]⟩)] rn (fun x H => x = encQuery rn r.1 ∧ H = [(bp, ⟨5, [encParser r.2]⟩)]) := by
 have hm0 := h; clear h; unfold M.impl_parser_term_p at hm0
 try dsimp only at hm0
 refine Does.intro (N := 7) Tryd.func28 rfl rfl rfl rfl ?_
 intro w0 S0 L0
 refine V.seq ?_
 refine V.region ?_
 refine VO.cons rfl (V1.alloc rfl rfl zk_29 lt0 ?_)
 intro b0
 refine VO.nil ?_
 refine V.seq ?_
 replace hm0 := bindO hm0; rcases hm0 with ⟨y0, hh0, hm0⟩
 refine V.region ?_
 refine VO.cons rfl (V1.move rfl rfl rfl lt0 ?_)
 refine VO.cons rfl (V1.move rfl rfl rfl lt0 ?_)
 refine VO.cons rfl (V1.makeBound rfl rfl rfl lt0 ?_)
 refine VO.cons rfl (V1.callM 1 (rn + 1) [] [.ref bp 5 0 0, .int .u8 (38 : Int), bound 31 bp 5 0 0] (p := (bp, ⟨5, [encParser p]⟩)) rfl rfl rfl cok_27 rfl rfl ⟨_, _, rfl, .same _, ⟨_, _, rfl, .same _, ⟨_, _, rfl, .same _, rfl⟩⟩⟩ bwNil (ok_impl_parser_joined hh0 (fm := (fun x0 => rec_ x0)) cok_31 (fun h => hrec_ h)) rfl (.inl rfl) lt0 ?_)
 rintro _ _ ⟨rfl, rfl⟩
 refine VO.cons rfl (V1.storeRefAll (k := 1) rfl rfl tyk_29 rfl rfl rfl rfl rfl rfl ?_)
 refine VO.nil ?_
 refine V.ret ?_
 obtain rfl := Option.some.inj hm0
 exact ⟨_, _, ⟨_, _, rfl, ⟨_, _, 1, _, rfl, rfl, rfl, rfl, tyk_29, rfl⟩, rfl⟩, (sub1 (k := 0) rfl), rfl, rfl⟩

theorem ok_impl_parser_query_p {rec_ : Parser → Option (Query × Parser)} (hrec_ : ∀ {rn bp : Nat} {p : Parser} {r : Query × Parser} , rec_ p = some r → Does Tryd.prog 31 [.ref bp 5 0 0] [(bp, ⟨5, [encParser p]⟩)] rn (fun x H => x = encQuery rn r.1 ∧ H = [(bp, ⟨5, [encParser r.2]⟩)])) {rn bp : Nat} {p : Parser} {r : Query × Parser} (h : M.impl_parser_query_p rec_ p = some r) : Does Tryd.prog 25 [.ref bp 5 0 0] [(bp, ⟨5, [encParser p]⟩)] rn (fun x H => x = encQuery rn r.1 ∧ H = [(bp, ⟨5, [encParser r.2]⟩)]) := by
 have hm0 := h; clear h; unfold M.impl_parser_query_p at hm0
 try dsimp only at hm0
 refine Does.intro (N := 7) Tryd.func25 rfl rfl rfl rfl ?_
 intro w0 S0 L0
 refine V.seq ?_
 refine V.region ?_
 refine VO.cons rfl (V1.alloc rfl rfl zk_29 lt0 ?_)
 intro b0
 refine VO.nil ?_
 refine V.seq ?_
 replace hm0 := bindO hm0; rcases hm0 with ⟨y0, hh0, hm0⟩
 refine V.region ?_
 refine VO.cons rfl (V1.move rfl rfl rfl lt0 ?_)
 refine VO.cons rfl (V1.move rfl rfl rfl lt0 ?_)
 refine VO.cons rfl (V1.makeBound rfl rfl rfl lt0 ?_)
 refine VO.cons rfl (V1.callM 1 (rn + 1) [] [.ref bp 5 0 0, .int .u8 (124 : Int), bound 28 bp 5 0 0] (p := (bp, ⟨5, [encParser p]⟩)) rfl rfl rfl cok_27 rfl rfl ⟨_, _, rfl, .same _, ⟨_, _, rfl, .same _, ⟨_, _, rfl, .same _, rfl⟩⟩⟩ bwNil (ok_impl_parser_joined hh0 (fm := (fun x0 => M.impl_parser_term_p rec_ x0)) cok_28 (fun h => ok_impl_parser_term_p hrec_ h)) rfl (.inl rfl) lt0 ?_)
 rintro _ _ ⟨rfl, rfl⟩
 refine VO.cons rfl (V1.storeRefAll (k := 1) rfl rfl tyk_29 rfl rfl rfl rfl rfl rfl ?_)
 refine VO.nil ?_
 refine V.ret ?_
 obtain rfl := Option.some.inj hm0
 exact ⟨_, _, ⟨_, _, rfl, ⟨_, _, 1, _, rfl, rfl, rfl, rfl, tyk_29, rfl⟩, rfl⟩, (sub1 (k := 0) rfl), rfl, rfl⟩

theorem ok_impl_parser_factor_s {rn bp : Nat} {p : Parser} {r : Query × Parser} {rec_ : Parser → Option (Query × Parser)} (hrec_ : ∀ {rn bp : Nat} {p : Parser} {r : Query × Parser} , rec_ p = some r → Does Tryd.prog 31 [.ref bp 5 0 0] [(bp, ⟨5, [encParser p]⟩)] rn (fun x H => x = encQuery rn r.1 ∧ H = [(bp, ⟨5, [encParser r.2]⟩)])) (h : M.impl_parser_factor_s rec_ p = some r) : Does Tryd.prog 31 [.ref bp 5 0 0] [(bp, ⟨5, [encParser p]⟩)] rn (fun x H => x = encQuery rn r.1 ∧ H = [(bp, ⟨5, [encParser r.2]⟩)]) := by
 have hm0 := h; clear h; unfold M.impl_parser_factor_s at hm0
 try dsimp only at hm0
 refine Does.intro (N := 63) Tryd.func31 rfl rfl rfl rfl ?_
 intro w0 S0 L0
 refine V.seq ?_
 refine V.region ?_
 refine VO.cons rfl (V1.alloc rfl rfl zk_29 lt0 ?_)
 intro b0
 refine VO.nil ?_
 refine V.seq ?_
 refine V.block ?_
 refine V.seq ?_
 refine V.region ?_
 refine VO.cons rfl (V1.move rfl rfl rfl lt0 ?_)
 refine VO.cons rfl (V1.nilRef rfl rfl rfl lt0 ?_)
 refine VO.cons rfl (V1.fieldRef rfl rfl fo_44_2 rfl lt0 ?_)
 refine VO.cons rfl (V1.loadRef (k := 1) rfl rfl tyk_4 rfl rfl rfl rfl rfl lt0 ?_)
 refine VO.cons rfl (V1.assign rfl rfl rfl lt0 ?_)
 refine VO.nil ?_
 refine V.keep 63 [0, 2, 4] [0, 1] (E0 := [(0, .ref bp 5 0 0), (2, .ref b0 3 0 0), (4, .bool p.Bad)]) (H0 := [(b0, ⟨3, [.agg [.int .u8 (0 : Int), .int .i64 (0 : Int), .nils]]⟩), (bp, ⟨5, [encParser p]⟩)]) rfl (⟨_, _, rfl, rfl, _, _, rfl, rfl, _, _, rfl, rfl, rfl⟩) (⟨_, _, rfl, rfl, _, _, rfl, rfl, rfl⟩) rfl ?_
 refine V.cond rfl (fun hc0 => ?_) (fun hc0 => ?_)
 ·
  replace hm0 := cond_t hc0 hm0
  refine V.seq ?_
  refine V.region ?_
  refine VO.cons rfl (V1.build rfl rfl zk_29 pl_29 rfl rfl lt0 ?_)
  refine VO.cons rfl (V1.storeRefAll (k := 0) rfl rfl tyk_29 rfl rfl rfl rfl rfl rfl ?_)
  refine VO.nil ?_
  refine V.weakenK (Keeps.leObj 0 [.agg [.int .u8 (0 : Int), .int .i64 (0 : Int), .vl rn 3 (List.map (encQE rn) ([] : List QE))]] rfl (.cons (.agg (.cons .same (.cons .same (.cons (.nils (l := ([] : List QE)) (f := (encQE rn)) rn 3 rfl rfl) .nil)))) .nil)) ?_
  refine V.ret ?_
  obtain rfl := Option.some.inj hm0
  exact ⟨_, _, ⟨_, _, rfl, ⟨_, _, 0, _, rfl, rfl, rfl, rfl, tyk_29, rfl⟩, rfl⟩, (sub1 (k := 1) rfl), rfl, rfl⟩
 ·
  replace hm0 := cond_f hc0 hm0
  refine V.seq ?_
  replace hm0 := bindO hm0; rcases hm0 with ⟨y0, hh0, hm0⟩
  refine V.region ?_
  refine VO.cons rfl (V1.move rfl rfl rfl lt0 ?_)
  refine VO.cons rfl (V1.callM 1 (rn + 1) [] [.ref bp 5 0 0, .int .u8 (33 : Int)] (p := (bp, ⟨5, [encParser p]⟩)) rfl rfl rfl cok_30 rfl rfl ⟨_, _, rfl, .same _, ⟨_, _, rfl, .same _, rfl⟩⟩ bwNil (ok_impl_parser_sees hh0) rfl (.inl rfl) lt0 ?_)
  rintro _ _ ⟨rfl, rfl⟩
  refine VO.cons rfl (V1.assign rfl rfl rfl lt0 ?_)
  refine VO.nil ?_
  refine V.cond rfl (fun hc1 => ?_) (fun hc1 => ?_)
  ·
   replace hm0 := cond_t hc1 hm0
   refine V.seq ?_
   replace hm0 := bindO hm0; rcases hm0 with ⟨y1, hh1, hm0⟩
   refine V.region ?_
   refine VO.cons rfl (V1.move rfl rfl rfl lt0 ?_)
   refine VO.cons rfl (V1.callM 0 (rn + 1) [] [.ref bp 5 0 0] (p := (bp, ⟨5, [encParser y0.2]⟩)) rfl rfl rfl cok_31 rfl rfl ⟨_, _, rfl, .same _, rfl⟩ bwNil (hrec_ hh1) rfl (.inl rfl) lt0 ?_)
   rintro _ _ ⟨rfl, rfl⟩
   refine VO.cons rfl (V1.buildSliceT (f := (encQE rn)) ([qe y1.1] : List QE) rfl rfl esz_27 zk_29 rfl rfl rfl rfl rfl (congrArg (fun z_ => [z_]) (encQE_qe rn _).symm) rfl lt0 ?_)
   intro b1
   refine VO.cons rfl (V1.build rfl rfl zk_29 pl_29 rfl rfl lt0 ?_)
   refine VO.cons rfl (V1.storeRefAll (k := 2) rfl rfl tyk_29 rfl rfl rfl rfl rfl rfl ?_)
   refine VO.nil ?_
   refine V.weakenK (Keeps.freezeG 0 rn [(15, .vl rn 3 (List.map (encQE rn) ([qe y1.1] : List QE))), (16, .agg [.int .u8 (33 : Int), .int .i64 (0 : Int), .vl rn 3 (List.map (encQE rn) ([qe y1.1] : List QE))])] ([(bp, ⟨5, [encParser y1.2]⟩), (b0, ⟨3, [.agg [.int .u8 (33 : Int), .int .i64 (0 : Int), .vl rn 3 (List.map (encQE rn) ([qe y1.1] : List QE))]]⟩)]) (f := (encQE rn)) (l := ([qe y1.1] : List QE)) rfl (fun z_ => by cases z_; rfl) ⟨⟨_, rfl, .here⟩, ⟨_, rfl, (.agg (.cons .same (.cons .same (.cons .here .nil))))⟩, trivial⟩ ⟨_, _, rfl, rfl, .inl rfl, ⟨_, _, rfl, rfl, .inr (.cons (.agg (.cons .same (.cons .same (.cons .here .nil)))) .nil), rfl⟩⟩ rfl (iOne (b := bp) 0 rfl)) ?_
   refine V.ret ?_
   obtain rfl := Option.some.inj hm0
   exact ⟨_, _, ⟨_, _, rfl, ⟨_, _, 1, _, rfl, rfl, rfl, rfl, tyk_29, rfl⟩, rfl⟩, (sub1 (k := 0) rfl), rfl, rfl⟩
  ·
   replace hm0 := cond_f hc1 hm0
   refine V.seq ?_
   replace hm0 := bindO hm0; rcases hm0 with ⟨y2, hh2, hm0⟩
   refine V.region ?_
   refine VO.cons rfl (V1.move rfl rfl rfl lt0 ?_)
   refine VO.cons rfl (V1.callM 0 (rn + 1) [] [.ref bp 5 0 0, .int .u8 (40 : Int)] (p := (bp, ⟨5, [encParser y0.2]⟩)) rfl rfl rfl cok_30 rfl rfl ⟨_, _, rfl, .same _, ⟨_, _, rfl, .same _, rfl⟩⟩ bwNil (ok_impl_parser_sees hh2) rfl (.inl rfl) lt0 ?_)
   rintro _ _ ⟨rfl, rfl⟩
   refine VO.cons rfl (V1.assign rfl rfl rfl lt0 ?_)
   refine VO.nil ?_
   refine V.keep 63 [0, 2, 17] [0, 1] (E0 := [(0, .ref bp 5 0 0), (2, .ref b0 3 0 0), (17, .bool y2.1)]) (H0 := [(bp, ⟨5, [encParser y2.2]⟩), (b0, ⟨3, [.agg [.int .u8 (0 : Int), .int .i64 (0 : Int), .nils]]⟩)]) rfl (⟨_, _, rfl, rfl, _, _, rfl, rfl, _, _, rfl, rfl, rfl⟩) (⟨_, _, rfl, rfl, _, _, rfl, rfl, rfl⟩) rfl ?_
   refine V.cond rfl (fun hc2 => ?_) (fun hc2 => ?_)
   ·
    replace hm0 := cond_t hc2 hm0
    refine V.seq ?_
    refine V.region ?_
    refine VO.cons rfl (V1.move rfl rfl rfl lt0 ?_)
    refine VO.cons rfl (V1.nilRef rfl rfl rfl lt0 ?_)
    refine VO.cons rfl (V1.fieldRef rfl rfl fo_44_3 rfl lt0 ?_)
    refine VO.cons rfl (V1.loadRef (k := 0) rfl rfl tyk_3 rfl rfl rfl rfl rfl lt0 ?_)
    refine VO.cons rfl (V1.int rfl rfl rfl rfl rfl lt0 ?_)
    refine VO.cons rfl (V1.nilRef rfl rfl rfl lt0 ?_)
    refine VO.cons rfl (V1.fieldRef rfl rfl fo_44_3 rfl lt0 ?_)
    refine VO.cons rfl (V1.storeRef (k := 0) rfl rfl tyk_3 rfl rfl rfl rfl rfl rfl rfl rfl rfl ?_)
    refine VO.nil ?_
    refine V.keep 63 [0, 2] [0, 1] (E0 := [(0, .ref bp 5 0 0), (2, .ref b0 3 0 0)]) (H0 := [(bp, ⟨5, [.agg [.str y2.2.S, .int .i64 y2.2.At, .bool y2.2.Bad, .int .i64 (IntKind.i64.wrap (y2.2.Open + (1 : Int))), .int .i64 y2.2.Most]]⟩), (b0, ⟨3, [.agg [.int .u8 (0 : Int), .int .i64 (0 : Int), .nils]]⟩)]) rfl (⟨_, _, rfl, rfl, _, _, rfl, rfl, rfl⟩) (⟨_, _, rfl, rfl, _, _, rfl, rfl, rfl⟩) rfl ?_
    refine V.seq ?_
    refine V.regionM 63 10 [⟨[(0, none)], [], none⟩, ⟨[(0, none)], [], none⟩, ⟨[(28, some 0)], [], none⟩, ⟨[(29, some 0)], [], none⟩, ⟨[(30, some 0)], [], none⟩, ⟨[(0, none)], [], none⟩, ⟨[(32, some 0)], [], none⟩, ⟨[(33, some 0)], [], none⟩, ⟨[(34, some 0)], [], none⟩, ⟨[(31, some 4), (35, some 0)], [], none⟩] [(0, none), (2, none), (27, some 9), (36, some 0)] (⟨_, rfl, ⟨_, rfl, ⟨_, rfl, ⟨_, rfl, ⟨_, rfl, ⟨_, rfl, ⟨_, rfl, ⟨_, rfl, ⟨_, rfl, ⟨_, rfl, ⟨rfl, rfl⟩⟩⟩⟩⟩⟩⟩⟩⟩⟩⟩) mixed_orders rfl (by decide +kernel) (fun hck7 => ?_)
    refine VP.step (p := ?pv36) rfl rfl rfl (⟨_, _, rfl, rfl, rfl⟩) ?hv36 ?rest36 hck7
    case hv36 =>
     intro E1
     refine (V1.move rfl rfl rfl lt0 ?_)
     exact rfl
    refine VP.step (p := ?pv37) rfl rfl rfl (⟨_, _, rfl, rfl, rfl⟩) ?hv37 ?rest37 hck7
    case hv37 =>
     intro E1
     refine (V1.move rfl rfl rfl lt0 ?_)
     exact rfl
    refine VP.step (p := ?pv38) rfl rfl rfl (⟨_, _, rfl, rfl, rfl⟩) ?hv38 ?rest38 hck7
    case hv38 =>
     intro E1
     refine (V1.nilRef rfl rfl rfl lt0 ?_)
     exact rfl
    refine VP.step (p := ?pv39) rfl rfl rfl (⟨_, _, rfl, rfl, rfl⟩) ?hv39 ?rest39 hck7
    case hv39 =>
     intro E1
     refine (V1.fieldRef rfl rfl fo_44_4 rfl lt0 ?_)
     exact rfl
    refine VP.step (p := ?pv40) rfl rfl rfl (⟨_, _, rfl, rfl, rfl⟩) ?hv40 ?rest40 hck7
    case hv40 =>
     intro E1
     refine (V1.loadRef (k := 0) rfl rfl tyk_3 rfl rfl rfl rfl rfl lt0 ?_)
     exact rfl
    refine VP.step (p := ?pv41) rfl rfl rfl (⟨_, _, rfl, rfl, rfl⟩) ?hv41 ?rest41 hck7
    case hv41 =>
     intro E1
     refine (V1.move rfl rfl rfl lt0 ?_)
     exact rfl
    refine VP.step (p := ?pv42) rfl rfl rfl (⟨_, _, rfl, rfl, rfl⟩) ?hv42 ?rest42 hck7
    case hv42 =>
     intro E1
     refine (V1.nilRef rfl rfl rfl lt0 ?_)
     exact rfl
    refine VP.step (p := ?pv43) rfl rfl rfl (⟨_, _, rfl, rfl, rfl⟩) ?hv43 ?rest43 hck7
    case hv43 =>
     intro E1
     refine (V1.fieldRef rfl rfl fo_44_3 rfl lt0 ?_)
     exact rfl
    refine VP.step (p := ?pv44) rfl rfl rfl (⟨_, _, rfl, rfl, rfl⟩) ?hv44 ?rest44 hck7
    case hv44 =>
     intro E1
     refine (V1.loadRef (k := 0) rfl rfl tyk_3 rfl rfl rfl rfl rfl lt0 ?_)
     exact rfl
    refine VP.step (p := ?pv45) rfl rfl rfl (⟨_, _, rfl, rfl, _, _, rfl, rfl, rfl⟩) ?hv45 ?rest45 hck7
    case hv45 =>
     intro E1
     refine (V1.maxI rfl rfl rfl rfl rfl rfl lt0 ?_)
     exact rfl
    refine VP.fin rfl (⟨_, _, rfl, rfl, _, _, rfl, rfl, _, _, rfl, rfl, _, _, rfl, rfl, rfl⟩) ?_
    refine VO.cons rfl (V1.nilRef rfl rfl rfl lt0 ?_)
    refine VO.cons rfl (V1.fieldRef rfl rfl fo_44_4 rfl lt0 ?_)
    refine VO.cons rfl (V1.storeRef (k := 0) rfl rfl tyk_3 rfl rfl rfl rfl rfl rfl rfl rfl rfl ?_)
    refine VO.nil ?_
    refine V.keep 63 [0, 2] [0, 1] (E0 := [(0, .ref bp 5 0 0), (2, .ref b0 3 0 0)]) (H0 := [(bp, ⟨5, [.agg [.str y2.2.S, .int .i64 y2.2.At, .bool y2.2.Bad, .int .i64 (IntKind.i64.wrap (y2.2.Open + (1 : Int))), .int .i64 (bif decide (y2.2.Most < (IntKind.i64.wrap (y2.2.Open + (1 : Int)))) then (IntKind.i64.wrap (y2.2.Open + (1 : Int))) else y2.2.Most)]]⟩), (b0, ⟨3, [.agg [.int .u8 (0 : Int), .int .i64 (0 : Int), .nils]]⟩)]) rfl (⟨_, _, rfl, rfl, _, _, rfl, rfl, rfl⟩) (⟨_, _, rfl, rfl, _, _, rfl, rfl, rfl⟩) rfl ?_
    refine V.seq ?_
    replace hm0 := bindO hm0; rcases hm0 with ⟨y3, hh3, hm0⟩
    refine V.region ?_
    refine VO.cons rfl (V1.move rfl rfl rfl lt0 ?_)
    refine VO.cons rfl (V1.callM 0 (rn + 1) [] [.ref bp 5 0 0] (p := (bp, ⟨5, [.agg [.str y2.2.S, .int .i64 y2.2.At, .bool y2.2.Bad, .int .i64 (IntKind.i64.wrap (y2.2.Open + (1 : Int))), .int .i64 (bif decide (y2.2.Most < (IntKind.i64.wrap (y2.2.Open + (1 : Int)))) then (IntKind.i64.wrap (y2.2.Open + (1 : Int))) else y2.2.Most)]]⟩)) rfl rfl rfl cok_25 rfl rfl ⟨_, _, rfl, .same _, rfl⟩ bwNil (ok_impl_parser_query_p hrec_ hh3) rfl (.inl rfl) lt0 ?_)
    rintro _ _ ⟨rfl, rfl⟩
    refine VO.cons rfl (V1.alloc rfl rfl zk_29 lt0 ?_)
    intro b2
    refine VO.cons rfl (V1.storeRefAll (k := 0) rfl rfl tyk_29 rfl rfl rfl rfl rfl rfl ?_)
    refine VO.nil ?_
    refine V.seq ?_
    refine V.region ?_
    refine VO.cons rfl (V1.move rfl rfl rfl lt0 ?_)
    refine VO.cons rfl (V1.nilRef rfl rfl rfl lt0 ?_)
    refine VO.cons rfl (V1.fieldRef rfl rfl fo_44_3 rfl lt0 ?_)
    refine VO.cons rfl (V1.loadRef (k := 1) rfl rfl tyk_3 rfl rfl rfl rfl rfl lt0 ?_)
    refine VO.cons rfl (V1.int rfl rfl rfl rfl rfl lt0 ?_)
    refine VO.cons rfl (V1.nilRef rfl rfl rfl lt0 ?_)
    refine VO.cons rfl (V1.fieldRef rfl rfl fo_44_3 rfl lt0 ?_)
    refine VO.cons rfl (V1.storeRef (k := 1) rfl rfl tyk_3 rfl rfl rfl rfl rfl rfl rfl rfl rfl ?_)
    refine VO.nil ?_
    refine V.keep 63 [0, 2, 3] [0, 1, 2] (E0 := [(0, .ref bp 5 0 0), (2, .ref b0 3 0 0), (3, .ref b2 3 0 0)]) (H0 := [(b2, ⟨3, [encQuery rn y3.1]⟩), (bp, ⟨5, [.agg [.str y3.2.S, .int .i64 y3.2.At, .bool y3.2.Bad, .int .i64 (IntKind.i64.wrap (y3.2.Open - (1 : Int))), .int .i64 y3.2.Most]]⟩), (b0, ⟨3, [.agg [.int .u8 (0 : Int), .int .i64 (0 : Int), .nils]]⟩)]) rfl (⟨_, _, rfl, rfl, _, _, rfl, rfl, _, _, rfl, rfl, rfl⟩) (⟨_, _, rfl, rfl, _, _, rfl, rfl, _, _, rfl, rfl, rfl⟩) rfl ?_
    refine V.seq ?_
    replace hm0 := bindO hm0; rcases hm0 with ⟨y4, hh4, hm0⟩
    refine V.region ?_
    refine VO.cons rfl (V1.move rfl rfl rfl lt0 ?_)
    refine VO.cons rfl (V1.move rfl rfl rfl lt0 ?_)
    refine VO.cons rfl (V1.nilRef rfl rfl rfl lt0 ?_)
    refine VO.cons rfl (V1.fieldRef rfl rfl fo_44_2 rfl lt0 ?_)
    refine VO.cons rfl (V1.loadRef (k := 1) rfl rfl tyk_4 rfl rfl rfl rfl rfl lt0 ?_)
    refine VO.cons rfl (V1.move rfl rfl rfl lt0 ?_)
    apply VO.orH (n := 3) [(b2, ⟨3, [encQuery rn y3.1]⟩), (bp, ⟨5, [encParser (bif y3.2.Bad then (⟨y3.2.S, y3.2.At, y3.2.Bad, (IntKind.i64.wrap (y3.2.Open - (1 : Int))), y3.2.Most⟩ : Parser) else y4.2)]⟩), (b0, ⟨3, [.agg [.int .u8 (0 : Int), .int .i64 (0 : Int), .nils]]⟩)] rfl rfl rfl rfl rfl rfl lt0 (.none rfl) (fun h => by rw [h]; rfl)
    ·
     intro hg0
     refine VO.step (.some rfl rfl rfl) (V1.move rfl rfl rfl lt0 ?_)
     refine VO.step (.some rfl rfl rfl) (V1.callM 1 (rn + 1) [] [.ref bp 5 0 0, .int .u8 (41 : Int)] (p := (bp, ⟨5, [.agg [.str y3.2.S, .int .i64 y3.2.At, .bool y3.2.Bad, .int .i64 (IntKind.i64.wrap (y3.2.Open - (1 : Int))), .int .i64 y3.2.Most]]⟩)) rfl rfl rfl cok_30 rfl rfl ⟨_, _, rfl, .same _, ⟨_, _, rfl, .same _, rfl⟩⟩ bwNil (ok_impl_parser_sees (cond_f hg0 hh4)) rfl (.inl rfl) lt0 ?_)
     rintro _ _ ⟨rfl, rfl⟩
     refine VO.weakenK (Keeps.setAt (H := [(b2, ⟨3, [encQuery rn y3.1]⟩), (bp, ⟨5, [.agg [.str y3.2.S, .int .i64 y3.2.At, .bool y3.2.Bad, .int .i64 (IntKind.i64.wrap (y3.2.Open - (1 : Int))), .int .i64 y3.2.Most]]⟩), (b0, ⟨3, [.agg [.int .u8 (0 : Int), .int .i64 (0 : Int), .nils]]⟩)]) 1 lt0) ?_
     refine VO.step (.some rfl rfl rfl) (V1.not rfl rfl rfl lt0 ?_)
     exact VO.nil ⟨rfl, rfl, rfl, (by rw [hg0]; rfl), .inr ⟨rfl, .inr ⟨rfl, .inr ⟨rfl, .inr ⟨rfl, .inl rfl⟩⟩⟩⟩⟩
    refine VO.cons rfl (V1.nilRef rfl rfl rfl lt0 ?_)
    refine VO.cons rfl (V1.fieldRef rfl rfl fo_44_2 rfl lt0 ?_)
    refine VO.cons rfl (V1.storeRef (k := 1) rfl rfl tyk_4 rfl rfl rfl rfl rfl rfl rfl rfl rfl ?_)
    refine VO.nil ?_
    refine V.keep 63 [2, 3] [0, 1, 2] (E0 := [(2, .ref b0 3 0 0), (3, .ref b2 3 0 0)]) (H0 := [(b2, ⟨3, [encQuery rn y3.1]⟩), (bp, ⟨5, [.agg [.str ((bif y3.2.Bad then (⟨y3.2.S, y3.2.At, y3.2.Bad, (IntKind.i64.wrap (y3.2.Open - (1 : Int))), y3.2.Most⟩ : Parser) else y4.2).S), .int .i64 ((bif y3.2.Bad then (⟨y3.2.S, y3.2.At, y3.2.Bad, (IntKind.i64.wrap (y3.2.Open - (1 : Int))), y3.2.Most⟩ : Parser) else y4.2).At), .bool (y3.2.Bad || (!y4.1)), .int .i64 ((bif y3.2.Bad then (⟨y3.2.S, y3.2.At, y3.2.Bad, (IntKind.i64.wrap (y3.2.Open - (1 : Int))), y3.2.Most⟩ : Parser) else y4.2).Open), .int .i64 ((bif y3.2.Bad then (⟨y3.2.S, y3.2.At, y3.2.Bad, (IntKind.i64.wrap (y3.2.Open - (1 : Int))), y3.2.Most⟩ : Parser) else y4.2).Most)]]⟩), (b0, ⟨3, [.agg [.int .u8 (0 : Int), .int .i64 (0 : Int), .nils]]⟩)]) rfl (⟨_, _, rfl, rfl, _, _, rfl, rfl, rfl⟩) (⟨_, _, rfl, rfl, _, _, rfl, rfl, _, _, rfl, rfl, rfl⟩) rfl ?_
    refine V.seq ?_
    refine V.region ?_
    refine VO.cons rfl (V1.loadRefAll (k := 0) rfl rfl tyk_29 rfl rfl rfl rfl rfl lt0 ?_)
    refine VO.cons rfl (V1.storeRefAll (k := 2) rfl rfl tyk_29 rfl rfl rfl rfl rfl rfl ?_)
    refine VO.nil ?_
    refine V.ret ?_
    obtain rfl := Option.some.inj hm0
    exact ⟨_, _, ⟨_, _, rfl, ⟨_, _, 2, _, rfl, rfl, rfl, rfl, tyk_29, rfl⟩, rfl⟩, (sub1 (k := 1) rfl), rfl, rfl⟩
   ·
    replace hm0 := cond_f hc2 hm0
    refine V.skip ?_
    refine V.seq ?_
    replace hm0 := bindO hm0; rcases hm0 with ⟨y5, hh5, hm0⟩
    refine V.region ?_
    refine VO.cons rfl (V1.move rfl rfl rfl lt0 ?_)
    refine VO.cons rfl (V1.callM 0 (rn + 1) [] [.ref bp 5 0 0] (p := (bp, ⟨5, [encParser y2.2]⟩)) rfl rfl rfl cok_33 rfl rfl ⟨_, _, rfl, .same _, rfl⟩ bwNil (ok_impl_parser_test hh5) rfl (.inl rfl) lt0 ?_)
    rintro _ _ ⟨rfl, rfl⟩
    refine VO.cons rfl (V1.storeRefAll (k := 1) rfl rfl tyk_29 rfl rfl rfl rfl rfl rfl ?_)
    refine VO.nil ?_
    refine V.ret ?_
    obtain rfl := Option.some.inj hm0
    exact ⟨_, _, ⟨_, _, rfl, ⟨_, _, 1, _, rfl, rfl, rfl, rfl, tyk_29, rfl⟩, rfl⟩, (sub1 (k := 0) rfl), rfl, rfl⟩

theorem ok_impl_parser_factor_r (k_ : Nat) : ∀ {rn bp : Nat} {p : Parser} {r : Query × Parser} , M.impl_parser_factor_r k_ p = some r → Does Tryd.prog 31 [.ref bp 5 0 0] [(bp, ⟨5, [encParser p]⟩)] rn (fun x H => x = encQuery rn r.1 ∧ H = [(bp, ⟨5, [encParser r.2]⟩)]) := by
 induction k_ with
 | zero =>
  intro rn bp p r h
  have h0 : (none : Option (Query × Parser)) = some r := h
  cases h0
 | succ k_ ih =>
  intro rn bp p r h
  exact ok_impl_parser_factor_s (rec_ := M.impl_parser_factor_r k_) @ih h

theorem ok_impl_parser_factor {rn bp : Nat} {p : Parser} {r : Query × Parser} (h : M.impl_parser_factor p = some r) : Does Tryd.prog 31 [.ref bp 5 0 0] [(bp, ⟨5, [encParser p]⟩)] rn (fun x H => x = encQuery rn r.1 ∧ H = [(bp, ⟨5, [encParser r.2]⟩)]) := ok_impl_parser_factor_r rounds h

theorem ok_impl_parser_query {rn bp : Nat} {p : Parser} {r : Query × Parser} (h : M.impl_parser_query p = some r) : Does Tryd.prog 25 [.ref bp 5 0 0] [(bp, ⟨5, [encParser p]⟩)] rn (fun x H => x = encQuery rn r.1 ∧ H = [(bp, ⟨5, [encParser r.2]⟩)]) := ok_impl_parser_query_p (rec_ := M.impl_parser_factor) (fun h_ => ok_impl_parser_factor h_) h

theorem ok_impl_readQuery {rn : Nat} {s : List UInt8} {r : Query × Int × Bool} (h : M.impl_readQuery s = some r) : Does Tryd.prog 16 [.str s] [] rn (fun x H => x = .tup [encQuery rn r.1, .int .i64 r.2.1, .bool r.2.2] ∧ H = []) := by
 have hm0 := h; clear h; unfold M.impl_readQuery at hm0
 try dsimp only at hm0
 refine Does.intro (N := 36) Tryd.func16 rfl rfl rfl rfl ?_
 intro w0 S0 L0
 refine V.seq ?_
 refine V.region ?_
 refine VO.cons rfl (V1.alloc rfl rfl zk_29 lt0 ?_)
 intro b0
 refine VO.cons rfl (V1.assign rfl rfl rfl lt0 ?_)
 refine VO.cons rfl (V1.assign rfl rfl rfl lt0 ?_)
 refine VO.nil ?_
 refine V.seq ?_
 refine V.seq ?_
 replace hm0 := bindO hm0; rcases hm0 with ⟨y0, hh0, hm0⟩
 refine V.region ?_
 refine VO.cons rfl (V1.move rfl rfl rfl lt0 ?_)
 refine VO.cons rfl (V1.lenStr rfl rfl rfl rfl rfl rfl istr_9 lt0 ?_)
 refine VO.cons rfl (V1.call rfl rfl rfl cok_24 rfl (ok_impl_within hh0) rfl lt0 ?_)
 rintro _ _ ⟨rfl, rfl⟩
 refine VO.cons rfl (V1.not rfl rfl rfl lt0 ?_)
 refine VO.nil ?_
 refine V.keep 36 [0, 2, 10] [0] (E0 := [(0, .str s), (2, .ref b0 3 0 0), (10, .bool (!y0))]) (H0 := [(b0, ⟨3, [.agg [.int .u8 (0 : Int), .int .i64 (0 : Int), .nils]]⟩)]) rfl (⟨_, _, rfl, rfl, _, _, rfl, rfl, _, _, rfl, rfl, rfl⟩) (⟨_, _, rfl, rfl, rfl⟩) rfl ?_
 refine V.cond rfl (fun hc0 => ?_) (fun hc0 => ?_)
 ·
  replace hm0 := cond_t hc0 hm0
  refine V.seq ?_
  refine V.region ?_
  refine VO.cons rfl (V1.build rfl rfl zk_29 pl_29 rfl rfl lt0 ?_)
  refine VO.cons rfl (V1.storeRefAll (k := 0) rfl rfl tyk_29 rfl rfl rfl rfl rfl rfl ?_)
  refine VO.cons rfl (V1.assign rfl rfl rfl lt0 ?_)
  refine VO.cons rfl (V1.assign rfl rfl rfl lt0 ?_)
  refine VO.nil ?_
  refine V.weakenK (Keeps.leObj 0 [.agg [.int .u8 (0 : Int), .int .i64 (0 : Int), .vl rn 3 (List.map (encQE rn) ([] : List QE))]] rfl (.cons (.agg (.cons .same (.cons .same (.cons (.nils (l := ([] : List QE)) (f := (encQE rn)) rn 3 rfl rfl) .nil)))) .nil)) ?_
  refine V.ret ?_
  obtain rfl := Option.some.inj hm0
  exact ⟨_, [], ⟨_, _, rfl, ⟨_, _, 0, _, rfl, rfl, rfl, rfl, tyk_29, rfl⟩, ⟨_, _, rfl, rfl, _, _, rfl, rfl, rfl⟩⟩, List.nil_sublist _, rfl, rfl⟩
 ·
  replace hm0 := cond_f hc0 hm0
  refine V.skip ?_
  refine V.seq ?_
  refine V.region ?_
  refine VO.cons rfl (V1.move rfl rfl rfl lt0 ?_)
  refine VO.cons rfl (V1.build rfl rfl zk_44 pl_44 rfl rfl lt0 ?_)
  refine VO.cons rfl (V1.boxN (n := 5) rfl rfl rfl rfl rfl lt0 ?_)
  intro b1
  refine VO.cons rfl (V1.assign rfl rfl rfl lt0 ?_)
  refine VO.nil ?_
  refine V.keep 36 [0, 2, 5] [0, 1] (E0 := [(0, .str s), (2, .ref b0 3 0 0), (5, .ref b1 5 0 0)]) (H0 := [(b1, ⟨5, [.agg [.str s, .int .i64 (0 : Int), .bool false, .int .i64 (0 : Int), .int .i64 (0 : Int)]]⟩), (b0, ⟨3, [.agg [.int .u8 (0 : Int), .int .i64 (0 : Int), .nils]]⟩)]) rfl (⟨_, _, rfl, rfl, _, _, rfl, rfl, _, _, rfl, rfl, rfl⟩) (⟨_, _, rfl, rfl, _, _, rfl, rfl, rfl⟩) rfl ?_
  refine V.seq ?_
  replace hm0 := bindO hm0; rcases hm0 with ⟨y1, hh1, hm0⟩
  refine V.region ?_
  refine VO.cons rfl (V1.move rfl rfl rfl lt0 ?_)
  refine VO.cons rfl (V1.callM 0 (rn + 1) [] [.ref b1 5 0 0] (p := (b1, ⟨5, [.agg [.str s, .int .i64 (0 : Int), .bool false, .int .i64 (0 : Int), .int .i64 (0 : Int)]]⟩)) rfl rfl rfl cok_25 rfl rfl ⟨_, _, rfl, .same _, rfl⟩ bwNil (ok_impl_parser_query hh1) rfl (.inl rfl) lt0 ?_)
  rintro _ _ ⟨rfl, rfl⟩
  refine VO.cons rfl (V1.alloc rfl rfl zk_29 lt0 ?_)
  intro b2
  refine VO.cons rfl (V1.storeRefAll (k := 0) rfl rfl tyk_29 rfl rfl rfl rfl rfl rfl ?_)
  refine VO.nil ?_
  refine V.seq ?_
  refine V.regionT 19 (fun c_ => [(b2, ⟨3, [encQuery rn y1.1]⟩), (b1, ⟨5, [encParser y1.2]⟩), (b0, ⟨3, [bif c_ then encQuery rn y1.1 else .agg [.int .u8 (0 : Int), .int .i64 (0 : Int), .nils]]⟩)]) 36 21 [⟨[(6, none)], [], none⟩, ⟨[(5, none)], [], none⟩, ⟨[(18, some 0)], [], none⟩, ⟨[(19, some 0)], [], none⟩, ⟨[(20, some 0)], [], none⟩, ⟨[(5, none)], [], none⟩, ⟨[(22, some 0)], [], none⟩, ⟨[(23, some 0)], [], none⟩, ⟨[(24, some 0)], [], none⟩, ⟨[(25, some 0)], [], none⟩, ⟨[(26, some 0)], [], none⟩, ⟨[(5, none)], [(0, true)], none⟩, ⟨[(28, some 0)], [(1, true)], none⟩, ⟨[(29, some 0)], [(2, true)], none⟩, ⟨[(30, some 0)], [(3, true)], none⟩, ⟨[(0, none)], [(4, true)], none⟩, ⟨[(32, some 0)], [(5, true)], none⟩, ⟨[(31, some 2), (33, some 0)], [(6, true)], none⟩, ⟨[], [], some (true, 27, 34, 7, 0)⟩, ⟨[(2, none), (17, some 18)], [], none⟩, ⟨[(21, some 15)], [], none⟩] [(2, none), (3, some 0), (35, some 2)] (⟨_, rfl, ⟨_, rfl, ⟨_, rfl, ⟨_, rfl, ⟨_, rfl, ⟨_, rfl, ⟨_, rfl, ⟨_, rfl, ⟨_, rfl, ⟨_, rfl, ⟨_, rfl, ⟨_, rfl, ⟨_, rfl, ⟨_, rfl, ⟨_, rfl, ⟨_, rfl, ⟨_, rfl, ⟨_, rfl, ⟨_, rfl, ⟨_, rfl, ⟨_, rfl, ⟨rfl, rfl⟩⟩⟩⟩⟩⟩⟩⟩⟩⟩⟩⟩⟩⟩⟩⟩⟩⟩⟩⟩⟩⟩) lt0 rfl mixed_orders rfl (by decide +kernel) (fun hck5 => ?_)
  refine VPT.step (p := ?pv45) rfl rfl rfl (⟨_, _, rfl, rfl, rfl⟩) ?hv45 ?rest45 hck5
  case hv45 =>
   intro E1 c1
   refine (V1.loadRefAll (k := 0) rfl rfl tyk_29 rfl rfl rfl rfl rfl lt0 ?_)
   exact rfl
  refine VPT.step (p := ?pv46) rfl rfl rfl (⟨_, _, rfl, rfl, rfl⟩) ?hv46 ?rest46 hck5
  case hv46 =>
   intro E1 c1
   refine (V1.move rfl rfl rfl lt0 ?_)
   exact rfl
  refine VPT.step (p := ?pv47) rfl rfl rfl (⟨_, _, rfl, rfl, rfl⟩) ?hv47 ?rest47 hck5
  case hv47 =>
   intro E1 c1
   refine (V1.nilRef rfl rfl rfl lt0 ?_)
   exact rfl
  refine VPT.step (p := ?pv48) rfl rfl rfl (⟨_, _, rfl, rfl, rfl⟩) ?hv48 ?rest48 hck5
  case hv48 =>
   intro E1 c1
   refine (V1.fieldRef rfl rfl fo_44_4 rfl lt0 ?_)
   exact rfl
  refine VPT.step (p := ?pv49) rfl rfl rfl (⟨_, _, rfl, rfl, rfl⟩) ?hv49 ?rest49 hck5
  case hv49 =>
   intro E1 c1
   refine (V1.loadRef (k := 1) rfl rfl tyk_3 rfl rfl rfl rfl rfl lt0 ?_)
   exact rfl
  refine VPT.step (p := ?pv50) rfl rfl rfl (⟨_, _, rfl, rfl, rfl⟩) ?hv50 ?rest50 hck5
  case hv50 =>
   intro E1 c1
   refine (V1.move rfl rfl rfl lt0 ?_)
   exact rfl
  refine VPT.step (p := ?pv51) rfl rfl rfl (⟨_, _, rfl, rfl, rfl⟩) ?hv51 ?rest51 hck5
  case hv51 =>
   intro E1 c1
   refine (V1.nilRef rfl rfl rfl lt0 ?_)
   exact rfl
  refine VPT.step (p := ?pv52) rfl rfl rfl (⟨_, _, rfl, rfl, rfl⟩) ?hv52 ?rest52 hck5
  case hv52 =>
   intro E1 c1
   refine (V1.fieldRef rfl rfl fo_44_2 rfl lt0 ?_)
   exact rfl
  refine VPT.step (p := ?pv53) rfl rfl rfl (⟨_, _, rfl, rfl, rfl⟩) ?hv53 ?rest53 hck5
  case hv53 =>
   intro E1 c1
   refine (V1.loadRef (k := 1) rfl rfl tyk_4 rfl rfl rfl rfl rfl lt0 ?_)
   exact rfl
  refine VPT.step (p := ?pv54) rfl rfl rfl (⟨_, _, rfl, rfl, rfl⟩) ?hv54 ?rest54 hck5
  case hv54 =>
   intro E1 c1
   refine (V1.not rfl rfl rfl lt0 ?_)
   exact rfl
  refine VPT.step (p := ?pv55) rfl rfl rfl (⟨_, _, rfl, rfl, rfl⟩) ?hv55 ?rest55 hck5
  case hv55 =>
   intro E1 c1
   refine (V1.move rfl rfl rfl lt0 ?_)
   exact rfl
  refine VPT.step (p := ?pv56) rfl rfl rfl (⟨_, _, rfl, rfl, rfl⟩) ?hv56 ?rest56 hck5
  case hv56 =>
   refine ⟨_, rfl, fun hg0 => ?_⟩
   intro E1 c1
   refine (V1.move rfl rfl rfl lt0 ?_)
   exact rfl
  refine VPT.step (p := ?pv57) rfl rfl rfl (⟨_, _, rfl, rfl, rfl⟩) ?hv57 ?rest57 hck5
  case hv57 =>
   refine ⟨_, rfl, fun hg0 => ?_⟩
   intro E1 c1
   refine (V1.nilRef rfl rfl rfl lt0 ?_)
   exact rfl
  refine VPT.step (p := ?pv58) rfl rfl rfl (⟨_, _, rfl, rfl, rfl⟩) ?hv58 ?rest58 hck5
  case hv58 =>
   refine ⟨_, rfl, fun hg0 => ?_⟩
   intro E1 c1
   refine (V1.fieldRef rfl rfl fo_44_1 rfl lt0 ?_)
   exact rfl
  refine VPT.step (p := ?pv59) rfl rfl rfl (⟨_, _, rfl, rfl, rfl⟩) ?hv59 ?rest59 hck5
  case hv59 =>
   refine ⟨_, rfl, fun hg0 => ?_⟩
   intro E1 c1
   refine (V1.loadRef (k := 1) rfl rfl tyk_3 rfl rfl rfl rfl rfl lt0 ?_)
   exact rfl
  refine VPT.step (p := ?pv60) rfl rfl rfl (⟨_, _, rfl, rfl, rfl⟩) ?hv60 ?rest60 hck5
  case hv60 =>
   refine ⟨_, rfl, fun hg0 => ?_⟩
   intro E1 c1
   refine (V1.move rfl rfl rfl lt0 ?_)
   exact rfl
  refine VPT.step (p := ?pv61) rfl rfl rfl (⟨_, _, rfl, rfl, rfl⟩) ?hv61 ?rest61 hck5
  case hv61 =>
   refine ⟨_, rfl, fun hg0 => ?_⟩
   intro E1 c1
   refine (V1.lenStr rfl rfl rfl rfl rfl rfl istr_9 lt0 ?_)
   exact rfl
  refine VPT.step (p := ?pv62) rfl rfl rfl (⟨_, _, rfl, rfl, _, _, rfl, rfl, rfl⟩) ?hv62 ?rest62 hck5
  case hv62 =>
   refine ⟨_, rfl, fun hg0 => ?_⟩
   intro E1 c1
   refine (V1.int rfl rfl rfl rfl rfl lt0 ?_)
   exact rfl
  refine VPT.pickAnd rfl rfl rfl rfl rfl rfl (trivial) ?_ hck5
  refine VPT.store rfl rfl rfl rfl (⟨_, _, rfl, rfl, _, _, rfl, rfl, rfl⟩) ?hsthck5 ?rsthck5 hck5
  case hsthck5 =>
   intro E1
   refine (V1.storeRefAll (k := 2) rfl rfl tyk_29 rfl rfl rfl rfl rfl rfl ?_)
   exact rfl
  refine VPT.step (p := ?pv63) rfl rfl rfl (⟨_, _, rfl, rfl, rfl⟩) ?hv63 ?rest63 hck5
  case hv63 =>
   intro E1 c1
   refine (V1.assign rfl rfl rfl lt0 ?_)
   exact rfl
  refine VPT.fin (H1 := [(b2, ⟨3, [encQuery rn y1.1]⟩), (b1, ⟨5, [encParser y1.2]⟩), (b0, ⟨3, [encQuery rn y1.1]⟩)]) rfl (⟨_, _, rfl, rfl, _, _, rfl, rfl, _, _, rfl, rfl, rfl⟩) rfl ?_
  refine VO.cons rfl (V1.assign rfl rfl rfl lt0 ?_)
  refine VO.nil ?_
  refine V.ret ?_
  obtain rfl := Option.some.inj hm0
  exact ⟨_, [], ⟨_, _, rfl, ⟨_, _, 2, _, rfl, rfl, rfl, rfl, tyk_29, rfl⟩, ⟨_, _, rfl, rfl, _, _, rfl, rfl, rfl⟩⟩, List.nil_sublist _, rfl, rfl⟩

theorem ok_impl_TestCount_1 {ρ0 rn bp : Nat} {a0 : Query} {count : Int} {r : Int} (h : M.impl_TestCount_1 a0 count = some r) : Does Tryd.prog 21 [encQuery ρ0 a0, .ref bp 1 0 0] [(bp, ⟨1, [.int .i64 count]⟩)] rn (fun x H => x = .tup [] ∧ H = [(bp, ⟨1, [.int .i64 r]⟩)]) := by
 have hm0 := h; clear h; unfold M.impl_TestCount_1 at hm0
 try dsimp only at hm0
 refine Does.intro (N := 5) Tryd.func21 rfl rfl rfl rfl ?_
 intro w0 S0 L0
 refine V.seq ?_
 refine V.region ?_
 refine VO.cons rfl (V1.boxN (n := 3) rfl rfl rfl rfl rfl lt0 ?_)
 intro b0
 refine VO.nil ?_
 refine V.region ?_
 refine VO.cons rfl (V1.loadRef (k := 1) rfl rfl tyk_3 rfl rfl rfl rfl rfl lt0 ?_)
 refine VO.cons rfl (V1.int rfl rfl rfl rfl rfl lt0 ?_)
 refine VO.cons rfl (V1.storeRefAll (k := 1) rfl rfl tyk_3 rfl rfl rfl rfl rfl rfl ?_)
 refine VO.nil ?_
 obtain rfl := Option.some.inj hm0
 exact ⟨_, _, rfl, (sub1 (k := 1) rfl), rfl, rfl⟩

theorem ok_impl_query_each_s {ρ0 rn bp : Nat} {q : Query} {f1 : Nat} {n_ : Int} {r : Int} {fm : Query → Int → Option Int} {rec_ : Query → (Query → Int → Option Int) → Int → Option Int} (hrec_ : ∀ {ρ0 rn bp : Nat} {q : Query} {f1 : Nat} {n_ : Int} {r : Int} {fm : Query → Int → Option Int} , rec_ q fm n_ = some r → ∀ (hok1 : callOK Tryd.prog f1 = true) (hf1 : ∀ {q : Query} {n r : Int}, fm q n = some r → Does Tryd.prog f1 [encQuery ρ0 q, .ref bp 1 0 0] [(bp, ⟨1, [.int .i64 n]⟩)] rn (fun x H => x = .tup [] ∧ H = [(bp, ⟨1, [.int .i64 r]⟩)])), Does Tryd.prog 20 [encQuery ρ0 q, .fn f1 [.ref bp 1 0 0]] [(bp, ⟨1, [.int .i64 n_]⟩)] rn (fun x H => x = .tup [] ∧ H = [(bp, ⟨1, [.int .i64 r]⟩)])) (h : M.impl_query_each_s rec_ q fm n_ = some r) (hok1 : callOK Tryd.prog f1 = true) (hf1 : ∀ {q : Query} {n r : Int}, fm q n = some r → Does Tryd.prog f1 [encQuery ρ0 q, .ref bp 1 0 0] [(bp, ⟨1, [.int .i64 n]⟩)] rn (fun x H => x = .tup [] ∧ H = [(bp, ⟨1, [.int .i64 r]⟩)])) : Does Tryd.prog 20 [encQuery ρ0 q, .fn f1 [.ref bp 1 0 0]] [(bp, ⟨1, [.int .i64 n_]⟩)] rn (fun x H => x = .tup [] ∧ H = [(bp, ⟨1, [.int .i64 r]⟩)]) := by
 have hm0 := h; clear h; unfold M.impl_query_each_s at hm0
 try dsimp only at hm0
 refine Does.intro (N := 24) Tryd.func20 rfl rfl rfl rfl ?_
 intro w0 S0 L0
 refine V.seq ?_
 refine V.region ?_
 refine VO.cons rfl (V1.boxN (n := 3) rfl rfl rfl rfl rfl lt0 ?_)
 intro b0
 refine VO.nil ?_
 refine V.seq ?_
 replace hm0 := bindO hm0; rcases hm0 with ⟨j0, hm1, hm0⟩
 refine V.cutT (D := (Int) × (Unit)) (fun ⟨o, _⟩ => ⟨24, [(1, .fn f1 [.ref bp 1 0 0]), (2, .ref b0 3 0 0)], [(bp, ⟨1, [.int .i64 o]⟩), (b0, ⟨3, [encQuery ρ0 q]⟩)]⟩) (fun ⟨o, _⟩ => (o = j0)) ?_ ?_
 ·
  refine V.seq ?_
  refine V.region ?_
  refine VO.cons rfl (V1.fieldRef rfl rfl fo_29_2 rfl lt0 ?_)
  refine VO.cons rfl (V1.loadRef (k := 0) rfl rfl tyk_27 rfl rfl rfl rfl rfl lt0 ?_)
  refine VO.cons rfl (V1.lenMap rfl rfl rfl rfl rfl rfl isl_27 lt0 ?_)
  refine VO.cons rfl (V1.int rfl rfl rfl rfl rfl lt0 ?_)
  refine VO.nil ?_
  refine V.keep 24 [1, 2, 9] [0, 1] (E0 := [(1, .fn f1 [.ref bp 1 0 0]), (2, .ref b0 3 0 0), (9, .bool ((q.Parts.length : Int) == (0 : Int)))]) (H0 := [(b0, ⟨3, [encQuery ρ0 q]⟩), (bp, ⟨1, [.int .i64 n_]⟩)]) rfl (⟨_, _, rfl, rfl, _, _, rfl, rfl, _, _, rfl, rfl, rfl⟩) (⟨_, _, rfl, rfl, _, _, rfl, rfl, rfl⟩) rfl ?_
  refine V.cond rfl (fun hc0 => ?_) (fun hc0 => ?_)
  ·
   replace hm1 := cond_t hc0 hm1
   replace hm1 := bindO hm1; rcases hm1 with ⟨y0, hh0, hm1⟩
   refine V.region ?_
   refine VO.cons rfl (V1.move rfl rfl rfl lt0 ?_)
   refine VO.cons rfl (V1.loadRefAll (k := 0) rfl rfl tyk_29 rfl rfl rfl rfl rfl lt0 ?_)
   refine VO.cons rfl (V1.callG (τ := 0) (Bw := []) (Hc := [(bp, ⟨1, [.int .i64 n_]⟩)]) rfl lt0 (run_callFn rfl rfl rfl hok1 rfl) (perm_erase (k := 1) rfl) (Lends.same _) (fun _ h => by cases h) (hf1 hh0) (.inl rfl) (.inl rfl) ?_)
   rintro _ _ ⟨rfl, rfl⟩
   refine VO.nil ?_
   exact ⟨(y0, ()), Option.some.inj hm1, Keeps.mk (ks := [0, 1]) rfl ⟨rfl, rfl, trivial⟩ (⟨_, _, rfl, rfl, _, _, rfl, rfl, rfl⟩) rfl⟩
  ·
   replace hm1 := cond_f hc0 hm1
   refine V.skip ?_
   exact ⟨(n_, ()), Option.some.inj hm1, Keeps.mk (ks := [1, 0]) rfl ⟨rfl, rfl, trivial⟩ (⟨_, _, rfl, rfl, _, _, rfl, rfl, rfl⟩) rfl⟩
 ·
  rintro ⟨o, _⟩ rfl
  try dsimp only at hm0
  refine V.seq ?_
  refine V.region ?_
  refine VO.cons rfl (V1.fieldRef rfl rfl fo_29_2 rfl lt0 ?_)
  refine VO.cons rfl (V1.loadRef (k := 1) rfl rfl tyk_27 rfl rfl rfl rfl rfl lt0 ?_)
  refine VO.cons rfl (V1.lenMap rfl rfl rfl rfl rfl rfl isl_27 lt0 ?_)
  refine VO.cons rfl (V1.move rfl rfl rfl lt0 ?_)
  refine VO.nil ?_
  replace hm0 := bindO hm0; rcases hm0 with ⟨e0, he1, hm0⟩
  refine V.cutT (D := (Int) × (Unit)) (fun ⟨o0, _⟩ => ⟨24, [], [(bp, ⟨1, [.int .i64 o0]⟩)]⟩) (fun ⟨o0, _⟩ => (o0 = e0)) ?_ ?_
  ·
   refine V.block ?_
   refine V.keep 24 [16, 1, 14, 15] [0] (E0 := [(16, .int .i64 (0 : Int)), (1, .fn f1 [.ref bp 1 0 0]), (14, .vl ρ0 3 (List.map (encQE ρ0) q.Parts)), (15, .int .i64 (q.Parts.length : Int))]) (H0 := [(bp, ⟨1, [.int .i64 o]⟩)]) rfl (⟨_, _, rfl, rfl, _, _, rfl, rfl, _, _, rfl, rfl, _, _, rfl, rfl, rfl⟩) (⟨_, _, rfl, rfl, rfl⟩) rfl ?_
   refine V.loopE (D := Nat × (Int × Int) × (Unit)) (fun ⟨n0, ⟨v, o1⟩, _⟩ => [(16, .int .i64 v)]) (fun ⟨n0, ⟨v, o1⟩, _⟩ => [(bp, ⟨1, [.int .i64 o1]⟩)]) (fun ⟨n0, ⟨v, o1⟩, _⟩ => loopO (M.impl_query_each_l0 q fm rec_) n0 (v, o1) = some e0) (fun ⟨n0, _, _⟩ => n0) (rounds, ((0 : Int), o), ()) rfl he1 ?_
   rintro ⟨n0, ⟨v, o1⟩, _⟩ hP0
   obtain ⟨m0, y1, rfl, hm1, hl1, hr1⟩ := loop_head hP0
   unfold M.impl_query_each_l0 at hm1; dsimp only at hm1
   show V _ _ _ ⟨24, [(16, .int .i64 v), (1, .fn f1 [.ref bp 1 0 0]), (14, .vl ρ0 3 (List.map (encQE ρ0) q.Parts)), (15, .int .i64 (q.Parts.length : Int))], [(bp, ⟨1, [.int .i64 o1]⟩)]⟩
   refine V.seq ?_
   refine V.region ?_
   refine VO.cons rfl (V1.int rfl rfl rfl rfl rfl lt0 ?_)
   refine VO.nil ?_
   refine V.seq ?_
   refine V.cond rfl (fun hc1 => ?_) (fun hc1 => ?_)
   ·
    replace hm1 := cond_t hc1 hm1
    refine V.skip ?_
    refine V.seq ?_
    refine V.block ?_
    refine V.seq ?_
    replace hm1 := asrt_some hm1; rcases hm1 with ⟨hh1, hm1⟩
    refine V.region ?_
    refine VO.cons rfl (V1.indexI rfl rfl esz_27 rfl rfl hh1 lt0 ?_)
    refine VO.weakenK (Keeps.say 18 (y := .pin ρ0 ((encQuery ρ0) (qeI (q.Parts.getD (Int.toNat v) default))) 0) rfl (congrArg (fun z_ => PV.pin ρ0 z_ 0) (encQE_qeI ρ0 _).symm)) ?_
    refine VO.cons rfl (V1.loadPinAll rfl rfl tyk_29 rfl rfl lt0 ?_)
    refine VO.cons rfl (V1.alloc rfl rfl zk_29 lt0 ?_)
    intro b1
    refine VO.cons rfl (V1.storeRefAll (k := 0) rfl rfl tyk_29 rfl rfl rfl rfl rfl rfl ?_)
    refine VO.nil ?_
    replace hm1 := bindO hm1; rcases hm1 with ⟨y2, hh2, hm1⟩
    refine V.region ?_
    refine VO.cons rfl (V1.loadRefAll (k := 0) rfl rfl tyk_29 rfl rfl rfl rfl rfl lt0 ?_)
    refine VO.cons rfl (V1.move rfl rfl rfl lt0 ?_)
    refine VO.cons rfl (V1.callM 1 (rn + 1) [] [encQuery ρ0 (qeI (q.Parts.getD (Int.toNat v) default)), .fn f1 [.ref bp 1 0 0]] (p := (bp, ⟨1, [.int .i64 o1]⟩)) rfl rfl rfl cok_20 rfl rfl ⟨_, _, rfl, .same _, ⟨_, _, rfl, .same _, rfl⟩⟩ bwNil (hrec_ hh2 hok1 hf1) rfl (.inl rfl) lt0 ?_)
    rintro _ _ ⟨rfl, rfl⟩
    refine VO.nil ?_
    refine V.keep 24 [1, 14, 15, 16] [0] (E0 := [(1, .fn f1 [.ref bp 1 0 0]), (14, .vl ρ0 3 (List.map (encQE ρ0) q.Parts)), (15, .int .i64 (q.Parts.length : Int)), (16, .int .i64 v)]) (H0 := [(bp, ⟨1, [.int .i64 y2]⟩)]) rfl (⟨_, _, rfl, rfl, _, _, rfl, rfl, _, _, rfl, rfl, _, _, rfl, rfl, rfl⟩) (⟨_, _, rfl, rfl, rfl⟩) rfl ?_
    refine V.region ?_
    refine VO.cons rfl (V1.int rfl rfl rfl rfl rfl lt0 ?_)
    refine VO.cons rfl (V1.move rfl rfl rfl lt0 ?_)
    refine VO.nil ?_
    exact ⟨(m0, ((IntKind.i64.wrap (v + (1 : Int))), y2), ()), hl1 _ (Option.some.inj hm1).symm, Nat.lt_succ_self _, Keeps.mk (ks := [0]) rfl ⟨rfl, rfl, rfl, rfl, trivial⟩ (⟨_, _, rfl, rfl, rfl⟩) rfl⟩
   ·
    replace hm1 := cond_f hc1 hm1
    refine V.exit ?_
    obtain rfl := hr1 _ (Option.some.inj hm1).symm
    exact ⟨(o1, ()), rfl, Keeps.mk (ks := [0]) rfl trivial (⟨_, _, rfl, rfl, rfl⟩) rfl⟩
  ·
   rintro ⟨o0, _⟩ rfl
   try dsimp only at hm0
   obtain rfl := Option.some.inj hm0
   exact ⟨_, _, rfl, (sub1 (k := 0) rfl), rfl, rfl⟩

theorem ok_impl_query_each_r (k_ : Nat) : ∀ {ρ0 rn bp : Nat} {q : Query} {f1 : Nat} {n_ : Int} {r : Int} {fm : Query → Int → Option Int} , M.impl_query_each_r k_ q fm n_ = some r → ∀ (hok1 : callOK Tryd.prog f1 = true) (hf1 : ∀ {q : Query} {n r : Int}, fm q n = some r → Does Tryd.prog f1 [encQuery ρ0 q, .ref bp 1 0 0] [(bp, ⟨1, [.int .i64 n]⟩)] rn (fun x H => x = .tup [] ∧ H = [(bp, ⟨1, [.int .i64 r]⟩)])), Does Tryd.prog 20 [encQuery ρ0 q, .fn f1 [.ref bp 1 0 0]] [(bp, ⟨1, [.int .i64 n_]⟩)] rn (fun x H => x = .tup [] ∧ H = [(bp, ⟨1, [.int .i64 r]⟩)]) := by
 induction k_ with
 | zero =>
  intro ρ0 rn bp q f1 n_ r fm h
  have h0 : (none : Option Int) = some r := h
  cases h0
 | succ k_ ih =>
  intro ρ0 rn bp q f1 n_ r fm h hok1 hf1
  exact ok_impl_query_each_s (rec_ := M.impl_query_each_r k_) @ih h hok1 hf1

theorem ok_impl_query_each {ρ0 rn bp : Nat} {q : Query} {f1 : Nat} {n_ : Int} {r : Int} {fm : Query → Int → Option Int} (h : M.impl_query_each q fm n_ = some r) (hok1 : callOK Tryd.prog f1 = true) (hf1 : ∀ {q : Query} {n r : Int}, fm q n = some r → Does Tryd.prog f1 [encQuery ρ0 q, .ref bp 1 0 0] [(bp, ⟨1, [.int .i64 n]⟩)] rn (fun x H => x = .tup [] ∧ H = [(bp, ⟨1, [.int .i64 r]⟩)])) : Does Tryd.prog 20 [encQuery ρ0 q, .fn f1 [.ref bp 1 0 0]] [(bp, ⟨1, [.int .i64 n_]⟩)] rn (fun x H => x = .tup [] ∧ H = [(bp, ⟨1, [.int .i64 r]⟩)]) := ok_impl_query_each_r (qedep (qe q)) h hok1 hf1

theorem ok_impl_TestCount {rn : Nat} {s : List UInt8} {r : Int × Bool} (h : M.impl_TestCount s = some r) : Does Tryd.prog 14 [.str s] [] rn (fun x H => x = .tup [.int .i64 r.1, .bool r.2] ∧ H = []) := by
 have hm0 := h; clear h; unfold M.impl_TestCount at hm0
 try dsimp only at hm0
 refine Does.intro (N := 20) Tryd.func14 rfl rfl rfl rfl ?_
 intro w0 S0 L0
 refine V.seq ?_
 refine V.region ?_
 refine VO.cons rfl (V1.assign rfl rfl rfl lt0 ?_)
 refine VO.cons rfl (V1.assign rfl rfl rfl lt0 ?_)
 refine VO.nil ?_
 refine V.seq ?_
 replace hm0 := bindO hm0; rcases hm0 with ⟨y0, hh0, hm0⟩
 refine V.region ?_
 refine VO.cons rfl (V1.move rfl rfl rfl lt0 ?_)
 refine VO.cons rfl (V1.call rfl rfl rfl cok_16 rfl (ok_impl_readQuery hh0) rfl lt0 ?_)
 rintro _ _ ⟨rfl, rfl⟩
 refine VO.cons rfl (V1.move rfl rfl rfl lt0 ?_)
 refine VO.cons rfl (V1.extract rfl rfl rfl rfl lt0 ?_)
 refine VO.cons rfl (V1.extract rfl rfl rfl rfl lt0 ?_)
 refine VO.cons rfl (V1.extract rfl rfl rfl rfl lt0 ?_)
 refine VO.cons rfl (V1.alloc rfl rfl zk_29 lt0 ?_)
 intro b0
 refine VO.cons rfl (V1.storeRefAll (k := 0) rfl rfl tyk_29 rfl rfl rfl rfl rfl rfl ?_)
 refine VO.cons rfl (V1.assign rfl rfl rfl lt0 ?_)
 refine VO.cons rfl (V1.assign rfl rfl rfl lt0 ?_)
 refine VO.nil ?_
 refine V.keep 20 [4, 6] [0] (E0 := [(4, .ref b0 3 0 0), (6, .bool y0.2.2)]) (H0 := [(b0, ⟨3, [encQuery rn y0.1]⟩)]) rfl (⟨_, _, rfl, rfl, _, _, rfl, rfl, rfl⟩) (⟨_, _, rfl, rfl, rfl⟩) rfl ?_
 refine V.seq ?_
 refine V.seq ?_
 refine V.region ?_
 refine VO.cons rfl (V1.move rfl rfl rfl lt0 ?_)
 refine VO.cons rfl (V1.not rfl rfl rfl lt0 ?_)
 refine VO.nil ?_
 refine V.cond rfl (fun hc0 => ?_) (fun hc0 => ?_)
 ·
  replace hm0 := cond_t hc0 hm0
  refine V.seq ?_
  refine V.region ?_
  refine VO.cons rfl (V1.assign rfl rfl rfl lt0 ?_)
  refine VO.cons rfl (V1.assign rfl rfl rfl lt0 ?_)
  refine VO.nil ?_
  refine V.ret ?_
  obtain rfl := Option.some.inj hm0
  exact ⟨_, [], ⟨_, _, rfl, rfl, _, _, rfl, rfl, rfl⟩, List.nil_sublist _, rfl, rfl⟩
 ·
  replace hm0 := cond_f hc0 hm0
  refine V.skip ?_
  refine V.seq ?_
  refine V.region ?_
  refine VO.cons rfl (V1.alloc rfl rfl zk_3 lt0 ?_)
  intro b1
  refine VO.cons rfl (V1.storeRefAll (k := 0) rfl rfl tyk_3 rfl rfl rfl rfl rfl rfl ?_)
  refine VO.nil ?_
  refine V.seq ?_
  replace hm0 := bindO hm0; rcases hm0 with ⟨y1, hh1, hm0⟩
  refine V.region ?_
  refine VO.cons rfl (V1.loadRefAll (k := 1) rfl rfl tyk_29 rfl rfl rfl rfl rfl lt0 ?_)
  refine VO.cons rfl (V1.makeFunc rfl rfl rfl lt0 ?_)
  refine VO.cons rfl (V1.callM 0 (rn + 1) [] [encQuery rn y0.1, .fn 21 [.ref b1 1 0 0]] (p := (b1, ⟨1, [.int .i64 (0 : Int)]⟩)) rfl rfl rfl cok_20 rfl rfl ⟨_, _, rfl, .same _, ⟨_, _, rfl, .same _, rfl⟩⟩ bwNil (ok_impl_query_each hh1 cok_21 (fun h => ok_impl_TestCount_1 h)) rfl (.inl rfl) lt0 ?_)
  rintro _ _ ⟨rfl, rfl⟩
  refine VO.nil ?_
  refine V.keep 20 [7] [0] (E0 := [(7, .ref b1 1 0 0)]) (H0 := [(b1, ⟨1, [.int .i64 y1]⟩)]) rfl (⟨_, _, rfl, rfl, rfl⟩) (⟨_, _, rfl, rfl, rfl⟩) rfl ?_
  refine V.seq ?_
  refine V.region ?_
  refine VO.cons rfl (V1.loadRef (k := 0) rfl rfl tyk_3 rfl rfl rfl rfl rfl lt0 ?_)
  refine VO.cons rfl (V1.assign rfl rfl rfl lt0 ?_)
  refine VO.cons rfl (V1.assign rfl rfl rfl lt0 ?_)
  refine VO.nil ?_
  refine V.ret ?_
  obtain rfl := Option.some.inj hm0
  exact ⟨_, [], ⟨_, _, rfl, rfl, _, _, rfl, rfl, rfl⟩, List.nil_sublist _, rfl, rfl⟩

theorem ok_laws_FnExactTestCount {rn : Nat} {aS : List UInt8} {r : Bool} (h : M.laws_FnExactTestCount aS = some r) : Does Tryd.prog 6 [.str aS] [] rn (fun x H => x = .bool r ∧ H = []) := by
 have hm0 := h; clear h; unfold M.laws_FnExactTestCount at hm0
 try dsimp only at hm0
 refine Does.intro (N := 28) Tryd.func6 rfl rfl rfl rfl ?_
 intro w0 S0 L0
 refine V.seq ?_
 refine V.region ?_
 refine VO.cons rfl (V1.assign rfl rfl rfl lt0 ?_)
 refine VO.nil ?_
 refine V.seq ?_
 refine V.seq ?_
 refine V.region ?_
 refine VO.cons rfl (V1.move rfl rfl rfl lt0 ?_)
 refine VO.cons rfl (V1.lenStr rfl rfl rfl rfl rfl rfl istr_9 lt0 ?_)
 refine VO.cons rfl (V1.int rfl rfl rfl rfl rfl lt0 ?_)
 refine VO.nil ?_
 refine V.cond rfl (fun hc0 => ?_) (fun hc0 => ?_)
 ·
  replace hm0 := cond_t hc0 hm0
  refine V.seq ?_
  refine V.region ?_
  refine VO.cons rfl (V1.assign rfl rfl rfl lt0 ?_)
  refine VO.nil ?_
  refine V.ret ?_
  obtain rfl := Option.some.inj hm0
  exact ⟨_, [], ⟨_, _, rfl, rfl, rfl⟩, List.nil_sublist _, rfl, rfl⟩
 ·
  replace hm0 := cond_f hc0 hm0
  refine V.skip ?_
  refine V.keep 28 [0] [] (E0 := [(0, .str aS)]) (H0 := []) rfl (⟨_, _, rfl, rfl, rfl⟩) (rfl) rfl ?_
  refine V.seq ?_
  replace hm0 := bindO hm0; rcases hm0 with ⟨y0, hh0, hm0⟩
  refine V.region ?_
  refine VO.cons rfl (V1.move rfl rfl rfl lt0 ?_)
  refine VO.cons rfl (V1.call rfl rfl rfl cok_13 rfl (ok_spec_TestCount hh0) rfl lt0 ?_)
  rintro _ _ ⟨rfl, rfl⟩
  refine VO.cons rfl (V1.move rfl rfl rfl lt0 ?_)
  refine VO.cons rfl (V1.extract rfl rfl rfl rfl lt0 ?_)
  refine VO.cons rfl (V1.extract rfl rfl rfl rfl lt0 ?_)
  refine VO.cons rfl (V1.assign rfl rfl rfl lt0 ?_)
  refine VO.cons rfl (V1.assign rfl rfl rfl lt0 ?_)
  refine VO.nil ?_
  refine V.keep 28 [0, 3, 4] [] (E0 := [(0, .str aS), (3, .int .i64 y0.1), (4, .bool y0.2)]) (H0 := []) rfl (⟨_, _, rfl, rfl, _, _, rfl, rfl, _, _, rfl, rfl, rfl⟩) (rfl) rfl ?_
  refine V.seq ?_
  replace hm0 := bindO hm0; rcases hm0 with ⟨y1, hh1, hm0⟩
  refine V.region ?_
  refine VO.cons rfl (V1.move rfl rfl rfl lt0 ?_)
  refine VO.cons rfl (V1.call rfl rfl rfl cok_14 rfl (ok_impl_TestCount hh1) rfl lt0 ?_)
  rintro _ _ ⟨rfl, rfl⟩
  refine VO.cons rfl (V1.move rfl rfl rfl lt0 ?_)
  refine VO.cons rfl (V1.extract rfl rfl rfl rfl lt0 ?_)
  refine VO.cons rfl (V1.extract rfl rfl rfl rfl lt0 ?_)
  refine VO.cons rfl (V1.assign rfl rfl rfl lt0 ?_)
  refine VO.cons rfl (V1.assign rfl rfl rfl lt0 ?_)
  refine VO.nil ?_
  refine V.keep 28 [3, 4, 5, 6] [] (E0 := [(3, .int .i64 y0.1), (4, .bool y0.2), (5, .int .i64 y1.1), (6, .bool y1.2)]) (H0 := []) rfl (⟨_, _, rfl, rfl, _, _, rfl, rfl, _, _, rfl, rfl, _, _, rfl, rfl, rfl⟩) (rfl) rfl ?_
  refine V.seq ?_
  refine V.seq ?_
  refine V.region ?_
  refine VO.cons rfl (V1.move rfl rfl rfl lt0 ?_)
  refine VO.cons rfl (V1.move rfl rfl rfl lt0 ?_)
  refine VO.cons rfl (V1.int rfl rfl rfl rfl rfl lt0 ?_)
  refine VO.cons rfl (V1.move rfl rfl rfl lt0 ?_)
  apply VO.or (n := 3) rfl rfl rfl rfl rfl rfl lt0 (.none rfl)
  ·
   intro hg0
   refine VO.step (.some rfl rfl rfl) (V1.move rfl rfl rfl lt0 ?_)
   refine VO.step (.some rfl rfl rfl) (V1.move rfl rfl rfl lt0 ?_)
   refine VO.step (.some rfl rfl rfl) (V1.boolNeq rfl rfl und_4 rfl rfl lt0 ?_)
   exact VO.nil ⟨rfl, rfl, rfl, rfl, .inr ⟨rfl, .inr ⟨rfl, .inr ⟨rfl, .inr ⟨rfl, .inl rfl⟩⟩⟩⟩⟩
  refine VO.nil ?_
  refine V.keep 28 [27] [] (E0 := [(27, .bool ((y1.1 != y0.1) || (!(y1.2 == y0.2))))]) (H0 := []) rfl (⟨_, _, rfl, rfl, rfl⟩) (rfl) rfl ?_
  refine V.cond rfl (fun hc1 => ?_) (fun hc1 => ?_)
  ·
   replace hm0 := cond_t hc1 hm0
   refine V.seq ?_
   refine V.region ?_
   refine VO.cons rfl (V1.assign rfl rfl rfl lt0 ?_)
   refine VO.nil ?_
   refine V.ret ?_
   obtain rfl := Option.some.inj hm0
   exact ⟨_, [], ⟨_, _, rfl, rfl, rfl⟩, List.nil_sublist _, rfl, rfl⟩
  ·
   replace hm0 := cond_f hc1 hm0
   refine V.skip ?_
   refine V.seq ?_
   refine V.region ?_
   refine VO.cons rfl (V1.assign rfl rfl rfl lt0 ?_)
   refine VO.nil ?_
   refine V.ret ?_
   obtain rfl := Option.some.inj hm0
   exact ⟨_, [], ⟨_, _, rfl, rfl, rfl⟩, List.nil_sublist _, rfl, rfl⟩
end Go.Proofs.YtlpnicmlgckdnaaDoor
