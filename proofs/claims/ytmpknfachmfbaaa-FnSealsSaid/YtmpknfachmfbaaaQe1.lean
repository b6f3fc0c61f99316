/- the functions do what their models say -/
import Derived.Test.YtmpknfachmfbaaaFacts
import Derived.Test.YtmpknfachmfbaaaMcM
set_option linter.unusedSimpArgs false
set_option linter.unusedVariables false
set_option maxRecDepth 100000
set_option maxHeartbeats 4000000
namespace Go.Proofs.Ytmpknfachmfbaaa
open Go.VS

theorem ok_spec_l1In {rn : Nat} {x : Int} {a : Int} {b_ : Int} {r : Bool} (h : M.spec_l1In x a b_ = some r) : Does Try.prog 117 [.int .i64 x, .int .i64 a, .int .i64 b_] [] rn (fun x H => x = .bool r ∧ H = []) := by
 have hm0 := h; clear h; unfold M.spec_l1In at hm0
 try dsimp only at hm0
 refine Does.intro (N := 15) Try.func117 rfl rfl rfl rfl ?_
 intro w0 S0
 refine V.seq ?_
 refine V.region ?_
 refine VO.cons rfl (V1.assign rfl rfl rfl (ltb rfl) ?_)
 refine VO.nil ?_
 refine V.seq ?_
 refine V.region ?_
 refine VO.cons rfl (V1.move rfl rfl rfl (ltb rfl) ?_)
 refine VO.cons rfl (V1.move rfl rfl rfl (ltb rfl) ?_)
 refine VO.cons rfl (V1.int rfl rfl rfl rfl rfl (ltb rfl) ?_)
 refine VO.cons rfl (V1.move rfl rfl rfl (ltb rfl) ?_)
 apply VO.and (n := 3) rfl rfl rfl rfl rfl rfl (ltb rfl) (.none rfl)
 ·
  intro hg0
  refine VO.step (.some rfl rfl rfl) (V1.move rfl rfl rfl (ltb rfl) ?_)
  refine VO.step (.some rfl rfl rfl) (V1.move rfl rfl rfl (ltb rfl) ?_)
  refine VO.step (.some rfl rfl rfl) (V1.int rfl rfl rfl rfl rfl (ltb rfl) ?_)
  exact VO.nil ⟨rfl, rfl, rfl, rfl, .inr ⟨rfl, .inr ⟨rfl, .inr ⟨rfl, .inr ⟨rfl, .inl rfl⟩⟩⟩⟩⟩
 refine VO.cons rfl (V1.assign rfl rfl rfl (ltb rfl) ?_)
 refine VO.nil ?_
 refine V.ret ?_
 obtain rfl := Option.some.inj hm0
 exact ⟨_, [], ⟨_, _, rfl, rfl, rfl⟩, List.nil_sublist _, rfl, rfl⟩

theorem ok_spec_l17Record {rn : Nat} {record : Int} {r : Bool} (h : M.spec_l17Record record = some r) : Does Try.prog 94 [.int .i64 record] [] rn (fun x H => x = .bool r ∧ H = []) := by
 have hm0 := h; clear h; unfold M.spec_l17Record at hm0
 try dsimp only at hm0
 refine Does.intro (N := 5) Try.func94 rfl rfl rfl rfl ?_
 intro w0 S0
 refine V.seq ?_
 refine V.region ?_
 refine VO.cons rfl (V1.assign rfl rfl rfl (ltb rfl) ?_)
 refine VO.nil ?_
 refine V.seq ?_
 replace hm0 := bindO hm0; rcases hm0 with ⟨y0, hh0, hm0⟩
 refine V.region ?_
 refine VO.cons rfl (V1.move rfl rfl rfl (ltb rfl) ?_)
 refine VO.cons rfl (V1.call rfl rfl rfl cok_117 rfl (ok_spec_l1In hh0) rfl (ltb rfl) ?_)
 rintro _ _ ⟨rfl, rfl⟩
 refine VO.cons rfl (V1.assign rfl rfl rfl (ltb rfl) ?_)
 refine VO.nil ?_
 refine V.ret ?_
 obtain rfl := Option.some.inj hm0
 exact ⟨_, [], ⟨_, _, rfl, rfl, rfl⟩, List.nil_sublist _, rfl, rfl⟩

theorem ok_spec_l17Who {rn : Nat} {who : Int} {r : Bool} (h : M.spec_l17Who who = some r) : Does Try.prog 81 [.int .i64 who] [] rn (fun x H => x = .bool r ∧ H = []) := by
 have hm0 := h; clear h; unfold M.spec_l17Who at hm0
 try dsimp only at hm0
 refine Does.intro (N := 5) Try.func81 rfl rfl rfl rfl ?_
 intro w0 S0
 refine V.seq ?_
 refine V.region ?_
 refine VO.cons rfl (V1.assign rfl rfl rfl (ltb rfl) ?_)
 refine VO.nil ?_
 refine V.seq ?_
 replace hm0 := bindO hm0; rcases hm0 with ⟨y0, hh0, hm0⟩
 refine V.region ?_
 refine VO.cons rfl (V1.move rfl rfl rfl (ltb rfl) ?_)
 refine VO.cons rfl (V1.call rfl rfl rfl cok_117 rfl (ok_spec_l1In hh0) rfl (ltb rfl) ?_)
 rintro _ _ ⟨rfl, rfl⟩
 refine VO.cons rfl (V1.assign rfl rfl rfl (ltb rfl) ?_)
 refine VO.nil ?_
 refine V.ret ?_
 obtain rfl := Option.some.inj hm0
 exact ⟨_, [], ⟨_, _, rfl, rfl, rfl⟩, List.nil_sublist _, rfl, rfl⟩

theorem ok_spec_l2Day {rn : Nat} {d : Int} {r : Bool} (h : M.spec_l2Day d = some r) : Does Try.prog 82 [.int .i64 d] [] rn (fun x H => x = .bool r ∧ H = []) := by
 have hm0 := h; clear h; unfold M.spec_l2Day at hm0
 try dsimp only at hm0
 refine Does.intro (N := 5) Try.func82 rfl rfl rfl rfl ?_
 intro w0 S0
 refine V.seq ?_
 refine V.region ?_
 refine VO.cons rfl (V1.assign rfl rfl rfl (ltb rfl) ?_)
 refine VO.nil ?_
 refine V.seq ?_
 replace hm0 := bindO hm0; rcases hm0 with ⟨y0, hh0, hm0⟩
 refine V.region ?_
 refine VO.cons rfl (V1.move rfl rfl rfl (ltb rfl) ?_)
 refine VO.cons rfl (V1.call rfl rfl rfl cok_117 rfl (ok_spec_l1In hh0) rfl (ltb rfl) ?_)
 rintro _ _ ⟨rfl, rfl⟩
 refine VO.cons rfl (V1.assign rfl rfl rfl (ltb rfl) ?_)
 refine VO.nil ?_
 refine V.ret ?_
 obtain rfl := Option.some.inj hm0
 exact ⟨_, [], ⟨_, _, rfl, rfl, rfl⟩, List.nil_sublist _, rfl, rfl⟩

theorem ok_spec_l17One {rn : Nat} {h_ : Hand} {r : Bool} (h : M.spec_l17One h_ = some r) : Does Try.prog 136 [encHand h_] [] rn (fun x H => x = .bool r ∧ H = []) := by
 have hm0 := h; clear h; unfold M.spec_l17One at hm0
 try dsimp only at hm0
 refine Does.intro (N := 33) Try.func136 rfl rfl rfl rfl ?_
 intro w0 S0
 refine V.seq ?_
 refine V.region ?_
 refine VO.cons rfl (V1.boxN (n := 6) rfl rfl rfl rfl rfl (ltb rfl) ?_)
 intro b0
 refine VO.cons rfl (V1.assign rfl rfl rfl (ltb rfl) ?_)
 refine VO.nil ?_
 refine V.seq ?_
 replace hm0 := bindO hm0; rcases hm0 with ⟨y0, hh0, hm0⟩
 replace hm0 := bindO hm0; rcases hm0 with ⟨y1, hh1, hm0⟩
 replace hm0 := bindO hm0; rcases hm0 with ⟨y2, hh2, hm0⟩
 replace hm0 := bindO hm0; rcases hm0 with ⟨y3, hh3, hm0⟩
 replace hm0 := bindO hm0; rcases hm0 with ⟨y4, hh4, hm0⟩
 refine V.region ?_
 refine VO.cons rfl (V1.fieldRef rfl rfl fo_52_0 rfl (ltb rfl) ?_)
 refine VO.cons rfl (V1.loadRef (k := 0) rfl rfl tyk_3 rfl rfl rfl rfl rfl (ltb rfl) ?_)
 refine VO.cons rfl (V1.call rfl rfl rfl cok_94 rfl (ok_spec_l17Record hh0) rfl (ltb rfl) ?_)
 rintro _ _ ⟨rfl, rfl⟩
 refine VO.cons rfl (V1.move rfl rfl rfl (ltb rfl) ?_)
 apply VO.and (n := 3) rfl rfl rfl rfl rfl rfl (ltb rfl) (.none rfl)
 ·
  intro hg0
  refine VO.step (.some rfl rfl rfl) (V1.fieldRef rfl rfl fo_52_1 rfl (ltb rfl) ?_)
  refine VO.step (.some rfl rfl rfl) (V1.loadRef (k := 0) rfl rfl tyk_3 rfl rfl rfl rfl rfl (ltb rfl) ?_)
  refine VO.step (.some rfl rfl rfl) (V1.call rfl rfl rfl cok_81 rfl (ok_spec_l17Who (cond_t hg0 hh1)) rfl (ltb rfl) ?_)
  rintro _ _ ⟨rfl, rfl⟩
  exact VO.nil ⟨rfl, rfl, rfl, rfl, .inr ⟨rfl, .inr ⟨rfl, .inr ⟨rfl, .inr ⟨rfl, .inl rfl⟩⟩⟩⟩⟩
 refine VO.cons rfl (V1.move rfl rfl rfl (ltb rfl) ?_)
 apply VO.and (n := 3) rfl rfl rfl rfl rfl rfl (ltb rfl) (.none rfl)
 ·
  intro hg1
  refine VO.step (.some rfl rfl rfl) (V1.fieldRef rfl rfl fo_52_2 rfl (ltb rfl) ?_)
  refine VO.step (.some rfl rfl rfl) (V1.loadRef (k := 0) rfl rfl tyk_3 rfl rfl rfl rfl rfl (ltb rfl) ?_)
  refine VO.step (.some rfl rfl rfl) (V1.call rfl rfl rfl cok_81 rfl (ok_spec_l17Who (cond_t hg1 hh2)) rfl (ltb rfl) ?_)
  rintro _ _ ⟨rfl, rfl⟩
  exact VO.nil ⟨rfl, rfl, rfl, rfl, .inr ⟨rfl, .inr ⟨rfl, .inr ⟨rfl, .inr ⟨rfl, .inl rfl⟩⟩⟩⟩⟩
 refine VO.cons rfl (V1.move rfl rfl rfl (ltb rfl) ?_)
 apply VO.and (n := 5) rfl rfl rfl rfl rfl rfl (ltb rfl) (.none rfl)
 ·
  intro hg2
  refine VO.step (.some rfl rfl rfl) (V1.fieldRef rfl rfl fo_52_1 rfl (ltb rfl) ?_)
  refine VO.step (.some rfl rfl rfl) (V1.loadRef (k := 0) rfl rfl tyk_3 rfl rfl rfl rfl rfl (ltb rfl) ?_)
  refine VO.step (.some rfl rfl rfl) (V1.fieldRef rfl rfl fo_52_2 rfl (ltb rfl) ?_)
  refine VO.step (.some rfl rfl rfl) (V1.loadRef (k := 0) rfl rfl tyk_3 rfl rfl rfl rfl rfl (ltb rfl) ?_)
  refine VO.step (.some rfl rfl rfl) (V1.int rfl rfl rfl rfl rfl (ltb rfl) ?_)
  exact VO.nil ⟨rfl, rfl, rfl, rfl, .inr ⟨rfl, .inr ⟨rfl, .inr ⟨rfl, .inr ⟨rfl, .inr ⟨rfl, .inr ⟨rfl, .inl rfl⟩⟩⟩⟩⟩⟩⟩
 refine VO.cons rfl (V1.move rfl rfl rfl (ltb rfl) ?_)
 apply VO.and (n := 3) rfl rfl rfl rfl rfl rfl (ltb rfl) (.none rfl)
 ·
  intro hg3
  refine VO.step (.some rfl rfl rfl) (V1.fieldRef rfl rfl fo_52_3 rfl (ltb rfl) ?_)
  refine VO.step (.some rfl rfl rfl) (V1.loadRef (k := 0) rfl rfl tyk_3 rfl rfl rfl rfl rfl (ltb rfl) ?_)
  refine VO.step (.some rfl rfl rfl) (V1.call rfl rfl rfl cok_82 rfl (ok_spec_l2Day (cond_t hg3 hh3)) rfl (ltb rfl) ?_)
  rintro _ _ ⟨rfl, rfl⟩
  exact VO.nil ⟨rfl, rfl, rfl, rfl, .inr ⟨rfl, .inr ⟨rfl, .inr ⟨rfl, .inr ⟨rfl, .inl rfl⟩⟩⟩⟩⟩
 refine VO.cons rfl (V1.move rfl rfl rfl (ltb rfl) ?_)
 apply VO.and (n := 3) rfl rfl rfl rfl rfl rfl (ltb rfl) (.none rfl)
 ·
  intro hg4
  refine VO.step (.some rfl rfl rfl) (V1.fieldRef rfl rfl fo_52_4 rfl (ltb rfl) ?_)
  refine VO.step (.some rfl rfl rfl) (V1.loadRef (k := 0) rfl rfl tyk_3 rfl rfl rfl rfl rfl (ltb rfl) ?_)
  refine VO.step (.some rfl rfl rfl) (V1.call rfl rfl rfl cok_117 rfl (ok_spec_l1In (cond_t hg4 hh4)) rfl (ltb rfl) ?_)
  rintro _ _ ⟨rfl, rfl⟩
  exact VO.nil ⟨rfl, rfl, rfl, rfl, .inr ⟨rfl, .inr ⟨rfl, .inr ⟨rfl, .inr ⟨rfl, .inl rfl⟩⟩⟩⟩⟩
 refine VO.cons rfl (V1.assign rfl rfl rfl (ltb rfl) ?_)
 refine VO.nil ?_
 refine V.ret ?_
 obtain rfl := Option.some.inj hm0
 exact ⟨_, [], ⟨_, _, rfl, rfl, rfl⟩, List.nil_sublist _, rfl, rfl⟩

theorem ok_spec_l17Before {ρ0 rn : Nat} {list : List Hand} {record : Int} {i : Int} {r : Int} (h : M.spec_l17Before list record i = some r) : Does Try.prog 103 [.vl ρ0 6 (List.map encHand list), .int .i64 record, .int .i64 i] [] rn (fun x H => x = .int .i64 r ∧ H = []) := by
 have hm0 := h; clear h; unfold M.spec_l17Before at hm0
 try dsimp only at hm0
 refine Does.intro (N := 22) Try.func103 rfl rfl rfl rfl ?_
 intro w0 S0
 refine V.seq ?_
 refine V.region ?_
 refine VO.cons rfl (V1.assign rfl rfl rfl (ltb rfl) ?_)
 refine VO.nil ?_
 refine V.seq ?_
 refine V.seq ?_
 refine V.region ?_
 refine VO.cons rfl (V1.move rfl rfl rfl (ltb rfl) ?_)
 refine VO.cons rfl (V1.int rfl rfl rfl rfl rfl (ltb rfl) ?_)
 refine VO.cons rfl (V1.assign rfl rfl rfl (ltb rfl) ?_)
 refine VO.nil ?_
 refine V.keep 22 [0, 1, 7] [] (E0 := [(0, .vl ρ0 6 (List.map encHand list)), (1, .int .i64 record), (7, .int .i64 (IntKind.i64.wrap (i - (1 : Int))))]) (H0 := []) rfl (⟨_, _, rfl, rfl, ⟨_, _, rfl, rfl, ⟨_, _, rfl, rfl, rfl⟩⟩⟩) (rfl) rfl ?_
 replace hm0 := bindO hm0; rcases hm0 with ⟨e0, he1, hm0⟩
 refine V.cutT (D := (Unit) × (Unit)) (fun ⟨_, _⟩ => ⟨22, [], []⟩) (fun ⟨_, _⟩ => (.inl () = e0)) ?_ ?_
 ·
  refine V.block ?_
  refine V.keep 22 [7, 0, 1] [] (E0 := [(7, .int .i64 (IntKind.i64.wrap (i - (1 : Int)))), (0, .vl ρ0 6 (List.map encHand list)), (1, .int .i64 record)]) (H0 := []) rfl (⟨_, _, rfl, rfl, ⟨_, _, rfl, rfl, ⟨_, _, rfl, rfl, rfl⟩⟩⟩) (rfl) rfl ?_
  refine V.loopE (D := Nat × (Int) × (Unit)) (fun ⟨n0, k, _⟩ => [(7, .int .i64 k)]) (fun ⟨n0, k, _⟩ => []) (fun ⟨n0, k, _⟩ => loopO (M.spec_l17Before_l0 list record) n0 k = some e0) (fun ⟨n0, _, _⟩ => n0) (rounds, (IntKind.i64.wrap (i - (1 : Int))), ()) rfl he1 ?_
  rintro ⟨n0, k, _⟩ hP0
  obtain ⟨m0, y0, rfl, hm1, hl1, hr1⟩ := loop_head hP0
  unfold M.spec_l17Before_l0 at hm1; dsimp only at hm1
  show V _ _ _ ⟨22, [(7, .int .i64 k), (0, .vl ρ0 6 (List.map encHand list)), (1, .int .i64 record)], []⟩
  refine V.seq ?_
  refine V.seq ?_
  refine V.region ?_
  refine VO.cons rfl (V1.move rfl rfl rfl (ltb rfl) ?_)
  refine VO.cons rfl (V1.int rfl rfl rfl rfl rfl (ltb rfl) ?_)
  refine VO.nil ?_
  refine V.cond rfl (fun hc0 => ?_) (fun hc0 => ?_)
  ·
   replace hm1 := cond_t hc0 hm1
   refine V.skip ?_
   refine V.seq ?_
   refine V.block ?_
   refine V.seq ?_
   replace hm1 := asrt_some hm1; rcases hm1 with ⟨hh0, hm1⟩
   refine V.region ?_
   refine VO.cons rfl (V1.move rfl rfl rfl (ltb rfl) ?_)
   refine VO.cons rfl (V1.move rfl rfl rfl (ltb rfl) ?_)
   refine VO.cons rfl (V1.indexI rfl rfl esz_27 rfl rfl hh0 (ltb rfl) ?_)
   refine VO.cons rfl (V1.fieldPin rfl rfl fo_52_0 rfl (ltb rfl) ?_)
   refine VO.cons rfl (V1.loadPin rfl rfl tyk_3 rfl rfl (ltb rfl) ?_)
   refine VO.cons rfl (V1.move rfl rfl rfl (ltb rfl) ?_)
   refine VO.cons rfl (V1.int rfl rfl rfl rfl rfl (ltb rfl) ?_)
   refine VO.nil ?_
   refine V.keep 22 [0, 1, 7, 20] [] (E0 := [(0, .vl ρ0 6 (List.map encHand list)), (1, .int .i64 record), (7, .int .i64 k), (20, .bool (((list.getD (Int.toNat k) default).Record) == record))]) (H0 := []) rfl (⟨_, _, rfl, rfl, ⟨_, _, rfl, rfl, ⟨_, _, rfl, rfl, ⟨_, _, rfl, rfl, rfl⟩⟩⟩⟩) (rfl) rfl ?_
   refine V.cond rfl (fun hc1 => ?_) (fun hc1 => ?_)
   ·
    replace hm1 := cond_t hc1 hm1
    refine V.seq ?_
    refine V.region ?_
    refine VO.cons rfl (V1.move rfl rfl rfl (ltb rfl) ?_)
    refine VO.cons rfl (V1.assign rfl rfl rfl (ltb rfl) ?_)
    refine VO.nil ?_
    refine V.ret ?_
    obtain rfl := hr1 _ (Option.some.inj hm1).symm
    change some _ = some _ at hm0
    obtain rfl := Option.some.inj hm0
    exact ⟨_, [], ⟨_, _, rfl, rfl, rfl⟩, List.nil_sublist _, rfl, rfl⟩
   ·
    replace hm1 := cond_f hc1 hm1
    refine V.skip ?_
    refine V.region ?_
    refine VO.cons rfl (V1.move rfl rfl rfl (ltb rfl) ?_)
    refine VO.cons rfl (V1.int rfl rfl rfl rfl rfl (ltb rfl) ?_)
    refine VO.cons rfl (V1.assign rfl rfl rfl (ltb rfl) ?_)
    refine VO.nil ?_
    exact ⟨(m0, (IntKind.i64.wrap (k - (1 : Int))), ()), hl1 _ (Option.some.inj hm1).symm, Nat.lt_succ_self _, Keeps.mk (ks := []) rfl ⟨rfl, rfl, rfl, trivial⟩ (rfl) rfl⟩
  ·
   replace hm1 := cond_f hc0 hm1
   refine V.exit ?_
   obtain rfl := hr1 _ (Option.some.inj hm1).symm
   exact ⟨((), ()), rfl, Keeps.mk (ks := []) rfl trivial (rfl) rfl⟩
 ·
  rintro ⟨_, _⟩ rfl
  try dsimp only at hm0
  refine V.seq ?_
  refine V.region ?_
  refine VO.cons rfl (V1.assign rfl rfl rfl (ltb rfl) ?_)
  refine VO.nil ?_
  refine V.ret ?_
  obtain rfl := Option.some.inj hm0
  exact ⟨_, [], ⟨_, _, rfl, rfl, rfl⟩, List.nil_sublist _, rfl, rfl⟩

theorem ok_spec_l17Good {ρ0 rn : Nat} {list : List Hand} {r : Bool} (h : M.spec_l17Good list = some r) : Does Try.prog 80 [.vl ρ0 6 (List.map encHand list)] [] rn (fun x H => x = .bool r ∧ H = []) := by
 have hm0 := h; clear h; unfold M.spec_l17Good at hm0
 try dsimp only at hm0
 refine Does.intro (N := 54) Try.func80 rfl rfl rfl rfl ?_
 intro w0 S0
 refine V.seq ?_
 refine V.region ?_
 refine VO.cons rfl (V1.assign rfl rfl rfl (ltb rfl) ?_)
 refine VO.nil ?_
 refine V.seq ?_
 refine V.seq ?_
 refine V.region ?_
 refine VO.cons rfl (V1.assign rfl rfl rfl (ltb rfl) ?_)
 refine VO.nil ?_
 replace hm0 := bindO hm0; rcases hm0 with ⟨e0, he1, hm0⟩
 refine V.cutT (D := (Unit) × (Unit)) (fun ⟨_, _⟩ => ⟨54, [(0, .vl ρ0 6 (List.map encHand list))], []⟩) (fun ⟨_, _⟩ => (.inl () = e0)) ?_ ?_
 ·
  refine V.block ?_
  refine V.keep 54 [3, 0] [] (E0 := [(3, .int .i64 (0 : Int)), (0, .vl ρ0 6 (List.map encHand list))]) (H0 := []) rfl (⟨_, _, rfl, rfl, ⟨_, _, rfl, rfl, rfl⟩⟩) (rfl) rfl ?_
  refine V.loopE (D := Nat × (Int) × (Unit)) (fun ⟨n0, i, _⟩ => [(3, .int .i64 i)]) (fun ⟨n0, i, _⟩ => []) (fun ⟨n0, i, _⟩ => loopO (M.spec_l17Good_l0 list) n0 i = some e0) (fun ⟨n0, _, _⟩ => n0) (rounds, (0 : Int), ()) rfl he1 ?_
  rintro ⟨n0, i, _⟩ hP0
  obtain ⟨m0, y0, rfl, hm1, hl1, hr1⟩ := loop_head hP0
  unfold M.spec_l17Good_l0 at hm1; dsimp only at hm1
  show V _ _ _ ⟨54, [(3, .int .i64 i), (0, .vl ρ0 6 (List.map encHand list))], []⟩
  refine V.seq ?_
  refine V.seq ?_
  refine V.region ?_
  refine VO.cons rfl (V1.move rfl rfl rfl (ltb rfl) ?_)
  refine VO.cons rfl (V1.move rfl rfl rfl (ltb rfl) ?_)
  refine VO.cons rfl (V1.lenMap rfl rfl rfl rfl rfl rfl isl_27 (ltb rfl) ?_)
  refine VO.cons rfl (V1.int rfl rfl rfl rfl rfl (ltb rfl) ?_)
  refine VO.nil ?_
  refine V.cond rfl (fun hc0 => ?_) (fun hc0 => ?_)
  ·
   replace hm1 := cond_t hc0 hm1
   refine V.skip ?_
   refine V.keep 54 [0, 3] [] (E0 := [(0, .vl ρ0 6 (List.map encHand list)), (3, .int .i64 i)]) (H0 := []) rfl (⟨_, _, rfl, rfl, ⟨_, _, rfl, rfl, rfl⟩⟩) (rfl) rfl ?_
   refine V.seq ?_
   refine V.block ?_
   refine V.seq ?_
   replace hm1 := asrt_some hm1; rcases hm1 with ⟨hh0, hm1⟩
   refine V.region ?_
   refine VO.cons rfl (V1.move rfl rfl rfl (ltb rfl) ?_)
   refine VO.cons rfl (V1.move rfl rfl rfl (ltb rfl) ?_)
   refine VO.cons rfl (V1.indexI rfl rfl esz_27 rfl rfl hh0 (ltb rfl) ?_)
   refine VO.cons rfl (V1.loadPinAll rfl rfl tyk_52 rfl rfl (ltb rfl) ?_)
   refine VO.cons rfl (V1.alloc rfl rfl zk_52 (ltb rfl) ?_)
   intro b0
   refine VO.cons rfl (V1.storeRefAll (k := 0) rfl rfl tyk_52 rfl rfl rfl rfl rfl rfl ?_)
   refine VO.nil ?_
   refine V.keep 54 [0, 3, 4] [0] (E0 := [(0, .vl ρ0 6 (List.map encHand list)), (3, .int .i64 i), (4, .ref b0 6 0 0)]) (H0 := [(b0, ⟨6, [encHand (list.getD (Int.toNat i) default)]⟩)]) rfl (⟨_, _, rfl, rfl, ⟨_, _, rfl, rfl, ⟨_, _, rfl, rfl, rfl⟩⟩⟩) (⟨_, _, rfl, rfl, rfl⟩) rfl ?_
   refine V.seq ?_
   refine V.seq ?_
   replace hm1 := bindO hm1; rcases hm1 with ⟨y1, hh1, hm1⟩
   replace hm1 := asrt_some hm1; rcases hm1 with ⟨hh2, hm1⟩
   refine V.regionM 54 18 [⟨[(4, none)], [], none⟩, ⟨[(16, some 0)], [], none⟩, ⟨[(17, some 0)], [], none⟩, ⟨[(18, some 0)], [], none⟩, ⟨[(3, none)], [(0, false)], none⟩, ⟨[(20, some 0)], [(1, false)], none⟩, ⟨[(21, some 0)], [(2, false)], none⟩, ⟨[(0, none)], [(0, true), (3, false)], none⟩, ⟨[(3, none)], [(1, true), (4, false)], none⟩, ⟨[(24, some 0)], [(2, true), (5, false)], none⟩, ⟨[(23, some 2), (25, some 0)], [(3, true), (6, false)], none⟩, ⟨[(26, some 0)], [(4, true), (7, false)], none⟩, ⟨[(27, some 0)], [(5, true), (8, false)], none⟩, ⟨[(4, none)], [(6, true), (9, false)], none⟩, ⟨[(29, some 0)], [(7, true), (10, false)], none⟩, ⟨[(28, some 2), (30, some 0)], [(8, true), (11, false)], none⟩, ⟨[], [(12, false)], some (true, 22, 31, 9, 0)⟩, ⟨[], [], some (false, 19, 32, 13, 0)⟩] [(0, none), (3, none), (4, none), (33, some 0)] (⟨_, rfl, ⟨_, rfl, ⟨_, rfl, ⟨_, rfl, ⟨_, rfl, ⟨_, rfl, ⟨_, rfl, ⟨_, rfl, ⟨_, rfl, ⟨_, rfl, ⟨_, rfl, ⟨_, rfl, ⟨_, rfl, ⟨_, rfl, ⟨_, rfl, ⟨_, rfl, ⟨_, rfl, ⟨_, rfl, ⟨rfl, rfl⟩⟩⟩⟩⟩⟩⟩⟩⟩⟩⟩⟩⟩⟩⟩⟩⟩⟩⟩) mixed_orders rfl (by decide +kernel) (fun hck5 => ?_)
   refine VP.step (p := ?pv217) rfl rfl rfl (⟨_, _, rfl, rfl, rfl⟩) ?hv217 ?rest217 hck5
   case hv217 =>
    intro E1
    refine (V1.loadRefAll (k := 0) rfl rfl tyk_52 rfl rfl rfl rfl rfl (ltb rfl) ?_)
    exact rfl
   refine VP.step (p := ?pv218) rfl rfl rfl (⟨_, _, rfl, rfl, rfl⟩) ?hv218 ?rest218 hck5
   case hv218 =>
    intro E1
    refine (V1.call rfl rfl rfl cok_136 rfl (ok_spec_l17One hh1) rfl (ltb rfl) ?_)
    rintro _ _ ⟨rfl, rfl⟩
    exact rfl
   refine VP.step (p := ?pv219) rfl rfl rfl (⟨_, _, rfl, rfl, rfl⟩) ?hv219 ?rest219 hck5
   case hv219 =>
    intro E1
    refine (V1.not rfl rfl rfl (ltb rfl) ?_)
    exact rfl
   refine VP.step (p := ?pv220) rfl rfl rfl (⟨_, _, rfl, rfl, rfl⟩) ?hv220 ?rest220 hck5
   case hv220 =>
    intro E1
    refine (V1.move rfl rfl rfl (ltb rfl) ?_)
    exact rfl
   refine VP.step (p := ?pv221) rfl rfl rfl (⟨_, _, rfl, rfl, rfl⟩) ?hv221 ?rest221 hck5
   case hv221 =>
    refine ⟨_, rfl, fun hg0 => ?_⟩
    intro E1
    refine (V1.move rfl rfl rfl (ltb rfl) ?_)
    exact rfl
   refine VP.step (p := ?pv222) rfl rfl rfl (⟨_, _, rfl, rfl, rfl⟩) ?hv222 ?rest222 hck5
   case hv222 =>
    refine ⟨_, rfl, fun hg0 => ?_⟩
    intro E1
    refine (V1.int rfl rfl rfl rfl rfl (ltb rfl) ?_)
    exact rfl
   refine VP.step (p := ?pv223) rfl rfl rfl (⟨_, _, rfl, rfl, rfl⟩) ?hv223 ?rest223 hck5
   case hv223 =>
    refine ⟨_, rfl, fun hg0 => ?_⟩
    intro E1
    refine (V1.move rfl rfl rfl (ltb rfl) ?_)
    exact rfl
   refine VP.step (p := ?pv224) rfl rfl rfl (⟨_, _, rfl, rfl, rfl⟩) ?hv224 ?rest224 hck5
   case hv224 =>
    refine ⟨_, rfl, fun hg1 => ?_⟩
    refine ⟨_, rfl, fun hg0 => ?_⟩
    intro E1
    refine (V1.move rfl rfl rfl (ltb rfl) ?_)
    exact rfl
   refine VP.step (p := ?pv225) rfl rfl rfl (⟨_, _, rfl, rfl, rfl⟩) ?hv225 ?rest225 hck5
   case hv225 =>
    refine ⟨_, rfl, fun hg1 => ?_⟩
    refine ⟨_, rfl, fun hg0 => ?_⟩
    intro E1
    refine (V1.move rfl rfl rfl (ltb rfl) ?_)
    exact rfl
   refine VP.step (p := ?pv226) rfl rfl rfl (⟨_, _, rfl, rfl, rfl⟩) ?hv226 ?rest226 hck5
   case hv226 =>
    refine ⟨_, rfl, fun hg1 => ?_⟩
    refine ⟨_, rfl, fun hg0 => ?_⟩
    intro E1
    refine (V1.int rfl rfl rfl rfl rfl (ltb rfl) ?_)
    exact rfl
   refine VP.step (p := ?pv227) rfl rfl rfl (⟨_, _, rfl, rfl, ⟨_, _, rfl, rfl, rfl⟩⟩) ?hv227 ?rest227 hck5
   case hv227 =>
    refine ⟨_, rfl, fun hg1 => ?_⟩
    refine ⟨_, rfl, fun hg0 => ?_⟩
    intro E1
    refine (V1.indexI rfl rfl esz_27 rfl rfl (hh2 hg0 hg1) (ltb rfl) ?_)
    exact rfl
   refine VP.step (p := ?pv228) rfl rfl rfl (⟨_, _, rfl, rfl, rfl⟩) ?hv228 ?rest228 hck5
   case hv228 =>
    refine ⟨_, rfl, fun hg1 => ?_⟩
    refine ⟨_, rfl, fun hg0 => ?_⟩
    intro E1
    refine (V1.fieldPin rfl rfl fo_52_3 rfl (ltb rfl) ?_)
    exact rfl
   refine VP.step (p := ?pv229) rfl rfl rfl (⟨_, _, rfl, rfl, rfl⟩) ?hv229 ?rest229 hck5
   case hv229 =>
    refine ⟨_, rfl, fun hg1 => ?_⟩
    refine ⟨_, rfl, fun hg0 => ?_⟩
    intro E1
    refine (V1.loadPin rfl rfl tyk_3 rfl rfl (ltb rfl) ?_)
    exact rfl
   refine VP.step (p := ?pv230) rfl rfl rfl (⟨_, _, rfl, rfl, rfl⟩) ?hv230 ?rest230 hck5
   case hv230 =>
    refine ⟨_, rfl, fun hg1 => ?_⟩
    refine ⟨_, rfl, fun hg0 => ?_⟩
    intro E1
    refine (V1.fieldRef rfl rfl fo_52_3 rfl (ltb rfl) ?_)
    exact rfl
   refine VP.step (p := ?pv231) rfl rfl rfl (⟨_, _, rfl, rfl, rfl⟩) ?hv231 ?rest231 hck5
   case hv231 =>
    refine ⟨_, rfl, fun hg1 => ?_⟩
    refine ⟨_, rfl, fun hg0 => ?_⟩
    intro E1
    refine (V1.loadRef (k := 0) rfl rfl tyk_3 rfl rfl rfl rfl rfl (ltb rfl) ?_)
    exact rfl
   refine VP.step (p := ?pv232) rfl rfl rfl (⟨_, _, rfl, rfl, ⟨_, _, rfl, rfl, rfl⟩⟩) ?hv232 ?rest232 hck5
   case hv232 =>
    refine ⟨_, rfl, fun hg1 => ?_⟩
    refine ⟨_, rfl, fun hg0 => ?_⟩
    intro E1
    refine (V1.int rfl rfl rfl rfl rfl (ltb rfl) ?_)
    exact rfl
   refine VP.pickAnd rfl rfl rfl rfl rfl rfl (⟨_, rfl, fun _ => trivial⟩) ?_ hck5
   refine VP.pickOr rfl rfl rfl rfl rfl rfl (trivial) ?_ hck5
   refine VP.fin rfl (⟨_, _, rfl, rfl, ⟨_, _, rfl, rfl, ⟨_, _, rfl, rfl, ⟨_, _, rfl, rfl, rfl⟩⟩⟩⟩) ?_
   refine VO.nil ?_
   refine V.cond rfl (fun hc1 => ?_) (fun hc1 => ?_)
   ·
    replace hm1 := cond_t hc1 hm1
    refine V.seq ?_
    refine V.region ?_
    refine VO.cons rfl (V1.assign rfl rfl rfl (ltb rfl) ?_)
    refine VO.nil ?_
    refine V.ret ?_
    obtain rfl := hr1 _ (Option.some.inj hm1).symm
    change some _ = some _ at hm0
    obtain rfl := Option.some.inj hm0
    exact ⟨_, [], ⟨_, _, rfl, rfl, rfl⟩, List.nil_sublist _, rfl, rfl⟩
   ·
    replace hm1 := cond_f hc1 hm1
    refine V.skip ?_
    refine V.seq ?_
    replace hm1 := bindO hm1; rcases hm1 with ⟨y2, hh3, hm1⟩
    refine V.region ?_
    refine VO.cons rfl (V1.move rfl rfl rfl (ltb rfl) ?_)
    refine VO.cons rfl (V1.fieldRef rfl rfl fo_52_0 rfl (ltb rfl) ?_)
    refine VO.cons rfl (V1.loadRef (k := 0) rfl rfl tyk_3 rfl rfl rfl rfl rfl (ltb rfl) ?_)
    refine VO.cons rfl (V1.move rfl rfl rfl (ltb rfl) ?_)
    refine VO.cons rfl (V1.call rfl rfl rfl cok_103 rfl (ok_spec_l17Before hh3) rfl (ltb rfl) ?_)
    rintro _ _ ⟨rfl, rfl⟩
    refine VO.cons rfl (V1.assign rfl rfl rfl (ltb rfl) ?_)
    refine VO.nil ?_
    refine V.keep 54 [0, 3, 4, 5] [0] (E0 := [(0, .vl ρ0 6 (List.map encHand list)), (3, .int .i64 i), (4, .ref b0 6 0 0), (5, .int .i64 y2)]) (H0 := [(b0, ⟨6, [encHand (list.getD (Int.toNat i) default)]⟩)]) rfl (⟨_, _, rfl, rfl, ⟨_, _, rfl, rfl, ⟨_, _, rfl, rfl, ⟨_, _, rfl, rfl, rfl⟩⟩⟩⟩) (⟨_, _, rfl, rfl, rfl⟩) rfl ?_
    refine V.seq ?_
    replace hm1 := asrt_some hm1; rcases hm1 with ⟨hh4, hm1⟩
    refine V.regionM 54 12 [⟨[(5, none)], [], none⟩, ⟨[(39, some 0)], [], none⟩, ⟨[(40, some 0)], [], none⟩, ⟨[(0, none)], [(0, true)], none⟩, ⟨[(5, none)], [(1, true)], none⟩, ⟨[(42, some 1), (43, some 0)], [(2, true)], none⟩, ⟨[(44, some 0)], [(3, true)], none⟩, ⟨[(45, some 0)], [(4, true)], none⟩, ⟨[(4, none)], [(5, true)], none⟩, ⟨[(47, some 0)], [(6, true)], none⟩, ⟨[(46, some 2), (48, some 0)], [(7, true)], none⟩, ⟨[], [], some (true, 41, 49, 8, 0)⟩] [(0, none), (3, none), (50, some 0)] (⟨_, rfl, ⟨_, rfl, ⟨_, rfl, ⟨_, rfl, ⟨_, rfl, ⟨_, rfl, ⟨_, rfl, ⟨_, rfl, ⟨_, rfl, ⟨_, rfl, ⟨_, rfl, ⟨_, rfl, ⟨rfl, rfl⟩⟩⟩⟩⟩⟩⟩⟩⟩⟩⟩⟩⟩) mixed_orders rfl (by decide +kernel) (fun hck8 => ?_)
    refine VP.step (p := ?pv233) rfl rfl rfl (⟨_, _, rfl, rfl, rfl⟩) ?hv233 ?rest233 hck8
    case hv233 =>
     intro E1
     refine (V1.move rfl rfl rfl (ltb rfl) ?_)
     exact rfl
    refine VP.step (p := ?pv234) rfl rfl rfl (⟨_, _, rfl, rfl, rfl⟩) ?hv234 ?rest234 hck8
    case hv234 =>
     intro E1
     refine (V1.int rfl rfl rfl rfl rfl (ltb rfl) ?_)
     exact rfl
    refine VP.step (p := ?pv235) rfl rfl rfl (⟨_, _, rfl, rfl, rfl⟩) ?hv235 ?rest235 hck8
    case hv235 =>
     intro E1
     refine (V1.move rfl rfl rfl (ltb rfl) ?_)
     exact rfl
    refine VP.step (p := ?pv236) rfl rfl rfl (⟨_, _, rfl, rfl, rfl⟩) ?hv236 ?rest236 hck8
    case hv236 =>
     refine ⟨_, rfl, fun hg2 => ?_⟩
     intro E1
     refine (V1.move rfl rfl rfl (ltb rfl) ?_)
     exact rfl
    refine VP.step (p := ?pv237) rfl rfl rfl (⟨_, _, rfl, rfl, rfl⟩) ?hv237 ?rest237 hck8
    case hv237 =>
     refine ⟨_, rfl, fun hg2 => ?_⟩
     intro E1
     refine (V1.move rfl rfl rfl (ltb rfl) ?_)
     exact rfl
    refine VP.step (p := ?pv238) rfl rfl rfl (⟨_, _, rfl, rfl, ⟨_, _, rfl, rfl, rfl⟩⟩) ?hv238 ?rest238 hck8
    case hv238 =>
     refine ⟨_, rfl, fun hg2 => ?_⟩
     intro E1
     refine (V1.indexI rfl rfl esz_27 rfl rfl (hh4 hg2) (ltb rfl) ?_)
     exact rfl
    refine VP.step (p := ?pv239) rfl rfl rfl (⟨_, _, rfl, rfl, rfl⟩) ?hv239 ?rest239 hck8
    case hv239 =>
     refine ⟨_, rfl, fun hg2 => ?_⟩
     intro E1
     refine (V1.fieldPin rfl rfl fo_52_2 rfl (ltb rfl) ?_)
     exact rfl
    refine VP.step (p := ?pv240) rfl rfl rfl (⟨_, _, rfl, rfl, rfl⟩) ?hv240 ?rest240 hck8
    case hv240 =>
     refine ⟨_, rfl, fun hg2 => ?_⟩
     intro E1
     refine (V1.loadPin rfl rfl tyk_3 rfl rfl (ltb rfl) ?_)
     exact rfl
    refine VP.step (p := ?pv241) rfl rfl rfl (⟨_, _, rfl, rfl, rfl⟩) ?hv241 ?rest241 hck8
    case hv241 =>
     refine ⟨_, rfl, fun hg2 => ?_⟩
     intro E1
     refine (V1.fieldRef rfl rfl fo_52_1 rfl (ltb rfl) ?_)
     exact rfl
    refine VP.step (p := ?pv242) rfl rfl rfl (⟨_, _, rfl, rfl, rfl⟩) ?hv242 ?rest242 hck8
    case hv242 =>
     refine ⟨_, rfl, fun hg2 => ?_⟩
     intro E1
     refine (V1.loadRef (k := 0) rfl rfl tyk_3 rfl rfl rfl rfl rfl (ltb rfl) ?_)
     exact rfl
    refine VP.step (p := ?pv243) rfl rfl rfl (⟨_, _, rfl, rfl, ⟨_, _, rfl, rfl, rfl⟩⟩) ?hv243 ?rest243 hck8
    case hv243 =>
     refine ⟨_, rfl, fun hg2 => ?_⟩
     intro E1
     refine (V1.int rfl rfl rfl rfl rfl (ltb rfl) ?_)
     exact rfl
    refine VP.pickAnd rfl rfl rfl rfl rfl rfl (trivial) ?_ hck8
    refine VP.fin rfl (⟨_, _, rfl, rfl, ⟨_, _, rfl, rfl, ⟨_, _, rfl, rfl, rfl⟩⟩⟩) ?_
    refine VO.nil ?_
    refine V.cond rfl (fun hc2 => ?_) (fun hc2 => ?_)
    ·
     replace hm1 := cond_t hc2 hm1
     refine V.seq ?_
     refine V.region ?_
     refine VO.cons rfl (V1.assign rfl rfl rfl (ltb rfl) ?_)
     refine VO.nil ?_
     refine V.ret ?_
     obtain rfl := hr1 _ (Option.some.inj hm1).symm
     change some _ = some _ at hm0
     obtain rfl := Option.some.inj hm0
     exact ⟨_, [], ⟨_, _, rfl, rfl, rfl⟩, List.nil_sublist _, rfl, rfl⟩
    ·
     replace hm1 := cond_f hc2 hm1
     refine V.skip ?_
     refine V.region ?_
     refine VO.cons rfl (V1.move rfl rfl rfl (ltb rfl) ?_)
     refine VO.cons rfl (V1.int rfl rfl rfl rfl rfl (ltb rfl) ?_)
     refine VO.cons rfl (V1.assign rfl rfl rfl (ltb rfl) ?_)
     refine VO.nil ?_
     exact ⟨(m0, (IntKind.i64.wrap (i + (1 : Int))), ()), hl1 _ (Option.some.inj hm1).symm, Nat.lt_succ_self _, Keeps.mk (ks := []) rfl ⟨rfl, rfl, trivial⟩ (rfl) rfl⟩
  ·
   replace hm1 := cond_f hc0 hm1
   refine V.exit ?_
   obtain rfl := hr1 _ (Option.some.inj hm1).symm
   exact ⟨((), ()), rfl, Keeps.mk (ks := []) rfl ⟨rfl, trivial⟩ (rfl) rfl⟩
 ·
  rintro ⟨_, _⟩ rfl
  try dsimp only at hm0
  refine V.seq ?_
  refine V.region ?_
  refine VO.cons rfl (V1.move rfl rfl rfl (ltb rfl) ?_)
  refine VO.cons rfl (V1.lenMap rfl rfl rfl rfl rfl rfl isl_27 (ltb rfl) ?_)
  refine VO.cons rfl (V1.int rfl rfl rfl rfl rfl (ltb rfl) ?_)
  refine VO.cons rfl (V1.assign rfl rfl rfl (ltb rfl) ?_)
  refine VO.nil ?_
  refine V.ret ?_
  obtain rfl := Option.some.inj hm0
  exact ⟨_, [], ⟨_, _, rfl, rfl, rfl⟩, List.nil_sublist _, rfl, rfl⟩

theorem ok_spec_l17Turns {ρ0 rn : Nat} {list : List Hand} {r : List (List Int)} (h : M.spec_l17Turns list = some r) : Does Try.prog 92 [.vl ρ0 6 (List.map encHand list)] [] rn (fun x H => ∃ (ob0_ : Nat), x = PV.sref ob0_ 1 0 (List.length r) ∧ H = [(ob0_, ⟨1, List.map (encL rn 1 encInt) r⟩)]) := by
 have hm0 := h; clear h; unfold M.spec_l17Turns at hm0
 try dsimp only at hm0
 refine Does.intro (N := 43) Try.func92 rfl rfl rfl rfl ?_
 intro w0 S0
 refine V.seq ?_
 refine V.region ?_
 refine VO.cons rfl (V1.assign rfl rfl rfl (ltb rfl) ?_)
 refine VO.nil ?_
 refine V.seq ?_
 refine V.region ?_
 refine VO.cons rfl (V1.buildSliceT (f := (encL rn 1 encInt)) ([] : List (List Int)) rfl rfl esz_38 zk_24 rfl rfl rfl rfl rfl rfl rfl (ltb rfl) ?_)
 intro b0
 refine VO.cons rfl (V1.assign rfl rfl rfl (ltb rfl) ?_)
 refine VO.nil ?_
 refine V.seq ?_
 refine V.seq ?_
 refine V.region ?_
 refine VO.cons rfl (V1.assign rfl rfl rfl (ltb rfl) ?_)
 refine VO.nil ?_
 replace hm0 := bindO hm0; rcases hm0 with ⟨e0, he1, hm0⟩
 refine V.cutT (D := (List (List Int)) × (Nat)) (fun ⟨out_, b1⟩ => ⟨43, [(3, .sref b1 1 0 (List.length out_))], [(b1, ⟨1, List.map (encL rn 1 encInt) out_⟩)]⟩) (fun ⟨out_, b1⟩ => (out_ = e0)) ?_ ?_
 ·
  refine V.block ?_
  refine V.keep 43 [3, 4, 0] [0] (E0 := [(3, .sref b0 1 0 (List.length ([] : List (List Int)))), (4, .int .i64 (0 : Int)), (0, .vl ρ0 6 (List.map encHand list))]) (H0 := [(b0, ⟨1, List.map (encL rn 1 encInt) ([] : List (List Int))⟩)]) rfl (⟨_, _, rfl, rfl, ⟨_, _, rfl, rfl, ⟨_, _, rfl, rfl, rfl⟩⟩⟩) (⟨_, _, rfl, rfl, rfl⟩) rfl ?_
  refine V.loopE (D := Nat × (List (List Int) × Int) × (Nat)) (fun ⟨n0, ⟨out_0, i⟩, b2⟩ => [(3, .sref b2 1 0 (List.length out_0)), (4, .int .i64 i)]) (fun ⟨n0, ⟨out_0, i⟩, b2⟩ => [(b2, ⟨1, List.map (encL rn 1 encInt) out_0⟩)]) (fun ⟨n0, ⟨out_0, i⟩, b2⟩ => loopO (M.spec_l17Turns_l0 list) n0 (out_0, i) = some e0) (fun ⟨n0, _, _⟩ => n0) (rounds, (([] : List (List Int)), (0 : Int)), b0) rfl he1 ?_
  rintro ⟨n0, ⟨out_0, i⟩, b2⟩ hP0
  obtain ⟨m0, y0, rfl, hm1, hl1, hr1⟩ := loop_head hP0
  unfold M.spec_l17Turns_l0 at hm1; dsimp only at hm1
  show V _ _ _ ⟨43, [(3, .sref b2 1 0 (List.length out_0)), (4, .int .i64 i), (0, .vl ρ0 6 (List.map encHand list))], [(b2, ⟨1, List.map (encL rn 1 encInt) out_0⟩)]⟩
  refine V.seq ?_
  refine V.seq ?_
  refine V.region ?_
  refine VO.cons rfl (V1.move rfl rfl rfl (ltb rfl) ?_)
  refine VO.cons rfl (V1.move rfl rfl rfl (ltb rfl) ?_)
  refine VO.cons rfl (V1.lenMap rfl rfl rfl rfl rfl rfl isl_27 (ltb rfl) ?_)
  refine VO.cons rfl (V1.int rfl rfl rfl rfl rfl (ltb rfl) ?_)
  refine VO.nil ?_
  refine V.cond rfl (fun hc0 => ?_) (fun hc0 => ?_)
  ·
   replace hm1 := cond_t hc0 hm1
   refine V.skip ?_
   refine V.keep 43 [0, 3, 4] [0] (E0 := [(0, .vl ρ0 6 (List.map encHand list)), (3, .sref b2 1 0 (List.length out_0)), (4, .int .i64 i)]) (H0 := [(b2, ⟨1, List.map (encL rn 1 encInt) out_0⟩)]) rfl (⟨_, _, rfl, rfl, ⟨_, _, rfl, rfl, ⟨_, _, rfl, rfl, rfl⟩⟩⟩) (⟨_, _, rfl, rfl, rfl⟩) rfl ?_
   refine V.seq ?_
   replace hm1 := bindO hm1; rcases hm1 with ⟨j0, hm2, hm1⟩
   refine V.cutT (D := (List (List Int)) × (Nat)) (fun ⟨out_1, b3⟩ => ⟨43, [(3, .sref b3 1 0 (List.length out_1)), (0, .vl ρ0 6 (List.map encHand list)), (4, .int .i64 i)], [(b3, ⟨1, List.map (encL rn 1 encInt) out_1⟩)]⟩) (fun ⟨out_1, b3⟩ => (out_1 = j0)) ?_ ?_
   ·
    refine V.block ?_
    refine V.seq ?_
    replace hm2 := asrt_some hm2; rcases hm2 with ⟨hh0, hm2⟩
    replace hm2 := bindO hm2; rcases hm2 with ⟨y1, hh1, hm2⟩
    refine V.region ?_
    refine VO.cons rfl (V1.move rfl rfl rfl (ltb rfl) ?_)
    refine VO.cons rfl (V1.move rfl rfl rfl (ltb rfl) ?_)
    refine VO.cons rfl (V1.move rfl rfl rfl (ltb rfl) ?_)
    refine VO.cons rfl (V1.indexI rfl rfl esz_27 rfl rfl hh0 (ltb rfl) ?_)
    refine VO.cons rfl (V1.fieldPin rfl rfl fo_52_0 rfl (ltb rfl) ?_)
    refine VO.cons rfl (V1.loadPin rfl rfl tyk_3 rfl rfl (ltb rfl) ?_)
    refine VO.cons rfl (V1.move rfl rfl rfl (ltb rfl) ?_)
    refine VO.cons rfl (V1.call rfl rfl rfl cok_103 rfl (ok_spec_l17Before hh1) rfl (ltb rfl) ?_)
    rintro _ _ ⟨rfl, rfl⟩
    refine VO.cons rfl (V1.assign rfl rfl rfl (ltb rfl) ?_)
    refine VO.nil ?_
    refine V.keep 43 [0, 3, 4, 5] [0] (E0 := [(0, .vl ρ0 6 (List.map encHand list)), (3, .sref b2 1 0 (List.length out_0)), (4, .int .i64 i), (5, .int .i64 y1)]) (H0 := [(b2, ⟨1, List.map (encL rn 1 encInt) out_0⟩)]) rfl (⟨_, _, rfl, rfl, ⟨_, _, rfl, rfl, ⟨_, _, rfl, rfl, ⟨_, _, rfl, rfl, rfl⟩⟩⟩⟩) (⟨_, _, rfl, rfl, rfl⟩) rfl ?_
    refine V.seq ?_
    replace hm2 := asrt_some hm2; rcases hm2 with ⟨hh2, hm2⟩
    replace hm2 := asrt_some hm2; rcases hm2 with ⟨hh3, hm2⟩
    refine V.regionM 43 15 [⟨[(5, none)], [], none⟩, ⟨[(21, some 0)], [], none⟩, ⟨[(22, some 0)], [], none⟩, ⟨[(0, none)], [(0, true)], none⟩, ⟨[(5, none)], [(1, true)], none⟩, ⟨[(24, some 1), (25, some 0)], [(2, true)], none⟩, ⟨[(26, some 0)], [(3, true)], none⟩, ⟨[(27, some 0)], [(4, true)], none⟩, ⟨[(0, none)], [(5, true)], none⟩, ⟨[(4, none)], [(6, true)], none⟩, ⟨[(29, some 1), (30, some 0)], [(7, true)], none⟩, ⟨[(31, some 0)], [(8, true)], none⟩, ⟨[(32, some 0)], [(9, true)], none⟩, ⟨[(28, some 5), (33, some 0)], [(10, true)], none⟩, ⟨[], [], some (true, 23, 34, 11, 0)⟩] [(0, none), (3, none), (4, none), (5, none), (35, some 0)] (⟨_, rfl, ⟨_, rfl, ⟨_, rfl, ⟨_, rfl, ⟨_, rfl, ⟨_, rfl, ⟨_, rfl, ⟨_, rfl, ⟨_, rfl, ⟨_, rfl, ⟨_, rfl, ⟨_, rfl, ⟨_, rfl, ⟨_, rfl, ⟨_, rfl, ⟨rfl, rfl⟩⟩⟩⟩⟩⟩⟩⟩⟩⟩⟩⟩⟩⟩⟩⟩) mixed_orders rfl (by decide +kernel) (fun hck6 => ?_)
    refine VP.step (p := ?pv239) rfl rfl rfl (⟨_, _, rfl, rfl, rfl⟩) ?hv239 ?rest239 hck6
    case hv239 =>
     intro E1
     refine (V1.move rfl rfl rfl (ltb rfl) ?_)
     exact rfl
    refine VP.step (p := ?pv240) rfl rfl rfl (⟨_, _, rfl, rfl, rfl⟩) ?hv240 ?rest240 hck6
    case hv240 =>
     intro E1
     refine (V1.int rfl rfl rfl rfl rfl (ltb rfl) ?_)
     exact rfl
    refine VP.step (p := ?pv241) rfl rfl rfl (⟨_, _, rfl, rfl, rfl⟩) ?hv241 ?rest241 hck6
    case hv241 =>
     intro E1
     refine (V1.move rfl rfl rfl (ltb rfl) ?_)
     exact rfl
    refine VP.step (p := ?pv242) rfl rfl rfl (⟨_, _, rfl, rfl, rfl⟩) ?hv242 ?rest242 hck6
    case hv242 =>
     refine ⟨_, rfl, fun hg0 => ?_⟩
     intro E1
     refine (V1.move rfl rfl rfl (ltb rfl) ?_)
     exact rfl
    refine VP.step (p := ?pv243) rfl rfl rfl (⟨_, _, rfl, rfl, rfl⟩) ?hv243 ?rest243 hck6
    case hv243 =>
     refine ⟨_, rfl, fun hg0 => ?_⟩
     intro E1
     refine (V1.move rfl rfl rfl (ltb rfl) ?_)
     exact rfl
    refine VP.step (p := ?pv244) rfl rfl rfl (⟨_, _, rfl, rfl, ⟨_, _, rfl, rfl, rfl⟩⟩) ?hv244 ?rest244 hck6
    case hv244 =>
     refine ⟨_, rfl, fun hg0 => ?_⟩
     intro E1
     refine (V1.indexI rfl rfl esz_27 rfl rfl (hh2 hg0) (ltb rfl) ?_)
     exact rfl
    refine VP.step (p := ?pv245) rfl rfl rfl (⟨_, _, rfl, rfl, rfl⟩) ?hv245 ?rest245 hck6
    case hv245 =>
     refine ⟨_, rfl, fun hg0 => ?_⟩
     intro E1
     refine (V1.fieldPin rfl rfl fo_52_4 rfl (ltb rfl) ?_)
     exact rfl
    refine VP.step (p := ?pv246) rfl rfl rfl (⟨_, _, rfl, rfl, rfl⟩) ?hv246 ?rest246 hck6
    case hv246 =>
     refine ⟨_, rfl, fun hg0 => ?_⟩
     intro E1
     refine (V1.loadPin rfl rfl tyk_3 rfl rfl (ltb rfl) ?_)
     exact rfl
    refine VP.step (p := ?pv247) rfl rfl rfl (⟨_, _, rfl, rfl, rfl⟩) ?hv247 ?rest247 hck6
    case hv247 =>
     refine ⟨_, rfl, fun hg0 => ?_⟩
     intro E1
     refine (V1.move rfl rfl rfl (ltb rfl) ?_)
     exact rfl
    refine VP.step (p := ?pv248) rfl rfl rfl (⟨_, _, rfl, rfl, rfl⟩) ?hv248 ?rest248 hck6
    case hv248 =>
     refine ⟨_, rfl, fun hg0 => ?_⟩
     intro E1
     refine (V1.move rfl rfl rfl (ltb rfl) ?_)
     exact rfl
    refine VP.step (p := ?pv249) rfl rfl rfl (⟨_, _, rfl, rfl, ⟨_, _, rfl, rfl, rfl⟩⟩) ?hv249 ?rest249 hck6
    case hv249 =>
     refine ⟨_, rfl, fun hg0 => ?_⟩
     intro E1
     refine (V1.indexI rfl rfl esz_27 rfl rfl (hh3 hg0) (ltb rfl) ?_)
     exact rfl
    refine VP.step (p := ?pv250) rfl rfl rfl (⟨_, _, rfl, rfl, rfl⟩) ?hv250 ?rest250 hck6
    case hv250 =>
     refine ⟨_, rfl, fun hg0 => ?_⟩
     intro E1
     refine (V1.fieldPin rfl rfl fo_52_4 rfl (ltb rfl) ?_)
     exact rfl
    refine VP.step (p := ?pv251) rfl rfl rfl (⟨_, _, rfl, rfl, rfl⟩) ?hv251 ?rest251 hck6
    case hv251 =>
     refine ⟨_, rfl, fun hg0 => ?_⟩
     intro E1
     refine (V1.loadPin rfl rfl tyk_3 rfl rfl (ltb rfl) ?_)
     exact rfl
    refine VP.step (p := ?pv252) rfl rfl rfl (⟨_, _, rfl, rfl, ⟨_, _, rfl, rfl, rfl⟩⟩) ?hv252 ?rest252 hck6
    case hv252 =>
     refine ⟨_, rfl, fun hg0 => ?_⟩
     intro E1
     refine (V1.int rfl rfl rfl rfl rfl (ltb rfl) ?_)
     exact rfl
    refine VP.pickAnd rfl rfl rfl rfl rfl rfl (trivial) ?_ hck6
    refine VP.fin rfl (⟨_, _, rfl, rfl, ⟨_, _, rfl, rfl, ⟨_, _, rfl, rfl, ⟨_, _, rfl, rfl, ⟨_, _, rfl, rfl, rfl⟩⟩⟩⟩⟩) ?_
    refine VO.nil ?_
    refine V.cond rfl (fun hc1 => ?_) (fun hc1 => ?_)
    ·
     replace hm2 := cond_t hc1 hm2
     replace hm2 := asrt_some hm2; rcases hm2 with ⟨hh4, hm2⟩
     refine V.region ?_
     refine VO.cons rfl (V1.move rfl rfl rfl (ltb rfl) ?_)
     refine VO.cons rfl (V1.move rfl rfl rfl (ltb rfl) ?_)
     refine VO.cons rfl (V1.move rfl rfl rfl (ltb rfl) ?_)
     refine VO.cons rfl (V1.buildSliceT (f := encInt) ([y1, i] : List Int) rfl rfl esz_24 zk_3 rfl rfl rfl rfl rfl rfl rfl (ltb rfl) ?_)
     intro b4
     refine VO.weakenK (Keeps.freezeG 0 rn [(39, .vl rn 1 (List.map encInt ([y1, i] : List Int)))] [(b2, ⟨1, List.map (encL rn 1 encInt) out_0⟩)] (f := encInt) (l := ([y1, i] : List Int)) rfl (fun _ => rfl) ⟨⟨_, rfl, .here⟩, trivial⟩ ⟨_, _, rfl, rfl, .inl rfl, rfl⟩ rfl iNil) ?_
     refine VO.cons rfl (V1.buildSliceT (f := (encL rn 1 encInt)) ([([y1, i] : List Int)] : List (List Int)) rfl rfl esz_38 zk_24 rfl rfl rfl rfl rfl rfl rfl (ltb rfl) ?_)
     intro b5
     refine VO.cons rfl (V1.appendMap (k := 1) (f := (encL rn 1 encInt)) (l := out_0) (m := ([([y1, i] : List Int)] : List (List Int))) rfl rfl rfl rfl rfl esz_38 eby_38 zk_24 rfl rfl rfl (SrcOf.srMap (k := 0) rfl isl_38) hh4 (ltb rfl) ?_)
     intro b6
     refine VO.cons rfl (V1.assign rfl rfl rfl (ltb rfl) ?_)
     refine VO.nil ?_
     exact ⟨((out_0 ++ ([([y1, i] : List Int)] : List (List Int))), b6), Option.some.inj hm2, Keeps.mk (ks := [0]) rfl ⟨rfl, rfl, rfl, trivial⟩ (⟨_, _, rfl, rfl, rfl⟩) rfl⟩
    ·
     replace hm2 := cond_f hc1 hm2
     refine V.skip ?_
     exact ⟨(out_0, b2), Option.some.inj hm2, Keeps.mk (ks := [0]) rfl ⟨rfl, rfl, rfl, trivial⟩ (⟨_, _, rfl, rfl, rfl⟩) rfl⟩
   ·
    rintro ⟨out_1, b3⟩ rfl
    try dsimp only at hm1
    refine V.region ?_
    refine VO.cons rfl (V1.move rfl rfl rfl (ltb rfl) ?_)
    refine VO.cons rfl (V1.int rfl rfl rfl rfl rfl (ltb rfl) ?_)
    refine VO.cons rfl (V1.assign rfl rfl rfl (ltb rfl) ?_)
    refine VO.nil ?_
    exact ⟨(m0, (out_1, (IntKind.i64.wrap (i + (1 : Int)))), b3), hl1 _ (Option.some.inj hm1).symm, Nat.lt_succ_self _, Keeps.mk (ks := [0]) rfl ⟨rfl, rfl, rfl, trivial⟩ (⟨_, _, rfl, rfl, rfl⟩) rfl⟩
  ·
   replace hm1 := cond_f hc0 hm1
   refine V.exit ?_
   obtain rfl := hr1 _ (Option.some.inj hm1).symm
   exact ⟨(out_0, b2), rfl, Keeps.mk (ks := [0]) rfl ⟨rfl, trivial⟩ (⟨_, _, rfl, rfl, rfl⟩) rfl⟩
 ·
  rintro ⟨out_, b1⟩ rfl
  try dsimp only at hm0
  refine V.seq ?_
  refine V.region ?_
  refine VO.cons rfl (V1.move rfl rfl rfl (ltb rfl) ?_)
  refine VO.cons rfl (V1.assign rfl rfl rfl (ltb rfl) ?_)
  refine VO.nil ?_
  refine V.keep 43 [2] [0] (E0 := [(2, .sref b1 1 0 (List.length out_))]) (H0 := [(b1, ⟨1, List.map (encL rn 1 encInt) out_⟩)]) rfl (⟨_, _, rfl, rfl, rfl⟩) (⟨_, _, rfl, rfl, rfl⟩) rfl ?_
  refine V.ret ?_
  obtain rfl := Option.some.inj hm0
  exact ⟨_, _, ⟨_, _, rfl, rfl, rfl⟩, List.Sublist.refl _, b1, rfl, rfl⟩

theorem ok_spec_l1Has {ρ0 rn : Nat} {l : List Int} {n : Int} {r : Bool} (h : M.spec_l1Has l n = some r) : Does Try.prog 84 [.vl ρ0 1 (List.map encInt l), .int .i64 n] [] rn (fun x H => x = .bool r ∧ H = []) := by
 have hm0 := h; clear h; unfold M.spec_l1Has at hm0
 try dsimp only at hm0
 refine Does.intro (N := 18) Try.func84 rfl rfl rfl rfl ?_
 intro w0 S0
 refine V.seq ?_
 refine V.region ?_
 refine VO.cons rfl (V1.assign rfl rfl rfl (ltb rfl) ?_)
 refine VO.nil ?_
 refine V.seq ?_
 refine V.seq ?_
 refine V.region ?_
 refine VO.cons rfl (V1.assign rfl rfl rfl (ltb rfl) ?_)
 refine VO.nil ?_
 replace hm0 := bindO hm0; rcases hm0 with ⟨e0, he1, hm0⟩
 refine V.cutT (D := (Unit) × (Unit)) (fun ⟨_, _⟩ => ⟨18, [], []⟩) (fun ⟨_, _⟩ => (.inl () = e0)) ?_ ?_
 ·
  refine V.block ?_
  refine V.keep 18 [5, 0, 1] [] (E0 := [(5, .int .i64 (0 : Int)), (0, .vl ρ0 1 (List.map encInt l)), (1, .int .i64 n)]) (H0 := []) rfl (⟨_, _, rfl, rfl, ⟨_, _, rfl, rfl, ⟨_, _, rfl, rfl, rfl⟩⟩⟩) (rfl) rfl ?_
  refine V.loopE (D := Nat × (Int) × (Unit)) (fun ⟨n0, i, _⟩ => [(5, .int .i64 i)]) (fun ⟨n0, i, _⟩ => []) (fun ⟨n0, i, _⟩ => loopO (M.spec_l1Has_l0 l n) n0 i = some e0) (fun ⟨n0, _, _⟩ => n0) (rounds, (0 : Int), ()) rfl he1 ?_
  rintro ⟨n0, i, _⟩ hP0
  obtain ⟨m0, y0, rfl, hm1, hl1, hr1⟩ := loop_head hP0
  unfold M.spec_l1Has_l0 at hm1; dsimp only at hm1
  show V _ _ _ ⟨18, [(5, .int .i64 i), (0, .vl ρ0 1 (List.map encInt l)), (1, .int .i64 n)], []⟩
  refine V.seq ?_
  refine V.seq ?_
  refine V.region ?_
  refine VO.cons rfl (V1.move rfl rfl rfl (ltb rfl) ?_)
  refine VO.cons rfl (V1.move rfl rfl rfl (ltb rfl) ?_)
  refine VO.cons rfl (V1.lenMap rfl rfl rfl rfl rfl rfl isl_24 (ltb rfl) ?_)
  refine VO.cons rfl (V1.int rfl rfl rfl rfl rfl (ltb rfl) ?_)
  refine VO.nil ?_
  refine V.cond rfl (fun hc0 => ?_) (fun hc0 => ?_)
  ·
   replace hm1 := cond_t hc0 hm1
   refine V.skip ?_
   refine V.keep 18 [0, 1, 5] [] (E0 := [(0, .vl ρ0 1 (List.map encInt l)), (1, .int .i64 n), (5, .int .i64 i)]) (H0 := []) rfl (⟨_, _, rfl, rfl, ⟨_, _, rfl, rfl, ⟨_, _, rfl, rfl, rfl⟩⟩⟩) (rfl) rfl ?_
   refine V.seq ?_
   refine V.block ?_
   refine V.seq ?_
   replace hm1 := asrt_some hm1; rcases hm1 with ⟨hh0, hm1⟩
   refine V.region ?_
   refine VO.cons rfl (V1.move rfl rfl rfl (ltb rfl) ?_)
   refine VO.cons rfl (V1.move rfl rfl rfl (ltb rfl) ?_)
   refine VO.cons rfl (V1.indexI rfl rfl esz_24 rfl rfl hh0 (ltb rfl) ?_)
   refine VO.cons rfl (V1.loadPin rfl rfl tyk_3 rfl rfl (ltb rfl) ?_)
   refine VO.cons rfl (V1.move rfl rfl rfl (ltb rfl) ?_)
   refine VO.cons rfl (V1.int rfl rfl rfl rfl rfl (ltb rfl) ?_)
   refine VO.nil ?_
   refine V.keep 18 [0, 1, 5, 17] [] (E0 := [(0, .vl ρ0 1 (List.map encInt l)), (1, .int .i64 n), (5, .int .i64 i), (17, .bool ((l.getD (Int.toNat i) default) == n))]) (H0 := []) rfl (⟨_, _, rfl, rfl, ⟨_, _, rfl, rfl, ⟨_, _, rfl, rfl, ⟨_, _, rfl, rfl, rfl⟩⟩⟩⟩) (rfl) rfl ?_
   refine V.cond rfl (fun hc1 => ?_) (fun hc1 => ?_)
   ·
    replace hm1 := cond_t hc1 hm1
    refine V.seq ?_
    refine V.region ?_
    refine VO.cons rfl (V1.assign rfl rfl rfl (ltb rfl) ?_)
    refine VO.nil ?_
    refine V.ret ?_
    obtain rfl := hr1 _ (Option.some.inj hm1).symm
    change some _ = some _ at hm0
    obtain rfl := Option.some.inj hm0
    exact ⟨_, [], ⟨_, _, rfl, rfl, rfl⟩, List.nil_sublist _, rfl, rfl⟩
   ·
    replace hm1 := cond_f hc1 hm1
    refine V.skip ?_
    refine V.region ?_
    refine VO.cons rfl (V1.move rfl rfl rfl (ltb rfl) ?_)
    refine VO.cons rfl (V1.int rfl rfl rfl rfl rfl (ltb rfl) ?_)
    refine VO.cons rfl (V1.assign rfl rfl rfl (ltb rfl) ?_)
    refine VO.nil ?_
    exact ⟨(m0, (IntKind.i64.wrap (i + (1 : Int))), ()), hl1 _ (Option.some.inj hm1).symm, Nat.lt_succ_self _, Keeps.mk (ks := []) rfl ⟨rfl, rfl, rfl, trivial⟩ (rfl) rfl⟩
  ·
   replace hm1 := cond_f hc0 hm1
   refine V.exit ?_
   obtain rfl := hr1 _ (Option.some.inj hm1).symm
   exact ⟨((), ()), rfl, Keeps.mk (ks := []) rfl trivial (rfl) rfl⟩
 ·
  rintro ⟨_, _⟩ rfl
  try dsimp only at hm0
  refine V.seq ?_
  refine V.region ?_
  refine VO.cons rfl (V1.assign rfl rfl rfl (ltb rfl) ?_)
  refine VO.nil ?_
  refine V.ret ?_
  obtain rfl := Option.some.inj hm0
  exact ⟨_, [], ⟨_, _, rfl, rfl, rfl⟩, List.nil_sublist _, rfl, rfl⟩

theorem ok_spec_l1Put {rn : Nat} {l : List Int} {n : Int} {r : List Int} (h : M.spec_l1Put l n = some r) : Does Try.prog 85 [.vl rn 1 (List.map encInt l), .int .i64 n] [] rn (fun x H => x = .vl rn 1 (List.map encInt r) ∧ H = []) := by
 have hm0 := h; clear h; unfold M.spec_l1Put at hm0
 try dsimp only at hm0
 refine Does.intro (N := 45) Try.func85 rfl rfl rfl rfl ?_
 intro w0 S0
 refine V.seq ?_
 refine V.region ?_
 refine VO.cons rfl (V1.assign rfl rfl rfl (ltb rfl) ?_)
 refine VO.nil ?_
 refine V.seq ?_
 refine V.region ?_
 refine VO.cons rfl (V1.assign rfl rfl rfl (ltb rfl) ?_)
 refine VO.nil ?_
 refine V.seq ?_
 replace hm0 := bindO hm0; rcases hm0 with ⟨e0, he1, hm0⟩
 refine V.cutT (D := (Int) × (Unit)) (fun ⟨k, _⟩ => ⟨45, [(5, .int .i64 k), (0, .vl rn 1 (List.map encInt l)), (1, .int .i64 n)], []⟩) (fun ⟨k, _⟩ => (k = e0)) ?_ ?_
 ·
  refine V.block ?_
  refine V.keep 45 [5, 0, 1] [] (E0 := [(5, .int .i64 (0 : Int)), (0, .vl rn 1 (List.map encInt l)), (1, .int .i64 n)]) (H0 := []) rfl (⟨_, _, rfl, rfl, ⟨_, _, rfl, rfl, ⟨_, _, rfl, rfl, rfl⟩⟩⟩) (rfl) rfl ?_
  refine V.loopE (D := Nat × (Int) × (Unit)) (fun ⟨n0, k0, _⟩ => [(5, .int .i64 k0)]) (fun ⟨n0, k0, _⟩ => []) (fun ⟨n0, k0, _⟩ => loopO (M.spec_l1Put_l0 l n) n0 k0 = some e0) (fun ⟨n0, _, _⟩ => n0) (rounds, (0 : Int), ()) rfl he1 ?_
  rintro ⟨n0, k0, _⟩ hP0
  obtain ⟨m0, y0, rfl, hm1, hl1, hr1⟩ := loop_head hP0
  unfold M.spec_l1Put_l0 at hm1; dsimp only at hm1
  show V _ _ _ ⟨45, [(5, .int .i64 k0), (0, .vl rn 1 (List.map encInt l)), (1, .int .i64 n)], []⟩
  refine V.seq ?_
  refine V.seq ?_
  replace hm1 := asrt_some hm1; rcases hm1 with ⟨hh0, hm1⟩
  refine V.region ?_
  refine VO.cons rfl (V1.move rfl rfl rfl (ltb rfl) ?_)
  refine VO.cons rfl (V1.move rfl rfl rfl (ltb rfl) ?_)
  refine VO.cons rfl (V1.lenMap rfl rfl rfl rfl rfl rfl isl_24 (ltb rfl) ?_)
  refine VO.cons rfl (V1.int rfl rfl rfl rfl rfl (ltb rfl) ?_)
  refine VO.cons rfl (V1.move rfl rfl rfl (ltb rfl) ?_)
  apply VO.and (n := 6) rfl rfl rfl rfl rfl rfl (ltb rfl) (.none rfl)
  ·
   intro hg0
   refine VO.step (.some rfl rfl rfl) (V1.move rfl rfl rfl (ltb rfl) ?_)
   refine VO.step (.some rfl rfl rfl) (V1.move rfl rfl rfl (ltb rfl) ?_)
   refine VO.step (.some rfl rfl rfl) (V1.indexI rfl rfl esz_24 rfl rfl (hh0 hg0) (ltb rfl) ?_)
   refine VO.step (.some rfl rfl rfl) (V1.loadPin rfl rfl tyk_3 rfl rfl (ltb rfl) ?_)
   refine VO.step (.some rfl rfl rfl) (V1.move rfl rfl rfl (ltb rfl) ?_)
   refine VO.step (.some rfl rfl rfl) (V1.int rfl rfl rfl rfl rfl (ltb rfl) ?_)
   exact VO.nil ⟨rfl, rfl, rfl, rfl, .inr ⟨rfl, .inr ⟨rfl, .inr ⟨rfl, .inr ⟨rfl, .inr ⟨rfl, .inr ⟨rfl, .inr ⟨rfl, .inl rfl⟩⟩⟩⟩⟩⟩⟩⟩
  refine VO.nil ?_
  refine V.keep 45 [0, 1, 5, 17] [] (E0 := [(0, .vl rn 1 (List.map encInt l)), (1, .int .i64 n), (5, .int .i64 k0), (17, .bool ((decide (k0 < (l.length : Int))) && (decide ((l.getD (Int.toNat k0) default) < n))))]) (H0 := []) rfl (⟨_, _, rfl, rfl, ⟨_, _, rfl, rfl, ⟨_, _, rfl, rfl, ⟨_, _, rfl, rfl, rfl⟩⟩⟩⟩) (rfl) rfl ?_
  refine V.cond rfl (fun hc0 => ?_) (fun hc0 => ?_)
  ·
   replace hm1 := cond_t hc0 hm1
   refine V.skip ?_
   refine V.block ?_
   refine V.region ?_
   refine VO.cons rfl (V1.move rfl rfl rfl (ltb rfl) ?_)
   refine VO.cons rfl (V1.int rfl rfl rfl rfl rfl (ltb rfl) ?_)
   refine VO.cons rfl (V1.assign rfl rfl rfl (ltb rfl) ?_)
   refine VO.nil ?_
   exact ⟨(m0, (IntKind.i64.wrap (k0 + (1 : Int))), ()), hl1 _ (Option.some.inj hm1).symm, Nat.lt_succ_self _, Keeps.mk (ks := []) rfl ⟨rfl, rfl, rfl, trivial⟩ (rfl) rfl⟩
  ·
   replace hm1 := cond_f hc0 hm1
   refine V.exit ?_
   obtain rfl := hr1 _ (Option.some.inj hm1).symm
   exact ⟨(k0, ()), rfl, Keeps.mk (ks := []) rfl ⟨rfl, rfl, rfl, trivial⟩ (rfl) rfl⟩
 ·
  rintro ⟨k, _⟩ rfl
  try dsimp only at hm0
  refine V.seq ?_
  refine V.seq ?_
  replace hm0 := asrt_some hm0; rcases hm0 with ⟨hh1, hm0⟩
  refine V.region ?_
  refine VO.cons rfl (V1.move rfl rfl rfl (ltb rfl) ?_)
  refine VO.cons rfl (V1.move rfl rfl rfl (ltb rfl) ?_)
  refine VO.cons rfl (V1.lenMap rfl rfl rfl rfl rfl rfl isl_24 (ltb rfl) ?_)
  refine VO.cons rfl (V1.int rfl rfl rfl rfl rfl (ltb rfl) ?_)
  refine VO.cons rfl (V1.move rfl rfl rfl (ltb rfl) ?_)
  apply VO.and (n := 6) rfl rfl rfl rfl rfl rfl (ltb rfl) (.none rfl)
  ·
   intro hg1
   refine VO.step (.some rfl rfl rfl) (V1.move rfl rfl rfl (ltb rfl) ?_)
   refine VO.step (.some rfl rfl rfl) (V1.move rfl rfl rfl (ltb rfl) ?_)
   refine VO.step (.some rfl rfl rfl) (V1.indexI rfl rfl esz_24 rfl rfl (hh1 hg1) (ltb rfl) ?_)
   refine VO.step (.some rfl rfl rfl) (V1.loadPin rfl rfl tyk_3 rfl rfl (ltb rfl) ?_)
   refine VO.step (.some rfl rfl rfl) (V1.move rfl rfl rfl (ltb rfl) ?_)
   refine VO.step (.some rfl rfl rfl) (V1.int rfl rfl rfl rfl rfl (ltb rfl) ?_)
   exact VO.nil ⟨rfl, rfl, rfl, rfl, .inr ⟨rfl, .inr ⟨rfl, .inr ⟨rfl, .inr ⟨rfl, .inr ⟨rfl, .inr ⟨rfl, .inr ⟨rfl, .inl rfl⟩⟩⟩⟩⟩⟩⟩⟩
  refine VO.nil ?_
  refine V.keep 45 [0, 1, 5, 31] [] (E0 := [(0, .vl rn 1 (List.map encInt l)), (1, .int .i64 n), (5, .int .i64 k), (31, .bool ((decide (k < (l.length : Int))) && ((l.getD (Int.toNat k) default) == n)))]) (H0 := []) rfl (⟨_, _, rfl, rfl, ⟨_, _, rfl, rfl, ⟨_, _, rfl, rfl, ⟨_, _, rfl, rfl, rfl⟩⟩⟩⟩) (rfl) rfl ?_
  refine V.cond rfl (fun hc1 => ?_) (fun hc1 => ?_)
  ·
   replace hm0 := cond_t hc1 hm0
   refine V.seq ?_
   refine V.region ?_
   refine VO.cons rfl (V1.move rfl rfl rfl (ltb rfl) ?_)
   refine VO.cons rfl (V1.assign rfl rfl rfl (ltb rfl) ?_)
   refine VO.nil ?_
   refine V.ret ?_
   obtain rfl := Option.some.inj hm0
   exact ⟨_, [], ⟨_, _, rfl, rfl, rfl⟩, List.nil_sublist _, rfl, rfl⟩
  ·
   replace hm0 := cond_f hc1 hm0
   refine V.skip ?_
   refine V.seq ?_
   replace hm0 := asrt_some hm0; rcases hm0 with ⟨hh2, hm0⟩
   replace hm0 := asrt_some hm0; rcases hm0 with ⟨hh3, hm0⟩
   replace hm0 := asrt_some hm0; rcases hm0 with ⟨hh4, hm0⟩
   replace hm0 := asrt_some hm0; rcases hm0 with ⟨hh5, hm0⟩
   replace hm0 := asrt_some hm0; rcases hm0 with ⟨hh6, hm0⟩
   replace hm0 := bindO hm0; rcases hm0 with ⟨j0, hm1, hm0⟩
   refine V.cutT (D := (List Int) × (Nat)) (fun ⟨v, b5⟩ => ⟨45, [(4, .sref b5 1 0 (List.length v))], [(b5, ⟨1, List.map encInt v⟩)]⟩) (fun ⟨v, b5⟩ => (v = j0)) ?_ ?_
   ·
    refine V.regionS [] 45 11 [⟨[], true⟩, ⟨[(0, none)], false⟩, ⟨[(5, none)], false⟩, ⟨[(34, some 1), (35, some 2)], false⟩, ⟨[(33, some 0), (36, some 3)], true⟩, ⟨[(1, none)], false⟩, ⟨[(38, some 5)], true⟩, ⟨[(37, some 4), (39, some 6)], true⟩, ⟨[(0, none)], false⟩, ⟨[(5, none)], false⟩, ⟨[(41, some 8), (42, some 9)], false⟩] [(40, some 7), (43, some 10)] 4 (⟨_, rfl, ⟨_, rfl, ⟨_, rfl, ⟨_, rfl, ⟨_, rfl, ⟨_, rfl, ⟨_, rfl, ⟨_, rfl, ⟨_, rfl, ⟨_, rfl, ⟨_, rfl, ⟨rfl, rfl⟩⟩⟩⟩⟩⟩⟩⟩⟩⟩⟩⟩) mixed_orders rfl (by decide +kernel) ?_
    refine WalkP.step (p := ?pv36) 1 rfl rfl rfl rfl rfl (⟨_, _, rfl, rfl, rfl⟩) ?hv36 ?rest36
    case hv36 =>
     intro E1 H1 hI1
     refine (V1.move rfl rfl rfl (ltb rfl) ?_)
     exact rfl
    refine WalkP.step (p := ?pv37) 2 rfl rfl rfl rfl rfl (⟨_, _, rfl, rfl, rfl⟩) ?hv37 ?rest37
    case hv37 =>
     intro E1 H1 hI1
     refine (V1.move rfl rfl rfl (ltb rfl) ?_)
     exact rfl
    refine WalkP.step (p := ?pv38) 3 rfl rfl rfl rfl rfl (⟨_, _, rfl, rfl, ⟨_, _, rfl, rfl, rfl⟩⟩) ?hv38 ?rest38
    case hv38 =>
     intro E1 H1 hI1
     refine (V1.sliceMap (a := (0 : Int)) (b := k) rfl rfl esz_24 rfl (Bnd.none _ _) (Bnd.some rfl (Int.le_trans hh2.1 hh2.2.1) _) hh2 (ltb rfl) ?_)
     exact rfl
    refine WalkP.step (p := ?pv39) 5 rfl rfl rfl rfl rfl (⟨_, _, rfl, rfl, rfl⟩) ?hv39 ?rest39
    case hv39 =>
     intro E1 H1 hI1
     refine (V1.move rfl rfl rfl (ltb rfl) ?_)
     exact rfl
    refine WalkP.step (p := ?pv40) 8 rfl rfl rfl rfl rfl (⟨_, _, rfl, rfl, rfl⟩) ?hv40 ?rest40
    case hv40 =>
     intro E1 H1 hI1
     refine (V1.move rfl rfl rfl (ltb rfl) ?_)
     exact rfl
    refine WalkP.step (p := ?pv41) 9 rfl rfl rfl rfl rfl (⟨_, _, rfl, rfl, rfl⟩) ?hv41 ?rest41
    case hv41 =>
     intro E1 H1 hI1
     refine (V1.move rfl rfl rfl (ltb rfl) ?_)
     exact rfl
    refine WalkP.step (p := ?pv42) 10 rfl rfl rfl rfl rfl (⟨_, _, rfl, rfl, ⟨_, _, rfl, rfl, rfl⟩⟩) ?hv42 ?rest42
    case hv42 =>
     intro E1 H1 hI1
     refine (V1.sliceMap (a := k) (b := (l.length : Int)) rfl rfl esz_24 rfl (Bnd.some rfl hh5.1 _) (Bnd.none _ _) hh5 (ltb rfl) ?_)
     exact rfl
    refine WalkP.nil ?_
    refine NodeS.branch [0, 6] inNil rfl rfl rfl ⟨?_, ?_, trivial⟩
    ·
     refine ⟨_, _, _, _, rfl, rfl, rfl, (rfl), fun E1 => ?_⟩
     refine (V1.buildSliceT (f := encInt) ([] : List Int) rfl rfl esz_24 zk_3 rfl rfl rfl rfl rfl rfl rfl (ltb rfl) ?_)
     intro b6
     refine ⟨_, _, rfl, ?_⟩
     refine WalkP.nil ?_
     refine NodeS.branch [4, 6] inNil rfl rfl rfl ⟨?_, ?_, trivial⟩
     ·
      refine ⟨_, _, _, _, rfl, rfl, rfl, (⟨_, _, rfl, rfl, ⟨_, _, rfl, rfl, rfl⟩⟩), fun E1 => ?_⟩
      refine (V1.appendMap (k := 0) (f := encInt) (l := ([] : List Int)) (m := (slc l (0 : Int) k)) rfl rfl rfl rfl rfl esz_24 eby_24 zk_3 rfl rfl rfl (.vl isl_24) hh3 (ltb rfl) ?_)
      intro b7
      refine ⟨_, _, rfl, ?_⟩
      refine WalkP.nil ?_
      refine NodeS.branch [6] inNil rfl rfl rfl ⟨?_, trivial⟩
      ·
       refine ⟨_, _, _, _, rfl, rfl, rfl, (⟨_, _, rfl, rfl, rfl⟩), fun E1 => ?_⟩
       refine (V1.buildSliceT (f := encInt) ([n] : List Int) rfl rfl esz_24 zk_3 rfl rfl rfl rfl rfl rfl rfl (ltb rfl) ?_)
       intro b8
       refine ⟨_, _, rfl, ?_⟩
       refine WalkP.nil ?_
       refine NodeS.branch [7] inNil rfl rfl rfl ⟨?_, trivial⟩
       ·
        refine ⟨_, _, _, _, rfl, rfl, rfl, (⟨_, _, rfl, rfl, ⟨_, _, rfl, rfl, rfl⟩⟩), fun E1 => ?_⟩
        refine (V1.appendMap (k := 1) (f := encInt) (l := (([] : List Int) ++ (slc l (0 : Int) k))) (m := ([n] : List Int)) rfl rfl rfl rfl rfl esz_24 eby_24 zk_3 rfl rfl rfl (SrcOf.srMap (k := 0) rfl isl_24) hh4 (ltb rfl) ?_)
        intro b9
        refine ⟨_, _, rfl, ?_⟩
        refine WalkP.nil ?_
        refine NodeS.fin inNil rfl rfl rfl (⟨_, _, rfl, rfl, ⟨_, _, rfl, rfl, rfl⟩⟩) ?_
        refine VO.cons rfl (V1.appendMap (k := 0) (f := encInt) (l := ((([] : List Int) ++ (slc l (0 : Int) k)) ++ ([n] : List Int))) (m := (slc l k (l.length : Int))) rfl rfl rfl rfl rfl esz_24 eby_24 zk_3 rfl rfl rfl (.vl isl_24) hh6 (ltb rfl) ?_)
        intro b10
        refine VO.cons rfl (V1.assign rfl rfl rfl (ltb rfl) ?_)
        refine VO.nil ?_
        exact ⟨((((([] : List Int) ++ (slc l (0 : Int) k)) ++ ([n] : List Int)) ++ (slc l k (l.length : Int))), b10), Option.some.inj hm1, Keeps.mk (ks := [0]) rfl ⟨rfl, trivial⟩ (⟨_, _, rfl, rfl, rfl⟩) rfl⟩
     ·
      refine ⟨_, _, _, _, rfl, rfl, rfl, (⟨_, _, rfl, rfl, rfl⟩), fun E1 => ?_⟩
      refine (V1.buildSliceT (f := encInt) ([n] : List Int) rfl rfl esz_24 zk_3 rfl rfl rfl rfl rfl rfl rfl (ltb rfl) ?_)
      intro b11
      refine ⟨_, _, rfl, ?_⟩
      refine WalkP.nil ?_
      refine NodeS.branch [4] inNil rfl rfl rfl ⟨?_, trivial⟩
      ·
       refine ⟨_, _, _, _, rfl, rfl, rfl, (⟨_, _, rfl, rfl, ⟨_, _, rfl, rfl, rfl⟩⟩), fun E1 => ?_⟩
       refine (V1.appendMap (k := 1) (f := encInt) (l := ([] : List Int)) (m := (slc l (0 : Int) k)) rfl rfl rfl rfl rfl esz_24 eby_24 zk_3 rfl rfl rfl (.vl isl_24) hh3 (ltb rfl) ?_)
       intro b12
       refine ⟨_, _, rfl, ?_⟩
       refine WalkP.nil ?_
       refine NodeS.branch [7] inNil rfl rfl rfl ⟨?_, trivial⟩
       ·
        refine ⟨_, _, _, _, rfl, rfl, rfl, (⟨_, _, rfl, rfl, ⟨_, _, rfl, rfl, rfl⟩⟩), fun E1 => ?_⟩
        refine (V1.appendMap (k := 0) (f := encInt) (l := (([] : List Int) ++ (slc l (0 : Int) k))) (m := ([n] : List Int)) rfl rfl rfl rfl rfl esz_24 eby_24 zk_3 rfl rfl rfl (SrcOf.srMap (k := 1) rfl isl_24) hh4 (ltb rfl) ?_)
        intro b13
        refine ⟨_, _, rfl, ?_⟩
        refine WalkP.nil ?_
        refine NodeS.fin inNil rfl rfl rfl (⟨_, _, rfl, rfl, ⟨_, _, rfl, rfl, rfl⟩⟩) ?_
        refine VO.cons rfl (V1.appendMap (k := 0) (f := encInt) (l := ((([] : List Int) ++ (slc l (0 : Int) k)) ++ ([n] : List Int))) (m := (slc l k (l.length : Int))) rfl rfl rfl rfl rfl esz_24 eby_24 zk_3 rfl rfl rfl (.vl isl_24) hh6 (ltb rfl) ?_)
        intro b14
        refine VO.cons rfl (V1.assign rfl rfl rfl (ltb rfl) ?_)
        refine VO.nil ?_
        exact ⟨((((([] : List Int) ++ (slc l (0 : Int) k)) ++ ([n] : List Int)) ++ (slc l k (l.length : Int))), b14), Option.some.inj hm1, Keeps.mk (ks := [0]) rfl ⟨rfl, trivial⟩ (⟨_, _, rfl, rfl, rfl⟩) rfl⟩
    ·
     refine ⟨_, _, _, _, rfl, rfl, rfl, (⟨_, _, rfl, rfl, rfl⟩), fun E1 => ?_⟩
     refine (V1.buildSliceT (f := encInt) ([n] : List Int) rfl rfl esz_24 zk_3 rfl rfl rfl rfl rfl rfl rfl (ltb rfl) ?_)
     intro b15
     refine ⟨_, _, rfl, ?_⟩
     refine WalkP.nil ?_
     refine NodeS.branch [0] inNil rfl rfl rfl ⟨?_, trivial⟩
     ·
      refine ⟨_, _, _, _, rfl, rfl, rfl, (rfl), fun E1 => ?_⟩
      refine (V1.buildSliceT (f := encInt) ([] : List Int) rfl rfl esz_24 zk_3 rfl rfl rfl rfl rfl rfl rfl (ltb rfl) ?_)
      intro b16
      refine ⟨_, _, rfl, ?_⟩
      refine WalkP.nil ?_
      refine NodeS.branch [4] inNil rfl rfl rfl ⟨?_, trivial⟩
      ·
       refine ⟨_, _, _, _, rfl, rfl, rfl, (⟨_, _, rfl, rfl, ⟨_, _, rfl, rfl, rfl⟩⟩), fun E1 => ?_⟩
       refine (V1.appendMap (k := 0) (f := encInt) (l := ([] : List Int)) (m := (slc l (0 : Int) k)) rfl rfl rfl rfl rfl esz_24 eby_24 zk_3 rfl rfl rfl (.vl isl_24) hh3 (ltb rfl) ?_)
       intro b17
       refine ⟨_, _, rfl, ?_⟩
       refine WalkP.nil ?_
       refine NodeS.branch [7] inNil rfl rfl rfl ⟨?_, trivial⟩
       ·
        refine ⟨_, _, _, _, rfl, rfl, rfl, (⟨_, _, rfl, rfl, ⟨_, _, rfl, rfl, rfl⟩⟩), fun E1 => ?_⟩
        refine (V1.appendMap (k := 0) (f := encInt) (l := (([] : List Int) ++ (slc l (0 : Int) k))) (m := ([n] : List Int)) rfl rfl rfl rfl rfl esz_24 eby_24 zk_3 rfl rfl rfl (SrcOf.srMap (k := 1) rfl isl_24) hh4 (ltb rfl) ?_)
        intro b18
        refine ⟨_, _, rfl, ?_⟩
        refine WalkP.nil ?_
        refine NodeS.fin inNil rfl rfl rfl (⟨_, _, rfl, rfl, ⟨_, _, rfl, rfl, rfl⟩⟩) ?_
        refine VO.cons rfl (V1.appendMap (k := 0) (f := encInt) (l := ((([] : List Int) ++ (slc l (0 : Int) k)) ++ ([n] : List Int))) (m := (slc l k (l.length : Int))) rfl rfl rfl rfl rfl esz_24 eby_24 zk_3 rfl rfl rfl (.vl isl_24) hh6 (ltb rfl) ?_)
        intro b19
        refine VO.cons rfl (V1.assign rfl rfl rfl (ltb rfl) ?_)
        refine VO.nil ?_
        exact ⟨((((([] : List Int) ++ (slc l (0 : Int) k)) ++ ([n] : List Int)) ++ (slc l k (l.length : Int))), b19), Option.some.inj hm1, Keeps.mk (ks := [0]) rfl ⟨rfl, trivial⟩ (⟨_, _, rfl, rfl, rfl⟩) rfl⟩
   ·
    rintro ⟨v, b5⟩ rfl
    try dsimp only at hm0
    refine V.weakenK (Keeps.freezeG 0 rn [(4, .vl rn 1 (List.map encInt v))] [] (f := encInt) (l := v) rfl (fun _ => rfl) ⟨⟨_, rfl, .here⟩, trivial⟩ rfl rfl iNil) ?_
    refine V.ret ?_
    obtain rfl := Option.some.inj hm0
    exact ⟨_, [], ⟨_, _, rfl, rfl, rfl⟩, List.nil_sublist _, rfl, rfl⟩

theorem ok_spec_NotWhole {ρ0 rn : Nat} {list : List Hand} {r : List Int × Bool} (h : M.spec_NotWhole list = some r) : Does Try.prog 20 [.vl ρ0 6 (List.map encHand list)] [] rn (fun x H => x = .tup [.vl rn 1 (List.map encInt r.1), .bool r.2] ∧ H = []) := by
 have hm0 := h; clear h; unfold M.spec_NotWhole at hm0
 try dsimp only at hm0
 refine Does.intro (N := 39) Try.func20 rfl rfl rfl rfl ?_
 intro w0 S0
 refine V.seq ?_
 refine V.region ?_
 refine VO.cons rfl (V1.assign rfl rfl rfl (ltb rfl) ?_)
 refine VO.cons rfl (V1.assign rfl rfl rfl (ltb rfl) ?_)
 refine VO.nil ?_
 refine V.seq ?_
 refine V.region ?_
 refine VO.cons rfl (V1.buildSliceT (f := encInt) ([] : List Int) rfl rfl esz_24 zk_3 rfl rfl rfl rfl rfl rfl rfl (ltb rfl) ?_)
 intro b0
 refine VO.cons rfl (V1.assign rfl rfl rfl (ltb rfl) ?_)
 refine VO.nil ?_
 refine V.seq ?_
 refine V.seq ?_
 replace hm0 := bindO hm0; rcases hm0 with ⟨y0, hh0, hm0⟩
 refine V.region ?_
 refine VO.cons rfl (V1.move rfl rfl rfl (ltb rfl) ?_)
 refine VO.cons rfl (V1.call rfl rfl rfl cok_80 rfl (ok_spec_l17Good hh0) rfl (ltb rfl) ?_)
 rintro _ _ ⟨rfl, rfl⟩
 refine VO.cons rfl (V1.not rfl rfl rfl (ltb rfl) ?_)
 refine VO.nil ?_
 refine V.keep 39 [0, 4, 11] [0] (E0 := [(0, .vl ρ0 6 (List.map encHand list)), (4, .sref b0 1 0 (List.length ([] : List Int))), (11, .bool (!y0))]) (H0 := [(b0, ⟨1, List.map encInt ([] : List Int)⟩)]) rfl (⟨_, _, rfl, rfl, ⟨_, _, rfl, rfl, ⟨_, _, rfl, rfl, rfl⟩⟩⟩) (⟨_, _, rfl, rfl, rfl⟩) rfl ?_
 refine V.cond rfl (fun hc0 => ?_) (fun hc0 => ?_)
 ·
  replace hm0 := cond_t hc0 hm0
  refine V.seq ?_
  refine V.region ?_
  refine VO.cons rfl (V1.move rfl rfl rfl (ltb rfl) ?_)
  refine VO.cons rfl (V1.assign rfl rfl rfl (ltb rfl) ?_)
  refine VO.cons rfl (V1.assign rfl rfl rfl (ltb rfl) ?_)
  refine VO.nil ?_
  refine V.weakenK (Keeps.freezeG 0 rn [(4, .vl rn 1 (List.map encInt ([] : List Int))), (12, .vl rn 1 (List.map encInt ([] : List Int))), (2, .vl rn 1 (List.map encInt ([] : List Int)))] [] (f := encInt) (l := ([] : List Int)) rfl (fun _ => rfl) ⟨⟨_, rfl, .here⟩, ⟨_, rfl, .here⟩, ⟨_, rfl, .here⟩, trivial⟩ rfl rfl iNil) ?_
  refine V.ret ?_
  obtain rfl := Option.some.inj hm0
  exact ⟨_, [], ⟨_, _, rfl, rfl, ⟨_, _, rfl, rfl, rfl⟩⟩, List.nil_sublist _, rfl, rfl⟩
 ·
  replace hm0 := cond_f hc0 hm0
  refine V.skip ?_
  refine V.seq ?_
  replace hm0 := bindO hm0; rcases hm0 with ⟨y1, hh1, hm0⟩
  refine V.region ?_
  refine VO.cons rfl (V1.move rfl rfl rfl (ltb rfl) ?_)
  refine VO.cons rfl (V1.call rfl rfl rfl cok_92 rfl (ok_spec_l17Turns hh1) rfl (ltb rfl) ?_)
  rintro _ _ ⟨b1, rfl, rfl⟩
  refine VO.weakenK (Keeps.freezeG 0 rn [(14, .vl rn 1 (List.map (encL rn 1 encInt) y1))] [(b0, ⟨1, List.map encInt ([] : List Int)⟩)] (f := (encL rn 1 encInt)) (l := y1) rfl (fun _ => rfl) ⟨⟨_, rfl, .here⟩, trivial⟩ ⟨_, _, rfl, rfl, .inl rfl, rfl⟩ rfl iNil) ?_
  refine VO.cons rfl (V1.assign rfl rfl rfl (ltb rfl) ?_)
  refine VO.nil ?_
  refine V.seq ?_
  refine V.seq ?_
  refine V.region ?_
  refine VO.cons rfl (V1.assign rfl rfl rfl (ltb rfl) ?_)
  refine VO.nil ?_
  replace hm0 := bindO hm0; rcases hm0 with ⟨e0, he1, hm0⟩
  refine V.cutT (D := (List Int) × (Unit)) (fun ⟨out_, _⟩ => ⟨39, [(4, .vl rn 1 (List.map encInt out_))], []⟩) (fun ⟨out_, _⟩ => (out_ = e0)) ?_ ?_
  ·
   refine V.block ?_
   refine V.weakenK (Keeps.freezeG 0 rn [(4, .vl rn 1 (List.map encInt ([] : List Int)))] [] (f := encInt) (l := ([] : List Int)) rfl (fun _ => rfl) ⟨⟨_, rfl, .here⟩, trivial⟩ rfl rfl iNil) ?_
   refine V.keep 39 [4, 6, 0, 5] [] (E0 := [(4, .vl rn 1 (List.map encInt ([] : List Int))), (6, .int .i64 (0 : Int)), (0, .vl ρ0 6 (List.map encHand list)), (5, .vl rn 1 (List.map (encL rn 1 encInt) y1))]) (H0 := []) rfl (⟨_, _, rfl, rfl, ⟨_, _, rfl, rfl, ⟨_, _, rfl, rfl, ⟨_, _, rfl, rfl, rfl⟩⟩⟩⟩) (rfl) rfl ?_
   refine V.loopE (D := Nat × (List Int × Int) × (Unit)) (fun ⟨n0, ⟨out_0, i⟩, _⟩ => [(4, .vl rn 1 (List.map encInt out_0)), (6, .int .i64 i)]) (fun ⟨n0, ⟨out_0, i⟩, _⟩ => []) (fun ⟨n0, ⟨out_0, i⟩, _⟩ => loopO (M.spec_NotWhole_l0 list y1) n0 (out_0, i) = some e0) (fun ⟨n0, _, _⟩ => n0) (rounds, (([] : List Int), (0 : Int)), ()) rfl he1 ?_
   rintro ⟨n0, ⟨out_0, i⟩, _⟩ hP0
   obtain ⟨m0, y2, rfl, hm1, hl1, hr1⟩ := loop_head hP0
   unfold M.spec_NotWhole_l0 at hm1; dsimp only at hm1
   show V _ _ _ ⟨39, [(4, .vl rn 1 (List.map encInt out_0)), (6, .int .i64 i), (0, .vl ρ0 6 (List.map encHand list)), (5, .vl rn 1 (List.map (encL rn 1 encInt) y1))], []⟩
   refine V.seq ?_
   refine V.seq ?_
   refine V.region ?_
   refine VO.cons rfl (V1.move rfl rfl rfl (ltb rfl) ?_)
   refine VO.cons rfl (V1.move rfl rfl rfl (ltb rfl) ?_)
   refine VO.cons rfl (V1.lenMap rfl rfl rfl rfl rfl rfl isl_38 (ltb rfl) ?_)
   refine VO.cons rfl (V1.int rfl rfl rfl rfl rfl (ltb rfl) ?_)
   refine VO.nil ?_
   refine V.cond rfl (fun hc1 => ?_) (fun hc1 => ?_)
   ·
    replace hm1 := cond_t hc1 hm1
    refine V.skip ?_
    refine V.keep 39 [0, 4, 5, 6] [] (E0 := [(0, .vl ρ0 6 (List.map encHand list)), (4, .vl rn 1 (List.map encInt out_0)), (5, .vl rn 1 (List.map (encL rn 1 encInt) y1)), (6, .int .i64 i)]) (H0 := []) rfl (⟨_, _, rfl, rfl, ⟨_, _, rfl, rfl, ⟨_, _, rfl, rfl, ⟨_, _, rfl, rfl, rfl⟩⟩⟩⟩) (rfl) rfl ?_
    refine V.seq ?_
    replace hm1 := bindO hm1; rcases hm1 with ⟨j0, hm2, hm1⟩
    refine V.cutT (D := (List Int) × (Unit)) (fun ⟨out_1, _⟩ => ⟨39, [(4, .vl rn 1 (List.map encInt out_1)), (0, .vl ρ0 6 (List.map encHand list)), (5, .vl rn 1 (List.map (encL rn 1 encInt) y1)), (6, .int .i64 i)], []⟩) (fun ⟨out_1, _⟩ => (out_1 = j0)) ?_ ?_
    ·
     refine V.block ?_
     refine V.seq ?_
     replace hm2 := asrt_some hm2; rcases hm2 with ⟨hh2, hm2⟩
     replace hm2 := asrt_some hm2; rcases hm2 with ⟨hh3, hm2⟩
     replace hm2 := asrt_some hm2; rcases hm2 with ⟨hh4, hm2⟩
     refine V.region ?_
     refine VO.cons rfl (V1.move rfl rfl rfl (ltb rfl) ?_)
     refine VO.cons rfl (V1.move rfl rfl rfl (ltb rfl) ?_)
     refine VO.cons rfl (V1.move rfl rfl rfl (ltb rfl) ?_)
     refine VO.cons rfl (V1.indexI rfl rfl esz_38 rfl rfl hh2 (ltb rfl) ?_)
     refine VO.cons rfl (V1.loadPin rfl rfl tyk_24 rfl rfl (ltb rfl) ?_)
     refine VO.cons rfl (V1.indexI rfl rfl esz_24 rfl rfl hh3 (ltb rfl) ?_)
     refine VO.cons rfl (V1.loadPin rfl rfl tyk_3 rfl rfl (ltb rfl) ?_)
     refine VO.cons rfl (V1.indexI rfl rfl esz_27 rfl rfl hh4 (ltb rfl) ?_)
     refine VO.cons rfl (V1.fieldPin rfl rfl fo_52_0 rfl (ltb rfl) ?_)
     refine VO.cons rfl (V1.loadPin rfl rfl tyk_3 rfl rfl (ltb rfl) ?_)
     refine VO.cons rfl (V1.assign rfl rfl rfl (ltb rfl) ?_)
     refine VO.nil ?_
     refine V.keep 39 [0, 4, 5, 6, 7] [] (E0 := [(0, .vl ρ0 6 (List.map encHand list)), (4, .vl rn 1 (List.map encInt out_0)), (5, .vl rn 1 (List.map (encL rn 1 encInt) y1)), (6, .int .i64 i), (7, .int .i64 ((list.getD (Int.toNat ((y1.getD (Int.toNat i) default).getD (Int.toNat (0 : Int)) default)) default).Record))]) (H0 := []) rfl (⟨_, _, rfl, rfl, ⟨_, _, rfl, rfl, ⟨_, _, rfl, rfl, ⟨_, _, rfl, rfl, ⟨_, _, rfl, rfl, rfl⟩⟩⟩⟩⟩) (rfl) rfl ?_
     refine V.seq ?_
     replace hm2 := bindO hm2; rcases hm2 with ⟨y3, hh5, hm2⟩
     refine V.region ?_
     refine VO.cons rfl (V1.move rfl rfl rfl (ltb rfl) ?_)
     refine VO.cons rfl (V1.move rfl rfl rfl (ltb rfl) ?_)
     refine VO.cons rfl (V1.call rfl rfl rfl cok_84 rfl (ok_spec_l1Has hh5) rfl (ltb rfl) ?_)
     rintro _ _ ⟨rfl, rfl⟩
     refine VO.cons rfl (V1.not rfl rfl rfl (ltb rfl) ?_)
     refine VO.nil ?_
     refine V.cond rfl (fun hc2 => ?_) (fun hc2 => ?_)
     ·
      replace hm2 := cond_t hc2 hm2
      replace hm2 := bindO hm2; rcases hm2 with ⟨y4, hh6, hm2⟩
      refine V.region ?_
      refine VO.cons rfl (V1.move rfl rfl rfl (ltb rfl) ?_)
      refine VO.cons rfl (V1.move rfl rfl rfl (ltb rfl) ?_)
      refine VO.cons rfl (V1.call rfl rfl rfl cok_85 rfl (ok_spec_l1Put hh6) rfl (ltb rfl) ?_)
      rintro _ _ ⟨rfl, rfl⟩
      refine VO.cons rfl (V1.assign rfl rfl rfl (ltb rfl) ?_)
      refine VO.nil ?_
      exact ⟨(y4, ()), Option.some.inj hm2, Keeps.mk (ks := []) rfl ⟨rfl, rfl, rfl, rfl, trivial⟩ (rfl) rfl⟩
     ·
      replace hm2 := cond_f hc2 hm2
      refine V.skip ?_
      exact ⟨(out_0, ()), Option.some.inj hm2, Keeps.mk (ks := []) rfl ⟨rfl, rfl, rfl, rfl, trivial⟩ (rfl) rfl⟩
    ·
     rintro ⟨out_1, _⟩ rfl
     try dsimp only at hm1
     refine V.region ?_
     refine VO.cons rfl (V1.move rfl rfl rfl (ltb rfl) ?_)
     refine VO.cons rfl (V1.int rfl rfl rfl rfl rfl (ltb rfl) ?_)
     refine VO.cons rfl (V1.assign rfl rfl rfl (ltb rfl) ?_)
     refine VO.nil ?_
     exact ⟨(m0, (out_1, (IntKind.i64.wrap (i + (1 : Int)))), ()), hl1 _ (Option.some.inj hm1).symm, Nat.lt_succ_self _, Keeps.mk (ks := []) rfl ⟨rfl, rfl, rfl, rfl, trivial⟩ (rfl) rfl⟩
   ·
    replace hm1 := cond_f hc1 hm1
    refine V.exit ?_
    obtain rfl := hr1 _ (Option.some.inj hm1).symm
    exact ⟨(out_0, ()), rfl, Keeps.mk (ks := []) rfl ⟨rfl, trivial⟩ (rfl) rfl⟩
  ·
   rintro ⟨out_, _⟩ rfl
   try dsimp only at hm0
   refine V.seq ?_
   refine V.region ?_
   refine VO.cons rfl (V1.move rfl rfl rfl (ltb rfl) ?_)
   refine VO.cons rfl (V1.assign rfl rfl rfl (ltb rfl) ?_)
   refine VO.cons rfl (V1.assign rfl rfl rfl (ltb rfl) ?_)
   refine VO.nil ?_
   refine V.ret ?_
   obtain rfl := Option.some.inj hm0
   exact ⟨_, [], ⟨_, _, rfl, rfl, ⟨_, _, rfl, rfl, rfl⟩⟩, List.nil_sublist _, rfl, rfl⟩

theorem ok_impl_within {rn : Nat} {n : Int} {low : Int} {high : Int} {r : Bool} (h : M.impl_within n low high = some r) : Does Try.prog 106 [.int .i64 n, .int .i64 low, .int .i64 high] [] rn (fun x H => x = .bool r ∧ H = []) := by
 have hm0 := h; clear h; unfold M.impl_within at hm0
 try dsimp only at hm0
 refine Does.intro (N := 15) Try.func106 rfl rfl rfl rfl ?_
 intro w0 S0
 refine V.seq ?_
 refine V.region ?_
 refine VO.cons rfl (V1.assign rfl rfl rfl (ltb rfl) ?_)
 refine VO.nil ?_
 refine V.seq ?_
 refine V.region ?_
 refine VO.cons rfl (V1.move rfl rfl rfl (ltb rfl) ?_)
 refine VO.cons rfl (V1.move rfl rfl rfl (ltb rfl) ?_)
 refine VO.cons rfl (V1.int rfl rfl rfl rfl rfl (ltb rfl) ?_)
 refine VO.cons rfl (V1.move rfl rfl rfl (ltb rfl) ?_)
 apply VO.and (n := 3) rfl rfl rfl rfl rfl rfl (ltb rfl) (.none rfl)
 ·
  intro hg0
  refine VO.step (.some rfl rfl rfl) (V1.move rfl rfl rfl (ltb rfl) ?_)
  refine VO.step (.some rfl rfl rfl) (V1.move rfl rfl rfl (ltb rfl) ?_)
  refine VO.step (.some rfl rfl rfl) (V1.int rfl rfl rfl rfl rfl (ltb rfl) ?_)
  exact VO.nil ⟨rfl, rfl, rfl, rfl, .inr ⟨rfl, .inr ⟨rfl, .inr ⟨rfl, .inr ⟨rfl, .inl rfl⟩⟩⟩⟩⟩
 refine VO.cons rfl (V1.assign rfl rfl rfl (ltb rfl) ?_)
 refine VO.nil ?_
 refine V.ret ?_
 obtain rfl := Option.some.inj hm0
 exact ⟨_, [], ⟨_, _, rfl, rfl, rfl⟩, List.nil_sublist _, rfl, rfl⟩

theorem ok_impl_isRecordId {rn : Nat} {id_ : Int} {r : Bool} (h : M.impl_isRecordId id_ = some r) : Does Try.prog 95 [.int .i64 id_] [] rn (fun x H => x = .bool r ∧ H = []) := by
 have hm0 := h; clear h; unfold M.impl_isRecordId at hm0
 try dsimp only at hm0
 refine Does.intro (N := 5) Try.func95 rfl rfl rfl rfl ?_
 intro w0 S0
 refine V.seq ?_
 refine V.region ?_
 refine VO.cons rfl (V1.assign rfl rfl rfl (ltb rfl) ?_)
 refine VO.nil ?_
 refine V.seq ?_
 replace hm0 := bindO hm0; rcases hm0 with ⟨y0, hh0, hm0⟩
 refine V.region ?_
 refine VO.cons rfl (V1.move rfl rfl rfl (ltb rfl) ?_)
 refine VO.cons rfl (V1.call rfl rfl rfl cok_106 rfl (ok_impl_within hh0) rfl (ltb rfl) ?_)
 rintro _ _ ⟨rfl, rfl⟩
 refine VO.cons rfl (V1.assign rfl rfl rfl (ltb rfl) ?_)
 refine VO.nil ?_
 refine V.ret ?_
 obtain rfl := Option.some.inj hm0
 exact ⟨_, [], ⟨_, _, rfl, rfl, rfl⟩, List.nil_sublist _, rfl, rfl⟩

theorem ok_impl_isPerson {rn : Nat} {who : Int} {r : Bool} (h : M.impl_isPerson who = some r) : Does Try.prog 87 [.int .i64 who] [] rn (fun x H => x = .bool r ∧ H = []) := by
 have hm0 := h; clear h; unfold M.impl_isPerson at hm0
 try dsimp only at hm0
 refine Does.intro (N := 5) Try.func87 rfl rfl rfl rfl ?_
 intro w0 S0
 refine V.seq ?_
 refine V.region ?_
 refine VO.cons rfl (V1.assign rfl rfl rfl (ltb rfl) ?_)
 refine VO.nil ?_
 refine V.seq ?_
 replace hm0 := bindO hm0; rcases hm0 with ⟨y0, hh0, hm0⟩
 refine V.region ?_
 refine VO.cons rfl (V1.move rfl rfl rfl (ltb rfl) ?_)
 refine VO.cons rfl (V1.call rfl rfl rfl cok_106 rfl (ok_impl_within hh0) rfl (ltb rfl) ?_)
 rintro _ _ ⟨rfl, rfl⟩
 refine VO.cons rfl (V1.assign rfl rfl rfl (ltb rfl) ?_)
 refine VO.nil ?_
 refine V.ret ?_
 obtain rfl := Option.some.inj hm0
 exact ⟨_, [], ⟨_, _, rfl, rfl, rfl⟩, List.nil_sublist _, rfl, rfl⟩

theorem ok_impl_isDay {rn : Nat} {day : Int} {r : Bool} (h : M.impl_isDay day = some r) : Does Try.prog 88 [.int .i64 day] [] rn (fun x H => x = .bool r ∧ H = []) := by
 have hm0 := h; clear h; unfold M.impl_isDay at hm0
 try dsimp only at hm0
 refine Does.intro (N := 5) Try.func88 rfl rfl rfl rfl ?_
 intro w0 S0
 refine V.seq ?_
 refine V.region ?_
 refine VO.cons rfl (V1.assign rfl rfl rfl (ltb rfl) ?_)
 refine VO.nil ?_
 refine V.seq ?_
 replace hm0 := bindO hm0; rcases hm0 with ⟨y0, hh0, hm0⟩
 refine V.region ?_
 refine VO.cons rfl (V1.move rfl rfl rfl (ltb rfl) ?_)
 refine VO.cons rfl (V1.call rfl rfl rfl cok_106 rfl (ok_impl_within hh0) rfl (ltb rfl) ?_)
 rintro _ _ ⟨rfl, rfl⟩
 refine VO.cons rfl (V1.assign rfl rfl rfl (ltb rfl) ?_)
 refine VO.nil ?_
 refine V.ret ?_
 obtain rfl := Option.some.inj hm0
 exact ⟨_, [], ⟨_, _, rfl, rfl, rfl⟩, List.nil_sublist _, rfl, rfl⟩

theorem ok_impl_IsHand {rn : Nat} {h_ : Hand} {r : Bool} (h : M.impl_IsHand h_ = some r) : Does Try.prog 41 [encHand h_] [] rn (fun x H => x = .bool r ∧ H = []) := by
 have hm0 := h; clear h; unfold M.impl_IsHand at hm0
 try dsimp only at hm0
 refine Does.intro (N := 33) Try.func41 rfl rfl rfl rfl ?_
 intro w0 S0
 refine V.seq ?_
 refine V.region ?_
 refine VO.cons rfl (V1.boxN (n := 6) rfl rfl rfl rfl rfl (ltb rfl) ?_)
 intro b0
 refine VO.cons rfl (V1.assign rfl rfl rfl (ltb rfl) ?_)
 refine VO.nil ?_
 refine V.seq ?_
 replace hm0 := bindO hm0; rcases hm0 with ⟨y0, hh0, hm0⟩
 replace hm0 := bindO hm0; rcases hm0 with ⟨y1, hh1, hm0⟩
 replace hm0 := bindO hm0; rcases hm0 with ⟨y2, hh2, hm0⟩
 replace hm0 := bindO hm0; rcases hm0 with ⟨y3, hh3, hm0⟩
 replace hm0 := bindO hm0; rcases hm0 with ⟨y4, hh4, hm0⟩
 refine V.region ?_
 refine VO.cons rfl (V1.fieldRef rfl rfl fo_52_0 rfl (ltb rfl) ?_)
 refine VO.cons rfl (V1.loadRef (k := 0) rfl rfl tyk_3 rfl rfl rfl rfl rfl (ltb rfl) ?_)
 refine VO.cons rfl (V1.call rfl rfl rfl cok_95 rfl (ok_impl_isRecordId hh0) rfl (ltb rfl) ?_)
 rintro _ _ ⟨rfl, rfl⟩
 refine VO.cons rfl (V1.move rfl rfl rfl (ltb rfl) ?_)
 apply VO.and (n := 3) rfl rfl rfl rfl rfl rfl (ltb rfl) (.none rfl)
 ·
  intro hg0
  refine VO.step (.some rfl rfl rfl) (V1.fieldRef rfl rfl fo_52_1 rfl (ltb rfl) ?_)
  refine VO.step (.some rfl rfl rfl) (V1.loadRef (k := 0) rfl rfl tyk_3 rfl rfl rfl rfl rfl (ltb rfl) ?_)
  refine VO.step (.some rfl rfl rfl) (V1.call rfl rfl rfl cok_87 rfl (ok_impl_isPerson (cond_t hg0 hh1)) rfl (ltb rfl) ?_)
  rintro _ _ ⟨rfl, rfl⟩
  exact VO.nil ⟨rfl, rfl, rfl, rfl, .inr ⟨rfl, .inr ⟨rfl, .inr ⟨rfl, .inr ⟨rfl, .inl rfl⟩⟩⟩⟩⟩
 refine VO.cons rfl (V1.move rfl rfl rfl (ltb rfl) ?_)
 apply VO.and (n := 3) rfl rfl rfl rfl rfl rfl (ltb rfl) (.none rfl)
 ·
  intro hg1
  refine VO.step (.some rfl rfl rfl) (V1.fieldRef rfl rfl fo_52_2 rfl (ltb rfl) ?_)
  refine VO.step (.some rfl rfl rfl) (V1.loadRef (k := 0) rfl rfl tyk_3 rfl rfl rfl rfl rfl (ltb rfl) ?_)
  refine VO.step (.some rfl rfl rfl) (V1.call rfl rfl rfl cok_87 rfl (ok_impl_isPerson (cond_t hg1 hh2)) rfl (ltb rfl) ?_)
  rintro _ _ ⟨rfl, rfl⟩
  exact VO.nil ⟨rfl, rfl, rfl, rfl, .inr ⟨rfl, .inr ⟨rfl, .inr ⟨rfl, .inr ⟨rfl, .inl rfl⟩⟩⟩⟩⟩
 refine VO.cons rfl (V1.move rfl rfl rfl (ltb rfl) ?_)
 apply VO.and (n := 5) rfl rfl rfl rfl rfl rfl (ltb rfl) (.none rfl)
 ·
  intro hg2
  refine VO.step (.some rfl rfl rfl) (V1.fieldRef rfl rfl fo_52_1 rfl (ltb rfl) ?_)
  refine VO.step (.some rfl rfl rfl) (V1.loadRef (k := 0) rfl rfl tyk_3 rfl rfl rfl rfl rfl (ltb rfl) ?_)
  refine VO.step (.some rfl rfl rfl) (V1.fieldRef rfl rfl fo_52_2 rfl (ltb rfl) ?_)
  refine VO.step (.some rfl rfl rfl) (V1.loadRef (k := 0) rfl rfl tyk_3 rfl rfl rfl rfl rfl (ltb rfl) ?_)
  refine VO.step (.some rfl rfl rfl) (V1.int rfl rfl rfl rfl rfl (ltb rfl) ?_)
  exact VO.nil ⟨rfl, rfl, rfl, rfl, .inr ⟨rfl, .inr ⟨rfl, .inr ⟨rfl, .inr ⟨rfl, .inr ⟨rfl, .inr ⟨rfl, .inl rfl⟩⟩⟩⟩⟩⟩⟩
 refine VO.cons rfl (V1.move rfl rfl rfl (ltb rfl) ?_)
 apply VO.and (n := 3) rfl rfl rfl rfl rfl rfl (ltb rfl) (.none rfl)
 ·
  intro hg3
  refine VO.step (.some rfl rfl rfl) (V1.fieldRef rfl rfl fo_52_3 rfl (ltb rfl) ?_)
  refine VO.step (.some rfl rfl rfl) (V1.loadRef (k := 0) rfl rfl tyk_3 rfl rfl rfl rfl rfl (ltb rfl) ?_)
  refine VO.step (.some rfl rfl rfl) (V1.call rfl rfl rfl cok_88 rfl (ok_impl_isDay (cond_t hg3 hh3)) rfl (ltb rfl) ?_)
  rintro _ _ ⟨rfl, rfl⟩
  exact VO.nil ⟨rfl, rfl, rfl, rfl, .inr ⟨rfl, .inr ⟨rfl, .inr ⟨rfl, .inr ⟨rfl, .inl rfl⟩⟩⟩⟩⟩
 refine VO.cons rfl (V1.move rfl rfl rfl (ltb rfl) ?_)
 apply VO.and (n := 3) rfl rfl rfl rfl rfl rfl (ltb rfl) (.none rfl)
 ·
  intro hg4
  refine VO.step (.some rfl rfl rfl) (V1.fieldRef rfl rfl fo_52_4 rfl (ltb rfl) ?_)
  refine VO.step (.some rfl rfl rfl) (V1.loadRef (k := 0) rfl rfl tyk_3 rfl rfl rfl rfl rfl (ltb rfl) ?_)
  refine VO.step (.some rfl rfl rfl) (V1.call rfl rfl rfl cok_106 rfl (ok_impl_within (cond_t hg4 hh4)) rfl (ltb rfl) ?_)
  rintro _ _ ⟨rfl, rfl⟩
  exact VO.nil ⟨rfl, rfl, rfl, rfl, .inr ⟨rfl, .inr ⟨rfl, .inr ⟨rfl, .inr ⟨rfl, .inl rfl⟩⟩⟩⟩⟩
 refine VO.cons rfl (V1.assign rfl rfl rfl (ltb rfl) ?_)
 refine VO.nil ?_
 refine V.ret ?_
 obtain rfl := Option.some.inj hm0
 exact ⟨_, [], ⟨_, _, rfl, rfl, rfl⟩, List.nil_sublist _, rfl, rfl⟩

theorem ok_impl_next {ρ0 rn : Nat} {list : List Hand} {record : Int} {from_ : Int} {r : Int} (h : M.impl_next list record from_ = some r) : Does Try.prog 107 [.vl ρ0 6 (List.map encHand list), .int .i64 record, .int .i64 from_] [] rn (fun x H => x = .int .i64 r ∧ H = []) := by
 have hm0 := h; clear h; unfold M.impl_next at hm0
 try dsimp only at hm0
 refine Does.intro (N := 23) Try.func107 rfl rfl rfl rfl ?_
 intro w0 S0
 refine V.seq ?_
 refine V.region ?_
 refine VO.cons rfl (V1.assign rfl rfl rfl (ltb rfl) ?_)
 refine VO.nil ?_
 refine V.seq ?_
 refine V.seq ?_
 refine V.region ?_
 refine VO.cons rfl (V1.move rfl rfl rfl (ltb rfl) ?_)
 refine VO.cons rfl (V1.assign rfl rfl rfl (ltb rfl) ?_)
 refine VO.nil ?_
 replace hm0 := bindO hm0; rcases hm0 with ⟨e0, he1, hm0⟩
 refine V.cutT (D := (Unit) × (Unit)) (fun ⟨_, _⟩ => ⟨23, [], []⟩) (fun ⟨_, _⟩ => (.inl () = e0)) ?_ ?_
 ·
  refine V.block ?_
  refine V.keep 23 [7, 0, 1] [] (E0 := [(7, .int .i64 from_), (0, .vl ρ0 6 (List.map encHand list)), (1, .int .i64 record)]) (H0 := []) rfl (⟨_, _, rfl, rfl, ⟨_, _, rfl, rfl, ⟨_, _, rfl, rfl, rfl⟩⟩⟩) (rfl) rfl ?_
  refine V.loopE (D := Nat × (Int) × (Unit)) (fun ⟨n0, i, _⟩ => [(7, .int .i64 i)]) (fun ⟨n0, i, _⟩ => []) (fun ⟨n0, i, _⟩ => loopO (M.impl_next_l0 list record) n0 i = some e0) (fun ⟨n0, _, _⟩ => n0) (rounds, from_, ()) rfl he1 ?_
  rintro ⟨n0, i, _⟩ hP0
  obtain ⟨m0, y0, rfl, hm1, hl1, hr1⟩ := loop_head hP0
  unfold M.impl_next_l0 at hm1; dsimp only at hm1
  show V _ _ _ ⟨23, [(7, .int .i64 i), (0, .vl ρ0 6 (List.map encHand list)), (1, .int .i64 record)], []⟩
  refine V.seq ?_
  refine V.seq ?_
  refine V.region ?_
  refine VO.cons rfl (V1.move rfl rfl rfl (ltb rfl) ?_)
  refine VO.cons rfl (V1.move rfl rfl rfl (ltb rfl) ?_)
  refine VO.cons rfl (V1.lenMap rfl rfl rfl rfl rfl rfl isl_27 (ltb rfl) ?_)
  refine VO.cons rfl (V1.int rfl rfl rfl rfl rfl (ltb rfl) ?_)
  refine VO.nil ?_
  refine V.cond rfl (fun hc0 => ?_) (fun hc0 => ?_)
  ·
   replace hm1 := cond_t hc0 hm1
   refine V.skip ?_
   refine V.keep 23 [0, 1, 7] [] (E0 := [(0, .vl ρ0 6 (List.map encHand list)), (1, .int .i64 record), (7, .int .i64 i)]) (H0 := []) rfl (⟨_, _, rfl, rfl, ⟨_, _, rfl, rfl, ⟨_, _, rfl, rfl, rfl⟩⟩⟩) (rfl) rfl ?_
   refine V.seq ?_
   refine V.block ?_
   refine V.seq ?_
   replace hm1 := asrt_some hm1; rcases hm1 with ⟨hh0, hm1⟩
   refine V.region ?_
   refine VO.cons rfl (V1.move rfl rfl rfl (ltb rfl) ?_)
   refine VO.cons rfl (V1.move rfl rfl rfl (ltb rfl) ?_)
   refine VO.cons rfl (V1.indexI rfl rfl esz_27 rfl rfl hh0 (ltb rfl) ?_)
   refine VO.cons rfl (V1.fieldPin rfl rfl fo_52_0 rfl (ltb rfl) ?_)
   refine VO.cons rfl (V1.loadPin rfl rfl tyk_3 rfl rfl (ltb rfl) ?_)
   refine VO.cons rfl (V1.move rfl rfl rfl (ltb rfl) ?_)
   refine VO.cons rfl (V1.int rfl rfl rfl rfl rfl (ltb rfl) ?_)
   refine VO.nil ?_
   refine V.keep 23 [0, 1, 7, 21] [] (E0 := [(0, .vl ρ0 6 (List.map encHand list)), (1, .int .i64 record), (7, .int .i64 i), (21, .bool (((list.getD (Int.toNat i) default).Record) == record))]) (H0 := []) rfl (⟨_, _, rfl, rfl, ⟨_, _, rfl, rfl, ⟨_, _, rfl, rfl, ⟨_, _, rfl, rfl, rfl⟩⟩⟩⟩) (rfl) rfl ?_
   refine V.cond rfl (fun hc1 => ?_) (fun hc1 => ?_)
   ·
    replace hm1 := cond_t hc1 hm1
    refine V.seq ?_
    refine V.region ?_
    refine VO.cons rfl (V1.move rfl rfl rfl (ltb rfl) ?_)
    refine VO.cons rfl (V1.assign rfl rfl rfl (ltb rfl) ?_)
    refine VO.nil ?_
    refine V.ret ?_
    obtain rfl := hr1 _ (Option.some.inj hm1).symm
    change some _ = some _ at hm0
    obtain rfl := Option.some.inj hm0
    exact ⟨_, [], ⟨_, _, rfl, rfl, rfl⟩, List.nil_sublist _, rfl, rfl⟩
   ·
    replace hm1 := cond_f hc1 hm1
    refine V.skip ?_
    refine V.region ?_
    refine VO.cons rfl (V1.move rfl rfl rfl (ltb rfl) ?_)
    refine VO.cons rfl (V1.int rfl rfl rfl rfl rfl (ltb rfl) ?_)
    refine VO.cons rfl (V1.assign rfl rfl rfl (ltb rfl) ?_)
    refine VO.nil ?_
    exact ⟨(m0, (IntKind.i64.wrap (i + (1 : Int))), ()), hl1 _ (Option.some.inj hm1).symm, Nat.lt_succ_self _, Keeps.mk (ks := []) rfl ⟨rfl, rfl, rfl, trivial⟩ (rfl) rfl⟩
  ·
   replace hm1 := cond_f hc0 hm1
   refine V.exit ?_
   obtain rfl := hr1 _ (Option.some.inj hm1).symm
   exact ⟨((), ()), rfl, Keeps.mk (ks := []) rfl trivial (rfl) rfl⟩
 ·
  rintro ⟨_, _⟩ rfl
  try dsimp only at hm0
  refine V.seq ?_
  refine V.region ?_
  refine VO.cons rfl (V1.assign rfl rfl rfl (ltb rfl) ?_)
  refine VO.nil ?_
  refine V.ret ?_
  obtain rfl := Option.some.inj hm0
  exact ⟨_, [], ⟨_, _, rfl, rfl, rfl⟩, List.nil_sublist _, rfl, rfl⟩

theorem ok_impl_IsCustody {ρ0 rn : Nat} {list : List Hand} {r : Bool} (h : M.impl_IsCustody list = some r) : Does Try.prog 42 [.vl ρ0 6 (List.map encHand list)] [] rn (fun x H => x = .bool r ∧ H = []) := by
 have hm0 := h; clear h; unfold M.impl_IsCustody at hm0
 try dsimp only at hm0
 refine Does.intro (N := 53) Try.func42 rfl rfl rfl rfl ?_
 intro w0 S0
 refine V.seq ?_
 refine V.region ?_
 refine VO.cons rfl (V1.assign rfl rfl rfl (ltb rfl) ?_)
 refine VO.nil ?_
 refine V.seq ?_
 refine V.seq ?_
 refine V.region ?_
 refine VO.cons rfl (V1.move rfl rfl rfl (ltb rfl) ?_)
 refine VO.cons rfl (V1.lenMap rfl rfl rfl rfl rfl rfl isl_27 (ltb rfl) ?_)
 refine VO.cons rfl (V1.move rfl rfl rfl (ltb rfl) ?_)
 refine VO.nil ?_
 replace hm0 := bindO hm0; rcases hm0 with ⟨e0, he1, hm0⟩
 refine V.cutT (D := (Unit) × (Unit)) (fun ⟨_, _⟩ => ⟨53, [(0, .vl ρ0 6 (List.map encHand list))], []⟩) (fun ⟨_, _⟩ => (.inl () = e0)) ?_ ?_
 ·
  refine V.block ?_
  refine V.keep 53 [8, 0, 6, 7] [] (E0 := [(8, .int .i64 (0 : Int)), (0, .vl ρ0 6 (List.map encHand list)), (6, .vl ρ0 6 (List.map encHand list)), (7, .int .i64 (list.length : Int))]) (H0 := []) rfl (⟨_, _, rfl, rfl, ⟨_, _, rfl, rfl, ⟨_, _, rfl, rfl, ⟨_, _, rfl, rfl, rfl⟩⟩⟩⟩) (rfl) rfl ?_
  refine V.loopE (D := Nat × (Int) × (Unit)) (fun ⟨n0, v, _⟩ => [(8, .int .i64 v)]) (fun ⟨n0, v, _⟩ => []) (fun ⟨n0, v, _⟩ => loopO (M.impl_IsCustody_l0 list) n0 v = some e0) (fun ⟨n0, _, _⟩ => n0) (rounds, (0 : Int), ()) rfl he1 ?_
  rintro ⟨n0, v, _⟩ hP0
  obtain ⟨m0, y0, rfl, hm1, hl1, hr1⟩ := loop_head hP0
  unfold M.impl_IsCustody_l0 at hm1; dsimp only at hm1
  show V _ _ _ ⟨53, [(8, .int .i64 v), (0, .vl ρ0 6 (List.map encHand list)), (6, .vl ρ0 6 (List.map encHand list)), (7, .int .i64 (list.length : Int))], []⟩
  refine V.seq ?_
  refine V.region ?_
  refine VO.cons rfl (V1.int rfl rfl rfl rfl rfl (ltb rfl) ?_)
  refine VO.nil ?_
  refine V.seq ?_
  refine V.cond rfl (fun hc0 => ?_) (fun hc0 => ?_)
  ·
   replace hm1 := cond_t hc0 hm1
   refine V.skip ?_
   refine V.seq ?_
   refine V.block ?_
   refine V.seq ?_
   replace hm1 := asrt_some hm1; rcases hm1 with ⟨hh0, hm1⟩
   refine V.region ?_
   refine VO.cons rfl (V1.move rfl rfl rfl (ltb rfl) ?_)
   refine VO.cons rfl (V1.indexI rfl rfl esz_27 rfl rfl hh0 (ltb rfl) ?_)
   refine VO.cons rfl (V1.loadPinAll rfl rfl tyk_52 rfl rfl (ltb rfl) ?_)
   refine VO.cons rfl (V1.alloc rfl rfl zk_52 (ltb rfl) ?_)
   intro b0
   refine VO.cons rfl (V1.assign rfl rfl rfl (ltb rfl) ?_)
   refine VO.cons rfl (V1.storeRefAll (k := 0) rfl rfl tyk_52 rfl rfl rfl rfl rfl rfl ?_)
   refine VO.nil ?_
   refine V.keep 53 [0, 3, 4, 6, 7, 8] [0] (E0 := [(0, .vl ρ0 6 (List.map encHand list)), (3, .int .i64 v), (4, .ref b0 6 0 0), (6, .vl ρ0 6 (List.map encHand list)), (7, .int .i64 (list.length : Int)), (8, .int .i64 v)]) (H0 := [(b0, ⟨6, [encHand (list.getD (Int.toNat v) default)]⟩)]) rfl (⟨_, _, rfl, rfl, ⟨_, _, rfl, rfl, ⟨_, _, rfl, rfl, ⟨_, _, rfl, rfl, ⟨_, _, rfl, rfl, ⟨_, _, rfl, rfl, rfl⟩⟩⟩⟩⟩⟩) (⟨_, _, rfl, rfl, rfl⟩) rfl ?_
   refine V.seq ?_
   refine V.seq ?_
   replace hm1 := bindO hm1; rcases hm1 with ⟨y1, hh1, hm1⟩
   replace hm1 := asrt_some hm1; rcases hm1 with ⟨hh2, hm1⟩
   refine V.regionM 53 18 [⟨[(4, none)], [], none⟩, ⟨[(13, some 0)], [], none⟩, ⟨[(14, some 0)], [], none⟩, ⟨[(15, some 0)], [], none⟩, ⟨[(3, none)], [(0, false)], none⟩, ⟨[(17, some 0)], [(1, false)], none⟩, ⟨[(18, some 0)], [(2, false)], none⟩, ⟨[(0, none)], [(0, true), (3, false)], none⟩, ⟨[(3, none)], [(1, true), (4, false)], none⟩, ⟨[(21, some 0)], [(2, true), (5, false)], none⟩, ⟨[(20, some 2), (22, some 0)], [(3, true), (6, false)], none⟩, ⟨[(23, some 0)], [(4, true), (7, false)], none⟩, ⟨[(24, some 0)], [(5, true), (8, false)], none⟩, ⟨[(4, none)], [(6, true), (9, false)], none⟩, ⟨[(26, some 0)], [(7, true), (10, false)], none⟩, ⟨[(25, some 2), (27, some 0)], [(8, true), (11, false)], none⟩, ⟨[], [(12, false)], some (true, 19, 28, 9, 0)⟩, ⟨[], [], some (false, 16, 29, 13, 0)⟩] [(0, none), (3, none), (4, none), (6, none), (7, none), (8, none), (30, some 0)] (⟨_, rfl, ⟨_, rfl, ⟨_, rfl, ⟨_, rfl, ⟨_, rfl, ⟨_, rfl, ⟨_, rfl, ⟨_, rfl, ⟨_, rfl, ⟨_, rfl, ⟨_, rfl, ⟨_, rfl, ⟨_, rfl, ⟨_, rfl, ⟨_, rfl, ⟨_, rfl, ⟨_, rfl, ⟨_, rfl, ⟨rfl, rfl⟩⟩⟩⟩⟩⟩⟩⟩⟩⟩⟩⟩⟩⟩⟩⟩⟩⟩⟩) mixed_orders rfl (by decide +kernel) (fun hck4 => ?_)
   refine VP.step (p := ?pv217) rfl rfl rfl (⟨_, _, rfl, rfl, rfl⟩) ?hv217 ?rest217 hck4
   case hv217 =>
    intro E1
    refine (V1.loadRefAll (k := 0) rfl rfl tyk_52 rfl rfl rfl rfl rfl (ltb rfl) ?_)
    exact rfl
   refine VP.step (p := ?pv218) rfl rfl rfl (⟨_, _, rfl, rfl, rfl⟩) ?hv218 ?rest218 hck4
   case hv218 =>
    intro E1
    refine (V1.call rfl rfl rfl cok_41 rfl (ok_impl_IsHand hh1) rfl (ltb rfl) ?_)
    rintro _ _ ⟨rfl, rfl⟩
    exact rfl
   refine VP.step (p := ?pv219) rfl rfl rfl (⟨_, _, rfl, rfl, rfl⟩) ?hv219 ?rest219 hck4
   case hv219 =>
    intro E1
    refine (V1.not rfl rfl rfl (ltb rfl) ?_)
    exact rfl
   refine VP.step (p := ?pv220) rfl rfl rfl (⟨_, _, rfl, rfl, rfl⟩) ?hv220 ?rest220 hck4
   case hv220 =>
    intro E1
    refine (V1.move rfl rfl rfl (ltb rfl) ?_)
    exact rfl
   refine VP.step (p := ?pv221) rfl rfl rfl (⟨_, _, rfl, rfl, rfl⟩) ?hv221 ?rest221 hck4
   case hv221 =>
    refine ⟨_, rfl, fun hg0 => ?_⟩
    intro E1
    refine (V1.move rfl rfl rfl (ltb rfl) ?_)
    exact rfl
   refine VP.step (p := ?pv222) rfl rfl rfl (⟨_, _, rfl, rfl, rfl⟩) ?hv222 ?rest222 hck4
   case hv222 =>
    refine ⟨_, rfl, fun hg0 => ?_⟩
    intro E1
    refine (V1.int rfl rfl rfl rfl rfl (ltb rfl) ?_)
    exact rfl
   refine VP.step (p := ?pv223) rfl rfl rfl (⟨_, _, rfl, rfl, rfl⟩) ?hv223 ?rest223 hck4
   case hv223 =>
    refine ⟨_, rfl, fun hg0 => ?_⟩
    intro E1
    refine (V1.move rfl rfl rfl (ltb rfl) ?_)
    exact rfl
   refine VP.step (p := ?pv224) rfl rfl rfl (⟨_, _, rfl, rfl, rfl⟩) ?hv224 ?rest224 hck4
   case hv224 =>
    refine ⟨_, rfl, fun hg1 => ?_⟩
    refine ⟨_, rfl, fun hg0 => ?_⟩
    intro E1
    refine (V1.move rfl rfl rfl (ltb rfl) ?_)
    exact rfl
   refine VP.step (p := ?pv225) rfl rfl rfl (⟨_, _, rfl, rfl, rfl⟩) ?hv225 ?rest225 hck4
   case hv225 =>
    refine ⟨_, rfl, fun hg1 => ?_⟩
    refine ⟨_, rfl, fun hg0 => ?_⟩
    intro E1
    refine (V1.move rfl rfl rfl (ltb rfl) ?_)
    exact rfl
   refine VP.step (p := ?pv226) rfl rfl rfl (⟨_, _, rfl, rfl, rfl⟩) ?hv226 ?rest226 hck4
   case hv226 =>
    refine ⟨_, rfl, fun hg1 => ?_⟩
    refine ⟨_, rfl, fun hg0 => ?_⟩
    intro E1
    refine (V1.int rfl rfl rfl rfl rfl (ltb rfl) ?_)
    exact rfl
   refine VP.step (p := ?pv227) rfl rfl rfl (⟨_, _, rfl, rfl, ⟨_, _, rfl, rfl, rfl⟩⟩) ?hv227 ?rest227 hck4
   case hv227 =>
    refine ⟨_, rfl, fun hg1 => ?_⟩
    refine ⟨_, rfl, fun hg0 => ?_⟩
    intro E1
    refine (V1.indexI rfl rfl esz_27 rfl rfl (hh2 hg0 hg1) (ltb rfl) ?_)
    exact rfl
   refine VP.step (p := ?pv228) rfl rfl rfl (⟨_, _, rfl, rfl, rfl⟩) ?hv228 ?rest228 hck4
   case hv228 =>
    refine ⟨_, rfl, fun hg1 => ?_⟩
    refine ⟨_, rfl, fun hg0 => ?_⟩
    intro E1
    refine (V1.fieldPin rfl rfl fo_52_3 rfl (ltb rfl) ?_)
    exact rfl
   refine VP.step (p := ?pv229) rfl rfl rfl (⟨_, _, rfl, rfl, rfl⟩) ?hv229 ?rest229 hck4
   case hv229 =>
    refine ⟨_, rfl, fun hg1 => ?_⟩
    refine ⟨_, rfl, fun hg0 => ?_⟩
    intro E1
    refine (V1.loadPin rfl rfl tyk_3 rfl rfl (ltb rfl) ?_)
    exact rfl
   refine VP.step (p := ?pv230) rfl rfl rfl (⟨_, _, rfl, rfl, rfl⟩) ?hv230 ?rest230 hck4
   case hv230 =>
    refine ⟨_, rfl, fun hg1 => ?_⟩
    refine ⟨_, rfl, fun hg0 => ?_⟩
    intro E1
    refine (V1.fieldRef rfl rfl fo_52_3 rfl (ltb rfl) ?_)
    exact rfl
   refine VP.step (p := ?pv231) rfl rfl rfl (⟨_, _, rfl, rfl, rfl⟩) ?hv231 ?rest231 hck4
   case hv231 =>
    refine ⟨_, rfl, fun hg1 => ?_⟩
    refine ⟨_, rfl, fun hg0 => ?_⟩
    intro E1
    refine (V1.loadRef (k := 0) rfl rfl tyk_3 rfl rfl rfl rfl rfl (ltb rfl) ?_)
    exact rfl
   refine VP.step (p := ?pv232) rfl rfl rfl (⟨_, _, rfl, rfl, ⟨_, _, rfl, rfl, rfl⟩⟩) ?hv232 ?rest232 hck4
   case hv232 =>
    refine ⟨_, rfl, fun hg1 => ?_⟩
    refine ⟨_, rfl, fun hg0 => ?_⟩
    intro E1
    refine (V1.int rfl rfl rfl rfl rfl (ltb rfl) ?_)
    exact rfl
   refine VP.pickAnd rfl rfl rfl rfl rfl rfl (⟨_, rfl, fun _ => trivial⟩) ?_ hck4
   refine VP.pickOr rfl rfl rfl rfl rfl rfl (trivial) ?_ hck4
   refine VP.fin rfl (⟨_, _, rfl, rfl, ⟨_, _, rfl, rfl, ⟨_, _, rfl, rfl, ⟨_, _, rfl, rfl, ⟨_, _, rfl, rfl, ⟨_, _, rfl, rfl, ⟨_, _, rfl, rfl, rfl⟩⟩⟩⟩⟩⟩⟩) ?_
   refine VO.nil ?_
   refine V.cond rfl (fun hc1 => ?_) (fun hc1 => ?_)
   ·
    replace hm1 := cond_t hc1 hm1
    refine V.seq ?_
    refine V.region ?_
    refine VO.cons rfl (V1.assign rfl rfl rfl (ltb rfl) ?_)
    refine VO.nil ?_
    refine V.ret ?_
    obtain rfl := hr1 _ (Option.some.inj hm1).symm
    change some _ = some _ at hm0
    obtain rfl := Option.some.inj hm0
    exact ⟨_, [], ⟨_, _, rfl, rfl, rfl⟩, List.nil_sublist _, rfl, rfl⟩
   ·
    replace hm1 := cond_f hc1 hm1
    refine V.skip ?_
    refine V.seq ?_
    replace hm1 := bindO hm1; rcases hm1 with ⟨y2, hh3, hm1⟩
    refine V.region ?_
    refine VO.cons rfl (V1.move rfl rfl rfl (ltb rfl) ?_)
    refine VO.cons rfl (V1.fieldRef rfl rfl fo_52_0 rfl (ltb rfl) ?_)
    refine VO.cons rfl (V1.loadRef (k := 0) rfl rfl tyk_3 rfl rfl rfl rfl rfl (ltb rfl) ?_)
    refine VO.cons rfl (V1.move rfl rfl rfl (ltb rfl) ?_)
    refine VO.cons rfl (V1.int rfl rfl rfl rfl rfl (ltb rfl) ?_)
    refine VO.cons rfl (V1.call rfl rfl rfl cok_107 rfl (ok_impl_next hh3) rfl (ltb rfl) ?_)
    rintro _ _ ⟨rfl, rfl⟩
    refine VO.cons rfl (V1.assign rfl rfl rfl (ltb rfl) ?_)
    refine VO.nil ?_
    refine V.keep 53 [0, 4, 5, 6, 7, 8] [0] (E0 := [(0, .vl ρ0 6 (List.map encHand list)), (4, .ref b0 6 0 0), (5, .int .i64 y2), (6, .vl ρ0 6 (List.map encHand list)), (7, .int .i64 (list.length : Int)), (8, .int .i64 v)]) (H0 := [(b0, ⟨6, [encHand (list.getD (Int.toNat v) default)]⟩)]) rfl (⟨_, _, rfl, rfl, ⟨_, _, rfl, rfl, ⟨_, _, rfl, rfl, ⟨_, _, rfl, rfl, ⟨_, _, rfl, rfl, ⟨_, _, rfl, rfl, rfl⟩⟩⟩⟩⟩⟩) (⟨_, _, rfl, rfl, rfl⟩) rfl ?_
    refine V.seq ?_
    replace hm1 := asrt_some hm1; rcases hm1 with ⟨hh4, hm1⟩
    refine V.regionM 53 12 [⟨[(5, none)], [], none⟩, ⟨[(37, some 0)], [], none⟩, ⟨[(38, some 0)], [], none⟩, ⟨[(0, none)], [(0, true)], none⟩, ⟨[(5, none)], [(1, true)], none⟩, ⟨[(40, some 1), (41, some 0)], [(2, true)], none⟩, ⟨[(42, some 0)], [(3, true)], none⟩, ⟨[(43, some 0)], [(4, true)], none⟩, ⟨[(4, none)], [(5, true)], none⟩, ⟨[(45, some 0)], [(6, true)], none⟩, ⟨[(44, some 2), (46, some 0)], [(7, true)], none⟩, ⟨[], [], some (true, 39, 47, 8, 0)⟩] [(0, none), (6, none), (7, none), (8, none), (48, some 0)] (⟨_, rfl, ⟨_, rfl, ⟨_, rfl, ⟨_, rfl, ⟨_, rfl, ⟨_, rfl, ⟨_, rfl, ⟨_, rfl, ⟨_, rfl, ⟨_, rfl, ⟨_, rfl, ⟨_, rfl, ⟨rfl, rfl⟩⟩⟩⟩⟩⟩⟩⟩⟩⟩⟩⟩⟩) mixed_orders rfl (by decide +kernel) (fun hck7 => ?_)
    refine VP.step (p := ?pv233) rfl rfl rfl (⟨_, _, rfl, rfl, rfl⟩) ?hv233 ?rest233 hck7
    case hv233 =>
     intro E1
     refine (V1.move rfl rfl rfl (ltb rfl) ?_)
     exact rfl
    refine VP.step (p := ?pv234) rfl rfl rfl (⟨_, _, rfl, rfl, rfl⟩) ?hv234 ?rest234 hck7
    case hv234 =>
     intro E1
     refine (V1.int rfl rfl rfl rfl rfl (ltb rfl) ?_)
     exact rfl
    refine VP.step (p := ?pv235) rfl rfl rfl (⟨_, _, rfl, rfl, rfl⟩) ?hv235 ?rest235 hck7
    case hv235 =>
     intro E1
     refine (V1.move rfl rfl rfl (ltb rfl) ?_)
     exact rfl
    refine VP.step (p := ?pv236) rfl rfl rfl (⟨_, _, rfl, rfl, rfl⟩) ?hv236 ?rest236 hck7
    case hv236 =>
     refine ⟨_, rfl, fun hg2 => ?_⟩
     intro E1
     refine (V1.move rfl rfl rfl (ltb rfl) ?_)
     exact rfl
    refine VP.step (p := ?pv237) rfl rfl rfl (⟨_, _, rfl, rfl, rfl⟩) ?hv237 ?rest237 hck7
    case hv237 =>
     refine ⟨_, rfl, fun hg2 => ?_⟩
     intro E1
     refine (V1.move rfl rfl rfl (ltb rfl) ?_)
     exact rfl
    refine VP.step (p := ?pv238) rfl rfl rfl (⟨_, _, rfl, rfl, ⟨_, _, rfl, rfl, rfl⟩⟩) ?hv238 ?rest238 hck7
    case hv238 =>
     refine ⟨_, rfl, fun hg2 => ?_⟩
     intro E1
     refine (V1.indexI rfl rfl esz_27 rfl rfl (hh4 hg2) (ltb rfl) ?_)
     exact rfl
    refine VP.step (p := ?pv239) rfl rfl rfl (⟨_, _, rfl, rfl, rfl⟩) ?hv239 ?rest239 hck7
    case hv239 =>
     refine ⟨_, rfl, fun hg2 => ?_⟩
     intro E1
     refine (V1.fieldPin rfl rfl fo_52_1 rfl (ltb rfl) ?_)
     exact rfl
    refine VP.step (p := ?pv240) rfl rfl rfl (⟨_, _, rfl, rfl, rfl⟩) ?hv240 ?rest240 hck7
    case hv240 =>
     refine ⟨_, rfl, fun hg2 => ?_⟩
     intro E1
     refine (V1.loadPin rfl rfl tyk_3 rfl rfl (ltb rfl) ?_)
     exact rfl
    refine VP.step (p := ?pv241) rfl rfl rfl (⟨_, _, rfl, rfl, rfl⟩) ?hv241 ?rest241 hck7
    case hv241 =>
     refine ⟨_, rfl, fun hg2 => ?_⟩
     intro E1
     refine (V1.fieldRef rfl rfl fo_52_2 rfl (ltb rfl) ?_)
     exact rfl
    refine VP.step (p := ?pv242) rfl rfl rfl (⟨_, _, rfl, rfl, rfl⟩) ?hv242 ?rest242 hck7
    case hv242 =>
     refine ⟨_, rfl, fun hg2 => ?_⟩
     intro E1
     refine (V1.loadRef (k := 0) rfl rfl tyk_3 rfl rfl rfl rfl rfl (ltb rfl) ?_)
     exact rfl
    refine VP.step (p := ?pv243) rfl rfl rfl (⟨_, _, rfl, rfl, ⟨_, _, rfl, rfl, rfl⟩⟩) ?hv243 ?rest243 hck7
    case hv243 =>
     refine ⟨_, rfl, fun hg2 => ?_⟩
     intro E1
     refine (V1.int rfl rfl rfl rfl rfl (ltb rfl) ?_)
     exact rfl
    refine VP.pickAnd rfl rfl rfl rfl rfl rfl (trivial) ?_ hck7
    refine VP.fin rfl (⟨_, _, rfl, rfl, ⟨_, _, rfl, rfl, ⟨_, _, rfl, rfl, ⟨_, _, rfl, rfl, ⟨_, _, rfl, rfl, rfl⟩⟩⟩⟩⟩) ?_
    refine VO.nil ?_
    refine V.cond rfl (fun hc2 => ?_) (fun hc2 => ?_)
    ·
     replace hm1 := cond_t hc2 hm1
     refine V.seq ?_
     refine V.region ?_
     refine VO.cons rfl (V1.assign rfl rfl rfl (ltb rfl) ?_)
     refine VO.nil ?_
     refine V.ret ?_
     obtain rfl := hr1 _ (Option.some.inj hm1).symm
     change some _ = some _ at hm0
     obtain rfl := Option.some.inj hm0
     exact ⟨_, [], ⟨_, _, rfl, rfl, rfl⟩, List.nil_sublist _, rfl, rfl⟩
    ·
     replace hm1 := cond_f hc2 hm1
     refine V.skip ?_
     refine V.region ?_
     refine VO.cons rfl (V1.int rfl rfl rfl rfl rfl (ltb rfl) ?_)
     refine VO.cons rfl (V1.move rfl rfl rfl (ltb rfl) ?_)
     refine VO.nil ?_
     exact ⟨(m0, (IntKind.i64.wrap (v + (1 : Int))), ()), hl1 _ (Option.some.inj hm1).symm, Nat.lt_succ_self _, Keeps.mk (ks := []) rfl ⟨rfl, rfl, rfl, rfl, trivial⟩ (rfl) rfl⟩
  ·
   replace hm1 := cond_f hc0 hm1
   refine V.exit ?_
   obtain rfl := hr1 _ (Option.some.inj hm1).symm
   exact ⟨((), ()), rfl, Keeps.mk (ks := []) rfl ⟨rfl, trivial⟩ (rfl) rfl⟩
 ·
  rintro ⟨_, _⟩ rfl
  try dsimp only at hm0
  refine V.seq ?_
  refine V.region ?_
  refine VO.cons rfl (V1.move rfl rfl rfl (ltb rfl) ?_)
  refine VO.cons rfl (V1.lenMap rfl rfl rfl rfl rfl rfl isl_27 (ltb rfl) ?_)
  refine VO.cons rfl (V1.int rfl rfl rfl rfl rfl (ltb rfl) ?_)
  refine VO.cons rfl (V1.assign rfl rfl rfl (ltb rfl) ?_)
  refine VO.nil ?_
  refine V.ret ?_
  obtain rfl := Option.some.inj hm0
  exact ⟨_, [], ⟨_, _, rfl, rfl, rfl⟩, List.nil_sublist _, rfl, rfl⟩

theorem ok_impl_differences {ρ0 rn : Nat} {list : List Hand} {r : List (List Int)} (h : M.impl_differences list = some r) : Does Try.prog 93 [.vl ρ0 6 (List.map encHand list)] [] rn (fun x H => ∃ (ob0_ : Option Nat), (ob0_ = none → r = []) ∧ x = optS 1 ob0_ (List.length r) ∧ H = optH 1 ob0_ (List.map (encL rn 1 encInt) r)) := by
 have hm0 := h; clear h; unfold M.impl_differences at hm0
 try dsimp only at hm0
 refine Does.intro (N := 44) Try.func93 rfl rfl rfl rfl ?_
 intro w0 S0
 refine V.seq ?_
 refine V.region ?_
 refine VO.cons rfl (V1.assign rfl rfl rfl (ltb rfl) ?_)
 refine VO.nil ?_
 refine V.seq ?_
 refine V.region ?_
 refine VO.cons rfl (V1.assign rfl rfl rfl (ltb rfl) ?_)
 refine VO.nil ?_
 refine V.seq ?_
 refine V.seq ?_
 refine V.region ?_
 refine VO.cons rfl (V1.move rfl rfl rfl (ltb rfl) ?_)
 refine VO.cons rfl (V1.lenMap rfl rfl rfl rfl rfl rfl isl_27 (ltb rfl) ?_)
 refine VO.cons rfl (V1.move rfl rfl rfl (ltb rfl) ?_)
 refine VO.nil ?_
 replace hm0 := bindO hm0; rcases hm0 with ⟨e0, he1, hm0⟩
 refine V.cutT (D := (List (List Int)) × (Option Nat)) (fun ⟨pairs, ob0⟩ => ⟨44, [(3, optS 1 ob0 (List.length pairs))], optH 1 ob0 (List.map (encL rn 1 encInt) pairs)⟩) (fun ⟨pairs, ob0⟩ => (pairs = e0) ∧ (ob0 = none → pairs = [])) ?_ ?_
 ·
  refine V.block ?_
  refine V.keep 44 [3, 9, 0, 7, 8] [] (E0 := [(3, .nils), (9, .int .i64 (0 : Int)), (0, .vl ρ0 6 (List.map encHand list)), (7, .vl ρ0 6 (List.map encHand list)), (8, .int .i64 (list.length : Int))]) (H0 := []) rfl (⟨_, _, rfl, rfl, ⟨_, _, rfl, rfl, ⟨_, _, rfl, rfl, ⟨_, _, rfl, rfl, ⟨_, _, rfl, rfl, rfl⟩⟩⟩⟩⟩) (rfl) rfl ?_
  refine V.loopE (D := Nat × (List (List Int) × Int) × (Option Nat)) (fun ⟨n0, ⟨pairs0, v⟩, ob1⟩ => [(3, optS 1 ob1 (List.length pairs0)), (9, .int .i64 v)]) (fun ⟨n0, ⟨pairs0, v⟩, ob1⟩ => optH 1 ob1 (List.map (encL rn 1 encInt) pairs0)) (fun ⟨n0, ⟨pairs0, v⟩, ob1⟩ => loopO (M.impl_differences_l0 list) n0 (pairs0, v) = some e0 ∧ (ob1 = none → pairs0 = [])) (fun ⟨n0, _, _⟩ => n0) (rounds, (([] : List (List Int)), (0 : Int)), none) rfl ⟨he1, (fun _ => rfl)⟩ ?_
  rintro ⟨n0, ⟨pairs0, v⟩, ob1⟩ ⟨hP0, hob1⟩
  obtain ⟨m0, y0, rfl, hm1, hl1, hr1⟩ := loop_head hP0
  unfold M.impl_differences_l0 at hm1; dsimp only at hm1
  rcases ob1 with _ | ob1
  ·
   replace hob1 := hob1 rfl
   show V _ _ _ ⟨44, [(3, .nils), (9, .int .i64 v), (0, .vl ρ0 6 (List.map encHand list)), (7, .vl ρ0 6 (List.map encHand list)), (8, .int .i64 (list.length : Int))], []⟩
   refine V.seq ?_
   refine V.region ?_
   refine VO.cons rfl (V1.int rfl rfl rfl rfl rfl (ltb rfl) ?_)
   refine VO.nil ?_
   refine V.seq ?_
   refine V.cond rfl (fun hc0 => ?_) (fun hc0 => ?_)
   ·
    replace hm1 := cond_t hc0 hm1
    refine V.skip ?_
    refine V.seq ?_
    replace hm1 := bindO hm1; rcases hm1 with ⟨j0, hm2, hm1⟩
    refine V.cutT (D := (List (List Int)) × (Option Nat)) (fun ⟨pairs1, ob2⟩ => ⟨44, [(3, optS 1 ob2 (List.length pairs1)), (0, .vl ρ0 6 (List.map encHand list)), (7, .vl ρ0 6 (List.map encHand list)), (8, .int .i64 (list.length : Int)), (9, .int .i64 v)], optH 1 ob2 (List.map (encL rn 1 encInt) pairs1)⟩) (fun ⟨pairs1, ob2⟩ => (pairs1 = j0) ∧ (ob2 = none → pairs1 = [])) ?_ ?_
    ·
     refine V.block ?_
     refine V.seq ?_
     replace hm2 := asrt_some hm2; rcases hm2 with ⟨hh0, hm2⟩
     refine V.region ?_
     refine VO.cons rfl (V1.move rfl rfl rfl (ltb rfl) ?_)
     refine VO.cons rfl (V1.indexI rfl rfl esz_27 rfl rfl hh0 (ltb rfl) ?_)
     refine VO.cons rfl (V1.loadPinAll rfl rfl tyk_52 rfl rfl (ltb rfl) ?_)
     refine VO.cons rfl (V1.alloc rfl rfl zk_52 (ltb rfl) ?_)
     intro b0
     refine VO.cons rfl (V1.assign rfl rfl rfl (ltb rfl) ?_)
     refine VO.cons rfl (V1.storeRefAll (k := 0) rfl rfl tyk_52 rfl rfl rfl rfl rfl rfl ?_)
     refine VO.nil ?_
     refine V.keep 44 [0, 3, 4, 5, 7, 8, 9] [0] (E0 := [(0, .vl ρ0 6 (List.map encHand list)), (3, .nils), (4, .int .i64 v), (5, .ref b0 6 0 0), (7, .vl ρ0 6 (List.map encHand list)), (8, .int .i64 (list.length : Int)), (9, .int .i64 v)]) (H0 := [(b0, ⟨6, [encHand (list.getD (Int.toNat v) default)]⟩)]) rfl (⟨_, _, rfl, rfl, ⟨_, _, rfl, rfl, ⟨_, _, rfl, rfl, ⟨_, _, rfl, rfl, ⟨_, _, rfl, rfl, ⟨_, _, rfl, rfl, ⟨_, _, rfl, rfl, rfl⟩⟩⟩⟩⟩⟩⟩) (⟨_, _, rfl, rfl, rfl⟩) rfl ?_
     refine V.seq ?_
     refine V.region ?_
     refine VO.cons rfl (V1.move rfl rfl rfl (ltb rfl) ?_)
     refine VO.cons rfl (V1.int rfl rfl rfl rfl rfl (ltb rfl) ?_)
     refine VO.cons rfl (V1.assign rfl rfl rfl (ltb rfl) ?_)
     refine VO.nil ?_
     replace hm2 := bindO hm2; rcases hm2 with ⟨e1, he3, hm2⟩
     refine V.cutT (D := (List (List Int)) × (Option Nat)) (fun ⟨pairs2, ob3⟩ => ⟨44, [(3, optS 1 ob3 (List.length pairs2)), (0, .vl ρ0 6 (List.map encHand list)), (7, .vl ρ0 6 (List.map encHand list)), (8, .int .i64 (list.length : Int)), (9, .int .i64 v)], optH 1 ob3 (List.map (encL rn 1 encInt) pairs2)⟩) (fun ⟨pairs2, ob3⟩ => (pairs2 = e1) ∧ (ob3 = none → pairs2 = [])) ?_ ?_
     ·
      refine V.block ?_
      refine V.keep 44 [6, 0, 3, 4, 5, 7, 8, 9] [0] (E0 := [(6, .int .i64 (IntKind.i64.wrap (v - (1 : Int)))), (0, .vl ρ0 6 (List.map encHand list)), (3, .nils), (4, .int .i64 v), (5, .ref b0 6 0 0), (7, .vl ρ0 6 (List.map encHand list)), (8, .int .i64 (list.length : Int)), (9, .int .i64 v)]) (H0 := [(b0, ⟨6, [encHand (list.getD (Int.toNat v) default)]⟩)]) rfl (⟨_, _, rfl, rfl, ⟨_, _, rfl, rfl, ⟨_, _, rfl, rfl, ⟨_, _, rfl, rfl, ⟨_, _, rfl, rfl, ⟨_, _, rfl, rfl, ⟨_, _, rfl, rfl, ⟨_, _, rfl, rfl, rfl⟩⟩⟩⟩⟩⟩⟩⟩) (⟨_, _, rfl, rfl, rfl⟩) rfl ?_
      refine V.loopE (D := Nat × (Int) × (Unit)) (fun ⟨n1, i, _⟩ => [(6, .int .i64 i)]) (fun ⟨n1, i, _⟩ => []) (fun ⟨n1, i, _⟩ => loopO (M.impl_differences_l1 list pairs0 v) n1 i = some e1) (fun ⟨n1, _, _⟩ => n1) (rounds, (IntKind.i64.wrap (v - (1 : Int))), ()) rfl he3 ?_
      rintro ⟨n1, i, _⟩ hP1
      obtain ⟨m1, y1, rfl, hm3, hl3, hr3⟩ := loop_head hP1
      unfold M.impl_differences_l1 at hm3; dsimp only at hm3
      show V _ _ _ ⟨44, [(6, .int .i64 i), (0, .vl ρ0 6 (List.map encHand list)), (3, .nils), (4, .int .i64 v), (5, .ref b0 6 0 0), (7, .vl ρ0 6 (List.map encHand list)), (8, .int .i64 (list.length : Int)), (9, .int .i64 v)], [(b0, ⟨6, [encHand (list.getD (Int.toNat v) default)]⟩)]⟩
      refine V.seq ?_
      refine V.seq ?_
      refine V.region ?_
      refine VO.cons rfl (V1.move rfl rfl rfl (ltb rfl) ?_)
      refine VO.cons rfl (V1.int rfl rfl rfl rfl rfl (ltb rfl) ?_)
      refine VO.nil ?_
      refine V.cond rfl (fun hc1 => ?_) (fun hc1 => ?_)
      ·
       replace hm3 := cond_t hc1 hm3
       refine V.skip ?_
       refine V.seq ?_
       refine V.block ?_
       refine V.seq ?_
       replace hm3 := asrt_some hm3; rcases hm3 with ⟨hh1, hm3⟩
       refine V.regionM 44 7 [⟨[(0, none)], [], none⟩, ⟨[(6, none)], [], none⟩, ⟨[(20, some 1), (21, some 0)], [], none⟩, ⟨[(22, some 0)], [], none⟩, ⟨[(23, some 0)], [], none⟩, ⟨[(5, none)], [], none⟩, ⟨[(25, some 0)], [], none⟩] [(0, none), (3, none), (4, none), (5, none), (6, none), (7, none), (8, none), (9, none), (24, some 2), (26, some 0)] (⟨_, rfl, ⟨_, rfl, ⟨_, rfl, ⟨_, rfl, ⟨_, rfl, ⟨_, rfl, ⟨_, rfl, ⟨rfl, rfl⟩⟩⟩⟩⟩⟩⟩⟩) mixed_orders rfl (by decide +kernel) (fun hck8 => ?_)
       refine VP.step (p := ?pv1667) rfl rfl rfl (⟨_, _, rfl, rfl, rfl⟩) ?hv1667 ?rest1667 hck8
       case hv1667 =>
        intro E1
        refine (V1.move rfl rfl rfl (ltb rfl) ?_)
        exact rfl
       refine VP.step (p := ?pv1668) rfl rfl rfl (⟨_, _, rfl, rfl, rfl⟩) ?hv1668 ?rest1668 hck8
       case hv1668 =>
        intro E1
        refine (V1.move rfl rfl rfl (ltb rfl) ?_)
        exact rfl
       refine VP.step (p := ?pv1669) rfl rfl rfl (⟨_, _, rfl, rfl, ⟨_, _, rfl, rfl, rfl⟩⟩) ?hv1669 ?rest1669 hck8
       case hv1669 =>
        intro E1
        refine (V1.indexI rfl rfl esz_27 rfl rfl hh1 (ltb rfl) ?_)
        exact rfl
       refine VP.step (p := ?pv1670) rfl rfl rfl (⟨_, _, rfl, rfl, rfl⟩) ?hv1670 ?rest1670 hck8
       case hv1670 =>
        intro E1
        refine (V1.fieldPin rfl rfl fo_52_0 rfl (ltb rfl) ?_)
        exact rfl
       refine VP.step (p := ?pv1671) rfl rfl rfl (⟨_, _, rfl, rfl, rfl⟩) ?hv1671 ?rest1671 hck8
       case hv1671 =>
        intro E1
        refine (V1.loadPin rfl rfl tyk_3 rfl rfl (ltb rfl) ?_)
        exact rfl
       refine VP.step (p := ?pv1672) rfl rfl rfl (⟨_, _, rfl, rfl, rfl⟩) ?hv1672 ?rest1672 hck8
       case hv1672 =>
        intro E1
        refine (V1.fieldRef rfl rfl fo_52_0 rfl (ltb rfl) ?_)
        exact rfl
       refine VP.step (p := ?pv1673) rfl rfl rfl (⟨_, _, rfl, rfl, rfl⟩) ?hv1673 ?rest1673 hck8
       case hv1673 =>
        intro E1
        refine (V1.loadRef (k := 0) rfl rfl tyk_3 rfl rfl rfl rfl rfl (ltb rfl) ?_)
        exact rfl
       refine VP.fin rfl (⟨_, _, rfl, rfl, ⟨_, _, rfl, rfl, ⟨_, _, rfl, rfl, ⟨_, _, rfl, rfl, ⟨_, _, rfl, rfl, ⟨_, _, rfl, rfl, ⟨_, _, rfl, rfl, ⟨_, _, rfl, rfl, ⟨_, _, rfl, rfl, ⟨_, _, rfl, rfl, rfl⟩⟩⟩⟩⟩⟩⟩⟩⟩⟩) ?_
       refine VO.cons rfl (V1.int rfl rfl rfl rfl rfl (ltb rfl) ?_)
       refine VO.nil ?_
       refine V.cond rfl (fun hc2 => ?_) (fun hc2 => ?_)
       ·
        replace hm3 := cond_t hc2 hm3
        refine V.seq ?_
        refine V.seq ?_
        replace hm3 := asrt_some hm3; rcases hm3 with ⟨hh2, hm3⟩
        refine V.regionM 44 7 [⟨[(0, none)], [], none⟩, ⟨[(6, none)], [], none⟩, ⟨[(28, some 1), (29, some 0)], [], none⟩, ⟨[(30, some 0)], [], none⟩, ⟨[(31, some 0)], [], none⟩, ⟨[(5, none)], [], none⟩, ⟨[(33, some 0)], [], none⟩] [(0, none), (3, none), (4, none), (6, none), (7, none), (8, none), (9, none), (32, some 2), (34, some 0)] (⟨_, rfl, ⟨_, rfl, ⟨_, rfl, ⟨_, rfl, ⟨_, rfl, ⟨_, rfl, ⟨_, rfl, ⟨rfl, rfl⟩⟩⟩⟩⟩⟩⟩⟩) mixed_orders rfl (by decide +kernel) (fun hck9 => ?_)
        refine VP.step (p := ?pv1674) rfl rfl rfl (⟨_, _, rfl, rfl, rfl⟩) ?hv1674 ?rest1674 hck9
        case hv1674 =>
         intro E1
         refine (V1.move rfl rfl rfl (ltb rfl) ?_)
         exact rfl
        refine VP.step (p := ?pv1675) rfl rfl rfl (⟨_, _, rfl, rfl, rfl⟩) ?hv1675 ?rest1675 hck9
        case hv1675 =>
         intro E1
         refine (V1.move rfl rfl rfl (ltb rfl) ?_)
         exact rfl
        refine VP.step (p := ?pv1676) rfl rfl rfl (⟨_, _, rfl, rfl, ⟨_, _, rfl, rfl, rfl⟩⟩) ?hv1676 ?rest1676 hck9
        case hv1676 =>
         intro E1
         refine (V1.indexI rfl rfl esz_27 rfl rfl hh2 (ltb rfl) ?_)
         exact rfl
        refine VP.step (p := ?pv1677) rfl rfl rfl (⟨_, _, rfl, rfl, rfl⟩) ?hv1677 ?rest1677 hck9
        case hv1677 =>
         intro E1
         refine (V1.fieldPin rfl rfl fo_52_4 rfl (ltb rfl) ?_)
         exact rfl
        refine VP.step (p := ?pv1678) rfl rfl rfl (⟨_, _, rfl, rfl, rfl⟩) ?hv1678 ?rest1678 hck9
        case hv1678 =>
         intro E1
         refine (V1.loadPin rfl rfl tyk_3 rfl rfl (ltb rfl) ?_)
         exact rfl
        refine VP.step (p := ?pv1679) rfl rfl rfl (⟨_, _, rfl, rfl, rfl⟩) ?hv1679 ?rest1679 hck9
        case hv1679 =>
         intro E1
         refine (V1.fieldRef rfl rfl fo_52_4 rfl (ltb rfl) ?_)
         exact rfl
        refine VP.step (p := ?pv1680) rfl rfl rfl (⟨_, _, rfl, rfl, rfl⟩) ?hv1680 ?rest1680 hck9
        case hv1680 =>
         intro E1
         refine (V1.loadRef (k := 0) rfl rfl tyk_3 rfl rfl rfl rfl rfl (ltb rfl) ?_)
         exact rfl
        refine VP.fin rfl (⟨_, _, rfl, rfl, ⟨_, _, rfl, rfl, ⟨_, _, rfl, rfl, ⟨_, _, rfl, rfl, ⟨_, _, rfl, rfl, ⟨_, _, rfl, rfl, ⟨_, _, rfl, rfl, ⟨_, _, rfl, rfl, ⟨_, _, rfl, rfl, rfl⟩⟩⟩⟩⟩⟩⟩⟩⟩) ?_
        refine VO.cons rfl (V1.int rfl rfl rfl rfl rfl (ltb rfl) ?_)
        refine VO.nil ?_
        refine V.cond rfl (fun hc3 => ?_) (fun hc3 => ?_)
        ·
         replace hm3 := cond_t hc3 hm3
         replace hm3 := asrt_some hm3; rcases hm3 with ⟨hh3, hm3⟩
         refine V.region ?_
         refine VO.cons rfl (V1.move rfl rfl rfl (ltb rfl) ?_)
         refine VO.cons rfl (V1.move rfl rfl rfl (ltb rfl) ?_)
         refine VO.cons rfl (V1.move rfl rfl rfl (ltb rfl) ?_)
         refine VO.cons rfl (V1.buildSliceT (f := encInt) ([i, v] : List Int) rfl rfl esz_24 zk_3 rfl rfl rfl rfl rfl rfl rfl (ltb rfl) ?_)
         intro b1
         refine VO.weakenK (Keeps.freezeG 0 rn [(39, .vl rn 1 (List.map encInt ([i, v] : List Int)))] [(b0, ⟨6, [encHand (list.getD (Int.toNat v) default)]⟩)] (f := encInt) (l := ([i, v] : List Int)) rfl (fun _ => rfl) ⟨⟨_, rfl, .here⟩, trivial⟩ ⟨_, _, rfl, rfl, .inl rfl, rfl⟩ rfl iNil) ?_
         refine VO.cons rfl (V1.buildSliceT (f := (encL rn 1 encInt)) ([([i, v] : List Int)] : List (List Int)) rfl rfl esz_38 zk_24 rfl rfl rfl rfl rfl rfl rfl (ltb rfl) ?_)
         intro b2
         refine VO.cons rfl (V1.appendNilE (f := (encL rn 1 encInt)) (l := pairs0) (m := ([([i, v] : List Int)] : List (List Int))) hob1 rfl rfl rfl rfl rfl esz_38 eby_38 zk_24 rfl rfl rfl (SrcOf.srMap (k := 0) rfl isl_38) rfl hh3 (ltb rfl) ?_)
         intro b3
         refine VO.cons rfl (V1.assign rfl rfl rfl (ltb rfl) ?_)
         refine VO.nil ?_
         refine V.keep 44 [0, 3, 7, 8, 9] [0] (E0 := [(0, .vl ρ0 6 (List.map encHand list)), (3, .sref b3 1 0 (List.length (pairs0 ++ ([([i, v] : List Int)] : List (List Int))))), (7, .vl ρ0 6 (List.map encHand list)), (8, .int .i64 (list.length : Int)), (9, .int .i64 v)]) (H0 := [(b3, ⟨1, List.map (encL rn 1 encInt) (pairs0 ++ ([([i, v] : List Int)] : List (List Int)))⟩)]) rfl (⟨_, _, rfl, rfl, ⟨_, _, rfl, rfl, ⟨_, _, rfl, rfl, ⟨_, _, rfl, rfl, ⟨_, _, rfl, rfl, rfl⟩⟩⟩⟩⟩) (⟨_, _, rfl, rfl, rfl⟩) rfl ?_
         refine V.exit ?_
         obtain rfl := hr3 _ (Option.some.inj hm3).symm
         exact ⟨((pairs0 ++ ([([i, v] : List Int)] : List (List Int))), (some b3)), ⟨rfl, (fun e => by cases e)⟩, Keeps.mk (ks := [0]) rfl ⟨rfl, rfl, rfl, rfl, rfl, trivial⟩ (⟨_, _, rfl, rfl, rfl⟩) rfl⟩
        ·
         replace hm3 := cond_f hc3 hm3
         refine V.skip ?_
         refine V.keep 44 [0, 3, 7, 8, 9] [] (E0 := [(0, .vl ρ0 6 (List.map encHand list)), (3, .nils), (7, .vl ρ0 6 (List.map encHand list)), (8, .int .i64 (list.length : Int)), (9, .int .i64 v)]) (H0 := []) rfl (⟨_, _, rfl, rfl, ⟨_, _, rfl, rfl, ⟨_, _, rfl, rfl, ⟨_, _, rfl, rfl, ⟨_, _, rfl, rfl, rfl⟩⟩⟩⟩⟩) (rfl) rfl ?_
         refine V.exit ?_
         obtain rfl := hr3 _ (Option.some.inj hm3).symm
         exact ⟨(pairs0, none), ⟨rfl, (fun _ => hob1)⟩, Keeps.mk (ks := []) rfl ⟨rfl, rfl, rfl, rfl, rfl, trivial⟩ (rfl) rfl⟩
       ·
        replace hm3 := cond_f hc2 hm3
        refine V.skip ?_
        refine V.region ?_
        refine VO.cons rfl (V1.move rfl rfl rfl (ltb rfl) ?_)
        refine VO.cons rfl (V1.int rfl rfl rfl rfl rfl (ltb rfl) ?_)
        refine VO.cons rfl (V1.assign rfl rfl rfl (ltb rfl) ?_)
        refine VO.nil ?_
        exact ⟨(m1, (IntKind.i64.wrap (i - (1 : Int))), ()), hl3 _ (Option.some.inj hm3).symm, Nat.lt_succ_self _, Keeps.mk (ks := [0]) rfl ⟨rfl, rfl, rfl, rfl, rfl, rfl, rfl, rfl, trivial⟩ (⟨_, _, rfl, rfl, rfl⟩) rfl⟩
      ·
       replace hm3 := cond_f hc1 hm3
       refine V.exit ?_
       obtain rfl := hr3 _ (Option.some.inj hm3).symm
       exact ⟨(pairs0, none), ⟨rfl, (fun _ => hob1)⟩, Keeps.mk (ks := []) rfl ⟨rfl, rfl, rfl, rfl, rfl, trivial⟩ (rfl) rfl⟩
     ·
      rintro ⟨pairs2, ob3⟩ ⟨rfl, hob3⟩
      try dsimp only at hm2
      rcases ob3 with _ | ob3
      ·
       replace hob3 := hob3 rfl
       exact ⟨(pairs2, none), ⟨Option.some.inj hm2, (fun _ => hob3)⟩, Keeps.mk (ks := []) rfl ⟨rfl, rfl, rfl, rfl, rfl, trivial⟩ (rfl) rfl⟩
      ·
       exact ⟨(pairs2, (some ob3)), ⟨Option.some.inj hm2, (fun e => by cases e)⟩, Keeps.mk (ks := [0]) rfl ⟨rfl, rfl, rfl, rfl, rfl, trivial⟩ (⟨_, _, rfl, rfl, rfl⟩) rfl⟩
    ·
     rintro ⟨pairs1, ob2⟩ ⟨rfl, hob2⟩
     try dsimp only at hm1
     rcases ob2 with _ | ob2
     ·
      replace hob2 := hob2 rfl
      refine V.region ?_
      refine VO.cons rfl (V1.int rfl rfl rfl rfl rfl (ltb rfl) ?_)
      refine VO.cons rfl (V1.move rfl rfl rfl (ltb rfl) ?_)
      refine VO.nil ?_
      exact ⟨(m0, (pairs1, (IntKind.i64.wrap (v + (1 : Int)))), none), ⟨hl1 _ (Option.some.inj hm1).symm, (fun _ => hob2)⟩, Nat.lt_succ_self _, Keeps.mk (ks := []) rfl ⟨rfl, rfl, rfl, rfl, rfl, trivial⟩ (rfl) rfl⟩
     ·
      refine V.region ?_
      refine VO.cons rfl (V1.int rfl rfl rfl rfl rfl (ltb rfl) ?_)
      refine VO.cons rfl (V1.move rfl rfl rfl (ltb rfl) ?_)
      refine VO.nil ?_
      exact ⟨(m0, (pairs1, (IntKind.i64.wrap (v + (1 : Int)))), (some ob2)), ⟨hl1 _ (Option.some.inj hm1).symm, (fun e => by cases e)⟩, Nat.lt_succ_self _, Keeps.mk (ks := [0]) rfl ⟨rfl, rfl, rfl, rfl, rfl, trivial⟩ (⟨_, _, rfl, rfl, rfl⟩) rfl⟩
   ·
    replace hm1 := cond_f hc0 hm1
    refine V.exit ?_
    obtain rfl := hr1 _ (Option.some.inj hm1).symm
    exact ⟨(pairs0, none), ⟨rfl, (fun _ => hob1)⟩, Keeps.mk (ks := []) rfl ⟨rfl, trivial⟩ (rfl) rfl⟩
  ·
   show V _ _ _ ⟨44, [(3, .sref ob1 1 0 (List.length pairs0)), (9, .int .i64 v), (0, .vl ρ0 6 (List.map encHand list)), (7, .vl ρ0 6 (List.map encHand list)), (8, .int .i64 (list.length : Int))], [(ob1, ⟨1, List.map (encL rn 1 encInt) pairs0⟩)]⟩
   refine V.seq ?_
   refine V.region ?_
   refine VO.cons rfl (V1.int rfl rfl rfl rfl rfl (ltb rfl) ?_)
   refine VO.nil ?_
   refine V.seq ?_
   refine V.cond rfl (fun hc0 => ?_) (fun hc0 => ?_)
   ·
    replace hm1 := cond_t hc0 hm1
    refine V.skip ?_
    refine V.seq ?_
    replace hm1 := bindO hm1; rcases hm1 with ⟨j0, hm2, hm1⟩
    refine V.cutT (D := (List (List Int)) × (Nat)) (fun ⟨pairs1, b0⟩ => ⟨44, [(3, .sref b0 1 0 (List.length pairs1)), (0, .vl ρ0 6 (List.map encHand list)), (7, .vl ρ0 6 (List.map encHand list)), (8, .int .i64 (list.length : Int)), (9, .int .i64 v)], [(b0, ⟨1, List.map (encL rn 1 encInt) pairs1⟩)]⟩) (fun ⟨pairs1, b0⟩ => (pairs1 = j0)) ?_ ?_
    ·
     refine V.block ?_
     refine V.seq ?_
     replace hm2 := asrt_some hm2; rcases hm2 with ⟨hh0, hm2⟩
     refine V.region ?_
     refine VO.cons rfl (V1.move rfl rfl rfl (ltb rfl) ?_)
     refine VO.cons rfl (V1.indexI rfl rfl esz_27 rfl rfl hh0 (ltb rfl) ?_)
     refine VO.cons rfl (V1.loadPinAll rfl rfl tyk_52 rfl rfl (ltb rfl) ?_)
     refine VO.cons rfl (V1.alloc rfl rfl zk_52 (ltb rfl) ?_)
     intro b1
     refine VO.cons rfl (V1.assign rfl rfl rfl (ltb rfl) ?_)
     refine VO.cons rfl (V1.storeRefAll (k := 0) rfl rfl tyk_52 rfl rfl rfl rfl rfl rfl ?_)
     refine VO.nil ?_
     refine V.keep 44 [0, 3, 4, 5, 7, 8, 9] [0, 1] (E0 := [(0, .vl ρ0 6 (List.map encHand list)), (3, .sref ob1 1 0 (List.length pairs0)), (4, .int .i64 v), (5, .ref b1 6 0 0), (7, .vl ρ0 6 (List.map encHand list)), (8, .int .i64 (list.length : Int)), (9, .int .i64 v)]) (H0 := [(b1, ⟨6, [encHand (list.getD (Int.toNat v) default)]⟩), (ob1, ⟨1, List.map (encL rn 1 encInt) pairs0⟩)]) rfl (⟨_, _, rfl, rfl, ⟨_, _, rfl, rfl, ⟨_, _, rfl, rfl, ⟨_, _, rfl, rfl, ⟨_, _, rfl, rfl, ⟨_, _, rfl, rfl, ⟨_, _, rfl, rfl, rfl⟩⟩⟩⟩⟩⟩⟩) (⟨_, _, rfl, rfl, ⟨_, _, rfl, rfl, rfl⟩⟩) rfl ?_
     refine V.seq ?_
     refine V.region ?_
     refine VO.cons rfl (V1.move rfl rfl rfl (ltb rfl) ?_)
     refine VO.cons rfl (V1.int rfl rfl rfl rfl rfl (ltb rfl) ?_)
     refine VO.cons rfl (V1.assign rfl rfl rfl (ltb rfl) ?_)
     refine VO.nil ?_
     replace hm2 := bindO hm2; rcases hm2 with ⟨e1, he3, hm2⟩
     refine V.cutT (D := (List (List Int)) × (Nat)) (fun ⟨pairs2, b2⟩ => ⟨44, [(3, .sref b2 1 0 (List.length pairs2)), (0, .vl ρ0 6 (List.map encHand list)), (7, .vl ρ0 6 (List.map encHand list)), (8, .int .i64 (list.length : Int)), (9, .int .i64 v)], [(b2, ⟨1, List.map (encL rn 1 encInt) pairs2⟩)]⟩) (fun ⟨pairs2, b2⟩ => (pairs2 = e1)) ?_ ?_
     ·
      refine V.block ?_
      refine V.keep 44 [6, 0, 3, 4, 5, 7, 8, 9] [0, 1] (E0 := [(6, .int .i64 (IntKind.i64.wrap (v - (1 : Int)))), (0, .vl ρ0 6 (List.map encHand list)), (3, .sref ob1 1 0 (List.length pairs0)), (4, .int .i64 v), (5, .ref b1 6 0 0), (7, .vl ρ0 6 (List.map encHand list)), (8, .int .i64 (list.length : Int)), (9, .int .i64 v)]) (H0 := [(b1, ⟨6, [encHand (list.getD (Int.toNat v) default)]⟩), (ob1, ⟨1, List.map (encL rn 1 encInt) pairs0⟩)]) rfl (⟨_, _, rfl, rfl, ⟨_, _, rfl, rfl, ⟨_, _, rfl, rfl, ⟨_, _, rfl, rfl, ⟨_, _, rfl, rfl, ⟨_, _, rfl, rfl, ⟨_, _, rfl, rfl, ⟨_, _, rfl, rfl, rfl⟩⟩⟩⟩⟩⟩⟩⟩) (⟨_, _, rfl, rfl, ⟨_, _, rfl, rfl, rfl⟩⟩) rfl ?_
      refine V.loopE (D := Nat × (Int) × (Unit)) (fun ⟨n1, i, _⟩ => [(6, .int .i64 i)]) (fun ⟨n1, i, _⟩ => []) (fun ⟨n1, i, _⟩ => loopO (M.impl_differences_l1 list pairs0 v) n1 i = some e1) (fun ⟨n1, _, _⟩ => n1) (rounds, (IntKind.i64.wrap (v - (1 : Int))), ()) rfl he3 ?_
      rintro ⟨n1, i, _⟩ hP1
      obtain ⟨m1, y1, rfl, hm3, hl3, hr3⟩ := loop_head hP1
      unfold M.impl_differences_l1 at hm3; dsimp only at hm3
      show V _ _ _ ⟨44, [(6, .int .i64 i), (0, .vl ρ0 6 (List.map encHand list)), (3, .sref ob1 1 0 (List.length pairs0)), (4, .int .i64 v), (5, .ref b1 6 0 0), (7, .vl ρ0 6 (List.map encHand list)), (8, .int .i64 (list.length : Int)), (9, .int .i64 v)], [(b1, ⟨6, [encHand (list.getD (Int.toNat v) default)]⟩), (ob1, ⟨1, List.map (encL rn 1 encInt) pairs0⟩)]⟩
      refine V.seq ?_
      refine V.seq ?_
      refine V.region ?_
      refine VO.cons rfl (V1.move rfl rfl rfl (ltb rfl) ?_)
      refine VO.cons rfl (V1.int rfl rfl rfl rfl rfl (ltb rfl) ?_)
      refine VO.nil ?_
      refine V.cond rfl (fun hc1 => ?_) (fun hc1 => ?_)
      ·
       replace hm3 := cond_t hc1 hm3
       refine V.skip ?_
       refine V.seq ?_
       refine V.block ?_
       refine V.seq ?_
       replace hm3 := asrt_some hm3; rcases hm3 with ⟨hh1, hm3⟩
       refine V.regionM 44 7 [⟨[(0, none)], [], none⟩, ⟨[(6, none)], [], none⟩, ⟨[(20, some 1), (21, some 0)], [], none⟩, ⟨[(22, some 0)], [], none⟩, ⟨[(23, some 0)], [], none⟩, ⟨[(5, none)], [], none⟩, ⟨[(25, some 0)], [], none⟩] [(0, none), (3, none), (4, none), (5, none), (6, none), (7, none), (8, none), (9, none), (24, some 2), (26, some 0)] (⟨_, rfl, ⟨_, rfl, ⟨_, rfl, ⟨_, rfl, ⟨_, rfl, ⟨_, rfl, ⟨_, rfl, ⟨rfl, rfl⟩⟩⟩⟩⟩⟩⟩⟩) mixed_orders rfl (by decide +kernel) (fun hck8 => ?_)
       refine VP.step (p := ?pv1751) rfl rfl rfl (⟨_, _, rfl, rfl, rfl⟩) ?hv1751 ?rest1751 hck8
       case hv1751 =>
        intro E1
        refine (V1.move rfl rfl rfl (ltb rfl) ?_)
        exact rfl
       refine VP.step (p := ?pv1752) rfl rfl rfl (⟨_, _, rfl, rfl, rfl⟩) ?hv1752 ?rest1752 hck8
       case hv1752 =>
        intro E1
        refine (V1.move rfl rfl rfl (ltb rfl) ?_)
        exact rfl
       refine VP.step (p := ?pv1753) rfl rfl rfl (⟨_, _, rfl, rfl, ⟨_, _, rfl, rfl, rfl⟩⟩) ?hv1753 ?rest1753 hck8
       case hv1753 =>
        intro E1
        refine (V1.indexI rfl rfl esz_27 rfl rfl hh1 (ltb rfl) ?_)
        exact rfl
       refine VP.step (p := ?pv1754) rfl rfl rfl (⟨_, _, rfl, rfl, rfl⟩) ?hv1754 ?rest1754 hck8
       case hv1754 =>
        intro E1
        refine (V1.fieldPin rfl rfl fo_52_0 rfl (ltb rfl) ?_)
        exact rfl
       refine VP.step (p := ?pv1755) rfl rfl rfl (⟨_, _, rfl, rfl, rfl⟩) ?hv1755 ?rest1755 hck8
       case hv1755 =>
        intro E1
        refine (V1.loadPin rfl rfl tyk_3 rfl rfl (ltb rfl) ?_)
        exact rfl
       refine VP.step (p := ?pv1756) rfl rfl rfl (⟨_, _, rfl, rfl, rfl⟩) ?hv1756 ?rest1756 hck8
       case hv1756 =>
        intro E1
        refine (V1.fieldRef rfl rfl fo_52_0 rfl (ltb rfl) ?_)
        exact rfl
       refine VP.step (p := ?pv1757) rfl rfl rfl (⟨_, _, rfl, rfl, rfl⟩) ?hv1757 ?rest1757 hck8
       case hv1757 =>
        intro E1
        refine (V1.loadRef (k := 0) rfl rfl tyk_3 rfl rfl rfl rfl rfl (ltb rfl) ?_)
        exact rfl
       refine VP.fin rfl (⟨_, _, rfl, rfl, ⟨_, _, rfl, rfl, ⟨_, _, rfl, rfl, ⟨_, _, rfl, rfl, ⟨_, _, rfl, rfl, ⟨_, _, rfl, rfl, ⟨_, _, rfl, rfl, ⟨_, _, rfl, rfl, ⟨_, _, rfl, rfl, ⟨_, _, rfl, rfl, rfl⟩⟩⟩⟩⟩⟩⟩⟩⟩⟩) ?_
       refine VO.cons rfl (V1.int rfl rfl rfl rfl rfl (ltb rfl) ?_)
       refine VO.nil ?_
       refine V.cond rfl (fun hc2 => ?_) (fun hc2 => ?_)
       ·
        replace hm3 := cond_t hc2 hm3
        refine V.seq ?_
        refine V.seq ?_
        replace hm3 := asrt_some hm3; rcases hm3 with ⟨hh2, hm3⟩
        refine V.regionM 44 7 [⟨[(0, none)], [], none⟩, ⟨[(6, none)], [], none⟩, ⟨[(28, some 1), (29, some 0)], [], none⟩, ⟨[(30, some 0)], [], none⟩, ⟨[(31, some 0)], [], none⟩, ⟨[(5, none)], [], none⟩, ⟨[(33, some 0)], [], none⟩] [(0, none), (3, none), (4, none), (6, none), (7, none), (8, none), (9, none), (32, some 2), (34, some 0)] (⟨_, rfl, ⟨_, rfl, ⟨_, rfl, ⟨_, rfl, ⟨_, rfl, ⟨_, rfl, ⟨_, rfl, ⟨rfl, rfl⟩⟩⟩⟩⟩⟩⟩⟩) mixed_orders rfl (by decide +kernel) (fun hck9 => ?_)
        refine VP.step (p := ?pv1758) rfl rfl rfl (⟨_, _, rfl, rfl, rfl⟩) ?hv1758 ?rest1758 hck9
        case hv1758 =>
         intro E1
         refine (V1.move rfl rfl rfl (ltb rfl) ?_)
         exact rfl
        refine VP.step (p := ?pv1759) rfl rfl rfl (⟨_, _, rfl, rfl, rfl⟩) ?hv1759 ?rest1759 hck9
        case hv1759 =>
         intro E1
         refine (V1.move rfl rfl rfl (ltb rfl) ?_)
         exact rfl
        refine VP.step (p := ?pv1760) rfl rfl rfl (⟨_, _, rfl, rfl, ⟨_, _, rfl, rfl, rfl⟩⟩) ?hv1760 ?rest1760 hck9
        case hv1760 =>
         intro E1
         refine (V1.indexI rfl rfl esz_27 rfl rfl hh2 (ltb rfl) ?_)
         exact rfl
        refine VP.step (p := ?pv1761) rfl rfl rfl (⟨_, _, rfl, rfl, rfl⟩) ?hv1761 ?rest1761 hck9
        case hv1761 =>
         intro E1
         refine (V1.fieldPin rfl rfl fo_52_4 rfl (ltb rfl) ?_)
         exact rfl
        refine VP.step (p := ?pv1762) rfl rfl rfl (⟨_, _, rfl, rfl, rfl⟩) ?hv1762 ?rest1762 hck9
        case hv1762 =>
         intro E1
         refine (V1.loadPin rfl rfl tyk_3 rfl rfl (ltb rfl) ?_)
         exact rfl
        refine VP.step (p := ?pv1763) rfl rfl rfl (⟨_, _, rfl, rfl, rfl⟩) ?hv1763 ?rest1763 hck9
        case hv1763 =>
         intro E1
         refine (V1.fieldRef rfl rfl fo_52_4 rfl (ltb rfl) ?_)
         exact rfl
        refine VP.step (p := ?pv1764) rfl rfl rfl (⟨_, _, rfl, rfl, rfl⟩) ?hv1764 ?rest1764 hck9
        case hv1764 =>
         intro E1
         refine (V1.loadRef (k := 0) rfl rfl tyk_3 rfl rfl rfl rfl rfl (ltb rfl) ?_)
         exact rfl
        refine VP.fin rfl (⟨_, _, rfl, rfl, ⟨_, _, rfl, rfl, ⟨_, _, rfl, rfl, ⟨_, _, rfl, rfl, ⟨_, _, rfl, rfl, ⟨_, _, rfl, rfl, ⟨_, _, rfl, rfl, ⟨_, _, rfl, rfl, ⟨_, _, rfl, rfl, rfl⟩⟩⟩⟩⟩⟩⟩⟩⟩) ?_
        refine VO.cons rfl (V1.int rfl rfl rfl rfl rfl (ltb rfl) ?_)
        refine VO.nil ?_
        refine V.cond rfl (fun hc3 => ?_) (fun hc3 => ?_)
        ·
         replace hm3 := cond_t hc3 hm3
         replace hm3 := asrt_some hm3; rcases hm3 with ⟨hh3, hm3⟩
         refine V.region ?_
         refine VO.cons rfl (V1.move rfl rfl rfl (ltb rfl) ?_)
         refine VO.cons rfl (V1.move rfl rfl rfl (ltb rfl) ?_)
         refine VO.cons rfl (V1.move rfl rfl rfl (ltb rfl) ?_)
         refine VO.cons rfl (V1.buildSliceT (f := encInt) ([i, v] : List Int) rfl rfl esz_24 zk_3 rfl rfl rfl rfl rfl rfl rfl (ltb rfl) ?_)
         intro b3
         refine VO.weakenK (Keeps.freezeG 0 rn [(39, .vl rn 1 (List.map encInt ([i, v] : List Int)))] [(b1, ⟨6, [encHand (list.getD (Int.toNat v) default)]⟩), (ob1, ⟨1, List.map (encL rn 1 encInt) pairs0⟩)] (f := encInt) (l := ([i, v] : List Int)) rfl (fun _ => rfl) ⟨⟨_, rfl, .here⟩, trivial⟩ ⟨_, _, rfl, rfl, .inl rfl, ⟨_, _, rfl, rfl, .inl rfl, rfl⟩⟩ rfl iNil) ?_
         refine VO.cons rfl (V1.buildSliceT (f := (encL rn 1 encInt)) ([([i, v] : List Int)] : List (List Int)) rfl rfl esz_38 zk_24 rfl rfl rfl rfl rfl rfl rfl (ltb rfl) ?_)
         intro b4
         refine VO.cons rfl (V1.appendMap (k := 2) (f := (encL rn 1 encInt)) (l := pairs0) (m := ([([i, v] : List Int)] : List (List Int))) rfl rfl rfl rfl rfl esz_38 eby_38 zk_24 rfl rfl rfl (SrcOf.srMap (k := 0) rfl isl_38) hh3 (ltb rfl) ?_)
         intro b5
         refine VO.cons rfl (V1.assign rfl rfl rfl (ltb rfl) ?_)
         refine VO.nil ?_
         refine V.keep 44 [0, 3, 7, 8, 9] [0] (E0 := [(0, .vl ρ0 6 (List.map encHand list)), (3, .sref b5 1 0 (List.length (pairs0 ++ ([([i, v] : List Int)] : List (List Int))))), (7, .vl ρ0 6 (List.map encHand list)), (8, .int .i64 (list.length : Int)), (9, .int .i64 v)]) (H0 := [(b5, ⟨1, List.map (encL rn 1 encInt) (pairs0 ++ ([([i, v] : List Int)] : List (List Int)))⟩)]) rfl (⟨_, _, rfl, rfl, ⟨_, _, rfl, rfl, ⟨_, _, rfl, rfl, ⟨_, _, rfl, rfl, ⟨_, _, rfl, rfl, rfl⟩⟩⟩⟩⟩) (⟨_, _, rfl, rfl, rfl⟩) rfl ?_
         refine V.exit ?_
         obtain rfl := hr3 _ (Option.some.inj hm3).symm
         exact ⟨((pairs0 ++ ([([i, v] : List Int)] : List (List Int))), b5), rfl, Keeps.mk (ks := [0]) rfl ⟨rfl, rfl, rfl, rfl, rfl, trivial⟩ (⟨_, _, rfl, rfl, rfl⟩) rfl⟩
        ·
         replace hm3 := cond_f hc3 hm3
         refine V.skip ?_
         refine V.keep 44 [0, 3, 7, 8, 9] [1] (E0 := [(0, .vl ρ0 6 (List.map encHand list)), (3, .sref ob1 1 0 (List.length pairs0)), (7, .vl ρ0 6 (List.map encHand list)), (8, .int .i64 (list.length : Int)), (9, .int .i64 v)]) (H0 := [(ob1, ⟨1, List.map (encL rn 1 encInt) pairs0⟩)]) rfl (⟨_, _, rfl, rfl, ⟨_, _, rfl, rfl, ⟨_, _, rfl, rfl, ⟨_, _, rfl, rfl, ⟨_, _, rfl, rfl, rfl⟩⟩⟩⟩⟩) (⟨_, _, rfl, rfl, rfl⟩) rfl ?_
         refine V.exit ?_
         obtain rfl := hr3 _ (Option.some.inj hm3).symm
         exact ⟨(pairs0, ob1), rfl, Keeps.mk (ks := [0]) rfl ⟨rfl, rfl, rfl, rfl, rfl, trivial⟩ (⟨_, _, rfl, rfl, rfl⟩) rfl⟩
       ·
        replace hm3 := cond_f hc2 hm3
        refine V.skip ?_
        refine V.region ?_
        refine VO.cons rfl (V1.move rfl rfl rfl (ltb rfl) ?_)
        refine VO.cons rfl (V1.int rfl rfl rfl rfl rfl (ltb rfl) ?_)
        refine VO.cons rfl (V1.assign rfl rfl rfl (ltb rfl) ?_)
        refine VO.nil ?_
        exact ⟨(m1, (IntKind.i64.wrap (i - (1 : Int))), ()), hl3 _ (Option.some.inj hm3).symm, Nat.lt_succ_self _, Keeps.mk (ks := [0, 1]) rfl ⟨rfl, rfl, rfl, rfl, rfl, rfl, rfl, rfl, trivial⟩ (⟨_, _, rfl, rfl, ⟨_, _, rfl, rfl, rfl⟩⟩) rfl⟩
      ·
       replace hm3 := cond_f hc1 hm3
       refine V.exit ?_
       obtain rfl := hr3 _ (Option.some.inj hm3).symm
       exact ⟨(pairs0, ob1), rfl, Keeps.mk (ks := [1]) rfl ⟨rfl, rfl, rfl, rfl, rfl, trivial⟩ (⟨_, _, rfl, rfl, rfl⟩) rfl⟩
     ·
      rintro ⟨pairs2, b2⟩ rfl
      try dsimp only at hm2
      exact ⟨(pairs2, b2), Option.some.inj hm2, Keeps.mk (ks := [0]) rfl ⟨rfl, rfl, rfl, rfl, rfl, trivial⟩ (⟨_, _, rfl, rfl, rfl⟩) rfl⟩
    ·
     rintro ⟨pairs1, b0⟩ rfl
     try dsimp only at hm1
     refine V.region ?_
     refine VO.cons rfl (V1.int rfl rfl rfl rfl rfl (ltb rfl) ?_)
     refine VO.cons rfl (V1.move rfl rfl rfl (ltb rfl) ?_)
     refine VO.nil ?_
     exact ⟨(m0, (pairs1, (IntKind.i64.wrap (v + (1 : Int)))), (some b0)), ⟨hl1 _ (Option.some.inj hm1).symm, (fun e => by cases e)⟩, Nat.lt_succ_self _, Keeps.mk (ks := [0]) rfl ⟨rfl, rfl, rfl, rfl, rfl, trivial⟩ (⟨_, _, rfl, rfl, rfl⟩) rfl⟩
   ·
    replace hm1 := cond_f hc0 hm1
    refine V.exit ?_
    obtain rfl := hr1 _ (Option.some.inj hm1).symm
    exact ⟨(pairs0, (some ob1)), ⟨rfl, (fun e => by cases e)⟩, Keeps.mk (ks := [0]) rfl ⟨rfl, trivial⟩ (⟨_, _, rfl, rfl, rfl⟩) rfl⟩
 ·
  rintro ⟨pairs, ob0⟩ ⟨rfl, hob0⟩
  try dsimp only at hm0
  rcases ob0 with _ | ob0
  ·
   replace hob0 := hob0 rfl
   refine V.seq ?_
   refine V.region ?_
   refine VO.cons rfl (V1.move rfl rfl rfl (ltb rfl) ?_)
   refine VO.cons rfl (V1.assign rfl rfl rfl (ltb rfl) ?_)
   refine VO.nil ?_
   refine V.keep 44 [2] [] (E0 := [(2, .nils)]) (H0 := []) rfl (⟨_, _, rfl, rfl, rfl⟩) (rfl) rfl ?_
   refine V.ret ?_
   obtain rfl := Option.some.inj hm0
   exact ⟨_, _, ⟨_, _, rfl, rfl, rfl⟩, List.Sublist.refl _, none, (fun _ => hob0), rfl, rfl⟩
  ·
   refine V.seq ?_
   refine V.region ?_
   refine VO.cons rfl (V1.move rfl rfl rfl (ltb rfl) ?_)
   refine VO.cons rfl (V1.assign rfl rfl rfl (ltb rfl) ?_)
   refine VO.nil ?_
   refine V.keep 44 [2] [0] (E0 := [(2, .sref ob0 1 0 (List.length pairs))]) (H0 := [(ob0, ⟨1, List.map (encL rn 1 encInt) pairs⟩)]) rfl (⟨_, _, rfl, rfl, rfl⟩) (⟨_, _, rfl, rfl, rfl⟩) rfl ?_
   refine V.ret ?_
   obtain rfl := Option.some.inj hm0
   exact ⟨_, _, ⟨_, _, rfl, rfl, rfl⟩, List.Sublist.refl _, some ob0, (fun e => by cases e), rfl, rfl⟩

theorem ok_math_bits_Len32 {rn : Nat} {x : Int} {r : Int} (h : M.math_bits_Len32 x = some r) : Does Try.prog 161 [.int .u32 x] [] rn (fun x H => x = .int .i64 r ∧ H = []) := by
 have hm0 := h; clear h; unfold M.math_bits_Len32 at hm0
 try dsimp only at hm0
 refine Does.intro (N := 19) Try.func161 rfl rfl rfl rfl ?_
 intro w0 S0
 refine V.seq ?_
 refine V.region ?_
 refine VO.cons rfl (V1.assign rfl rfl rfl (ltb rfl) ?_)
 refine VO.nil ?_
 refine V.seq ?_
 replace hm0 := bindO hm0; rcases hm0 with ⟨j0, hm1, hm0⟩
 refine V.cutT (D := (Int × Int) × (Unit)) (fun ⟨⟨x0, n_⟩, _⟩ => ⟨19, [(0, .int .u32 x0), (2, .int .i64 n_)], []⟩) (fun ⟨⟨x0, n_⟩, _⟩ => ((x0, n_) = j0)) ?_ ?_
 ·
  refine V.seq ?_
  refine V.region ?_
  refine VO.cons rfl (V1.move rfl rfl rfl (ltb rfl) ?_)
  refine VO.cons rfl (V1.int rfl rfl rfl rfl rfl (ltb rfl) ?_)
  refine VO.nil ?_
  refine V.cond rfl (fun hc0 => ?_) (fun hc0 => ?_)
  ·
   replace hm1 := cond_t hc0 hm1
   refine V.seq ?_
   refine V.region ?_
   refine VO.cons rfl (V1.move rfl rfl rfl (ltb rfl) ?_)
   refine VO.cons rfl (V1.shr rfl rfl rfl rfl (by decide) (ltb rfl) ?_)
   refine VO.cons rfl (V1.assign rfl rfl rfl (ltb rfl) ?_)
   refine VO.nil ?_
   refine V.keep 19 [0] [] (E0 := [(0, .int .u32 (Int.fdiv x (2 ^ (min (Int.toNat (16 : Int)) IntKind.u32.bits))))]) (H0 := []) rfl (⟨_, _, rfl, rfl, rfl⟩) (rfl) rfl ?_
   refine V.region ?_
   refine VO.cons rfl (V1.assign rfl rfl rfl (ltb rfl) ?_)
   refine VO.nil ?_
   exact ⟨(((Int.fdiv x (2 ^ (min (Int.toNat (16 : Int)) IntKind.u32.bits))), (16 : Int)), ()), Option.some.inj hm1, Keeps.mk (ks := []) rfl ⟨rfl, rfl, trivial⟩ (rfl) rfl⟩
  ·
   replace hm1 := cond_f hc0 hm1
   refine V.skip ?_
   exact ⟨((x, (0 : Int)), ()), Option.some.inj hm1, Keeps.mk (ks := []) rfl ⟨rfl, rfl, trivial⟩ (rfl) rfl⟩
 ·
  rintro ⟨⟨x0, n_⟩, _⟩ rfl
  try dsimp only at hm0
  refine V.seq ?_
  replace hm0 := bindO hm0; rcases hm0 with ⟨j1, hm1, hm0⟩
  refine V.cutT (D := (Int × Int) × (Unit)) (fun ⟨⟨x1, n_0⟩, _⟩ => ⟨19, [(0, .int .u32 x1), (2, .int .i64 n_0)], []⟩) (fun ⟨⟨x1, n_0⟩, _⟩ => ((x1, n_0) = j1)) ?_ ?_
  ·
   refine V.seq ?_
   refine V.region ?_
   refine VO.cons rfl (V1.move rfl rfl rfl (ltb rfl) ?_)
   refine VO.cons rfl (V1.int rfl rfl rfl rfl rfl (ltb rfl) ?_)
   refine VO.nil ?_
   refine V.cond rfl (fun hc1 => ?_) (fun hc1 => ?_)
   ·
    replace hm1 := cond_t hc1 hm1
    refine V.seq ?_
    refine V.region ?_
    refine VO.cons rfl (V1.move rfl rfl rfl (ltb rfl) ?_)
    refine VO.cons rfl (V1.shr rfl rfl rfl rfl (by decide) (ltb rfl) ?_)
    refine VO.cons rfl (V1.assign rfl rfl rfl (ltb rfl) ?_)
    refine VO.nil ?_
    refine V.keep 19 [0, 2] [] (E0 := [(0, .int .u32 (Int.fdiv x0 (2 ^ (min (Int.toNat (8 : Int)) IntKind.u32.bits)))), (2, .int .i64 n_)]) (H0 := []) rfl (⟨_, _, rfl, rfl, ⟨_, _, rfl, rfl, rfl⟩⟩) (rfl) rfl ?_
    refine V.region ?_
    refine VO.cons rfl (V1.move rfl rfl rfl (ltb rfl) ?_)
    refine VO.cons rfl (V1.int rfl rfl rfl rfl rfl (ltb rfl) ?_)
    refine VO.cons rfl (V1.assign rfl rfl rfl (ltb rfl) ?_)
    refine VO.nil ?_
    exact ⟨(((Int.fdiv x0 (2 ^ (min (Int.toNat (8 : Int)) IntKind.u32.bits))), (IntKind.i64.wrap (n_ + (8 : Int)))), ()), Option.some.inj hm1, Keeps.mk (ks := []) rfl ⟨rfl, rfl, trivial⟩ (rfl) rfl⟩
   ·
    replace hm1 := cond_f hc1 hm1
    refine V.skip ?_
    exact ⟨((x0, n_), ()), Option.some.inj hm1, Keeps.mk (ks := []) rfl ⟨rfl, rfl, trivial⟩ (rfl) rfl⟩
  ·
   rintro ⟨⟨x1, n_0⟩, _⟩ rfl
   try dsimp only at hm0
   refine V.seq ?_
   replace hm0 := asrt_some hm0; rcases hm0 with ⟨hh0, hm0⟩
   refine V.region ?_
   refine VO.cons rfl (V1.move rfl rfl rfl (ltb rfl) ?_)
   refine VO.cons rfl (V1.move rfl rfl rfl (ltb rfl) ?_)
   refine VO.cons rfl (V1.conv rfl rfl und_152 und_5 rfl (ltb rfl) ?_)
   refine VO.cons rfl (V1.indexStrI rfl rfl istr_9 rfl rfl hh0 (ltb rfl) ?_)
   refine VO.cons rfl (V1.conv rfl rfl und_5 und_3 rfl (ltb rfl) ?_)
   refine VO.cons rfl (V1.int rfl rfl rfl rfl rfl (ltb rfl) ?_)
   refine VO.cons rfl (V1.assign rfl rfl rfl (ltb rfl) ?_)
   refine VO.nil ?_
   refine V.ret ?_
   obtain rfl := Option.some.inj hm0
   exact ⟨_, [], ⟨_, _, rfl, rfl, rfl⟩, List.nil_sublist _, rfl, rfl⟩

theorem ok_math_bits_Len64 {rn : Nat} {x : Int} {r : Int} (h : M.math_bits_Len64 x = some r) : Does Try.prog 162 [.int .u64 x] [] rn (fun x H => x = .int .i64 r ∧ H = []) := by
 have hm0 := h; clear h; unfold M.math_bits_Len64 at hm0
 try dsimp only at hm0
 refine Does.intro (N := 25) Try.func162 rfl rfl rfl rfl ?_
 intro w0 S0
 refine V.seq ?_
 refine V.region ?_
 refine VO.cons rfl (V1.assign rfl rfl rfl (ltb rfl) ?_)
 refine VO.nil ?_
 refine V.seq ?_
 replace hm0 := bindO hm0; rcases hm0 with ⟨j0, hm1, hm0⟩
 refine V.cutT (D := (Int × Int) × (Unit)) (fun ⟨⟨x0, n_⟩, _⟩ => ⟨25, [(0, .int .u64 x0), (2, .int .i64 n_)], []⟩) (fun ⟨⟨x0, n_⟩, _⟩ => ((x0, n_) = j0)) ?_ ?_
 ·
  refine V.seq ?_
  refine V.region ?_
  refine VO.cons rfl (V1.move rfl rfl rfl (ltb rfl) ?_)
  refine VO.cons rfl (V1.int rfl rfl rfl rfl rfl (ltb rfl) ?_)
  refine VO.nil ?_
  refine V.cond rfl (fun hc0 => ?_) (fun hc0 => ?_)
  ·
   replace hm1 := cond_t hc0 hm1
   refine V.seq ?_
   refine V.region ?_
   refine VO.cons rfl (V1.move rfl rfl rfl (ltb rfl) ?_)
   refine VO.cons rfl (V1.shr rfl rfl rfl rfl (by decide) (ltb rfl) ?_)
   refine VO.cons rfl (V1.assign rfl rfl rfl (ltb rfl) ?_)
   refine VO.nil ?_
   refine V.keep 25 [0] [] (E0 := [(0, .int .u64 (Int.fdiv x (2 ^ (min (Int.toNat (32 : Int)) IntKind.u64.bits))))]) (H0 := []) rfl (⟨_, _, rfl, rfl, rfl⟩) (rfl) rfl ?_
   refine V.region ?_
   refine VO.cons rfl (V1.assign rfl rfl rfl (ltb rfl) ?_)
   refine VO.nil ?_
   exact ⟨(((Int.fdiv x (2 ^ (min (Int.toNat (32 : Int)) IntKind.u64.bits))), (32 : Int)), ()), Option.some.inj hm1, Keeps.mk (ks := []) rfl ⟨rfl, rfl, trivial⟩ (rfl) rfl⟩
  ·
   replace hm1 := cond_f hc0 hm1
   refine V.skip ?_
   exact ⟨((x, (0 : Int)), ()), Option.some.inj hm1, Keeps.mk (ks := []) rfl ⟨rfl, rfl, trivial⟩ (rfl) rfl⟩
 ·
  rintro ⟨⟨x0, n_⟩, _⟩ rfl
  try dsimp only at hm0
  refine V.seq ?_
  replace hm0 := bindO hm0; rcases hm0 with ⟨j1, hm1, hm0⟩
  refine V.cutT (D := (Int × Int) × (Unit)) (fun ⟨⟨x1, n_0⟩, _⟩ => ⟨25, [(0, .int .u64 x1), (2, .int .i64 n_0)], []⟩) (fun ⟨⟨x1, n_0⟩, _⟩ => ((x1, n_0) = j1)) ?_ ?_
  ·
   refine V.seq ?_
   refine V.region ?_
   refine VO.cons rfl (V1.move rfl rfl rfl (ltb rfl) ?_)
   refine VO.cons rfl (V1.int rfl rfl rfl rfl rfl (ltb rfl) ?_)
   refine VO.nil ?_
   refine V.cond rfl (fun hc1 => ?_) (fun hc1 => ?_)
   ·
    replace hm1 := cond_t hc1 hm1
    refine V.seq ?_
    refine V.region ?_
    refine VO.cons rfl (V1.move rfl rfl rfl (ltb rfl) ?_)
    refine VO.cons rfl (V1.shr rfl rfl rfl rfl (by decide) (ltb rfl) ?_)
    refine VO.cons rfl (V1.assign rfl rfl rfl (ltb rfl) ?_)
    refine VO.nil ?_
    refine V.keep 25 [0, 2] [] (E0 := [(0, .int .u64 (Int.fdiv x0 (2 ^ (min (Int.toNat (16 : Int)) IntKind.u64.bits)))), (2, .int .i64 n_)]) (H0 := []) rfl (⟨_, _, rfl, rfl, ⟨_, _, rfl, rfl, rfl⟩⟩) (rfl) rfl ?_
    refine V.region ?_
    refine VO.cons rfl (V1.move rfl rfl rfl (ltb rfl) ?_)
    refine VO.cons rfl (V1.int rfl rfl rfl rfl rfl (ltb rfl) ?_)
    refine VO.cons rfl (V1.assign rfl rfl rfl (ltb rfl) ?_)
    refine VO.nil ?_
    exact ⟨(((Int.fdiv x0 (2 ^ (min (Int.toNat (16 : Int)) IntKind.u64.bits))), (IntKind.i64.wrap (n_ + (16 : Int)))), ()), Option.some.inj hm1, Keeps.mk (ks := []) rfl ⟨rfl, rfl, trivial⟩ (rfl) rfl⟩
   ·
    replace hm1 := cond_f hc1 hm1
    refine V.skip ?_
    exact ⟨((x0, n_), ()), Option.some.inj hm1, Keeps.mk (ks := []) rfl ⟨rfl, rfl, trivial⟩ (rfl) rfl⟩
  ·
   rintro ⟨⟨x1, n_0⟩, _⟩ rfl
   try dsimp only at hm0
   refine V.seq ?_
   replace hm0 := bindO hm0; rcases hm0 with ⟨j2, hm1, hm0⟩
   refine V.cutT (D := (Int × Int) × (Unit)) (fun ⟨⟨x2, n_1⟩, _⟩ => ⟨25, [(0, .int .u64 x2), (2, .int .i64 n_1)], []⟩) (fun ⟨⟨x2, n_1⟩, _⟩ => ((x2, n_1) = j2)) ?_ ?_
   ·
    refine V.seq ?_
    refine V.region ?_
    refine VO.cons rfl (V1.move rfl rfl rfl (ltb rfl) ?_)
    refine VO.cons rfl (V1.int rfl rfl rfl rfl rfl (ltb rfl) ?_)
    refine VO.nil ?_
    refine V.cond rfl (fun hc2 => ?_) (fun hc2 => ?_)
    ·
     replace hm1 := cond_t hc2 hm1
     refine V.seq ?_
     refine V.region ?_
     refine VO.cons rfl (V1.move rfl rfl rfl (ltb rfl) ?_)
     refine VO.cons rfl (V1.shr rfl rfl rfl rfl (by decide) (ltb rfl) ?_)
     refine VO.cons rfl (V1.assign rfl rfl rfl (ltb rfl) ?_)
     refine VO.nil ?_
     refine V.keep 25 [0, 2] [] (E0 := [(0, .int .u64 (Int.fdiv x1 (2 ^ (min (Int.toNat (8 : Int)) IntKind.u64.bits)))), (2, .int .i64 n_0)]) (H0 := []) rfl (⟨_, _, rfl, rfl, ⟨_, _, rfl, rfl, rfl⟩⟩) (rfl) rfl ?_
     refine V.region ?_
     refine VO.cons rfl (V1.move rfl rfl rfl (ltb rfl) ?_)
     refine VO.cons rfl (V1.int rfl rfl rfl rfl rfl (ltb rfl) ?_)
     refine VO.cons rfl (V1.assign rfl rfl rfl (ltb rfl) ?_)
     refine VO.nil ?_
     exact ⟨(((Int.fdiv x1 (2 ^ (min (Int.toNat (8 : Int)) IntKind.u64.bits))), (IntKind.i64.wrap (n_0 + (8 : Int)))), ()), Option.some.inj hm1, Keeps.mk (ks := []) rfl ⟨rfl, rfl, trivial⟩ (rfl) rfl⟩
    ·
     replace hm1 := cond_f hc2 hm1
     refine V.skip ?_
     exact ⟨((x1, n_0), ()), Option.some.inj hm1, Keeps.mk (ks := []) rfl ⟨rfl, rfl, trivial⟩ (rfl) rfl⟩
   ·
    rintro ⟨⟨x2, n_1⟩, _⟩ rfl
    try dsimp only at hm0
    refine V.seq ?_
    replace hm0 := asrt_some hm0; rcases hm0 with ⟨hh0, hm0⟩
    refine V.region ?_
    refine VO.cons rfl (V1.move rfl rfl rfl (ltb rfl) ?_)
    refine VO.cons rfl (V1.move rfl rfl rfl (ltb rfl) ?_)
    refine VO.cons rfl (V1.conv rfl rfl und_107 und_5 rfl (ltb rfl) ?_)
    refine VO.cons rfl (V1.indexStrI rfl rfl istr_9 rfl rfl hh0 (ltb rfl) ?_)
    refine VO.cons rfl (V1.conv rfl rfl und_5 und_3 rfl (ltb rfl) ?_)
    refine VO.cons rfl (V1.int rfl rfl rfl rfl rfl (ltb rfl) ?_)
    refine VO.cons rfl (V1.assign rfl rfl rfl (ltb rfl) ?_)
    refine VO.nil ?_
    refine V.ret ?_
    obtain rfl := Option.some.inj hm0
    exact ⟨_, [], ⟨_, _, rfl, rfl, rfl⟩, List.nil_sublist _, rfl, rfl⟩

theorem ok_math_bits_Len {rn : Nat} {x : Int} {r : Int} (h : M.math_bits_Len x = some r) : Does Try.prog 149 [.int .u64 x] [] rn (fun x H => x = .int .i64 r ∧ H = []) := by
 have hm0 := h; clear h; unfold M.math_bits_Len at hm0
 try dsimp only at hm0
 refine Does.intro (N := 8) Try.func149 rfl rfl rfl rfl ?_
 intro w0 S0
 refine V.seq ?_
 refine V.region ?_
 refine VO.cons rfl (V1.assign rfl rfl rfl (ltb rfl) ?_)
 refine VO.nil ?_
 refine V.seq ?_
 refine V.cond rfl (fun hc0 => ?_) (fun hc0 => ?_)
 ·
  replace hm0 := cond_t hc0 hm0
  refine V.seq ?_
  replace hm0 := bindO hm0; rcases hm0 with ⟨y0, hh0, hm0⟩
  refine V.region ?_
  refine VO.cons rfl (V1.move rfl rfl rfl (ltb rfl) ?_)
  refine VO.cons rfl (V1.conv rfl rfl und_142 und_152 rfl (ltb rfl) ?_)
  refine VO.cons rfl (V1.call rfl rfl rfl cok_161 rfl (ok_math_bits_Len32 hh0) rfl (ltb rfl) ?_)
  rintro _ _ ⟨rfl, rfl⟩
  refine VO.cons rfl (V1.assign rfl rfl rfl (ltb rfl) ?_)
  refine VO.nil ?_
  refine V.ret ?_
  obtain rfl := Option.some.inj hm0
  exact ⟨_, [], ⟨_, _, rfl, rfl, rfl⟩, List.nil_sublist _, rfl, rfl⟩
 ·
  replace hm0 := cond_f hc0 hm0
  refine V.skip ?_
  refine V.seq ?_
  replace hm0 := bindO hm0; rcases hm0 with ⟨y1, hh1, hm0⟩
  refine V.region ?_
  refine VO.cons rfl (V1.move rfl rfl rfl (ltb rfl) ?_)
  refine VO.cons rfl (V1.call rfl rfl rfl cok_162 rfl (ok_math_bits_Len64 hh1) rfl (ltb rfl) ?_)
  rintro _ _ ⟨rfl, rfl⟩
  refine VO.cons rfl (V1.assign rfl rfl rfl (ltb rfl) ?_)
  refine VO.nil ?_
  refine V.ret ?_
  obtain rfl := Option.some.inj hm0
  exact ⟨_, [], ⟨_, _, rfl, rfl, rfl⟩, List.nil_sublist _, rfl, rfl⟩

theorem ok_cmp_isNaN_int {rn : Nat} {x : Int} {r : Bool} (h : M.cmp_isNaN_int x = some r) : Does Try.prog 169 [.int .i64 x] [] rn (fun x H => x = .bool r ∧ H = []) := by
 have hm0 := h; clear h; unfold M.cmp_isNaN_int at hm0
 try dsimp only at hm0
 refine Does.intro (N := 6) Try.func169 rfl rfl rfl rfl ?_
 intro w0 S0
 refine V.seq ?_
 refine V.region ?_
 refine VO.cons rfl (V1.assign rfl rfl rfl (ltb rfl) ?_)
 refine VO.nil ?_
 refine V.seq ?_
 refine V.region ?_
 refine VO.cons rfl (V1.move rfl rfl rfl (ltb rfl) ?_)
 refine VO.cons rfl (V1.move rfl rfl rfl (ltb rfl) ?_)
 refine VO.cons rfl (V1.int rfl rfl rfl rfl rfl (ltb rfl) ?_)
 refine VO.cons rfl (V1.assign rfl rfl rfl (ltb rfl) ?_)
 refine VO.nil ?_
 refine V.ret ?_
 obtain rfl := Option.some.inj hm0
 exact ⟨_, [], ⟨_, _, rfl, rfl, rfl⟩, List.nil_sublist _, rfl, rfl⟩

theorem ok_cmp_Less_int {rn : Nat} {x : Int} {y : Int} {r : Bool} (h : M.cmp_Less_int x y = some r) : Does Try.prog 158 [.int .i64 x, .int .i64 y] [] rn (fun x H => x = .bool r ∧ H = []) := by
 have hm0 := h; clear h; unfold M.cmp_Less_int at hm0
 try dsimp only at hm0
 refine Does.intro (N := 17) Try.func158 rfl rfl rfl rfl ?_
 intro w0 S0
 refine V.seq ?_
 refine V.region ?_
 refine VO.cons rfl (V1.assign rfl rfl rfl (ltb rfl) ?_)
 refine VO.nil ?_
 refine V.seq ?_
 replace hm0 := bindO hm0; rcases hm0 with ⟨y0, hh0, hm0⟩
 replace hm0 := bindO hm0; rcases hm0 with ⟨y1, hh1, hm0⟩
 refine V.region ?_
 refine VO.cons rfl (V1.move rfl rfl rfl (ltb rfl) ?_)
 refine VO.cons rfl (V1.call rfl rfl rfl cok_169 rfl (ok_cmp_isNaN_int hh0) rfl (ltb rfl) ?_)
 rintro _ _ ⟨rfl, rfl⟩
 refine VO.cons rfl (V1.move rfl rfl rfl (ltb rfl) ?_)
 apply VO.and (n := 3) rfl rfl rfl rfl rfl rfl (ltb rfl) (.none rfl)
 ·
  intro hg0
  refine VO.step (.some rfl rfl rfl) (V1.move rfl rfl rfl (ltb rfl) ?_)
  refine VO.step (.some rfl rfl rfl) (V1.call rfl rfl rfl cok_169 rfl (ok_cmp_isNaN_int (cond_t hg0 hh1)) rfl (ltb rfl) ?_)
  rintro _ _ ⟨rfl, rfl⟩
  refine VO.step (.some rfl rfl rfl) (V1.not rfl rfl rfl (ltb rfl) ?_)
  exact VO.nil ⟨rfl, rfl, rfl, rfl, .inr ⟨rfl, .inr ⟨rfl, .inr ⟨rfl, .inr ⟨rfl, .inl rfl⟩⟩⟩⟩⟩
 refine VO.cons rfl (V1.move rfl rfl rfl (ltb rfl) ?_)
 apply VO.or (n := 3) rfl rfl rfl rfl rfl rfl (ltb rfl) (.none rfl)
 ·
  intro hg1
  refine VO.step (.some rfl rfl rfl) (V1.move rfl rfl rfl (ltb rfl) ?_)
  refine VO.step (.some rfl rfl rfl) (V1.move rfl rfl rfl (ltb rfl) ?_)
  refine VO.step (.some rfl rfl rfl) (V1.int rfl rfl rfl rfl rfl (ltb rfl) ?_)
  exact VO.nil ⟨rfl, rfl, rfl, rfl, .inr ⟨rfl, .inr ⟨rfl, .inr ⟨rfl, .inr ⟨rfl, .inl rfl⟩⟩⟩⟩⟩
 refine VO.cons rfl (V1.assign rfl rfl rfl (ltb rfl) ?_)
 refine VO.nil ?_
 refine V.ret ?_
 obtain rfl := Option.some.inj hm0
 exact ⟨_, [], ⟨_, _, rfl, rfl, rfl⟩, List.nil_sublist _, rfl, rfl⟩

theorem ok_slices_insertionSortOrdered_int {rn : Nat} {oq : Option Nat} {data : List Int} {a : Int} {b_ : Int} {r : List Int} (h : M.slices_insertionSortOrdered_int data a b_ = some r) (hoq : oq = none → data = []) : Does Try.prog 152 [optS 1 oq (List.length data), .int .i64 a, .int .i64 b_] (optH 1 oq (List.map encInt data)) rn (fun x H => x = .tup [] ∧ H = optH 1 oq (List.map encInt r)) := by
 have hm0 := h; clear h; unfold M.slices_insertionSortOrdered_int at hm0
 try dsimp only at hm0
 refine Does.intro (N := 49) Try.func152 rfl rfl rfl rfl ?_
 intro w0 S0
 rcases oq with _ | oq
 ·
  refine V.seq ?_
  refine V.region ?_
  refine VO.cons rfl (V1.move rfl rfl rfl (ltb rfl) ?_)
  refine VO.cons rfl (V1.int rfl rfl rfl rfl rfl (ltb rfl) ?_)
  refine VO.cons rfl (V1.assign rfl rfl rfl (ltb rfl) ?_)
  refine VO.nil ?_
  replace hm0 := bindO hm0; rcases hm0 with ⟨e0, he1, hm0⟩
  refine V.cutT (D := (List Int) × (Unit)) (fun ⟨data0, _⟩ => ⟨49, [(0, .nils)], []⟩) (fun ⟨data0, _⟩ => (data0 = e0) ∧ data0 = []) ?_ ?_
  ·
   refine V.block ?_
   refine V.keep 49 [0, 6, 1, 2] [] (E0 := [(0, .nils), (6, .int .i64 (IntKind.i64.wrap (a + (1 : Int)))), (1, .int .i64 a), (2, .int .i64 b_)]) (H0 := []) rfl (⟨_, _, rfl, rfl, ⟨_, _, rfl, rfl, ⟨_, _, rfl, rfl, ⟨_, _, rfl, rfl, rfl⟩⟩⟩⟩) (rfl) rfl ?_
   refine V.loopE (D := Nat × (List Int × Int) × (Unit)) (fun ⟨n0, ⟨data1, i⟩, _⟩ => [(0, .nils), (6, .int .i64 i)]) (fun ⟨n0, ⟨data1, i⟩, _⟩ => []) (fun ⟨n0, ⟨data1, i⟩, _⟩ => loopO (M.slices_insertionSortOrdered_int_l0 a b_) n0 (data1, i) = some e0 ∧ data1 = []) (fun ⟨n0, _, _⟩ => n0) (rounds, (data, (IntKind.i64.wrap (a + (1 : Int)))), ()) rfl ⟨he1, (hoq rfl)⟩ ?_
   rintro ⟨n0, ⟨data1, i⟩, _⟩ ⟨hP0, hn_data1⟩
   obtain ⟨m0, y0, rfl, hm1, hl1, hr1⟩ := loop_head hP0
   unfold M.slices_insertionSortOrdered_int_l0 at hm1; dsimp only at hm1
   show V _ _ _ ⟨49, [(0, .nils), (6, .int .i64 i), (1, .int .i64 a), (2, .int .i64 b_)], []⟩
   refine V.seq ?_
   refine V.seq ?_
   refine V.region ?_
   refine VO.cons rfl (V1.move rfl rfl rfl (ltb rfl) ?_)
   refine VO.cons rfl (V1.move rfl rfl rfl (ltb rfl) ?_)
   refine VO.cons rfl (V1.int rfl rfl rfl rfl rfl (ltb rfl) ?_)
   refine VO.nil ?_
   refine V.cond rfl (fun hc0 => ?_) (fun hc0 => ?_)
   ·
    replace hm1 := cond_t hc0 hm1
    refine V.skip ?_
    refine V.seq ?_
    refine V.block ?_
    refine V.seq ?_
    refine V.region ?_
    refine VO.cons rfl (V1.move rfl rfl rfl (ltb rfl) ?_)
    refine VO.cons rfl (V1.assign rfl rfl rfl (ltb rfl) ?_)
    refine VO.nil ?_
    refine V.keep 49 [0, 1, 2, 6, 7] [] (E0 := [(0, .nils), (1, .int .i64 a), (2, .int .i64 b_), (6, .int .i64 i), (7, .int .i64 i)]) (H0 := []) rfl (⟨_, _, rfl, rfl, ⟨_, _, rfl, rfl, ⟨_, _, rfl, rfl, ⟨_, _, rfl, rfl, ⟨_, _, rfl, rfl, rfl⟩⟩⟩⟩⟩) (rfl) rfl ?_
    replace hm1 := bindO hm1; rcases hm1 with ⟨e1, he2, hm1⟩
    refine V.cutT (D := (List Int) × (Unit)) (fun ⟨data2, _⟩ => ⟨49, [(0, .nils), (1, .int .i64 a), (2, .int .i64 b_), (6, .int .i64 i)], []⟩) (fun ⟨data2, _⟩ => (data2 = e1) ∧ data2 = []) ?_ ?_
    ·
     refine V.block ?_
     refine V.keep 49 [0, 7, 1, 2, 6] [] (E0 := [(0, .nils), (7, .int .i64 i), (1, .int .i64 a), (2, .int .i64 b_), (6, .int .i64 i)]) (H0 := []) rfl (⟨_, _, rfl, rfl, ⟨_, _, rfl, rfl, ⟨_, _, rfl, rfl, ⟨_, _, rfl, rfl, ⟨_, _, rfl, rfl, rfl⟩⟩⟩⟩⟩) (rfl) rfl ?_
     refine V.loopE (D := Nat × (List Int × Int) × (Unit)) (fun ⟨n1, ⟨data3, j_⟩, _⟩ => [(0, .nils), (7, .int .i64 j_)]) (fun ⟨n1, ⟨data3, j_⟩, _⟩ => []) (fun ⟨n1, ⟨data3, j_⟩, _⟩ => loopO (M.slices_insertionSortOrdered_int_l1 a) n1 (data3, j_) = some e1 ∧ data3 = []) (fun ⟨n1, _, _⟩ => n1) (rounds, (data1, i), ()) rfl ⟨he2, hn_data1⟩ ?_
     rintro ⟨n1, ⟨data3, j_⟩, _⟩ ⟨hP1, hn_data3⟩
     obtain ⟨m1, y1, rfl, hm2, hl2, hr2⟩ := loop_head hP1
     unfold M.slices_insertionSortOrdered_int_l1 at hm2; dsimp only at hm2
     show V _ _ _ ⟨49, [(0, .nils), (7, .int .i64 j_), (1, .int .i64 a), (2, .int .i64 b_), (6, .int .i64 i)], []⟩
     refine V.seq ?_
     refine V.seq ?_
     replace hm2 := asrt_some hm2; rcases hm2 with ⟨hh0, hm2⟩
     replace hm2 := asrt_some hm2; rcases hm2 with ⟨hh1, hm2⟩
     replace hm2 := bindO hm2; rcases hm2 with ⟨y2, hh2, hm2⟩
     refine V.regionM 49 15 [⟨[(7, none)], [], none⟩, ⟨[(1, none)], [], none⟩, ⟨[(16, some 1), (17, some 0)], [], none⟩, ⟨[(18, some 0)], [], none⟩, ⟨[(0, none)], [(0, true)], none⟩, ⟨[(7, none)], [(1, true)], none⟩, ⟨[(20, some 1), (21, some 0)], [(2, true)], none⟩, ⟨[(22, some 0)], [(3, true)], none⟩, ⟨[(0, none)], [(4, true)], none⟩, ⟨[(7, none)], [(5, true)], none⟩, ⟨[(25, some 0)], [(6, true)], none⟩, ⟨[(24, some 2), (26, some 0)], [(7, true)], none⟩, ⟨[(27, some 0)], [(8, true)], none⟩, ⟨[(23, some 5), (28, some 0)], [(9, true)], none⟩, ⟨[], [], some (true, 19, 29, 10, 0)⟩] [(0, none), (1, none), (2, none), (6, none), (7, none), (30, some 0)] (⟨_, rfl, ⟨_, rfl, ⟨_, rfl, ⟨_, rfl, ⟨_, rfl, ⟨_, rfl, ⟨_, rfl, ⟨_, rfl, ⟨_, rfl, ⟨_, rfl, ⟨_, rfl, ⟨_, rfl, ⟨_, rfl, ⟨_, rfl, ⟨_, rfl, ⟨rfl, rfl⟩⟩⟩⟩⟩⟩⟩⟩⟩⟩⟩⟩⟩⟩⟩⟩) mixed_orders rfl (by decide +kernel) (fun hck4 => ?_)
     refine VP.step (p := ?pv1905) rfl rfl rfl (⟨_, _, rfl, rfl, rfl⟩) ?hv1905 ?rest1905 hck4
     case hv1905 =>
      intro E1
      refine (V1.move rfl rfl rfl (ltb rfl) ?_)
      exact rfl
     refine VP.step (p := ?pv1906) rfl rfl rfl (⟨_, _, rfl, rfl, rfl⟩) ?hv1906 ?rest1906 hck4
     case hv1906 =>
      intro E1
      refine (V1.move rfl rfl rfl (ltb rfl) ?_)
      exact rfl
     refine VP.step (p := ?pv1907) rfl rfl rfl (⟨_, _, rfl, rfl, ⟨_, _, rfl, rfl, rfl⟩⟩) ?hv1907 ?rest1907 hck4
     case hv1907 =>
      intro E1
      refine (V1.int rfl rfl rfl rfl rfl (ltb rfl) ?_)
      exact rfl
     refine VP.step (p := ?pv1908) rfl rfl rfl (⟨_, _, rfl, rfl, rfl⟩) ?hv1908 ?rest1908 hck4
     case hv1908 =>
      intro E1
      refine (V1.move rfl rfl rfl (ltb rfl) ?_)
      exact rfl
     refine VP.step (p := ?pv1909) rfl rfl rfl (⟨_, _, rfl, rfl, rfl⟩) ?hv1909 ?rest1909 hck4
     case hv1909 =>
      refine ⟨_, rfl, fun hg0 => ?_⟩
      intro E1
      refine (V1.move rfl rfl rfl (ltb rfl) ?_)
      exact rfl
     refine VP.step (p := ?pv1910) rfl rfl rfl (⟨_, _, rfl, rfl, rfl⟩) ?hv1910 ?rest1910 hck4
     case hv1910 =>
      refine ⟨_, rfl, fun hg0 => ?_⟩
      intro E1
      refine (V1.move rfl rfl rfl (ltb rfl) ?_)
      exact rfl
     refine VP.step (p := .pin rn (encInt (data3.getD (Int.toNat j_) default)) 0) rfl rfl rfl (⟨_, _, rfl, rfl, ⟨_, _, rfl, rfl, rfl⟩⟩) ?hv1911 ?rest1911 hck4
     case hv1911 =>
      refine ⟨_, rfl, fun hg0 => ?_⟩
      intro E1
      exact ((nilsNo hn_data3 (hh0 hg0))).elim
     refine VP.step (p := .int .i64 (data3.getD (Int.toNat j_) default)) rfl rfl rfl (⟨_, _, rfl, rfl, rfl⟩) ?hv1912 ?rest1912 hck4
     case hv1912 =>
      refine ⟨_, rfl, fun hg0 => ?_⟩
      intro E1
      exact ((nilsNo hn_data3 (hh0 hg0))).elim
     refine VP.step (p := ?pv1913) rfl rfl rfl (⟨_, _, rfl, rfl, rfl⟩) ?hv1913 ?rest1913 hck4
     case hv1913 =>
      refine ⟨_, rfl, fun hg0 => ?_⟩
      intro E1
      refine (V1.move rfl rfl rfl (ltb rfl) ?_)
      exact rfl
     refine VP.step (p := ?pv1914) rfl rfl rfl (⟨_, _, rfl, rfl, rfl⟩) ?hv1914 ?rest1914 hck4
     case hv1914 =>
      refine ⟨_, rfl, fun hg0 => ?_⟩
      intro E1
      refine (V1.move rfl rfl rfl (ltb rfl) ?_)
      exact rfl
     refine VP.step (p := ?pv1915) rfl rfl rfl (⟨_, _, rfl, rfl, rfl⟩) ?hv1915 ?rest1915 hck4
     case hv1915 =>
      refine ⟨_, rfl, fun hg0 => ?_⟩
      intro E1
      refine (V1.int rfl rfl rfl rfl rfl (ltb rfl) ?_)
      exact rfl
     refine VP.step (p := .pin rn (encInt (data3.getD (Int.toNat (IntKind.i64.wrap (j_ - (1 : Int)))) default)) 0) rfl rfl rfl (⟨_, _, rfl, rfl, ⟨_, _, rfl, rfl, rfl⟩⟩) ?hv1916 ?rest1916 hck4
     case hv1916 =>
      refine ⟨_, rfl, fun hg0 => ?_⟩
      intro E1
      exact ((nilsNo hn_data3 (hh1 hg0))).elim
     refine VP.step (p := .int .i64 (data3.getD (Int.toNat (IntKind.i64.wrap (j_ - (1 : Int)))) default)) rfl rfl rfl (⟨_, _, rfl, rfl, rfl⟩) ?hv1917 ?rest1917 hck4
     case hv1917 =>
      refine ⟨_, rfl, fun hg0 => ?_⟩
      intro E1
      exact ((nilsNo hn_data3 (hh1 hg0))).elim
     refine VP.step (p := .bool y2) rfl rfl rfl (⟨_, _, rfl, rfl, ⟨_, _, rfl, rfl, rfl⟩⟩) ?hv1918 ?rest1918 hck4
     case hv1918 =>
      refine ⟨_, rfl, fun hg0 => ?_⟩
      intro E1
      exact ((nilsNo hn_data3 (hh0 hg0))).elim
     refine VP.pickAnd rfl rfl rfl rfl rfl rfl (trivial) ?_ hck4
     refine VP.fin rfl (⟨_, _, rfl, rfl, ⟨_, _, rfl, rfl, ⟨_, _, rfl, rfl, ⟨_, _, rfl, rfl, ⟨_, _, rfl, rfl, ⟨_, _, rfl, rfl, rfl⟩⟩⟩⟩⟩⟩) ?_
     refine VO.nil ?_
     refine V.cond rfl (fun hc1 => ?_) (fun hc1 => ?_)
     ·
      replace hm2 := cond_t hc1 hm2
      refine V.skip ?_
      refine V.seq ?_
      refine V.block ?_
      replace hm2 := asrt_some hm2; rcases hm2 with ⟨hh3, hm2⟩
      exact (nilsNo hn_data3 hh3).elim
     ·
      replace hm2 := cond_f hc1 hm2
      refine V.exit ?_
      obtain rfl := hr2 _ (Option.some.inj hm2).symm
      exact ⟨(data3, ()), ⟨rfl, hn_data3⟩, Keeps.mk (ks := []) rfl ⟨rfl, rfl, rfl, rfl, trivial⟩ (rfl) rfl⟩
    ·
     rintro ⟨data2, _⟩ ⟨rfl, hn_data2⟩
     try dsimp only at hm1
     refine V.region ?_
     refine VO.cons rfl (V1.move rfl rfl rfl (ltb rfl) ?_)
     refine VO.cons rfl (V1.int rfl rfl rfl rfl rfl (ltb rfl) ?_)
     refine VO.cons rfl (V1.assign rfl rfl rfl (ltb rfl) ?_)
     refine VO.nil ?_
     exact ⟨(m0, (data2, (IntKind.i64.wrap (i + (1 : Int)))), ()), ⟨hl1 _ (Option.some.inj hm1).symm, hn_data2⟩, Nat.lt_succ_self _, Keeps.mk (ks := []) rfl ⟨rfl, rfl, rfl, rfl, trivial⟩ (rfl) rfl⟩
   ·
    replace hm1 := cond_f hc0 hm1
    refine V.exit ?_
    obtain rfl := hr1 _ (Option.some.inj hm1).symm
    exact ⟨(data1, ()), ⟨rfl, hn_data1⟩, Keeps.mk (ks := []) rfl ⟨rfl, trivial⟩ (rfl) rfl⟩
  ·
   rintro ⟨data0, _⟩ ⟨rfl, hn_data0⟩
   try dsimp only at hm0
   obtain rfl := Option.some.inj hm0
   exact ⟨_, [], rfl, List.nil_sublist _, rfl, rfl⟩
 ·
  refine V.seq ?_
  refine V.region ?_
  refine VO.cons rfl (V1.move rfl rfl rfl (ltb rfl) ?_)
  refine VO.cons rfl (V1.int rfl rfl rfl rfl rfl (ltb rfl) ?_)
  refine VO.cons rfl (V1.assign rfl rfl rfl (ltb rfl) ?_)
  refine VO.nil ?_
  replace hm0 := bindO hm0; rcases hm0 with ⟨e0, he1, hm0⟩
  refine V.cutT (D := (List Int) × (Unit)) (fun ⟨data0, _⟩ => ⟨49, [(0, .sref oq 1 0 (List.length data0))], [(oq, ⟨1, List.map encInt data0⟩)]⟩) (fun ⟨data0, _⟩ => (data0 = e0)) ?_ ?_
  ·
   refine V.block ?_
   refine V.keep 49 [0, 6, 1, 2] [0] (E0 := [(0, .sref oq 1 0 (List.length data)), (6, .int .i64 (IntKind.i64.wrap (a + (1 : Int)))), (1, .int .i64 a), (2, .int .i64 b_)]) (H0 := [(oq, ⟨1, List.map encInt data⟩)]) rfl (⟨_, _, rfl, rfl, ⟨_, _, rfl, rfl, ⟨_, _, rfl, rfl, ⟨_, _, rfl, rfl, rfl⟩⟩⟩⟩) (⟨_, _, rfl, rfl, rfl⟩) rfl ?_
   refine V.loopE (D := Nat × (List Int × Int) × (Unit)) (fun ⟨n0, ⟨data1, i⟩, _⟩ => [(0, .sref oq 1 0 (List.length data1)), (6, .int .i64 i)]) (fun ⟨n0, ⟨data1, i⟩, _⟩ => [(oq, ⟨1, List.map encInt data1⟩)]) (fun ⟨n0, ⟨data1, i⟩, _⟩ => loopO (M.slices_insertionSortOrdered_int_l0 a b_) n0 (data1, i) = some e0) (fun ⟨n0, _, _⟩ => n0) (rounds, (data, (IntKind.i64.wrap (a + (1 : Int)))), ()) rfl he1 ?_
   rintro ⟨n0, ⟨data1, i⟩, _⟩ hP0
   obtain ⟨m0, y0, rfl, hm1, hl1, hr1⟩ := loop_head hP0
   unfold M.slices_insertionSortOrdered_int_l0 at hm1; dsimp only at hm1
   show V _ _ _ ⟨49, [(0, .sref oq 1 0 (List.length data1)), (6, .int .i64 i), (1, .int .i64 a), (2, .int .i64 b_)], [(oq, ⟨1, List.map encInt data1⟩)]⟩
   refine V.seq ?_
   refine V.seq ?_
   refine V.region ?_
   refine VO.cons rfl (V1.move rfl rfl rfl (ltb rfl) ?_)
   refine VO.cons rfl (V1.move rfl rfl rfl (ltb rfl) ?_)
   refine VO.cons rfl (V1.int rfl rfl rfl rfl rfl (ltb rfl) ?_)
   refine VO.nil ?_
   refine V.cond rfl (fun hc0 => ?_) (fun hc0 => ?_)
   ·
    replace hm1 := cond_t hc0 hm1
    refine V.skip ?_
    refine V.seq ?_
    refine V.block ?_
    refine V.seq ?_
    refine V.region ?_
    refine VO.cons rfl (V1.move rfl rfl rfl (ltb rfl) ?_)
    refine VO.cons rfl (V1.assign rfl rfl rfl (ltb rfl) ?_)
    refine VO.nil ?_
    refine V.keep 49 [0, 1, 2, 6, 7] [0] (E0 := [(0, .sref oq 1 0 (List.length data1)), (1, .int .i64 a), (2, .int .i64 b_), (6, .int .i64 i), (7, .int .i64 i)]) (H0 := [(oq, ⟨1, List.map encInt data1⟩)]) rfl (⟨_, _, rfl, rfl, ⟨_, _, rfl, rfl, ⟨_, _, rfl, rfl, ⟨_, _, rfl, rfl, ⟨_, _, rfl, rfl, rfl⟩⟩⟩⟩⟩) (⟨_, _, rfl, rfl, rfl⟩) rfl ?_
    replace hm1 := bindO hm1; rcases hm1 with ⟨e1, he2, hm1⟩
    refine V.cutT (D := (List Int) × (Unit)) (fun ⟨data2, _⟩ => ⟨49, [(0, .sref oq 1 0 (List.length data2)), (1, .int .i64 a), (2, .int .i64 b_), (6, .int .i64 i)], [(oq, ⟨1, List.map encInt data2⟩)]⟩) (fun ⟨data2, _⟩ => (data2 = e1)) ?_ ?_
    ·
     refine V.block ?_
     refine V.keep 49 [0, 7, 1, 2, 6] [0] (E0 := [(0, .sref oq 1 0 (List.length data1)), (7, .int .i64 i), (1, .int .i64 a), (2, .int .i64 b_), (6, .int .i64 i)]) (H0 := [(oq, ⟨1, List.map encInt data1⟩)]) rfl (⟨_, _, rfl, rfl, ⟨_, _, rfl, rfl, ⟨_, _, rfl, rfl, ⟨_, _, rfl, rfl, ⟨_, _, rfl, rfl, rfl⟩⟩⟩⟩⟩) (⟨_, _, rfl, rfl, rfl⟩) rfl ?_
     refine V.loopE (D := Nat × (List Int × Int) × (Unit)) (fun ⟨n1, ⟨data3, j_⟩, _⟩ => [(0, .sref oq 1 0 (List.length data3)), (7, .int .i64 j_)]) (fun ⟨n1, ⟨data3, j_⟩, _⟩ => [(oq, ⟨1, List.map encInt data3⟩)]) (fun ⟨n1, ⟨data3, j_⟩, _⟩ => loopO (M.slices_insertionSortOrdered_int_l1 a) n1 (data3, j_) = some e1) (fun ⟨n1, _, _⟩ => n1) (rounds, (data1, i), ()) rfl he2 ?_
     rintro ⟨n1, ⟨data3, j_⟩, _⟩ hP1
     obtain ⟨m1, y1, rfl, hm2, hl2, hr2⟩ := loop_head hP1
     unfold M.slices_insertionSortOrdered_int_l1 at hm2; dsimp only at hm2
     show V _ _ _ ⟨49, [(0, .sref oq 1 0 (List.length data3)), (7, .int .i64 j_), (1, .int .i64 a), (2, .int .i64 b_), (6, .int .i64 i)], [(oq, ⟨1, List.map encInt data3⟩)]⟩
     refine V.seq ?_
     refine V.seq ?_
     replace hm2 := asrt_some hm2; rcases hm2 with ⟨hh0, hm2⟩
     replace hm2 := asrt_some hm2; rcases hm2 with ⟨hh1, hm2⟩
     replace hm2 := bindO hm2; rcases hm2 with ⟨y2, hh2, hm2⟩
     refine V.regionM 49 15 [⟨[(7, none)], [], none⟩, ⟨[(1, none)], [], none⟩, ⟨[(16, some 1), (17, some 0)], [], none⟩, ⟨[(18, some 0)], [], none⟩, ⟨[(0, none)], [(0, true)], none⟩, ⟨[(7, none)], [(1, true)], none⟩, ⟨[(20, some 1), (21, some 0)], [(2, true)], none⟩, ⟨[(22, some 0)], [(3, true)], none⟩, ⟨[(0, none)], [(4, true)], none⟩, ⟨[(7, none)], [(5, true)], none⟩, ⟨[(25, some 0)], [(6, true)], none⟩, ⟨[(24, some 2), (26, some 0)], [(7, true)], none⟩, ⟨[(27, some 0)], [(8, true)], none⟩, ⟨[(23, some 5), (28, some 0)], [(9, true)], none⟩, ⟨[], [], some (true, 19, 29, 10, 0)⟩] [(0, none), (1, none), (2, none), (6, none), (7, none), (30, some 0)] (⟨_, rfl, ⟨_, rfl, ⟨_, rfl, ⟨_, rfl, ⟨_, rfl, ⟨_, rfl, ⟨_, rfl, ⟨_, rfl, ⟨_, rfl, ⟨_, rfl, ⟨_, rfl, ⟨_, rfl, ⟨_, rfl, ⟨_, rfl, ⟨_, rfl, ⟨rfl, rfl⟩⟩⟩⟩⟩⟩⟩⟩⟩⟩⟩⟩⟩⟩⟩⟩) mixed_orders rfl (by decide +kernel) (fun hck4 => ?_)
     refine VP.step (p := ?pv2549) rfl rfl rfl (⟨_, _, rfl, rfl, rfl⟩) ?hv2549 ?rest2549 hck4
     case hv2549 =>
      intro E1
      refine (V1.move rfl rfl rfl (ltb rfl) ?_)
      exact rfl
     refine VP.step (p := ?pv2550) rfl rfl rfl (⟨_, _, rfl, rfl, rfl⟩) ?hv2550 ?rest2550 hck4
     case hv2550 =>
      intro E1
      refine (V1.move rfl rfl rfl (ltb rfl) ?_)
      exact rfl
     refine VP.step (p := ?pv2551) rfl rfl rfl (⟨_, _, rfl, rfl, ⟨_, _, rfl, rfl, rfl⟩⟩) ?hv2551 ?rest2551 hck4
     case hv2551 =>
      intro E1
      refine (V1.int rfl rfl rfl rfl rfl (ltb rfl) ?_)
      exact rfl
     refine VP.step (p := ?pv2552) rfl rfl rfl (⟨_, _, rfl, rfl, rfl⟩) ?hv2552 ?rest2552 hck4
     case hv2552 =>
      intro E1
      refine (V1.move rfl rfl rfl (ltb rfl) ?_)
      exact rfl
     refine VP.step (p := ?pv2553) rfl rfl rfl (⟨_, _, rfl, rfl, rfl⟩) ?hv2553 ?rest2553 hck4
     case hv2553 =>
      refine ⟨_, rfl, fun hg0 => ?_⟩
      intro E1
      refine (V1.move rfl rfl rfl (ltb rfl) ?_)
      exact rfl
     refine VP.step (p := ?pv2554) rfl rfl rfl (⟨_, _, rfl, rfl, rfl⟩) ?hv2554 ?rest2554 hck4
     case hv2554 =>
      refine ⟨_, rfl, fun hg0 => ?_⟩
      intro E1
      refine (V1.move rfl rfl rfl (ltb rfl) ?_)
      exact rfl
     refine VP.step (p := ?pv2555) rfl rfl rfl (⟨_, _, rfl, rfl, ⟨_, _, rfl, rfl, rfl⟩⟩) ?hv2555 ?rest2555 hck4
     case hv2555 =>
      refine ⟨_, rfl, fun hg0 => ?_⟩
      intro E1
      refine (V1.indexSr rfl rfl esz_24 rfl rfl (hh0 hg0) (ltb rfl) ?_)
      exact rfl
     refine VP.step (p := ?pv2556) rfl rfl rfl (⟨_, _, rfl, rfl, rfl⟩) ?hv2556 ?rest2556 hck4
     case hv2556 =>
      refine ⟨_, rfl, fun hg0 => ?_⟩
      intro E1
      refine (V1.loadMap (k := 0) (f := encInt) rfl rfl tyk_3 rfl rfl (by simpa using natLt (hh0 hg0).1 (hh0 hg0).2) rfl (ltb rfl) ?_)
      exact rfl
     refine VP.step (p := ?pv2557) rfl rfl rfl (⟨_, _, rfl, rfl, rfl⟩) ?hv2557 ?rest2557 hck4
     case hv2557 =>
      refine ⟨_, rfl, fun hg0 => ?_⟩
      intro E1
      refine (V1.move rfl rfl rfl (ltb rfl) ?_)
      exact rfl
     refine VP.step (p := ?pv2558) rfl rfl rfl (⟨_, _, rfl, rfl, rfl⟩) ?hv2558 ?rest2558 hck4
     case hv2558 =>
      refine ⟨_, rfl, fun hg0 => ?_⟩
      intro E1
      refine (V1.move rfl rfl rfl (ltb rfl) ?_)
      exact rfl
     refine VP.step (p := ?pv2559) rfl rfl rfl (⟨_, _, rfl, rfl, rfl⟩) ?hv2559 ?rest2559 hck4
     case hv2559 =>
      refine ⟨_, rfl, fun hg0 => ?_⟩
      intro E1
      refine (V1.int rfl rfl rfl rfl rfl (ltb rfl) ?_)
      exact rfl
     refine VP.step (p := ?pv2560) rfl rfl rfl (⟨_, _, rfl, rfl, ⟨_, _, rfl, rfl, rfl⟩⟩) ?hv2560 ?rest2560 hck4
     case hv2560 =>
      refine ⟨_, rfl, fun hg0 => ?_⟩
      intro E1
      refine (V1.indexSr rfl rfl esz_24 rfl rfl (hh1 hg0) (ltb rfl) ?_)
      exact rfl
     refine VP.step (p := ?pv2561) rfl rfl rfl (⟨_, _, rfl, rfl, rfl⟩) ?hv2561 ?rest2561 hck4
     case hv2561 =>
      refine ⟨_, rfl, fun hg0 => ?_⟩
      intro E1
      refine (V1.loadMap (k := 0) (f := encInt) rfl rfl tyk_3 rfl rfl (by simpa using natLt (hh1 hg0).1 (hh1 hg0).2) rfl (ltb rfl) ?_)
      exact rfl
     refine VP.step (p := ?pv2562) rfl rfl rfl (⟨_, _, rfl, rfl, ⟨_, _, rfl, rfl, rfl⟩⟩) ?hv2562 ?rest2562 hck4
     case hv2562 =>
      refine ⟨_, rfl, fun hg0 => ?_⟩
      intro E1
      refine (V1.call rfl rfl rfl cok_158 rfl (ok_cmp_Less_int (cond_t hg0 hh2)) rfl (ltb rfl) ?_)
      rintro _ _ ⟨rfl, rfl⟩
      exact rfl
     refine VP.pickAnd rfl rfl rfl rfl rfl rfl (trivial) ?_ hck4
     refine VP.fin rfl (⟨_, _, rfl, rfl, ⟨_, _, rfl, rfl, ⟨_, _, rfl, rfl, ⟨_, _, rfl, rfl, ⟨_, _, rfl, rfl, ⟨_, _, rfl, rfl, rfl⟩⟩⟩⟩⟩⟩) ?_
     refine VO.nil ?_
     refine V.cond rfl (fun hc1 => ?_) (fun hc1 => ?_)
     ·
      replace hm2 := cond_t hc1 hm2
      refine V.skip ?_
      refine V.seq ?_
      refine V.block ?_
      replace hm2 := asrt_some hm2; rcases hm2 with ⟨hh3, hm2⟩
      replace hm2 := asrt_some hm2; rcases hm2 with ⟨hh4, hm2⟩
      replace hm2 := asrt_some hm2; rcases hm2 with ⟨hh5, hm2⟩
      replace hm2 := asrt_some hm2; rcases hm2 with ⟨hh6, hm2⟩
      replace hm2 := bindO hm2; rcases hm2 with ⟨j0, hm3, hm2⟩
      refine V.cutT (D := (List Int) × (Unit)) (fun ⟨data4, _⟩ => ⟨49, [(0, .sref oq 1 0 (List.length data4)), (1, .int .i64 a), (2, .int .i64 b_), (6, .int .i64 i), (7, .int .i64 j_)], [(oq, ⟨1, List.map encInt data4⟩)]⟩) (fun ⟨data4, _⟩ => (data4 = j0)) ?_ ?_
      ·
       refine V.regionS [] 49 16 [⟨[(0, none)], false⟩, ⟨[(7, none)], false⟩, ⟨[(0, none)], false⟩, ⟨[(7, none)], false⟩, ⟨[(36, some 3)], false⟩, ⟨[(0, none)], false⟩, ⟨[(7, none)], false⟩, ⟨[(39, some 6)], false⟩, ⟨[(38, some 5), (40, some 7)], false⟩, ⟨[(41, some 8)], true⟩, ⟨[(0, none)], false⟩, ⟨[(7, none)], false⟩, ⟨[(43, some 10), (44, some 11)], false⟩, ⟨[(45, some 12)], true⟩, ⟨[(33, some 0), (34, some 1)], false⟩, ⟨[(42, some 9), (47, some 14)], true⟩] [(0, none), (1, none), (2, none), (6, none), (7, none), (35, some 2), (37, some 4), (46, some 13)] 3 (⟨_, rfl, ⟨_, rfl, ⟨_, rfl, ⟨_, rfl, ⟨_, rfl, ⟨_, rfl, ⟨_, rfl, ⟨_, rfl, ⟨_, rfl, ⟨_, rfl, ⟨_, rfl, ⟨_, rfl, ⟨_, rfl, ⟨_, rfl, ⟨_, rfl, ⟨_, rfl, ⟨rfl, rfl⟩⟩⟩⟩⟩⟩⟩⟩⟩⟩⟩⟩⟩⟩⟩⟩⟩) mixed_orders rfl (by decide +kernel) ?_
       refine WalkP.step (p := ?pv2577) 0 rfl rfl rfl rfl rfl (⟨_, _, rfl, rfl, rfl⟩) ?hv2577 ?rest2577
       case hv2577 =>
        intro E1 H1 hI1
        refine (V1.move rfl rfl rfl (ltb rfl) ?_)
        exact rfl
       refine WalkP.step (p := ?pv2578) 1 rfl rfl rfl rfl rfl (⟨_, _, rfl, rfl, rfl⟩) ?hv2578 ?rest2578
       case hv2578 =>
        intro E1 H1 hI1
        refine (V1.move rfl rfl rfl (ltb rfl) ?_)
        exact rfl
       refine WalkP.step (p := ?pv2579) 2 rfl rfl rfl rfl rfl (⟨_, _, rfl, rfl, rfl⟩) ?hv2579 ?rest2579
       case hv2579 =>
        intro E1 H1 hI1
        refine (V1.move rfl rfl rfl (ltb rfl) ?_)
        exact rfl
       refine WalkP.step (p := ?pv2580) 3 rfl rfl rfl rfl rfl (⟨_, _, rfl, rfl, rfl⟩) ?hv2580 ?rest2580
       case hv2580 =>
        intro E1 H1 hI1
        refine (V1.move rfl rfl rfl (ltb rfl) ?_)
        exact rfl
       refine WalkP.step (p := ?pv2581) 4 rfl rfl rfl rfl rfl (⟨_, _, rfl, rfl, rfl⟩) ?hv2581 ?rest2581
       case hv2581 =>
        intro E1 H1 hI1
        refine (V1.int rfl rfl rfl rfl rfl (ltb rfl) ?_)
        exact rfl
       refine WalkP.step (p := ?pv2582) 5 rfl rfl rfl rfl rfl (⟨_, _, rfl, rfl, rfl⟩) ?hv2582 ?rest2582
       case hv2582 =>
        intro E1 H1 hI1
        refine (V1.move rfl rfl rfl (ltb rfl) ?_)
        exact rfl
       refine WalkP.step (p := ?pv2583) 6 rfl rfl rfl rfl rfl (⟨_, _, rfl, rfl, rfl⟩) ?hv2583 ?rest2583
       case hv2583 =>
        intro E1 H1 hI1
        refine (V1.move rfl rfl rfl (ltb rfl) ?_)
        exact rfl
       refine WalkP.step (p := ?pv2584) 7 rfl rfl rfl rfl rfl (⟨_, _, rfl, rfl, rfl⟩) ?hv2584 ?rest2584
       case hv2584 =>
        intro E1 H1 hI1
        refine (V1.int rfl rfl rfl rfl rfl (ltb rfl) ?_)
        exact rfl
       refine WalkP.step (p := ?pv2585) 8 rfl rfl rfl rfl rfl (⟨_, _, rfl, rfl, ⟨_, _, rfl, rfl, rfl⟩⟩) ?hv2585 ?rest2585
       case hv2585 =>
        intro E1 H1 hI1
        refine (V1.indexSr rfl rfl esz_24 rfl rfl hh3 (ltb rfl) ?_)
        exact rfl
       refine WalkP.step (p := ?pv2586) 10 rfl rfl rfl rfl rfl (⟨_, _, rfl, rfl, rfl⟩) ?hv2586 ?rest2586
       case hv2586 =>
        intro E1 H1 hI1
        refine (V1.move rfl rfl rfl (ltb rfl) ?_)
        exact rfl
       refine WalkP.step (p := ?pv2587) 11 rfl rfl rfl rfl rfl (⟨_, _, rfl, rfl, rfl⟩) ?hv2587 ?rest2587
       case hv2587 =>
        intro E1 H1 hI1
        refine (V1.move rfl rfl rfl (ltb rfl) ?_)
        exact rfl
       refine WalkP.step (p := ?pv2588) 12 rfl rfl rfl rfl rfl (⟨_, _, rfl, rfl, ⟨_, _, rfl, rfl, rfl⟩⟩) ?hv2588 ?rest2588
       case hv2588 =>
        intro E1 H1 hI1
        refine (V1.indexSr rfl rfl esz_24 rfl rfl hh4 (ltb rfl) ?_)
        exact rfl
       refine WalkP.nil ?_
       refine NodeS.branch [9, 13] inNil rfl rfl rfl ⟨?_, ?_, trivial⟩
       ·
        refine ⟨_, _, _, _, rfl, rfl, rfl, (⟨_, _, rfl, rfl, rfl⟩), fun E1 => ?_⟩
        refine (V1.loadMap (k := 0) (f := encInt) rfl rfl tyk_3 rfl rfl (by simpa using natLt hh3.1 hh3.2) rfl (ltb rfl) ?_)
        refine ⟨_, _, rfl, ?_⟩
        refine WalkP.nil ?_
        refine NodeS.branch [13] inNil rfl rfl rfl ⟨?_, trivial⟩
        ·
         refine ⟨_, _, _, _, rfl, rfl, rfl, (⟨_, _, rfl, rfl, rfl⟩), fun E1 => ?_⟩
         refine (V1.loadMap (k := 0) (f := encInt) rfl rfl tyk_3 rfl rfl (by simpa using natLt hh4.1 hh4.2) rfl (ltb rfl) ?_)
         refine ⟨_, _, rfl, ?_⟩
         refine WalkP.step (p := ?pv2589) 14 rfl rfl rfl rfl rfl (⟨_, _, rfl, rfl, ⟨_, _, rfl, rfl, rfl⟩⟩) ?hv2589 ?rest2589
         case hv2589 =>
          intro E1 H1 hI1
          refine (V1.indexSr rfl rfl esz_24 rfl rfl hh5 (ltb rfl) ?_)
          exact rfl
         refine WalkP.nil ?_
         refine NodeS.branch [15] inNil rfl rfl rfl ⟨?_, trivial⟩
         ·
          refine ⟨_, _, _, _, rfl, rfl, rfl, (⟨_, _, rfl, rfl, ⟨_, _, rfl, rfl, rfl⟩⟩), fun E1 => ?_⟩
          refine (V1.storeMap (k := 0) (f := encInt) (x := (data3.getD (Int.toNat (IntKind.i64.wrap (j_ - (1 : Int)))) default)) rfl rfl tyk_3 rfl rfl (by simpa using natLt hh5.1 hh5.2) rfl rfl ?_)
          refine ⟨.undef, _, rfl, ?_⟩
          refine WalkP.nil ?_
          refine NodeS.fin inNil rfl rfl rfl (⟨_, _, rfl, rfl, ⟨_, _, rfl, rfl, ⟨_, _, rfl, rfl, ⟨_, _, rfl, rfl, ⟨_, _, rfl, rfl, ⟨_, _, rfl, rfl, ⟨_, _, rfl, rfl, ⟨_, _, rfl, rfl, rfl⟩⟩⟩⟩⟩⟩⟩⟩) ?_
          refine VO.weakenK (Keeps.say 0 (y := .sref oq 1 0 (List.length (data3.set (Int.toNat j_) (data3.getD (Int.toNat (IntKind.i64.wrap (j_ - (1 : Int)))) default)))) rfl (by simp [optS])) ?_
          refine VO.weakenK (Keeps.say 35 (y := .sref oq 1 0 (List.length (data3.set (Int.toNat j_) (data3.getD (Int.toNat (IntKind.i64.wrap (j_ - (1 : Int)))) default)))) rfl (by simp [optS])) ?_
          refine VO.cons rfl (V1.indexSr rfl rfl esz_24 rfl rfl hh6 (ltb rfl) ?_)
          refine VO.cons rfl (V1.storeMap (k := 0) (f := encInt) (x := (data3.getD (Int.toNat j_) default)) rfl rfl tyk_3 rfl rfl (by simpa using natLt hh6.1 hh6.2) rfl rfl ?_)
          refine VO.weakenK (Keeps.say 0 (y := .sref oq 1 0 (List.length ((data3.set (Int.toNat j_) (data3.getD (Int.toNat (IntKind.i64.wrap (j_ - (1 : Int)))) default)).set (Int.toNat (IntKind.i64.wrap (j_ - (1 : Int)))) (data3.getD (Int.toNat j_) default)))) rfl (by simp [optS])) ?_
          refine VO.nil ?_
          exact ⟨(((data3.set (Int.toNat j_) (data3.getD (Int.toNat (IntKind.i64.wrap (j_ - (1 : Int)))) default)).set (Int.toNat (IntKind.i64.wrap (j_ - (1 : Int)))) (data3.getD (Int.toNat j_) default)), ()), Option.some.inj hm3, Keeps.mk (ks := [0]) rfl ⟨(someSref (by simp)), rfl, rfl, rfl, rfl, trivial⟩ (⟨_, _, rfl, rfl, rfl⟩) rfl⟩
       ·
        refine ⟨_, _, _, _, rfl, rfl, rfl, (⟨_, _, rfl, rfl, rfl⟩), fun E1 => ?_⟩
        refine (V1.loadMap (k := 0) (f := encInt) rfl rfl tyk_3 rfl rfl (by simpa using natLt hh4.1 hh4.2) rfl (ltb rfl) ?_)
        refine ⟨_, _, rfl, ?_⟩
        refine WalkP.nil ?_
        refine NodeS.branch [9] inNil rfl rfl rfl ⟨?_, trivial⟩
        ·
         refine ⟨_, _, _, _, rfl, rfl, rfl, (⟨_, _, rfl, rfl, rfl⟩), fun E1 => ?_⟩
         refine (V1.loadMap (k := 0) (f := encInt) rfl rfl tyk_3 rfl rfl (by simpa using natLt hh3.1 hh3.2) rfl (ltb rfl) ?_)
         refine ⟨_, _, rfl, ?_⟩
         refine WalkP.step (p := ?pv2590) 14 rfl rfl rfl rfl rfl (⟨_, _, rfl, rfl, ⟨_, _, rfl, rfl, rfl⟩⟩) ?hv2590 ?rest2590
         case hv2590 =>
          intro E1 H1 hI1
          refine (V1.indexSr rfl rfl esz_24 rfl rfl hh5 (ltb rfl) ?_)
          exact rfl
         refine WalkP.nil ?_
         refine NodeS.branch [15] inNil rfl rfl rfl ⟨?_, trivial⟩
         ·
          refine ⟨_, _, _, _, rfl, rfl, rfl, (⟨_, _, rfl, rfl, ⟨_, _, rfl, rfl, rfl⟩⟩), fun E1 => ?_⟩
          refine (V1.storeMap (k := 0) (f := encInt) (x := (data3.getD (Int.toNat (IntKind.i64.wrap (j_ - (1 : Int)))) default)) rfl rfl tyk_3 rfl rfl (by simpa using natLt hh5.1 hh5.2) rfl rfl ?_)
          refine ⟨.undef, _, rfl, ?_⟩
          refine WalkP.nil ?_
          refine NodeS.fin inNil rfl rfl rfl (⟨_, _, rfl, rfl, ⟨_, _, rfl, rfl, ⟨_, _, rfl, rfl, ⟨_, _, rfl, rfl, ⟨_, _, rfl, rfl, ⟨_, _, rfl, rfl, ⟨_, _, rfl, rfl, ⟨_, _, rfl, rfl, rfl⟩⟩⟩⟩⟩⟩⟩⟩) ?_
          refine VO.weakenK (Keeps.say 0 (y := .sref oq 1 0 (List.length (data3.set (Int.toNat j_) (data3.getD (Int.toNat (IntKind.i64.wrap (j_ - (1 : Int)))) default)))) rfl (by simp [optS])) ?_
          refine VO.weakenK (Keeps.say 35 (y := .sref oq 1 0 (List.length (data3.set (Int.toNat j_) (data3.getD (Int.toNat (IntKind.i64.wrap (j_ - (1 : Int)))) default)))) rfl (by simp [optS])) ?_
          refine VO.cons rfl (V1.indexSr rfl rfl esz_24 rfl rfl hh6 (ltb rfl) ?_)
          refine VO.cons rfl (V1.storeMap (k := 0) (f := encInt) (x := (data3.getD (Int.toNat j_) default)) rfl rfl tyk_3 rfl rfl (by simpa using natLt hh6.1 hh6.2) rfl rfl ?_)
          refine VO.weakenK (Keeps.say 0 (y := .sref oq 1 0 (List.length ((data3.set (Int.toNat j_) (data3.getD (Int.toNat (IntKind.i64.wrap (j_ - (1 : Int)))) default)).set (Int.toNat (IntKind.i64.wrap (j_ - (1 : Int)))) (data3.getD (Int.toNat j_) default)))) rfl (by simp [optS])) ?_
          refine VO.nil ?_
          exact ⟨(((data3.set (Int.toNat j_) (data3.getD (Int.toNat (IntKind.i64.wrap (j_ - (1 : Int)))) default)).set (Int.toNat (IntKind.i64.wrap (j_ - (1 : Int)))) (data3.getD (Int.toNat j_) default)), ()), Option.some.inj hm3, Keeps.mk (ks := [0]) rfl ⟨(someSref (by simp)), rfl, rfl, rfl, rfl, trivial⟩ (⟨_, _, rfl, rfl, rfl⟩) rfl⟩
      ·
       rintro ⟨data4, _⟩ rfl
       try dsimp only at hm2
       refine V.region ?_
       refine VO.cons rfl (V1.move rfl rfl rfl (ltb rfl) ?_)
       refine VO.cons rfl (V1.int rfl rfl rfl rfl rfl (ltb rfl) ?_)
       refine VO.cons rfl (V1.assign rfl rfl rfl (ltb rfl) ?_)
       refine VO.nil ?_
       exact ⟨(m1, (data4, (IntKind.i64.wrap (j_ - (1 : Int)))), ()), hl2 _ (Option.some.inj hm2).symm, Nat.lt_succ_self _, Keeps.mk (ks := [0]) rfl ⟨(someSref (by simp)), rfl, rfl, rfl, rfl, trivial⟩ (⟨_, _, rfl, rfl, rfl⟩) rfl⟩
     ·
      replace hm2 := cond_f hc1 hm2
      refine V.exit ?_
      obtain rfl := hr2 _ (Option.some.inj hm2).symm
      exact ⟨(data3, ()), rfl, Keeps.mk (ks := [0]) rfl ⟨(someSref (by simp)), rfl, rfl, rfl, trivial⟩ (⟨_, _, rfl, rfl, rfl⟩) rfl⟩
    ·
     rintro ⟨data2, _⟩ rfl
     try dsimp only at hm1
     refine V.region ?_
     refine VO.cons rfl (V1.move rfl rfl rfl (ltb rfl) ?_)
     refine VO.cons rfl (V1.int rfl rfl rfl rfl rfl (ltb rfl) ?_)
     refine VO.cons rfl (V1.assign rfl rfl rfl (ltb rfl) ?_)
     refine VO.nil ?_
     exact ⟨(m0, (data2, (IntKind.i64.wrap (i + (1 : Int)))), ()), hl1 _ (Option.some.inj hm1).symm, Nat.lt_succ_self _, Keeps.mk (ks := [0]) rfl ⟨(someSref (by simp)), rfl, rfl, rfl, trivial⟩ (⟨_, _, rfl, rfl, rfl⟩) rfl⟩
   ·
    replace hm1 := cond_f hc0 hm1
    refine V.exit ?_
    obtain rfl := hr1 _ (Option.some.inj hm1).symm
    exact ⟨(data1, ()), rfl, Keeps.mk (ks := [0]) rfl ⟨(someSref (by simp)), trivial⟩ (⟨_, _, rfl, rfl, rfl⟩) rfl⟩
  ·
   rintro ⟨data0, _⟩ rfl
   try dsimp only at hm0
   obtain rfl := Option.some.inj hm0
   exact ⟨_, _, rfl, (sub1 (k := 0) rfl), rfl, rfl⟩

theorem ok_slices_pdqsortOrdered_int {rn : Nat} {oq : Option Nat} {data : List Int} {a : Int} {b_ : Int} {limit : Int} {r : List Int} (h : M.slices_pdqsortOrdered_int data a b_ limit = some r) (hoq : oq = none → data = []) : Does Try.prog 148 [optS 1 oq (List.length data), .int .i64 a, .int .i64 b_, .int .i64 limit] (optH 1 oq (List.map encInt data)) rn (fun x H => x = .tup [] ∧ H = optH 1 oq (List.map encInt r)) := by
 have hm0 := h; clear h; unfold M.slices_pdqsortOrdered_int at hm0
 try dsimp only at hm0
 refine Does.intro (N := 134) Try.func148 rfl rfl rfl rfl ?_
 intro w0 S0
 rcases oq with _ | oq
 ·
  refine V.seq ?_
  refine V.region ?_
  refine VO.cons rfl (V1.assign rfl rfl rfl (ltb rfl) ?_)
  refine VO.nil ?_
  refine V.seq ?_
  refine V.region ?_
  refine VO.cons rfl (V1.assign rfl rfl rfl (ltb rfl) ?_)
  refine VO.nil ?_
  replace hm0 := bindO hm0; rcases hm0 with ⟨e0, he1, hm0⟩
  refine V.block ?_
  refine V.keep 134 [1, 2, 3, 8, 9, 0] [] (E0 := [(1, .int .i64 a), (2, .int .i64 b_), (3, .int .i64 limit), (8, .bool true), (9, .bool true), (0, .nils)]) (H0 := []) rfl (⟨_, _, rfl, rfl, ⟨_, _, rfl, rfl, ⟨_, _, rfl, rfl, ⟨_, _, rfl, rfl, ⟨_, _, rfl, rfl, ⟨_, _, rfl, rfl, rfl⟩⟩⟩⟩⟩⟩) (rfl) rfl ?_
  refine V.loopE (D := Nat × (Int × Int × Int × Bool × Bool) × (Unit)) (fun ⟨n0, ⟨a0, b_0, limit0, wasBalanced, wasPartitioned⟩, _⟩ => [(1, .int .i64 a0), (2, .int .i64 b_0), (3, .int .i64 limit0), (8, .bool wasBalanced), (9, .bool wasPartitioned)]) (fun ⟨n0, ⟨a0, b_0, limit0, wasBalanced, wasPartitioned⟩, _⟩ => []) (fun ⟨n0, ⟨a0, b_0, limit0, wasBalanced, wasPartitioned⟩, _⟩ => loopO (M.slices_pdqsortOrdered_int_l0 data) n0 (a0, b_0, limit0, wasBalanced, wasPartitioned) = some e0) (fun ⟨n0, _, _⟩ => n0) (rounds, (a, b_, limit, true, true), ()) rfl he1 ?_
  rintro ⟨n0, ⟨a0, b_0, limit0, wasBalanced, wasPartitioned⟩, _⟩ hP0
  obtain ⟨m0, y0, rfl, hm1, hl1, hr1⟩ := loop_head hP0
  unfold M.slices_pdqsortOrdered_int_l0 at hm1; dsimp only at hm1
  show V _ _ _ ⟨134, [(1, .int .i64 a0), (2, .int .i64 b_0), (3, .int .i64 limit0), (8, .bool wasBalanced), (9, .bool wasPartitioned), (0, .nils)], []⟩
  refine V.block ?_
  refine V.seq ?_
  refine V.region ?_
  refine VO.cons rfl (V1.move rfl rfl rfl (ltb rfl) ?_)
  refine VO.cons rfl (V1.move rfl rfl rfl (ltb rfl) ?_)
  refine VO.cons rfl (V1.int rfl rfl rfl rfl rfl (ltb rfl) ?_)
  refine VO.cons rfl (V1.assign rfl rfl rfl (ltb rfl) ?_)
  refine VO.nil ?_
  refine V.seq ?_
  refine V.seq ?_
  refine V.region ?_
  refine VO.cons rfl (V1.move rfl rfl rfl (ltb rfl) ?_)
  refine VO.cons rfl (V1.int rfl rfl rfl rfl rfl (ltb rfl) ?_)
  refine VO.nil ?_
  refine V.keep 134 [0, 1, 2, 3, 8, 9, 10, 23] [] (E0 := [(0, .nils), (1, .int .i64 a0), (2, .int .i64 b_0), (3, .int .i64 limit0), (8, .bool wasBalanced), (9, .bool wasPartitioned), (10, .int .i64 (IntKind.i64.wrap (b_0 - a0))), (23, .bool (decide ((IntKind.i64.wrap (b_0 - a0)) ≤ (12 : Int))))]) (H0 := []) rfl (⟨_, _, rfl, rfl, ⟨_, _, rfl, rfl, ⟨_, _, rfl, rfl, ⟨_, _, rfl, rfl, ⟨_, _, rfl, rfl, ⟨_, _, rfl, rfl, ⟨_, _, rfl, rfl, ⟨_, _, rfl, rfl, rfl⟩⟩⟩⟩⟩⟩⟩⟩) (rfl) rfl ?_
  replace hm1 := asrt_some hm1; rcases hm1 with ⟨hh0, hm1⟩
  refine V.cond rfl (fun _ => ?_) (fun hc => by rw [hh0] at hc; cases hc)
  refine V.seq ?_
  replace hm1 := bindO hm1; rcases hm1 with ⟨y1, hh1, hm1⟩
  replace hm1 := asrt_some hm1; rcases hm1 with ⟨hh2, hm1⟩
  refine V.region ?_
  refine VO.cons rfl (V1.move rfl rfl rfl (ltb rfl) ?_)
  refine VO.cons rfl (V1.move rfl rfl rfl (ltb rfl) ?_)
  refine VO.cons rfl (V1.move rfl rfl rfl (ltb rfl) ?_)
  refine VO.cons rfl (V1.call rfl rfl rfl cok_152 rfl (ok_slices_insertionSortOrdered_int hh1 (oq := none) (data := data) (fun _ => (hoq rfl))) rfl (ltb rfl) ?_)
  rintro _ _ ⟨rfl, rfl⟩
  refine VO.nil ?_
  refine V.keep 134 [] [] (E0 := []) (H0 := []) rfl (rfl) (rfl) rfl ?_
  refine V.ret ?_
  obtain rfl := hr1 _ (Option.some.inj hm1).symm
  change some _ = some _ at hm0
  obtain rfl := Option.some.inj hm0
  exact ⟨_, _, rfl, List.Sublist.refl _, rfl, rfl⟩
 ·
  refine V.seq ?_
  refine V.region ?_
  refine VO.cons rfl (V1.assign rfl rfl rfl (ltb rfl) ?_)
  refine VO.nil ?_
  refine V.seq ?_
  refine V.region ?_
  refine VO.cons rfl (V1.assign rfl rfl rfl (ltb rfl) ?_)
  refine VO.nil ?_
  replace hm0 := bindO hm0; rcases hm0 with ⟨e0, he1, hm0⟩
  refine V.block ?_
  refine V.keep 134 [1, 2, 3, 8, 9, 0] [0] (E0 := [(1, .int .i64 a), (2, .int .i64 b_), (3, .int .i64 limit), (8, .bool true), (9, .bool true), (0, .sref oq 1 0 (List.length data))]) (H0 := [(oq, ⟨1, List.map encInt data⟩)]) rfl (⟨_, _, rfl, rfl, ⟨_, _, rfl, rfl, ⟨_, _, rfl, rfl, ⟨_, _, rfl, rfl, ⟨_, _, rfl, rfl, ⟨_, _, rfl, rfl, rfl⟩⟩⟩⟩⟩⟩) (⟨_, _, rfl, rfl, rfl⟩) rfl ?_
  refine V.loopE (D := Nat × (Int × Int × Int × Bool × Bool) × (Unit)) (fun ⟨n0, ⟨a0, b_0, limit0, wasBalanced, wasPartitioned⟩, _⟩ => [(1, .int .i64 a0), (2, .int .i64 b_0), (3, .int .i64 limit0), (8, .bool wasBalanced), (9, .bool wasPartitioned)]) (fun ⟨n0, ⟨a0, b_0, limit0, wasBalanced, wasPartitioned⟩, _⟩ => []) (fun ⟨n0, ⟨a0, b_0, limit0, wasBalanced, wasPartitioned⟩, _⟩ => loopO (M.slices_pdqsortOrdered_int_l0 data) n0 (a0, b_0, limit0, wasBalanced, wasPartitioned) = some e0) (fun ⟨n0, _, _⟩ => n0) (rounds, (a, b_, limit, true, true), ()) rfl he1 ?_
  rintro ⟨n0, ⟨a0, b_0, limit0, wasBalanced, wasPartitioned⟩, _⟩ hP0
  obtain ⟨m0, y0, rfl, hm1, hl1, hr1⟩ := loop_head hP0
  unfold M.slices_pdqsortOrdered_int_l0 at hm1; dsimp only at hm1
  show V _ _ _ ⟨134, [(1, .int .i64 a0), (2, .int .i64 b_0), (3, .int .i64 limit0), (8, .bool wasBalanced), (9, .bool wasPartitioned), (0, .sref oq 1 0 (List.length data))], [(oq, ⟨1, List.map encInt data⟩)]⟩
  refine V.block ?_
  refine V.seq ?_
  refine V.region ?_
  refine VO.cons rfl (V1.move rfl rfl rfl (ltb rfl) ?_)
  refine VO.cons rfl (V1.move rfl rfl rfl (ltb rfl) ?_)
  refine VO.cons rfl (V1.int rfl rfl rfl rfl rfl (ltb rfl) ?_)
  refine VO.cons rfl (V1.assign rfl rfl rfl (ltb rfl) ?_)
  refine VO.nil ?_
  refine V.seq ?_
  refine V.seq ?_
  refine V.region ?_
  refine VO.cons rfl (V1.move rfl rfl rfl (ltb rfl) ?_)
  refine VO.cons rfl (V1.int rfl rfl rfl rfl rfl (ltb rfl) ?_)
  refine VO.nil ?_
  refine V.keep 134 [0, 1, 2, 3, 8, 9, 10, 23] [0] (E0 := [(0, .sref oq 1 0 (List.length data)), (1, .int .i64 a0), (2, .int .i64 b_0), (3, .int .i64 limit0), (8, .bool wasBalanced), (9, .bool wasPartitioned), (10, .int .i64 (IntKind.i64.wrap (b_0 - a0))), (23, .bool (decide ((IntKind.i64.wrap (b_0 - a0)) ≤ (12 : Int))))]) (H0 := [(oq, ⟨1, List.map encInt data⟩)]) rfl (⟨_, _, rfl, rfl, ⟨_, _, rfl, rfl, ⟨_, _, rfl, rfl, ⟨_, _, rfl, rfl, ⟨_, _, rfl, rfl, ⟨_, _, rfl, rfl, ⟨_, _, rfl, rfl, ⟨_, _, rfl, rfl, rfl⟩⟩⟩⟩⟩⟩⟩⟩) (⟨_, _, rfl, rfl, rfl⟩) rfl ?_
  replace hm1 := asrt_some hm1; rcases hm1 with ⟨hh0, hm1⟩
  refine V.cond rfl (fun _ => ?_) (fun hc => by rw [hh0] at hc; cases hc)
  refine V.seq ?_
  replace hm1 := bindO hm1; rcases hm1 with ⟨y1, hh1, hm1⟩
  replace hm1 := asrt_some hm1; rcases hm1 with ⟨hh2, hm1⟩
  refine V.region ?_
  refine VO.cons rfl (V1.move rfl rfl rfl (ltb rfl) ?_)
  refine VO.cons rfl (V1.move rfl rfl rfl (ltb rfl) ?_)
  refine VO.cons rfl (V1.move rfl rfl rfl (ltb rfl) ?_)
  refine VO.cons rfl (V1.callM 0 (rn + 1) [] [.sref oq 1 0 (List.length data), .int .i64 a0, .int .i64 b_0] (p := (oq, ⟨1, List.map encInt data⟩)) rfl rfl rfl cok_152 rfl rfl ⟨_, _, rfl, .same _, ⟨_, _, rfl, .same _, ⟨_, _, rfl, .same _, rfl⟩⟩⟩ bwNil (ok_slices_insertionSortOrdered_int hh1 (oq := some oq) (fun e => by cases e)) rfl (.inl rfl) (ltb rfl) ?_)
  rintro _ _ ⟨rfl, rfl⟩
  refine VO.weakenK (Keeps.say 0 (y := .sref oq 1 0 (List.length y1)) rfl (congrArg (PV.sref oq 1 0) hh2.symm)) ?_
  refine VO.nil ?_
  refine V.keep 134 [] [0] (E0 := []) (H0 := [(oq, ⟨1, List.map encInt y1⟩)]) rfl (rfl) (⟨_, _, rfl, rfl, rfl⟩) rfl ?_
  refine V.ret ?_
  obtain rfl := hr1 _ (Option.some.inj hm1).symm
  change some _ = some _ at hm0
  obtain rfl := Option.some.inj hm0
  exact ⟨_, _, rfl, List.Sublist.refl _, rfl, rfl⟩

theorem ok_slices_Sort_int_int {rn : Nat} {oq : Option Nat} {x : List Int} {r : List Int} (h : M.slices_Sort_int_int x = some r) (hoq : oq = none → x = []) : Does Try.prog 137 [optS 1 oq (List.length x)] (optH 1 oq (List.map encInt x)) rn (fun x H => x = .tup [] ∧ H = optH 1 oq (List.map encInt r)) := by
 have hm0 := h; clear h; unfold M.slices_Sort_int_int at hm0
 try dsimp only at hm0
 refine Does.intro (N := 11) Try.func137 rfl rfl rfl rfl ?_
 intro w0 S0
 rcases oq with _ | oq
 ·
  refine V.seq ?_
  refine V.region ?_
  refine VO.cons rfl (V1.move rfl rfl rfl (ltb rfl) ?_)
  refine VO.cons rfl (V1.lenNilsE (l := x) (hoq rfl) rfl rfl rfl rfl rfl rfl isl_24 (ltb rfl) ?_)
  refine VO.cons rfl (V1.assign rfl rfl rfl (ltb rfl) ?_)
  refine VO.nil ?_
  replace hm0 := bindO hm0; rcases hm0 with ⟨y0, hh0, hm0⟩
  replace hm0 := bindO hm0; rcases hm0 with ⟨y1, hh1, hm0⟩
  replace hm0 := asrt_some hm0; rcases hm0 with ⟨hh2, hm0⟩
  refine V.region ?_
  refine VO.cons rfl (V1.move rfl rfl rfl (ltb rfl) ?_)
  refine VO.cons rfl (V1.move rfl rfl rfl (ltb rfl) ?_)
  refine VO.cons rfl (V1.move rfl rfl rfl (ltb rfl) ?_)
  refine VO.cons rfl (V1.conv rfl rfl und_3 und_142 rfl (ltb rfl) ?_)
  refine VO.cons rfl (V1.call rfl rfl rfl cok_149 rfl (ok_math_bits_Len hh0) rfl (ltb rfl) ?_)
  rintro _ _ ⟨rfl, rfl⟩
  refine VO.cons rfl (V1.call rfl rfl rfl cok_148 rfl (ok_slices_pdqsortOrdered_int hh1 (oq := none) (data := x) (fun _ => (hoq rfl))) rfl (ltb rfl) ?_)
  rintro _ _ ⟨rfl, rfl⟩
  refine VO.nil ?_
  obtain rfl := Option.some.inj hm0
  exact ⟨_, [], rfl, List.nil_sublist _, rfl, rfl⟩
 ·
  refine V.seq ?_
  refine V.region ?_
  refine VO.cons rfl (V1.move rfl rfl rfl (ltb rfl) ?_)
  refine VO.cons rfl (V1.lenSref rfl rfl rfl rfl rfl rfl isl_24 (ltb rfl) ?_)
  refine VO.cons rfl (V1.assign rfl rfl rfl (ltb rfl) ?_)
  refine VO.nil ?_
  replace hm0 := bindO hm0; rcases hm0 with ⟨y0, hh0, hm0⟩
  replace hm0 := bindO hm0; rcases hm0 with ⟨y1, hh1, hm0⟩
  replace hm0 := asrt_some hm0; rcases hm0 with ⟨hh2, hm0⟩
  refine V.region ?_
  refine VO.cons rfl (V1.move rfl rfl rfl (ltb rfl) ?_)
  refine VO.cons rfl (V1.move rfl rfl rfl (ltb rfl) ?_)
  refine VO.cons rfl (V1.move rfl rfl rfl (ltb rfl) ?_)
  refine VO.cons rfl (V1.conv rfl rfl und_3 und_142 rfl (ltb rfl) ?_)
  refine VO.cons rfl (V1.call rfl rfl rfl cok_149 rfl (ok_math_bits_Len hh0) rfl (ltb rfl) ?_)
  rintro _ _ ⟨rfl, rfl⟩
  refine VO.cons rfl (V1.callM 0 (rn + 1) [] [.sref oq 1 0 (List.length x), .int .i64 (0 : Int), .int .i64 (x.length : Int), .int .i64 y0] (p := (oq, ⟨1, List.map encInt x⟩)) rfl rfl rfl cok_148 rfl rfl ⟨_, _, rfl, .same _, ⟨_, _, rfl, .same _, ⟨_, _, rfl, .same _, ⟨_, _, rfl, .same _, rfl⟩⟩⟩⟩ bwNil (ok_slices_pdqsortOrdered_int hh1 (oq := some oq) (fun e => by cases e)) rfl (.inl rfl) (ltb rfl) ?_)
  rintro _ _ ⟨rfl, rfl⟩
  refine VO.weakenK (Keeps.say 0 (y := .sref oq 1 0 (List.length y1)) rfl (congrArg (PV.sref oq 1 0) hh2.symm)) ?_
  refine VO.nil ?_
  obtain rfl := Option.some.inj hm0
  exact ⟨_, _, rfl, (sub1 (k := 0) rfl), rfl, rfl⟩

theorem ok_slices_Compact_int_int {rn : Nat} {oq : Option Nat} {s : List Int} {r : List Int} (h : M.slices_Compact_int_int s = some r) (hoq : oq = none → s = []) : Does Try.prog 138 [optS 1 oq (List.length s)] (optH 1 oq (List.map encInt s)) rn (fun x H => ∃ (ob0_ : Option Nat), (ob0_ = none → r = []) ∧ x = optS 1 ob0_ (List.length r) ∧ H = optH 1 ob0_ (List.map encInt r)) := by
 have hm0 := h; clear h; unfold M.slices_Compact_int_int at hm0
 try dsimp only at hm0
 refine Does.intro (N := 61) Try.func138 rfl rfl rfl rfl ?_
 intro w0 S0
 rcases oq with _ | oq
 ·
  refine V.seq ?_
  refine V.region ?_
  refine VO.cons rfl (V1.assign rfl rfl rfl (ltb rfl) ?_)
  refine VO.nil ?_
  refine V.seq ?_
  refine V.seq ?_
  refine V.region ?_
  refine VO.cons rfl (V1.move rfl rfl rfl (ltb rfl) ?_)
  refine VO.cons rfl (V1.lenNilsE (l := s) (hoq rfl) rfl rfl rfl rfl rfl rfl isl_24 (ltb rfl) ?_)
  refine VO.cons rfl (V1.int rfl rfl rfl rfl rfl (ltb rfl) ?_)
  refine VO.nil ?_
  refine V.cond rfl (fun hc0 => ?_) (fun hc0 => ?_)
  ·
   replace hm0 := cond_t hc0 hm0
   refine V.seq ?_
   refine V.region ?_
   refine VO.cons rfl (V1.move rfl rfl rfl (ltb rfl) ?_)
   refine VO.cons rfl (V1.assign rfl rfl rfl (ltb rfl) ?_)
   refine VO.nil ?_
   refine V.keep 61 [2] [] (E0 := [(2, .nils)]) (H0 := []) rfl (⟨_, _, rfl, rfl, rfl⟩) (rfl) rfl ?_
   refine V.ret ?_
   obtain rfl := Option.some.inj hm0
   exact ⟨_, _, ⟨_, _, rfl, rfl, rfl⟩, List.Sublist.refl _, none, (fun _ => (hoq rfl)), rfl, rfl⟩
  ·
   replace hm0 := cond_f hc0 hm0
   exfalso
   obtain rfl := hoq rfl; simp at hc0
 ·
  refine V.seq ?_
  refine V.region ?_
  refine VO.cons rfl (V1.assign rfl rfl rfl (ltb rfl) ?_)
  refine VO.nil ?_
  refine V.seq ?_
  refine V.seq ?_
  refine V.region ?_
  refine VO.cons rfl (V1.move rfl rfl rfl (ltb rfl) ?_)
  refine VO.cons rfl (V1.lenSref rfl rfl rfl rfl rfl rfl isl_24 (ltb rfl) ?_)
  refine VO.cons rfl (V1.int rfl rfl rfl rfl rfl (ltb rfl) ?_)
  refine VO.nil ?_
  refine V.cond rfl (fun hc0 => ?_) (fun hc0 => ?_)
  ·
   replace hm0 := cond_t hc0 hm0
   refine V.seq ?_
   refine V.region ?_
   refine VO.cons rfl (V1.move rfl rfl rfl (ltb rfl) ?_)
   refine VO.cons rfl (V1.assign rfl rfl rfl (ltb rfl) ?_)
   refine VO.nil ?_
   refine V.keep 61 [2] [0] (E0 := [(2, .sref oq 1 0 (List.length s))]) (H0 := [(oq, ⟨1, List.map encInt s⟩)]) rfl (⟨_, _, rfl, rfl, rfl⟩) (⟨_, _, rfl, rfl, rfl⟩) rfl ?_
   refine V.ret ?_
   obtain rfl := Option.some.inj hm0
   exact ⟨_, _, ⟨_, _, rfl, rfl, rfl⟩, List.Sublist.refl _, some oq, (fun e => by cases e), rfl, rfl⟩
  ·
   replace hm0 := cond_f hc0 hm0
   refine V.skip ?_
   refine V.keep 61 [0] [0] (E0 := [(0, .sref oq 1 0 (List.length s))]) (H0 := [(oq, ⟨1, List.map encInt s⟩)]) rfl (⟨_, _, rfl, rfl, rfl⟩) (⟨_, _, rfl, rfl, rfl⟩) rfl ?_
   refine V.seq ?_
   refine V.seq ?_
   refine V.region ?_
   refine VO.cons rfl (V1.assign rfl rfl rfl (ltb rfl) ?_)
   refine VO.nil ?_
   replace hm0 := bindO hm0; rcases hm0 with ⟨e0, he1, hm0⟩
   refine V.cutT (D := (Unit) × (Unit)) (fun ⟨_, _⟩ => ⟨61, [(0, .sref oq 1 0 (List.length s))], [(oq, ⟨1, List.map encInt s⟩)]⟩) (fun ⟨_, _⟩ => (.inl () = e0)) ?_ ?_
   ·
    refine V.block ?_
    refine V.keep 61 [3, 0] [0] (E0 := [(3, .int .i64 (1 : Int)), (0, .sref oq 1 0 (List.length s))]) (H0 := [(oq, ⟨1, List.map encInt s⟩)]) rfl (⟨_, _, rfl, rfl, ⟨_, _, rfl, rfl, rfl⟩⟩) (⟨_, _, rfl, rfl, rfl⟩) rfl ?_
    refine V.loopE (D := Nat × (Int) × (Unit)) (fun ⟨n0, k, _⟩ => [(3, .int .i64 k)]) (fun ⟨n0, k, _⟩ => []) (fun ⟨n0, k, _⟩ => loopO (M.slices_Compact_int_int_l0 s) n0 k = some e0) (fun ⟨n0, _, _⟩ => n0) (rounds, (1 : Int), ()) rfl he1 ?_
    rintro ⟨n0, k, _⟩ hP0
    obtain ⟨m0, y0, rfl, hm1, hl1, hr1⟩ := loop_head hP0
    unfold M.slices_Compact_int_int_l0 at hm1; dsimp only at hm1
    show V _ _ _ ⟨61, [(3, .int .i64 k), (0, .sref oq 1 0 (List.length s))], [(oq, ⟨1, List.map encInt s⟩)]⟩
    refine V.seq ?_
    refine V.seq ?_
    refine V.region ?_
    refine VO.cons rfl (V1.move rfl rfl rfl (ltb rfl) ?_)
    refine VO.cons rfl (V1.move rfl rfl rfl (ltb rfl) ?_)
    refine VO.cons rfl (V1.lenSref rfl rfl rfl rfl rfl rfl isl_24 (ltb rfl) ?_)
    refine VO.cons rfl (V1.int rfl rfl rfl rfl rfl (ltb rfl) ?_)
    refine VO.nil ?_
    refine V.cond rfl (fun hc1 => ?_) (fun hc1 => ?_)
    ·
     replace hm1 := cond_t hc1 hm1
     refine V.skip ?_
     refine V.keep 61 [0, 3] [0] (E0 := [(0, .sref oq 1 0 (List.length s)), (3, .int .i64 k)]) (H0 := [(oq, ⟨1, List.map encInt s⟩)]) rfl (⟨_, _, rfl, rfl, ⟨_, _, rfl, rfl, rfl⟩⟩) (⟨_, _, rfl, rfl, rfl⟩) rfl ?_
     refine V.seq ?_
     refine V.block ?_
     refine V.seq ?_
     replace hm1 := asrt_some hm1; rcases hm1 with ⟨hh0, hm1⟩
     replace hm1 := asrt_some hm1; rcases hm1 with ⟨hh1, hm1⟩
     refine V.regionM 61 9 [⟨[(0, none)], [], none⟩, ⟨[(3, none)], [], none⟩, ⟨[(16, some 1), (17, some 0)], [], none⟩, ⟨[(18, some 0)], [], none⟩, ⟨[(0, none)], [], none⟩, ⟨[(3, none)], [], none⟩, ⟨[(21, some 0)], [], none⟩, ⟨[(20, some 2), (22, some 0)], [], none⟩, ⟨[(23, some 0)], [], none⟩] [(0, none), (3, none), (19, some 5), (24, some 0)] (⟨_, rfl, ⟨_, rfl, ⟨_, rfl, ⟨_, rfl, ⟨_, rfl, ⟨_, rfl, ⟨_, rfl, ⟨_, rfl, ⟨_, rfl, ⟨rfl, rfl⟩⟩⟩⟩⟩⟩⟩⟩⟩⟩) mixed_orders rfl (by decide +kernel) (fun hck6 => ?_)
     refine VP.step (p := ?pv649) rfl rfl rfl (⟨_, _, rfl, rfl, rfl⟩) ?hv649 ?rest649 hck6
     case hv649 =>
      intro E1
      refine (V1.move rfl rfl rfl (ltb rfl) ?_)
      exact rfl
     refine VP.step (p := ?pv650) rfl rfl rfl (⟨_, _, rfl, rfl, rfl⟩) ?hv650 ?rest650 hck6
     case hv650 =>
      intro E1
      refine (V1.move rfl rfl rfl (ltb rfl) ?_)
      exact rfl
     refine VP.step (p := ?pv651) rfl rfl rfl (⟨_, _, rfl, rfl, ⟨_, _, rfl, rfl, rfl⟩⟩) ?hv651 ?rest651 hck6
     case hv651 =>
      intro E1
      refine (V1.indexSr rfl rfl esz_24 rfl rfl hh0 (ltb rfl) ?_)
      exact rfl
     refine VP.step (p := ?pv652) rfl rfl rfl (⟨_, _, rfl, rfl, rfl⟩) ?hv652 ?rest652 hck6
     case hv652 =>
      intro E1
      refine (V1.loadMap (k := 0) (f := encInt) rfl rfl tyk_3 rfl rfl (by simpa using natLt hh0.1 hh0.2) rfl (ltb rfl) ?_)
      exact rfl
     refine VP.step (p := ?pv653) rfl rfl rfl (⟨_, _, rfl, rfl, rfl⟩) ?hv653 ?rest653 hck6
     case hv653 =>
      intro E1
      refine (V1.move rfl rfl rfl (ltb rfl) ?_)
      exact rfl
     refine VP.step (p := ?pv654) rfl rfl rfl (⟨_, _, rfl, rfl, rfl⟩) ?hv654 ?rest654 hck6
     case hv654 =>
      intro E1
      refine (V1.move rfl rfl rfl (ltb rfl) ?_)
      exact rfl
     refine VP.step (p := ?pv655) rfl rfl rfl (⟨_, _, rfl, rfl, rfl⟩) ?hv655 ?rest655 hck6
     case hv655 =>
      intro E1
      refine (V1.int rfl rfl rfl rfl rfl (ltb rfl) ?_)
      exact rfl
     refine VP.step (p := ?pv656) rfl rfl rfl (⟨_, _, rfl, rfl, ⟨_, _, rfl, rfl, rfl⟩⟩) ?hv656 ?rest656 hck6
     case hv656 =>
      intro E1
      refine (V1.indexSr rfl rfl esz_24 rfl rfl hh1 (ltb rfl) ?_)
      exact rfl
     refine VP.step (p := ?pv657) rfl rfl rfl (⟨_, _, rfl, rfl, rfl⟩) ?hv657 ?rest657 hck6
     case hv657 =>
      intro E1
      refine (V1.loadMap (k := 0) (f := encInt) rfl rfl tyk_3 rfl rfl (by simpa using natLt hh1.1 hh1.2) rfl (ltb rfl) ?_)
      exact rfl
     refine VP.fin rfl (⟨_, _, rfl, rfl, ⟨_, _, rfl, rfl, ⟨_, _, rfl, rfl, ⟨_, _, rfl, rfl, rfl⟩⟩⟩⟩) ?_
     refine VO.cons rfl (V1.int rfl rfl rfl rfl rfl (ltb rfl) ?_)
     refine VO.nil ?_
     refine V.cond rfl (fun hc2 => ?_) (fun hc2 => ?_)
     ·
      replace hm1 := cond_t hc2 hm1
      refine V.seq ?_
      replace hm1 := asrt_some hm1; rcases hm1 with ⟨hh2, hm1⟩
      refine V.region ?_
      refine VO.cons rfl (V1.move rfl rfl rfl (ltb rfl) ?_)
      refine VO.cons rfl (V1.move rfl rfl rfl (ltb rfl) ?_)
      refine VO.cons rfl (V1.sliceSw (a := k) (c := (((List.length s) : Nat) : Int)) rfl rfl esz_24 rfl (Bnd.some rfl hh2.1 _) (Bnd.none _ _) hh2 (ltb rfl) ?_)
      refine VO.cons rfl (V1.assign rfl rfl rfl (ltb rfl) ?_)
      refine VO.nil ?_
      refine V.keep 61 [0, 3, 4] [0] (E0 := [(0, .sref oq 1 0 (List.length s)), (3, .int .i64 k), (4, .sref oq 1 (0 + Int.toNat k) (Int.toNat (((List.length s) : Nat) : Int) - Int.toNat k))]) (H0 := [(oq, ⟨1, List.map encInt s⟩)]) rfl (⟨_, _, rfl, rfl, ⟨_, _, rfl, rfl, ⟨_, _, rfl, rfl, rfl⟩⟩⟩) (⟨_, _, rfl, rfl, rfl⟩) rfl ?_
      refine V.seq ?_
      refine V.seq ?_
      refine V.region ?_
      refine VO.cons rfl (V1.assign rfl rfl rfl (ltb rfl) ?_)
      refine VO.nil ?_
      replace hm1 := bindO hm1; rcases hm1 with ⟨e1, he2, hm1⟩
      refine V.cutT (D := (List Int × Int) × (Unit)) (fun ⟨⟨s0, k0⟩, _⟩ => ⟨61, [(0, .sref oq 1 0 (List.length s0)), (3, .int .i64 k0)], [(oq, ⟨1, List.map encInt s0⟩)]⟩) (fun ⟨⟨s0, k0⟩, _⟩ => ((s0, k0) = e1)) ?_ ?_
      ·
       refine V.block ?_
       refine V.keep 61 [0, 3, 5, 4] [0] (E0 := [(0, .sref oq 1 0 (List.length s)), (3, .int .i64 k), (5, .int .i64 (1 : Int)), (4, .sref oq 1 (0 + Int.toNat k) (Int.toNat (((List.length s) : Nat) : Int) - Int.toNat k))]) (H0 := [(oq, ⟨1, List.map encInt s⟩)]) rfl (⟨_, _, rfl, rfl, ⟨_, _, rfl, rfl, ⟨_, _, rfl, rfl, ⟨_, _, rfl, rfl, rfl⟩⟩⟩⟩) (⟨_, _, rfl, rfl, rfl⟩) rfl ?_
       refine V.loopE (D := Nat × (List Int × Int × Int) × (Unit)) (fun ⟨n1, ⟨s1, k1, k2⟩, _⟩ => [(0, .sref oq 1 0 (List.length s1)), (3, .int .i64 k1), (5, .int .i64 k2)]) (fun ⟨n1, ⟨s1, k1, k2⟩, _⟩ => [(oq, ⟨1, List.map encInt s1⟩)]) (fun ⟨n1, ⟨s1, k1, k2⟩, _⟩ => loopO (M.slices_Compact_int_int_l1 s k) n1 (s1, k1, k2) = some e1) (fun ⟨n1, _, _⟩ => n1) (rounds, (s, k, (1 : Int)), ()) rfl he2 ?_
       rintro ⟨n1, ⟨s1, k1, k2⟩, _⟩ hP1
       obtain ⟨m1, y1, rfl, hm2, hl2, hr2⟩ := loop_head hP1
       unfold M.slices_Compact_int_int_l1 at hm2; dsimp only at hm2
       show V _ _ _ ⟨61, [(0, .sref oq 1 0 (List.length s1)), (3, .int .i64 k1), (5, .int .i64 k2), (4, .sref oq 1 (0 + Int.toNat k) (Int.toNat (((List.length s) : Nat) : Int) - Int.toNat k))], [(oq, ⟨1, List.map encInt s1⟩)]⟩
       refine V.seq ?_
       refine V.seq ?_
       refine V.region ?_
       refine VO.cons rfl (V1.move rfl rfl rfl (ltb rfl) ?_)
       refine VO.cons rfl (V1.move rfl rfl rfl (ltb rfl) ?_)
       refine VO.cons rfl (V1.lenSref rfl rfl rfl rfl rfl rfl isl_24 (ltb rfl) ?_)
       refine VO.cons rfl (V1.int rfl rfl rfl rfl rfl (ltb rfl) ?_)
       refine VO.nil ?_
       refine V.cond rfl (fun hc3 => ?_) (fun hc3 => ?_)
       ·
        replace hm2 := cond_t hc3 hm2
        refine V.skip ?_
        refine V.keep 61 [0, 3, 4, 5] [0] (E0 := [(0, .sref oq 1 0 (List.length s1)), (3, .int .i64 k1), (4, .sref oq 1 (0 + Int.toNat k) (Int.toNat (((List.length s) : Nat) : Int) - Int.toNat k)), (5, .int .i64 k2)]) (H0 := [(oq, ⟨1, List.map encInt s1⟩)]) rfl (⟨_, _, rfl, rfl, ⟨_, _, rfl, rfl, ⟨_, _, rfl, rfl, ⟨_, _, rfl, rfl, rfl⟩⟩⟩⟩) (⟨_, _, rfl, rfl, rfl⟩) rfl ?_
        refine V.seq ?_
        replace hm2 := bindO hm2; rcases hm2 with ⟨j0, hm3, hm2⟩
        refine V.cutT (D := (List Int × Int) × (Unit)) (fun ⟨⟨s2, k3⟩, _⟩ => ⟨61, [(0, .sref oq 1 0 (List.length s2)), (3, .int .i64 k3), (4, .sref oq 1 (0 + Int.toNat k) (Int.toNat (((List.length s) : Nat) : Int) - Int.toNat k)), (5, .int .i64 k2)], [(oq, ⟨1, List.map encInt s2⟩)]⟩) (fun ⟨⟨s2, k3⟩, _⟩ => ((s2, k3) = j0)) ?_ ?_
        ·
         refine V.block ?_
         refine V.seq ?_
         replace hm3 := asrt_some hm3; rcases hm3 with ⟨hh3, hm3⟩
         replace hm3 := asrt_some hm3; rcases hm3 with ⟨hh4, hm3⟩
         replace hm3 := asrt_some hm3; rcases hm3 with ⟨hh5, hm3⟩
         replace hm3 := asrt_some hm3; rcases hm3 with ⟨hh6, hm3⟩
         refine V.regionM 61 9 [⟨[(4, none)], [], none⟩, ⟨[(5, none)], [], none⟩, ⟨[(35, some 1), (36, some 0)], [], none⟩, ⟨[(37, some 0)], [], none⟩, ⟨[(4, none)], [], none⟩, ⟨[(5, none)], [], none⟩, ⟨[(40, some 0)], [], none⟩, ⟨[(39, some 2), (41, some 0)], [], none⟩, ⟨[(42, some 0)], [], none⟩] [(0, none), (3, none), (4, none), (5, none), (38, some 5), (43, some 0)] (⟨_, rfl, ⟨_, rfl, ⟨_, rfl, ⟨_, rfl, ⟨_, rfl, ⟨_, rfl, ⟨_, rfl, ⟨_, rfl, ⟨_, rfl, ⟨rfl, rfl⟩⟩⟩⟩⟩⟩⟩⟩⟩⟩) mixed_orders rfl (by decide +kernel) (fun hck11 => ?_)
         refine VP.step (p := ?pv721) rfl rfl rfl (⟨_, _, rfl, rfl, rfl⟩) ?hv721 ?rest721 hck11
         case hv721 =>
          intro E1
          refine (V1.move rfl rfl rfl (ltb rfl) ?_)
          exact rfl
         refine VP.step (p := ?pv722) rfl rfl rfl (⟨_, _, rfl, rfl, rfl⟩) ?hv722 ?rest722 hck11
         case hv722 =>
          intro E1
          refine (V1.move rfl rfl rfl (ltb rfl) ?_)
          exact rfl
         refine VP.step (p := ?pv723) rfl rfl rfl (⟨_, _, rfl, rfl, ⟨_, _, rfl, rfl, rfl⟩⟩) ?hv723 ?rest723 hck11
         case hv723 =>
          intro E1
          refine (V1.indexSw rfl rfl esz_24 rfl rfl hh3 (ltb rfl) ?_)
          exact rfl
         refine VP.step (p := ?pv724) rfl rfl rfl (⟨_, _, rfl, rfl, rfl⟩) ?hv724 ?rest724 hck11
         case hv724 =>
          intro E1
          refine (V1.loadMap (k := 0) (f := encInt) rfl rfl tyk_3 rfl rfl hh4 rfl (ltb rfl) ?_)
          exact rfl
         refine VP.step (p := ?pv725) rfl rfl rfl (⟨_, _, rfl, rfl, rfl⟩) ?hv725 ?rest725 hck11
         case hv725 =>
          intro E1
          refine (V1.move rfl rfl rfl (ltb rfl) ?_)
          exact rfl
         refine VP.step (p := ?pv726) rfl rfl rfl (⟨_, _, rfl, rfl, rfl⟩) ?hv726 ?rest726 hck11
         case hv726 =>
          intro E1
          refine (V1.move rfl rfl rfl (ltb rfl) ?_)
          exact rfl
         refine VP.step (p := ?pv727) rfl rfl rfl (⟨_, _, rfl, rfl, rfl⟩) ?hv727 ?rest727 hck11
         case hv727 =>
          intro E1
          refine (V1.int rfl rfl rfl rfl rfl (ltb rfl) ?_)
          exact rfl
         refine VP.step (p := ?pv728) rfl rfl rfl (⟨_, _, rfl, rfl, ⟨_, _, rfl, rfl, rfl⟩⟩) ?hv728 ?rest728 hck11
         case hv728 =>
          intro E1
          refine (V1.indexSw rfl rfl esz_24 rfl rfl hh5 (ltb rfl) ?_)
          exact rfl
         refine VP.step (p := ?pv729) rfl rfl rfl (⟨_, _, rfl, rfl, rfl⟩) ?hv729 ?rest729 hck11
         case hv729 =>
          intro E1
          refine (V1.loadMap (k := 0) (f := encInt) rfl rfl tyk_3 rfl rfl hh6 rfl (ltb rfl) ?_)
          exact rfl
         refine VP.fin rfl (⟨_, _, rfl, rfl, ⟨_, _, rfl, rfl, ⟨_, _, rfl, rfl, ⟨_, _, rfl, rfl, ⟨_, _, rfl, rfl, ⟨_, _, rfl, rfl, rfl⟩⟩⟩⟩⟩⟩) ?_
         refine VO.cons rfl (V1.int rfl rfl rfl rfl rfl (ltb rfl) ?_)
         refine VO.nil ?_
         refine V.cond rfl (fun hc4 => ?_) (fun hc4 => ?_)
         ·
          replace hm3 := cond_t hc4 hm3
          refine V.seq ?_
          replace hm3 := asrt_some hm3; rcases hm3 with ⟨hh7, hm3⟩
          replace hm3 := asrt_some hm3; rcases hm3 with ⟨hh8, hm3⟩
          replace hm3 := asrt_some hm3; rcases hm3 with ⟨hh9, hm3⟩
          refine V.region ?_
          refine VO.cons rfl (V1.move rfl rfl rfl (ltb rfl) ?_)
          refine VO.cons rfl (V1.move rfl rfl rfl (ltb rfl) ?_)
          refine VO.cons rfl (V1.move rfl rfl rfl (ltb rfl) ?_)
          refine VO.cons rfl (V1.move rfl rfl rfl (ltb rfl) ?_)
          refine VO.cons rfl (V1.indexSw rfl rfl esz_24 rfl rfl hh7 (ltb rfl) ?_)
          refine VO.cons rfl (V1.loadMap (k := 0) (f := encInt) rfl rfl tyk_3 rfl rfl hh8 rfl (ltb rfl) ?_)
          refine VO.cons rfl (V1.indexSr rfl rfl esz_24 rfl rfl hh9 (ltb rfl) ?_)
          refine VO.cons rfl (V1.storeMap (k := 0) (f := encInt) (x := (s1.getD ((0 + Int.toNat k) + Int.toNat k2) default)) rfl rfl tyk_3 rfl rfl (by simpa using natLt hh9.1 hh9.2) rfl rfl ?_)
          refine VO.weakenK (Keeps.say 0 (y := .sref oq 1 0 (List.length (s1.set (Int.toNat k1) (s1.getD ((0 + Int.toNat k) + Int.toNat k2) default)))) rfl (by simp [optS])) ?_
          refine VO.nil ?_
          refine V.keep 61 [0, 3, 4, 5] [0] (E0 := [(0, .sref oq 1 0 (List.length (s1.set (Int.toNat k1) (s1.getD ((0 + Int.toNat k) + Int.toNat k2) default)))), (3, .int .i64 k1), (4, .sref oq 1 (0 + Int.toNat k) (Int.toNat (((List.length s) : Nat) : Int) - Int.toNat k)), (5, .int .i64 k2)]) (H0 := [(oq, ⟨1, List.map encInt (s1.set (Int.toNat k1) (s1.getD ((0 + Int.toNat k) + Int.toNat k2) default))⟩)]) rfl (⟨_, _, rfl, rfl, ⟨_, _, rfl, rfl, ⟨_, _, rfl, rfl, ⟨_, _, rfl, rfl, rfl⟩⟩⟩⟩) (⟨_, _, rfl, rfl, rfl⟩) rfl ?_
          refine V.region ?_
          refine VO.cons rfl (V1.move rfl rfl rfl (ltb rfl) ?_)
          refine VO.cons rfl (V1.int rfl rfl rfl rfl rfl (ltb rfl) ?_)
          refine VO.cons rfl (V1.assign rfl rfl rfl (ltb rfl) ?_)
          refine VO.nil ?_
          exact ⟨(((s1.set (Int.toNat k1) (s1.getD ((0 + Int.toNat k) + Int.toNat k2) default)), (IntKind.i64.wrap (k1 + (1 : Int)))), ()), Option.some.inj hm3, Keeps.mk (ks := [0]) rfl ⟨(someSref (by simp)), rfl, rfl, rfl, trivial⟩ (⟨_, _, rfl, rfl, rfl⟩) rfl⟩
         ·
          replace hm3 := cond_f hc4 hm3
          refine V.skip ?_
          exact ⟨((s1, k1), ()), Option.some.inj hm3, Keeps.mk (ks := [0]) rfl ⟨(someSref (by simp)), rfl, rfl, rfl, trivial⟩ (⟨_, _, rfl, rfl, rfl⟩) rfl⟩
        ·
         rintro ⟨⟨s2, k3⟩, _⟩ rfl
         try dsimp only at hm2
         refine V.region ?_
         refine VO.cons rfl (V1.move rfl rfl rfl (ltb rfl) ?_)
         refine VO.cons rfl (V1.int rfl rfl rfl rfl rfl (ltb rfl) ?_)
         refine VO.cons rfl (V1.assign rfl rfl rfl (ltb rfl) ?_)
         refine VO.nil ?_
         exact ⟨(m1, (s2, k3, (IntKind.i64.wrap (k2 + (1 : Int)))), ()), hl2 _ (Option.some.inj hm2).symm, Nat.lt_succ_self _, Keeps.mk (ks := [0]) rfl ⟨(someSref (by simp)), rfl, rfl, rfl, trivial⟩ (⟨_, _, rfl, rfl, rfl⟩) rfl⟩
       ·
        replace hm2 := cond_f hc3 hm2
        refine V.exit ?_
        obtain rfl := hr2 _ (Option.some.inj hm2).symm
        exact ⟨((s1, k1), ()), rfl, Keeps.mk (ks := [0]) rfl ⟨(someSref (by simp)), rfl, trivial⟩ (⟨_, _, rfl, rfl, rfl⟩) rfl⟩
      ·
       rintro ⟨⟨s0, k0⟩, _⟩ rfl
       try dsimp only at hm1
       refine V.seq ?_
       replace hm1 := asrt_some hm1; rcases hm1 with ⟨hh10, hm1⟩
       replace hm1 := asrt_some hm1; rcases hm1 with ⟨hh11, hm1⟩
       refine V.region ?_
       refine VO.cons rfl (V1.move rfl rfl rfl (ltb rfl) ?_)
       refine VO.cons rfl (V1.move rfl rfl rfl (ltb rfl) ?_)
       refine VO.cons rfl (V1.sliceSw (a := k0) (c := (((List.length s0) : Nat) : Int)) rfl rfl esz_24 rfl (Bnd.some rfl hh10.1 _) (Bnd.none _ _) hh10 (ltb rfl) ?_)
       refine VO.cons rfl (V1.clearSw (k := 0) (f := encInt) (l := s0) (z := (0 : Int)) rfl rfl rfl rfl rfl esz_24 zk_3 .same rfl rfl hh11 ?_)
       refine VO.weakenK (Keeps.say 0 (y := .sref oq 1 0 (List.length (List.take (0 + Int.toNat k0) s0 ++ List.replicate (Int.toNat (((List.length s0) : Nat) : Int) - Int.toNat k0) (0 : Int) ++ List.drop ((0 + Int.toNat k0) + (Int.toNat (((List.length s0) : Nat) : Int) - Int.toNat k0)) s0))) rfl (congrArg (PV.sref oq 1 0) (segLen (z := (0 : Int)) hh11))) ?_
       refine VO.nil ?_
       refine V.seq ?_
       replace hm1 := asrt_some hm1; rcases hm1 with ⟨hh12, hm1⟩
       refine V.region ?_
       refine VO.cons rfl (V1.move rfl rfl rfl (ltb rfl) ?_)
       refine VO.cons rfl (V1.move rfl rfl rfl (ltb rfl) ?_)
       refine VO.cons rfl (V1.sliceSw (a := (0 : Int)) (c := k0) rfl rfl esz_24 rfl (Bnd.none _ _) (Bnd.some rfl (Int.le_trans hh12.1 hh12.2.1) _) hh12 (ltb rfl) ?_)
       refine VO.cons rfl (V1.assign rfl rfl rfl (ltb rfl) ?_)
       refine VO.nil ?_
       replace hm1 := asrt_some hm1; rcases hm1 with ⟨hh13, hm1⟩
       refine V.weakenK (Keeps.cut 2 0 (Int.toNat k0 - Int.toNat (0 : Int)) (f := encInt) (l := (List.take (0 + Int.toNat k0) s0 ++ List.replicate (Int.toNat (((List.length s0) : Nat) : Int) - Int.toNat k0) (0 : Int) ++ List.drop ((0 + Int.toNat k0) + (Int.toNat (((List.length s0) : Nat) : Int) - Int.toNat k0)) s0)) rfl rfl hh13) ?_
       refine V.keep 61 [2] [0] (E0 := [(2, .sref oq 1 0 (List.length (List.take (Int.toNat k0 - Int.toNat (0 : Int)) (List.take (0 + Int.toNat k0) s0 ++ List.replicate (Int.toNat (((List.length s0) : Nat) : Int) - Int.toNat k0) (0 : Int) ++ List.drop ((0 + Int.toNat k0) + (Int.toNat (((List.length s0) : Nat) : Int) - Int.toNat k0)) s0))))]) (H0 := [(oq, ⟨1, List.map encInt (List.take (Int.toNat k0 - Int.toNat (0 : Int)) (List.take (0 + Int.toNat k0) s0 ++ List.replicate (Int.toNat (((List.length s0) : Nat) : Int) - Int.toNat k0) (0 : Int) ++ List.drop ((0 + Int.toNat k0) + (Int.toNat (((List.length s0) : Nat) : Int) - Int.toNat k0)) s0))⟩)]) rfl (⟨_, _, rfl, rfl, rfl⟩) (⟨_, _, rfl, rfl, rfl⟩) rfl ?_
       refine V.ret ?_
       obtain rfl := hr1 _ (Option.some.inj hm1).symm
       change some _ = some _ at hm0
       obtain rfl := Option.some.inj hm0
       exact ⟨_, _, ⟨_, _, rfl, rfl, rfl⟩, List.Sublist.refl _, some oq, (fun e => by cases e), rfl, rfl⟩
     ·
      replace hm1 := cond_f hc2 hm1
      refine V.skip ?_
      refine V.region ?_
      refine VO.cons rfl (V1.move rfl rfl rfl (ltb rfl) ?_)
      refine VO.cons rfl (V1.int rfl rfl rfl rfl rfl (ltb rfl) ?_)
      refine VO.cons rfl (V1.assign rfl rfl rfl (ltb rfl) ?_)
      refine VO.nil ?_
      exact ⟨(m0, (IntKind.i64.wrap (k + (1 : Int))), ()), hl1 _ (Option.some.inj hm1).symm, Nat.lt_succ_self _, Keeps.mk (ks := [0]) rfl ⟨rfl, rfl, trivial⟩ (⟨_, _, rfl, rfl, rfl⟩) rfl⟩
    ·
     replace hm1 := cond_f hc1 hm1
     refine V.exit ?_
     obtain rfl := hr1 _ (Option.some.inj hm1).symm
     exact ⟨((), ()), rfl, Keeps.mk (ks := [0]) rfl ⟨rfl, trivial⟩ (⟨_, _, rfl, rfl, rfl⟩) rfl⟩
   ·
    rintro ⟨_, _⟩ rfl
    try dsimp only at hm0
    refine V.seq ?_
    refine V.region ?_
    refine VO.cons rfl (V1.move rfl rfl rfl (ltb rfl) ?_)
    refine VO.cons rfl (V1.assign rfl rfl rfl (ltb rfl) ?_)
    refine VO.nil ?_
    refine V.keep 61 [2] [0] (E0 := [(2, .sref oq 1 0 (List.length s))]) (H0 := [(oq, ⟨1, List.map encInt s⟩)]) rfl (⟨_, _, rfl, rfl, rfl⟩) (⟨_, _, rfl, rfl, rfl⟩) rfl ?_
    refine V.ret ?_
    obtain rfl := Option.some.inj hm0
    exact ⟨_, _, ⟨_, _, rfl, rfl, rfl⟩, List.Sublist.refl _, some oq, (fun e => by cases e), rfl, rfl⟩

theorem ok_impl_eachOnce {rn : Nat} {oq : Option Nat} {list : List Int} {r : List Int} (h : M.impl_eachOnce list = some r) (hoq : oq = none → list = []) : Does Try.prog 90 [optS 1 oq (List.length list)] (optH 1 oq (List.map encInt list)) rn (fun x H => ∃ (ob0_ : Option Nat), (ob0_ = none → r = []) ∧ x = optS 1 ob0_ (List.length r) ∧ H = optH 1 ob0_ (List.map encInt r)) := by
 have hm0 := h; clear h; unfold M.impl_eachOnce at hm0
 try dsimp only at hm0
 refine Does.intro (N := 7) Try.func90 rfl rfl rfl rfl ?_
 intro w0 S0
 rcases oq with _ | oq
 ·
  refine V.seq ?_
  refine V.region ?_
  refine VO.cons rfl (V1.assign rfl rfl rfl (ltb rfl) ?_)
  refine VO.nil ?_
  refine V.seq ?_
  replace hm0 := bindO hm0; rcases hm0 with ⟨y0, hh0, hm0⟩
  replace hm0 := asrt_some hm0; rcases hm0 with ⟨hh1, hm0⟩
  refine V.region ?_
  refine VO.cons rfl (V1.move rfl rfl rfl (ltb rfl) ?_)
  refine VO.cons rfl (V1.call rfl rfl rfl cok_137 rfl (ok_slices_Sort_int_int hh0 (oq := none) (x := list) (fun _ => (hoq rfl))) rfl (ltb rfl) ?_)
  rintro _ _ ⟨rfl, rfl⟩
  refine VO.nil ?_
  refine V.seq ?_
  replace hm0 := bindO hm0; rcases hm0 with ⟨y1, hh2, hm0⟩
  refine V.region ?_
  refine VO.cons rfl (V1.move rfl rfl rfl (ltb rfl) ?_)
  refine VO.cons rfl (V1.permK (V1.call rfl rfl rfl cok_138 rfl (ok_slices_Compact_int_int hh2 (oq := none) (s := y0) (fun _ => (List.length_eq_zero_iff.1 (hh1.trans (congrArg List.length (hoq rfl)))))) rfl (ltb rfl) ?_))
  rintro _ _ ⟨ob0, hob0, rfl, rfl⟩
  refine ⟨_, ?_, Keeps.optBack (n := 1) (ob := ob0) (xs := List.map encInt y1) (H1 := []) (H2 := []) rfl⟩
  refine VO.cons rfl (V1.assign rfl rfl rfl (ltb rfl) ?_)
  refine VO.nil ?_
  rcases ob0 with _ | ob0
  ·
   refine V.keep 7 [2] [] (E0 := [(2, .nils)]) (H0 := []) rfl (⟨_, _, rfl, rfl, rfl⟩) (rfl) rfl ?_
   refine V.ret ?_
   obtain rfl := Option.some.inj hm0
   exact ⟨_, _, ⟨_, _, rfl, rfl, rfl⟩, List.Sublist.refl _, none, (fun _ => (hob0 rfl)), rfl, rfl⟩
  ·
   refine V.keep 7 [2] [0] (E0 := [(2, .sref ob0 1 0 (List.length y1))]) (H0 := [(ob0, ⟨1, List.map encInt y1⟩)]) rfl (⟨_, _, rfl, rfl, rfl⟩) (⟨_, _, rfl, rfl, rfl⟩) rfl ?_
   refine V.ret ?_
   obtain rfl := Option.some.inj hm0
   exact ⟨_, _, ⟨_, _, rfl, rfl, rfl⟩, List.Sublist.refl _, some ob0, (fun e => by cases e), rfl, rfl⟩
 ·
  refine V.seq ?_
  refine V.region ?_
  refine VO.cons rfl (V1.assign rfl rfl rfl (ltb rfl) ?_)
  refine VO.nil ?_
  refine V.seq ?_
  replace hm0 := bindO hm0; rcases hm0 with ⟨y0, hh0, hm0⟩
  replace hm0 := asrt_some hm0; rcases hm0 with ⟨hh1, hm0⟩
  refine V.region ?_
  refine VO.cons rfl (V1.move rfl rfl rfl (ltb rfl) ?_)
  refine VO.cons rfl (V1.callM 0 (rn + 1) [] [.sref oq 1 0 (List.length list)] (p := (oq, ⟨1, List.map encInt list⟩)) rfl rfl rfl cok_137 rfl rfl ⟨_, _, rfl, .same _, rfl⟩ bwNil (ok_slices_Sort_int_int hh0 (oq := some oq) (fun e => by cases e)) rfl (.inl rfl) (ltb rfl) ?_)
  rintro _ _ ⟨rfl, rfl⟩
  refine VO.weakenK (Keeps.say 0 (y := .sref oq 1 0 (List.length y0)) rfl (congrArg (PV.sref oq 1 0) hh1.symm)) ?_
  refine VO.nil ?_
  refine V.seq ?_
  replace hm0 := bindO hm0; rcases hm0 with ⟨y1, hh2, hm0⟩
  refine V.region ?_
  refine VO.cons rfl (V1.move rfl rfl rfl (ltb rfl) ?_)
  refine VO.cons rfl (V1.permK (V1.callM 0 (rn + 1) [] [.sref oq 1 0 (List.length y0)] (p := (oq, ⟨1, List.map encInt y0⟩)) rfl rfl rfl cok_138 rfl rfl ⟨_, _, rfl, .same _, rfl⟩ bwNil (ok_slices_Compact_int_int hh2 (oq := some oq) (fun e => by cases e)) rfl (.inl rfl) (ltb rfl) ?_))
  rintro _ _ ⟨ob0, hob0, rfl, rfl⟩
  refine ⟨_, ?_, Keeps.optBack (n := 1) (ob := ob0) (xs := List.map encInt y1) (H1 := []) (H2 := []) rfl⟩
  refine VO.cons rfl (V1.assign rfl rfl rfl (ltb rfl) ?_)
  refine VO.nil ?_
  rcases ob0 with _ | ob0
  ·
   refine V.keep 7 [2] [] (E0 := [(2, .nils)]) (H0 := []) rfl (⟨_, _, rfl, rfl, rfl⟩) (rfl) rfl ?_
   refine V.ret ?_
   obtain rfl := Option.some.inj hm0
   exact ⟨_, _, ⟨_, _, rfl, rfl, rfl⟩, List.Sublist.refl _, none, (fun _ => (hob0 rfl)), rfl, rfl⟩
  ·
   refine V.keep 7 [2] [0] (E0 := [(2, .sref ob0 1 0 (List.length y1))]) (H0 := [(ob0, ⟨1, List.map encInt y1⟩)]) rfl (⟨_, _, rfl, rfl, rfl⟩) (⟨_, _, rfl, rfl, rfl⟩) rfl ?_
   refine V.ret ?_
   obtain rfl := Option.some.inj hm0
   exact ⟨_, _, ⟨_, _, rfl, rfl, rfl⟩, List.Sublist.refl _, some ob0, (fun e => by cases e), rfl, rfl⟩

theorem ok_impl_NotWhole {ρ0 rn : Nat} {list : List Hand} {r : List Int × Bool} (h : M.impl_NotWhole list = some r) : Does Try.prog 21 [.vl ρ0 6 (List.map encHand list)] [] rn (fun x H => ∃ (ob0_ : Option Nat), (ob0_ = none → r.1 = []) ∧ x = .tup [optS 1 ob0_ (List.length r.1), .bool r.2] ∧ H = optH 1 ob0_ (List.map encInt r.1)) := by
 have hm0 := h; clear h; unfold M.impl_NotWhole at hm0
 try dsimp only at hm0
 refine Does.intro (N := 30) Try.func21 rfl rfl rfl rfl ?_
 intro w0 S0
 refine V.seq ?_
 refine V.region ?_
 refine VO.cons rfl (V1.assign rfl rfl rfl (ltb rfl) ?_)
 refine VO.cons rfl (V1.assign rfl rfl rfl (ltb rfl) ?_)
 refine VO.nil ?_
 refine V.seq ?_
 refine V.seq ?_
 replace hm0 := bindO hm0; rcases hm0 with ⟨y0, hh0, hm0⟩
 refine V.region ?_
 refine VO.cons rfl (V1.move rfl rfl rfl (ltb rfl) ?_)
 refine VO.cons rfl (V1.call rfl rfl rfl cok_42 rfl (ok_impl_IsCustody hh0) rfl (ltb rfl) ?_)
 rintro _ _ ⟨rfl, rfl⟩
 refine VO.cons rfl (V1.not rfl rfl rfl (ltb rfl) ?_)
 refine VO.nil ?_
 refine V.keep 30 [0, 9] [] (E0 := [(0, .vl ρ0 6 (List.map encHand list)), (9, .bool (!y0))]) (H0 := []) rfl (⟨_, _, rfl, rfl, ⟨_, _, rfl, rfl, rfl⟩⟩) (rfl) rfl ?_
 refine V.cond rfl (fun hc0 => ?_) (fun hc0 => ?_)
 ·
  replace hm0 := cond_t hc0 hm0
  refine V.seq ?_
  refine V.region ?_
  refine VO.cons rfl (V1.assign rfl rfl rfl (ltb rfl) ?_)
  refine VO.cons rfl (V1.assign rfl rfl rfl (ltb rfl) ?_)
  refine VO.nil ?_
  refine V.keep 30 [2, 3] [] (E0 := [(2, .nils), (3, .bool false)]) (H0 := []) rfl (⟨_, _, rfl, rfl, ⟨_, _, rfl, rfl, rfl⟩⟩) (rfl) rfl ?_
  refine V.ret ?_
  obtain rfl := Option.some.inj hm0
  exact ⟨_, _, ⟨_, _, rfl, rfl, ⟨_, _, rfl, rfl, rfl⟩⟩, List.Sublist.refl _, none, (fun _ => rfl), rfl, rfl⟩
 ·
  replace hm0 := cond_f hc0 hm0
  refine V.skip ?_
  refine V.seq ?_
  refine V.region ?_
  refine VO.cons rfl (V1.assign rfl rfl rfl (ltb rfl) ?_)
  refine VO.nil ?_
  refine V.seq ?_
  refine V.seq ?_
  replace hm0 := bindO hm0; rcases hm0 with ⟨y1, hh1, hm0⟩
  refine V.region ?_
  refine VO.cons rfl (V1.move rfl rfl rfl (ltb rfl) ?_)
  refine VO.cons rfl (V1.permK (V1.call rfl rfl rfl cok_93 rfl (ok_impl_differences hh1) rfl (ltb rfl) ?_))
  rintro _ _ ⟨ob0, hob0, rfl, rfl⟩
  refine ⟨_, ?_, Keeps.optBack (n := 1) (ob := ob0) (xs := List.map (encL rn 1 encInt) y1) (H1 := []) (H2 := []) rfl⟩
  refine VO.weakenK (Keeps.optFront (n := 1) (ob := ob0) (xs := List.map (encL rn 1 encInt) y1) (H1 := []) rfl) ?_
  refine VO.weakenK (Keeps.optVl 11 [] rn (f := (encL rn 1 encInt)) (l := y1) (ob := ob0) (H1 := []) hob0 rfl rfl ⟨rfl, trivial⟩ (fun _ => rfl) rfl iNil) ?_
  refine VO.cons rfl (V1.lenMap rfl rfl rfl rfl rfl rfl isl_38 (ltb rfl) ?_)
  refine VO.cons rfl (V1.move rfl rfl rfl (ltb rfl) ?_)
  refine VO.nil ?_
  replace hm0 := bindO hm0; rcases hm0 with ⟨e0, he1, hm0⟩
  refine V.cutT (D := (List Int) × (Option Nat)) (fun ⟨records, ob1⟩ => ⟨30, [(4, optS 1 ob1 (List.length records))], optH 1 ob1 (List.map encInt records)⟩) (fun ⟨records, ob1⟩ => (records = e0) ∧ (ob1 = none → records = [])) ?_ ?_
  ·
   refine V.block ?_
   refine V.keep 30 [4, 13, 0, 11, 12] [] (E0 := [(4, .nils), (13, .int .i64 (0 : Int)), (0, .vl ρ0 6 (List.map encHand list)), (11, .vl rn 1 (List.map (encL rn 1 encInt) y1)), (12, .int .i64 (y1.length : Int))]) (H0 := []) rfl (⟨_, _, rfl, rfl, ⟨_, _, rfl, rfl, ⟨_, _, rfl, rfl, ⟨_, _, rfl, rfl, ⟨_, _, rfl, rfl, rfl⟩⟩⟩⟩⟩) (rfl) rfl ?_
   refine V.loopE (D := Nat × (List Int × Int) × (Option Nat)) (fun ⟨n0, ⟨records0, v⟩, ob2⟩ => [(4, optS 1 ob2 (List.length records0)), (13, .int .i64 v)]) (fun ⟨n0, ⟨records0, v⟩, ob2⟩ => optH 1 ob2 (List.map encInt records0)) (fun ⟨n0, ⟨records0, v⟩, ob2⟩ => loopO (M.impl_NotWhole_l0 list y1) n0 (records0, v) = some e0 ∧ (ob2 = none → records0 = [])) (fun ⟨n0, _, _⟩ => n0) (rounds, (([] : List Int), (0 : Int)), none) rfl ⟨he1, (fun _ => rfl)⟩ ?_
   rintro ⟨n0, ⟨records0, v⟩, ob2⟩ ⟨hP0, hob2⟩
   obtain ⟨m0, y2, rfl, hm1, hl1, hr1⟩ := loop_head hP0
   unfold M.impl_NotWhole_l0 at hm1; dsimp only at hm1
   rcases ob2 with _ | ob2
   ·
    replace hob2 := hob2 rfl
    show V _ _ _ ⟨30, [(4, .nils), (13, .int .i64 v), (0, .vl ρ0 6 (List.map encHand list)), (11, .vl rn 1 (List.map (encL rn 1 encInt) y1)), (12, .int .i64 (y1.length : Int))], []⟩
    refine V.seq ?_
    refine V.region ?_
    refine VO.cons rfl (V1.int rfl rfl rfl rfl rfl (ltb rfl) ?_)
    refine VO.nil ?_
    refine V.seq ?_
    refine V.cond rfl (fun hc1 => ?_) (fun hc1 => ?_)
    ·
     replace hm1 := cond_t hc1 hm1
     refine V.skip ?_
     refine V.seq ?_
     refine V.block ?_
     refine V.seq ?_
     replace hm1 := asrt_some hm1; rcases hm1 with ⟨hh2, hm1⟩
     refine V.region ?_
     refine VO.cons rfl (V1.indexI rfl rfl esz_38 rfl rfl hh2 (ltb rfl) ?_)
     refine VO.cons rfl (V1.loadPin rfl rfl tyk_24 rfl rfl (ltb rfl) ?_)
     refine VO.cons rfl (V1.assign rfl rfl rfl (ltb rfl) ?_)
     refine VO.nil ?_
     replace hm1 := asrt_some hm1; rcases hm1 with ⟨hh3, hm1⟩
     replace hm1 := asrt_some hm1; rcases hm1 with ⟨hh4, hm1⟩
     replace hm1 := asrt_some hm1; rcases hm1 with ⟨hh5, hm1⟩
     refine V.region ?_
     refine VO.cons rfl (V1.move rfl rfl rfl (ltb rfl) ?_)
     refine VO.cons rfl (V1.move rfl rfl rfl (ltb rfl) ?_)
     refine VO.cons rfl (V1.move rfl rfl rfl (ltb rfl) ?_)
     refine VO.cons rfl (V1.indexI rfl rfl esz_24 rfl rfl hh3 (ltb rfl) ?_)
     refine VO.cons rfl (V1.loadPin rfl rfl tyk_3 rfl rfl (ltb rfl) ?_)
     refine VO.cons rfl (V1.indexI rfl rfl esz_27 rfl rfl hh4 (ltb rfl) ?_)
     refine VO.cons rfl (V1.fieldPin rfl rfl fo_52_0 rfl (ltb rfl) ?_)
     refine VO.cons rfl (V1.loadPin rfl rfl tyk_3 rfl rfl (ltb rfl) ?_)
     refine VO.cons rfl (V1.buildSliceT (f := encInt) ([(list.getD (Int.toNat ((y1.getD (Int.toNat v) default).getD (Int.toNat (0 : Int)) default)) default).Record] : List Int) rfl rfl esz_24 zk_3 rfl rfl rfl rfl rfl rfl rfl (ltb rfl) ?_)
     intro b0
     refine VO.cons rfl (V1.appendNilE (f := encInt) (l := records0) (m := ([(list.getD (Int.toNat ((y1.getD (Int.toNat v) default).getD (Int.toNat (0 : Int)) default)) default).Record] : List Int)) hob2 rfl rfl rfl rfl rfl esz_24 eby_24 zk_3 rfl rfl rfl (SrcOf.srMap (k := 0) rfl isl_24) rfl hh5 (ltb rfl) ?_)
     intro b1
     refine VO.cons rfl (V1.assign rfl rfl rfl (ltb rfl) ?_)
     refine VO.nil ?_
     refine V.keep 30 [0, 4, 11, 12, 13] [0] (E0 := [(0, .vl ρ0 6 (List.map encHand list)), (4, .sref b1 1 0 (List.length (records0 ++ ([(list.getD (Int.toNat ((y1.getD (Int.toNat v) default).getD (Int.toNat (0 : Int)) default)) default).Record] : List Int)))), (11, .vl rn 1 (List.map (encL rn 1 encInt) y1)), (12, .int .i64 (y1.length : Int)), (13, .int .i64 v)]) (H0 := [(b1, ⟨1, List.map encInt (records0 ++ ([(list.getD (Int.toNat ((y1.getD (Int.toNat v) default).getD (Int.toNat (0 : Int)) default)) default).Record] : List Int))⟩)]) rfl (⟨_, _, rfl, rfl, ⟨_, _, rfl, rfl, ⟨_, _, rfl, rfl, ⟨_, _, rfl, rfl, ⟨_, _, rfl, rfl, rfl⟩⟩⟩⟩⟩) (⟨_, _, rfl, rfl, rfl⟩) rfl ?_
     refine V.region ?_
     refine VO.cons rfl (V1.int rfl rfl rfl rfl rfl (ltb rfl) ?_)
     refine VO.cons rfl (V1.move rfl rfl rfl (ltb rfl) ?_)
     refine VO.nil ?_
     exact ⟨(m0, ((records0 ++ ([(list.getD (Int.toNat ((y1.getD (Int.toNat v) default).getD (Int.toNat (0 : Int)) default)) default).Record] : List Int)), (IntKind.i64.wrap (v + (1 : Int)))), (some b1)), ⟨hl1 _ (Option.some.inj hm1).symm, (fun e => by cases e)⟩, Nat.lt_succ_self _, Keeps.mk (ks := [0]) rfl ⟨rfl, rfl, rfl, rfl, rfl, trivial⟩ (⟨_, _, rfl, rfl, rfl⟩) rfl⟩
    ·
     replace hm1 := cond_f hc1 hm1
     refine V.exit ?_
     obtain rfl := hr1 _ (Option.some.inj hm1).symm
     exact ⟨(records0, none), ⟨rfl, (fun _ => hob2)⟩, Keeps.mk (ks := []) rfl ⟨rfl, trivial⟩ (rfl) rfl⟩
   ·
    show V _ _ _ ⟨30, [(4, .sref ob2 1 0 (List.length records0)), (13, .int .i64 v), (0, .vl ρ0 6 (List.map encHand list)), (11, .vl rn 1 (List.map (encL rn 1 encInt) y1)), (12, .int .i64 (y1.length : Int))], [(ob2, ⟨1, List.map encInt records0⟩)]⟩
    refine V.seq ?_
    refine V.region ?_
    refine VO.cons rfl (V1.int rfl rfl rfl rfl rfl (ltb rfl) ?_)
    refine VO.nil ?_
    refine V.seq ?_
    refine V.cond rfl (fun hc1 => ?_) (fun hc1 => ?_)
    ·
     replace hm1 := cond_t hc1 hm1
     refine V.skip ?_
     refine V.seq ?_
     refine V.block ?_
     refine V.seq ?_
     replace hm1 := asrt_some hm1; rcases hm1 with ⟨hh2, hm1⟩
     refine V.region ?_
     refine VO.cons rfl (V1.indexI rfl rfl esz_38 rfl rfl hh2 (ltb rfl) ?_)
     refine VO.cons rfl (V1.loadPin rfl rfl tyk_24 rfl rfl (ltb rfl) ?_)
     refine VO.cons rfl (V1.assign rfl rfl rfl (ltb rfl) ?_)
     refine VO.nil ?_
     replace hm1 := asrt_some hm1; rcases hm1 with ⟨hh3, hm1⟩
     replace hm1 := asrt_some hm1; rcases hm1 with ⟨hh4, hm1⟩
     replace hm1 := asrt_some hm1; rcases hm1 with ⟨hh5, hm1⟩
     refine V.region ?_
     refine VO.cons rfl (V1.move rfl rfl rfl (ltb rfl) ?_)
     refine VO.cons rfl (V1.move rfl rfl rfl (ltb rfl) ?_)
     refine VO.cons rfl (V1.move rfl rfl rfl (ltb rfl) ?_)
     refine VO.cons rfl (V1.indexI rfl rfl esz_24 rfl rfl hh3 (ltb rfl) ?_)
     refine VO.cons rfl (V1.loadPin rfl rfl tyk_3 rfl rfl (ltb rfl) ?_)
     refine VO.cons rfl (V1.indexI rfl rfl esz_27 rfl rfl hh4 (ltb rfl) ?_)
     refine VO.cons rfl (V1.fieldPin rfl rfl fo_52_0 rfl (ltb rfl) ?_)
     refine VO.cons rfl (V1.loadPin rfl rfl tyk_3 rfl rfl (ltb rfl) ?_)
     refine VO.cons rfl (V1.buildSliceT (f := encInt) ([(list.getD (Int.toNat ((y1.getD (Int.toNat v) default).getD (Int.toNat (0 : Int)) default)) default).Record] : List Int) rfl rfl esz_24 zk_3 rfl rfl rfl rfl rfl rfl rfl (ltb rfl) ?_)
     intro b0
     refine VO.cons rfl (V1.appendMap (k := 1) (f := encInt) (l := records0) (m := ([(list.getD (Int.toNat ((y1.getD (Int.toNat v) default).getD (Int.toNat (0 : Int)) default)) default).Record] : List Int)) rfl rfl rfl rfl rfl esz_24 eby_24 zk_3 rfl rfl rfl (SrcOf.srMap (k := 0) rfl isl_24) hh5 (ltb rfl) ?_)
     intro b1
     refine VO.cons rfl (V1.assign rfl rfl rfl (ltb rfl) ?_)
     refine VO.nil ?_
     refine V.keep 30 [0, 4, 11, 12, 13] [0] (E0 := [(0, .vl ρ0 6 (List.map encHand list)), (4, .sref b1 1 0 (List.length (records0 ++ ([(list.getD (Int.toNat ((y1.getD (Int.toNat v) default).getD (Int.toNat (0 : Int)) default)) default).Record] : List Int)))), (11, .vl rn 1 (List.map (encL rn 1 encInt) y1)), (12, .int .i64 (y1.length : Int)), (13, .int .i64 v)]) (H0 := [(b1, ⟨1, List.map encInt (records0 ++ ([(list.getD (Int.toNat ((y1.getD (Int.toNat v) default).getD (Int.toNat (0 : Int)) default)) default).Record] : List Int))⟩)]) rfl (⟨_, _, rfl, rfl, ⟨_, _, rfl, rfl, ⟨_, _, rfl, rfl, ⟨_, _, rfl, rfl, ⟨_, _, rfl, rfl, rfl⟩⟩⟩⟩⟩) (⟨_, _, rfl, rfl, rfl⟩) rfl ?_
     refine V.region ?_
     refine VO.cons rfl (V1.int rfl rfl rfl rfl rfl (ltb rfl) ?_)
     refine VO.cons rfl (V1.move rfl rfl rfl (ltb rfl) ?_)
     refine VO.nil ?_
     exact ⟨(m0, ((records0 ++ ([(list.getD (Int.toNat ((y1.getD (Int.toNat v) default).getD (Int.toNat (0 : Int)) default)) default).Record] : List Int)), (IntKind.i64.wrap (v + (1 : Int)))), (some b1)), ⟨hl1 _ (Option.some.inj hm1).symm, (fun e => by cases e)⟩, Nat.lt_succ_self _, Keeps.mk (ks := [0]) rfl ⟨rfl, rfl, rfl, rfl, rfl, trivial⟩ (⟨_, _, rfl, rfl, rfl⟩) rfl⟩
    ·
     replace hm1 := cond_f hc1 hm1
     refine V.exit ?_
     obtain rfl := hr1 _ (Option.some.inj hm1).symm
     exact ⟨(records0, (some ob2)), ⟨rfl, (fun e => by cases e)⟩, Keeps.mk (ks := [0]) rfl ⟨rfl, trivial⟩ (⟨_, _, rfl, rfl, rfl⟩) rfl⟩
  ·
   rintro ⟨records, ob1⟩ ⟨rfl, hob1⟩
   try dsimp only at hm0
   rcases ob1 with _ | ob1
   ·
    replace hob1 := hob1 rfl
    refine V.seq ?_
    replace hm0 := bindO hm0; rcases hm0 with ⟨y3, hh6, hm0⟩
    refine V.region ?_
    refine VO.cons rfl (V1.move rfl rfl rfl (ltb rfl) ?_)
    refine VO.cons rfl (V1.permK (V1.call rfl rfl rfl cok_90 rfl (ok_impl_eachOnce hh6 (oq := none) (list := records) (fun _ => hob1)) rfl (ltb rfl) ?_))
    rintro _ _ ⟨ob3, hob3, rfl, rfl⟩
    refine ⟨_, ?_, Keeps.optBack (n := 1) (ob := ob3) (xs := List.map encInt y3) (H1 := []) (H2 := []) rfl⟩
    refine VO.cons rfl (V1.assign rfl rfl rfl (ltb rfl) ?_)
    refine VO.cons rfl (V1.assign rfl rfl rfl (ltb rfl) ?_)
    refine VO.nil ?_
    rcases ob3 with _ | ob3
    ·
     refine V.keep 30 [2, 3] [] (E0 := [(2, .nils), (3, .bool true)]) (H0 := []) rfl (⟨_, _, rfl, rfl, ⟨_, _, rfl, rfl, rfl⟩⟩) (rfl) rfl ?_
     refine V.ret ?_
     obtain rfl := Option.some.inj hm0
     exact ⟨_, _, ⟨_, _, rfl, rfl, ⟨_, _, rfl, rfl, rfl⟩⟩, List.Sublist.refl _, none, (fun _ => (hob3 rfl)), rfl, rfl⟩
    ·
     refine V.keep 30 [2, 3] [0] (E0 := [(2, .sref ob3 1 0 (List.length y3)), (3, .bool true)]) (H0 := [(ob3, ⟨1, List.map encInt y3⟩)]) rfl (⟨_, _, rfl, rfl, ⟨_, _, rfl, rfl, rfl⟩⟩) (⟨_, _, rfl, rfl, rfl⟩) rfl ?_
     refine V.ret ?_
     obtain rfl := Option.some.inj hm0
     exact ⟨_, _, ⟨_, _, rfl, rfl, ⟨_, _, rfl, rfl, rfl⟩⟩, List.Sublist.refl _, some ob3, (fun e => by cases e), rfl, rfl⟩
   ·
    refine V.seq ?_
    replace hm0 := bindO hm0; rcases hm0 with ⟨y3, hh6, hm0⟩
    refine V.region ?_
    refine VO.cons rfl (V1.move rfl rfl rfl (ltb rfl) ?_)
    refine VO.cons rfl (V1.permK (V1.callM 0 (rn + 1) [] [.sref ob1 1 0 (List.length records)] (p := (ob1, ⟨1, List.map encInt records⟩)) rfl rfl rfl cok_90 rfl rfl ⟨_, _, rfl, .same _, rfl⟩ bwNil (ok_impl_eachOnce hh6 (oq := some ob1) (fun e => by cases e)) rfl (.inl rfl) (ltb rfl) ?_))
    rintro _ _ ⟨ob3, hob3, rfl, rfl⟩
    refine ⟨_, ?_, Keeps.optBack (n := 1) (ob := ob3) (xs := List.map encInt y3) (H1 := []) (H2 := []) rfl⟩
    refine VO.cons rfl (V1.assign rfl rfl rfl (ltb rfl) ?_)
    refine VO.cons rfl (V1.assign rfl rfl rfl (ltb rfl) ?_)
    refine VO.nil ?_
    rcases ob3 with _ | ob3
    ·
     refine V.keep 30 [2, 3] [] (E0 := [(2, .nils), (3, .bool true)]) (H0 := []) rfl (⟨_, _, rfl, rfl, ⟨_, _, rfl, rfl, rfl⟩⟩) (rfl) rfl ?_
     refine V.ret ?_
     obtain rfl := Option.some.inj hm0
     exact ⟨_, _, ⟨_, _, rfl, rfl, ⟨_, _, rfl, rfl, rfl⟩⟩, List.Sublist.refl _, none, (fun _ => (hob3 rfl)), rfl, rfl⟩
    ·
     refine V.keep 30 [2, 3] [0] (E0 := [(2, .sref ob3 1 0 (List.length y3)), (3, .bool true)]) (H0 := [(ob3, ⟨1, List.map encInt y3⟩)]) rfl (⟨_, _, rfl, rfl, ⟨_, _, rfl, rfl, rfl⟩⟩) (⟨_, _, rfl, rfl, rfl⟩) rfl ?_
     refine V.ret ?_
     obtain rfl := Option.some.inj hm0
     exact ⟨_, _, ⟨_, _, rfl, rfl, ⟨_, _, rfl, rfl, rfl⟩⟩, List.Sublist.refl _, some ob3, (fun e => by cases e), rfl, rfl⟩
end Go.Proofs.Ytmpknfachmfbaaa
