/-
  Files closed on days; draws of files; the plain law of files. Plain.
-/
import Derived.Test.YteocnbeefedbkaaDoorFa
set_option linter.unusedSimpArgs false
set_option linter.unusedVariables false
namespace Go.Proofs.YteocnbeefedbkaaDoor
open Go.VS

def insPosF (P : List File) (x : File) : Nat → Nat
  | 0 => 0
  | k + 1 => if (P.getD k default).Closed > x.Closed then insPosF P x k else k + 1
def insF (P : List File) (x : File) : List File := P.take (insPosF P x P.length) ++ x :: P.drop (insPosF P x P.length)
def srtF (D : List File) : List File := D.foldl insF []
theorem insF_perm {P : List File} {x : File} : List.Perm (insF P x) (x :: P) := by
  unfold insF
  refine List.perm_middle.trans ?_
  rw [List.take_append_drop]
theorem srtF_snoc {D : List File} {x : File} : srtF (D ++ [x]) = insF (srtF D) x := by unfold srtF; rw [List.foldl_append]; rfl
theorem srtF_perm (D : List File) : List.Perm (srtF D) D := by
  have key : ∀ (E P : List File), List.Perm (E.foldl insF P) (P ++ E) := by
    intro E
    induction E with
    | nil => intro P; simp
    | cons x E ih =>
      intro P
      exact (ih (insF P x)).trans ((insF_perm.append_right E).trans List.perm_middle.symm)
  exact key D []
theorem srtF_len {D : List File} : (srtF D).length = D.length := (srtF_perm D).length_eq

theorem swap_atF {p x : File} {B : List File} : ∀ A : List File, (A ++ p :: x :: B).getD A.length default = p ∧ (A ++ p :: x :: B).getD (A.length + 1) default = x ∧ ((A ++ p :: x :: B).set (A.length + 1) p).set A.length x = A ++ x :: p :: B
  | [] => ⟨rfl, rfl, rfl⟩
  | a :: A => by
    obtain ⟨h1, h2, h3⟩ := swap_atF (p := p) (x := x) (B := B) A
    refine ⟨?_, ?_, ?_⟩
    · simp
    · simp
    · simp

def cmpZ (x y : Int) : Int := if x < y then -1 else if x > y then 1 else 0
theorem cmpZI (x y : Int) : M.cmp_Compare_int x y = some (cmpZ x y) := by
  unfold M.cmp_Compare_int M.cmp_isNaN_int cmpZ
  by_cases h1 : x < y
  · simp [h1]
  · by_cases h2 : y < x
    · simp [h1, h2]
    · simp [h1, h2]
theorem cmpZ_neg (x y : Int) : cmpZ x y < 0 ↔ x < y := by
  unfold cmpZ
  by_cases h1 : x < y
  · simp [h1]
  · by_cases h2 : y < x
    · simp [h1, h2]
    · simp [h1, h2]

theorem insInnerF (fm : File → File → Option Int) (P R : List File) (x : File) (hl : (P ++ x :: R).length < 1000000) (hfm : ∀ a b : File, ∃ c, fm a b = some c ∧ (c < 0 ↔ a.Closed < b.Closed)) :
    iterO (M.slices_insertionSortCmpFunc_impl_File_l1 0 fm) (P ++ x :: R, (P.length : Int)) = some (insF P x ++ R) := by
  apply T.eq
  have hl' : P.length < 1000000 := by simp at hl; omega
  refine T_iter (fun s => ∃ k : Nat, s = (P.take k ++ x :: (P.drop k ++ R), (k : Int)) ∧ k ≤ P.length ∧ insPosF P x k = insPosF P x P.length) (fun s => s.2.toNat) _ ⟨P.length, by simp, Nat.le_refl _, rfl⟩ (by simp only; omega) ?_
  rintro _ ⟨k, rfl, h1, h2⟩
  unfold M.slices_insertionSortCmpFunc_impl_File_l1
  try dsimp only
  cases k with
  | zero =>
    refine T_ask (fun hq => by simp at hq) (T_ask (fun hq => by simp at hq) ?_)
    rw [decide_eq_false (show ¬ (((0 : Nat) : Int) > 0) by omega), cond_false, Option.bind_some, Bool.false_and, cond_false]
    refine T_ret ?_
    unfold insF
    rw [← h2]
    simp [insPosF]
  | succ k =>
    have hk : k < P.length := by omega
    have hA : (P.take k).length = k := by rw [List.length_take]; omega
    have ePd : P.drop k = P.getD k default :: P.drop (k + 1) := by
      rw [List.drop_eq_getElem_cons hk]; simp [List.getD, hk]
    have eD : P.take (k + 1) ++ x :: (P.drop (k + 1) ++ R) = P.take k ++ P.getD k default :: x :: (P.drop (k + 1) ++ R) := by
      rw [take_succ_getD hk]; simp
    have hlen : (P.take (k + 1) ++ x :: (P.drop (k + 1) ++ R)).length = (P ++ x :: R).length := by
      simp; omega
    obtain ⟨s1, s2, s3⟩ := swap_atF (p := P.getD k default) (x := x) (B := P.drop (k + 1) ++ R) (P.take k)
    rw [hA, ← eD] at s1 s2 s3
    have hL : k + 1 < (P ++ x :: R).length := by simp; omega
    rw [wrap64_id (n := ((k + 1 : Nat) : Int) - 1) (by omega) (by omega), show ((k + 1 : Nat) : Int) - 1 = (k : Int) by omega, Int.toNat_natCast, Int.toNat_natCast, hlen, s1, s2]
    refine T_ask (fun _ => ⟨by omega, by omega⟩) (T_ask (fun _ => ⟨by omega, by omega⟩) ?_)
    obtain ⟨c, hc1, hc2⟩ := hfm x (P.getD k default)
    rw [decide_eq_true (show ((k + 1 : Nat) : Int) > 0 by omega), cond_true, hc1, Option.bind_some, Bool.true_and]
    have eI : insPosF P x (k + 1) = if (P.getD k default).Closed > x.Closed then insPosF P x k else k + 1 := rfl
    refine T_if (fun hq => ?_) (fun hq => ?_)
    · simp only [decide_eq_true_eq] at hq
      refine T_ask ⟨by omega, by omega⟩ (T_ask ⟨by omega, by omega⟩ (T_ask ⟨by omega, by omega⟩ (T_ask ⟨by omega, by rw [List.length_set, hlen]; omega⟩ ?_)))
      refine T_ret ?_
      rw [s3]
      refine ⟨⟨k, ?_, by omega, ?_⟩, by simp only; omega⟩
      · rw [ePd]; simp
      · rw [← h2, eI, if_pos (hc2.1 hq)]
    · simp only [decide_eq_false_iff_not] at hq
      refine T_ret ?_
      unfold insF
      rw [← h2, eI, if_neg (fun h => hq (hc2.2 h))]
      simp

theorem insOuterF (fm : File → File → Option Int) (D : List File) (hn : D.length < 100000) (hfm : ∀ a b : File, ∃ c, fm a b = some c ∧ (c < 0 ↔ a.Closed < b.Closed)) : M.slices_insertionSortCmpFunc_impl_File D 0 (D.length : Int) fm = some (srtF D) := by
  unfold M.slices_insertionSortCmpFunc_impl_File
  rw [show IntKind.i64.wrap (0 + 1) = 1 from wrap64_id (by omega) (by omega)]
  cases D with
  | nil =>
    rw [iterO_now (e := ([] : List File)) (by unfold M.slices_insertionSortCmpFunc_impl_File_l0; rfl)]
    rfl
  | cons d E =>
    obtain ⟨D, hD⟩ : ∃ D, d :: E = D := ⟨_, rfl⟩
    have hlen : D.length = E.length + 1 := by rw [← hD]; rfl
    rw [hD] at hn ⊢
    rw [iter_up (s := (D, (1 : Int))) (step := M.slices_insertionSortCmpFunc_impl_File_l0 0 (D.length : Int) fm) (e := srtF D) (fun k => (srtF (D.take (k + 1)) ++ D.drop (k + 1), ((k + 1 : Nat) : Int))) E.length (by rw [← hD]; rfl) (by omega) (fun k hk => by
      unfold M.slices_insertionSortCmpFunc_impl_File_l0
      try dsimp only
      have hk1 : k + 1 < D.length := by omega
      rw [decide_eq_true (show ((k + 1 : Nat) : Int) < (D.length : Int) by omega), cond_true, List.drop_eq_getElem_cons hk1]
      have hP : (srtF (D.take (k + 1))).length = k + 1 := by rw [srtF_len, List.length_take]; omega
      have := insInnerF fm (srtF (D.take (k + 1))) (D.drop (k + 1 + 1)) D[k + 1] (by simp [hP]; omega) hfm
      rw [hP] at this
      rw [this, Option.bind_some]
      try dsimp only
      rw [wrap64_id (by omega) (by omega), take_succ_getD hk1, srtF_snoc]
      have e : D.getD (k + 1) default = D[k + 1] := by simp [List.getD, hk1]
      rw [e]; rfl) (by
      unfold M.slices_insertionSortCmpFunc_impl_File_l0
      try dsimp only
      rw [decide_eq_false (by omega), cond_false, List.drop_eq_nil_of_le (by omega), List.append_nil, List.take_of_length_le (by omega)])]
    rfl

theorem stableF (fm : File → File → Option Int) (D : List File) (hn : D.length ≤ 12) (hfm : ∀ a b : File, ∃ c, fm a b = some c ∧ (c < 0 ↔ a.Closed < b.Closed)) : M.slices_SortStableFunc_impl_File_impl_File D fm = some (srtF D) := by
  unfold M.slices_SortStableFunc_impl_File_impl_File M.slices_stableCmpFunc_impl_File
  rw [iterO_now (e := (0 : Int)) (by unfold M.slices_stableCmpFunc_impl_File_l0; dsimp only; rw [asrt_pos (by rw [decide_eq_false_iff_not]; omega)]), Option.bind_some]
  try dsimp only
  rw [insOuterF fm D (by omega) hfm, Option.bind_some, asrt_pos srtF_len, iterO_now (e := ()) (by unfold M.slices_stableCmpFunc_impl_File_l1; dsimp only; rw [asrt_pos (by rw [decide_eq_false_iff_not]; omega)]), Option.bind_some]
  try dsimp only
  rw [Option.bind_some, asrt_pos srtF_len]

def selF (a b : Int) (f : File) : Bool := (f.State != 0) && inR f.Closed a b
def ClosedD (l : List File) (a b : Int) : List Int × Bool := bif filesOk l && daysF a b then ((srtF (l.filter (selF a b))).map (·.Id), true) else ([], false)
theorem closedLoop0 (l : List File) (a b : Int) (hl : l.length < 1000000) : iterO (M.impl_ClosedSince_l0 l a b) (([] : List File), (0 : Int)) = some (l.filter (selF a b)) := by
  rw [iter_coll (s := (([] : List File), (0 : Int))) (step := M.impl_ClosedSince_l0 l a b) (fun acc k => (acc, (k : Int))) (fun f => bif selF a b f then [f] else []) (fun acc => acc) l rfl (by omega) (fun k hk => if_len _ _) (fun acc k hk hI => ?_) (fun acc hI => ?_)]
  · rw [flatMap_if (selF a b) (fun f => f), List.map_id']
  · unfold M.impl_ClosedSince_l0
    dsimp only
    rw [decide_eq_true (show (k : Int) < (l.length : Int) by omega), cond_true, asrt_pos ⟨by omega, by omega⟩, Int.toNat_natCast, withinI, wrap64_id (by omega) (by omega)]
    unfold selF
    cases (l.getD k default).State != 0
    · simp
    · rw [cond_true, Option.bind_some, Bool.true_and]
      cases inR (l.getD k default).Closed a b
      · simp
      · rw [cond_true, cond_true, asrt_pos (by simp; omega)]
        rfl
  · unfold M.impl_ClosedSince_l0
    dsimp only
    rw [decide_eq_false (by omega)]
    rfl
theorem closedLoop1 (l : List File) (hl : l.length < 1000000) : iterO (M.impl_ClosedSince_l1 l) (([] : List Int), (0 : Int)) = some (l.map (·.Id)) := by
  rw [iter_coll (s := (([] : List Int), (0 : Int))) (step := M.impl_ClosedSince_l1 l) (fun acc k => (acc, (k : Int))) (fun f => [f.Id]) (fun acc => acc) l rfl (by omega) (fun k hk => by simp) (fun acc k hk hI => ?_) (fun acc hI => ?_)]
  · congr 1
    induction l with
    | nil => rfl
    | cons x t ih => simp only [List.flatMap_cons, List.map_cons, ih (by simp at hl; omega)]; rfl
  · unfold M.impl_ClosedSince_l1
    dsimp only
    rw [decide_eq_true (show (k : Int) < (l.length : Int) by omega), cond_true, asrt_pos ⟨by omega, by omega⟩, asrt_pos (by simp; omega), Int.toNat_natCast, wrap64_id (by omega) (by omega)]
    rfl
  · unfold M.impl_ClosedSince_l1
    dsimp only
    rw [decide_eq_false (by omega)]
    rfl
theorem closedI (l : List File) (a b : Int) (hl : FiB l) : M.impl_ClosedSince l a b = some (ClosedD l a b) := by
  have hlen := hl.1
  unfold M.impl_ClosedSince ClosedD
  rw [filesI l hl, Option.bind_some]
  cases h : filesOk l
  · rfl
  have hP := filesOk_iff.1 h
  have h10 := hP.len
  rw [Bool.not_true, cond_false, areDaysF, Option.bind_some, Bool.true_and]
  cases daysF a b
  · rfl
  have hs : (l.filter (selF a b)).length ≤ 10 := Nat.le_trans (List.length_filter_le _ _) h10
  rw [Bool.not_true, Bool.or_self, cond_false, cond_true, closedLoop0 l a b (by omega), Option.bind_some]
  dsimp only
  rw [stableF _ _ (by omega) (fun x y => ⟨cmpZ x.Closed y.Closed, by unfold M.impl_ClosedSince_1; rw [cmpZI]; rfl, cmpZ_neg _ _⟩), Option.bind_some, asrt_pos srtF_len, closedLoop1 _ (by rw [srtF_len]; omega), Option.bind_some]

def TtB (t : List File) : Prop := ∀ f ∈ t, f.Title.length ≤ 11
def FlD (t : List File) : Prop := t.length ≤ 16 ∧ TtB t
theorem TtB.nil : TtB [] := fun _ h => absurd h (by simp)
theorem TtB.app {t : List File} {f : File} (h : TtB t) (hf : f.Title.length ≤ 11) : TtB (t ++ [f]) := by
  intro x hx
  rcases List.mem_append.1 hx with q | q
  · exact h x q
  · rw [List.mem_singleton.1 q]; exact hf
theorem FlD.b {t : List File} (h : FlD t) : FiB t := ⟨by have := h.1; omega, fun f hf => by have := h.2 f hf; omega⟩
theorem good0f {code : List Int} : Good code 0 (⟨code, 0, 0⟩ : Cur) := ⟨rfl, Int.le_refl _, Int.le_refl _⟩
theorem leastT (a b : Int) : T (M.spec_l1Least a b) (fun _ => True) := by
  unfold M.spec_l1Least
  refine T_if (fun _ => T_ret trivial) (fun _ => T_ret trivial)

theorem drawFile {code : List Int} {k : Nat} {c : Cur} (hb : Bytes code) (i : Int) (h : Good code k c) (hk : k < 100000) : T (M.spec_l1Cur_file5 c i) (fun r => r.1.Title.length ≤ 11 ∧ Good code (k + 30) r.2) := by
  unfold M.spec_l1Cur_file5
  refine T_among hb h (by omega) (by simp) ?_
  intro x1 c1 _ h1
  refine T_of hb h1 (by omega) (by simp) ?_
  intro nm c2 hnm h2
  have hnm : nm.length ≤ 11 := (by decide : ∀ x ∈ ([[97, 112, 112, 101, 97, 108, 115], [98, 117, 100, 103, 101, 116], [99, 108, 97, 105, 109, 115], [100, 101, 101, 100, 115], [101, 118, 101, 110, 116, 115]] : List (List UInt8)), x.length ≤ 11) nm hnm
  refine T_among hb h2 (by omega) (by simp) ?_
  intro x3 c3 _ h3
  refine T_among hb h3 (by omega) (by simp) ?_
  intro x4 c4 _ h4
  refine T_among hb h4 (by omega) (by simp) ?_
  intro x5 c5 _ h5
  dsimp only
  refine T.then (Q := fun e => e.2.Title.length ≤ 11 ∧ Good code (k + 14) e.1) ?_ ?_
  · refine T_if (fun _ => ?_) (fun _ => T_ret ⟨hnm, h5.up (by omega)⟩)
    refine T_among hb h5 (by omega) (by simp) ?_
    intro x6 c6 _ h6
    refine (leastT _ _).then ?_
    intro y _
    rw [Option.bind_some]
    exact T_ret ⟨hnm, h6.up (by omega)⟩
  · rintro ⟨c6, f⟩ ⟨q1, q2⟩
    simp only at q1 q2
    dsimp only
    refine T_pick hb q2 (by omega) ?_
    intro x7 c7 _ _ h7
    dsimp only
    refine T.then (Q := fun e => e.2.Title.length ≤ 11 ∧ Good code (k + 30) e.1) ?_ ?_
    · refine T_if (fun _ => ?_) (fun _ => T_if (fun _ => ?_) (fun _ => T_if (fun _ => ?_) (fun _ => T_if (fun _ => ?_) (fun _ => T_if (fun _ => ?_) (fun _ => T_if (fun _ => ?_) (fun _ => T_if (fun _ => ?_) (fun _ => T_ret ⟨q1, h7.up (by omega)⟩)))))))
      · refine T_among hb h7 (by omega) (by simp) ?_
        intro x8 c8 _ h8
        exact T_ret ⟨q1, h8.up (by omega)⟩
      · refine T_among hb h7 (by omega) (by simp) ?_
        intro x8 c8 _ h8
        exact T_ret ⟨q1, h8.up (by omega)⟩
      · refine T_of hb h7 (by omega) (by simp) ?_
        intro x8 c8 hx8 h8
        exact T_ret ⟨(by decide : ∀ x ∈ ([[], [65], [97, 98, 99, 100, 101, 102, 103, 104, 105, 106, 107]] : List (List UInt8)), x.length ≤ 11) x8 hx8, h8.up (by omega)⟩
      · refine T_among hb h7 (by omega) (by simp) ?_
        intro x8 c8 _ h8
        exact T_ret ⟨q1, h8.up (by omega)⟩
      · refine T_among hb h7 (by omega) (by simp) ?_
        intro x8 c8 _ h8
        exact T_ret ⟨q1, h8.up (by omega)⟩
      · refine T_among hb h7 (by omega) (by simp) ?_
        intro x8 c8 _ h8
        exact T_ret ⟨q1, h8.up (by omega)⟩
      · refine T_among hb h7 (by omega) (by simp) ?_
        intro x8 c8 _ h8
        exact T_ret ⟨q1, h8.up (by omega)⟩
    · rintro ⟨c8, f1⟩ h8
      exact T_ret h8

theorem filesLoop0 {code : List Int} (hb : Bytes code) (K : Nat) (hK : K < 1000) (n : Nat) (hn : n ≤ 7) (c : Cur) (hc : Good code K c) : T (iterO (M.spec_l1Cur_files5_l0) (([] : List File), (0 : Int), (n : Int), c)) (fun r => FlD r.1 ∧ Good code (K + 280) r.2) := by
  refine T_iter (fun s => ∃ m : Nat, s.2.2.1 = (m : Int) ∧ m ≤ 7 ∧ s.1.length + m ≤ 7 ∧ TtB s.1 ∧ Good code (K + (7 - m) * 40) s.2.2.2) (fun s => s.2.2.1.toNat) _ ⟨n, rfl, hn, by simp; omega, TtB.nil, hc.up (by omega)⟩ (by simp only; omega) ?_
  rintro ⟨out, id_, _, c0⟩ ⟨m, rfl, g1, g2, g3, g4⟩
  simp only at g2 g3 g4
  unfold M.spec_l1Cur_files5_l0
  dsimp only
  refine T_if (fun hq => ?_) (fun hq => ?_)
  · simp only [decide_eq_true_eq] at hq
    obtain ⟨m', rfl⟩ : ∃ m', m = m' + 1 := ⟨m - 1, by omega⟩
    refine T.then (Q := fun e => e.1.length + m' ≤ 7 ∧ TtB e.1 ∧ Good code (K + (7 - m') * 40) e.2.2) ?_ ?_
    · refine T_pick hb g4 (by omega) ?_
      intro x1 c2 _ _ h2
      dsimp only
      refine T_ask (by simp; omega) ?_
      refine (drawFile hb _ h2 (by omega)).then ?_
      rintro ⟨f0, c3⟩ ⟨r1, r2⟩
      simp only at r1 r2
      dsimp only
      have hl0 : (([] : List File) ++ out ++ [f0]).length = out.length + 1 := by simp
      have hnb : TtB ([] ++ out ++ [f0]) := TtB.app g3 r1
      refine T_ask (by simp; omega) ?_
      rw [filesS _ ⟨by omega, fun f hf => by have := hnb f hf; omega⟩, Option.bind_some]
      cases filesOk ([] ++ out ++ [f0])
      · rw [cond_false]
        refine T_one hb r2 (by omega) ?_
        intro b7 c7 h7
        dsimp only
        rw [Bool.false_or, cond_false]
        exact T_if (fun _ => T_ret ⟨by simp only [hl0]; omega, hnb, h7.up (by omega)⟩) (fun _ => T_ret ⟨by simp only; omega, g3, h7.up (by omega)⟩)
      · rw [cond_true, Option.bind_some, Bool.true_or, cond_true, cond_true]
        exact T_ret ⟨by simp only [hl0]; omega, hnb, r2.up (by omega)⟩
    · rintro ⟨o, i, c9⟩ ⟨a1, a2, a3⟩
      simp only at a1 a2 a3
      refine T_ret ?_
      simp only
      rw [wrap64_id (by omega) (by omega)]
      exact ⟨⟨m', by omega, by omega, a1, a2, a3⟩, by omega⟩
  · exact T_ret ⟨⟨by simp only; omega, g3⟩, g4.up (by omega)⟩

theorem filesLoop1 {code : List Int} (hb : Bytes code) (K : Nat) (hK : K < 1000) (c : Cur) (hc : Good code K c) : T (iterO (M.spec_l1Cur_files5_l1) (([] : List File), (0 : Int), c)) (fun r => FlD r.1 ∧ Good code (K + 40) r.2) := by
  refine T_iter (fun s => ∃ m : Nat, s.2.1 = (m : Int) ∧ m ≤ 11 ∧ s.1.length = m ∧ TtB s.1 ∧ Good code (K + m * 2) s.2.2) (fun s => 11 - s.2.1.toNat) _ ⟨0, rfl, by omega, by simp, TtB.nil, hc.up (by omega)⟩ (by simp only; omega) ?_
  rintro ⟨out, _, c0⟩ ⟨m, rfl, g1, g2, g3, g4⟩
  simp only at g2 g3 g4
  unfold M.spec_l1Cur_files5_l1
  dsimp only
  refine T_pick hb g4 (by omega) ?_
  intro x c1 _ hx h1
  have hx := hx (by omega)
  dsimp only
  rw [wrap64_id (n := 10 + x) (by omega) (by omega)]
  refine T_if (fun hq => ?_) (fun hq => ?_)
  · simp only [decide_eq_true_eq] at hq
    refine T_ask (by simp; omega) (T_ret ?_)
    simp only
    rw [wrap64_id (by omega) (by omega)]
    exact ⟨⟨m + 1, by omega, by omega, by simp; omega, TtB.app g3 (by simp), h1.up (by omega)⟩, by omega⟩
  · exact T_ret ⟨⟨by simp only; omega, g3⟩, h1.up (by omega)⟩

theorem drawFiles {code : List Int} (hb : Bytes code) : T (M.spec_l1Cur_files5 (⟨code, (0 : Int), (0 : Int)⟩ : Cur)) (fun r => FlD r.1 ∧ Good code 400 r.2) := by
  unfold M.spec_l1Cur_files5
  refine T_pick hb good0f (by omega) ?_
  intro n c1 _ hn h1
  have hn := hn (by omega)
  obtain ⟨n', rfl⟩ := Int.eq_ofNat_of_zero_le hn.1
  refine (filesLoop0 hb 2 (by omega) n' (by omega) c1 h1).then ?_
  rintro ⟨o, c2⟩ ⟨g1, g2⟩
  dsimp only
  refine T_one hb g2 (by omega) ?_
  intro b c3 h3
  refine T_if (fun _ => ?_) (fun _ => T_ret ⟨g1, h3.up (by omega)⟩)
  refine (filesLoop1 hb (2 + 280 + 2) (by omega) c3 h3).then ?_
  rintro ⟨o2, c4⟩ ⟨q1, q2⟩
  exact T_ret ⟨q1, q2.up (by omega)⟩

theorem drawFiId {code : List Int} {k : Nat} {c : Cur} (hb : Bytes code) (t : List File) (s : Int) (ht : t.length ≤ 16) (h : Good code k c) (hk : k < 100000) : T (M.spec_l1Cur_fileId c t s) (fun r => Good code (k + 40) r.2) := by
  unfold M.spec_l1Cur_fileId
  refine T.then (Q := fun e => e.1.length ≤ 16 ∧ Good code (k + 32) e.2) (T_iter (fun q => ∃ m : Nat, q.2.1 = (m : Int) ∧ m ≤ t.length ∧ q.1.length ≤ m ∧ Good code (k + m * 2) q.2.2) (fun q => t.length - q.2.1.toNat) _ ⟨0, rfl, by omega, by simp, h.up (by omega)⟩ (by simp only; omega) ?_) ?_
  · rintro ⟨ids, _, c0⟩ ⟨m, rfl, g1, g2, g3⟩
    simp only at g2 g3
    unfold M.spec_l1Cur_fileId_l0
    dsimp only
    refine T_if (fun hq => ?_) (fun hq => ?_)
    · simp only [decide_eq_true_eq] at hq
      refine T.then (Q := fun e => e.1.length ≤ m + 1 ∧ Good code (k + (m + 1) * 2) e.2) ?_ ?_
      · refine T_ask ⟨by omega, by omega⟩ ?_
        cases (t.getD (Int.toNat (m : Int)) default).State == s
        · rw [cond_false]
          refine T_one hb g3 (by omega) ?_
          intro b c1 h1
          dsimp only
          rw [Bool.false_or, cond_false]
          exact T_if (fun _ => T_ask ⟨by omega, by omega⟩ (T_ask (by simp; omega) (T_ret ⟨by simp; omega, h1.up (by omega)⟩))) (fun _ => T_ret ⟨by simp only; omega, h1.up (by omega)⟩)
        · rw [cond_true, Option.bind_some, Bool.true_or, cond_true, cond_true]
          exact T_ask ⟨by omega, by omega⟩ (T_ask (by simp; omega) (T_ret ⟨by simp; omega, g3.up (by omega)⟩))
      · rintro ⟨o, c9⟩ ⟨a1, a2⟩
        simp only at a1 a2
        refine T_ret ?_
        simp only
        rw [wrap64_id (by omega) (by omega)]
        exact ⟨⟨m + 1, by omega, by omega, a1, a2⟩, by omega⟩
    · exact T_ret ⟨by simp only; omega, g3.up (by omega)⟩
  · rintro ⟨ids, c1⟩ ⟨g1, g2⟩
    simp only at g1 g2
    dsimp only
    refine T_if (fun _ => ?_) (fun hne => ?_)
    · refine T_among hb g2 (by omega) (by simp) ?_
      intro x c2 _ h2
      exact T_ret (h2.up (by omega))
    · refine T_pick hb g2 (by omega) ?_
      intro x c2 _ hx h2
      rw [beq_eq_false_iff_ne] at hne
      exact T_ask (hx (by omega)) (T_ret (h2.up (by omega)))

theorem rFiles_self (a : List File) (hl : a.length < 1000000) : M.laws_rFiles a a = some true := by
  unfold M.laws_rFiles
  rw [bne_self_eq_false, cond_false]
  rw [iter_up (s := 0) (step := M.laws_rFiles_l0 a a) (e := .inl ()) (fun k => (k : Int)) a.length rfl (by omega) (fun k hk => by
    unfold M.laws_rFiles_l0
    simp (disch := first | omega | (intros; simp only [decide_eq_true_eq, decide_eq_false_iff_not, Bool.not_eq_true, Bool.not_eq_false, Bool.not_true, Bool.not_false] at *; omega)) only [cast_succ, asrt_pos, wrap64_id, Option.bind_some, cond_true, cond_false, decide_eq_true, decide_eq_false, Int.toNat_natCast, Bool.not_true, Bool.not_false, Bool.and_true, Bool.true_and, Bool.and_false, Bool.false_and, Bool.or_true, Bool.true_or, Bool.or_false, Bool.false_or, beq_self_eq_true]) (by
    unfold M.laws_rFiles_l0
    simp (disch := first | omega | (intros; simp only [decide_eq_true_eq, decide_eq_false_iff_not, Bool.not_eq_true, Bool.not_eq_false, Bool.not_true, Bool.not_false] at *; omega)) only [cast_succ, asrt_pos, wrap64_id, Option.bind_some, cond_true, cond_false, decide_eq_true, decide_eq_false, Int.toNat_natCast, Bool.not_true, Bool.not_false, Bool.and_true, Bool.true_and, Bool.and_false, Bool.false_and, Bool.or_true, Bool.true_or, Bool.or_false, Bool.false_or])]
  rfl
theorem nilB : FiB [] := ⟨by simp, fun _ h => absurd h (by simp)⟩
theorem put_b {l : List File} {i : Int} {f : File} (hl : FiB l) (hi : hasFi l i = true) (hf : f.Title = (fileAtF l i).Title) : FiB (putFi l i f) :=
  putFi_b hl (by rw [hf]; exact hl.2 _ (getD_mem (atFi_spec hi).2.1))
end Go.Proofs.YteocnbeefedbkaaDoor
