/-
  Checksums, entries of ledgers, hashes of pairs, rounds and roots. Plain.
-/
import Derived.Test.YthcmelnpcaijaaaDoorHa
import Derived.Test.YthcmelnpcaijaaaDoorWo
import Derived.Test.YthcmelnpcaijaaaDoorNu
set_option linter.unusedSimpArgs false
set_option linter.unusedVariables false
namespace Go.Proofs.YthcmelnpcaijaaaDoor
open Go.VS

/-! ### Lengths of numbers -/
theorem numN_len10 : ∀ (k u : Nat), u < 10 ^ (k + 1) → (numN u).length ≤ k + 1
  | 0, u, h => by rw [numN_small (by omega)]; simp
  | k + 1, u, h => by
    rcases Nat.lt_or_ge u 10 with h1 | h1
    · rw [numN_small h1]; simp
    · rw [numN_big h1, List.length_append]
      have := numN_len10 k (u / 10) (by rw [Nat.pow_succ] at h; omega)
      simp only [List.length_cons, List.length_nil]
      omega
theorem numT_len7 {n : Int} (h0 : 0 ≤ n) (h1 : n ≤ 9999999) : (numT n).length ≤ 7 := by
  have e : n = ((n.toNat : Nat) : Int) := by omega
  rw [e, numT_nat]
  exact numN_len10 6 _ (by omega)

/-! ### Checksums -/
def csumF (n : Int) (b : UInt8) : Int := (41 * n + (b.toNat : Int) + 1) % 999979
def csum (s : List UInt8) : Int := s.foldl csumF 7
theorem csumF_bd (n : Int) (b : UInt8) : 0 ≤ csumF n b ∧ csumF n b < 999979 := by unfold csumF; omega
theorem csum_foldl_bd : ∀ (s : List UInt8) (n : Int), 0 ≤ n → n < 999979 → 0 ≤ s.foldl csumF n ∧ s.foldl csumF n < 999979
  | [], n, h0, h1 => ⟨h0, h1⟩
  | b :: s, n, h0, h1 => csum_foldl_bd s _ (csumF_bd n b).1 (csumF_bd n b).2
theorem csum_bd (s : List UInt8) : 0 ≤ csum s ∧ csum s < 999979 := csum_foldl_bd s 7 (by omega) (by omega)

theorem csum_num {h : Int} {b : UInt8} (h0 : 0 ≤ h) (h1 : h < 999979) : Int.tmod (IntKind.i64.wrap ((IntKind.i64.wrap ((IntKind.i64.wrap ((41 : Int) * h)) + (IntKind.i64.wrap (b.toNat : Int)))) + (1 : Int))) (999979 : Int) = csumF h b := by
  have hb : (b.toNat : Int) < 256 := by have := b.toNat_lt; omega
  rw [wrap64_id (n := 41 * h) (by omega) (by omega), wrap64_id (n := (b.toNat : Int)) (by omega) (by omega), wrap64_id (n := 41 * h + (b.toNat : Int)) (by omega) (by omega), wrap64_id (by omega) (by omega), Int.tmod_eq_emod_of_nonneg (by omega)]
  rfl

theorem csumI (s : List UInt8) (hl : s.length < 1000000) : M.impl_checksum s = some (csum s) := by
  unfold M.impl_checksum
  rw [iter_fold (step := M.impl_checksum_l0 s) (s := ((7 : Int), (0 : Int))) (fun a k => (a, (k : Int))) csumF id s 7 (fun a _ => 0 ≤ a ∧ a < 999979) rfl (by omega) ⟨by omega, by omega⟩ (fun a k hk ha => by
    refine ⟨?_, csumF_bd _ _⟩
    unfold M.impl_checksum_l0
    try dsimp only
    rw [decide_eq_true (by omega), cond_true, asrt_pos ⟨by omega, by omega⟩, Int.toNat_natCast, csum_num ha.1 ha.2, wrap64_id (n := (k : Int) + 1) (by omega) (by omega)]
    rfl) (fun a ha => by
    unfold M.impl_checksum_l0
    try dsimp only
    rw [decide_eq_false (by omega), cond_false]
    rfl)]
  rfl
theorem csumS (s : List UInt8) (hl : s.length < 1000000) : M.spec_l1Sum s = some (csum s) := by
  unfold M.spec_l1Sum
  rw [iter_fold (step := M.spec_l1Sum_l0 s) (s := ((7 : Int), (0 : Int))) (fun a k => (a, (k : Int))) csumF id s 7 (fun a _ => 0 ≤ a ∧ a < 999979) rfl (by omega) ⟨by omega, by omega⟩ (fun a k hk ha => by
    refine ⟨?_, csumF_bd _ _⟩
    unfold M.spec_l1Sum_l0
    try dsimp only
    rw [decide_eq_true (by omega), cond_true, asrt_pos ⟨by omega, by omega⟩, Int.toNat_natCast, csum_num ha.1 ha.2, wrap64_id (n := (k : Int) + 1) (by omega) (by omega)]
    rfl) (fun a ha => by
    unfold M.spec_l1Sum_l0
    try dsimp only
    rw [decide_eq_false (by omega), cond_false]
    rfl)]
  rfl
theorem CsumI (s : List UInt8) (hl : s.length ≤ 4000) : M.impl_Checksum s = some (csum s, true) := by
  unfold M.impl_Checksum
  rw [decide_eq_false (by omega), cond_false, csumI s (by omega)]
  rfl

/-! ### Entries -/
def entB (b : UInt8) : Bool := (lower b || (decide (48 ≤ b.toNat) && decide (b.toNat ≤ 57))) || (b.toNat == 32 || b.toNat == 45)
def entOk (s : List UInt8) : Bool := inR (s.length : Int) 1 40 && s.all entB
def entSet : List UInt8 := [97, 98, 99, 100, 101, 102, 103, 104, 105, 106, 107, 108, 109, 110, 111, 112, 113, 114, 115, 116, 117, 118, 119, 120, 121, 122, 48, 49, 50, 51, 52, 53, 54, 55, 56, 57, 32, 45]
theorem entSet_all : ∀ n : Fin 256, entSet.contains (UInt8.ofNat n.val) = entB (UInt8.ofNat n.val) := by decide +kernel
theorem entSet_B (b : UInt8) : entSet.contains b = entB b := by
  have := entSet_all ⟨b.toNat, b.toNat_lt⟩
  simpa using this

theorem entI (s : List UInt8) (hl : s.length < 1000000) : M.impl_isEntry s = some (entOk s) := by
  unfold M.impl_isEntry M.strings_Trim entOk
  rw [withinI, Option.bind_some]
  cases h : inR (s.length : Int) 1 40
  · rfl
  · simp only [cond_true, Bool.true_and]
    rw [asrt_pos ⟨by omega, by decide, by decide⟩, Option.bind_some]
    congr 1
    rw [Bool.eq_iff_iff, beq_iff_eq]
    refine trimS_nil.trans ?_
    rw [show (fun x => List.contains [97, 98, 99, 100, 101, 102, 103, 104, 105, 106, 107, 108, 109, 110, 111, 112, 113, 114, 115, 116, 117, 118, 119, 120, 121, 122, 48, 49, 50, 51, 52, 53, 54, 55, 56, 57, 32, 45] x) = entB from funext entSet_B]

theorem entS (s : List UInt8) (hl : s.length < 1000000) : M.spec_l16Entry s = some (entOk s) := by
  have step : ∀ k : Nat, k < s.length → M.spec_l16Entry_l0 s (k : Int) = some (bif !entB (s.getD k default) then .inr (.inr false) else .inl ((k : Int) + 1)) := fun k hk => by
    unfold M.spec_l16Entry_l0 M.spec_l15Letter
    try dsimp only
    rw [decide_eq_true (by omega), cond_true, asrt_pos ⟨by omega, by omega⟩, Int.toNat_natCast, Option.bind_some, wrap64_id (n := (k : Int) + 1) (by omega) (by omega)]
    have e : ∀ b : UInt8, ((((!((decide ((b.toNat : Int) ≥ (97 : Int))) && (decide ((b.toNat : Int) ≤ (122 : Int))))) && (!((decide ((b.toNat : Int) ≥ (48 : Int))) && (decide ((b.toNat : Int) ≤ (57 : Int)))))) && ((b.toNat : Int) != (32 : Int))) && ((b.toNat : Int) != (45 : Int))) = !entB b := by
      intro b
      unfold entB lower
      rw [Bool.eq_iff_iff]
      simp only [Bool.and_eq_true, Bool.not_eq_true', Bool.and_eq_false_iff, decide_eq_false_iff_not, bne_iff_ne, Bool.or_eq_false_iff, beq_eq_false_iff_ne, ge_iff_le]
      omega
    rw [show s.getD k 0 = s.getD k default from rfl, e]
    cases !entB (s.getD k default) <;> rfl
  unfold M.spec_l16Entry entOk
  rw [iter_any (step := M.spec_l16Entry_l0 s) (s := 0) (fun k => (k : Int)) s.length (fun k => !entB (s.getD k default)) (.inr false) (.inl ()) rfl (by omega)
    (fun k hk hp => by rw [step k hk, hp]; simp)
    (fun k hk hp => by rw [step k hk, hp]; rfl)
    (by
      unfold M.spec_l16Entry_l0
      simp (disch := first | omega | (intros; simp only [decide_eq_true_eq, decide_eq_false_iff_not, Bool.not_eq_true, Bool.not_eq_false, Bool.not_true, Bool.not_false] at *; omega)) only [cast_succ, asrt_pos, wrap64_id, Option.bind_some, cond_true, cond_false, decide_eq_true, decide_eq_false, Int.toNat_natCast, Bool.not_true, Bool.not_false, Bool.and_true, Bool.true_and, Bool.and_false, Bool.false_and, Bool.or_true, Bool.true_or, Bool.or_false, Bool.false_or])]
  rw [← any_getD (p := fun b => !entB b)]
  have : (s.any fun b => !entB b) = !s.all entB := by
    rw [List.all_eq_not_any_not, Bool.not_not]
  rw [this]
  cases s.all entB
  · simp
  · simp only [Bool.not_true, cond_false, Option.bind_some, l1InS, Bool.and_true]

def leaf (s : List UInt8) : Int := csum (108 :: s)
def pairH (a b : Int) : Int := csum (110 :: (numT a ++ 44 :: numT b))
theorem leafI (s : List UInt8) (hl : s.length ≤ 1000) : M.impl_entryHash s = some (leaf s) := by
  unfold M.impl_entryHash
  rw [asrt_pos (by simp; omega), CsumI _ (by simp; omega)]
  rfl
theorem leafS (s : List UInt8) (hl : s.length ≤ 1000) : M.spec_l16Leaf s = some (leaf s) := by
  unfold M.spec_l16Leaf
  rw [asrt_pos (by simp; omega), csumS _ (by simp; omega)]
  rfl
theorem pair_text {a b : List UInt8} : ((([110] : List UInt8) ++ a) ++ ([44] : List UInt8)) ++ b = 110 :: (a ++ 44 :: b) := by simp
theorem pairI (a b : Int) (ha : 0 ≤ a ∧ a ≤ 9999999) (hb : 0 ≤ b ∧ b ≤ 9999999) : M.impl_pairHash a b = some (pairH a b) := by
  have h1 := numT_len7 ha.1 ha.2
  have h2 := numT_len7 hb.1 hb.2
  unfold M.impl_pairHash
  rw [decI a (by omega) (by omega), Option.bind_some, asrt_pos (by simp; omega), asrt_pos (by simp; omega), decI b (by omega) (by omega), Option.bind_some, asrt_pos (by simp; omega), pair_text, CsumI _ (by simp; omega)]
  rfl
theorem pairS (a b : Int) (ha : 0 ≤ a ∧ a ≤ 9999999) (hb : 0 ≤ b ∧ b ≤ 9999999) : M.spec_l16Pair a b = some (pairH a b) := by
  have h1 := numT_len7 ha.1 ha.2
  have h2 := numT_len7 hb.1 hb.2
  unfold M.spec_l16Pair
  rw [numS a (by omega) (by omega), Option.bind_some, asrt_pos (by simp; omega), asrt_pos (by simp; omega), numS b (by omega) (by omega), Option.bind_some, asrt_pos (by simp; omega), pair_text, csumS _ (by simp; omega)]
  rfl

def hashOk (n : Int) : Bool := inR n 0 999999
theorem hashI (n : Int) : M.impl_isHash n = some (hashOk n) := rfl
theorem hashS (n : Int) : M.spec_l16Hash n = some (hashOk n) := rfl
theorem hashOk_bd {n : Int} (h : hashOk n = true) : 0 ≤ n ∧ n ≤ 9999999 := by
  have := inR_true.1 h; omega
/-! ### Ledgers -/
def TextsB (l : List (List UInt8)) : Prop := l.length < 1000 ∧ ∀ s ∈ l, s.length ≤ 1000
theorem TextsB.at {l : List (List UInt8)} (h : TextsB l) {k : Nat} (hk : k < l.length) : (l.getD k default).length ≤ 1000 := h.2 _ (getD_mem hk)
def ledOk (l : List (List UInt8)) : Bool := inR (l.length : Int) 1 8 && l.all entOk

theorem ledI (l : List (List UInt8)) (hl : TextsB l) : M.impl_IsLedger l = some (ledOk l) := by
  unfold M.impl_IsLedger ledOk M.slices_ContainsFunc_string_string M.slices_IndexFunc_string_string
  rw [withinI, Option.bind_some]
  cases h : inR (l.length : Int) 1 8
  · rfl
  · simp only [cond_true, Bool.true_and]
    have h1 : l.length < 1000 := hl.1
    have hfm : ∀ k : Nat, k < l.length → M.impl_IsLedger_1 (l.getD k default) = some (!entOk (l.getD k default)) := fun k hk => by
      unfold M.impl_IsLedger_1
      rw [entI _ (by have := hl.at hk; omega)]; rfl
    have key := iter_find (step := M.slices_IndexFunc_string_string_l0 l (fun x0 => M.impl_IsLedger_1 x0)) (s := 0) (fun k => (k : Int)) l.length (fun k => !entOk (l.getD k default)) (fun k => .inr (k : Int)) (.inl ()) rfl (by omega)
      (fun k hk hp => by
        have := hfm k hk
        unfold M.slices_IndexFunc_string_string_l0
        simp (disch := first | omega | (intros; simp only [decide_eq_true_eq, decide_eq_false_iff_not, Bool.not_eq_true, Bool.not_eq_false, Bool.not_true, Bool.not_false] at *; omega)) only [cast_succ, asrt_pos, wrap64_id, Option.bind_some, cond_true, cond_false, decide_eq_true, decide_eq_false, Int.toNat_natCast, Bool.not_true, Bool.not_false, Bool.and_true, Bool.true_and, Bool.and_false, Bool.false_and, Bool.or_true, Bool.true_or, Bool.or_false, Bool.false_or, this, hp])
      (fun k hk hp => by
        have := hfm k hk
        unfold M.slices_IndexFunc_string_string_l0
        simp (disch := first | omega | (intros; simp only [decide_eq_true_eq, decide_eq_false_iff_not, Bool.not_eq_true, Bool.not_eq_false, Bool.not_true, Bool.not_false] at *; omega)) only [cast_succ, asrt_pos, wrap64_id, Option.bind_some, cond_true, cond_false, decide_eq_true, decide_eq_false, Int.toNat_natCast, Bool.not_true, Bool.not_false, Bool.and_true, Bool.true_and, Bool.and_false, Bool.false_and, Bool.or_true, Bool.true_or, Bool.or_false, Bool.false_or, this, hp])
      (by
        unfold M.slices_IndexFunc_string_string_l0
        simp (disch := first | omega | (intros; simp only [decide_eq_true_eq, decide_eq_false_iff_not, Bool.not_eq_true, Bool.not_eq_false, Bool.not_true, Bool.not_false] at *; omega)) only [cast_succ, asrt_pos, wrap64_id, Option.bind_some, cond_true, cond_false, decide_eq_true, decide_eq_false, Int.toNat_natCast, Bool.not_true, Bool.not_false, Bool.and_true, Bool.true_and, Bool.and_false, Bool.false_and, Bool.or_true, Bool.true_or, Bool.or_false, Bool.false_or])
    rcases key with ⟨k, h1, h2, h3, h4⟩ | ⟨h1, h2⟩
    · rw [h4, Option.bind_some]
      simp only [Option.bind_some]
      congr 1
      have : l.all entOk = false := by
        rw [List.all_eq_false]
        exact ⟨_, getD_mem h1, by simpa using h2⟩
      rw [this, decide_eq_true (by omega)]; rfl
    · rw [h2, Option.bind_some]
      simp only [Option.bind_some]
      congr 1
      have : l.all entOk = true := by
        rw [List.all_eq_true]
        intro x hx
        obtain ⟨j, hj, rfl⟩ := List.getElem_of_mem hx
        have := h1 j hj
        simp only [List.getD, List.getElem?_eq_getElem hj, Option.getD_some] at this
        simpa using this
      rw [this]; rfl

theorem ledS (l : List (List UInt8)) (hl : TextsB l) : M.spec_l16Good l = some (ledOk l) := by
  have h1 : l.length < 1000 := hl.1
  unfold M.spec_l16Good ledOk
  rw [iter_any (step := M.spec_l16Good_l0 l) (s := 0) (fun k => (k : Int)) l.length (fun k => !entOk (l.getD k default)) (.inr false) (.inl ()) rfl (by omega)
    (fun k hk hp => by
      have := entS (l.getD k default) (by have := hl.at hk; omega)
      unfold M.spec_l16Good_l0
      simp (disch := first | omega | (intros; simp only [decide_eq_true_eq, decide_eq_false_iff_not, Bool.not_eq_true, Bool.not_eq_false, Bool.not_true, Bool.not_false] at *; omega)) only [cast_succ, asrt_pos, wrap64_id, Option.bind_some, cond_true, cond_false, decide_eq_true, decide_eq_false, Int.toNat_natCast, Bool.not_true, Bool.not_false, Bool.and_true, Bool.true_and, Bool.and_false, Bool.false_and, Bool.or_true, Bool.true_or, Bool.or_false, Bool.false_or, this, hp])
    (fun k hk hp => by
      have := entS (l.getD k default) (by have := hl.at hk; omega)
      unfold M.spec_l16Good_l0
      simp (disch := first | omega | (intros; simp only [decide_eq_true_eq, decide_eq_false_iff_not, Bool.not_eq_true, Bool.not_eq_false, Bool.not_true, Bool.not_false] at *; omega)) only [cast_succ, asrt_pos, wrap64_id, Option.bind_some, cond_true, cond_false, decide_eq_true, decide_eq_false, Int.toNat_natCast, Bool.not_true, Bool.not_false, Bool.and_true, Bool.true_and, Bool.and_false, Bool.false_and, Bool.or_true, Bool.true_or, Bool.or_false, Bool.false_or, this, hp])
    (by
      unfold M.spec_l16Good_l0
      simp (disch := first | omega | (intros; simp only [decide_eq_true_eq, decide_eq_false_iff_not, Bool.not_eq_true, Bool.not_eq_false, Bool.not_true, Bool.not_false] at *; omega)) only [cast_succ, asrt_pos, wrap64_id, Option.bind_some, cond_true, cond_false, decide_eq_true, decide_eq_false, Int.toNat_natCast, Bool.not_true, Bool.not_false, Bool.and_true, Bool.true_and, Bool.and_false, Bool.false_and, Bool.or_true, Bool.true_or, Bool.or_false, Bool.false_or])]
  rw [← any_getD (p := fun b => !entOk b)]
  have : (l.any fun b => !entOk b) = !l.all entOk := by
    rw [List.all_eq_not_any_not, Bool.not_not]
  rw [this]
  cases l.all entOk
  · simp
  · simp only [Bool.not_true, cond_false, Option.bind_some, l1InS, Bool.and_true]

def leaves (l : List (List UInt8)) : List Int := l.map leaf
theorem leavesI (l : List (List UInt8)) (hl : TextsB l) : M.impl_hashesOf l = some (leaves l) := by
  have h1 : l.length < 1000 := hl.1
  unfold M.impl_hashesOf
  rw [iter_coll (step := M.impl_hashesOf_l0 l) (s := (([] : List Int), (0 : Int))) (fun a k => (a, (k : Int))) (fun x => [leaf x]) id l rfl (by omega) (fun k hk => by simp) (fun a k hk ha => by
    unfold M.impl_hashesOf_l0
    try dsimp only
    rw [decide_eq_true (by omega), cond_true, asrt_pos ⟨by omega, by omega⟩, Int.toNat_natCast, leafI _ (hl.at hk), Option.bind_some, asrt_pos (by simp; omega), wrap64_id (n := (k : Int) + 1) (by omega) (by omega)]
    rfl) (fun a ha => by
    unfold M.impl_hashesOf_l0
    try dsimp only
    rw [decide_eq_false (by omega), cond_false]
    rfl), Option.bind_some]
  show some (l.flatMap fun x => [leaf x]) = some (l.map leaf)
  congr 1
  clear hl h1
  induction l with
  | nil => rfl
  | cons x t ih => rw [List.flatMap_cons, ih]; rfl

/-! ### Rounds -/
def rnd : List Int → List Int
  | a :: b :: t => pairH a b :: rnd t
  | [a] => [a]
  | [] => []
theorem rnd_len : ∀ l : List Int, (rnd l).length = (l.length + 1) / 2
  | a :: b :: t => by simp only [rnd, List.length_cons, rnd_len t]; omega
  | [a] => by simp [rnd]
  | [] => by simp [rnd]
def HashB (l : List Int) : Prop := ∀ x ∈ l, 0 ≤ x ∧ x ≤ 9999999
theorem pairH_bd (a b : Int) : 0 ≤ pairH a b ∧ pairH a b ≤ 999978 := by have := csum_bd (110 :: (numT a ++ 44 :: numT b)); unfold pairH; omega
theorem leaf_bd (s : List UInt8) : 0 ≤ leaf s ∧ leaf s ≤ 999978 := by have := csum_bd (108 :: s); unfold leaf; omega
theorem rnd_bd : ∀ l : List Int, HashB l → HashB (rnd l)
  | a :: b :: t, h => by
    intro x hx
    simp only [rnd, List.mem_cons] at hx
    rcases hx with rfl | hx
    · have := pairH_bd a b; omega
    · exact rnd_bd t (fun y hy => h y (by simp [hy])) x hx
  | [a], h => h
  | [], h => h
theorem chunk2_cons {a b : Int} {t : List Int} : chunk2 (a :: b :: t) = [a, b] :: chunk2 t := by
  unfold chunk2
  rw [show ((a :: b :: t).length + 1) / 2 = (t.length + 1) / 2 + 1 by simp only [List.length_cons]; omega, List.range_succ_eq_map, List.map_cons, List.map_map]
  rfl

theorem roundI_aux : ∀ (l : List Int) (out : List Int), HashB l → out.length + l.length < 1000000 → foldO M.impl_round_l0 (chunk2 l) out = some (out ++ rnd l)
  | a :: b :: t, out, h, hl => by
    simp only [List.length_cons] at hl
    rw [chunk2_cons]
    have hstep : M.impl_round_l0 out [a, b] = some (out ++ [pairH a b]) := by
      unfold M.impl_round_l0
      try dsimp only
      rw [show (([a, b] : List Int).length : Int) = 2 from rfl, beq_self_eq_true, cond_true, asrt_pos ⟨by omega, by omega⟩, asrt_pos ⟨by omega, by omega⟩]
      rw [show ([a, b] : List Int).getD (Int.toNat 0) default = a from rfl, show ([a, b] : List Int).getD (Int.toNat 1) default = b from rfl, pairI a b (h a (by simp)) (h b (by simp)), Option.bind_some, asrt_pos (by simp; omega)]
      rfl
    rw [foldO, hstep, Option.bind_some, roundI_aux t (out ++ [pairH a b]) (fun y hy => h y (by simp [hy])) (by simp; omega)]
    simp [rnd]
  | [a], out, h, hl => by
    simp only [List.length_cons] at hl
    have hstep : M.impl_round_l0 out [a] = some (out ++ [a]) := by
      unfold M.impl_round_l0
      try dsimp only
      rw [show ((([a] : List Int).length : Int) == 2) = false from rfl, cond_false, asrt_pos ⟨by omega, by simp⟩, show ([a] : List Int).getD (Int.toNat 0) default = a from rfl, asrt_pos (by simp; omega)]
      rfl
    have e : chunk2 [a] = [[a]] := by simp [chunk2]
    rw [e, foldO, hstep, Option.bind_some, foldO]
    simp [rnd]
  | [], out, h, hl => by
    have e : chunk2 ([] : List Int) = [] := by simp [chunk2]
    rw [e, foldO]
    simp [rnd]

theorem roundI (l : List Int) (h : HashB l) (hl : l.length < 1000000) : M.impl_round l = some (rnd l) := by
  unfold M.impl_round M.slices_Chunk_int_int
  rw [asrt_pos ⟨rfl, by omega⟩, Option.bind_some, roundI_aux l [] h (by simpa using hl)]
  rfl

theorem getD_cons2 {a b : Int} {t : List Int} {k : Nat} : (a :: b :: t).getD (k + 2) default = t.getD k default := rfl
/-- The reference's round, at every second place. -/
def root (l : List Int) : Int := (rnd (rnd (rnd l))).headD 0
theorem rnd1 {l : List Int} (h : l.length ≤ 1) : rnd l = l := by
  match l, h with
  | [], _ => rfl
  | [a], _ => rfl
theorem root_rnd {l : List Int} (h : l.length ≤ 8) : root (rnd l) = root l := by
  unfold root
  have e : (rnd (rnd (rnd l))).length ≤ 1 := by rw [rnd_len, rnd_len, rnd_len]; omega
  rw [rnd1 e]
theorem root_one {l : List Int} (h : l.length ≤ 1) : root l = l.headD 0 := by
  unfold root
  rw [rnd1 h, rnd1 h, rnd1 h]

theorem rootLoopI (l : List Int) (h : HashB l) (h1 : 1 ≤ l.length) (h8 : l.length ≤ 8) : ∃ r, iterO M.impl_RootOf_l0 l = some r ∧ r.length = 1 ∧ r.headD 0 = root l := by
  refine T_iter (fun q => HashB q ∧ 1 ≤ q.length ∧ q.length ≤ 8 ∧ root q = root l) (fun q => q.length) (fun r : List Int => r.length = 1 ∧ r.headD 0 = root l) ⟨h, h1, h8, rfl⟩ (by omega) ?_
  rintro q ⟨g1, g2, g3, g4⟩
  unfold M.impl_RootOf_l0
  try dsimp only
  refine T_if (fun hq => ?_) (fun hq => ?_)
  · simp only [decide_eq_true_eq] at hq
    rw [roundI q g1 (by omega), Option.bind_some]
    refine T_ret ⟨⟨rnd_bd q g1, ?_, ?_, by rw [root_rnd g3, g4]⟩, ?_⟩ <;> (rw [rnd_len]; omega)
  · simp only [decide_eq_false_iff_not] at hq
    exact T_ret ⟨by omega, by rw [← root_one (by omega), g4]⟩
theorem leaves_bd (l : List (List UInt8)) : HashB (leaves l) := by
  intro x hx
  obtain ⟨s, _, rfl⟩ := List.mem_map.1 hx
  have := leaf_bd s; omega
theorem ledOk_len {l : List (List UInt8)} (h : ledOk l = true) : 1 ≤ l.length ∧ l.length ≤ 8 := by
  unfold ledOk at h
  rw [Bool.and_eq_true] at h
  have := inR_true.1 h.1
  omega
theorem RootI (l : List (List UInt8)) (hl : TextsB l) : M.impl_RootOf l = some (bif ledOk l then (root (leaves l), true) else (0, false)) := by
  unfold M.impl_RootOf
  rw [ledI l hl, Option.bind_some]
  cases h : ledOk l
  · rfl
  · have hn := ledOk_len h
    obtain ⟨r, e1, e2, e3⟩ := rootLoopI (leaves l) (leaves_bd l) (by simp [leaves]; omega) (by simp [leaves]; omega)
    rw [Bool.not_true, cond_false, leavesI l hl, Option.bind_some, e1, Option.bind_some]
    try dsimp only
    rw [asrt_pos ⟨by omega, by omega⟩, cond_true, ← e3]
    obtain ⟨x, rfl⟩ := List.length_eq_one_iff.1 e2
    rfl
end Go.Proofs.YthcmelnpcaijaaaDoor
