/-
  Texts: digits read, parts of a text, cuts, a text spoilt. Plain.
-/
import Derived.Test.YtlpnicmlgckdnaaDoorNu
import Derived.Test.YtlpnicmlgckdnaaDoorWo
import Derived.Lib.IndexMore
import Derived.Lib.Join
set_option linter.unusedSimpArgs false
set_option linter.unusedVariables false
namespace Go.Proofs.YtlpnicmlgckdnaaDoor
open Go.VS

/-! ### Digits -/
def dgt (b : UInt8) : Bool := decide (48 ≤ b.toNat) && decide (b.toNat ≤ 57)
theorem dgt_iff {b : UInt8} : dgt b = true ↔ 48 ≤ b.toNat ∧ b.toNat ≤ 57 := by unfold dgt; simp
def dgs : List UInt8 := [48, 49, 50, 51, 52, 53, 54, 55, 56, 57]
theorem dgs_all : ∀ n : Fin 256, dgs.contains (UInt8.ofNat n.val) = dgt (UInt8.ofNat n.val) := by decide +kernel
theorem dgs_dgt (b : UInt8) : dgs.contains b = dgt b := by
  have := dgs_all ⟨b.toNat, b.toNat_lt⟩
  simpa using this
theorem digB_dgt : ∀ d : Fin 10, dgt (digB d.1) = true ∧ (digB d.1).toNat = 48 + d.1 := by decide
theorem digB_at {d : Nat} (h : d < 10) : dgt (digB d) = true ∧ (digB d).toNat = 48 + d := digB_dgt ⟨d, h⟩
theorem numN_dgt : ∀ u : Nat, (numN u).all dgt = true := by
  intro u
  induction u using Nat.strongRecOn with
  | ind u ih =>
    rcases Nat.lt_or_ge u 10 with h | h
    · rw [numN_small h, List.all_cons, (digB_at h).1]; rfl
    · rw [numN_big h, List.all_append, ih (u / 10) (by omega), List.all_cons, (digB_at (by omega)).1]; rfl
theorem numT_dgt {n : Int} (h : 0 ≤ n) : (numT n).all dgt = true := by
  have e : n = ((n.toNat : Nat) : Int) := by omega
  rw [e, numT_nat]; exact numN_dgt _
theorem all_free {s : List UInt8} {c : UInt8} (h : s.all dgt = true) (hc : dgt c = false) : c ∉ s := fun hm => by
  rw [List.all_eq_true.1 h c hm] at hc; cases hc
theorem numN_lenT : ∀ (k u : Nat), u < 10 ^ (k + 1) → (numN u).length ≤ k + 1
  | 0, u, h => by rw [numN_small (by omega)]; simp
  | k + 1, u, h => by
    rcases Nat.lt_or_ge u 10 with h1 | h1
    · rw [numN_small h1]; simp
    · rw [numN_big h1, List.length_append]
      have := numN_lenT k (u / 10) (by rw [Nat.pow_succ] at h; omega)
      simp only [List.length_cons, List.length_nil]
      omega
theorem numT_lenT {n : Int} {k : Nat} (h0 : 0 ≤ n) (h1 : n < ((10 ^ (k + 1) : Nat) : Int)) : (numT n).length ≤ k + 1 := by
  have e : n = ((n.toNat : Nat) : Int) := by omega
  rw [e, numT_nat]
  exact numN_lenT k _ (by omega)
theorem numT_ne {n : Int} (h : 0 ≤ n) : 1 ≤ (numT n).length := by
  have e : n = ((n.toNat : Nat) : Int) := by omega
  rw [e, numT_nat]; exact numN_pos _

/-- The number that digits say. -/
def dgF (n : Int) (b : UInt8) : Int := 10 * n + ((b.toNat : Int) - 48)
def dgV (s : List UInt8) : Int := s.foldl dgF 0
theorem dgV_num : ∀ u : Nat, dgV (numN u) = (u : Int) := by
  intro u
  induction u using Nat.strongRecOn with
  | ind u ih =>
    rcases Nat.lt_or_ge u 10 with h | h
    · rw [numN_small h]
      show (10 * 0 + ((((digB u).toNat : Nat) : Int) - 48) : Int) = _
      rw [(digB_at h).2]; omega
    · rw [numN_big h]
      have := ih (u / 10) (by omega)
      unfold dgV at this ⊢
      rw [List.foldl_append, this]
      show 10 * ((u / 10 : Nat) : Int) + ((((digB (u % 10)).toNat : Nat) : Int) - 48) = _
      rw [(digB_at (by omega)).2]; omega
theorem dgF_bd {a : Int} {b : UInt8} {k : Nat} (hb : dgt b = true) (ha : 0 ≤ a ∧ a < ((10 ^ k : Nat) : Int)) : 0 ≤ dgF a b ∧ dgF a b < ((10 ^ (k + 1) : Nat) : Int) := by
  have := dgt_iff.1 hb
  unfold dgF
  rw [Nat.pow_succ]
  omega
theorem wrap8_id {n : Int} (h0 : 0 ≤ n) (h1 : n < 256) : IntKind.u8.wrap n = n := by
  unfold IntKind.wrap
  simp [IntKind.signed, IntKind.bits]
  omega
theorem pow7 {k : Nat} (h : k ≤ 7) : ((10 ^ k : Nat) : Int) ≤ 10000000 := by
  have : 10 ^ k ≤ 10 ^ 7 := Nat.pow_le_pow_right (by omega) h
  omega
def dgI (s : List UInt8) : Int := bif ((s == []) || decide ((s.length : Int) > 7)) || !s.all dgt then -1 else dgV s
theorem trim_dgs {s : List UInt8} : (Go.Lib.trimS s dgs == []) = s.all dgt := by
  rw [Bool.eq_iff_iff, beq_iff_eq, trimS_nil, show (fun x => dgs.contains x) = dgt from funext dgs_dgt]
theorem dgI_num {n : Int} (h0 : 0 ≤ n) (h1 : n < 10000000) : dgI (numT n) = n := by
  unfold dgI
  have l1 := numT_lenT (k := 6) h0 (by simpa using h1)
  have l2 := numT_ne h0
  have e1 : (numT n == []) = false := by
    rw [beq_eq_false_iff_ne]
    intro e
    rw [e] at l2; simp at l2
  rw [e1, decide_eq_false (by omega), numT_dgt h0]
  show dgV (numT n) = n
  have e : n = ((n.toNat : Nat) : Int) := by omega
  rw [e, numT_nat, dgV_num]

/-! ### The reference's reading -/
theorem readLoop (t : List UInt8) (hl : t.length ≤ 6) : T (iterO (M.spec_l1Read_l0 t) ((0 : Int), (0 : Int))) (fun r => (∃ n, r = .inl n ∧ 0 ≤ n ∧ n < 1000000 ∧ (t.all dgt = true → n = dgV t)) ∨ (t.all dgt = false ∧ r = .inr (0, false))) := by
  refine T_iter (fun s => ∃ k : Nat, s.2 = (k : Int) ∧ k ≤ t.length ∧ (0 ≤ s.1 ∧ s.1 < ((10 ^ k : Nat) : Int)) ∧ s.1 = dgV (t.take k)) (fun s => (7 - s.2).toNat) _ ⟨0, rfl, by omega, by simp, rfl⟩ (by simp) ?_
  rintro ⟨a, _⟩ ⟨k, rfl, h1, h2, h3⟩
  simp only at h2 h3
  unfold M.spec_l1Read_l0
  try dsimp only
  refine T_if (fun hq => ?_) (fun hq => ?_)
  · simp only [decide_eq_true_eq] at hq
    have hk : k < t.length := by omega
    have e0 : t.getD k 0 = t.getD k default := rfl
    rw [Int.toNat_natCast, e0]
    refine T_ask ⟨by omega, by omega⟩ (T_ask (fun _ => ⟨by omega, by omega⟩) ?_)
    have ed : ((decide ((((t.getD k default).toNat : Nat) : Int) < 48)) || (decide ((((t.getD k default).toNat : Nat) : Int) > 57))) = !dgt (t.getD k default) := by
      unfold dgt
      rw [Bool.eq_iff_iff]
      simp only [Bool.or_eq_true, decide_eq_true_eq, Bool.not_eq_true', Bool.and_eq_false_iff, decide_eq_false_iff_not]
      omega
    rw [ed]
    refine T_if (fun hb => ?_) (fun hb => ?_)
    · refine T_ret (.inr ⟨?_, rfl⟩)
      rw [List.all_eq_false]
      exact ⟨_, getD_mem hk, by simpa using hb⟩
    · simp only [Bool.not_eq_false'] at hb
      have hb2 := dgt_iff.1 hb
      have hp := pow7 (k := k) (by omega)
      refine T_ask ⟨by omega, by omega⟩ (T_ret ?_)
      simp only
      rw [wrap8_id (by omega) (by omega), wrap64_id (n := 10 * a) (by omega) (by omega), wrap64_id (n := ((t.getD k default).toNat : Int) - 48) (by omega) (by omega), wrap64_id (n := 10 * a + (((t.getD k default).toNat : Int) - 48)) (by omega) (by omega), wrap64_id (n := (k : Int) + 1) (by omega) (by omega)]
      refine ⟨⟨k + 1, by omega, by omega, dgF_bd hb h2, ?_⟩, by omega⟩
      unfold dgV at h3 ⊢
      rw [foldl_take hk, ← h3]
      rfl
  · simp only [decide_eq_false_iff_not] at hq
    obtain rfl : k = t.length := by omega
    refine T_ret (.inl ⟨a, rfl, h2.1, ?_, fun _ => ?_⟩)
    · have : 10 ^ t.length ≤ 10 ^ 6 := Nat.pow_le_pow_right (by omega) hl
      omega
    · rw [h3, List.take_length]

theorem slcLe0 {β : Type} {l : List β} {a b : Int} : (slc l a b).length ≤ l.length := by unfold slc; rw [List.length_drop, List.length_take]; omega
theorem readS' (s : List UInt8) (hl : s.length < 1000000) : T (M.spec_l1Read s) (fun r => ∀ n : Int, 0 ≤ n → n < 1000000 → s = numT n → r = (n, true)) := by
  unfold M.spec_l1Read
  refine T.then (Q := fun t => t.length ≤ s.length ∧ (s.all dgt = true → t = s)) ?_ ?_
  · refine T_ask (fun h => by simp only [decide_eq_true_eq] at h; omega) (T_if (fun hq => ?_) (fun _ => T_ret ⟨Nat.le_refl _, fun _ => rfl⟩))
    simp only [Bool.and_eq_true, decide_eq_true_eq, beq_iff_eq] at hq
    refine T_ask (by omega) (T_ret ⟨?_, fun h => ?_⟩)
    · exact slcLe0
    · exfalso
      have := dgt_iff.1 (List.all_eq_true.1 h _ (getD_mem (l := s) (i := 0) (by omega)))
      have e0 : s.getD (Int.toNat 0) 0 = s.getD 0 default := rfl
      rw [e0] at hq
      omega
  rintro t ⟨g1, g2⟩
  try dsimp only
  rw [show M.spec_l1In (t.length : Int) 1 6 = some (decide ((t.length : Int) ≥ 1) && decide ((t.length : Int) ≤ 6)) from rfl, Option.bind_some]
  refine T_if (fun hq => T_ret ?_) (fun hq => ?_)
  · rintro n h0 h1 rfl
    exfalso
    rw [g2 (numT_dgt h0)] at hq
    have := numT_lenT (k := 5) h0 (by simpa using h1)
    have := numT_ne h0
    simp only [Bool.not_eq_true', Bool.and_eq_false_iff, decide_eq_false_iff_not] at hq
    omega
  · simp only [Bool.not_eq_false', Bool.and_eq_true, decide_eq_true_eq] at hq
    refine (readLoop t (by omega)).then ?_
    rintro r (⟨n, rfl, h0, h1, h2⟩ | ⟨h1, rfl⟩)
    · try dsimp only
      refine T.then (Q := fun m => (-1000000 ≤ m ∧ m ≤ 1000000) ∧ (t = s → m = n)) (T_if (fun hd => ?_) (fun hd => T_ret ⟨by omega, fun _ => rfl⟩)) ?_
      · simp only [decide_eq_true_eq] at hd
        refine T_ret ⟨?_, fun e => ?_⟩
        · rw [wrap64_id (by omega) (by omega)]; omega
        · rw [e] at hd; omega
      rintro m ⟨g3, g4⟩
      try dsimp only
      rw [numS m (by omega) (by omega), Option.bind_some]
      refine T_if (fun hb => T_ret ?_) (fun hb => T_ret ?_)
      · rintro k k0 k1 rfl
        exfalso
        have et := g2 (numT_dgt k0)
        have em := g4 et
        have ek : n = k := by
          have := h2 (by rw [et]; exact numT_dgt k0)
          rw [this, et]
          have e : k = ((k.toNat : Nat) : Int) := by omega
          rw [e, numT_nat, dgV_num]
        rw [em, ek] at hb
        simp at hb
      · rintro k k0 k1 rfl
        have et := g2 (numT_dgt k0)
        have em := g4 et
        have ek : n = k := by
          have := h2 (by rw [et]; exact numT_dgt k0)
          rw [this, et]
          have e : k = ((k.toNat : Nat) : Int) := by omega
          rw [e, numT_nat, dgV_num]
        rw [em, ek]
    · refine T_ret ?_
      rintro k k0 k1 rfl
      exfalso
      rw [g2 (numT_dgt k0), numT_dgt k0] at h1
      cases h1
def rdS (s : List UInt8) : Int × Bool := (M.spec_l1Read s).getD (0, false)
theorem readS (s : List UInt8) (hl : s.length < 1000000) : M.spec_l1Read s = some (rdS s) := by
  obtain ⟨r, h, _⟩ := readS' s hl
  unfold rdS
  rw [h]; rfl
theorem rdS_num {n : Int} (h0 : 0 ≤ n) (h1 : n < 1000000) : rdS (numT n) = (n, true) := by
  have hl := numT_lenT (k := 5) h0 (by simpa using h1)
  obtain ⟨r, h, h2⟩ := readS' (numT n) (by omega)
  unfold rdS
  rw [h, h2 n h0 h1 rfl]; rfl

/-! ### Parts -/
theorem splitC_app {c : UInt8} : ∀ {w r : List UInt8}, c ∉ w → splitC c (w ++ c :: r) = w :: splitC c r
  | [], r, _ => by rw [List.nil_append, splitC, if_pos (by simp)]
  | b :: w, r, h => by
    have hb : (b == c) = false := by rw [beq_eq_false_iff_ne]; rintro rfl; exact h (by simp)
    rw [List.cons_append, splitC, hb, splitC_app (w := w) (r := r) (fun hm => h (by simp [hm]))]
    rfl
theorem splitC_free {c : UInt8} : ∀ {w : List UInt8}, c ∉ w → splitC c w = [w]
  | [], _ => rfl
  | b :: w, h => by
    have hb : (b == c) = false := by rw [beq_eq_false_iff_ne]; rintro rfl; exact h (by simp)
    rw [splitC, hb, splitC_free (w := w) (fun hm => h (by simp [hm]))]
    rfl
theorem joinTail_cons {sep x : List UInt8} {r : List (List UInt8)} : Go.Lib.joinTail sep (x :: r) = sep ++ x ++ Go.Lib.joinTail sep r := by
  unfold Go.Lib.joinTail
  simp
theorem splitC_tail {c : UInt8} : ∀ {ws : List (List UInt8)} {w : List UInt8}, c ∉ w → (∀ x ∈ ws, c ∉ x) → splitC c (w ++ Go.Lib.joinTail [c] ws) = w :: ws
  | [], w, h, _ => by
    rw [show Go.Lib.joinTail [c] [] = [] from rfl, List.append_nil, splitC_free h]
  | x :: ws, w, h, hx => by
    rw [joinTail_cons, List.append_assoc, List.singleton_append, splitC_app h, splitC_tail (hx x (by simp)) (fun y hy => hx y (by simp [hy]))]
theorem splitC_len (c : UInt8) : ∀ s : List UInt8, (splitC c s).length ≤ s.length + 1 ∧ 1 ≤ (splitC c s).length
  | [] => by simp [splitC]
  | b :: s => by
    have h := splitC_len c s
    rw [splitC]
    split
    · simp only [List.length_cons]; omega
    · simp only [List.length_cons, List.length_tail]; omega
theorem splitC_mem (c : UInt8) : ∀ (s : List UInt8), ∀ x ∈ splitC c s, x.length ≤ s.length
  | [], x, hx => by simp [splitC] at hx; simp [hx]
  | b :: s, x, hx => by
    have ih := splitC_mem c s
    rw [splitC] at hx
    split at hx
    · rcases List.mem_cons.1 hx with rfl | hx
      · simp
      · have := ih x hx; simp only [List.length_cons]; omega
    · rw [splitC_ne c s] at ih
      rcases List.mem_cons.1 hx with rfl | hx
      · have := ih ((splitC c s).headD []) (by simp)
        simp only [List.length_cons]; omega
      · have := ih x (by simp [hx])
        simp only [List.length_cons]; omega

/-! ### Cuts -/
theorem index_app {c : UInt8} : ∀ {a b : List UInt8}, c ∉ a → Go.Lib.index (a ++ c :: b) [c] = (a.length : Int)
  | [], b, _ => by simp [Go.Lib.index, List.isPrefixOf]
  | x :: a, b, h => by
    have hx : (c == x) = false := by rw [beq_eq_false_iff_ne]; rintro rfl; exact h (by simp)
    have ih := index_app (c := c) (a := a) (b := b) (fun hm => h (by simp [hm]))
    rw [List.cons_append, Go.Lib.index, ih]
    simp only [List.isPrefixOf, hx, Bool.false_and]
    rw [if_neg (by simp), if_neg (by rw [beq_iff_eq]; omega), List.length_cons]
    omega
theorem index_free {c : UInt8} : ∀ {a : List UInt8}, c ∉ a → Go.Lib.index a [c] = -1
  | [], _ => rfl
  | x :: a, h => by
    have hx : (c == x) = false := by rw [beq_eq_false_iff_ne]; rintro rfl; exact h (by simp)
    rw [Go.Lib.index, index_free (a := a) (fun hm => h (by simp [hm]))]
    simp [List.isPrefixOf, hx]
theorem cut_app {c : UInt8} {a b : List UInt8} (h : c ∉ a) : Go.Lib.cut (a ++ c :: b) [c] = (a, b, true) := by
  unfold Go.Lib.cut
  rw [index_app h, if_pos (by omega), Int.toNat_natCast, List.take_left, show a.length + [c].length = (a ++ [c]).length by simp, show a ++ c :: b = (a ++ [c]) ++ b by simp, List.drop_left]
theorem cut_free {c : UInt8} {a : List UInt8} (h : c ∉ a) : Go.Lib.cut a [c] = (a, [], false) := by
  unfold Go.Lib.cut
  rw [index_free h, if_neg (by omega)]
theorem cut_len (s sep : List UInt8) : (Go.Lib.cut s sep).1.length ≤ s.length ∧ (Go.Lib.cut s sep).2.1.length ≤ s.length := by
  unfold Go.Lib.cut
  split
  · simp only [List.length_take, List.length_drop]; omega
  · simp
/-! ### A text spoilt -/
theorem slcLe {β : Type} {l : List β} {a b : Int} : (slc l a b).length ≤ l.length := by unfold slc; rw [List.length_drop, List.length_take]; omega
theorem slcL1 {β : Type} {l : List β} : (slc l 0 1).length ≤ 1 := by unfold slc; rw [List.length_drop, List.length_take]; simp; omega
theorem slcLto {β : Type} {l : List β} {b : Int} : (slc l 0 b).length ≤ b.toNat := by unfold slc; rw [List.length_drop, List.length_take]; omega
theorem slcLfrom {β : Type} {l : List β} {a : Int} (h : 0 ≤ a) (h1 : a ≤ (l.length : Int)) : ((slc l a (l.length : Int)).length : Int) = (l.length : Int) - a := by
  unfold slc; rw [List.length_drop, List.length_take]; simp; omega
end Go.Proofs.YtlpnicmlgckdnaaDoor
