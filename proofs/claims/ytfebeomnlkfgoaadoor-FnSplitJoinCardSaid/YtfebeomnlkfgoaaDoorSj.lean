/-
  Texts split and joined. Plain.
-/
import Derived.Test.YtfebeomnlkfgoaaDoorWo
set_option linter.unusedSimpArgs false
set_option linter.unusedVariables false
namespace Go.Proofs.YtfebeomnlkfgoaaDoor
open Go.VS

def any1 : List (List UInt8) := [[], [97], [97, 44, 98], [115, 111, 109, 101, 32, 119, 111, 114, 100, 115], [120, 35, 121], [45, 49, 50], [0, 255], [44, 44], [48]]
def piecesOf (s : List UInt8) (c : UInt8) : List (List UInt8) := (Go.Lib.splitB ⟨[c].toArray⟩ 0 (Go.Lib.countB ⟨s.toArray⟩ ⟨[c].toArray⟩) ⟨s.toArray⟩).map fun t => t.data.toList
def has (c : UInt8) (p : List UInt8) : Bool := decide (0 ≤ Go.Lib.indexByte p c)
theorem split_some : ∀ s ∈ any1, ∀ c ∈ ([44, 32] : List UInt8), Go.Lib.join (piecesOf s c) [c] = s ∧ (piecesOf s c).any (has c) = false ∧ (piecesOf s c).length ≤ 20 ∧ 0 < (piecesOf s c).length ∧ Go.Lib.lens (piecesOf s c) ≤ 20 ∧ s.length ≤ 20 := by decide +kernel
theorem less_some : ∀ a ∈ any1, ∀ b ∈ any1, (Op.bytesLess a b && Op.bytesLess b a) = false := by decide +kernel
theorem any1_len : ∀ s ∈ any1, s.length ≤ 20 := by decide +kernel
theorem seps_some : ∀ m ∈ ([[44], [44], [32], [], [44, 44]] : List (List UInt8)), m.length ≠ 1 ∨ m = [44] ∨ m = [32] := by decide +kernel

theorem has_any (c : UInt8) : ∀ p : List UInt8, has c p = p.any (fun b => ((b.toNat : Nat) : Int) == ((c.toNat : Nat) : Int))
  | [] => rfl
  | b :: l => by
    have ih := has_any c l
    have e : (((b.toNat : Nat) : Int) == ((c.toNat : Nat) : Int)) = (b == c) := by
      rw [Bool.eq_iff_iff, beq_iff_eq, beq_iff_eq]
      constructor
      · intro h; exact UInt8.toNat_inj.1 (by omega)
      · intro h; rw [h]
    have g := Go.Lib.indexByte_ge l c
    rw [List.any_cons, ← ih, e]
    show decide (0 ≤ (if b == c then 0 else if Go.Lib.indexByte l c == -1 then -1 else Go.Lib.indexByte l c + 1)) = (b == c || decide (0 ≤ Go.Lib.indexByte l c))
    by_cases h : (b == c) = true
    · rw [if_pos h, h]; rfl
    · rw [if_neg h, show (b == c) = false by simpa using h, Bool.false_or]
      by_cases h2 : (Go.Lib.indexByte l c == -1) = true
      · have h3 : Go.Lib.indexByte l c = -1 := beq_iff_eq.1 h2
        rw [if_pos h2, h3]
      · have h3 : Go.Lib.indexByte l c ≠ -1 := fun e => h2 (beq_iff_eq.2 e)
        rw [if_neg h2, Bool.eq_iff_iff, decide_eq_true_eq, decide_eq_true_eq]
        omega
theorem contI (p : List UInt8) (c : UInt8) : M.strings_Contains p [c] = some (has c p) := by
  unfold M.strings_Contains
  exact asrt_pos (show ([c] : List UInt8).length = 1 from rfl)
theorem standS (p : List UInt8) (c : UInt8) (hp : p.length < 1000000) : M.spec_l1Stands p ((c.toNat : Nat) : Int) = some (has c p) := by
  unfold M.spec_l1Stands
  rw [has_any, iter_any (s := 0) (step := M.spec_l1Stands_l0 p ((c.toNat : Nat) : Int)) (fun k => (k : Int)) p.length (fun k => (((p.getD k default).toNat : Nat) : Int) == ((c.toNat : Nat) : Int)) (.inr true) (.inl ()) rfl (by omega)
    (fun k hk hp => by
      have hp : ((((p.getD k 0).toNat : Nat) : Int) == ((c.toNat : Nat) : Int)) = false := hp
      unfold M.spec_l1Stands_l0
      dsimp only
      rw [decide_eq_true (by omega), cond_true, asrt_pos ⟨by omega, by omega⟩, Int.toNat_natCast, hp, cond_false, wrap64_id (by omega) (by omega), cast_succ])
    (fun k hk hp => by
      have hp : ((((p.getD k 0).toNat : Nat) : Int) == ((c.toNat : Nat) : Int)) = true := hp
      unfold M.spec_l1Stands_l0
      dsimp only
      rw [decide_eq_true (by omega), cond_true, asrt_pos ⟨by omega, by omega⟩, Int.toNat_natCast, hp, cond_true])
    (by
      unfold M.spec_l1Stands_l0
      dsimp only
      rw [decide_eq_false (by omega), cond_false])]
  rw [← any_getD (p := fun b : UInt8 => ((b.toNat : Nat) : Int) == ((c.toNat : Nat) : Int))]
  cases p.any (fun b => ((b.toNat : Nat) : Int) == ((c.toNat : Nat) : Int)) <;> rfl

theorem el_getD {β : Type} [Inhabited β] {l : List β} {k : Nat} (h : k < l.length) : l[k]? = some (l.getD k default) := by simp [List.getD, h]
theorem join_succ (l : List (List UInt8)) (c : UInt8) (k : Nat) (hk : k < l.length) : Go.Lib.join (l.take (k + 1)) [c] = (bif decide ((k : Int) > 0) then Go.Lib.join (l.take k) [c] ++ [c] else Go.Lib.join (l.take k) [c]) ++ l.getD k default := by
  cases l with
  | nil => exact absurd hk (Nat.not_lt_zero _)
  | cons x r =>
    cases k with
    | zero =>
      show Go.Lib.join [x] [c] = Go.Lib.join [] [c] ++ x
      rw [Go.Lib.join_one, Go.Lib.join_nil, List.nil_append]
    | succ k =>
      have hk : k < r.length := by simpa using hk
      rw [decide_eq_true (by omega), cond_true, List.take_succ_cons, List.take_succ_cons, Go.Lib.join_cons, Go.Lib.join_cons, Go.Lib.joinTail_take_succ _ _ k _ (el_getD hk), List.getD_cons_succ]
      simp only [List.append_assoc]
theorem join_len (l : List (List UInt8)) (c : UInt8) (h : 0 < l.length) : (Go.Lib.join l [c]).length = Go.Lib.lens l + (l.length - 1) := by
  cases l with
  | nil => exact absurd h (Nat.lt_irrefl _)
  | cons x r =>
    rw [Go.Lib.join_cons, List.length_append, Go.Lib.joinTail_length]
    simp only [Go.Lib.lens, List.map_cons, List.sum_cons, List.length_cons, List.length_nil]
    omega
theorem any_big {l : List (List UInt8)} {c : UInt8} {g : Nat → Int} {t : Int} (hn : 0 < l.length) (h1 : ∀ k, k < l.length → g k ≤ t) (h2 : g (l.length - 1) = t) :
    ((List.range l.length).any fun k => has c (l.getD k default) || decide (g k > 4000)) = (l.any (has c) || decide (t > 4000)) := by
  rw [Bool.eq_iff_iff]
  simp only [List.any_eq_true, Bool.or_eq_true, List.mem_range, decide_eq_true_eq]
  constructor
  · rintro ⟨k, hk, h | h⟩
    · exact .inl ⟨_, getD_mem hk, h⟩
    · have := h1 k hk; right; omega
  · rintro (⟨x, hx, h⟩ | h)
    · obtain ⟨i, hi, rfl⟩ := List.getElem_of_mem hx
      refine ⟨i, hi, .inl ?_⟩
      rw [show l.getD i default = l[i] by simp [List.getD, hi]]
      exact h
    · exact ⟨l.length - 1, by omega, .inr (by omega)⟩
def JoinD (l : List (List UInt8)) (c : UInt8) : List UInt8 × Bool := bif l.any (has c) || decide (((Go.Lib.lens l : Nat) : Int) + ((l.length : Int) - 1) > 4000) then ([], false) else (Go.Lib.join l [c], true)
structure PB (l : List (List UInt8)) : Prop where
  len : l.length < 1000000
  sum : Go.Lib.lens l < 1000000
theorem lens_mem : ∀ {l : List (List UInt8)} {p : List UInt8}, p ∈ l → p.length ≤ Go.Lib.lens l
  | x :: r, p, h => by
    simp only [Go.Lib.lens, List.map_cons, List.sum_cons]
    rcases List.mem_cons.1 h with rfl | h
    · omega
    · have := lens_mem h
      unfold Go.Lib.lens at this
      omega
theorem joinI (l : List (List UInt8)) (c : UInt8) (hl : PB l) (hn : 0 < l.length) : M.impl_JoinStrings l [c] = some (JoinD l c) := by
  have b1 := hl.len
  have b2 := hl.sum
  unfold M.impl_JoinStrings JoinD
  rw [show ((l.length : Int) == 0) = false by rw [beq_eq_false_iff_ne]; omega, show ((([c] : List UInt8).length : Int) != 1) = false from rfl, Bool.or_self, cond_false, wrap64_id (by omega) (by omega)]
  rw [iter_any (s := ((l.length : Int) - 1, (0 : Int))) (step := M.impl_JoinStrings_l0 l [c]) (fun k => ((l.length : Int) - 1 + ((Go.Lib.lens (l.take k) : Nat) : Int), (k : Int))) l.length (fun k => has c (l.getD k default) || decide ((l.length : Int) - 1 + ((Go.Lib.lens (l.take k) : Nat) : Int) + ((l.getD k default).length : Int) > 4000)) (.inr ([], false)) (.inl ()) (by simp [Go.Lib.lens]) (by omega)
    (fun k hk hp => by
      have q1 := Go.Lib.lens_take_le l k
      have q2 := lens_mem (getD_mem hk)
      have q3 := Go.Lib.lens_take_succ l k _ (el_getD hk)
      unfold M.impl_JoinStrings_l0
      dsimp only
      rw [decide_eq_true (by omega), cond_true, asrt_pos ⟨by omega, by omega⟩, Int.toNat_natCast, contI, Option.bind_some, wrap64_id (n := (l.length : Int) - 1 + ((Go.Lib.lens (l.take k) : Nat) : Int) + ((l.getD k default).length : Int)) (by omega) (by omega), hp, cond_false, wrap64_id (n := (k : Int) + 1) (by omega) (by omega), cast_succ, q3, show (l.length : Int) - 1 + ((Go.Lib.lens (l.take k) : Nat) : Int) + ((l.getD k default).length : Int) = (l.length : Int) - 1 + ((Go.Lib.lens (l.take k) + (l.getD k default).length : Nat) : Int) by omega])
    (fun k hk hp => by
      have q1 := Go.Lib.lens_take_le l k
      have q2 := lens_mem (getD_mem hk)
      unfold M.impl_JoinStrings_l0
      dsimp only
      rw [decide_eq_true (by omega), cond_true, asrt_pos ⟨by omega, by omega⟩, Int.toNat_natCast, contI, Option.bind_some, wrap64_id (n := (l.length : Int) - 1 + ((Go.Lib.lens (l.take k) : Nat) : Int) + ((l.getD k default).length : Int)) (by omega) (by omega), hp, cond_true])
    (by
      unfold M.impl_JoinStrings_l0
      dsimp only
      rw [decide_eq_false (by omega), cond_false])]
  rw [any_big (c := c) (g := fun k => (l.length : Int) - 1 + ((Go.Lib.lens (l.take k) : Nat) : Int) + ((l.getD k default).length : Int)) (t := ((Go.Lib.lens l : Nat) : Int) + ((l.length : Int) - 1)) hn (fun k hk => by
    have q1 := Go.Lib.lens_take_le l (k + 1)
    have q3 := Go.Lib.lens_take_succ l k _ (el_getD hk)
    show (l.length : Int) - 1 + ((Go.Lib.lens (l.take k) : Nat) : Int) + ((l.getD k default).length : Int) ≤ _
    omega) (by
    have q3 := Go.Lib.lens_take_succ l (l.length - 1) _ (el_getD (by omega))
    rw [show l.length - 1 + 1 = l.length by omega, List.take_length] at q3
    show (l.length : Int) - 1 + ((Go.Lib.lens (l.take (l.length - 1)) : Nat) : Int) + ((l.getD (l.length - 1) default).length : Int) = _
    omega)]
  have jl := join_len l c hn
  cases hB : (l.any (has c) || decide (((Go.Lib.lens l : Nat) : Int) + ((l.length : Int) - 1) > 4000))
  · simp only [cond_false, Option.bind_some]
    unfold M.strings_Join
    rw [asrt_pos ⟨by omega, by omega⟩]
    rfl
  · rfl
theorem spec_step (l : List (List UInt8)) (c : UInt8) (hl : PB l) (k : Nat) (hk : k < l.length) : M.spec_JoinStrings_l0 l [c] (Go.Lib.join (l.take k) [c], (k : Int)) = some (bif has c (l.getD k default) || decide (((Go.Lib.join (l.take (k + 1)) [c]).length : Int) > 4000) then .inr (.inr ([], false)) else .inl (Go.Lib.join (l.take (k + 1)) [c], ((k + 1 : Nat) : Int))) := by
  have b1 := hl.len
  have b2 := hl.sum
  have q1 := Go.Lib.lens_take_le l k
  have q2 := lens_mem (getD_mem hk)
  have q4 : (Go.Lib.join (l.take k) [c]).length ≤ 3000000 := by
    rcases Nat.eq_zero_or_pos k with rfl | h0
    · rw [List.take_zero, Go.Lib.join_nil]; simp
    · rw [join_len _ c (by rw [List.length_take]; omega), List.length_take]; omega
  have js := join_succ l c k hk
  apply T.eq
  unfold M.spec_JoinStrings_l0
  simp only [Int.toNat_natCast]
  refine T_if (fun _ => ?_) (fun hq => by simp only [decide_eq_false_iff_not] at hq; omega)
  refine T_in (T_ask ⟨by omega, by omega⟩ (T_ask ⟨by omega, by simp⟩ ?_))
  refine T_eq (standS (l.getD k default) c (by omega)) ?_
  refine T_if (fun hh => T_ret (T_ret ?_)) (fun hh => ?_)
  · rw [hh]; rfl
  rw [hh, Bool.false_or]
  refine T.then (Q := fun e => e = bif decide ((k : Int) > 0) then Go.Lib.join (l.take k) [c] ++ [c] else Go.Lib.join (l.take k) [c]) (T_if (fun h0 => T_ask (by simp only [List.length_cons, List.length_nil]; omega) (T_ret ?_)) (fun h0 => T_ret ?_)) ?_
  · rw [h0, cond_true]
  · rw [h0, cond_false]
  · rintro _ rfl
    try dsimp only
    simp only [← js]
    refine T_ask ⟨by omega, by omega⟩ (T_ask ?_ (T_if (fun h0 => T_ret (T_ret ?_)) (fun h0 => T_ret (T_ret ?_))))
    · have := congrArg List.length js
      rw [List.length_append] at this
      cases decide ((k : Int) > 0)
      · rw [cond_false]; omega
      · rw [cond_true, List.length_append]; simp only [List.length_cons, List.length_nil]; omega
    · rw [h0]; rfl
    · rw [h0, wrap64_id (by omega) (by omega)]; rfl
theorem joinS (l : List (List UInt8)) (c : UInt8) (hl : PB l) (hn : 0 < l.length) : M.spec_JoinStrings l [c] = some (JoinD l c) := by
  have b1 := hl.len
  have b2 := hl.sum
  unfold M.spec_JoinStrings JoinD
  rw [show ((l.length : Int) == 0) = false by rw [beq_eq_false_iff_ne]; omega, show ((([c] : List UInt8).length : Int) != 1) = false from rfl, Bool.or_self, cond_false]
  rw [iter_any (s := (([] : List UInt8), (0 : Int))) (step := M.spec_JoinStrings_l0 l [c]) (fun k => (Go.Lib.join (l.take k) [c], (k : Int))) l.length (fun k => has c (l.getD k default) || decide (((Go.Lib.join (l.take (k + 1)) [c]).length : Int) > 4000)) (.inr ([], false)) (.inl (Go.Lib.join l [c])) rfl (by omega)
    (fun k hk hp => by
      have hp : (has c (l.getD k default) || decide (((Go.Lib.join (l.take (k + 1)) [c]).length : Int) > 4000)) = false := hp
      rw [spec_step l c hl k hk, hp, cond_false])
    (fun k hk hp => by
      have hp : (has c (l.getD k default) || decide (((Go.Lib.join (l.take (k + 1)) [c]).length : Int) > 4000)) = true := hp
      rw [spec_step l c hl k hk, hp, cond_true])
    (by
      unfold M.spec_JoinStrings_l0
      dsimp only
      rw [decide_eq_false (by omega), cond_false, List.take_length])]
  rw [any_big (c := c) (g := fun k => ((Go.Lib.join (l.take (k + 1)) [c]).length : Int)) (t := ((Go.Lib.lens l : Nat) : Int) + ((l.length : Int) - 1)) hn (fun k hk => by
    have q1 := Go.Lib.lens_take_le l (k + 1)
    show ((Go.Lib.join (l.take (k + 1)) [c]).length : Int) ≤ _
    rw [join_len _ c (by rw [List.length_take]; omega), List.length_take]
    omega) (by
    show ((Go.Lib.join (l.take (l.length - 1 + 1)) [c]).length : Int) = _
    rw [show l.length - 1 + 1 = l.length by omega, List.take_length, join_len l c hn]
    omega)]
  cases hB : (l.any (has c) || decide (((Go.Lib.lens l : Nat) : Int) + ((l.length : Int) - 1) > 4000)) <;> rfl

/-! ### Draws -/
theorem T_any1 {β : Type} {code : List Int} {k : Nat} {c : Cur} {Q : β → Prop} {f : List UInt8 × Cur → Option β} (hb : Bytes code) (h : Good code k c) (hk : k < 700000000) (hf : ∀ x c', x ∈ any1 → Good code (k + 2) c' → T (f (x, c')) Q) : T ((M.spec_l1Cur_any1 c).bind f) Q := by
  refine T.then (Q := fun r => r.1 ∈ any1 ∧ Good code (k + 2) r.2) ?_ (fun r hr => hf r.1 r.2 hr.1 hr.2)
  unfold M.spec_l1Cur_any1
  refine T_of hb h (by omega) (by simp) ?_
  intro x c' hx hc
  exact T_ret ⟨hx, hc⟩
theorem good0s {code : List Int} : Good code 0 (⟨code, 0, 0⟩ : Cur) := ⟨rfl, Int.le_refl _, Int.le_refl _⟩
theorem lens_snoc (l : List (List UInt8)) (x : List UInt8) : Go.Lib.lens (l ++ [x]) = Go.Lib.lens l + x.length := by simp [Go.Lib.lens]
theorem toBytes_len : ∀ (l : List Int), (toBytes l).length = l.length := by
  intro l
  unfold toBytes
  simp
theorem drawJoin {code : List Int} (hb : Bytes code) : T (M.spec_DrawJoinStrings code) (fun r => PB r.1) := by
  unfold M.spec_DrawJoinStrings
  refine T_pick hb good0s (by omega) ?_
  intro n c1 _ hn h1
  have hn := hn (by omega)
  try dsimp only
  refine T.then (Q := fun r => (r.1.length ≤ 4 ∧ Go.Lib.lens r.1 ≤ 100) ∧ Good code 100 r.2) (T_iter (fun s => ∃ i : Nat, s.2.1 = (i : Int) ∧ i ≤ 4 ∧ s.1.length = i ∧ Go.Lib.lens s.1 ≤ 20 * i ∧ Good code (10 + 10 * i) s.2.2) (fun s => 4 - s.2.1.toNat) _ ⟨0, rfl, by omega, rfl, by simp [Go.Lib.lens], h1.up (by omega)⟩ (by simp only; omega) ?_) ?_
  · rintro ⟨l, _, c2⟩ ⟨i, rfl, g1, g2, g3, g4⟩
    simp only at g2 g3 g4
    unfold M.spec_DrawJoinStrings_l0
    try dsimp only
    refine T_if (fun hq => ?_) (fun hq => T_ret ⟨⟨by simp only; omega, by simp only; omega⟩, g4.up (by omega)⟩)
    simp only [decide_eq_true_eq] at hq
    refine T_any1 hb g4 (by omega) ?_
    intro x c3 hx h2
    have := any1_len x hx
    try dsimp only
    refine T_ask (by simp only [List.length_cons, List.length_nil]; omega) (T_ret ?_)
    rw [wrap64_id (by omega) (by omega)]
    exact ⟨⟨i + 1, by simp only; omega, by omega, by simp only [List.length_append, List.length_cons, List.length_nil]; omega, by simp only [lens_snoc]; omega, h2.up (by omega)⟩, by simp only; omega⟩
  · rintro ⟨l, c2⟩ ⟨⟨g1, g2⟩, g3⟩
    simp only at g1 g2 g3
    try dsimp only
    refine T.then (Q := fun r => (r.1.length ≤ 5 ∧ Go.Lib.lens r.1 ≤ 10000) ∧ Good code 200 r.2) ?_ ?_
    · refine T_one hb g3 (by omega) ?_
      intro b c3 h2
      try dsimp only
      refine T_if (fun _ => ?_) (fun _ => T_ret ⟨⟨by simp only; omega, by simp only; omega⟩, h2.up (by omega)⟩)
      refine T_pick hb h2 (by omega) ?_
      intro y c4 _ hy h3
      have hy := hy (by omega)
      try dsimp only
      rw [wrap64_id (n := 3990 + y) (by omega) (by omega)]
      refine T_ask ⟨by omega, by omega, by omega⟩ (T_ask (by simp only [List.length_cons, List.length_nil]; omega) (T_ret ⟨⟨by simp only [List.length_append, List.length_cons, List.length_nil]; omega, ?_⟩, h3.up (by omega)⟩))
      simp only [lens_snoc, toBytes_len, List.length_replicate]
      omega
    · rintro ⟨l1, c3⟩ ⟨⟨q1, q2⟩, q3⟩
      simp only at q1 q2 q3
      try dsimp only
      refine T_of hb q3 (by omega) (by simp) ?_
      intro m c4 _ _
      exact T_ret ⟨by simp only; omega, by simp only; omega⟩
theorem joinN (l : List (List UInt8)) (m : List UInt8) (h : l.length = 0 ∨ m.length ≠ 1) : M.impl_JoinStrings l m = some ([], false) ∧ M.spec_JoinStrings l m = some ([], false) := by
  have e : (((l.length : Int) == 0) || ((m.length : Int) != 1)) = true := by
    rw [Bool.or_eq_true, beq_iff_eq, bne_iff_ne]
    omega
  constructor
  · unfold M.impl_JoinStrings
    rw [e, cond_true]
  · unfold M.spec_JoinStrings
    rw [Bool.or_comm, e, cond_true]
theorem join_same (l : List (List UInt8)) (m : List UInt8) (hl : PB l) : ∃ r, M.impl_JoinStrings l m = some r ∧ M.spec_JoinStrings l m = some r := by
  by_cases h : l.length = 0 ∨ m.length ≠ 1
  · exact ⟨_, joinN l m h⟩
  · have hm : m.length = 1 := by omega
    obtain ⟨c, rfl⟩ := List.length_eq_one_iff.1 hm
    exact ⟨_, joinI l c hl (by omega), joinS l c hl (by omega)⟩
theorem split_ok (s : List UInt8) (c : UInt8) (hs : s.length ≤ 4000) : M.impl_SplitString s [c] = some (piecesOf s c, true) := by
  unfold M.impl_SplitString M.strings_Split
  rw [decide_eq_false (by omega), show ((([c] : List UInt8).length : Int) != 1) = false from rfl, Bool.or_self, cond_false, asrt_pos ⟨by omega, by simp⟩, Option.bind_some]
  rfl
theorem split_no (s m : List UInt8) (h : m.length ≠ 1) : M.impl_SplitString s m = some ([], false) := by
  unfold M.impl_SplitString
  rw [show ((m.length : Int) != 1) = true by rw [bne_iff_ne]; omega, Bool.or_true, cond_true]
theorem back_ok (s : List UInt8) (c : UInt8) (hs : s ∈ any1) (hc : c ∈ ([44, 32] : List UInt8)) : M.impl_JoinStrings (piecesOf s c) [c] = some (s, true) := by
  obtain ⟨h1, h2, h3, h4, h5, h6⟩ := split_some s hs c hc
  rw [joinI _ c ⟨by omega, by omega⟩ h4]
  unfold JoinD
  rw [h2, h1, Bool.false_or, decide_eq_false (by omega), cond_false]

/-! ### The law -/
theorem law_FnSplitJoin (code : List Int) (h1 : code.length ≤ 9223372036854775807) (h2 : ∀ x, x ∈ code → 0 ≤ x ∧ x ≤ 255) : M.laws_FnSplitJoin code = some true := by
  apply T.eq
  unfold M.laws_FnSplitJoin M.laws_vBig
  rw [Option.bind_some]
  refine T_if (fun _ => T_ret rfl) (fun hq => ?_)
  simp only [decide_eq_false_iff_not] at hq
  have hb : Bytes code := ⟨by omega, h2⟩
  have d1 : T (M.spec_DrawSplitString code) (fun r => r.1 ∈ any1 ∧ (r.2.length ≠ 1 ∨ r.2 = [44] ∨ r.2 = [32])) := by
    unfold M.spec_DrawSplitString
    refine T_any1 hb good0s (by omega) ?_
    intro x c1 hx h3
    refine T_of hb h3 (by omega) (by simp) ?_
    intro m c2 hm _
    exact T_ret ⟨hx, seps_some m hm⟩
  refine d1.then ?_
  rintro ⟨s, m⟩ ⟨hs, hm⟩
  simp only at hs hm
  dsimp only
  have hsl := any1_len s hs
  have hsp : ∃ y2, M.impl_SplitString s m = some y2 ∧ (m.length ≠ 1 → y2 = ([], false)) ∧ (m.length = 1 → ∃ c ∈ ([44, 32] : List UInt8), m = [c] ∧ y2 = (piecesOf s c, true)) := by
    rcases hm with hm | rfl | rfl
    · exact ⟨_, split_no s m hm, fun _ => rfl, fun h => absurd h hm⟩
    · exact ⟨_, split_ok s 44 (by omega), fun h => absurd rfl h, fun _ => ⟨44, by simp, rfl, rfl⟩⟩
    · exact ⟨_, split_ok s 32 (by omega), fun h => absurd rfl h, fun _ => ⟨32, by simp, rfl, rfl⟩⟩
  obtain ⟨y2, e2, n1, n2⟩ := hsp
  rw [e2, Option.bind_some]
  refine (drawJoin hb).then ?_
  rintro ⟨l, mk⟩ hl
  simp only at hl
  dsimp only
  obtain ⟨r, e3, e4⟩ := join_same l mk hl
  rw [e3, Option.bind_some, e4, Option.bind_some]
  have d3 : T (M.spec_DrawLessString code) (fun r => r.1 ∈ any1 ∧ r.2 ∈ any1) := by
    unfold M.spec_DrawLessString
    refine T_any1 hb good0s (by omega) ?_
    intro x c1 hx h3
    refine T_any1 hb h3 (by omega) ?_
    intro y c2 hy _
    exact T_ret ⟨hx, hy⟩
  refine d3.then ?_
  rintro ⟨a, b⟩ ⟨ha, hb2⟩
  simp only at ha hb2
  dsimp only
  unfold M.impl_LessString M.spec_LessString
  have hlt := less_some a ha b hb2
  simp only [beq_self_eq_true, Bool.not_true, Bool.or_self, cond_false, Option.bind_some, Bool.false_or]
  have e5 : (bif Op.bytesLess a b then some (Op.bytesLess b a) else some default : Option Bool) = some (bif Op.bytesLess a b then Op.bytesLess b a else false) := by cases Op.bytesLess a b <;> rfl
  rw [e5, Option.bind_some]
  have e6 : (Op.bytesLess a b && (bif Op.bytesLess a b then Op.bytesLess b a else false)) = false := by
    cases h : Op.bytesLess a b
    · rfl
    · rw [h] at hlt
      simpa using hlt
  rw [e6, cond_false]
  refine T_if (fun ho => ?_) (fun ho => ?_)
  · rw [bne_iff_ne] at ho
    rw [n1 (by omega)]
    exact T_ret rfl
  · rw [bne_eq_false_iff_eq] at ho
    obtain ⟨c, hc, rfl, rfl⟩ := n2 (by omega)
    rw [back_ok s c hs hc, Option.bind_some]
    exact T_ret (by simp)
end Go.Proofs.YtfebeomnlkfgoaaDoor
