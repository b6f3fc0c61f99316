/-
  A calculus for models: 'T m Q' says that the model m answers, and that Q holds of its answer; the cursor of the draws.
-/
import Derived.Test.YteocnbeefedbkaaPb
import Derived.Test.YteocnbeefedbkaaMsM
set_option linter.unusedSimpArgs false
set_option linter.unusedVariables false
namespace Go.Proofs.Yteocnbeefedbkaa
open Go.VS

def T {β : Type} (m : Option β) (Q : β → Prop) : Prop := ∃ x, m = some x ∧ Q x

theorem T_some {β : Type} {x : β} {Q : β → Prop} : T (some x) Q ↔ Q x := ⟨fun ⟨_, h, q⟩ => by cases h; exact q, fun h => ⟨x, rfl, h⟩⟩

theorem T_bind {β γ : Type} {m : Option β} {f : β → Option γ} {Q : γ → Prop} : T (m.bind f) Q ↔ T m (fun x => T (f x) Q) := by
  constructor
  · rintro ⟨y, h, q⟩
    cases m with
    | none => cases h
    | some x => exact ⟨x, rfl, y, h, q⟩
  · rintro ⟨x, rfl, y, h, q⟩
    exact ⟨y, h, q⟩

theorem T_asrt {β : Type} {p : Prop} [Decidable p] {m : Option β} {Q : β → Prop} : T (asrt p m) Q ↔ p ∧ T m Q := by
  by_cases h : p
  · rw [asrt_pos h]; simp [h]
  · unfold asrt; rw [if_neg h]; simp [h, T]

theorem T_bif {β : Type} {b : Bool} {m n : Option β} {Q : β → Prop} : T (bif b then m else n) Q ↔ (b = true → T m Q) ∧ (b = false → T n Q) := by cases b <;> simp

theorem T.mono {β : Type} {m : Option β} {Q R : β → Prop} (h : T m Q) (hq : ∀ x, Q x → R x) : T m R := let ⟨x, h1, h2⟩ := h; ⟨x, h1, hq x h2⟩

theorem T.then {β γ : Type} {m : Option β} {f : β → Option γ} {Q : β → Prop} {R : γ → Prop} (h : T m Q) (hf : ∀ x, Q x → T (f x) R) : T (m.bind f) R := T_bind.2 (h.mono hf)

theorem T.eq {β : Type} {m : Option β} {x : β} (h : T m (fun y => y = x)) : m = some x := by obtain ⟨y, h1, rfl⟩ := h; exact h1

theorem T.of_eq {β : Type} {m : Option β} {x : β} {Q : β → Prop} (h : m = some x) (q : Q x) : T m Q := ⟨x, h, q⟩

theorem T_iter {S E : Type} {step : S → Option (S ⊕ E)} {s : S} (I : S → Prop) (μ : S → Nat) (Q : E → Prop) (h0 : I s) (hμ : μ s < 1000000000000)
    (h : ∀ s, I s → T (step s) (fun r => match r with | .inl s' => I s' ∧ μ s' < μ s | .inr e => Q e)) : T (iterO step s) Q := by
  obtain ⟨e, h1, h2⟩ := loopO_inv I μ Q (step := step) (fun s hs => by
    obtain ⟨r, h1, h2⟩ := h s hs
    cases r with
    | inl s' => exact .inl ⟨s', h1, h2.1, h2.2⟩
    | inr e => exact .inr ⟨e, h1, h2⟩) rounds s h0 (by unfold rounds; omega)
  exact ⟨e, h1, h2⟩

/-! ### The cursor -/

/-- A cursor over bytes, of which at most k were asked for. -/
def Good (code : List Int) (k : Nat) (c : Cur) : Prop := c.Code = code ∧ 0 ≤ c.At ∧ c.At ≤ (k : Int)

def Bytes (code : List Int) : Prop := code.length ≤ 65536 ∧ ∀ b ∈ code, 0 ≤ b ∧ b ≤ 255

theorem bytes_getD {code : List Int} (h : Bytes code) {i : Nat} (hi : i < code.length) : 0 ≤ code.getD i default ∧ code.getD i default ≤ 255 := by
  have : code.getD i default = code[i] := by simp [List.getD, hi]
  rw [this]
  exact h.2 _ (List.getElem_mem hi)

theorem low_bits (x : BitVec 64) : (x &&& 255#64).toNat ≤ 255 := by
  have := Nat.and_le_right (n := x.toNat) (m := 255)
  simpa using this

theorem next_ok {code : List Int} {k : Nat} {c : Cur} (hb : Bytes code) (h : Good code k c) (hk : k < 1000000000) : T (M.spec_l1Cur_next c) (fun r => (0 ≤ r.1 ∧ r.1 ≤ 255) ∧ Good code (k + 1) r.2) := by
  obtain ⟨h1, h2, h3⟩ := h
  unfold M.spec_l1Cur_next
  have e1 : IntKind.i64.wrap (c.At + 1) = c.At + 1 := wrap64_id (by omega) (by omega)
  refine T.then (Q := fun b => 0 ≤ b ∧ b ≤ 255) ?_ ?_
  · rw [T_bif]
    refine ⟨fun hc => ?_, fun _ => by rw [T_some]; omega⟩
    simp only [decide_eq_true_eq] at hc
    rw [T_asrt, T_some]
    refine ⟨⟨h2, hc⟩, ?_⟩
    have := bytes_getD hb (i := c.At.toNat) (by rw [← h1]; omega)
    rw [h1, wrap64_id (by omega) (by omega)]
    exact this
  · intro b hb'
    rw [T_bif]
    refine ⟨fun _ => ?_, fun _ => ?_⟩
    · rw [T_some]
      refine ⟨hb', h1, ?_, ?_⟩ <;> simp only [e1] <;> omega
    · rw [T_some]
      refine ⟨?_, h1, ?_, ?_⟩
      · simp only
        generalize BitVec.ofInt IntKind.u64.bits (Int.fdiv _ _) = x
        have := low_bits x
        have e2 : (x &&& BitVec.ofInt IntKind.u64.bits (255 : Int)).toNat ≤ 255 := this
        generalize (x &&& BitVec.ofInt IntKind.u64.bits (255 : Int)).toNat = y at e2
        have e3 : IntKind.u64.wrap (y : Int) = y := by
          unfold IntKind.wrap
          simp [IntKind.signed, IntKind.bits]
          omega
        rw [e3, wrap64_id (by omega) (by omega)]
        omega
      · simp only [e1]; omega
      · simp only [e1]; omega

theorem tmod_range {x n : Int} (hx : 0 ≤ x) (hn : 0 < n) : 0 ≤ Int.tmod x n ∧ Int.tmod x n < n := by
  rw [Int.tmod_eq_emod_of_nonneg hx]
  exact ⟨Int.emod_nonneg _ (by omega), Int.emod_lt_of_pos _ hn⟩

theorem Good.up {code : List Int} {k m : Nat} {c : Cur} (h : Good code k c) (hm : k ≤ m) : Good code m c := ⟨h.1, h.2.1, by have := h.2.2; omega⟩

theorem pick_ok {code : List Int} {k : Nat} {c : Cur} {n : Int} (hb : Bytes code) (h : Good code k c) (hk : k < 900000000) : T (M.spec_l1Cur_pick c n) (fun r => (n ≤ 1 → r.1 = 0) ∧ (1 ≤ n → 0 ≤ r.1 ∧ r.1 < n) ∧ Good code (k + 2) r.2) := by
  unfold M.spec_l1Cur_pick
  rw [T_bif]
  refine ⟨fun hc => ?_, fun hc => ?_⟩
  · simp only [decide_eq_true_eq] at hc
    rw [T_some]
    exact ⟨fun _ => rfl, fun h1 => ⟨Int.le_refl _, by show (0 : Int) < n; omega⟩, h.up (by omega)⟩
  · simp only [decide_eq_false_iff_not] at hc
    refine (next_ok hb h (by omega)).then ?_
    rintro ⟨b, c'⟩ ⟨h1, h2⟩
    refine T.then (Q := fun r => 0 ≤ r.1 ∧ Good code (k + 2) r.2) ?_ ?_
    · rw [T_bif]
      refine ⟨fun _ => ?_, fun _ => ?_⟩
      · refine (next_ok hb h2 (by omega)).then ?_
        rintro ⟨b2, c2⟩ ⟨h3, h4⟩
        rw [T_some]
        simp only at h1 h3 ⊢
        rw [wrap64_id (n := b * 256) (by omega) (by omega), wrap64_id (by omega) (by omega)]
        exact ⟨by omega, h4⟩
      · rw [T_some]; exact ⟨h1.1, h2.up (by omega)⟩
    · rintro ⟨x, c2⟩ ⟨h3, h4⟩
      simp only
      rw [T_asrt, T_some]
      exact ⟨by omega, fun h5 => by omega, fun _ => tmod_range h3 (by omega), h4⟩

theorem getD_mem {β : Type} [Inhabited β] {l : List β} {i : Nat} (h : i < l.length) : l.getD i default ∈ l := by
  have : l.getD i default = l[i] := by simp [List.getD, h]
  rw [this]; exact List.getElem_mem h

theorem among_ok {code : List Int} {k : Nat} {c : Cur} {l : List Int} (hb : Bytes code) (h : Good code k c) (hk : k < 900000000) (hl : l ≠ []) : T (M.spec_l1Cur_among c l) (fun r => r.1 ∈ l ∧ Good code (k + 2) r.2) := by
  unfold M.spec_l1Cur_among
  have hl' : 0 < l.length := List.length_pos_iff.2 hl
  refine (pick_ok hb h hk).then ?_
  rintro ⟨x, c'⟩ ⟨_, h2, h3⟩
  have h4 := h2 (by omega)
  rw [T_asrt, T_some]
  exact ⟨h4, getD_mem (by omega), h3⟩

theorem one_ok {code : List Int} {k : Nat} {c : Cur} {n : Int} (hb : Bytes code) (h : Good code k c) (hk : k < 900000000) : T (M.spec_l1Cur_one c n) (fun r => Good code (k + 2) r.2) := by
  unfold M.spec_l1Cur_one
  refine (pick_ok hb h hk).then ?_
  rintro ⟨x, c'⟩ ⟨_, _, h3⟩
  rw [T_some]
  exact h3

end Go.Proofs.Yteocnbeefedbkaa
