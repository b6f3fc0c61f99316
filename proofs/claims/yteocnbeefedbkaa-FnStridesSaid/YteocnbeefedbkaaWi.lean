/-
  Functions of the library by the kit's contracts: a call that hands back plain data and writes nothing. Over any program. Conditions: what the contract asks.
-/
import Derived.Test.YteocnbeefedbkaaWh
import Derived.Below
import Derived.Lib.SlTrimSet
set_option linter.unusedSimpArgs false
set_option linter.unusedVariables false
namespace Go.VS
open Go.RowKit

theorem Ext.ofBelow {w w' : World} {I : Nat → Prop} (h : Below w.heap.size w w') : Ext I w w' where
  os := h.os
  tape := h.tape
  output := h.output
  size := h.size
  block k hk _ := h.block k hk
  shape k c hc := by
    obtain ⟨T, fz, h1, h2⟩ := hc
    have hk : k < w.heap.size := by
      rcases Nat.lt_or_ge k w.heap.size with h' | h'
      · exact h'
      · rw [Array.getElem?_eq_none h'] at h1; cases h1
    exact ⟨c, ⟨T, fz, by rw [h.block k hk]; exact h1, h2⟩, rfl⟩

/-- A call whose arguments are plain data, that hands back plain data and writes to nothing that was there. -/
theorem Does.ofBelow {P : Program} {f : FuncId} {args : List PV} {vs : List Value} {rn : Nat} {x : PV} {v : Value}
    (ha : ∀ (w : World) (S : Nat → Nat → Prop) (us : List Value), Reps w S true args us → us = vs) (hx : ∀ (w : World) (S : Nat → Nat → Prop), Rep w S true x v)
    (hc : ∀ w : World, Calls P f vs.toArray w fun e w' => e = .returned v ∧ Below w.heap.size w w') : Does P f args [] rn (fun y H => y = x ∧ H = []) := by
  intro w S us hS hr hH _
  obtain rfl := ha w S us hr
  refine (hc w).mono ?_
  rintro e w' ⟨rfl, hB⟩
  exact ⟨v, x, [], S, rfl, ⟨rfl, rfl⟩, hx w' S, ⟨List.nodup_nil, fun b o h => absurd h (List.not_mem_nil)⟩, Ext.ofBelow hB, fun _ _ h => h, fun ρ b h => ⟨Nat.lt_of_lt_of_le (hS ρ b h) hB.size, .inl h⟩, fun b h => absurd h (List.not_mem_nil)⟩

/-- The same, for a contract that reads the library's tables. -/
theorem Does.ofBelowW {P : Program} {f : FuncId} {args : List PV} {vs : List Value} {rn : Nat} {x : PV} {v : Value}
    (ha : ∀ (w : World) (S : Nat → Nat → Prop) (us : List Value), Reps w S true args us → us = vs) (hx : ∀ (w : World) (S : Nat → Nat → Prop), Rep w S true x v)
    (hc : ∀ w : World, LibW P w (fun b => b ∈ ([] : List (Nat × Obj')).map Prod.fst) → Calls P f vs.toArray w fun e w' => e = .returned v ∧ Below w.heap.size w w') : Does P f args [] rn (fun y H => y = x ∧ H = []) := by
  intro w S us hS hr hH hL
  obtain rfl := ha w S us hr
  refine (hc w hL).mono ?_
  rintro e w' ⟨rfl, hB⟩
  exact ⟨v, x, [], S, rfl, ⟨rfl, rfl⟩, hx w' S, ⟨List.nodup_nil, fun b o h => absurd h (List.not_mem_nil)⟩, Ext.ofBelow hB, fun _ _ h => h, fun ρ b h => ⟨Nat.lt_of_lt_of_le (hS ρ b h) hB.size, .inl h⟩, fun b h => absurd h (List.not_mem_nil)⟩

theorem reps_str {w : World} {S : Nat → Nat → Prop} {s : List UInt8} {xs : List PV} {us : List Value} (h : Reps w S true (.str s :: xs) us) : ∃ us', us = .string ⟨s.toArray⟩ :: us' ∧ Reps w S true xs us' := by
  obtain ⟨u, us', rfl, h1, h2⟩ := Reps.cons_iff.1 h
  unfold Rep at h1
  exact ⟨us', by rw [h1], h2⟩
theorem reps_int {w : World} {S : Nat → Nat → Prop} {k : IntKind} {n : Int} {xs : List PV} {us : List Value} (h : Reps w S true (.int k n :: xs) us) : ∃ us', us = .int k n :: us' ∧ Reps w S true xs us' := by
  obtain ⟨u, us', rfl, h1, h2⟩ := Reps.cons_iff.1 h
  unfold Rep at h1
  exact ⟨us', by rw [h1], h2⟩
theorem rep_str {w : World} {S : Nat → Nat → Prop} {s : List UInt8} : Rep w S true (.str s) (.string ⟨s.toArray⟩) := by unfold Rep; rfl
theorem rep_int {w : World} {S : Nat → Nat → Prop} {k : IntKind} {n : Int} : Rep w S true (.int k n) (.int k n) := by unfold Rep; rfl
theorem rep_bool {w : World} {S : Nat → Nat → Prop} {b : Bool} : Rep w S true (.bool b) (.bool b) := by unfold Rep; rfl
theorem ascii_all {l : List UInt8} (h : l.all (fun b => decide (b.toNat < 128)) = true) : ∀ (j : Nat) b, l[j]? = some b → b.toNat < 128 :=
  fun _ b hb => of_decide_eq_true (List.all_eq_true.1 h b (List.mem_of_getElem? hb))
end Go.VS
