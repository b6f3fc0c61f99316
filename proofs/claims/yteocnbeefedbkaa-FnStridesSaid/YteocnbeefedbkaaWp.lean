/-
  Calls that hand back a new row of texts (strings.Split), by a contract of the kit. No condition.
-/
import Derived.Test.YteocnbeefedbkaaWn
import Derived.Lib.SplitLaws
set_option linter.unusedSimpArgs false
set_option linter.unusedVariables false
namespace Go.VS

theorem flatV_str : ∀ (L : List ByteArray), flatV (L.map Value.string) = L.map Value.string
  | [] => rfl
  | s :: L => by
    have := flatV_str L
    simp only [List.map_cons]
    unfold flatV at *
    simpa [Value.cells] using this
theorem good_str (s : ByteArray) : Good 1 (Value.string s) := by
  refine ⟨by simp [Value.cells], fun j c hc => ?_⟩
  have : c = Value.string s := by
    cases j with
    | zero => simpa [Value.cells] using hc.symm
    | succ j => simp [Value.cells] at hc
  subst this
  rfl
theorem reps_of_strs {w : World} {S : Nat → Nat → Prop} {own : Bool} : ∀ (L : List ByteArray), Reps w S own ((L.map fun t => t.data.toList).map encStr) (L.map Value.string)
  | [] => Reps.nil_iff.2 rfl
  | s :: L => Reps.cons_iff.2 ⟨_, _, rfl, by unfold encStr Rep; rfl, reps_of_strs L⟩

/-- A call of a function whose arguments are two texts and that hands back a new row of texts. -/
theorem Does.textsI {P : Program} {f : FuncId} {rn T n : Nat} {s sep : List UInt8} {L : List ByteArray} (hn : L.length = n)
    (hc : ∀ w : World, LibW P w (fun b => b ∈ ([] : List (Nat × Obj')).map Prod.fst) → Calls P f #[.string ⟨s.toArray⟩, .string ⟨sep.toArray⟩] w fun e w' => e = .returned (.slice (some ⟨w.heap.size, 0, none⟩) n n) ∧ w' = w.alloc (.cells (L.map Value.string).toArray T)) :
    Does P f [.str s, .str sep] [] rn (fun x H => ∃ ob : Option Nat, (ob = none → (L.map fun t => t.data.toList) = []) ∧ x = optS 1 ob (List.length (L.map fun t => t.data.toList)) ∧ H = optH 1 ob (List.map encStr (L.map fun t => t.data.toList))) := by
  intro w S us hS hr hH hL
  obtain ⟨us1, rfl, hr1⟩ := reps_str hr
  obtain ⟨us2, rfl, hr2⟩ := reps_str hr1
  obtain rfl := Reps.nil_iff.1 hr2
  refine (hc w hL).mono ?_
  rintro e w' ⟨rfl, rfl⟩
  have hgood : ∀ u ∈ L.map Value.string, Good 1 u := by
    intro u hu
    obtain ⟨t, _, rfl⟩ := List.mem_map.1 hu
    exact good_str t
  have hb : (w.alloc (.cells (L.map Value.string).toArray T)).heap[w.heap.size]? = some (.cells (L.map Value.string).toArray T (0, 0)) := by
    show (w.heap.push _)[w.heap.size]? = _
    simp
  refine ⟨_, .sref w.heap.size 1 0 n, [(w.heap.size, ⟨1, List.map encStr (L.map fun t => t.data.toList)⟩)], S, rfl, ⟨some w.heap.size, fun e => (by cases e), by simp [optS, hn], rfl⟩, ?_, ⟨by simp, fun b o h => ?_⟩, (Ext.alloc w _).trans (Ext.refl (fun _ => False) _) (fun _ h => h.elim) (fun _ _ h => h.elim), fun _ _ h => h, fun ρ b h => ⟨Nat.lt_of_lt_of_le (hS ρ b h) (Ext.alloc w _).size, .inl h⟩, fun b h => ?_⟩
  · unfold Rep
    refine ⟨rfl, .inr ⟨n, (L.map Value.string).toArray, by simp, Nat.le_refl _, ⟨T, (0, 0), hb, .inl (Nat.le_refl _)⟩, ?_⟩⟩
    simp [hn]
  · obtain ⟨rfl, rfl⟩ := Prod.mk.inj (List.mem_singleton.1 h)
    refine ⟨ObjAt.row (w := w) (us := L.map Value.string) (T := T) (rest := []) Nat.one_pos hgood (reps_of_strs L) ?_, fun ρ hb => absurd (hS ρ _ hb) (Nat.lt_irrefl _)⟩
    rw [List.append_nil, flatV_str]
    exact hb
  · simp only [List.map_cons, List.map_nil, List.mem_singleton] at h
    subst h
    exact .inr (Nat.le_refl _)
end Go.VS
