/-
  Deep lists that are filled from the front: their first elements hold own slices, the others frozen ones. Over any program. No condition.
-/
import Derived.Test.YteocnbeefedbkaaWl
set_option linter.unusedSimpArgs false
set_option linter.unusedVariables false
namespace Go.VS

def Mix {T : Type} (m : Nat) (inn : T → List PV) (frz : T → PV) (k : Nat) (ts : List PV) (os : List (Nat × Obj')) (xs : List T) : Prop :=
  k ≤ xs.length ∧ ∃ tsA, ts = tsA ++ (xs.drop k).map frz ∧ Deep m inn tsA os (xs.take k)

section
variable {T : Type} {m : Nat} {inn : T → List PV} {frz : T → PV} {k : Nat} {ts : List PV} {os : List (Nat × Obj')} {xs : List T}

theorem Mix.init : Mix m inn frz 0 (xs.map frz) [] xs := ⟨Nat.zero_le _, [], by simp, by rw [List.take_zero]; exact Deep.empty⟩

theorem Mix.parts (h : Mix m inn frz k ts os xs) : ∃ tsA, ts = tsA ++ (xs.drop k).map frz ∧ Deep m inn tsA os (xs.take k) ∧ tsA.length = k := by
  obtain ⟨h0, tsA, h1, h2⟩ := h
  have := h2.length
  rw [List.length_take] at this
  exact ⟨tsA, h1, h2, by omega⟩

theorem Mix.length (h : Mix m inn frz k ts os xs) : ts.length = xs.length := by
  have h0 := h.1
  obtain ⟨tsA, h1, h2, h3⟩ := h.parts
  rw [h1, List.length_append, List.length_map, List.length_drop, h3]
  omega

theorem Mix.get [Inhabited T] (h : Mix m inn frz k ts os xs) (hk : k < xs.length) : ts.getD k .nils = frz (xs.getD k default) := by
  obtain ⟨tsA, rfl, h2, h3⟩ := h.parts
  subst h3
  have e : xs.drop tsA.length = xs.getD tsA.length default :: xs.drop (tsA.length + 1) := by
    rw [List.drop_eq_getElem_cons hk]
    simp [List.getD, hk]
  rw [e]
  simp [List.getD]

theorem Mix.step [Inhabited T] {t : PV} {o : List (Nat × Obj')} {x' : T} (h : Mix m inn frz k ts os xs) (hk : k < xs.length) (h1 : Deep1 m t o (inn x')) : Mix m inn frz (k + 1) (ts.set k t) (os ++ o) (xs.set k x') := by
  obtain ⟨tsA, rfl, h2, h3⟩ := h.parts
  refine ⟨by rw [List.length_set]; omega, tsA ++ [t], ?_, ?_⟩
  · rw [List.drop_set_of_lt (by omega), List.drop_eq_getElem_cons hk, List.map_cons, List.set_append_right _ _ (by omega), h3, Nat.sub_self, List.set_cons_zero, List.append_assoc]
    rfl
  · have e : (xs.set k x').take (k + 1) = xs.take k ++ [x'] := by
      rw [List.take_succ_eq_append_getElem (by rw [List.length_set]; omega), List.getElem_set_self, List.take_set_of_le (Nat.le_refl _)]
    rw [e]
    exact Deep.append h2 (Deep.one h1)

theorem Mix.done (h : Mix m inn frz k ts os xs) (hk : xs.length ≤ k) : Deep m inn ts os xs := by
  obtain ⟨tsA, rfl, h2, h3⟩ := h.parts
  rw [List.take_of_length_le hk] at h2
  rw [List.drop_eq_nil_of_le hk, List.map_nil, List.append_nil]
  exact h2

theorem deepC_map {f : T → PV} {cell : PV → T → PV} (h : ∀ x, f x = cell (frz x) x) : ∀ {xs : List T}, List.map f xs = deepC cell (List.map frz xs) xs
  | [] => rfl
  | x :: xs => by
    have := deepC_map h (xs := xs)
    simp only [deepC, List.map_cons, List.zipWith_cons_cons] at this ⊢
    rw [h x, this]

theorem Mix.round {i : Int} {n : Nat} (h0 : 0 ≤ i) (h1 : i < (n : Int)) (h2 : (n : Int) ≤ 2147483648) : 0 ≤ IntKind.i64.wrap (i + 1) ∧ (IntKind.i64.wrap (i + 1)).toNat = i.toNat + 1 := by
  rw [wrap64_id (by omega) (by omega)]
  omega
end

/-! ### An inner slice that stands apart -/
section
variable {Φ : Ctx} {α : AEnv} {K : AEnv → Prop} {o : Oper} {T : Type} {m n jj : Nat} {inn : T → List PV} {cell : PV → T → PV} {ts : List PV} {xs : List T}

/-- A load of an inner slice whose tree is known. -/
theorem V1.loadKnown [Inhabited T] (hC : CellOK n jj m inn cell) {d t m' : Nat} {x : Operand} {b i k : Nat} {p : PV} (ho : o.op = .load t x) (hd : o.dst = some d)
    (ht : tyk Φ.P t = some (false, m')) (hx : aeval α x = some (.ref b n i jj)) (hb : α.H[k]? = some (b, ⟨n, deepC cell ts xs⟩)) (hl : ts.length = xs.length) (hi : i < xs.length) (hp : ts.getD i .nils = p) (hc : p.cellsL = [p]) (hn : d < α.n)
    (hk : K (α.put d p)) : V1 Φ o α K := by
  subst hp
  exact V1.loadRef (k := k) ho hd ht hx hb rfl (deepC_get hl hi) (hC.isl _ _ hc) hn hk

theorem optS_cells {m : Nat} {ob : Option Nat} {l : Nat} : (optS m ob l).cellsL = [optS m ob l] := by cases ob <;> rfl

/-- The inner slice of another element, while one is apart. -/
theorem Deep.other [Inhabited T] {β : Type} {f : β → PV} {g : T → List β} {os1 os2 : List (Nat × Obj')} {i k : Nat} (hd0 : g (default : T) = [])
    (hp : ∀ t' o' x', Deep1 m t' o' (List.map f (g x')) → Deep m (fun x => List.map f (g x)) (ts.set i t') (os1 ++ (o' ++ os2)) (xs.set i x')) (hne : k ≠ i) (hk : k < xs.length) :
    ∃ ob : Option Nat, (ob = none → g (xs.getD k default) = []) ∧ ts.getD k .nils = optS m ob (g (xs.getD k default)).length ∧ ∀ p, p ∈ optH m ob (List.map f (g (xs.getD k default))) → p ∈ os1 ++ os2 := by
  have h0 := hp .nils [] default ⟨none, (fun _ => by rw [hd0]; rfl), by simp [optS], rfl⟩
  obtain ⟨ob, a1, a2, h1, h2, h3, _, _⟩ := h0.focusM k (by rw [List.length_set]; exact hk)
  have e1 : (xs.set i default).getD k default = xs.getD k default := by simp [List.getD, List.getElem?_set, Ne.symm hne]
  have e2 : (ts.set i .nils).getD k .nils = ts.getD k .nils := by simp [List.getD, List.getElem?_set, Ne.symm hne]
  rw [e1] at h1 h2 h3
  rw [e2] at h2
  refine ⟨ob, h1, h2, fun p hp' => ?_⟩
  have : p ∈ os1 ++ ([] ++ os2) := by rw [h3]; exact List.mem_append_right _ (List.mem_append_left _ hp')
  simpa using this

theorem memMid {γ : Type} {A T X H : List γ} {p : γ} (h : p ∈ T) (hH : H = (A ++ T) ++ X) : p ∈ H := by
  rw [hH]; exact List.mem_append_left _ (List.mem_append_right _ h)

theorem SrcOf.optMem {P : Program} {u n : Nat} {ob : Option Nat} {β : Type} {f : β → PV} {l : List β} (h0 : ob = none → l = []) (hm : ∀ p, p ∈ optH n ob (l.map f) → p ∈ α.H) (hu : isSl P u = true) : SrcOf P α u n (optS n ob l.length) (l.map f) := by
  cases ob with
  | none => rw [h0 rfl]; exact SrcOf.nils hu
  | some b =>
    obtain ⟨k, hk⟩ := List.getElem?_of_mem (hm (b, ⟨n, l.map f⟩) (by simp [optH]))
    exact SrcOf.srMap hk hu
end
end Go.VS
