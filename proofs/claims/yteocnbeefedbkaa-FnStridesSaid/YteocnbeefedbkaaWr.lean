/-
  Deep lists whose elements go through a function value: pairs of a tree and of what it reads as. Over any program. No condition.
-/
import Derived.Test.YteocnbeefedbkaaWp
set_option linter.unusedSimpArgs false
set_option linter.unusedVariables false
namespace Go.VS

/-- A loop over states that another loop mirrors. -/
theorem loopO_map {S S' E E' : Type} {step : S → Option (S ⊕ E)} {step' : S' → Option (S' ⊕ E')} (g : S → S') (ge : E → E') (h : ∀ s, step' (g s) = (step s).map (Sum.map g ge)) : ∀ (n : Nat) (s : S), loopO step' n (g s) = (loopO step n s).map ge
  | 0, s => rfl
  | n + 1, s => by
    simp only [loopO, h s]
    cases step s with
    | none => rfl
    | some r => cases r with
      | inl t => exact loopO_map g ge h n t
      | inr e => rfl

section
variable {T : Type} {m : Nat} {inn : T → List PV}
/-- What is left of a deep list's pairs is a deep list. -/
theorem Deep.subPairs : ∀ {ts : List PV} {os : List (Nat × Obj')} {xs : List T} {ps : List (PV × T)}, Deep m inn ts os xs → List.Sublist ps (ts.zip xs) → ∃ os', List.Sublist os' os ∧ Deep m inn (ps.map Prod.fst) os' (ps.map Prod.snd)
  | [], os, xs, ps, h, hs => by
    obtain rfl : ps = [] := List.sublist_nil.1 hs
    exact ⟨[], List.nil_sublist _, Deep.empty⟩
  | t :: ts, _, _, ps, h, hs => by
    obtain ⟨o, os', x, xs', rfl, rfl, h1, h⟩ := h
    rw [List.zip_cons_cons] at hs
    cases hs with
    | cons _ hs =>
      obtain ⟨os2, g1, g2⟩ := Deep.subPairs h hs
      exact ⟨os2, g1.trans (List.sublist_append_right _ _), g2⟩
    | cons_cons _ hs =>
      obtain ⟨os2, g1, g2⟩ := Deep.subPairs h hs
      exact ⟨o ++ os2, (List.Sublist.refl _).append g1, ⟨o, os2, x, _, rfl, rfl, h1, g2⟩⟩
end

section
variable {β : Type} {f : β → PV} {m : Nat}
/-- The pair's tree is an inner slice that reads as the pair's list; its block stands in T. -/
def Held (m : Nat) (f : β → PV) (T : List (Nat × Obj')) (p : PV × List β) : Prop := ∃ ob : Option Nat, (ob = none → p.2 = []) ∧ p.1 = optS m ob p.2.length ∧ ∀ q, q ∈ optH m ob (p.2.map f) → q ∈ T

theorem Held.ofDeep : ∀ {ts : List PV} {os : List (Nat × Obj')} {xs : List (List β)}, Deep m (fun x => List.map f x) ts os xs → ∀ p, p ∈ ts.zip xs → Held m f os p
  | [], _, _, h, p, hp => by simp at hp
  | t :: ts, _, _, h, p, hp => by
    obtain ⟨o, os', x, xs', rfl, rfl, ⟨ob, h1, h2, h3⟩, h⟩ := h
    rw [List.zip_cons_cons] at hp
    rcases List.mem_cons.1 hp with rfl | hp
    · exact ⟨ob, fun e => List.map_eq_nil_iff.1 (h1 e), by rw [h2, List.length_map], fun q hq => List.mem_append_left _ (by rw [h3]; exact hq)⟩
    · obtain ⟨ob', g1, g2, g3⟩ := Held.ofDeep h p hp
      exact ⟨ob', g1, g2, fun q hq => List.mem_append_right _ (g3 q hq)⟩

theorem Lend.held {α : AEnv} {τ : Nat} {T : List (Nat × Obj')} {p : PV × List β} (hm : 0 < m) (hro : ∀ x, (f x).ro = true) (h : Held m f T p) (hT : ∀ q, q ∈ T → q ∈ α.H) :
    ∃ Bw : List Nat, (∀ b, b ∈ Bw → b ∈ α.H.map Prod.fst) ∧ Lend α τ Bw p.1 (.vl τ m (p.2.map f)) := by
  obtain ⟨ob, h1, h2, h3⟩ := h
  cases ob with
  | none =>
    refine ⟨[], fun b hb => (by cases hb), ?_⟩
    rw [h2, h1 rfl]
    intro Φ S a w v he hv
    have hv' : v = .slice none 0 0 := by unfold optS Rep at hv; exact hv
    unfold Rep
    exact ⟨hm, [], fun u hu => (by cases hu), Reps.nil_iff.2 rfl, .inl ⟨rfl, none, 0, hv'⟩⟩
  | some b =>
    have hb := hT (b, ⟨m, p.2.map f⟩) (h3 _ (by simp [optH]))
    obtain ⟨k, hk, e⟩ := List.getElem_of_mem hb
    refine ⟨[b], fun c hc => (by rw [List.mem_singleton.1 hc]; exact List.mem_map.2 ⟨_, hb, rfl⟩), ?_⟩
    rw [h2]
    exact Lend.srMap k (by rw [List.getElem?_eq_getElem hk, e]) hro (by simp)

variable {Φ : Ctx} {α : AEnv} {K : AEnv → Prop} {o : Oper}
/-- A function value is asked about an inner slice: it is lent for the call. -/
theorem V1.callHeld {d f0 t τ : Nat} {c : Call} {cs : List PV} {T : List (Nat × Obj')} {p : PV × List β} {rn : Nat} {b : Bool}
    (ho : o.op = .call c) (hc : c.callee = .value (.tmp t)) (hd : o.dst = some d) (ht : get α.E t = some (.fn f0 cs)) (hok : callOK Φ.P f0 = true) (hps : argsPV α c.args.toList = some [p.1])
    (hm : 0 < m) (hro : ∀ x, (f x).ro = true) (hp : Held m f T p) (hT : ∀ q, q ∈ T → q ∈ α.H)
    (hF : Does Φ.P f0 (.vl τ m (p.2.map f) :: cs) [] rn (fun x H => x = .bool b ∧ H = [])) (hτ : τ ≠ rn) (hrn : rn = Φ.rn ∨ Φ.loc = true) (hn : d < α.n)
    (hk : K ⟨α.n, (d, .bool b) :: α.E, α.H⟩) : V1 Φ o α K := by
  obtain ⟨Bw, h1, h2⟩ := Lend.held (α := α) (τ := τ) hm hro hp hT
  refine V1.callG (τ := τ) (Bw := Bw) hd hn (run_callFn ho hc ht hok hps) (.refl _) ⟨_, _, rfl, h2, Lends.same cs⟩ h1 hF hrn (.inr ⟨hτ, ?_⟩) ?_
  · rintro x H' ⟨rfl, rfl⟩
    exact ⟨rfl, fun b ob h => (by cases h)⟩
  · rintro x H' ⟨rfl, rfl⟩
    exact hk
end
end Go.VS
