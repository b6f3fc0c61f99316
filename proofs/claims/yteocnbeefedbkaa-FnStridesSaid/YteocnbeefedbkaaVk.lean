/-
  Forgetting, loops by data, own blocks given away for good. Over any program. No condition.
-/
import Derived.Test.YteocnbeefedbkaaVj
set_option linter.unusedSimpArgs false
set_option linter.unusedVariables false
namespace Go.VS

/-! ### Forgetting -/
/-- Each of these slots reads so. -/
def HasAll (E : List (Nat × PV)) : List (Nat × PV) → Prop
  | [] => True
  | (t, x) :: r => get E t = some x ∧ HasAll E r

theorem HasAll.get {E : List (Nat × PV)} : ∀ {E' : List (Nat × PV)}, HasAll E E' → ∀ {t : Nat} {x : PV}, get E' t = some x → Go.VS.get E t = some x
  | [], _, t, x, h => by cases h
  | (s, y) :: r, h, t, x, hx => by
    simp only [Go.VS.get] at hx
    split at hx
    · rename_i e
      have e := Nat.eq_of_beq_eq_true e
      subst e
      cases hx
      exact h.1
    · exact h.2.get hx

/-- The slots of L, as they read. -/
def PickOf (E : List (Nat × PV)) : List Nat → List (Nat × PV) → Prop
  | [], E0 => E0 = []
  | t :: L, E0 => ∃ x E1, E0 = (t, x) :: E1 ∧ get E t = some x ∧ PickOf E L E1

theorem PickOf.has {E : List (Nat × PV)} : ∀ {L : List Nat} {E0 : List (Nat × PV)}, PickOf E L E0 → HasAll E E0
  | [], E0, h => by simp only [PickOf] at h; subst h; exact trivial
  | t :: L, E0, h => by
    obtain ⟨x, E1, rfl, h1, h2⟩ := h
    exact ⟨h1, h2.has⟩

/-- The objects at these places. -/
def HasI (H : List (Nat × Obj')) : List Nat → List (Nat × Obj') → Prop
  | [], H0 => H0 = []
  | k :: ks, H0 => ∃ p r, H0 = p :: r ∧ H[k]? = some p ∧ HasI H ks r

theorem HasI.mem {H : List (Nat × Obj')} : ∀ {ks : List Nat} {H0 : List (Nat × Obj')}, HasI H ks H0 → ∀ p, p ∈ H0 → ∃ k, k ∈ ks ∧ H[k]? = some p
  | [], H0, h, p, hp => by simp only [HasI] at h; subst h; cases hp
  | k :: ks, H0, h, p, hp => by
    obtain ⟨q, r, rfl, h1, h2⟩ := h
    rcases List.mem_cons.1 hp with rfl | hp
    · exact ⟨k, by simp, h1⟩
    · obtain ⟨k', h3, h4⟩ := h2.mem p hp
      exact ⟨k', by simp [h3], h4⟩

theorem HasI.nodup {H : List (Nat × Obj')} (hn : (H.map Prod.fst).Nodup) : ∀ {ks : List Nat} {H0 : List (Nat × Obj')}, ks.Nodup → HasI H ks H0 → (H0.map Prod.fst).Nodup
  | [], H0, _, h => by simp only [HasI] at h; subst h; simp
  | k :: ks, H0, hk, h => by
    obtain ⟨q, r, rfl, h1, h2⟩ := h
    rw [List.nodup_cons] at hk
    rw [List.map_cons, List.nodup_cons]
    refine ⟨fun hm => ?_, HasI.nodup hn hk.2 h2⟩
    obtain ⟨p, hp, e⟩ := List.mem_map.1 hm
    obtain ⟨k', h3, h4⟩ := h2.mem p hp
    have e1 : (H.map Prod.fst)[k]? = some q.1 := by rw [List.getElem?_map, h1]; rfl
    have e2 : (H.map Prod.fst)[k']? = some q.1 := by rw [List.getElem?_map, h4, ← e]; rfl
    have := (List.getElem_inj hn).1 ((List.getElem?_eq_some_iff.1 e1).2.trans (List.getElem?_eq_some_iff.1 e2).2.symm)
    subst this
    exact hk.1 h3

/-- What shows α shows α' too. -/
def Keeps (Φ : Ctx) (α α' : AEnv) : Prop := ∀ a w, ER Φ α a w → ER Φ α' a w

theorem Keeps.refl (Φ : Ctx) (α : AEnv) : Keeps Φ α α := fun _ _ h => h
theorem Keeps.trans {Φ : Ctx} {α β γ : AEnv} (h : Keeps Φ α β) (h' : Keeps Φ β γ) : Keeps Φ α γ := fun a w e => h' a w (h a w e)

def nodupB : List Nat → Bool
  | [] => true
  | k :: ks => !(ks.contains k) && nodupB ks

theorem nodupB_spec : ∀ {ks : List Nat}, nodupB ks = true → ks.Nodup
  | [], _ => by simp
  | k :: ks, h => by
    simp only [nodupB, Bool.and_eq_true, Bool.not_eq_true'] at h
    rw [List.nodup_cons]
    exact ⟨by simpa using h.1, nodupB_spec h.2⟩

theorem Keeps.mk {Φ : Ctx} {α : AEnv} {n : Nat} {E : List (Nat × PV)} {H : List (Nat × Obj')} {ks : List Nat} (hn : α.n = n) (hE : HasAll α.E E) (hH : HasI α.H ks H) (hk : nodupB ks = true) : Keeps Φ α ⟨n, E, H⟩ := by
  subst hn
  rintro a w ⟨S, he⟩
  refine ⟨S, { he with slots := fun t x hx => he.slots t x (hE.get hx), objs := fun b o hb => ?_, nodup := hH.nodup he.nodup (nodupB_spec hk) }⟩
  obtain ⟨k, _, h⟩ := hH.mem (b, o) hb
  exact he.objs b o (List.mem_of_getElem? h)

theorem V.keep {Φ : Ctx} {c : Code} {Q : Exit → AEnv → Prop} {α : AEnv} (N : Nat) (L ks : List Nat) {E0 : List (Nat × PV)} {H0 : List (Nat × Obj')} (hn : α.n = N) (hE : PickOf α.E L E0) (hH : HasI α.H ks H0) (hk : nodupB ks = true) (h : V Φ c Q ⟨N, E0, H0⟩) : V Φ c Q α :=
  V.weaken (Keeps.mk hn hE.has hH hk) h

theorem VO.keep {Φ : Ctx} {ops : Array Oper} {l : List Oper} {K : AEnv → Prop} {α : AEnv} (N : Nat) (L ks : List Nat) {E0 : List (Nat × PV)} {H0 : List (Nat × Obj')} (hn : α.n = N) (hE : PickOf α.E L E0) (hH : HasI α.H ks H0) (hk : nodupB ks = true) (h : VO Φ ops l K ⟨N, E0, H0⟩) : VO Φ ops l K α :=
  VO.weaken (Keeps.mk hn hE.has hH hk) h

theorem someObj {b n : Nat} {xs ys : List PV} (h : xs = ys) : some (b, (⟨n, xs⟩ : Obj')) = some (b, ⟨n, ys⟩) := by rw [h]

/-! ### Loops by data -/
theorem V.loopD {Φ : Ctx} {c : Code} {Q : Exit → AEnv → Prop} {α : AEnv} {D : Type} (env : D → AEnv) (P : D → Prop) (μ : D → Nat) (d0 : D) (hα : α = env d0) (hP : P d0)
    (round : ∀ d, P d → V Φ c (thenV (fun α' => ∃ d', P d' ∧ μ d' < μ d ∧ Keeps Φ α' (env d')) Q) (env d)) : V Φ (.loop c) Q α := by
  refine V.loop (Inv := fun n α => ∃ d, μ d = n ∧ P d ∧ Keeps Φ α (env d)) ⟨d0, rfl, hP, by rw [hα]; exact Keeps.refl Φ _⟩ ?_
  rintro n α ⟨d, rfl, hp, hk⟩
  refine V.weaken hk (V.mono (round d hp) ?_)
  intro e α' h
  cases e with
  | normal =>
    obtain ⟨d', h1, h2, h3⟩ := h
    exact ⟨μ d', h2, d', rfl, h1, h3⟩
  | _ => exact h

/-- The same, the slots and objects that no round turns apart from the others. -/
theorem V.loopE {Φ : Ctx} {c : Code} {Q : Exit → AEnv → Prop} {α : AEnv} {D : Type} {N : Nat} (dyn : D → List (Nat × PV)) (Hd : D → List (Nat × Obj')) (P : D → Prop) (μ : D → Nat) (d0 : D) {E0 : List (Nat × PV)} {H0 : List (Nat × Obj')}
    (hα : α = ⟨N, dyn d0 ++ E0, Hd d0 ++ H0⟩) (hP : P d0)
    (round : ∀ d, P d → V Φ c (thenV (fun α' => ∃ d', P d' ∧ μ d' < μ d ∧ Keeps Φ α' ⟨N, dyn d' ++ E0, Hd d' ++ H0⟩) Q) ⟨N, dyn d ++ E0, Hd d ++ H0⟩) : V Φ (.loop c) Q α :=
  V.loopD (fun d => ⟨N, dyn d ++ E0, Hd d ++ H0⟩) P μ d0 hα hP round

theorem someInt {k : IntKind} {m n : Int} (h : m = n) : some (PV.int k m) = some (PV.int k n) := by rw [h]
theorem someBool {m n : Bool} (h : m = n) : some (PV.bool m) = some (PV.bool n) := by rw [h]
theorem someStr {m n : List UInt8} (h : m = n) : some (PV.str m) = some (PV.str n) := by rw [h]
theorem wrap64_id {n : Int} (h : -9223372036854775808 ≤ n) (h' : n ≤ 9223372036854775807) : IntKind.i64.wrap n = n := by rw [IntKind.wrap_i64]; omega

/-- The code behind a piece is walked once, from what the piece's ways have in common. -/
theorem V.cut {Φ : Ctx} {x : Code} {next : AEnv → Prop} {Q : Exit → AEnv → Prop} {α : AEnv} (M : AEnv → Prop) (h : V Φ x (thenV M Q) α) (hM : ∀ α', M α' → next α') : V Φ x (thenV next Q) α :=
  V.mono h fun e α' h => by cases e <;> first | exact hM α' h | exact h

theorem V.cutD {Φ : Ctx} {x y : Code} {Q : Exit → AEnv → Prop} {α : AEnv} {D : Type} (env : D → AEnv) (P : D → Prop) (h : V Φ x (thenV (fun α' => ∃ d, P d ∧ Keeps Φ α' (env d)) Q) α) (hM : ∀ d, P d → V Φ y Q (env d)) : V Φ (.seq x y) Q α :=
  V.seq (V.cut _ h fun α' ⟨d, hp, hk⟩ => V.weaken hk (hM d hp))

/-! ### Own blocks given away -/
theorem Keeps.freeze {Φ : Ctx} {α : AEnv} (t k ρ : Nat) {b n off len : Nat} {ob : Obj'} (ht : get α.E t = some (.sref b n off len)) (hb : α.H[k]? = some (b, ob)) (hm : ob.n = n) (hfit : off + len ≤ ob.xs.length) (hro : PV.roL ob.xs = true)
    (hρ : ρ = Φ.rn ∨ Φ.loc = true) (hI : ∀ c, Φ.I c → c ∈ (α.H.eraseIdx k).map Prod.fst) : Keeps Φ α ⟨α.n, (t, .vl ρ n ((ob.xs.drop off).take len)) :: α.E, α.H.eraseIdx k⟩ := by
  rintro a w ⟨S, he⟩
  obtain ⟨hob, hnS, hfr⟩ := he.objK hb
  have hlt := hob.lt
  have hsub : (α.H.eraseIdx k).Sublist α.H := List.eraseIdx_sublist _ _
  have hdiff : b ∉ (α.H.eraseIdx k).map Prod.fst := by
    intro hm
    have hnd := he.nodup
    obtain ⟨hkl, hke⟩ := List.getElem?_eq_some_iff.1 hb
    have hsplit : α.H = α.H.take k ++ (b, ob) :: α.H.drop (k + 1) := by rw [← hke, List.getElem_cons_drop, List.take_append_drop]
    have hers : α.H.eraseIdx k = α.H.take k ++ α.H.drop (k + 1) := List.eraseIdx_eq_take_drop_succ _ _
    rw [hers] at hm
    rw [hsplit] at hnd
    simp only [List.map_append, List.map_cons, List.mem_append] at hm hnd
    rw [List.nodup_append] at hnd
    obtain ⟨_, h2, h3⟩ := hnd
    rcases hm with hm | hm
    · exact h3 b hm b (by simp) rfl
    · exact (List.nodup_cons.1 h2).1 hm
  have hnew : Φ.w0.heap.size ≤ b := hfr.resolve_right fun hi => hdiff (hI b hi)
  let S' : Nat → Nat → Prop := fun r c => S r c ∨ (r = ρ ∧ c = b)
  have hS : ∀ r c, S r c → S' r c := fun _ _ h => .inl h
  have hst : Env Φ S' ⟨α.n, α.E, α.H.eraseIdx k⟩ a w := by
    refine he.step (Ext.refl (fun _ => False) w) (fun _ _ h => h.elim) hS ?_ ?_ (he.nodup.sublist (hsub.map _))
    · rintro r c (h | ⟨rfl, rfl⟩)
      · exact .inl h
      · refine .inr ⟨hρ, hnew, hlt, fun _ r' h => absurd h (hnS r'), fun _ r' h => ?_⟩
        rcases h with h | ⟨h, _⟩
        · exact absurd h (hnS r')
        · exact h
    · intro c o hc
      obtain ⟨q1, q2, q3⟩ := he.objs c o (hsub.subset hc)
      refine ⟨he.obj_step (Ext.refl (fun _ => False) w) (fun _ _ h => h.elim) hS (hsub.subset hc) id, ?_, q3⟩
      rintro r (h | ⟨_, rfl⟩)
      · exact q2 r h
      · exact hdiff (List.mem_map.2 ⟨(c, o), hc, rfl⟩)
  refine ⟨S', { hst with slots := fun s x hx => ?_ }⟩
  simp only [get] at hx
  split at hx
  · rename_i e
    have e := Nat.eq_of_beq_eq_true e
    subst e
    cases hx
    obtain ⟨v, h1, h2⟩ := he.slots t _ ht
    exact ⟨v, h1, Rep.srefVl he hb hm hfit hro hS (.inr ⟨rfl, rfl⟩) h2⟩
  · exact hst.slots s x hx

theorem Keeps.freezeAll {Φ : Ctx} {α : AEnv} (t k ρ : Nat) {b n len : Nat} {ob : Obj'} (ht : get α.E t = some (.sref b n 0 len)) (hb : α.H[k]? = some (b, ob)) (hm : ob.n = n) (hfit : ob.xs.length = len) (hro : PV.roL ob.xs = true)
    (hρ : ρ = Φ.rn ∨ Φ.loc = true) (hI : ∀ c, Φ.I c → c ∈ (α.H.eraseIdx k).map Prod.fst) : Keeps Φ α ⟨α.n, (t, .vl ρ n ob.xs) :: α.E, α.H.eraseIdx k⟩ := by
  have := Keeps.freeze t k ρ ht hb hm (by omega) hro hρ hI
  rw [List.drop_zero, List.take_of_length_le (by omega)] at this
  exact this

/-- The nil slice is an empty slice. -/
theorem Keeps.nils {Φ : Ctx} {α : AEnv} (t ρ n : Nat) (hn : 0 < n) (ht : get α.E t = some .nils) : Keeps Φ α ⟨α.n, (t, .vl ρ n []) :: α.E, α.H⟩ := by
  rintro a w ⟨S, he⟩
  refine ⟨S, { he with slots := fun s x hx => ?_ }⟩
  simp only [get] at hx
  split at hx
  · rename_i e
    have e := Nat.eq_of_beq_eq_true e
    subst e
    cases hx
    obtain ⟨v, h1, h2⟩ := he.slots t _ ht
    unfold Rep at h2
    refine ⟨v, h1, ?_⟩
    unfold Rep
    exact ⟨hn, [], by simp, by rw [Reps.nil_iff], .inl ⟨rfl, none, 0, h2⟩⟩
  · exact he.slots s x hx

/-- A fact in other words. -/
theorem Keeps.say {Φ : Ctx} {α : AEnv} (t : Nat) {x y : PV} (ht : get α.E t = some x) (h : x = y) : Keeps Φ α ⟨α.n, (t, y) :: α.E, α.H⟩ := by
  subst h
  rintro a w ⟨S, he⟩
  refine ⟨S, { he with slots := fun s z hz => ?_ }⟩
  simp only [get] at hz
  split at hz
  · rename_i e
    have e := Nat.eq_of_beq_eq_true e
    subst e
    cases hz
    exact he.slots t _ ht
  · exact he.slots s z hz

/-! ### Elements of mapped lists -/
section
variable {Φ : Ctx} {α : AEnv} {K : AEnv → Prop}

theorem V1.indexMap {β : Type} [Inhabited β] {o : Oper} {d : Nat} {t e n : Nat} {x i : Operand} {ρ : Nat} {l : List β} {f : β → PV} {k : IntKind} {m : Int} (ho : o.op = .indexAddr t x i) (hd : o.dst = some d)
    (ht : elemSz Φ.P t = some (e, n)) (hx : aeval α x = some (.vl ρ n (l.map f))) (hi : aeval α i = some (.int k m)) (h0 : 0 ≤ m) (hy : m.toNat < l.length) (hn : d < α.n)
    (hk : K (α.put d (.pin ρ (f (l.getD m.toNat default)) 0))) : V1 Φ o α K :=
  V1.indexVl ho hd ht hx hi h0 (by simp [List.getD, hy]) hn hk

theorem V1.indexMapN {β : Type} [Inhabited β] {o : Oper} {d : Nat} {t e n : Nat} {x i : Operand} {ρ : Nat} {l : List β} {f : β → PV} {k : IntKind} {m : Nat} (ho : o.op = .indexAddr t x i) (hd : o.dst = some d)
    (ht : elemSz Φ.P t = some (e, n)) (hx : aeval α x = some (.vl ρ n (l.map f))) (hi : aeval α i = some (.int k (m : Int))) (hy : m < l.length) (hn : d < α.n)
    (hk : K (α.put d (.pin ρ (f (l.getD m default)) 0))) : V1 Φ o α K :=
  V1.indexMap ho hd ht hx hi (Int.natCast_nonneg m) (by simpa using hy) hn (by simpa using hk)
end
end Go.VS
