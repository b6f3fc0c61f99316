/-
  Code in the symbolic environment, what a function does (Does), and calls by it. Over any program. Conditions: what a callee may change is named; what it is only lent stays as it is.
-/
import Derived.Test.YteocnbeefedbkaaVg
set_option linter.unusedSimpArgs false
set_option linter.unusedVariables false
namespace Go.VS

/-! ### Trees without own blocks -/
mutual
def PV.ro : PV → Bool
  | .ref .. | .sref .. | .mp .. => false
  | .agg cs => PV.roL cs
  | .tup vs => PV.roL vs
  | .fn _ cs => PV.roL cs
  | _ => true
def PV.roL : List PV → Bool
  | [] => true
  | x :: xs => x.ro && PV.roL xs
end

mutual
/-- No memory is reached at all. -/
def PV.flat : PV → Bool
  | .ref .. | .sref .. | .vl .. | .pin .. | .mp .. => false
  | .agg cs => PV.flatL cs
  | .tup vs => PV.flatL vs
  | .fn _ cs => PV.flatL cs
  | _ => true
def PV.flatL : List PV → Bool
  | [] => true
  | x :: xs => x.flat && PV.flatL xs
end

mutual
/-- The lot τ is not named. -/
def PV.no (τ : Nat) : PV → Bool
  | .vl ρ _ xs => !(Nat.beq ρ τ) && PV.noL τ xs
  | .pin ρ x _ => !(Nat.beq ρ τ) && x.no τ
  | .mp ρ _ _ xs => !(Nat.beq ρ τ) && PV.noL τ xs
  | .agg cs => PV.noL τ cs
  | .tup vs => PV.noL τ vs
  | .fn _ cs => PV.noL τ cs
  | _ => true
def PV.noL (τ : Nat) : List PV → Bool
  | [] => true
  | x :: xs => x.no τ && PV.noL τ xs
end

theorem roL_iff {xs : List PV} : PV.roL xs = true ↔ ∀ x ∈ xs, x.ro = true := by
  induction xs with
  | nil => simp [PV.roL]
  | cons x xs ih => simp [PV.roL, ih]

theorem noL_iff {τ : Nat} {xs : List PV} : PV.noL τ xs = true ↔ ∀ x ∈ xs, x.no τ = true := by
  induction xs with
  | nil => simp [PV.noL]
  | cons x xs ih => simp [PV.noL, ih]

section
variable {w w' : World} {S S' : Nat → Nat → Prop}

mutual
theorem Rep.ro {own : Bool} : ∀ {x : PV} {v : Value}, Rep w S own x v → x.ro = true → Rep w S false x v
  | .undef, _, h, _ => by unfold Rep at *; exact h
  | .bool _, _, h, _ => by unfold Rep at *; exact h
  | .int _ _, _, h, _ => by unfold Rep at *; exact h
  | .str _, _, h, _ => by unfold Rep at *; exact h
  | .nils, _, h, _ => by unfold Rep at *; exact h
  | .emp, _, h, _ => by unfold Rep at *; exact h
  | .vl .., _, h, _ => by unfold Rep at *; exact h
  | .pin .., _, h, _ => by unfold Rep at *; exact h
  | .ref .., _, _, h' => by simp [PV.ro] at h'
  | .sref .., _, _, h' => by simp [PV.ro] at h'
  | .agg cs, _, h, h' => by unfold Rep at *; obtain ⟨us, h1, h2, h3⟩ := h; exact ⟨us, h1, h2, Reps.ro h3 (by simpa [PV.ro] using h')⟩
  | .tup cs, _, h, h' => by unfold Rep at *; obtain ⟨us, h1, h3⟩ := h; exact ⟨us, h1, Reps.ro h3 (by simpa [PV.ro] using h')⟩
  | .fn _ cs, _, h, h' => by unfold Rep at *; obtain ⟨us, h1, h3⟩ := h; exact ⟨us, h1, Reps.ro h3 (by simpa [PV.ro] using h')⟩
  | .val _, _, h, _ => by unfold Rep at *; exact h
  | .mp .., _, _, h' => by simp [PV.ro] at h'
theorem Reps.ro {own : Bool} : ∀ {x : List PV} {v : List Value}, Reps w S own x v → PV.roL x = true → Reps w S false x v
  | [], _, h, _ => by unfold Reps at *; exact h
  | x :: xs, _, h, h' => by
    unfold Reps at *
    simp only [PV.roL, Bool.and_eq_true] at h'
    obtain ⟨u, us', e, h1, h2⟩ := h
    exact ⟨u, us', e, Rep.ro h1 h'.1, Reps.ro h2 h'.2⟩
end

mutual
theorem Rep.flat {own : Bool} : ∀ {x : PV} {v : Value}, Rep w S own x v → x.flat = true → Rep w' S' own x v
  | .undef, _, h, _ => by unfold Rep at *; exact h
  | .bool _, _, h, _ => by unfold Rep at *; exact h
  | .int _ _, _, h, _ => by unfold Rep at *; exact h
  | .str _, _, h, _ => by unfold Rep at *; exact h
  | .nils, _, h, _ => by unfold Rep at *; exact h
  | .emp, _, h, _ => by unfold Rep at *; exact h
  | .vl .., _, h, h' => by simp [PV.flat] at h'
  | .pin .., _, h, h' => by simp [PV.flat] at h'
  | .ref .., _, _, h' => by simp [PV.flat] at h'
  | .sref .., _, _, h' => by simp [PV.flat] at h'
  | .agg cs, _, h, h' => by unfold Rep at *; obtain ⟨us, h1, h2, h3⟩ := h; exact ⟨us, h1, h2, Reps.flat h3 (by simpa [PV.flat] using h')⟩
  | .tup cs, _, h, h' => by unfold Rep at *; obtain ⟨us, h1, h3⟩ := h; exact ⟨us, h1, Reps.flat h3 (by simpa [PV.flat] using h')⟩
  | .fn _ cs, _, h, h' => by unfold Rep at *; obtain ⟨us, h1, h3⟩ := h; exact ⟨us, h1, Reps.flat h3 (by simpa [PV.flat] using h')⟩
  | .val _, _, h, _ => by unfold Rep at *; exact h
  | .mp .., _, _, h' => by simp [PV.flat] at h'
theorem Reps.flat {own : Bool} : ∀ {x : List PV} {v : List Value}, Reps w S own x v → PV.flatL x = true → Reps w' S' own x v
  | [], _, h, _ => by unfold Reps at *; exact h
  | x :: xs, _, h, h' => by
    unfold Reps at *
    simp only [PV.flatL, Bool.and_eq_true] at h'
    obtain ⟨u, us', e, h1, h2⟩ := h
    exact ⟨u, us', e, Rep.flat h1 h'.1, Reps.flat h2 h'.2⟩
end

mutual
theorem Rep.no {own : Bool} {τ : Nat} : ∀ {x : PV} {v : Value}, Rep w S own x v → x.no τ = true → Rep w (fun ρ b => S ρ b ∧ ρ ≠ τ) own x v
  | .undef, _, h, _ => by unfold Rep at *; exact h
  | .bool _, _, h, _ => by unfold Rep at *; exact h
  | .int _ _, _, h, _ => by unfold Rep at *; exact h
  | .str _, _, h, _ => by unfold Rep at *; exact h
  | .nils, _, h, _ => by unfold Rep at *; exact h
  | .emp, _, h, _ => by unfold Rep at *; exact h
  | .vl ρ n xs, _, h, h' => by
    unfold Rep at *
    simp only [PV.no, Bool.and_eq_true, Bool.not_eq_true'] at h'
    obtain ⟨h0, us, h1, h2, h3⟩ := h
    refine ⟨h0, us, h1, Reps.no h2 h'.2, ?_⟩
    rcases h3 with h3 | ⟨b, off, cap, hb, h4⟩
    · exact .inl h3
    · exact .inr ⟨b, off, cap, ⟨hb, Nat.ne_of_beq_eq_false h'.1⟩, h4⟩
  | .pin ρ x j, _, h, h' => by
    unfold Rep at *
    simp only [PV.no, Bool.and_eq_true, Bool.not_eq_true'] at h'
    obtain ⟨u, b, off, hb, h2, h3, h4⟩ := h
    exact ⟨u, b, off, ⟨hb, Nat.ne_of_beq_eq_false h'.1⟩, h2, h3, Rep.no h4 h'.2⟩
  | .ref .., _, h, h' => by unfold Rep at *; exact h
  | .sref .., _, h, h' => by unfold Rep at *; exact h
  | .agg cs, _, h, h' => by unfold Rep at *; obtain ⟨us, h1, h2, h3⟩ := h; exact ⟨us, h1, h2, Reps.no h3 (by simpa [PV.no] using h')⟩
  | .tup cs, _, h, h' => by unfold Rep at *; obtain ⟨us, h1, h3⟩ := h; exact ⟨us, h1, Reps.no h3 (by simpa [PV.no] using h')⟩
  | .fn _ cs, _, h, h' => by unfold Rep at *; obtain ⟨us, h1, h3⟩ := h; exact ⟨us, h1, Reps.no h3 (by simpa [PV.no] using h')⟩
  | .val _, _, h, _ => by unfold Rep at *; exact h
  | .mp ρ b ks xs, _, h, h' => by
    unfold Rep at *
    simp only [PV.no, Bool.and_eq_true, Bool.not_eq_true'] at h'
    obtain ⟨hb, hv, es, clock, h1, h2, h3⟩ := h
    exact ⟨⟨hb, Nat.ne_of_beq_eq_false h'.1⟩, hv, es, clock, h1, h2, Reps.no h3 h'.2⟩
theorem Reps.no {own : Bool} {τ : Nat} : ∀ {x : List PV} {v : List Value}, Reps w S own x v → PV.noL τ x = true → Reps w (fun ρ b => S ρ b ∧ ρ ≠ τ) own x v
  | [], _, h, _ => by unfold Reps at *; exact h
  | x :: xs, _, h, h' => by
    unfold Reps at *
    simp only [PV.noL, Bool.and_eq_true] at h'
    obtain ⟨u, us', e, h1, h2⟩ := h
    exact ⟨u, us', e, Rep.no h1 h'.1, Reps.no h2 h'.2⟩
end
end

/-! ### What a function does -/
def HeapOK (w : World) (S : Nat → Nat → Prop) (H : List (Nat × Obj')) : Prop :=
  (H.map Prod.fst).Nodup ∧ ∀ b o, (b, o) ∈ H → ObjAt w S b o ∧ ∀ ρ, ¬ S ρ b

/-- Called with values that stand for the trees 'args' in a world whose own blocks H are as told, function f returns: its result and its own blocks are as R says; of what was there nothing else has turned; what it has made lies in the lot rn. -/
def Does (P : Program) (f : FuncId) (args : List PV) (H : List (Nat × Obj')) (rn : Nat) (R : PV → List (Nat × Obj') → Prop) : Prop :=
  ∀ (w : World) (S : Nat → Nat → Prop) (vs : List Value), (∀ ρ b, S ρ b → b < w.heap.size) → Reps w S true args vs → HeapOK w S H → LibW P w (fun b => b ∈ H.map Prod.fst) →
    Calls P f vs.toArray w fun e w' => ∃ v x H' S', e = .returned v ∧ R x H' ∧ Rep w' S' true x v ∧ HeapOK w' S' H' ∧ Ext (fun b => b ∈ H.map Prod.fst) w w' ∧ (∀ ρ b, S ρ b → S' ρ b) ∧
      (∀ ρ b, S' ρ b → b < w'.heap.size ∧ (S ρ b ∨ (ρ = rn ∧ w.heap.size ≤ b))) ∧ (∀ b, b ∈ H'.map Prod.fst → b ∈ H.map Prod.fst ∨ w.heap.size ≤ b)

theorem Does.mono {P : Program} {f : FuncId} {args : List PV} {H : List (Nat × Obj')} {rn : Nat} {R R' : PV → List (Nat × Obj') → Prop} (h : Does P f args H rn R) (hr : ∀ x H', R x H' → R' x H') : Does P f args H rn R' :=
  fun w S vs h1 h2 h3 h4 => (h w S vs h1 h2 h3 h4).mono fun _ _ ⟨v, x, H', S', q1, q2, q3⟩ => ⟨v, x, H', S', q1, hr _ _ q2, q3⟩

/-! ### Code -/
def V (Φ : Ctx) (c : Code) (Q : Exit → AEnv → Prop) (α : AEnv) : Prop :=
  ∀ a w, ER Φ α a w → c.wpIn (fenceR Φ.ro) 0 Φ.P (fun e a' w' => ∃ α', Q e α' ∧ ER Φ α' a' w') a w

def thenV (next : AEnv → Prop) (Q : Exit → AEnv → Prop) : Exit → AEnv → Prop
  | .normal, α => next α
  | e, α => Q e α

def blockV (id : Nat) (Q : Exit → AEnv → Prop) : Exit → AEnv → Prop
  | .exit id', α => match Nat.beq id' id with | true => Q .normal α | false => Q (.exit id') α
  | e, α => Q e α

section
variable {Φ : Ctx} {Q : Exit → AEnv → Prop} {α : AEnv}

theorem V.mono {c : Code} {Q' : Exit → AEnv → Prop} (h : V Φ c Q α) (hq : ∀ e α, Q e α → Q' e α) : V Φ c Q' α :=
  fun a w he => wpIn_mono (h a w he) fun e _ _ ⟨α', h1, h2⟩ => ⟨α', hq e _ h1, h2⟩

theorem V.weaken {c : Code} {α' : AEnv} (hw : ∀ a w, ER Φ α a w → ER Φ α' a w) (h : V Φ c Q α') : V Φ c Q α := fun a w he => h a w (hw a w he)

theorem V.skip (h : Q .normal α) : V Φ .skip Q α := fun a w he => wpIn_skip ⟨α, h, he⟩
theorem V.exit {id : Nat} (h : Q (.exit id) α) : V Φ (.exit id) Q α := fun a w he => wpIn_exit ⟨α, h, he⟩
theorem V.ret (h : Q .ret α) : V Φ .ret Q α := fun a w he => wpIn_ret ⟨α, h, he⟩

theorem V.seq {x y : Code} (h : V Φ x (thenV (V Φ y Q) Q) α) : V Φ (.seq x y) Q α := fun a w he => by
  refine wpIn_seq (wpIn_mono (h a w he) ?_)
  rintro e a' w' ⟨α', h1, h2⟩
  cases e with
  | normal => exact h1 a' w' h2
  | _ => exact ⟨α', h1, h2⟩

theorem V.cond {c : Operand} {x y : Code} {b : Bool} (hc : aeval α c = some (.bool b)) (h1 : b = true → V Φ x Q α) (h2 : b = false → V Φ y Q α) : V Φ (.cond c x y) Q α := fun a w he => by
  have hb : a.eval c = .bool b := by
    obtain ⟨S, he⟩ := he
    have := he.eval hc
    unfold Rep at this
    exact this
  refine wpIn_cond hb ?_
  cases b with
  | true => exact h1 rfl a w he
  | false => exact h2 rfl a w he

theorem V.block {id : Nat} {c : Code} (h : V Φ c (blockV id Q) α) : V Φ (.block id c) Q α := fun a w he => by
  refine wpIn_block (wpIn_mono (h a w he) ?_)
  rintro e a' w' ⟨α', h1, h2⟩
  cases e with
  | exit id' =>
    simp only [Exit.inBlock]
    simp only [blockV] at h1
    split at h1
    · rename_i e
      rw [if_pos (Nat.eq_of_beq_eq_true e)]
      exact ⟨α', h1, h2⟩
    · rename_i e
      rw [if_neg (Nat.ne_of_beq_eq_false e)]
      exact ⟨α', h1, h2⟩
  | _ => exact ⟨α', h1, h2⟩

theorem least {p : Nat → Prop} (h : ∃ n, p n) : ∃ n, p n ∧ ∀ m, p m → n ≤ m := by
  obtain ⟨n, hn⟩ := h
  induction n using Nat.strongRecOn with
  | _ n ih =>
    by_cases hm : ∃ m, m < n ∧ p m
    · obtain ⟨m, h1, h2⟩ := hm
      exact ih m h1 h2
    · refine ⟨n, hn, fun m h => ?_⟩
      rcases Nat.lt_or_ge m n with h1 | h1
      · exact absurd ⟨m, h1, h⟩ hm
      · exact h1

/-- A loop: 'Inv n': what holds at a round's head, n rounds (or more) being left at most. -/
theorem V.loop {c : Code} (Inv : Nat → AEnv → Prop) {n : Nat} (h0 : Inv n α) (round : ∀ n α, Inv n α → V Φ c (thenV (fun α' => ∃ m, m < n ∧ Inv m α') Q) α) : V Φ (.loop c) Q α := fun a w he => by
  open Classical in
  let J : Act → World → Nat → Prop := fun a w n => ∃ α, Inv n α ∧ ER Φ α a w
  refine wpIn_loop (I := fun a w => ∃ n, J a w n) (μ := fun a w => if h : ∃ n, J a w n then Classical.choose (least h) else 0) ⟨n, α, h0, he⟩ ?_
  intro a w hI
  obtain ⟨α', h1, h2⟩ := (Classical.choose_spec (least hI)).1
  refine wpIn_mono (round _ α' h1 a w h2) ?_
  rintro e a' w' ⟨α'', h3, h4⟩
  cases e with
  | normal =>
    obtain ⟨m, hm, h5⟩ := h3
    have hJ : ∃ n, J a' w' n := ⟨m, α'', h5, h4⟩
    refine ⟨hJ, ?_⟩
    simp only [dif_pos hJ, dif_pos hI]
    exact Nat.lt_of_le_of_lt ((Classical.choose_spec (least hJ)).2 m ⟨α'', h5, h4⟩) hm
  | _ => exact ⟨α'', h3, h4⟩

/-! ### Regions -/
def VO (Φ : Ctx) (ops : Array Oper) (l : List Oper) (K : AEnv → Prop) (α : AEnv) : Prop :=
  ∀ a w, ER Φ α a w → wpList Φ.P ops (fun e a' w' => e = .normal ∧ ∃ α', K α' ∧ ER Φ α' a' w') l a w

theorem V.region {id : Nat} {l : List Oper} (h : VO Φ l.toArray l (Q .normal) α) (hd : l.all noDef = true := by rfl) : V Φ (.region id l.toArray false) Q α := fun a w he => by
  refine wpIn_mono (wpIn_region_listR (Q := fun e a' w' => e = .normal ∧ ∃ α', Q .normal α' ∧ ER Φ α' a' w') (fun ⟨_, _, h, _⟩ => by cases h) hd (h a w he)) ?_
  rintro e a' w' ⟨rfl, h1⟩
  exact h1

variable {ops : Array Oper} {K : AEnv → Prop} {o : Oper} {rest : List Oper}

theorem VO.weaken {l : List Oper} {α' : AEnv} (hw : ∀ a w, ER Φ α a w → ER Φ α' a w) (h : VO Φ ops l K α') : VO Φ ops l K α := fun a w he => h a w (hw a w he)

theorem VO.nil (h : K α) : VO Φ ops [] K α := fun a w he => wpList_nil ⟨rfl, α, h, he⟩

theorem VO.cons (hg : o.guard = none) (h : V1 Φ o α (VO Φ ops rest K)) : VO Φ ops (o :: rest) K α := fun a w he => by
  unfold wpList
  rw [if_pos (by simp [Region.wanted, hg])]
  refine .inl ?_
  have := h a w he
  unfold Oper.wp at *
  generalize (execOp a.eval o).run Φ.P w = r at *
  cases r with
  | ok n w' =>
    cases n <;> simp only [Oper.upon] at this ⊢ <;> first
      | (obtain ⟨α', h1, h2⟩ := this; exact h1 _ _ h2)
      | (refine Calls.mono this ?_; intro e w'' he; cases e <;> first | (obtain ⟨α', h1, h2⟩ := he; exact h1 _ _ h2) | exact he.elim | (obtain ⟨_, _, h⟩ := he; exact h.elim))
      | (refine Rows.mono this ?_; intro v w'' he; obtain ⟨α', h1, h2⟩ := he; exact h1 _ _ h2)
  | halt x w' => cases x <;> simp only [Oper.upon] at this ⊢
end
end Go.VS
