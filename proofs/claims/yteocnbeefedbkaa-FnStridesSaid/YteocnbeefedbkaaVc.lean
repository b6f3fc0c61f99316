/-
  Operations on memory in the symbolic environment: addresses, loads, stores, new variables. Over any program. Conditions: an address lies where the value tree has it; a store goes to an own block.
-/
import Derived.Test.YteocnbeefedbkaaVb
import Derived.Laws.CopyRow
import Derived.Lib.FrozenHead
set_option linter.unusedSimpArgs false
set_option linter.unusedVariables false
namespace Go.VS

/-! ### Types -/
def _root_.Go.TypeDesc.isAggB : TypeDesc → Bool
  | .struct _ | .array _ _ => true
  | _ => false

/-- Is it a struct or an array; how many cells. -/
def tyk (P : Program) (t : TypeId) : Option (Bool × Nat) :=
  match P.underlying t, P.info? t with
  | some D, some i => some (D.isAggB, i.size)
  | _, _ => none

def fieldOff (P : Program) (s f : Nat) : Option Nat :=
  match P.underlying s with
  | some (.struct fs) => match fs[f]? with
    | some fl => match P.info? fl.type with
      | some i => match i.size with | 0 => none | _ + 1 => some fl.offset
      | none => none
    | none => none
  | _ => none

/-- The element's type and its cells, of a slice type. -/
def elemSz (P : Program) (t : TypeId) : Option (TypeId × Nat) :=
  match P.underlying t with
  | some (.slice e) => match P.info? e with
    | some i => some (e, i.size)
    | none => none
  | _ => none

section types
variable {P : Program} {t : TypeId} {w : World}

theorem tyk_spec {g : Bool} {n : Nat} (h : tyk P t = some (g, n)) : (∃ D, P.underlying t = some D ∧ D.isAggB = g) ∧ ∃ i, P.info? t = some i ∧ i.size = n := by
  unfold tyk at h
  split at h
  · rename_i D i h1 h2
    simp only [Option.some.injEq, Prod.mk.injEq] at h
    exact ⟨⟨D, h1, h.1⟩, i, h2, h.2⟩
  · cases h

theorem run_isAgg {g : Bool} {n : Nat} (h : tyk P t = some (g, n)) : (isAgg t).run P w = .ok g w := by
  obtain ⟨⟨D, h1, h2⟩, _⟩ := tyk_spec h
  simp only [isAgg, Sem.run_bind, run_underlying h1, Result.andThen_ok]
  subst h2
  cases D <;> simp [TypeDesc.isAggB]

theorem run_sizeOf {g : Bool} {n : Nat} (h : tyk P t = some (g, n)) : (sizeOf t).run P w = .ok n w := by
  obtain ⟨_, i, h1, h2⟩ := tyk_spec h
  simp [sizeOf, typeInfo, program, Sem.run, Sem.bind, Bind.bind, Pure.pure, h1, h2]

theorem elemSz_spec {e n : Nat} (h : elemSz P t = some (e, n)) : P.underlying t = some (.slice e) ∧ ∃ i, P.info? e = some i ∧ i.size = n := by
  unfold elemSz at h
  split at h
  · rename_i e' h1
    split at h
    · rename_i i h2
      simp only [Option.some.injEq, Prod.mk.injEq] at h
      obtain ⟨rfl, h3⟩ := h
      exact ⟨h1, i, h2, h3⟩
    · cases h
  · cases h

theorem run_sizeOf' {i : TypeInfo} (h : P.info? t = some i) : (sizeOf t).run P w = .ok i.size w := by
  simp [sizeOf, typeInfo, program, Sem.run, Sem.bind, Bind.bind, Pure.pure, h]

theorem run_fieldAt {s f off : Nat} {b o : Nat} (h : fieldOff P s f = some off) : (Instr.fieldAt s (.pointer (some ⟨b, o, none⟩)) f).run P w = .ok (.pointer (some ⟨b, o + off, none⟩)) w := by
  unfold fieldOff at h
  split at h
  · rename_i fs h1
    split at h
    · rename_i fl h2
      split at h
      · rename_i i h3
        split at h
        · cases h
        · rename_i n h4
          cases h
          simp only [Instr.fieldAt, Sem.run_bind, run_underlying h1, Result.andThen_ok, h2, Instr.sureAddr, Sem.run_pure, fieldPlace, run_sizeOf' h3, h4]
          rw [if_neg (by omega)]
          simp only [Sem.run_pure, Result.andThen_ok, Addr.add]
          split <;> simp_all
      · cases h
    · cases h
  · cases h
end types

theorem Addr.add_none (b o n : Nat) : (⟨b, o, none⟩ : Addr).add n = ⟨b, o + n, none⟩ := by
  unfold Addr.add
  split <;> simp_all

section
variable {Φ : Ctx} {S : Nat → Nat → Prop} {α : AEnv} {a : Act} {w : World}

theorem V1.fieldPin {o : Oper} {d : Nat} {s f off : Nat} {x : Operand} {ρ : Nat} {y : PV} {j : Nat} {K : AEnv → Prop} (ho : o.op = .fieldAddr s x f) (hd : o.dst = some d)
    (hf : fieldOff Φ.P s f = some off) (hx : aeval α x = some (.pin ρ y j)) (hn : d < α.n) (hk : K (α.put d (.pin ρ y (j + off)))) : V1 Φ o α K :=
  V1.pure hd hn (fun _ a w he => by
    have h1 := he.eval hx
    unfold Rep at h1
    obtain ⟨u, b, o', hS, hv, hc, hr⟩ := h1
    refine ⟨.pointer (some ⟨b, o' + j + off, none⟩), ?_, by unfold Rep; exact ⟨u, b, o', hS, by rw [Nat.add_assoc], hc, hr⟩⟩
    simp only [execOp, ho, hv, Sem.run_bind, run_fieldAt hf, Result.andThen_ok, Sem.run_pure]) hk

theorem V1.fieldRef {o : Oper} {d : Nat} {s f off : Nat} {x : Operand} {b n i j : Nat} {K : AEnv → Prop} (ho : o.op = .fieldAddr s x f) (hd : o.dst = some d)
    (hf : fieldOff Φ.P s f = some off) (hx : aeval α x = some (.ref b n i j)) (hn : d < α.n) (hk : K (α.put d (.ref b n i (j + off)))) : V1 Φ o α K :=
  V1.pure hd hn (fun _ a w he => by
    have h1 := he.eval hx
    unfold Rep at h1
    refine ⟨.pointer (some ⟨b, i * n + j + off, none⟩), ?_, by unfold Rep; exact ⟨rfl, by rw [Nat.add_assoc]⟩⟩
    simp only [execOp, ho, h1.2, Sem.run_bind, run_fieldAt hf, Result.andThen_ok, Sem.run_pure]) hk

theorem V1.nilPin {o : Oper} {d : Nat} {x : Operand} {ρ : Nat} {y : PV} {j : Nat} {K : AEnv → Prop} (ho : o.op = .nilCheck x) (hd : o.dst = some d)
    (hx : aeval α x = some (.pin ρ y j)) (hn : d < α.n) (hk : K (α.put d (.pin ρ y j))) : V1 Φ o α K :=
  V1.pure hd hn (fun _ a w he => by
    have h1 := he.eval hx
    refine ⟨_, ?_, h1⟩
    unfold Rep at h1
    obtain ⟨u, b, o', hS, hv, hc, hr⟩ := h1
    simp [execOp, ho, hv]) hk

theorem V1.nilRef {o : Oper} {d : Nat} {x : Operand} {b n i j : Nat} {K : AEnv → Prop} (ho : o.op = .nilCheck x) (hd : o.dst = some d)
    (hx : aeval α x = some (.ref b n i j)) (hn : d < α.n) (hk : K (α.put d (.ref b n i j))) : V1 Φ o α K :=
  V1.pure hd hn (fun _ a w he => by
    have h1 := he.eval hx
    refine ⟨_, ?_, h1⟩
    unfold Rep at h1
    simp [execOp, ho, h1.2]) hk

/-- x[i], x a slice into unchanging memory. -/
theorem V1.indexVl {o : Oper} {d : Nat} {t e n : Nat} {x i : Operand} {ρ : Nat} {xs : List PV} {k : IntKind} {m : Int} {y : PV} {K : AEnv → Prop} (ho : o.op = .indexAddr t x i) (hd : o.dst = some d)
    (ht : elemSz Φ.P t = some (e, n)) (hx : aeval α x = some (.vl ρ n xs)) (hi : aeval α i = some (.int k m)) (h0 : 0 ≤ m) (hy : xs[m.toNat]? = some y) (hn : d < α.n)
    (hk : K (α.put d (.pin ρ y 0))) : V1 Φ o α K :=
  V1.pure hd hn (fun _ a w he => by
    have h1 := he.eval hx
    have h2 := he.eval hi
    unfold Rep at h1 h2
    obtain ⟨hu, inf, hinf, hsz⟩ := elemSz_spec ht
    obtain ⟨_, us, hg, hr, h3⟩ := h1
    obtain ⟨u, hu1, hu2⟩ := hr.get hy
    have hlt : m.toNat < us.length := (List.getElem?_eq_some_iff.1 hu1).1
    rcases h3 with ⟨rfl, _⟩ | ⟨b, off, cap, hS, hv, _, hc⟩
    · simp at hlt
    · refine ⟨.pointer (some ⟨b, off + m.toNat * n, none⟩), ?_, by unfold Rep; exact ⟨u, b, off + m.toNat * n, hS, rfl, hc _ _ hu1, hu2⟩⟩
      have hcond : 0 ≤ m ∧ m < (us.length : Int) := ⟨h0, by omega⟩
      simp [execOp, ho, hv, h2, Instr.indexAt, asIntOf, run_underlying hu, hcond, run_sizeOf' hinf, hsz, Addr.add_none]) hk

/-- x[i], x a slice into an own block. -/
theorem V1.indexSref {o : Oper} {d : Nat} {t e n : Nat} {x i : Operand} {b off len : Nat} {k : IntKind} {m : Int} {K : AEnv → Prop} (ho : o.op = .indexAddr t x i) (hd : o.dst = some d)
    (ht : elemSz Φ.P t = some (e, n)) (hx : aeval α x = some (.sref b n off len)) (hi : aeval α i = some (.int k m)) (h0 : 0 ≤ m) (hy : m.toNat < len) (hn : d < α.n)
    (hk : K (α.put d (.ref b n (off + m.toNat) 0))) : V1 Φ o α K :=
  V1.pure hd hn (fun _ a w he => by
    have h1 := he.eval hx
    have h2 := he.eval hi
    unfold Rep at h1 h2
    obtain ⟨hu, inf, hinf, hsz⟩ := elemSz_spec ht
    rcases h1.2 with ⟨h3, _⟩ | ⟨cap, c, hv, _⟩
    · omega
    · refine ⟨.pointer (some ⟨b, off * n + m.toNat * n, none⟩), ?_, by unfold Rep; exact ⟨rfl, by rw [Nat.add_mul]; rfl⟩⟩
      have hcond : 0 ≤ m ∧ m < (len : Int) := ⟨h0, by omega⟩
      simp [execOp, ho, hv, h2, Instr.indexAt, asIntOf, run_underlying hu, hcond, run_sizeOf' hinf, hsz, Addr.add_none]) hk

/-! ### Loads -/
/-- The cells of a value tree. -/
def PV.cellsL : PV → List PV
  | .agg cs => cs
  | .val v => match v.oneCell' with | true => [.val v] | false => []
  | .undef | .tup _ | .mp .. => []
  | x => [x]

def PV.isAgg (n : Nat) : PV → Bool
  | .agg cs => Nat.beq cs.length n
  | _ => false

theorem Rep.cell {own : Bool} {y : PV} {u : Value} (h : Rep w S own y u) {j : Nat} {p : PV} (hp : y.cellsL[j]? = some p) : ∃ c, u.cells[j]? = some c ∧ Rep w S own p c := by
  have one : ∀ (x : PV) (v : Value), (∀ cs, v ≠ .agg cs) → Rep w S own x v → [x][j]? = some p → ∃ c, v.cells[j]? = some c ∧ Rep w S own p c := by
    intro x v hv hr hx
    cases j with
    | zero =>
      simp at hx; subst hx
      refine ⟨v, ?_, hr⟩
      cases v <;> simp_all [Value.cells]
    | succ j => simp at hx
  cases y <;> simp only [PV.cellsL] at hp
  case agg cs =>
    unfold Rep at h
    obtain ⟨us, rfl, _, hr⟩ := h
    obtain ⟨c, h1, h2⟩ := hr.get hp
    exact ⟨c, by simpa [Value.cells] using h1, h2⟩
  case val v =>
    split at hp
    · rename_i hv
      refine one _ u ?_ h hp
      unfold Rep at h
      subst h
      intro cs e
      subst e
      cases hv
    · simp at hp
  case undef => simp at hp
  case tup => simp at hp
  case mp => simp at hp
  case vl =>
    refine one _ u ?_ h hp
    unfold Rep at h
    obtain ⟨_, us, _, _, ⟨_, a, cap, rfl⟩ | ⟨b, off, cap, _, rfl, _⟩⟩ := h <;> intro cs e <;> cases e
  case emp => refine one _ u ?_ h hp; unfold Rep at h; obtain ⟨a, rfl⟩ := h; intro cs e; cases e
  case pin => refine one _ u ?_ h hp; unfold Rep at h; obtain ⟨_, b, off, _, rfl, _⟩ := h; intro cs e; cases e
  case sref =>
    refine one _ u ?_ h hp
    unfold Rep at h
    obtain ⟨_, ⟨_, ⟨a, rfl⟩, _⟩ | ⟨cap, c, rfl, _⟩⟩ := h <;> intro cs e <;> cases e
  case ref => refine one _ u ?_ h hp; unfold Rep at h; intro cs e; rw [h.2] at e; cases e
  case fn => refine one _ u ?_ h hp; unfold Rep at h; obtain ⟨us, rfl, _⟩ := h; intro cs e; cases e
  all_goals
    refine one _ u ?_ h hp
    unfold Rep at h
    subst h
    intro cs e
    cases e

theorem Rep.isAgg {own : Bool} {y : PV} {u : Value} (h : Rep w S own y u) {n : Nat} (hy : y.isAgg n = true) : ∃ us : List Value, u = .agg us.toArray ∧ us.length = n ∧ ∀ v ∈ us, v.oneCell' = true := by
  cases y <;> simp only [PV.isAgg, Bool.false_eq_true] at hy
  unfold Rep at h
  obtain ⟨us, rfl, h1, hr⟩ := h
  exact ⟨us, rfl, by rw [hr.length]; exact Nat.eq_of_beq_eq_true hy, h1⟩

theorem run_loadScalar {P : Program} {t n : Nat} (ht : tyk P t = some (false, n)) {b o : Nat} {c : Value} (hc : w.cell? ⟨b, o, none⟩ = some c) :
    (Instr.loadAt t (.pointer (some ⟨b, o, none⟩))).run P w = .ok c w := by
  simp [Instr.loadAt, Instr.sureAddr, loadVar, run_isAgg ht, run_load, hc]

theorem run_loadAgg {P : Program} {t n : Nat} (ht : tyk P t = some (true, n)) {b o : Nat} {us : List Value} (hl : us.length = n) (hc : CellsAt w b o us.toArray) :
    (Instr.loadAt t (.pointer (some ⟨b, o, none⟩))).run P w = .ok (.agg us.toArray) w := by
  have := run_loadCells_list (P := P) w ⟨b, o, none⟩ us fun j v hv => by
    have hlt := (List.getElem?_eq_some_iff.1 hv).1
    rw [Addr.add_none]
    have := hc j (by simpa using hlt)
    simpa [hv] using this
  rw [hl] at this
  simp [Instr.loadAt, Instr.sureAddr, loadVar, run_isAgg ht, run_sizeOf ht, this]

theorem V1.loadPin {o : Oper} {d t n : Nat} {x : Operand} {ρ : Nat} {y : PV} {j : Nat} {p : PV} {K : AEnv → Prop} (ho : o.op = .load t x) (hd : o.dst = some d)
    (ht : tyk Φ.P t = some (false, n)) (hx : aeval α x = some (.pin ρ y j)) (hp : y.cellsL[j]? = some p) (hn : d < α.n) (hk : K (α.put d p)) : V1 Φ o α K :=
  V1.pure hd hn (fun _ a w he => by
    have h1 := he.eval hx
    unfold Rep at h1
    obtain ⟨u, b, o', hS, hv, hc, hr⟩ := h1
    obtain ⟨c, h2, h3⟩ := hr.cell hp
    refine ⟨c, ?_, h3.own⟩
    have hlt := (Array.getElem?_eq_some_iff.1 h2).1
    have := hc j hlt
    rw [h2] at this
    simp only [execOp, ho, hv, Sem.run_bind, run_loadScalar ht this, Result.andThen_ok, Sem.run_pure]) hk

theorem V1.loadPinAll {o : Oper} {d t n : Nat} {x : Operand} {ρ : Nat} {y : PV} {K : AEnv → Prop} (ho : o.op = .load t x) (hd : o.dst = some d)
    (ht : tyk Φ.P t = some (true, n)) (hx : aeval α x = some (.pin ρ y 0)) (hp : y.isAgg n = true) (hn : d < α.n) (hk : K (α.put d y)) : V1 Φ o α K :=
  V1.pure hd hn (fun _ a w he => by
    have h1 := he.eval hx
    unfold Rep at h1
    obtain ⟨u, b, o', hS, hv, hc, hr⟩ := h1
    obtain ⟨us, rfl, hl, _⟩ := hr.isAgg hp
    refine ⟨_, ?_, hr.own⟩
    simp only [execOp, ho, hv, Sem.run_bind, run_loadAgg ht hl (by simpa [Value.cells] using hc), Result.andThen_ok, Sem.run_pure, Nat.add_zero]) hk

theorem Env.objK (h : Env Φ S α a w) {k : Nat} {b : Nat} {ob : Obj'} (hk : α.H[k]? = some (b, ob)) : ObjAt w S b ob ∧ (∀ ρ, ¬ S ρ b) ∧ (Φ.w0.heap.size ≤ b ∨ Φ.I b) :=
  h.objs b ob (List.mem_of_getElem? hk)

/-- The cells of an element of an own block. -/
theorem ObjAt.elem {b : Nat} {ob : Obj'} (h : ObjAt w S b ob) {i : Nat} {y : PV} (hy : ob.xs[i]? = some y) : ∃ u, Good ob.n u ∧ CellsAt w b (i * ob.n) u.cells ∧ Rep w S true y u := by
  obtain ⟨hn, c, us, ⟨T, fz, hb, hf⟩, hl, hg, hr, hc⟩ := h
  obtain ⟨u, h1, h2⟩ := hr.get hy
  have hlt := (List.getElem?_eq_some_iff.1 h1).1
  refine ⟨u, hg u (List.mem_of_getElem? h1), fun j hj => ?_, h2⟩
  rw [(hg u (List.mem_of_getElem? h1)).1] at hj
  simp [World.cell?, hb, hc i u h1 j hj]

theorem V1.loadRef {o : Oper} {d t n : Nat} {x : Operand} {b m i j : Nat} {k : Nat} {ob : Obj'} {y p : PV} {K : AEnv → Prop} (ho : o.op = .load t x) (hd : o.dst = some d)
    (ht : tyk Φ.P t = some (false, n)) (hx : aeval α x = some (.ref b m i j)) (hb : α.H[k]? = some (b, ob)) (hm : ob.n = m) (hy : ob.xs[i]? = some y) (hp : y.cellsL[j]? = some p) (hn : d < α.n)
    (hk : K (α.put d p)) : V1 Φ o α K :=
  V1.pure hd hn (fun _ a w he => by
    have h1 := he.eval hx
    unfold Rep at h1
    subst hm
    obtain ⟨u, hg, hc, hr⟩ := (he.objK hb).1.elem hy
    obtain ⟨c, h2, h3⟩ := hr.cell hp
    refine ⟨c, ?_, h3⟩
    have hlt := (Array.getElem?_eq_some_iff.1 h2).1
    have := hc j hlt
    rw [h2] at this
    simp only [execOp, ho, h1.2, Sem.run_bind, run_loadScalar ht this, Result.andThen_ok, Sem.run_pure]) hk

theorem V1.loadRefAll {o : Oper} {d t n : Nat} {x : Operand} {b m i : Nat} {k : Nat} {ob : Obj'} {y : PV} {K : AEnv → Prop} (ho : o.op = .load t x) (hd : o.dst = some d)
    (ht : tyk Φ.P t = some (true, n)) (hx : aeval α x = some (.ref b m i 0)) (hb : α.H[k]? = some (b, ob)) (hm : ob.n = m) (hy : ob.xs[i]? = some y) (hp : y.isAgg n = true) (hn : d < α.n)
    (hk : K (α.put d y)) : V1 Φ o α K :=
  V1.pure hd hn (fun _ a w he => by
    have h1 := he.eval hx
    unfold Rep at h1
    subst hm
    obtain ⟨u, hg, hc, hr⟩ := (he.objK hb).1.elem hy
    obtain ⟨us, rfl, hl, _⟩ := hr.isAgg hp
    refine ⟨_, ?_, hr⟩
    simp only [execOp, ho, h1.2, Sem.run_bind, run_loadAgg ht hl (by simpa [Value.cells] using hc), Result.andThen_ok, Sem.run_pure, Nat.add_zero]) hk
end
end Go.VS
