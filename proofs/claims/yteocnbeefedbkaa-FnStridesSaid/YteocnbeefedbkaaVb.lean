/-
  The symbolic environment of a function's frame: slots as value trees, own blocks as objects; what one operation does to it. Over any program. No condition.
-/
import Derived.Test.YteocnbeefedbkaaVz
import Derived.Test.YteocnbeefedbkaaVy
set_option linter.unusedSimpArgs false
set_option linter.unusedVariables false
namespace Go.VS

structure AEnv where
  n : Nat
  E : List (Nat × PV)
  H : List (Nat × Obj')

def get : List (Nat × PV) → Nat → Option PV
  | [], _ => none
  | (s, x) :: E, t => match Nat.beq s t with | true => some x | false => get E t

def AEnv.put (α : AEnv) (d : Nat) (x : PV) : AEnv := ⟨α.n, (d, x) :: α.E, α.H⟩

/-- What a walk keeps beside the frame: the program, the world at the call, the lots of blocks that nobody changes, the blocks that may be changed, the name of the lot of what the call makes, whether it may name further lots, the loop in a round of which it is. -/
structure Ctx where
  P : Program
  w0 : World
  S0 : Nat → Nat → Prop
  I : Nat → Prop
  rn : Nat
  loc : Bool
  lib : LibW P w0 I
  ro : Option Nat

structure Env (Φ : Ctx) (S : Nat → Nat → Prop) (α : AEnv) (a : Act) (w : World) : Prop where
  defers : Marks Φ.w0.heap.size a.defers w
  size : a.tmps.size = α.n
  ext : Ext Φ.I Φ.w0 w
  sub : ∀ ρ b, Φ.S0 ρ b → S ρ b
  bound : ∀ ρ b, S ρ b → b < w.heap.size ∧ (Φ.S0 ρ b ∨ ((ρ = Φ.rn ∨ Φ.loc = true) ∧ Φ.w0.heap.size ≤ b))
  disj : Φ.loc = true → ∀ ρ ρ' b, S ρ b → S ρ' b → ρ = ρ'
  slots : ∀ t x, get α.E t = some x → ∃ v, a.tmps[t]? = some v ∧ Rep w S true x v
  objs : ∀ b o, (b, o) ∈ α.H → ObjAt w S b o ∧ (∀ ρ, ¬ S ρ b) ∧ (Φ.w0.heap.size ≤ b ∨ Φ.I b)
  nodup : (α.H.map Prod.fst).Nodup

def ER (Φ : Ctx) (α : AEnv) (a : Act) (w : World) : Prop := ∃ S, Env Φ S α a w

section
variable {Φ : Ctx} {S S' : Nat → Nat → Prop} {α : AEnv} {a : Act} {w w' : World}

theorem ObjAt.lt {b : Nat} {o : Obj'} (h : ObjAt w S b o) : b < w.heap.size := by
  obtain ⟨_, c, us, ⟨T, fz, h, _⟩, _⟩ := h
  rcases Nat.lt_or_ge b w.heap.size with h' | h'
  · exact h'
  · rw [Array.getElem?_eq_none h'] at h; cases h

theorem ObjAt.ext {b : Nat} {o : Obj'} {I : Nat → Prop} (h : ObjAt w S b o) (he : Ext I w w') (hb : ¬ I b) (hS : ∀ ρ b, S ρ b → S' ρ b)
    (hI : ∀ ρ b, S ρ b → b < w.heap.size ∧ ¬ I b) : ObjAt w' S' b o := by
  have hlt := h.lt
  obtain ⟨hn, c, us, ⟨T, fz, h1, h1'⟩, h2, h3, h4, h5⟩ := h
  exact ⟨hn, c, us, ⟨T, fz, by rw [he.block b hlt hb]; exact h1, h1'⟩, h2, h3, h4.ext he hS hI, h5⟩

theorem Env.own_not (h : Env Φ S α a w) {b : Nat} (hb : b ∈ α.H.map Prod.fst) (ρ : Nat) : ¬ S ρ b := by
  simp only [List.mem_map] at hb
  obtain ⟨⟨b', o⟩, hm, rfl⟩ := hb
  exact (h.objs b' o hm).2.1 ρ

theorem Env.put (h : Env Φ S α a w) {d : Nat} {x : PV} {v : Value} (hd : d < α.n) (hv : Rep w S true x v) : Env Φ S (α.put d x) (a.put (some d) v) w where
  defers := h.defers
  size := by simp [Act.put, h.size, AEnv.put]
  ext := h.ext
  sub := h.sub
  bound := h.bound
  disj := h.disj
  slots t y hy := by
    have hs := h.size
    simp only [AEnv.put, get] at hy
    split at hy
    · rename_i e
      have e := Nat.eq_of_beq_eq_true e
      subst e
      cases hy
      exact ⟨v, by show (a.tmps.setIfInBounds d v)[d]? = some v; rw [Array.getElem?_setIfInBounds_self_of_lt (by omega)], hv⟩
    · rename_i e
      have e : d ≠ t := Nat.ne_of_beq_eq_false e
      obtain ⟨u, h1, h2⟩ := h.slots t y hy
      exact ⟨u, by simp [Act.put, Array.getElem?_setIfInBounds_ne e, h1], h2⟩
  objs := h.objs
  nodup := h.nodup

/-- A step of the world: new blocks; blocks of J (own ones) turned; S grows; the objects as told. -/
theorem Env.step (h : Env Φ S α a w) {J : Nat → Prop} (he : Ext J w w') (hJ : ∀ k, k < w.heap.size → J k → k ∈ α.H.map Prod.fst) (hS : ∀ ρ b, S ρ b → S' ρ b)
    (hS' : ∀ ρ b, S' ρ b → S ρ b ∨ ((ρ = Φ.rn ∨ Φ.loc = true) ∧ Φ.w0.heap.size ≤ b ∧ b < w'.heap.size ∧ (Φ.loc = true → ∀ ρ', S ρ' b → ρ' = ρ) ∧ (Φ.loc = true → ∀ ρ', S' ρ' b → ρ' = ρ)))
    {H' : List (Nat × Obj')} (ho : ∀ b o, (b, o) ∈ H' → ObjAt w' S' b o ∧ (∀ ρ, ¬ S' ρ b) ∧ (Φ.w0.heap.size ≤ b ∨ Φ.I b)) (hn : (H'.map Prod.fst).Nodup) :
    Env Φ S' ⟨α.n, α.E, H'⟩ a w' where
  defers := h.defers.of_heap fun D hD => by
    have hlt := (Array.getElem?_eq_some_iff.1 hD).1
    refine (he.block D hlt fun hj => ?_).trans hD
    have hm := hJ D hlt hj
    simp only [List.mem_map] at hm
    obtain ⟨⟨b', o⟩, hm, rfl⟩ := hm
    obtain ⟨_, c, us, ⟨T, fz, hc, _⟩, _⟩ := (h.objs b' o hm).1
    simp only at hD
    rw [hD] at hc
    cases hc
  size := h.size
  ext := h.ext.trans he (fun _ h => h) fun k hk hj => by
    have hm := hJ k (Nat.lt_of_lt_of_le hk h.ext.size) hj
    simp only [List.mem_map] at hm
    obtain ⟨⟨b', o⟩, hm, rfl⟩ := hm
    exact (h.objs b' o hm).2.2.resolve_left (by simp only at hk ⊢; omega)
  sub ρ b hb := hS ρ b (h.sub ρ b hb)
  bound ρ b hb := by
    rcases hS' ρ b hb with h1 | ⟨h1, h2, h3, _⟩
    · exact ⟨Nat.lt_of_lt_of_le (h.bound ρ b h1).1 he.size, (h.bound ρ b h1).2⟩
    · exact ⟨h3, .inr ⟨h1, h2⟩⟩
  disj hl ρ ρ' b h1 h2 := by
    rcases hS' ρ b h1 with h3 | ⟨_, _, _, h3, h4⟩
    · rcases hS' ρ' b h2 with h5 | ⟨_, _, _, h5, h6⟩
      · exact h.disj hl ρ ρ' b h3 h5
      · exact h5 hl ρ h3
    · exact (h4 hl ρ' h2).symm
  slots t x hx := by
    obtain ⟨v, h1, h2⟩ := h.slots t x hx
    exact ⟨v, h1, h2.ext he hS fun ρ b hb => ⟨(h.bound ρ b hb).1, fun hj => h.own_not (hJ b (h.bound ρ b hb).1 hj) ρ hb⟩⟩
  objs := ho
  nodup := hn

/-- An object that is not turned by a step. -/
theorem Env.obj_step (h : Env Φ S α a w) {J : Nat → Prop} (he : Ext J w w') (hJ : ∀ k, k < w.heap.size → J k → k ∈ α.H.map Prod.fst) (hS : ∀ ρ b, S ρ b → S' ρ b)
    {b : Nat} {o : Obj'} (hb : (b, o) ∈ α.H) (hj : ¬ J b) : ObjAt w' S' b o :=
  (h.objs b o hb).1.ext he hj hS fun ρ b hb => ⟨(h.bound ρ b hb).1, fun hj => h.own_not (hJ b (h.bound ρ b hb).1 hj) ρ hb⟩

/-- Facts may be forgotten. -/
theorem Env.keep (h : Env Φ S α a w) {E' : List (Nat × PV)} {H' : List (Nat × Obj')} (hE : ∀ t x, get E' t = some x → get α.E t = some x) (hH : List.Sublist H' α.H) : Env Φ S ⟨α.n, E', H'⟩ a w :=
  { h with slots := fun t x hx => h.slots t x (hE t x hx), objs := fun b o hb => h.objs b o (hH.subset hb), nodup := h.nodup.sublist (hH.map _) }
end

theorem ltb {d n : Nat} (h : Nat.blt d n = true) : d < n := by simpa [Nat.blt, Nat.lt_iff_add_one_le] using h

/-! ### Operands -/
def constPV : Value → PV
  | .bool b => .bool b
  | .int k n => .int k n
  | .string s => .str s.data.toList
  | .slice none 0 0 => .nils
  | v => .val v

def aeval (α : AEnv) : Operand → Option PV
  | .tmp t => get α.E t
  | .const v => some (constPV v)
  | .func f => some (.fn f [])
  | .global _ => none

section
variable {Φ : Ctx} {S : Nat → Nat → Prop} {α : AEnv} {a : Act} {w : World}

theorem Env.eval (h : Env Φ S α a w) {x : Operand} {p : PV} (hx : aeval α x = some p) : Rep w S true p (a.eval x) := by
  cases x with
  | tmp t =>
    obtain ⟨v, h1, h2⟩ := h.slots t p hx
    simpa [Act.eval, h1] using h2
  | const v =>
    cases hx
    show Rep w S true (constPV v) v
    unfold constPV
    split <;> simp [Rep]
  | func f =>
    cases hx
    show Rep w S true (.fn f []) (.func (.func f) #[] #[])
    simp [Rep, Reps]
  | global g => cases hx

/-! ### One operation -/
/-- From every frame and world that show α the operation goes on to one that shows an environment of K. -/
def V1 (Φ : Ctx) (o : Oper) (α : AEnv) (K : AEnv → Prop) : Prop :=
  ∀ a w, ER Φ α a w → o.wp Φ.P a w (fun a' w' => ∃ α', K α' ∧ ER Φ α' a' w') (fun _ _ _ => False)

theorem V1.mono {o : Oper} {K K' : AEnv → Prop} (h : V1 Φ o α K) (hk : ∀ α, K α → K' α) : V1 Φ o α K' :=
  fun a w he => Oper.wp_mono (fun _ _ ⟨α', h1, h2⟩ => ⟨α', hk _ h1, h2⟩) (h a w he)

/-- An operation that yields a value in the very world that it got. -/
theorem V1.pure {o : Oper} {d : Nat} {x : PV} {K : AEnv → Prop} (hd : o.dst = some d) (hn : d < α.n)
    (h : ∀ S a w, Env Φ S α a w → ∃ v, (execOp a.eval o).run Φ.P w = .ok (.value v) w ∧ Rep w S true x v) (hk : K (α.put d x)) : V1 Φ o α K := by
  intro a w ⟨S, he⟩
  obtain ⟨v, h1, h2⟩ := h S a w he
  unfold Oper.wp
  rw [h1, Oper.upon_value, hd]
  exact ⟨_, hk, S, he.put hn h2⟩

theorem V1.move {o : Oper} {d : Nat} {x : Operand} {p : PV} {K : AEnv → Prop} (ho : o.op = .move x) (hd : o.dst = some d) (hx : aeval α x = some p) (hn : d < α.n)
    (hk : K (α.put d p)) : V1 Φ o α K :=
  V1.pure hd hn (fun _ a _ he => ⟨a.eval x, by simp [execOp, ho, Sem.run, Pure.pure], he.eval hx⟩) hk

theorem V1.assign {o : Oper} {d : Nat} {x : Operand} {p : PV} {K : AEnv → Prop} (ho : o.op = .assign x) (hd : o.dst = some d) (hx : aeval α x = some p) (hn : d < α.n)
    (hk : K (α.put d p)) : V1 Φ o α K :=
  V1.pure hd hn (fun _ a _ he => ⟨a.eval x, by simp [execOp, ho, Sem.run, Pure.pure], he.eval hx⟩) hk

theorem V1.pick {o : Oper} {d : Nat} {c x y : Operand} {t : Bool} {p : PV} {K : AEnv → Prop} (ho : o.op = .pick c x y) (hd : o.dst = some d) (hc : aeval α c = some (.bool t))
    (hx : aeval α (if t then x else y) = some p) (hn : d < α.n) (hk : K (α.put d p)) : V1 Φ o α K :=
  V1.pure hd hn (fun _ a w he => by
    have h1 := he.eval hc
    simp only [Rep] at h1
    refine ⟨a.eval (if t then x else y), ?_, he.eval hx⟩
    cases t <;> simp [execOp, ho, Sem.run, Pure.pure, h1, asBool, Bind.bind, Sem.bind]) hk

/-- The operations on two integers that always yield. -/
def intBin (op : BinOp) (k : IntKind) (x y : Int) : Option PV :=
  match op with
  | .add => some (.int k (k.wrap (x + y)))
  | .sub => some (.int k (k.wrap (x - y)))
  | .mul => some (.int k (k.wrap (x * y)))
  | .eql => some (.bool (x == y))
  | .neq => some (.bool (x != y))
  | .lss => some (.bool (decide (x < y)))
  | .leq => some (.bool (decide (x ≤ y)))
  | .gtr => some (.bool (decide (x > y)))
  | .geq => some (.bool (decide (x ≥ y)))
  | .and => some (.int k (k.wrap (BitVec.ofInt k.bits x &&& BitVec.ofInt k.bits y).toNat))
  | .or => some (.int k (k.wrap (BitVec.ofInt k.bits x ||| BitVec.ofInt k.bits y).toNat))
  | .xor => some (.int k (k.wrap (BitVec.ofInt k.bits x ^^^ BitVec.ofInt k.bits y).toNat))
  | .andNot => some (.int k (k.wrap (BitVec.ofInt k.bits x &&& ~~~BitVec.ofInt k.bits y).toNat))
  | _ => none

theorem V1.int {o : Oper} {d : Nat} {op : BinOp} {T T' : TypeId} {x y : Operand} {k : IntKind} {m n : Int} {p : PV} {K : AEnv → Prop} (ho : o.op = .binOp op T x y T') (hd : o.dst = some d)
    (hx : aeval α x = some (.int k m)) (hy : aeval α y = some (.int k n)) (hr : intBin op k m n = some p) (hn : d < α.n) (hk : K (α.put d p)) : V1 Φ o α K :=
  V1.pure hd hn (fun _ a w he => by
    have h1 := he.eval hx
    have h2 := he.eval hy
    simp only [Rep] at h1 h2
    cases op <;> simp only [intBin, Option.some.injEq, reduceCtorEq] at hr <;> subst hr <;>
      simp [execOp, ho, h1, h2, eqGuard, binOp, Op.intArith, Op.intCmp, Op.intBits, Sem.run, Pure.pure, Bind.bind, Sem.bind, Rep]) hk

theorem V1.quo {o : Oper} {d : Nat} {T T' : TypeId} {x y : Operand} {k : IntKind} {m n : Int} {K : AEnv → Prop} (ho : o.op = .binOp .quo T x y T') (hd : o.dst = some d)
    (hx : aeval α x = some (.int k m)) (hy : aeval α y = some (.int k n)) (h0 : n ≠ 0) (hn : d < α.n) (hk : K (α.put d (.int k (k.wrap (m.tdiv n))))) : V1 Φ o α K :=
  V1.pure hd hn (fun _ a w he => by
    have h1 := he.eval hx
    have h2 := he.eval hy
    simp only [Rep] at h1 h2
    simp [execOp, ho, h1, h2, eqGuard, binOp, Op.intDiv, h0, Sem.run, Pure.pure, Bind.bind, Sem.bind, Rep]) hk

theorem V1.rem {o : Oper} {d : Nat} {T T' : TypeId} {x y : Operand} {k : IntKind} {m n : Int} {K : AEnv → Prop} (ho : o.op = .binOp .rem T x y T') (hd : o.dst = some d)
    (hx : aeval α x = some (.int k m)) (hy : aeval α y = some (.int k n)) (h0 : n ≠ 0) (hn : d < α.n) (hk : K (α.put d (.int k (m.tmod n)))) : V1 Φ o α K :=
  V1.pure hd hn (fun _ a w he => by
    have h1 := he.eval hx
    have h2 := he.eval hy
    simp only [Rep] at h1 h2
    simp [execOp, ho, h1, h2, eqGuard, binOp, Op.intDiv, h0, Sem.run, Pure.pure, Bind.bind, Sem.bind, Rep]) hk

theorem V1.shr {o : Oper} {d : Nat} {T T' : TypeId} {x y : Operand} {k k' : IntKind} {m n : Int} {K : AEnv → Prop} (ho : o.op = .binOp .shr T x y T') (hd : o.dst = some d)
    (hx : aeval α x = some (.int k m)) (hy : aeval α y = some (.int k' n)) (h0 : 0 ≤ n) (hn : d < α.n) (hk : K (α.put d (.int k (m.fdiv (2 ^ (min n.toNat k.bits)))))) : V1 Φ o α K :=
  V1.pure hd hn (fun _ a w he => by
    have h1 := he.eval hx
    have h2 := he.eval hy
    simp only [Rep] at h1 h2
    have h0' : ¬ n < 0 := by omega
    simp [execOp, ho, h1, h2, eqGuard, binOp, Op.shift, h0', Sem.run, Pure.pure, Bind.bind, Sem.bind, Rep]) hk

theorem V1.shl {o : Oper} {d : Nat} {T T' : TypeId} {x y : Operand} {k k' : IntKind} {m n : Int} {K : AEnv → Prop} (ho : o.op = .binOp .shl T x y T') (hd : o.dst = some d)
    (hx : aeval α x = some (.int k m)) (hy : aeval α y = some (.int k' n)) (h0 : 0 ≤ n) (hn : d < α.n) (hk : K (α.put d (.int k (k.wrap (m * 2 ^ (min n.toNat k.bits)))))) : V1 Φ o α K :=
  V1.pure hd hn (fun _ a w he => by
    have h1 := he.eval hx
    have h2 := he.eval hy
    simp only [Rep] at h1 h2
    have h0' : ¬ n < 0 := by omega
    simp [execOp, ho, h1, h2, eqGuard, binOp, Op.shift, h0', Sem.run, Pure.pure, Bind.bind, Sem.bind, Rep]) hk

theorem V1.not {o : Oper} {d : Nat} {T : TypeId} {x : Operand} {b : Bool} {K : AEnv → Prop} (ho : o.op = .unOp .not T x) (hd : o.dst = some d)
    (hx : aeval α x = some (.bool b)) (hn : d < α.n) (hk : K (α.put d (.bool (!b)))) : V1 Φ o α K :=
  V1.pure hd hn (fun _ a w he => by
    have h1 := he.eval hx
    simp only [Rep] at h1
    simp [execOp, ho, h1, Op.unary, Sem.run, Pure.pure, Bind.bind, Sem.bind, Rep]) hk

theorem V1.neg {o : Oper} {d : Nat} {T : TypeId} {x : Operand} {k : IntKind} {n : Int} {K : AEnv → Prop} (ho : o.op = .unOp .neg T x) (hd : o.dst = some d)
    (hx : aeval α x = some (.int k n)) (hn : d < α.n) (hk : K (α.put d (.int k (k.wrap (0 - n))))) : V1 Φ o α K :=
  V1.pure hd hn (fun _ a w he => by
    have h1 := he.eval hx
    simp only [Rep] at h1
    simp [execOp, ho, h1, Op.unary, Op.intArith, Sem.run, Pure.pure, Bind.bind, Sem.bind, Rep]) hk

theorem V1.conv {o : Oper} {d : Nat} {T T' : TypeId} {x : Operand} {k k' : IntKind} {n : Int} {K : AEnv → Prop} (ho : o.op = .convert T T' x) (hd : o.dst = some d)
    {D : TypeDesc} (hT : Φ.P.underlying T = some D) (hT' : Φ.P.underlying T' = some (.int k')) (hx : aeval α x = some (.int k n)) (hn : d < α.n) (hk : K (α.put d (.int k' (k'.wrap n)))) : V1 Φ o α K :=
  V1.pure hd hn (fun _ a w he => by
    have h1 := he.eval hx
    simp only [Rep] at h1
    simp [execOp, ho, h1, convert, underlying, hT, hT', program, Conv.intToInt, Sem.run, Pure.pure, Bind.bind, Sem.bind, Rep]) hk
end
end Go.VS
