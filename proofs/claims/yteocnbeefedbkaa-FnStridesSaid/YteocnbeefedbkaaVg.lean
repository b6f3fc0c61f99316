/-
  Slices of slices, lengths, parts of values, strings, function values. Over any program. Conditions: a slice expression stays within the length.
-/
import Derived.Test.YteocnbeefedbkaaVf
set_option linter.unusedSimpArgs false
set_option linter.unusedVariables false
namespace Go.VS

def isSl (P : Program) (t : TypeId) : Bool := match P.underlying t with | some (.slice _) => true | _ => false
def isStr (P : Program) (t : TypeId) : Bool := match P.underlying t with | some .string => true | _ => false

section
variable {Φ : Ctx} {S : Nat → Nat → Prop} {α : AEnv} {a : Act} {w : World}

theorem isSl_spec {P : Program} {t : TypeId} (h : isSl P t = true) : ∃ e, P.underlying t = some (.slice e) := by
  unfold isSl at h
  split at h
  · rename_i e he; exact ⟨e, he⟩
  · cases h

theorem isStr_spec {P : Program} {t : TypeId} (h : isStr P t = true) : P.underlying t = some .string := by
  unfold isStr at h
  split at h
  · rename_i he; exact he
  · cases h

/-! ### Lengths -/
theorem V1.lenOf {o : Oper} {d t : Nat} {c : Call} {x : Operand} {p : PV} {n : Nat} {K : AEnv → Prop} (ho : o.op = .call c) (hc : c.callee = .builtin .len) (hca : c.args = #[x]) (hct : c.argTypes = #[t]) (hd : o.dst = some d)
    (hx : aeval α x = some p)
    (h : ∀ S w v, Rep w S true p v → ∃ D, Φ.P.underlying t = some D ∧ ((∃ e a c, D = .slice e ∧ v = .slice a n c) ∨ ∃ s : ByteArray, D = .string ∧ v = .string s ∧ s.size = n)) (hn : d < α.n)
    (hk : K (α.put d (.int .i64 n))) : V1 Φ o α K :=
  V1.pure hd hn (fun S a w he => by
    obtain ⟨D, hD, h1⟩ := h S w _ (he.eval hx)
    refine ⟨goInt n, ?_, by unfold Rep; rfl⟩
    obtain ⟨cal, cargs, cty⟩ := c
    simp only at hc hca hct
    subst hc hca hct
    rcases h1 with ⟨e, a', c', rfl, hv⟩ | ⟨s, rfl, hv, hs⟩
    · simp [execOp, ho, resolve, invoke, builtin, Builtin.len_, hv, run_underlying hD]
    · simp [execOp, ho, resolve, invoke, builtin, Builtin.len_, hv, run_underlying hD, hs]) hk

theorem V1.lenVl {o : Oper} {d t : Nat} {c : Call} {x : Operand} {ρ m : Nat} {xs : List PV} {K : AEnv → Prop} (ho : o.op = .call c) (hc : c.callee = .builtin .len) (hca : c.args = #[x]) (hct : c.argTypes = #[t]) (hd : o.dst = some d)
    (hx : aeval α x = some (.vl ρ m xs)) (ht : isSl Φ.P t = true) (hn : d < α.n) (hk : K (α.put d (.int .i64 xs.length))) : V1 Φ o α K := by
  obtain ⟨e, he⟩ := isSl_spec ht
  refine V1.lenOf ho hc hca hct hd hx (fun S w v hv => ⟨_, he, .inl ?_⟩) hn hk
  unfold Rep at hv
  obtain ⟨_, us, _, hr, ⟨rfl, a, cap, rfl⟩ | ⟨b, off, cap, _, rfl, _⟩⟩ := hv
  · have := hr.length
    exact ⟨e, a, cap, rfl, by simp at this; rw [← this]⟩
  · exact ⟨e, _, cap, rfl, by rw [hr.length]⟩

theorem V1.lenSref {o : Oper} {d t : Nat} {c : Call} {x : Operand} {b m off len : Nat} {K : AEnv → Prop} (ho : o.op = .call c) (hc : c.callee = .builtin .len) (hca : c.args = #[x]) (hct : c.argTypes = #[t]) (hd : o.dst = some d)
    (hx : aeval α x = some (.sref b m off len)) (ht : isSl Φ.P t = true) (hn : d < α.n) (hk : K (α.put d (.int .i64 len))) : V1 Φ o α K := by
  obtain ⟨e, he⟩ := isSl_spec ht
  refine V1.lenOf ho hc hca hct hd hx (fun S w v hv => ⟨_, he, .inl ?_⟩) hn hk
  unfold Rep at hv
  obtain ⟨_, ⟨rfl, ⟨a, rfl⟩, _⟩ | ⟨cap, c, rfl, _⟩⟩ := hv
  · exact ⟨e, a, 0, rfl, rfl⟩
  · exact ⟨e, _, cap, rfl, rfl⟩

theorem V1.lenNils {o : Oper} {d t : Nat} {c : Call} {x : Operand} {K : AEnv → Prop} (ho : o.op = .call c) (hc : c.callee = .builtin .len) (hca : c.args = #[x]) (hct : c.argTypes = #[t]) (hd : o.dst = some d)
    (hx : aeval α x = some .nils) (ht : isSl Φ.P t = true) (hn : d < α.n) (hk : K (α.put d (.int .i64 (0 : Nat)))) : V1 Φ o α K := by
  obtain ⟨e, he⟩ := isSl_spec ht
  refine V1.lenOf ho hc hca hct hd hx (fun S w v hv => ⟨_, he, .inl ?_⟩) hn hk
  unfold Rep at hv
  exact ⟨e, none, 0, rfl, hv⟩

theorem V1.lenStr {o : Oper} {d t : Nat} {c : Call} {x : Operand} {s : List UInt8} {K : AEnv → Prop} (ho : o.op = .call c) (hc : c.callee = .builtin .len) (hca : c.args = #[x]) (hct : c.argTypes = #[t]) (hd : o.dst = some d)
    (hx : aeval α x = some (.str s)) (ht : isStr Φ.P t = true) (hn : d < α.n) (hk : K (α.put d (.int .i64 s.length))) : V1 Φ o α K := by
  refine V1.lenOf ho hc hca hct hd hx (fun S w v hv => ⟨_, isStr_spec ht, .inr ?_⟩) hn hk
  unfold Rep at hv
  exact ⟨_, rfl, hv, by simp [ByteArray.size]⟩

/-! ### Slices of slices -/
/-- A bound of a slice expression: not there, or a number. -/
def bnd (α : AEnv) (z : Nat) : Option Operand → Option Nat
  | none => some z
  | some x => match aeval α x with
    | some (.int _ (.ofNat m)) => some m
    | _ => none

/-- lo and hi of a slice expression, as numbers: what is asked of the operands. -/
def Bnd (α : AEnv) (x : Option Operand) (z n : Nat) : Prop :=
  match x with
  | none => n = z
  | some x => ∃ k m, aeval α x = some (.int k m) ∧ 0 ≤ m ∧ m.toNat = n

theorem Bnd.none (α : AEnv) (z : Nat) : Bnd α .none z z := rfl
theorem Bnd.some {α : AEnv} {x : Operand} {k : IntKind} {m : Int} (h : aeval α x = .some (.int k m)) (h0 : 0 ≤ m) (z : Nat) : Bnd α (.some x) z m.toNat := ⟨k, m, h, h0, rfl⟩

theorem run_sliceBounds (he : Env Φ S α a w) {lo hi : Option Operand} {len cap l h : Nat} {sl : Bool} (hlo : Bnd α lo 0 l) (hhi : Bnd α hi len h) (h1 : l ≤ h) (h2 : h ≤ len) (h3 : len ≤ cap) :
    (Instr.sliceBounds sl len cap (lo.map a.eval) (hi.map a.eval) none).run Φ.P w = .ok (l, h, cap) w := by
  have b1 : ∀ (x : Operand) (k : IntKind) (m : Int) (y : Nat) (cd : BoundsCode), aeval α x = some (.int k m) → 0 ≤ m → m.toNat ≤ y → (Instr.sliceBound (a.eval x) y cd).run Φ.P w = .ok m.toNat w := by
    intro x k m y cd hx h0 hy
    have e := he.eval hx
    unfold Rep at e
    have : 0 ≤ m ∧ m ≤ (y : Int) := ⟨h0, by omega⟩
    simp [Instr.sliceBound, e, asIntOf, this]
  cases lo with
  | none =>
    simp only [Bnd] at hlo
    subst hlo
    cases hi with
    | none => simp only [Bnd] at hhi; subst hhi; simp [Instr.sliceBounds]
    | some y =>
      obtain ⟨k, m, q1, q2, rfl⟩ := hhi
      simp [Instr.sliceBounds, b1 y k m cap _ q1 q2 (by omega)]
  | some x =>
    obtain ⟨k, m, q1, q2, rfl⟩ := hlo
    cases hi with
    | none =>
      simp only [Bnd] at hhi
      subst hhi
      simp [Instr.sliceBounds, b1 x k m h _ q1 q2 (by omega)]
    | some y =>
      obtain ⟨k', m', q1', q2', rfl⟩ := hhi
      simp [Instr.sliceBounds, b1 y k' m' cap _ q1' q2' (by omega), b1 x k m _ _ q1 q2 (by omega)]

theorem V1.sliceVl {o : Oper} {d t e n : Nat} {x : Operand} {lo hi : Option Operand} {ρ l h : Nat} {xs : List PV} {K : AEnv → Prop} (ho : o.op = .slice t x lo hi none) (hd : o.dst = some d)
    (ht : elemSz Φ.P t = some (e, n)) (hx : aeval α x = some (.vl ρ n xs)) (hlo : Bnd α lo 0 l) (hhi : Bnd α hi xs.length h) (h1 : l ≤ h) (h2 : h ≤ xs.length) (hn : d < α.n)
    (hk : K (α.put d (.vl ρ n ((xs.take h).drop l)))) : V1 Φ o α K :=
  V1.pure hd hn (fun S a w he => by
    have e1 := he.eval hx
    unfold Rep at e1
    obtain ⟨hn0, us, hg, hr, h3⟩ := e1
    obtain ⟨hu, inf, hinf, hsn⟩ := elemSz_spec ht
    have hlen := hr.length
    have hr' := (hr.take h).drop l
    have hg' : ∀ u ∈ (us.take h).drop l, Good n u := fun u hu => hg u (List.mem_of_mem_take (List.mem_of_mem_drop hu))
    rcases h3 with ⟨rfl, a', cap, hv⟩ | ⟨b, off, cap, hS, hv, hcap, hc⟩
    · simp at hlen
      have hb := run_sliceBounds (sl := true) (len := 0) (cap := cap) he hlo (by rw [hlen]; exact hhi) h1 (by omega) (by omega)
      have h0 : h = 0 := by omega
      have l0 : l = 0 := by omega
      subst h0 l0
      refine ⟨.slice (if cap = 0 then a' else a'.map (·.add (0 * n))) 0 cap, ?_, ?_⟩
      · simp [execOp, ho, hv, Instr.sliceAt, Instr.slice, run_underlying hu, hb, run_sizeOf' hinf, hsn]
      · unfold Rep
        exact ⟨hn0, _, hg', hr', .inl ⟨by simp, _, _, rfl⟩⟩
    · have hb := run_sliceBounds (sl := true) (len := us.length) (cap := cap) he hlo (by rw [hlen]; exact hhi) h1 (by omega) hcap
      refine ⟨.slice (if cap = l then some ⟨b, off, none⟩ else some ⟨b, off + l * n, none⟩) (h - l) (cap - l), ?_, ?_⟩
      · simp [execOp, ho, hv, Instr.sliceAt, Instr.slice, run_underlying hu, hb, run_sizeOf' hinf, hsn, Addr.add_none]
      · unfold Rep
        refine ⟨hn0, _, hg', hr', ?_⟩
        by_cases hcl : cap = l
        · have : h - l = 0 := by omega
          rw [if_pos hcl, this]
          exact .inl ⟨by apply List.eq_nil_of_length_eq_zero; simp; omega, _, _, rfl⟩
        · rw [if_neg hcl]
          refine .inr ⟨b, off + l * n, cap - l, hS, by congr 1; simp; omega, by simp; omega, fun i u hu => ?_⟩
          rw [List.getElem?_drop, List.getElem?_take] at hu
          split at hu
          · have := hc (l + i) u hu
            rwa [Nat.add_mul, ← Nat.add_assoc] at this
          · cases hu) hk

theorem V1.sliceSref {o : Oper} {d t e n : Nat} {x : Operand} {lo hi : Option Operand} {b off len l h : Nat} {K : AEnv → Prop} (ho : o.op = .slice t x lo hi none) (hd : o.dst = some d)
    (ht : elemSz Φ.P t = some (e, n)) (hx : aeval α x = some (.sref b n off len)) (hlo : Bnd α lo 0 l) (hhi : Bnd α hi len h) (h1 : l ≤ h) (h2 : h ≤ len) (hn : d < α.n)
    (hk : K (α.put d (.sref b n (off + l) (h - l)))) : V1 Φ o α K :=
  V1.pure hd hn (fun S a w he => by
    have e1 := he.eval hx
    unfold Rep at e1
    obtain ⟨hu, inf, hinf, hsn⟩ := elemSz_spec ht
    rcases e1 with ⟨_, ⟨rfl, ⟨a', hv⟩, c0, hc0, hz0⟩ | ⟨cap, c, hv, hcap, hb, hfit⟩⟩
    · have hb := run_sliceBounds (sl := true) (len := 0) (cap := 0) he hlo hhi h1 h2 (Nat.le_refl _)
      have h0 : h = 0 := by omega
      have l0 : l = 0 := by omega
      subst h0 l0
      refine ⟨.slice a' 0 0, ?_, ?_⟩
      · simp [execOp, ho, hv, Instr.sliceAt, Instr.slice, run_underlying hu, hb, run_sizeOf' hinf, hsn]
      · unfold Rep
        exact ⟨rfl, .inl ⟨rfl, ⟨_, rfl⟩, c0, hc0, by rw [Nat.add_zero]; exact hz0⟩⟩
    · have hbd := run_sliceBounds (sl := true) (len := len) (cap := cap) he hlo hhi h1 h2 hcap
      refine ⟨.slice (if cap = l then some ⟨b, off * n, none⟩ else some ⟨b, off * n + l * n, none⟩) (h - l) (cap - l), ?_, ?_⟩
      · simp [execOp, ho, hv, Instr.sliceAt, Instr.slice, run_underlying hu, hbd, run_sizeOf' hinf, hsn, Addr.add_none]
      · unfold Rep
        by_cases hcl : cap = l
        · have e2 : h - l = 0 := by omega
          have e3 : cap - l = 0 := by omega
          rw [e2, e3]
          exact ⟨rfl, .inl ⟨rfl, ⟨_, rfl⟩, c, hb, by rw [← hcl]; exact hfit⟩⟩
        · rw [if_neg hcl]
          refine ⟨rfl, .inr ⟨cap - l, c, by rw [Nat.add_mul], by omega, hb, ?_⟩⟩
          have : off + l + (cap - l) = off + cap := by omega
          rw [this]; exact hfit) hk

/-- x[lo:hi] of a string. -/
theorem V1.sliceStr {o : Oper} {d t : Nat} {x : Operand} {lo hi : Option Operand} {l h : Nat} {s : List UInt8} {K : AEnv → Prop} (ho : o.op = .slice t x lo hi none) (hd : o.dst = some d)
    (ht : isStr Φ.P t = true) (hx : aeval α x = some (.str s)) (hlo : Bnd α lo 0 l) (hhi : Bnd α hi s.length h) (h1 : l ≤ h) (h2 : h ≤ s.length) (hn : d < α.n)
    (hk : K (α.put d (.str ((s.take h).drop l)))) : V1 Φ o α K :=
  V1.pure hd hn (fun S a w he => by
    have e1 := he.eval hx
    unfold Rep at e1
    have hu := isStr_spec ht
    have hsz : (⟨s.toArray⟩ : ByteArray).size = s.length := by simp [ByteArray.size]
    have hbd := run_sliceBounds (sl := false) (len := s.length) (cap := s.length) he hlo hhi h1 h2 (Nat.le_refl _)
    refine ⟨.string ((⟨s.toArray⟩ : ByteArray).extract l h), ?_, ?_⟩
    · simp [execOp, ho, e1, Instr.sliceAt, Instr.slice, run_underlying hu, hsz, hbd]
    · unfold Rep
      congr 1
      apply ByteArray.ext
      simp [List.drop_take]) hk

/-! ### Parts of values -/
theorem V1.extract {o : Oper} {d i : Nat} {x : Operand} {vs : List PV} {p : PV} {K : AEnv → Prop} (ho : o.op = .extract x i) (hd : o.dst = some d)
    (hx : aeval α x = some (.tup vs)) (hp : vs[i]? = some p) (hn : d < α.n) (hk : K (α.put d p)) : V1 Φ o α K :=
  V1.pure hd hn (fun S a w he => by
    have e1 := he.eval hx
    unfold Rep at e1
    obtain ⟨us, hv, hr⟩ := e1
    obtain ⟨u, h1, h2⟩ := hr.get hp
    exact ⟨u, by simp [execOp, ho, hv, Instr.extract, h1], h2⟩) hk

/-- s[i], a byte of a string. -/
theorem V1.indexStr {o : Oper} {d t : Nat} {x i : Operand} {s : List UInt8} {k : IntKind} {m : Int} {c : UInt8} {K : AEnv → Prop} (ho : o.op = .index t x i) (hd : o.dst = some d)
    (ht : isStr Φ.P t = true) (hx : aeval α x = some (.str s)) (hi : aeval α i = some (.int k m)) (h0 : 0 ≤ m) (hc : s[m.toNat]? = some c) (hn : d < α.n)
    (hk : K (α.put d (.int .u8 c.toNat))) : V1 Φ o α K :=
  V1.pure hd hn (fun S a w he => by
    have e1 := he.eval hx
    have e2 := he.eval hi
    unfold Rep at e1 e2
    have hu := isStr_spec ht
    refine ⟨.int .u8 c.toNat, ?_, by unfold Rep; rfl⟩
    obtain ⟨hlt, hcc⟩ := List.getElem?_eq_some_iff.1 hc
    have hget : (⟨s.toArray⟩ : ByteArray)[m.toNat]? = some c := by
      have hlt' : m.toNat < (⟨s.toArray⟩ : ByteArray).size := by simpa [ByteArray.size] using hlt
      rw [getElem?_pos (⟨s.toArray⟩ : ByteArray) m.toNat hlt']
      exact congrArg some hcc
    simp [execOp, ho, e1, e2, Instr.index, asIntOf, run_underlying hu, h0, hget]) hk

/-- x[i], a one cell element of an array value. -/
theorem V1.indexArr {o : Oper} {d t e len : Nat} {g : Nat} {x i : Operand} {cs : List PV} {k : IntKind} {m : Int} {p : PV} {K : AEnv → Prop} (ho : o.op = .index t x i) (hd : o.dst = some d)
    (ht : Φ.P.underlying t = some (.array len e)) (he' : tyk Φ.P e = some (false, 1)) (hx : aeval α x = some (.agg cs)) (hi : aeval α i = some (.int k m)) (h0 : 0 ≤ m) (h1 : m.toNat < len) (hp : cs[m.toNat]? = some p) (hn : d < α.n)
    (hk : K (α.put d p)) : V1 Φ o α K :=
  V1.pure hd hn (fun S a w he => by
    have e1 := he.eval hx
    have e2 := he.eval hi
    unfold Rep at e1 e2
    obtain ⟨us, hv, _, hr⟩ := e1
    obtain ⟨u, q1, q2⟩ := hr.get hp
    refine ⟨u, ?_, q2⟩
    have hcond : 0 ≤ m ∧ m < (len : Int) := ⟨h0, by omega⟩
    have hpart : (part e us.toArray (m.toNat * 1)).run Φ.P w = .ok u w := by
      simp [part, run_isAgg he', q1]
    simp only [Nat.mul_one] at hpart
    simp [execOp, ho, hv, e2, Instr.index, asIntOf, run_underlying ht, hcond, run_sizeOf he', hpart]) hk

/-- x.f of a struct value, a field of one cell. -/
theorem V1.fieldVal {o : Oper} {d t f off ft : Nat} {x : Operand} {cs : List PV} {p : PV} {fs : Array Field} {fl : Field} {K : AEnv → Prop} (ho : o.op = .field t x f) (hd : o.dst = some d)
    (ht : Φ.P.underlying t = some (.struct fs)) (hf : fs[f]? = some fl) (h1 : tyk Φ.P fl.type = some (false, 1)) (hx : aeval α x = some (.agg cs)) (hp : cs[fl.offset]? = some p) (hn : d < α.n)
    (hk : K (α.put d p)) : V1 Φ o α K :=
  V1.pure hd hn (fun S a w he => by
    have e1 := he.eval hx
    unfold Rep at e1
    obtain ⟨us, hv, _, hr⟩ := e1
    obtain ⟨u, q1, q2⟩ := hr.get hp
    refine ⟨u, ?_, q2⟩
    simp [execOp, ho, hv, Instr.field, run_underlying ht, hf, asAgg, part, run_isAgg h1, q1]) hk

/-! ### Function values -/
def argsPV (α : AEnv) : List Operand → Option (List PV)
  | [] => some []
  | x :: r => match aeval α x with
    | some p => match argsPV α r with
      | some ps => some (p :: ps)
      | none => none
    | none => none

theorem argsPV_spec (he : Env Φ S α a w) : ∀ (l : List Operand) (ps : List PV), argsPV α l = some ps → Reps w S true ps (l.map a.eval)
  | [], ps, h => by cases h; rw [Reps.nil_iff]; rfl
  | x :: r, ps, h => by
    simp only [argsPV] at h
    split at h
    · rename_i p hp
      split at h
      · rename_i ps' hps
        cases h
        rw [Reps.cons_iff]
        exact ⟨_, _, rfl, he.eval hp, argsPV_spec he r ps' hps⟩
      · cases h
    · cases h

theorem V1.makeFunc {o : Oper} {d f : Nat} {cap : Array Operand} {ps : List PV} {K : AEnv → Prop} (ho : o.op = .makeFunc (.func f) #[] cap) (hd : o.dst = some d)
    (hps : argsPV α cap.toList = some ps) (hn : d < α.n) (hk : K (α.put d (.fn f ps))) : V1 Φ o α K :=
  V1.pure hd hn (fun S a w he => by
    refine ⟨.func (.func f) #[] (cap.map a.eval), ?_, ?_⟩
    · simp only [execOp, ho, Instr.makeFunc, Sem.run_bind, Sem.run_pure, Result.andThen_ok]
      simp
    · unfold Rep
      exact ⟨cap.toList.map a.eval, by congr 1; apply Array.ext'; simp, argsPV_spec he _ _ hps⟩) hk

/-! ### Bools and strings -/
theorem run_equal_bool {P : Program} {T : TypeId} (hT : P.underlying T = some .bool) (p q : Bool) (w : World) : (Op.equal T (.bool p) (.bool q)).run P w = .ok (p == q) w := by
  have h : ∀ n, (Op.equalIn (n + 1) T (.bool p) (.bool q)).run P w = .ok (p == q) w := fun n => by
    simp only [Op.equalIn, Sem.run_bind, run_underlying hT, Result.andThen_ok, Sem.run_pure]
  exact h 9999

theorem V1.boolEql {o : Oper} {d T T' : Nat} {x y : Operand} {p q : Bool} {K : AEnv → Prop} (ho : o.op = .binOp .eql T x y T') (hd : o.dst = some d)
    (hT : Φ.P.underlying T = some .bool) (hx : aeval α x = some (.bool p)) (hy : aeval α y = some (.bool q)) (hn : d < α.n) (hk : K (α.put d (.bool (p == q)))) : V1 Φ o α K :=
  V1.pure hd hn (fun _ a w he => by
    have h1 := he.eval hx
    have h2 := he.eval hy
    simp only [Rep] at h1 h2
    refine ⟨.bool (p == q), ?_, by unfold Rep; rfl⟩
    have h3 := run_equal_bool hT p q w
    simp only [execOp, ho, h1, h2, eqGuard, binOp, Sem.run_bind, Result.andThen_ok, Sem.run_pure, Sem.run_ite]
    simp
    rw [h3]
    rfl) hk

theorem V1.boolNeq {o : Oper} {d T T' : Nat} {x y : Operand} {p q : Bool} {K : AEnv → Prop} (ho : o.op = .binOp .neq T x y T') (hd : o.dst = some d)
    (hT : Φ.P.underlying T = some .bool) (hx : aeval α x = some (.bool p)) (hy : aeval α y = some (.bool q)) (hn : d < α.n) (hk : K (α.put d (.bool (!(p == q))))) : V1 Φ o α K :=
  V1.pure hd hn (fun _ a w he => by
    have h1 := he.eval hx
    have h2 := he.eval hy
    simp only [Rep] at h1 h2
    refine ⟨.bool (!(p == q)), ?_, by unfold Rep; rfl⟩
    have h3 := run_equal_bool hT p q w
    simp only [execOp, ho, h1, h2, eqGuard, binOp, Sem.run_bind, Result.andThen_ok, Sem.run_pure, Sem.run_ite]
    simp
    rw [h3]
    rfl) hk

/-- The comparisons of two strings. -/
def strBin (op : BinOp) (x y : List UInt8) : Option PV :=
  match op with
  | .eql => some (.bool (x == y))
  | .neq => some (.bool (!(x == y)))
  | .lss => some (.bool (Op.bytesLess x y))
  | .leq => some (.bool (Op.bytesLess x y || x == y))
  | .gtr => some (.bool (!(Op.bytesLess x y || x == y)))
  | .geq => some (.bool (!Op.bytesLess x y))
  | _ => none

theorem toList_mk (s : List UInt8) : (⟨s.toArray⟩ : ByteArray).toList = s := by
  rw [ByteArray.toList_eq]

theorem V1.str {o : Oper} {d : Nat} {op : BinOp} {T T' : TypeId} {x y : Operand} {s t : List UInt8} {p : PV} {K : AEnv → Prop} (ho : o.op = .binOp op T x y T') (hd : o.dst = some d)
    (hx : aeval α x = some (.str s)) (hy : aeval α y = some (.str t)) (hr : strBin op s t = some p) (hn : d < α.n) (hk : K (α.put d p)) : V1 Φ o α K :=
  V1.pure hd hn (fun _ a w he => by
    have h1 := he.eval hx
    have h2 := he.eval hy
    simp only [Rep] at h1 h2
    cases op <;> simp only [strBin, Option.some.injEq, reduceCtorEq] at hr <;> subst hr <;>
      simp [execOp, ho, h1, h2, eqGuard, binOp, Op.stringOp, toList_mk, Rep]) hk

theorem V1.strAdd {o : Oper} {d : Nat} {T T' : TypeId} {x y : Operand} {s t : List UInt8} {K : AEnv → Prop} (ho : o.op = .binOp .add T x y T') (hd : o.dst = some d)
    (hx : aeval α x = some (.str s)) (hy : aeval α y = some (.str t)) (hl : s.length + t.length ≤ 9223372036854775807) (hn : d < α.n) (hk : K (α.put d (.str (s ++ t)))) : V1 Φ o α K :=
  V1.pure hd hn (fun _ a w he => by
    have h1 := he.eval hx
    have h2 := he.eval hy
    simp only [Rep] at h1 h2
    refine ⟨.string ⟨(s ++ t).toArray⟩, ?_, by unfold Rep; rfl⟩
    have hsz : (⟨s.toArray⟩ : ByteArray).size + (⟨t.toArray⟩ : ByteArray).size = s.length + t.length := by simp [ByteArray.size]
    have hn : ¬ (((⟨s.toArray⟩ : ByteArray).size + (⟨t.toArray⟩ : ByteArray).size : Nat) : Int) > IntKind.i64.max := by
      rw [hsz]; simp [IntKind.max, IntKind.signed, IntKind.bits]; omega
    have happ : (⟨s.toArray⟩ : ByteArray) ++ ⟨t.toArray⟩ = ⟨(s ++ t).toArray⟩ := by
      apply ByteArray.ext
      simp [ByteArray.data_append]
    simp only [execOp, ho, h1, h2, eqGuard, binOp, Op.stringOp]
    rw [if_neg hn, happ]
    simp) hk
end
end Go.VS
