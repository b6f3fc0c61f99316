/-
  Own rows seen in part: slices of them, cleared parts, appending in place, cutting short. Over any program. No condition.
-/
import Derived.Test.YteocnbeefedbkaaWf
set_option linter.unusedSimpArgs false
set_option linter.unusedVariables false
namespace Go.VS

section
variable {Φ : Ctx} {α : AEnv} {K : AEnv → Prop} {o : Oper} {β : Type} {f : β → PV} {l m : List β}

/-- x[a:c] of a view of an own row. -/
theorem V1.sliceSw {d t e n : Nat} {x : Operand} {lo hi : Option Operand} {b off len : Nat} {a c : Int} (ho : o.op = .slice t x lo hi none) (hd : o.dst = some d)
    (ht : elemSz Φ.P t = some (e, n)) (hx : aeval α x = some (.sref b n off len)) (hlo : Bnd α lo 0 a.toNat) (hhi : Bnd α hi len c.toNat) (h : 0 ≤ a ∧ a ≤ c ∧ c ≤ (len : Int)) (hn : d < α.n)
    (hk : K (α.put d (.sref b n (off + a.toNat) (c.toNat - a.toNat)))) : V1 Φ o α K :=
  V1.sliceSref ho hd ht hx hlo hhi (by omega) (by omega) hn hk

theorem V1.indexSw {d t e n : Nat} {x i : Operand} {b off len : Nat} {k : IntKind} {j : Int} (ho : o.op = .indexAddr t x i) (hd : o.dst = some d)
    (ht : elemSz Φ.P t = some (e, n)) (hx : aeval α x = some (.sref b n off len)) (hi : aeval α i = some (.int k j)) (h : 0 ≤ j ∧ j < (len : Int)) (hn : d < α.n)
    (hk : K (α.put d (.ref b n (off + j.toNat) 0))) : V1 Φ o α K :=
  V1.indexSref ho hd ht hx hi h.1 (natLt h.1 h.2) hn hk

theorem run_sliceBounds3 {S : Nat → Nat → Prop} {a : Act} {w : World} (he : Env Φ S α a w) {lo hi mx : Operand} {cap : Nat} {kl kh km : IntKind} {l h m : Int} {sl : Bool} {len : Nat} (hlo : aeval α lo = some (.int kl l)) (hhi : aeval α hi = some (.int kh h)) (hmx : aeval α mx = some (.int km m))
    (h0 : 0 ≤ l) (h1 : l ≤ h) (h2 : h ≤ m) (h3 : m ≤ (cap : Int)) :
    (Instr.sliceBounds sl len cap (some (a.eval lo)) (some (a.eval hi)) (some (a.eval mx))).run Φ.P w = .ok (l.toNat, h.toNat, m.toNat) w := by
  have b1 : ∀ (x : Operand) (k : IntKind) (m : Int) (y : Nat) (cd : BoundsCode), aeval α x = some (.int k m) → 0 ≤ m → m ≤ (y : Int) → (Instr.sliceBound (a.eval x) y cd).run Φ.P w = .ok m.toNat w := by
    intro x k m y cd hx h0 hy
    have e := he.eval hx
    unfold Rep at e
    have : 0 ≤ m ∧ m ≤ (y : Int) := ⟨h0, hy⟩
    simp [Instr.sliceBound, e, asIntOf, this]
  simp [Instr.sliceBounds, b1 mx km m cap _ hmx (by omega) h3, b1 hi kh h m.toNat _ hhi (by omega) (by omega), b1 lo kl l h.toNat _ hlo h0 (by omega)]

theorem run_sliceBoundsX {S : Nat → Nat → Prop} {a : Act} {w : World} (he : Env Φ S α a w) {lo : Option Operand} {hi : Operand} {len cap l : Nat} {kh : IntKind} {h : Int} {sl : Bool} (hlo : Bnd α lo 0 l) (hhi : aeval α hi = some (.int kh h)) (h0 : 0 ≤ h) (h1 : (l : Int) ≤ h) (h2 : h ≤ (cap : Int)) :
    (Instr.sliceBounds sl len cap (lo.map a.eval) (some (a.eval hi)) none).run Φ.P w = .ok (l, h.toNat, cap) w := by
  have b1 : ∀ (x : Operand) (k : IntKind) (m : Int) (y : Nat) (cd : BoundsCode), aeval α x = some (.int k m) → 0 ≤ m → m ≤ (y : Int) → (Instr.sliceBound (a.eval x) y cd).run Φ.P w = .ok m.toNat w := by
    intro x k m y cd hx h0 hy
    have e := he.eval hx
    unfold Rep at e
    have : 0 ≤ m ∧ m ≤ (y : Int) := ⟨h0, hy⟩
    simp [Instr.sliceBound, e, asIntOf, this]
  cases lo with
  | none =>
    have hl : l = 0 := hlo
    subst hl
    simp [Instr.sliceBounds, b1 hi kh h cap _ hhi h0 h2]
  | some y =>
    obtain ⟨k', m', q1', q2', rfl⟩ := hlo
    simp [Instr.sliceBounds, b1 hi kh h cap _ hhi h0 h2, b1 y k' m' h.toNat _ q1' q2' (by omega)]

/-- x[a:c] of a view of an own row; c may lie behind the view's end, within the row. -/
theorem V1.sliceSwX {d t e n k : Nat} {x hi : Operand} {lo : Option Operand} {b off len : Nat} {kh : IntKind} {a c : Int} (ho : o.op = .slice t x lo (some hi) none) (hd : o.dst = some d)
    (ht : elemSz Φ.P t = some (e, n)) (hx : aeval α x = some (.sref b n off len)) (hb : α.H[k]? = some (b, ⟨n, l.map f⟩)) (hlo : Bnd α lo 0 a.toNat) (hhi : aeval α hi = some (.int kh c)) (h : 0 ≤ a ∧ a ≤ c ∧ (off : Int) + c ≤ (l.length : Int)) (hn : d < α.n)
    (hk : K (α.put d (.sref b n (off + a.toNat) (c.toNat - a.toNat)))) : V1 Φ o α K :=
  V1.pure hd hn (fun S ac w he => by
    have e1 := he.eval hx
    unfold Rep at e1
    obtain ⟨hu, inf, hinf, hsn⟩ := elemSz_spec ht
    obtain ⟨hn0, cc, vs, ⟨T, fz, hcc, _⟩, hl, hg, hr, hcells⟩ := (he.objK hb).1
    have hvl : vs.length = l.length := by have := hr.length; simpa using this
    simp only at hl hn0
    have hsz : ∀ cap c', Blk w b c' → (off + cap) * n = c'.size → l.length ≤ off + cap := by
      intro cap c' hb' hz
      obtain ⟨T', fz', hcc', _⟩ := hb'
      rw [hcc] at hcc'
      cases hcc'
      rw [← hz, hvl] at hl
      exact Nat.le_of_mul_le_mul_right hl hn0
    rcases e1 with ⟨_, ⟨rfl, ⟨a', hv⟩, c0, hc0, hz0⟩ | ⟨cap, c', hv, hcap, hb', hfit⟩⟩
    · have hle := hsz 0 c0 hc0 (by simpa using hz0)
      have hc00 : c = 0 := by omega
      have ha0 : a = 0 := by omega
      subst hc00 ha0
      have hbd := run_sliceBoundsX (sl := true) (len := 0) (cap := 0) he hlo hhi (by omega) (by simp) (by simp)
      refine ⟨.slice a' 0 0, ?_, ?_⟩
      · simp at hbd
        simp [execOp, ho, hv, Instr.sliceAt, Instr.slice, run_underlying hu, hbd, run_sizeOf' hinf, hsn]
      · unfold Rep
        exact ⟨rfl, .inl ⟨rfl, ⟨_, rfl⟩, c0, hc0, by simpa using hz0⟩⟩
    · have hle := hsz cap c' hb' hfit
      have hbd := run_sliceBoundsX (sl := true) (len := len) (cap := cap) he hlo hhi (by omega) (by omega) (by omega)
      refine ⟨.slice (if cap = a.toNat then some ⟨b, off * n, none⟩ else some ⟨b, off * n + a.toNat * n, none⟩) (c.toNat - a.toNat) (cap - a.toNat), ?_, ?_⟩
      · simp [execOp, ho, hv, Instr.sliceAt, Instr.slice, run_underlying hu, hbd, run_sizeOf' hinf, hsn, Addr.add_none]
      · unfold Rep
        by_cases hcl : cap = a.toNat
        · have e2 : c.toNat - a.toNat = 0 := by omega
          have e3 : cap - a.toNat = 0 := by omega
          rw [e2, e3]
          exact ⟨rfl, .inl ⟨rfl, ⟨_, rfl⟩, c', hb', by rw [← hcl]; exact hfit⟩⟩
        · rw [if_neg hcl]
          refine ⟨rfl, .inr ⟨cap - a.toNat, c', by rw [Nat.add_mul], by omega, hb', ?_⟩⟩
          have : off + a.toNat + (cap - a.toNat) = off + cap := by omega
          rw [this]; exact hfit) hk

theorem SrcOf.swMap {P : Program} {u n k b off len : Nat} (hb : α.H[k]? = some (b, ⟨n, l.map f⟩)) (hfit : off + len ≤ l.length) (hu : isSl P u = true) : SrcOf P α u n (.sref b n off len) (((l.drop off).take len).map f) := by
  have := SrcOf.sref (P := P) (u := u) (off := off) (len := len) hb rfl (by simpa using hfit) hu
  simpa [List.map_take, List.map_drop] using this

theorem segLen {z : β} {off len : Nat} (h : off + len ≤ l.length) : l.length = (l.take off ++ List.replicate len z ++ l.drop (off + len)).length := by
  simp; omega
theorem segLen2 {i : Nat} (h : i + m.length ≤ l.length) : l.length = (l.take i ++ m ++ l.drop (i + m.length)).length := by
  simp; omega

/-- An operation whose value is not wanted. -/
theorem V1.gone {d : Nat} (hd : o.dst = some d) (hn : d < α.n) (h : ∀ S a w, Env Φ S α a w → ∃ v, (execOp a.eval o).run Φ.P w = .ok (.value v) w)
    (hk : K ⟨α.n, α.E.filter (fun p => !(Nat.beq p.1 d)), α.H⟩) : V1 Φ o α K := by
  intro ac w ⟨S, he⟩
  obtain ⟨v, hrun⟩ := h S ac w he
  unfold Oper.wp
  rw [hrun, Oper.upon_value, hd]
  refine ⟨_, hk, S, ?_⟩
  have h1 : Env Φ S (α.put d (.val v)) (ac.put (some d) v) w := he.put hn (by unfold Rep; rfl)
  refine h1.keep (fun t x ht => ?_) (List.Sublist.refl _)
  clear hk h1
  have hne : ∀ (E : List (Nat × PV)), get (E.filter (fun p => !(Nat.beq p.1 d))) t = some x → Nat.beq d t = false := by
    intro E hE
    cases hb : Nat.beq d t with
    | false => rfl
    | true =>
      exfalso
      have := Nat.eq_of_beq_eq_true hb
      subst this
      clear hb ht
      induction E with
      | nil => cases hE
      | cons p r ih =>
        obtain ⟨q1, q2⟩ := p
        simp only [List.filter_cons] at hE
        cases hq : Nat.beq q1 d with
        | true => rw [hq] at hE; exact ih hE
        | false =>
          rw [hq] at hE
          simp only [Bool.not_false, if_true, get, hq, Bool.false_eq_true, if_false] at hE
          exact ih hE
  have hd' := hne _ ht
  have key2 : ∀ (E : List (Nat × PV)), get (E.filter (fun p => !(Nat.beq p.1 d))) t = some x → get E t = some x := by
    intro E hE
    clear ht
    induction E with
    | nil => cases hE
    | cons p r ih =>
      obtain ⟨q1, q2⟩ := p
      simp only [List.filter_cons] at hE
      cases hq : Nat.beq q1 d with
      | true =>
        rw [hq] at hE
        have hq' := Nat.eq_of_beq_eq_true hq
        subst hq'
        simp only [get, hd', Bool.false_eq_true, if_false]
        exact ih hE
      | false =>
        rw [hq] at hE
        simp only [Bool.not_false, if_true, get] at hE ⊢
        cases hqt : Nat.beq q1 t with
        | true => rw [hqt] at hE; exact hE
        | false => rw [hqt] at hE; exact ih hE
  simp only [AEnv.put, get, hd', Bool.false_eq_true, if_false]
  exact key2 _ ht

/-- x[a:c:m] of a whole own row, whose value is not wanted. -/
theorem V1.slice3 {d t e n : Nat} {x lo hi mx : Operand} {b len : Nat} {kl kh km : IntKind} {a c q : Int} (ho : o.op = .slice t x (some lo) (some hi) (some mx)) (hd : o.dst = some d)
    (ht : elemSz Φ.P t = some (e, n)) (hx : aeval α x = some (.sref b n 0 len)) (hlo : aeval α lo = some (.int kl a)) (hhi : aeval α hi = some (.int kh c)) (hmx : aeval α mx = some (.int km q)) (h : 0 ≤ a ∧ a ≤ c ∧ c ≤ q ∧ q ≤ (len : Int)) (hn : d < α.n)
    (hk : K ⟨α.n, α.E.filter (fun p => !(Nat.beq p.1 d)), α.H⟩) : V1 Φ o α K :=
  V1.gone hd hn (fun S ac w he => by
    have e1 := he.eval hx
    unfold Rep at e1
    obtain ⟨hu, inf, hinf, hsn⟩ := elemSz_spec ht
    rcases e1 with ⟨_, ⟨rfl, ⟨a', hv⟩, _⟩ | ⟨cap, cc, hv, hcap, hb, hfit⟩⟩
    · have hb := run_sliceBounds3 (sl := true) (len := 0) (cap := 0) he hlo hhi hmx h.1 h.2.1 h.2.2.1 h.2.2.2
      exact ⟨_, by simp [execOp, ho, hv, Instr.sliceAt, Instr.slice, run_underlying hu, hb, run_sizeOf' hinf, hsn]; rfl⟩
    · have hb := run_sliceBounds3 (sl := true) (len := len) (cap := cap) he hlo hhi hmx h.1 h.2.1 h.2.2.1 (by omega)
      exact ⟨_, by simp [execOp, ho, hv, Instr.sliceAt, Instr.slice, run_underlying hu, hb, run_sizeOf' hinf, hsn]; rfl⟩) hk

theorem V1.slice3N {d t e n : Nat} {x lo hi mx : Operand} {kl kh km : IntKind} {a c q : Int} (hl : l = []) (ho : o.op = .slice t x (some lo) (some hi) (some mx)) (hd : o.dst = some d)
    (ht : elemSz Φ.P t = some (e, n)) (hx : aeval α x = some .nils) (hlo : aeval α lo = some (.int kl a)) (hhi : aeval α hi = some (.int kh c)) (hmx : aeval α mx = some (.int km q)) (h : 0 ≤ a ∧ a ≤ c ∧ c ≤ q ∧ q ≤ (l.length : Int)) (hn : d < α.n)
    (hk : K ⟨α.n, α.E.filter (fun p => !(Nat.beq p.1 d)), α.H⟩) : V1 Φ o α K :=
  V1.gone hd hn (fun S ac w he => by
    have hv := he.eval hx
    unfold Rep at hv
    subst hl
    obtain ⟨hu, inf, hinf, hsn⟩ := elemSz_spec ht
    have hb := run_sliceBounds3 (sl := true) (len := 0) (cap := 0) he hlo hhi hmx h.1 h.2.1 h.2.2.1 h.2.2.2
    exact ⟨_, by simp [execOp, ho, hv, Instr.sliceAt, Instr.slice, run_underlying hu, hb, run_sizeOf' hinf, hsn]; rfl⟩) hk

theorem V1.clearNils {t e : Nat} {c : Call} {x : Operand} (hl : l = []) (ho : o.op = .call c) (hc : c.callee = .builtin .clear) (hca : c.args = #[x]) (hct : c.argTypes = #[t]) (hd : o.dst = none)
    (hu : Φ.P.underlying t = some (.slice e)) (hx : aeval α x = some .nils) (hk : K α) : V1 Φ o α K := by
  intro a w ⟨S, he⟩
  have hv := he.eval hx
  unfold Rep at hv
  obtain ⟨cal, cargs, cty⟩ := c
  simp only at hc hca hct
  subst hc hca hct
  have hrun : (execOp a.eval o).run Φ.P w = .ok (.value (.tuple #[])) w := by
    simp [execOp, ho, resolve, invoke, builtin, Builtin.clear_, run_underlying hu, hv]
  unfold Oper.wp
  rw [hrun, Oper.upon_value, hd]
  exact ⟨_, hk, S, he⟩

theorem seg_set_self {l : List β} {off : Nat} {z : β} : l.take off ++ List.replicate 0 z ++ l.drop (off + 0) = l := by simp

/-- A part of an own row is cleared. -/
theorem V1.clearSw {t e n : Nat} {c : Call} {x : Operand} {b off len k : Nat} {z : β} {z' : PV} (ho : o.op = .call c) (hc : c.callee = .builtin .clear) (hca : c.args = #[x]) (hct : c.argTypes = #[t]) (hd : o.dst = none)
    (ht : elemSz Φ.P t = some (e, n)) (hz : zeroK Φ.P e = some (n, z')) (hle : PV.Le z' (f z)) (hx : aeval α x = some (.sref b n off len)) (hb : α.H[k]? = some (b, ⟨n, l.map f⟩)) (hfit : off + len ≤ l.length)
    (hk : K ⟨α.n, α.E, α.H.set k (b, ⟨n, (l.take off ++ List.replicate len z ++ l.drop (off + len)).map f⟩)⟩) : V1 Φ o α K := by
  intro a w ⟨S, he⟩
  obtain ⟨hu, i, hi, hsn⟩ := elemSz_spec ht
  obtain ⟨i', zv, q1, q2, q3, q4⟩ := zeroK_spec hz
  rw [hi] at q1
  cases q1
  have hxr := he.eval hx
  unfold Rep at hxr
  obtain ⟨hob, hnS, hfr⟩ := he.objK hb
  have hn0 : 0 < n := hob.1
  obtain ⟨cap, a0, hv, ha0⟩ : ∃ cap a0, a.eval x = .slice a0 len cap ∧ (len ≠ 0 → a0 = some ⟨b, off * n, none⟩) := by
    rcases hxr.2 with ⟨h0, ⟨a', hv⟩, _⟩ | ⟨cap, c', hv, _⟩
    · exact ⟨0, a', by rw [h0]; exact hv, fun h => absurd h0 h⟩
    · exact ⟨cap, _, hv, fun _ => rfl⟩
  obtain ⟨cal, cargs, cty⟩ := c
  simp only at hc hca hct
  subst hc hca hct
  by_cases h0 : len = 0
  · subst h0
    have hrun : (execOp a.eval o).run Φ.P w = .ok (.value (.tuple #[])) w := by
      cases a0 <;> simp [execOp, ho, resolve, invoke, builtin, Builtin.clear_, run_underlying hu, hv]
    unfold Oper.wp
    rw [hrun, Oper.upon_value, hd]
    refine ⟨_, hk, S, ?_⟩
    rw [seg_set_self]
    have : α.H.set k (b, ⟨n, l.map f⟩) = α.H := by
      apply List.ext_getElem?
      intro j
      rw [List.getElem?_set]
      split
      · rename_i e; subst e
        obtain ⟨h5, h6⟩ := List.getElem?_eq_some_iff.1 hb
        simp [h5, h6]
      · rfl
    rw [this]
    exact he
  · obtain ⟨w', h1, h2, h3⟩ := hob.storeMany hnS (P := Φ.P) (off := off) (ys := List.replicate len (f z)) (vs := List.replicate len zv) (by intro v hv; rw [List.eq_of_mem_replicate hv]; exact q3)
      (Reps.mk (by simp) fun j x u hx hu => by
        rw [List.eq_of_mem_replicate (List.mem_of_getElem? hx), List.eq_of_mem_replicate (List.mem_of_getElem? hu)]
        exact hle _ _ _ _ (q4 _ _ _)) (by simpa using hfit)
    simp only [List.length_replicate] at h3
    have hrun : (execOp a.eval o).run Φ.P w = .ok (.value (.tuple #[])) w' := by
      rw [ha0 h0] at hv
      have hzv : (zeroValue e).run Φ.P w = .ok zv w := by simp [zeroValue, typeInfo, program, Sem.run, Sem.bind, Bind.bind, Pure.pure, hi, q2]
      have h4 : (storeCells ⟨b, off * n, none⟩ (Builtin.zeroCells zv.cells len).toList).run Φ.P w = .ok () w' := by rw [zero_flat q3 hn0]; exact h1
      obtain ⟨len', rfl⟩ : ∃ q, len = q + 1 := ⟨len - 1, by omega⟩
      simp [execOp, ho, resolve, invoke, builtin, Builtin.clear_, run_underlying hu, hv, hzv, h4]
    unfold Oper.wp
    rw [hrun, Oper.upon_value, hd]
    refine ⟨_, hk, S, ?_⟩
    have := he.turned hb h2 h3
    simp only [List.map_append, List.map_take, List.map_replicate, List.map_drop]
    exact this

/-- append to the first elements of an own row, which has room. -/
theorem V1.appendIn {d t u e n : Nat} {c : Call} {sx xx : Operand} {b i k : Nat} {p : PV} (ho : o.op = .call c) (hc : c.callee = .builtin .append) (hca : c.args = #[sx, xx]) (hct : c.argTypes = #[t, u]) (hd : o.dst = some d)
    (ht : elemSz Φ.P t = some (e, n)) (hs : aeval α sx = some (.sref b n 0 i)) (hb : α.H[k]? = some (b, ⟨n, l.map f⟩))
    (hx : aeval α xx = some p) (hsrc : SrcOf Φ.P α u n p (m.map f)) (hfit : i + m.length ≤ l.length) (hn : d < α.n)
    (hk : K ⟨α.n, (d, .sref b n 0 (i + m.length)) :: α.E, α.H.set k (b, ⟨n, (l.take i ++ m ++ l.drop (i + m.length)).map f⟩)⟩) : V1 Φ o α K := by
  intro a w ⟨S, he⟩
  obtain ⟨hu, inf, hinf, hsn⟩ := elemSz_spec ht
  obtain ⟨⟨D, hD, hDi⟩, hsrc⟩ := hsrc
  obtain ⟨us, hgu, hru, hlu, hfu⟩ := hsrc Φ S a w _ he (he.eval hx)
  have hul : us.length = m.length := by have := hru.length; simpa using this
  have hsr := he.eval hs
  unfold Rep at hsr
  obtain ⟨hob, hnS, hfr⟩ := he.objK hb
  have hob' := hob
  obtain ⟨hn0, cc, vs, ⟨T, fz, hcc, hfz⟩, hl, hg, hr, hcells⟩ := hob'
  have hvl : vs.length = l.length := by have := hr.length; simpa using this
  simp only at hl hn0
  obtain ⟨w', h1, h2, h3⟩ := hob.storeMany hnS (P := Φ.P) (off := i) (ys := m.map f) (vs := us) hgu hru (by simp; omega)
  -- the room there is
  obtain ⟨cap, a0, hv, hcap, ha0, hrep⟩ : ∃ cap a0, a.eval sx = .slice a0 i cap ∧ i + us.length ≤ cap ∧ (us.length ≠ 0 → a0 = some ⟨b, 0, none⟩) ∧ Rep w' S true (.sref b n 0 (i + us.length)) (.slice a0 (i + us.length) cap) := by
    have hsz : ∀ cap c', Blk w b c' → (0 + cap) * n = c'.size → l.length ≤ cap := by
      intro cap c' hb' hz
      obtain ⟨T', fz', hcc', _⟩ := hb'
      rw [hcc] at hcc'
      cases hcc'
      rw [Nat.zero_add] at hz
      rw [← hz, hvl] at hl
      exact Nat.le_of_mul_le_mul_right hl hn0
    rcases hsr.2 with ⟨h0, ⟨a', hv⟩, c', hb', hz⟩ | ⟨cap, c', hv, hcap, hb', hz⟩
    · have := hsz 0 c' hb' (by simpa using hz)
      have hm0 : us.length = 0 := by omega
      obtain ⟨c2, hb2, e2⟩ := h2.shape b c' hb'
      refine ⟨0, a', by rw [h0]; exact hv, by omega, fun h => absurd hm0 h, ?_⟩
      unfold Rep
      exact ⟨rfl, .inl ⟨by omega, ⟨a', by rw [h0, hm0]⟩, c2, hb2, by rw [e2]; exact hz⟩⟩
    · have := hsz cap c' hb' hz
      obtain ⟨c2, hb2, e2⟩ := h2.shape b c' hb'
      simp only [Nat.zero_mul] at hv
      refine ⟨cap, _, hv, by omega, fun _ => rfl, ?_⟩
      unfold Rep
      exact ⟨rfl, .inr ⟨cap, c2, by simp, by omega, hb2, by rw [e2]; exact hz⟩⟩
  have hrun : (Builtin.append_ #[t, u] o.type #[.slice a0 i cap, a.eval xx]).run Φ.P w = .ok (.slice a0 (i + us.length) cap) w' := by
    by_cases h0 : us.length = 0
    · have hus : us = [] := List.eq_nil_of_length_eq_zero h0
      subst hus
      have hw : w' = w := by
        simp only [flatV, List.flatMap_nil, storeCells, Sem.run_pure, Result.ok.injEq, true_and] at h1
        exact h1.symm
      subst hw
      exact run_append_room' (ty := o.type) hu hD hDi hinf (sLen := i) (news := flatV []) hlu (by rw [hsn]; exact hfu Φ.P _ rfl) hcap (by cases a0 <;> simp [flatV, storeCells])
    · have e1 := ha0 h0
      subst e1
      exact run_append_room' (ty := o.type) hu hD hDi hinf (sLen := i) (news := flatV us) hlu (by rw [hsn]; exact hfu Φ.P w rfl) hcap (by simp only [Addr.add_none, Nat.zero_add, hsn]; exact h1)
  rw [← hv] at hrun
  have hop := run_appendOp ho hc hca hct hrun
  unfold Oper.wp
  rw [hop, Oper.upon_value, hd]
  rw [← hul] at hk
  refine ⟨_, hk, S, ?_⟩
  have h4 := he.turned hb h2 h3
  have h5 := Env.put h4 (d := d) hn hrep
  simp only [List.map_append, List.map_take, List.map_drop]
  exact h5

/-- An own row is cut short. -/
theorem Keeps.cut (t k q : Nat) {b n : Nat} (ht : get α.E t = some (.sref b n 0 q)) (hb : α.H[k]? = some (b, ⟨n, l.map f⟩)) (hq : q ≤ l.length) :
    Keeps Φ α ⟨α.n, (t, .sref b n 0 (l.take q).length) :: α.E, α.H.set k (b, ⟨n, (l.take q).map f⟩)⟩ := by
  rintro a w ⟨S, he⟩
  obtain ⟨hob, hnS, hfr⟩ := he.objK hb
  have hcut : ObjAt w S b ⟨n, (l.take q).map f⟩ := by
    obtain ⟨hn0, c, us, hblk, hl, hg, hr, hc⟩ := hob
    have hlen : us.length = l.length := by have := hr.length; simpa using this
    refine ⟨hn0, c, us.take q, hblk, ?_, fun u hu => hg u (List.mem_of_mem_take hu), ?_, fun i u hu j hj => ?_⟩
    · have h1 : (us.take q).length ≤ us.length := by simp; omega
      exact Nat.le_trans (Nat.mul_le_mul_right _ h1) hl
    · rw [List.map_take]; exact hr.take q
    · rw [List.getElem?_take] at hu
      split at hu
      · exact hc i u hu j hj
      · cases hu
  have h1 := he.turned (ob' := ⟨n, (l.take q).map f⟩) hb (Ext.refl _ w) hcut
  refine ⟨S, { h1 with slots := fun s x hx => ?_ }⟩
  have e : (l.take q).length = q := by rw [List.length_take]; omega
  rw [e] at hx
  simp only [get] at hx
  split at hx
  · rename_i e2
    have e2 := Nat.eq_of_beq_eq_true e2
    subst e2
    cases hx
    exact he.slots t _ ht
  · exact he.slots s x hx
end

/-- A loop that is left at once. -/
theorem iterO_now {S E : Type} {step : S → Option (S ⊕ E)} {e : E} {s : S} (h : step s = some (.inr e)) : iterO step s = some e := by
  unfold iterO
  rw [show rounds = (rounds - 1) + 1 from by unfold rounds; omega]
  simp only [loopO, h]

/-- An optional block goes behind all others. -/
theorem Keeps.optBack {Φ : Ctx} {α : AEnv} {n : Nat} {ob : Option Nat} {xs : List PV} {H1 H2 : List (Nat × Obj')} (hH : α.H = H1 ++ (optH n ob xs ++ H2)) : Keeps Φ α ⟨α.n, α.E, (H1 ++ H2) ++ optH n ob xs⟩ := by
  obtain ⟨N, E, H⟩ := α
  simp only at hH ⊢
  subst hH
  rintro a w ⟨S, he⟩
  have hp : List.Perm (H1 ++ (optH n ob xs ++ H2)) ((H1 ++ H2) ++ optH n ob xs) := by
    rw [List.append_assoc]
    exact List.Perm.append_left H1 List.perm_append_comm
  exact ⟨S, { he with objs := fun b o hb => he.objs b o (hp.mem_iff.2 hb), nodup := (hp.map _).nodup_iff.1 he.nodup }⟩

section
variable {Φ : Ctx} {α : AEnv} {K : AEnv → Prop} {o : Oper} {β : Type} {f : β → PV} {l m : List β}
/-- A call that is given an optional own block. -/
theorem V1.callO {d g n : Nat} {c : Call} {ps : List PV} (τ : Nat) (Bw : List Nat) (qs : List PV) {ob : Option Nat} {xs : List PV} (H1 : List (Nat × Obj')) {rn : Nat} {R : PV → List (Nat × Obj') → Prop} (ho : o.op = .call c) (hc : c.callee = .value (.func g)) (hd : o.dst = some d) (hok : callOK Φ.P g = true)
    (hps : argsPV α c.args.toList = some ps) (hp : α.H = H1 ++ optH n ob xs) (hl : Lends α τ Bw ps qs) (hbw : ∀ b, b ∈ Bw → b ∈ H1.map Prod.fst) (hF : Does Φ.P g qs (optH n ob xs) rn R) (hrn : rn = Φ.rn)
    (hno : Bw = [] ∨ (τ ≠ rn ∧ ∀ x H', R x H' → x.no τ = true ∧ ∀ b ob, (b, ob) ∈ H' → PV.noL τ ob.xs = true)) (hn : d < α.n) (hk : ∀ x H', R x H' → K ⟨α.n, (d, x) :: α.E, H' ++ H1⟩) : V1 Φ o α K :=
  V1.callG hd hn (run_call ho hc hok hps) (by rw [hp]; exact List.perm_append_comm) hl hbw hF (.inl hrn) hno hk

theorem V1.appendOpt {d t u e n : Nat} {c : Call} {sx xx : Operand} {p z : PV} {ob : Option Nat} (H1 : List (Nat × Obj')) (hl : ob = none → l = []) (ho : o.op = .call c) (hc : c.callee = .builtin .append) (hca : c.args = #[sx, xx]) (hct : c.argTypes = #[t, u]) (hd : o.dst = some d)
    (ht : elemSz Φ.P t = some (e, n)) (hby : elemBy Φ.P t = true) (hz : zeroK Φ.P e = some (n, z)) (h0n : Nat.blt 0 n = true) (hs : aeval α sx = some (optS n ob l.length)) (hH : α.H = H1 ++ optH n ob (l.map f))
    (hx : aeval α xx = some p) (hsrc : SrcOf Φ.P α u n p (m.map f)) (h0 : Nat.blt 0 m.length = true) (hfit : (l.length : Int) + (m.length : Int) ≤ 2147483648) (hn : d < α.n)
    (hk : ∀ b', K ⟨α.n, (d, .sref b' n 0 (l ++ m).length) :: α.E, (b', ⟨n, (l ++ m).map f⟩) :: H1⟩) : V1 Φ o α K := by
  cases ob with
  | none =>
    have e1 : α.H = H1 := by rw [hH]; simp [optH]
    refine V1.appendNilE (l := l) (m := m) (f := f) (hl rfl) ho hc hca hct hd ht hby hz h0n hs hx hsrc h0 hfit hn fun b' => ?_
    rw [e1]; exact hk b'
  | some b =>
    have e1 : α.H[H1.length]? = some (b, ⟨n, l.map f⟩) := by rw [hH]; simp [optH]
    have e2 : α.H.eraseIdx H1.length = H1 := by rw [hH]; simp [optH, List.eraseIdx_append_of_length_le]
    refine V1.appendMap (k := H1.length) (l := l) (m := m) (f := f) ho hc hca hct hd ht hby hz hs e1 hx hsrc hfit hn fun b' => ?_
    rw [e2]; exact hk b'
end

theorem FrzH.same {b n len ρ : Nat} {xs : List PV} : ∀ {H : List (Nat × Obj')}, FrzH b n len ρ xs H H
  | [] => rfl
  | (c, o) :: H => ⟨o, H, rfl, rfl, .inl rfl, FrzH.same⟩

/-- A list that is made and kept from now on. -/
theorem V1.buildFrz {Φ : Ctx} {α : AEnv} {K : AEnv → Prop} {o : Oper} {β : Type} {f : β → PV} (l : List β) {d t e n len : Nat} {parts : Array (Nat × Operand)} {z : PV} {ps : List (Nat × PV)} (hro : ∀ x, (f x).ro = true) (hI : ∀ c, Φ.I c → c ∈ α.H.map Prod.fst) (ho : o.op = .buildSlice t len parts) (hd : o.dst = some d)
    (ht : elemSz Φ.P t = some (e, n)) (hz : zeroK Φ.P e = some (n, z)) (hps : partsPV α parts.toList = some ps) (hidx : (ps.map Prod.fst) = List.range len) (hg : ps.all (fun x => x.2.good n) = true)
    (h0 : Nat.blt 0 n = true) (hsz : Nat.ble (len * n) 16777216 = true) (hxs : ps.map Prod.snd = l.map f) (hlen : len = l.length) (hn : d < α.n)
    (hk : K ⟨α.n, (d, .vl Φ.rn n (l.map f)) :: α.E, α.H⟩) : V1 Φ o α K := by
  intro a w he
  refine Oper.wp_mono ?_ (V1.buildSliceT (K := fun α' => ∃ b, α' = ⟨α.n, (d, .sref b n 0 l.length) :: α.E, (b, ⟨n, l.map f⟩) :: α.H⟩) l ho hd ht hz hps hidx hg h0 hsz hxs hlen hn (fun b => ⟨b, rfl⟩) a w he)
  rintro a' w' ⟨α', ⟨b, rfl⟩, h⟩
  refine ⟨_, hk, ?_⟩
  have hg : get ((d, PV.sref b n 0 l.length) :: α.E) d = some (PV.sref b n 0 l.length) := by
    simp only [get, Nat.beq_refl, if_true]
  obtain ⟨S, h2⟩ := Keeps.freezeG (Φ := Φ) (α := ⟨α.n, (d, .sref b n 0 l.length) :: α.E, (b, ⟨n, l.map f⟩) :: α.H⟩) (f := f) (l := l) 0 Φ.rn [(d, .vl Φ.rn n (l.map f))] α.H rfl hro ⟨⟨_, hg, .here⟩, trivial⟩ FrzH.same rfl hI a' w' h
  refine ⟨S, { h2 with slots := fun t x hx => h2.slots t x ?_ }⟩
  have key : get ((d, PV.vl Φ.rn n (l.map f)) :: α.E) t = get ([(d, PV.vl Φ.rn n (l.map f))] ++ (d, PV.sref b n 0 l.length) :: α.E) t := by
    simp only [List.cons_append, List.nil_append, get]
    cases Nat.beq d t <;> rfl
  exact key ▸ hx

/-- The list of the last result, frozen. -/
theorem Keeps.frzTop {Φ : Ctx} {β : Type} {f : β → PV} {l : List β} {N d b n : Nat} {E : List (Nat × PV)} {H : List (Nat × Obj')} (hro : ∀ x, (f x).ro = true) (hI : ∀ c, Φ.I c → c ∈ H.map Prod.fst) :
    Keeps Φ ⟨N, (d, .sref b n 0 l.length) :: E, (b, ⟨n, l.map f⟩) :: H⟩ ⟨N, (d, .vl Φ.rn n (l.map f)) :: E, H⟩ := by
  intro a w h
  have hg : get ((d, PV.sref b n 0 l.length) :: E) d = some (PV.sref b n 0 l.length) := by
    simp only [get, Nat.beq_refl, if_true]
  obtain ⟨S, h2⟩ := Keeps.freezeG (Φ := Φ) (α := ⟨N, (d, .sref b n 0 l.length) :: E, (b, ⟨n, l.map f⟩) :: H⟩) (f := f) (l := l) 0 Φ.rn [(d, .vl Φ.rn n (l.map f))] H rfl hro ⟨⟨_, hg, .here⟩, trivial⟩ FrzH.same rfl hI a w h
  refine ⟨S, { h2 with slots := fun t x hx => h2.slots t x ?_ }⟩
  have key : get ((d, PV.vl Φ.rn n (l.map f)) :: E) t = get ([(d, PV.vl Φ.rn n (l.map f))] ++ (d, PV.sref b n 0 l.length) :: E) t := by
    simp only [List.cons_append, List.nil_append, get]
    cases Nat.beq d t <;> rfl
  rw [← key]
  exact hx

/-- A block that is no more spoken of. -/
theorem Keeps.dropAt {Φ : Ctx} {α : AEnv} (k : Nat) {H' : List (Nat × Obj')} (h : α.H.eraseIdx k = H') : Keeps Φ α ⟨α.n, α.E, H'⟩ := by
  subst h
  intro a w he
  exact HeapSub (List.eraseIdx_sublist _ _) he

/-- What an operation gives may be weakened. -/
theorem V1.permK {Φ : Ctx} {α : AEnv} {K : AEnv → Prop} {o : Oper} (h : V1 Φ o α (fun α' => ∃ α'', K α'' ∧ Keeps Φ α' α'')) : V1 Φ o α K := by
  intro a w he
  refine Oper.wp_mono ?_ (h a w he)
  rintro a' w' ⟨α', ⟨α'', hk, hkeep⟩, he'⟩
  exact ⟨α'', hk, hkeep a' w' he'⟩

/-- An optional block goes ahead of all others. -/
theorem Keeps.optFront {Φ : Ctx} {α : AEnv} {n : Nat} {ob : Option Nat} {xs : List PV} {H1 : List (Nat × Obj')} (hH : α.H = H1 ++ optH n ob xs) : Keeps Φ α ⟨α.n, α.E, optH n ob xs ++ H1⟩ := by
  obtain ⟨N, E, H⟩ := α
  simp only at hH ⊢
  subst hH
  rintro a w ⟨S, he⟩
  have hp : List.Perm (H1 ++ optH n ob xs) (optH n ob xs ++ H1) := List.perm_append_comm
  exact ⟨S, { he with objs := fun b o hb => he.objs b o (hp.mem_iff.2 hb), nodup := (hp.map _).nodup_iff.1 he.nodup }⟩

theorem set_upd {β : Type} [Inhabited β] {l : List β} {i : Nat} {x1 x2 : β} (g : β → β) (h : i < l.length) (hg : g x1 = x2) : (l.set i x1).set i (g ((l.set i x1).getD i default)) = l.set i x2 := by
  rw [List.set_set, show (l.set i x1).getD i default = x1 by simp [List.getD, h], hg]
end Go.VS
