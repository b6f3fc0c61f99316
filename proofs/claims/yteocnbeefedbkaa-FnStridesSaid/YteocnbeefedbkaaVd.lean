/-
  Operations that write or make memory in the symbolic environment: stores into own blocks, new variables, struct and slice literals. Over any program. Conditions: a store goes to an own block; a literal lists all its elements in order.
-/
import Derived.Test.YteocnbeefedbkaaVc
set_option linter.unusedSimpArgs false
set_option linter.unusedVariables false
namespace Go.VS

/-! ### Stores -/
theorem setRow_other (w : World) (g k : Nat) (cs : Array Value) (h : k ≠ g) : (w.setRow g cs).heap[k]? = w.heap[k]? := by
  simp only [World.setRow, Array.getElem?_modify]
  rw [if_neg (by omega)]

theorem setRow_size (w : World) (g : Nat) (cs : Array Value) : (w.setRow g cs).heap.size = w.heap.size := by
  simp [World.setRow]

theorem run_storeCells_in (P : Program) (g o : Nat) (t : TypeId) (fz : Nat × Nat) : ∀ (vs : List Value) (i : Nat) (cur : Array Value) (w : World), w.heap[g]? = some (.cells cur t fz) → (fz.2 ≤ fz.1 ∨ cur.size ≤ fz.1 ∧ MarkOK) → o + i + vs.length ≤ cur.size → (∀ v ∈ vs, v.oneCell' = true) →
    (storeCells ⟨g, o, none⟩ vs i).run P w = .ok () (w.setRow g (cur.toList.take (o + i) ++ vs ++ cur.toList.drop (o + i + vs.length)).toArray)
  | [], i, cur, w, hg, _, _, _ => by
    simp only [storeCells, List.append_nil, List.length_nil, Nat.add_zero, List.take_append_drop, Array.toArray_toList]
    rw [setRow_self w g cur t fz hg]
    rfl
  | v :: rest, i, cur, w, hg, hfz, hl, h1 => by
    have hi : o + i < cur.size := by simp at hl; omega
    have hadd : (⟨g, o, none⟩ : Addr).add i = ⟨g, o + i, none⟩ := Addr.add_none g o i
    have hcell : w.cell? ⟨g, o + i, none⟩ = some cur[o + i] := by simp [World.cell?, hg, hi]
    have hfro : w.frozen? ⟨g, o + i, none⟩ = false := by
      obtain ⟨lo, hi'⟩ := fz
      simp only [World.frozen?, hg, Bool.and_eq_false_iff, decide_eq_false_iff_not]
      simp only at hfz
      rcases hfz with hfz | hfz
      · by_cases h : lo ≤ o + i
        · right; omega
        · left; omega
      · left; have := hfz.1; omega
    have hst : (store ((⟨g, o, none⟩ : Addr).add i) v).run P w = .ok () (w.setRow g (cur.setIfInBounds (o + i) v)) := by
      rw [hadd, run_store P w _ v _ (h1 v (by simp)), hcell]
      simp [hfro, setCell_eq_setRow w g (o + i) cur t fz v hg]
    have ih := run_storeCells_in P g o t fz rest (i + 1) (cur.setIfInBounds (o + i) v) (w.setRow g (cur.setIfInBounds (o + i) v)) (setRow_heap w g cur _ t _ hg) (by simpa using hfz) (by simp at hl ⊢; omega) (fun x hx => h1 x (by simp [hx]))
    simp only [storeCells, Sem.run_bind, hst, Result.andThen_ok, ih, setRow_setRow]
    congr 3
    have e := list_seg_step cur.toList (o + i) v rest (by simp at hl ⊢; omega)
    simpa [Array.toList_setIfInBounds, Nat.add_assoc] using e

theorem Ext.setRow {w : World} {g : Nat} {c c' : Array Value} {T : TypeId} {fz : Nat × Nat} (hg : w.heap[g]? = some (.cells c T fz)) (hs : c'.size = c.size) : Ext (fun k => k = g) w (w.setRow g c') where
  os := rfl
  tape := rfl
  output := rfl
  size := by rw [setRow_size]; exact Nat.le_refl _
  block k _ hk := setRow_other w g k c' hk
  shape k c0 h := by
    obtain ⟨T0, fz0, h1, h2⟩ := h
    by_cases hk : k = g
    · subst hk
      rw [hg] at h1
      cases h1
      exact ⟨c', ⟨T, fz, setRow_heap w k c c' T fz hg, by rw [hs]; exact h2⟩, hs⟩
    · exact ⟨c0, ⟨T0, fz0, by rw [setRow_other w g k c' hk]; exact h1, h2⟩, rfl⟩

theorem idx_apart {i i0 n j j0 : Nat} (h : i0 ≠ i) (hj : j < n) (hj0 : j0 < n) : i0 * n + j0 ≠ i * n + j := by
  rcases Nat.lt_or_gt_of_ne h with h | h
  · have := Nat.mul_le_mul_right n (show i0 + 1 ≤ i from h)
    rw [Nat.add_mul] at this
    omega
  · have := Nat.mul_le_mul_right n (show i + 1 ≤ i0 from h)
    rw [Nat.add_mul] at this
    omega

theorem seg_get (c vs : List Value) (o k : Nat) (h : o + vs.length ≤ c.length) : (c.take o ++ vs ++ c.drop (o + vs.length))[k]? = if o ≤ k ∧ k < o + vs.length then vs[k - o]? else c[k]? := by
  have hl : (c.take o).length = o := by simp; omega
  by_cases h1 : k < o
  · rw [if_neg (by omega), List.append_assoc, List.getElem?_append_left (by omega), List.getElem?_take, if_pos h1]
  · by_cases h2 : k < o + vs.length
    · rw [if_pos ⟨by omega, h2⟩, List.append_assoc, List.getElem?_append_right (by omega), hl, List.getElem?_append_left (by omega)]
    · rw [if_neg (by omega), List.getElem?_append_right (by simp; omega), List.getElem?_drop]
      congr 1
      simp
      omega

/-- An element of an own block gets new cells from place j on. -/
theorem ObjAt.store {w : World} {S : Nat → Nat → Prop} {b : Nat} {ob : Obj'} (h : ObjAt w S b ob) (hb : ∀ ρ, ¬ S ρ b) {P : Program} {i j : Nat} {y y' : PV} (hy : ob.xs[i]? = some y)
    {vs : List Value} (hv1 : ∀ v ∈ vs, v.oneCell' = true) (hj : j + vs.length ≤ ob.n)
    (hu : ∀ u, Good ob.n u → Rep w S true y u → ∃ u', Good ob.n u' ∧ Rep w S true y' u' ∧ ∀ j0, u'.cells[j0]? = if j ≤ j0 ∧ j0 < j + vs.length then vs[j0 - j]? else u.cells[j0]?) :
    ∃ w', (storeCells ⟨b, i * ob.n + j, none⟩ vs).run P w = .ok () w' ∧ Ext (fun k => k = b) w w' ∧ ObjAt w' S b ⟨ob.n, ob.xs.set i y'⟩ := by
  obtain ⟨hn, c, us, ⟨T, fz, hg, hf⟩, hl, hgd, hr, hc⟩ := h
  obtain ⟨u, h1, h2⟩ := hr.get hy
  obtain ⟨u', hg', hr', hcells⟩ := hu u (hgd u (List.mem_of_getElem? h1)) h2
  have hlt := (List.getElem?_eq_some_iff.1 h1).1
  have hroom : i * ob.n + ob.n ≤ c.size := by
    have := Nat.mul_le_mul_right ob.n (show i + 1 ≤ us.length from hlt)
    rw [Nat.add_mul] at this
    omega
  have hfit : i * ob.n + j + vs.length ≤ c.size := by omega
  have hrun := run_storeCells_in P b (i * ob.n + j) T fz vs 0 c w hg hf (by simpa using hfit) hv1
  simp only [Nat.add_zero] at hrun
  have hsz : (c.toList.take (i * ob.n + j) ++ vs ++ c.toList.drop (i * ob.n + j + vs.length)).toArray.size = c.size := by simp; omega
  have he := Ext.setRow (c' := (c.toList.take (i * ob.n + j) ++ vs ++ c.toList.drop (i * ob.n + j + vs.length)).toArray) hg hsz
  refine ⟨_, hrun, he, hn, _, us.set i u', ⟨T, fz, setRow_heap w b c _ T fz hg, by rw [hsz]; exact hf⟩, by rw [hsz]; simpa using hl, ?_, ?_, ?_⟩
  · intro v hv
    rcases List.mem_or_eq_of_mem_set hv with hv | rfl
    · exact hgd v hv
    · exact hg'
  · refine (hr.set i hr').mono (fun _ _ h => h) (fun ρ b' hb' => setRow_other _ _ _ _ (fun e => ?_)) id he.shape _ _
    subst e
    exact hb ρ hb'
  · intro i0 v hv j0 hj0
    simp only at hj0 hv ⊢
    rw [List.getElem?_toArray, seg_get _ _ _ _ (by simpa using hfit)]
    rw [List.getElem?_set] at hv
    by_cases hi : i = i0
    · subst hi
      rw [if_pos rfl, if_pos hlt] at hv
      cases hv
      rw [hcells j0]
      by_cases hin : j ≤ j0 ∧ j0 < j + vs.length
      · rw [if_pos hin, if_pos ⟨by omega, by omega⟩]
        congr 1
        omega
      · rw [if_neg hin, if_neg (by omega)]
        have := hc i u h1 j0 hj0
        simpa using this
    · rw [if_neg hi] at hv
      rw [if_neg]
      · have := hc i0 v hv j0 hj0
        simpa using this
      · rintro ⟨hx, hy'⟩
        have h3 : i0 * ob.n + j0 - (i * ob.n) < ob.n := by omega
        have h4 := idx_apart (n := ob.n) (j := i0 * ob.n + j0 - i * ob.n) (fun e => hi e.symm) h3 hj0
        omega

theorem run_storeAt {P : Program} {t n : Nat} {g : Bool} (ht : tyk P t = some (g, n)) {w w' : World} {A : Addr} {v : Value} (hv : v.cells.size = n) (h : (storeCells A v.cells.toList).run P w = .ok () w') :
    (Instr.storeAt t (.pointer (some A)) v).run P w = .ok () w' := by
  simp [Instr.storeAt, Instr.sureAddr, storeVar, run_sizeOf ht, hv, h]

/-- A component of a value tree is set. -/
def PV.setCell (y : PV) (j : Nat) (p : PV) : PV :=
  match y with
  | .agg cs => .agg (cs.set j p)
  | _ => p

/-- A tree of n cells. -/
def PV.good (n : Nat) : PV → Bool
  | .agg cs => Nat.beq cs.length n
  | .undef | .tup _ | .mp .. => false
  | .val v => Nat.beq n 1 && v.oneCell'
  | _ => Nat.beq n 1

section
variable {Φ : Ctx} {S : Nat → Nat → Prop} {α : AEnv} {a : Act} {w : World}

/-- A tree of one cell stands for a value of one cell. -/
theorem Rep.one {own : Bool} {p : PV} {v : Value} (h : Rep w S own p v) (hg : p.good 1 = true) (hna : ∀ cs, p ≠ .agg cs) : v.oneCell' = true ∧ v.cells = #[v] := by
  cases p <;> simp only [PV.good, Bool.false_eq_true] at hg
  case agg cs => exact absurd rfl (hna cs)
  case val u => unfold Rep at h; subst h; simp at hg; refine ⟨hg, ?_⟩; cases v <;> simp_all [Value.cells, Value.oneCell']
  case vl => unfold Rep at h; obtain ⟨_, us, _, _, ⟨_, a, cap, rfl⟩ | ⟨b, off, cap, _, rfl, _⟩⟩ := h <;> simp [Value.cells, Value.oneCell']
  case emp => unfold Rep at h; obtain ⟨a, rfl⟩ := h; simp [Value.cells, Value.oneCell']
  case pin => unfold Rep at h; obtain ⟨_, b, off, _, rfl, _⟩ := h; simp [Value.cells, Value.oneCell']
  case sref => unfold Rep at h; obtain ⟨_, ⟨_, ⟨a, rfl⟩, _⟩ | ⟨cap, c, rfl, _⟩⟩ := h <;> simp [Value.cells, Value.oneCell']
  case ref => unfold Rep at h; rw [h.2]; simp [Value.cells, Value.oneCell']
  case fn => unfold Rep at h; obtain ⟨us, rfl, _⟩ := h; simp [Value.cells, Value.oneCell']
  all_goals (unfold Rep at h; subst h; simp [Value.cells, Value.oneCell'])

theorem Rep.good {own : Bool} {p : PV} {v : Value} {n : Nat} (h : Rep w S own p v) (hg : p.good n = true) : Good n v := by
  by_cases hna : ∀ cs, p ≠ .agg cs
  · have hn : n = 1 := by
      cases p <;> simp [PV.good] at hg <;> first | exact hg | exact hg.1 | exact absurd rfl (hna _)
    subst hn
    obtain ⟨h1, h2⟩ := h.one hg hna
    refine ⟨by rw [h2]; rfl, fun j c hc => ?_⟩
    rw [h2] at hc
    cases j <;> simp at hc
    subst hc; exact h1
  · simp only [Classical.not_forall, Classical.not_not] at hna
    obtain ⟨cs, rfl⟩ := hna
    simp only [PV.good] at hg
    have hl := Nat.eq_of_beq_eq_true hg
    unfold Rep at h
    obtain ⟨us, rfl, h1, hr⟩ := h
    refine ⟨by simp [Value.cells, hr.length, hl], fun j c hc => h1 c ?_⟩
    simp [Value.cells] at hc
    exact List.mem_of_getElem? hc

theorem V1.stored {o : Oper} {t n : Nat} {g : Bool} {ax vx : Operand} {b m i j k : Nat} {ob : Obj'} {y y' p : PV} {K : AEnv → Prop} (ho : o.op = .store t ax vx) (hd : o.dst = none)
    (ht : tyk Φ.P t = some (g, n)) (ha : aeval α ax = some (.ref b m i j)) (hv : aeval α vx = some p) (hb : α.H[k]? = some (b, ob)) (hm : ob.n = m) (hy : ob.xs[i]? = some y)
    (hp : p.good n = true) (hj : j + n ≤ m)
    (hu : ∀ (w : World) (S : Nat → Nat → Prop) (u v : Value), Good m u → Rep w S true y u → Rep w S true p v → ∃ u', Good m u' ∧ Rep w S true y' u' ∧ ∀ j0, u'.cells[j0]? = if j ≤ j0 ∧ j0 < j + n then v.cells[j0 - j]? else u.cells[j0]?)
    (hk : K ⟨α.n, α.E, α.H.set k (b, ⟨m, ob.xs.set i y'⟩)⟩) : V1 Φ o α K := by
  intro a w ⟨S, he⟩
  have h1 := he.eval ha
  have h2 := he.eval hv
  have hgood := h2.good hp
  unfold Rep at h1
  obtain ⟨hob, hnS, hfr⟩ := he.objK hb
  subst hm
  have hlen : (a.eval vx).cells.toList.length = n := by simpa using hgood.1
  obtain ⟨w', hrun, hext, hnew⟩ := hob.store (P := Φ.P) (i := i) (j := j) (y' := y') hnS hy (vs := (a.eval vx).cells.toList)
    (fun v hv => by obtain ⟨q, hq, rfl⟩ := List.getElem_of_mem hv; exact hgood.2 q _ (by simp [hq])) (by omega)
    (fun u hgu hru => by
      obtain ⟨u', q1, q2, q3⟩ := hu w S u (a.eval vx) hgu hru h2
      exact ⟨u', q1, q2, fun j0 => by rw [q3 j0, hlen]; simp⟩)
  have hst := run_storeAt ht hgood.1 hrun
  unfold Oper.wp
  simp only [execOp, ho, h1.2, Sem.run_bind, hst, Result.andThen_ok, Sem.run_pure, Oper.upon_skip, hd]
  have hmem : b ∈ α.H.map Prod.fst := List.mem_map.2 ⟨(b, ob), List.mem_of_getElem? hb, rfl⟩
  have hfst : (α.H.set k (b, ⟨ob.n, ob.xs.set i y'⟩)).map Prod.fst = α.H.map Prod.fst := by
    rw [List.map_set]
    apply List.ext_getElem?
    intro q
    rw [List.getElem?_set]
    split
    · rename_i e
      subst e
      obtain ⟨h5, h6⟩ := List.getElem?_eq_some_iff.1 hb
      simp [h5, h6]
    · rfl
  have hnd := he.nodup
  refine ⟨_, hk, S, he.step hext (fun q _ hq => by rw [hq]; exact hmem) (fun _ _ h => h) (fun _ _ h => .inl h) ?_ (by rw [hfst]; exact he.nodup)⟩
  intro b' o' hm
  rw [List.mem_iff_getElem?] at hm
  obtain ⟨q, hq⟩ := hm
  rw [List.getElem?_set] at hq
  split at hq
  · rename_i e
    subst e
    have hlt := (List.getElem?_eq_some_iff.1 hb).1
    rw [if_pos hlt] at hq
    cases hq
    exact ⟨hnew, hnS, hfr⟩
  · rename_i e
    have hm' := List.mem_of_getElem? hq
    obtain ⟨hob', hnS', hfr'⟩ := he.objs b' o' hm'
    refine ⟨he.obj_step hext (fun q _ hq => by rw [hq]; exact hmem) (fun _ _ h => h) hm' ?_, hnS', hfr'⟩
    intro hbb
    subst hbb
    have hnd := he.nodup
    have h3 : (α.H.map Prod.fst)[k]? = some b' := by simp [hb]
    have h4 : (α.H.map Prod.fst)[q]? = some b' := by simp [hq]
    have hlt3 := (List.getElem?_eq_some_iff.1 h3).1
    exact e ((List.getElem_inj hnd).1 ((List.getElem?_eq_some_iff.1 h3).2.trans (List.getElem?_eq_some_iff.1 h4).2.symm))

/-- One cell of an element is stored. -/
theorem V1.storeRef {o : Oper} {t : Nat} {ax vx : Operand} {b m i j k : Nat} {ob : Obj'} {y p : PV} {K : AEnv → Prop} (ho : o.op = .store t ax vx) (hd : o.dst = none)
    (ht : tyk Φ.P t = some (false, 1)) (ha : aeval α ax = some (.ref b m i j)) (hv : aeval α vx = some p) (hb : α.H[k]? = some (b, ob)) (hm : ob.n = m) (hy : ob.xs[i]? = some y)
    (hp : p.good 1 = true) (hp' : p.isAgg 1 = false) (hg : y.good m = true) (hj : Nat.blt j m = true)
    (hk : K ⟨α.n, α.E, α.H.set k (b, ⟨m, ob.xs.set i (y.setCell j p)⟩)⟩) : V1 Φ o α K := by
  have hj : j < m := by simpa [Nat.blt, Nat.lt_iff_add_one_le] using hj
  refine V1.stored ho hd ht ha hv hb hm hy hp hj (fun w S u v hgu hru hrv => ?_) hk
  have hna : ∀ cs, p ≠ .agg cs := by
    rintro cs rfl
    simp only [PV.good, PV.isAgg] at hp hp'
    rw [hp] at hp'
    cases hp'
  obtain ⟨hone, hcells⟩ := hrv.one hp hna
  by_cases hya : ∃ cs, y = .agg cs
  · obtain ⟨cs, rfl⟩ := hya
    unfold Rep at hru
    obtain ⟨us, rfl, h1, hr⟩ := hru
    have hul : us.length = m := by simpa [Value.cells] using hgu.1
    refine ⟨.agg (us.set j v).toArray, ⟨by simpa [Value.cells] using hul, fun q c hc => ?_⟩, ?_, fun j0 => ?_⟩
    · simp [Value.cells] at hc
      rcases List.mem_or_eq_of_mem_set (List.mem_of_getElem? hc) with hc | rfl
      · exact h1 c hc
      · exact hone
    · simp only [PV.setCell]
      unfold Rep
      refine ⟨_, rfl, fun c hc => ?_, hr.set j hrv⟩
      rcases List.mem_or_eq_of_mem_set hc with hc | rfl
      · exact h1 c hc
      · exact hone
    · rw [hcells]
      simp only [Value.cells, List.getElem?_toArray, List.getElem?_set]
      by_cases hjj : j = j0
      · subst hjj
        simp [hul, hj]
      · rw [if_neg hjj, if_neg (by omega)]
  · have hy1 : y.setCell j p = p := by
      cases y <;> first | rfl | exact absurd ⟨_, rfl⟩ hya
    have hm1 : m = 1 := by
      cases y <;> simp [PV.good] at hg <;> first | exact hg | exact hg.1 | exact absurd ⟨_, rfl⟩ hya
    have hj0 : j = 0 := by omega
    subst hm1 hj0
    rw [hy1]
    refine ⟨v, hrv.good hp, hrv, fun j0 => ?_⟩
    by_cases h0 : j0 = 0
    · subst h0; simp
    · rw [if_neg (by omega)]
      have h5 := hgu.1
      rw [hcells]
      rw [Array.getElem?_eq_none (by simp; omega), Array.getElem?_eq_none (by omega)]

/-- A whole element is stored. -/
theorem V1.storeRefAll {o : Oper} {t : Nat} {g : Bool} {ax vx : Operand} {b m i k : Nat} {ob : Obj'} {y p : PV} {K : AEnv → Prop} (ho : o.op = .store t ax vx) (hd : o.dst = none)
    (ht : tyk Φ.P t = some (g, m)) (ha : aeval α ax = some (.ref b m i 0)) (hv : aeval α vx = some p) (hb : α.H[k]? = some (b, ob)) (hm : ob.n = m) (hy : ob.xs[i]? = some y)
    (hp : p.good m = true) (hk : K ⟨α.n, α.E, α.H.set k (b, ⟨m, ob.xs.set i p⟩)⟩) : V1 Φ o α K := by
  refine V1.stored ho hd ht ha hv hb hm hy hp (by omega) (fun w S u v hgu hru hrv => ?_) hk
  refine ⟨v, hrv.good hp, hrv, fun j0 => ?_⟩
  have h1 := (hrv.good hp).1
  have h2 := hgu.1
  by_cases h0 : j0 < m
  · rw [if_pos ⟨by omega, by omega⟩]; simp
  · rw [if_neg (by omega), Array.getElem?_eq_none (by omega), Array.getElem?_eq_none (by omega)]
end

/-! ### New blocks -/
theorem Ext.alloc (w : World) (o : Obj) : Ext (fun _ => False) w (w.alloc o) where
  os := rfl
  tape := rfl
  output := rfl
  size := by show w.heap.size ≤ (w.heap.push o).size; simp
  block k hk _ := by show (w.heap.push o)[k]? = _; rw [Array.getElem?_push, if_neg (by omega)]
  shape k c h := by
    obtain ⟨T, fz, h1, h2⟩ := h
    refine ⟨c, ⟨T, fz, ?_, h2⟩, rfl⟩
    have hlt := (Array.getElem?_eq_some_iff.1 h1).1
    show (w.heap.push o)[k]? = _
    rw [Array.getElem?_push, if_neg (by omega)]
    exact h1

theorem Ext.drew (w : World) : Ext (fun _ => False) w w.drew where
  os := rfl
  tape := rfl
  output := rfl
  size := Nat.le_refl _
  block _ _ _ := rfl
  shape k c h := ⟨c, h, rfl⟩

section
variable {Φ : Ctx} {S : Nat → Nat → Prop} {α : AEnv} {a : Act} {w : World}

/-- A block more, with its object; the world may have grown beside it. -/
theorem Env.new (h : Env Φ S α a w) {w' : World} (he : Ext (fun _ => False) w w') {b : Nat} {ob : Obj'} (hb : w.heap.size ≤ b) (ho : ObjAt w' S b ob) : Env Φ S ⟨α.n, α.E, (b, ob) :: α.H⟩ a w' := by
  refine h.step he (fun _ _ h => h.elim) (fun _ _ h => h) (fun _ _ h => .inl h) ?_ ?_
  · intro b' o' hm
    rcases List.mem_cons.1 hm with e | hm
    · cases e
      refine ⟨ho, fun ρ hs => ?_, .inl (Nat.le_trans h.ext.size hb)⟩
      have := (h.bound ρ b hs).1
      omega
    · obtain ⟨h1, h2, h3⟩ := h.objs b' o' hm
      exact ⟨h.obj_step he (fun _ _ h => h.elim) (fun _ _ h => h) hm id, h2, h3⟩
  · simp only [List.map_cons, List.nodup_cons]
    refine ⟨fun hm => ?_, h.nodup⟩
    simp only [List.mem_map] at hm
    obtain ⟨⟨b', o'⟩, hm, rfl⟩ := hm
    have := (h.objs b' o' hm).1.lt
    simp only at hb
    omega

/-- A new variable. -/
theorem ObjAt.var {w : World} {S : Nat → Nat → Prop} (hS : ∀ ρ b, S ρ b → b < w.heap.size) {v : Value} {n : Nat} {x : PV} {T : TypeId} (hv : Good n v) (hn : 0 < n) (hr : Rep w S true x v) : ObjAt (w.alloc (.cells v.cells T)) S w.heap.size ⟨n, [x]⟩ := by
  refine ⟨hn, v.cells, [v], ⟨T, (0, 0), by show (w.heap.push _)[w.heap.size]? = _; simp, .inl (Nat.le_refl _)⟩, by simp [hv.1], by simpa using hv, ?_, ?_⟩
  · rw [Reps.cons_iff]
    exact ⟨v, [], rfl, hr.ext (Ext.alloc w _) (fun _ _ h => h) (fun ρ b hb => ⟨hS ρ b hb, id⟩), by rw [Reps.nil_iff]⟩
  · intro i u hu j hj
    cases i <;> simp at hu
    subst hu; simp
end
end Go.VS
