/-
  Slice literals, make, slices of slices, lengths, parts of values, strings. Over any program. Conditions: a slice expression stays within the length; a literal lists all its elements in order.
-/
import Derived.Test.YteocnbeefedbkaaVe
set_option linter.unusedSimpArgs false
set_option linter.unusedVariables false
namespace Go.VS

/-! ### Rows of elements -/
def flatV (us : List Value) : List Value := us.flatMap fun u => u.cells.toList

theorem flat_length {n : Nat} : ∀ {us : List Value}, (∀ u ∈ us, Good n u) → (flatV us).length = us.length * n
  | [], _ => by simp [flatV]
  | u :: us, h => by
    have ih := flat_length (us := us) (fun v hv => h v (by simp [hv]))
    have hu := (h u (by simp)).1
    simp only [flatV, List.flatMap_cons, List.length_append, Array.length_toList, hu, List.length_cons, Nat.succ_mul] at *
    omega

theorem flat_get {n : Nat} : ∀ {us : List Value}, (∀ u ∈ us, Good n u) → ∀ {i : Nat} {u : Value}, us[i]? = some u → ∀ {j : Nat}, j < n → (flatV us)[i * n + j]? = u.cells[j]?
  | [], _, i, u, hu, _, _ => by simp at hu
  | v :: us, h, i, u, hu, j, hj => by
    have hv := (h v (by simp)).1
    simp only [flatV, List.flatMap_cons]
    cases i with
    | zero =>
      simp at hu
      subst hu
      rw [List.getElem?_append_left (by simp [hv]; omega)]
      simp
    | succ i =>
      simp at hu
      have ih := flat_get (us := us) (fun v hv => h v (by simp [hv])) hu hj
      rw [List.getElem?_append_right (by simp [hv, Nat.succ_mul]; omega)]
      rw [← ih]
      congr 1
      simp [hv, Nat.succ_mul]
      omega

theorem flat_one {n : Nat} {us : List Value} (h : ∀ u ∈ us, Good n u) : ∀ v ∈ flatV us, v.oneCell' = true := by
  intro v hv
  simp only [flatV, List.mem_flatMap] at hv
  obtain ⟨u, hu, hm⟩ := hv
  obtain ⟨q, hq⟩ := List.mem_iff_getElem?.1 hm
  exact (h u hu).2 q v (by simpa using hq)

theorem flat_append (us vs : List Value) : flatV (us ++ vs) = flatV us ++ flatV vs := by simp [flatV]

/-- A new row of the elements us, and whatever behind them. -/
theorem ObjAt.row {w w' : World} {S : Nat → Nat → Prop} {b n : Nat} {T : TypeId} {us : List Value} {xs : List PV} {rest : List Value} (hn : 0 < n) (hg : ∀ u ∈ us, Good n u) (hr : Reps w' S true xs us)
    (hb : w'.heap[b]? = some (.cells (flatV us ++ rest).toArray T (0, 0))) : ObjAt w' S b ⟨n, xs⟩ := by
  refine ⟨hn, _, us, ⟨T, (0, 0), hb, .inl (Nat.le_refl _)⟩, by simp [flat_length hg], hg, hr, fun i u hu j hj => ?_⟩
  have hlt := (List.getElem?_eq_some_iff.1 hu).1
  have : i * n + j < (flatV us).length := by
    rw [flat_length hg]
    have := Nat.mul_le_mul_right n (show i + 1 ≤ us.length from hlt)
    rw [Nat.add_mul] at this
    simp only at hj
    omega
  rw [List.getElem?_toArray, List.getElem?_append_left this]
  exact flat_get hg hu hj

theorem fill_full {n : Nat} : ∀ (vs : List Value) (k : Nat) (cs : Array Value), (∀ v ∈ vs, v.cells.size = n) → (k + vs.length) * n ≤ cs.size →
    Instr.fill (fun i => some (i * n, n)) cs ((vs.zipIdx k).map fun x => (x.2, x.1)) = some (cs.toList.take (k * n) ++ flatV vs ++ cs.toList.drop ((k + vs.length) * n)).toArray
  | [], k, cs, _, _ => by simp [Instr.fill, flatV]
  | v :: vs, k, cs, hv, hl => by
    have h1 := hv v (by simp)
    simp only [List.length_cons] at hl
    have h2 : (k + (vs.length + 1)) * n = k * n + n + vs.length * n := by rw [Nat.add_mul, Nat.succ_mul]; omega
    have h3 : (k + 1) * n = k * n + n := Nat.succ_mul k n
    have h4 : (k + 1 + vs.length) * n = k * n + n + vs.length * n := by rw [Nat.add_mul, h3]
    have hseg := fold_seg (k * n) v.cells.toList 0 cs (by simp [h1]; omega)
    simp only [Nat.add_zero, Array.length_toList, h1] at hseg
    have harr : (v.cells.zipIdx.foldl (fun cs (x : Value × Nat) => cs.setIfInBounds (k * n + x.2) x.1) cs).toList = cs.toList.take (k * n) ++ v.cells.toList ++ cs.toList.drop (k * n + n) := by
      rw [← hseg, ← Array.foldl_toList]
      simp
    have hsz : (v.cells.zipIdx.foldl (fun cs (x : Value × Nat) => cs.setIfInBounds (k * n + x.2) x.1) cs).size = cs.size := by
      rw [← Array.length_toList, harr]
      simp [h1]
      omega
    have ih := fill_full vs (k + 1) (v.cells.zipIdx.foldl (fun cs (x : Value × Nat) => cs.setIfInBounds (k * n + x.2) x.1) cs) (fun u hu => hv u (by simp [hu])) (by rw [hsz]; omega)
    simp only [List.zipIdx_cons, List.map_cons, Instr.fill]
    rw [if_neg (by simp [h1]; omega)]
    refine Eq.trans ih ?_
    rw [harr]
    congr 2
    have e1 : (cs.toList.take (k * n) ++ v.cells.toList ++ cs.toList.drop (k * n + n)).take ((k + 1) * n) = cs.toList.take (k * n) ++ v.cells.toList := by
      rw [List.take_append_of_le_length (by simp [h1, h3]; omega), List.take_of_length_le (by simp [h1, h3]; omega)]
    have e2 : (cs.toList.take (k * n) ++ v.cells.toList ++ cs.toList.drop (k * n + n)).drop ((k + 1 + vs.length) * n) = cs.toList.drop ((k + (vs.length + 1)) * n) := by
      rw [List.drop_append, List.drop_of_length_le (by simp [h1, h4]; omega), List.nil_append, List.drop_drop]
      congr 1
      simp [h1, h2, h4]
      omega
    rw [e1, e2]
    simp [flatV]

section
variable {Φ : Ctx} {S : Nat → Nat → Prop} {α : AEnv} {a : Act} {w : World}

/-- []T{x0, x1, ..} -/
theorem V1.buildSlice {o : Oper} {d t e n len : Nat} {parts : Array (Nat × Operand)} {z : PV} {ps : List (Nat × PV)} {K : AEnv → Prop} (ho : o.op = .buildSlice t len parts) (hd : o.dst = some d)
    (ht : elemSz Φ.P t = some (e, n)) (hz : zeroK Φ.P e = some (n, z)) (hps : partsPV α parts.toList = some ps) (hidx : (ps.map Prod.fst) = List.range len) (hg : ps.all (fun x => x.2.good n) = true)
    (h0 : Nat.blt 0 n = true) (hsz : Nat.ble (len * n) 16777216 = true) (hn : d < α.n)
    (hk : ∀ b, K ⟨α.n, (d, .sref b n 0 len) :: α.E, (b, ⟨n, ps.map Prod.snd⟩) :: α.H⟩) : V1 Φ o α K :=
  V1.newBlk hd hn (fun S a w he => by
    have h0 : 0 < n := by simpa [Nat.blt, Nat.lt_iff_add_one_le] using h0
    have hsz : len * n ≤ 16777216 := Nat.le_of_ble_eq_true hsz
    obtain ⟨hu, inf, hinf, hsn⟩ := elemSz_spec ht
    obtain ⟨i, zv, h1, h2, h3, h4⟩ := zeroK_spec hz
    obtain ⟨q1, q2⟩ := partsPV_spec he _ _ hps
    have hlen : ps.length = len := by have := congrArg List.length hidx; simpa using this
    have hvs : (parts.toList.map fun x => (x.1, a.eval x.2)) = ((parts.toList.map fun x => a.eval x.2).zipIdx 0).map fun x => (x.2, x.1) := by
      apply List.ext_getElem?
      intro k
      by_cases hk : k < parts.toList.length
      · have hkp : k < ps.length := by rw [← q1]; simpa using hk
        have e1 : (parts.toList.map fun x => (x.1, a.eval x.2))[k]? = some (parts.toList[k].1, a.eval parts.toList[k].2) := by rw [List.getElem?_map, List.getElem?_eq_getElem hk]; rfl
        obtain ⟨e2, _⟩ := q2 k ps[k].1 _ ps[k].2 _ (by rw [List.getElem?_eq_getElem hkp]) e1
        have e3 : (ps.map Prod.fst)[k]? = some k := by rw [hidx, List.getElem?_range (by omega)]
        rw [List.getElem?_map, List.getElem?_eq_getElem hkp] at e3
        simp only [Option.map_some, Option.some.injEq] at e3
        rw [e1, List.getElem?_map, List.getElem?_zipIdx, List.getElem?_map, List.getElem?_eq_getElem hk]
        have e4 := e2.symm.trans e3
        simpa using e4
      · rw [List.getElem?_eq_none (by simpa using hk), List.getElem?_eq_none (by simpa using hk)]
    have hgood : ∀ v ∈ parts.toList.map (fun x => a.eval x.2), Good n v := by
      intro v hv
      obtain ⟨k, hk⟩ := List.mem_iff_getElem?.1 hv
      have hlt := (List.getElem?_eq_some_iff.1 hk).1
      have hkp : k < ps.length := by rw [← q1]; simpa using hlt
      simp only [List.length_map] at hlt
      rw [List.getElem?_map, List.getElem?_eq_getElem hlt] at hk
      simp only [Option.map_some, Option.some.injEq] at hk
      obtain ⟨_, e2⟩ := q2 k ps[k].1 _ ps[k].2 v (by rw [List.getElem?_eq_getElem hkp]) (by rw [List.getElem?_map, List.getElem?_eq_getElem hlt]; simp only [Option.map_some]; rw [hk])
      rw [List.all_eq_true] at hg
      exact e2.good (hg ps[k] (List.getElem_mem hkp))
    have hreps : Reps w S true (ps.map Prod.snd) (parts.toList.map fun x => a.eval x.2) := by
      refine Reps.mk (by simpa using q1) fun k x u hx hu => ?_
      rw [List.getElem?_map, Option.map_eq_some_iff] at hx
      obtain ⟨⟨i', x'⟩, hx, rfl⟩ := hx
      rw [List.getElem?_map, Option.map_eq_some_iff] at hu
      obtain ⟨y, hy, rfl⟩ := hu
      exact (q2 k i' y.1 x' _ hx (by rw [List.getElem?_map, hy]; rfl)).2
    have hplen : (parts.toList.map fun x => a.eval x.2).length = len := by simpa [hlen] using q1
    have hfill := fill_full (n := n) (parts.toList.map fun x => a.eval x.2) 0 ((Array.range (len * n)).map fun q => ((if len * n = 0 then #[] else zv.cells)[q % (if len * n = 0 then #[] else zv.cells).size]!)) (fun v hv => (hgood v hv).1) (by rw [hplen]; simp)
    rw [← hvs] at hfill
    simp only [Nat.zero_mul, List.take_zero, List.nil_append, hplen, Nat.zero_add] at hfill
    rw [List.drop_of_length_le (by simp), List.append_nil] at hfill
    refine ⟨.slice (some ⟨w.heap.size, 0, none⟩) len len, w.alloc (.cells (flatV (parts.toList.map fun x => a.eval x.2)).toArray e), w.heap.size, ?_, Ext.alloc w _, Nat.le_refl _, ?_, ?_⟩
    · have hmap : (parts.map fun (x : Nat × Operand) => (x.1, a.eval x.2)).toList = parts.toList.map fun x => (x.1, a.eval x.2) := by simp
      simp only [execOp, ho, Instr.buildSlice, Sem.run_bind, run_underlying hu, Result.andThen_ok, run_sizeOf' hinf, hsn, Sem.run_ite]
      rw [if_neg (by omega)]
      by_cases hz0 : len * n = 0
      · simp only [hz0, if_true] at hfill
        rw [if_pos hz0]
        simp only [Sem.run_pure, Result.andThen_ok, hmap, hz0, hfill, newRow, Sem.run_bind]
        rfl
      · simp only [if_neg hz0] at hfill
        rw [if_neg hz0]
        have hzv : (zeroValue e).run Φ.P w = .ok zv w := by simp [zeroValue, typeInfo, program, Sem.run, Sem.bind, Bind.bind, Pure.pure, h1, h2]
        simp only [Sem.run_bind, hzv, Sem.run_pure, Result.andThen_ok, hmap, hfill, newRow]
        rfl
    · refine ObjAt.row (w := w) (T := e) (rest := []) h0 hgood (hreps.ext (Ext.alloc w _) (fun _ _ h => h) fun ρ b hb => ⟨(he.bound ρ b hb).1, id⟩) ?_
      show (w.heap.push _)[w.heap.size]? = _
      simp
    · unfold Rep
      refine ⟨rfl, .inr ⟨len, (flatV (parts.toList.map fun x => a.eval x.2)).toArray, by simp, Nat.le_refl _, ⟨e, (0, 0), by show (w.heap.push _)[w.heap.size]? = _; simp, .inl (Nat.le_refl _)⟩, ?_⟩⟩
      simp [flat_length hgood, hplen]) hk

theorem made_flat {z : Value} {n k : Nat} (hz : Good n z) (hn : 0 < n) : (madeCells z.cells (k * n)).toList = flatV (List.replicate k z) := by
  have hg : ∀ u ∈ List.replicate k z, Good n u := by intro u hu; rw [List.eq_of_mem_replicate hu]; exact hz
  apply List.ext_getElem?
  intro q
  by_cases hq : q < k * n
  · have h1 : q / n < k := (Nat.div_lt_iff_lt_mul hn).2 hq
    have h2 := flat_get hg (i := q / n) (u := z) (by simp [h1]) (Nat.mod_lt q hn)
    have h3 : q / n * n + q % n = q := by rw [Nat.mul_comm]; exact Nat.div_add_mod q n
    rw [h3] at h2
    rw [h2]
    have h4 : q % n < z.cells.size := by rw [hz.1]; exact Nat.mod_lt q hn
    have h5 : q % z.cells.size = q % n := by rw [hz.1]
    simp [madeCells, hq, h5, h4]
  · rw [List.getElem?_eq_none (by simp [size_madeCells]; omega), List.getElem?_eq_none (by rw [flat_length hg]; simp; omega)]

theorem elemBy_spec {P : Program} {t : TypeId} (h : elemBy P t = true) {e : TypeId} {i : TypeInfo} (hu : P.underlying t = some (.slice e)) (hi : P.info? e = some i) : i.bytes ≤ 65536 := by
  unfold elemBy at h
  simp only [hu, hi] at h
  exact Nat.le_of_ble_eq_true h

/-- make([]T, n), make([]T, n, c). -/
theorem V1.makeSlice {o : Oper} {d t e n : Nat} {lx cx : Operand} {z : PV} {kl kc : IntKind} {l c : Int} {K : AEnv → Prop} (ho : o.op = .makeSlice t lx cx) (hd : o.dst = some d)
    (ht : elemSz Φ.P t = some (e, n)) (hby : elemBy Φ.P t = true) (hz : zeroK Φ.P e = some (n, z)) (hl : aeval α lx = some (.int kl l)) (hc : aeval α cx = some (.int kc c)) (h0 : 0 ≤ l) (h1 : l ≤ c) (h2 : c ≤ 2147483648)
    (h3 : Nat.blt 0 n = true) (hn : d < α.n) (hk : ∀ b, K ⟨α.n, (d, .sref b n 0 l.toNat) :: α.E, (b, ⟨n, List.replicate l.toNat z⟩) :: α.H⟩) : V1 Φ o α K :=
  V1.newBlk hd hn (fun S a w he => by
    have h3 : 0 < n := by simpa [Nat.blt, Nat.lt_iff_add_one_le] using h3
    obtain ⟨hu, inf, hinf, hsn⟩ := elemSz_spec ht
    obtain ⟨i, zv, q1, q2, q3, q4⟩ := zeroK_spec hz
    rw [hinf] at q1
    cases q1
    have hb := elemBy_spec hby hu hinf
    have e1 := he.eval hl
    have e2 := he.eval hc
    unfold Rep at e1 e2
    have hmul : (inf.bytes : Int) * c ≤ 281474976710656 := by
      have : (inf.bytes : Int) * c ≤ 65536 * 2147483648 := Int.mul_le_mul (by omega) h2 (by omega) (by omega)
      omega
    have hrun := run_make (P := Φ.P) w t e inf zv hu hinf q2 kl kc l c h0 h1 hmul (by omega)
    have hflat := made_flat (k := c.toNat) q3 h3
    have hsplit : flatV (List.replicate c.toNat zv) = flatV (List.replicate l.toNat zv) ++ flatV (List.replicate (c.toNat - l.toNat) zv) := by
      rw [← flat_append, List.replicate_append_replicate]
      congr 2
      omega
    refine ⟨_, _, w.heap.size, by simp only [execOp, ho, e1, e2, Sem.run_bind, hrun, Result.andThen_ok, Sem.run_pure]; rfl, Ext.alloc w _, Nat.le_refl _, ?_, ?_⟩
    · refine ObjAt.row (w := w) (T := e) (rest := flatV (List.replicate (c.toNat - l.toNat) zv)) h3 (us := List.replicate l.toNat zv) (by intro u hu; rw [List.eq_of_mem_replicate hu]; exact q3) ?_ ?_
      · refine Reps.mk (by simp) fun k x u hx hu => ?_
        rw [List.eq_of_mem_replicate (List.mem_of_getElem? hx), List.eq_of_mem_replicate (List.mem_of_getElem? hu)]
        exact q4 _ _ _
      · show (w.heap.push _)[w.heap.size]? = _
        rw [hsn, ← hsplit, ← hflat]
        simp
    · unfold Rep
      refine ⟨rfl, .inr ⟨c.toNat, madeCells zv.cells (c.toNat * inf.size), by simp, by omega, ⟨e, (0, 0), by show (w.heap.push _)[w.heap.size]? = _; simp, .inl (Nat.le_refl _)⟩, ?_⟩⟩
      rw [size_madeCells, hsn]; simp) hk
end
end Go.VS
