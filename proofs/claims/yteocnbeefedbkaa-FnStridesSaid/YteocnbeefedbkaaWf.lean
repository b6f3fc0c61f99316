/-
  Own rows: cleared in part, cut short, seen in part. Over any program. No condition.
-/
import Derived.Test.YteocnbeefedbkaaWe
set_option linter.unusedSimpArgs false
set_option linter.unusedVariables false
namespace Go.VS

theorem size_zeroCells' (z : Array Value) (n : Nat) : (Builtin.zeroCells z n).size = n * z.size := by simp [Builtin.zeroCells]

theorem zero_flat {z : Value} {n k : Nat} (hz : Good n z) (hn : 0 < n) : (Builtin.zeroCells z.cells k).toList = flatV (List.replicate k z) := by
  have hg : ∀ u ∈ List.replicate k z, Good n u := by intro u hu; rw [List.eq_of_mem_replicate hu]; exact hz
  apply List.ext_getElem?
  intro q
  by_cases hq : q < k * n
  · have h1 : q / n < k := (Nat.div_lt_iff_lt_mul hn).2 hq
    have h2 := flat_get hg (i := q / n) (u := z) (by simp [h1]) (Nat.mod_lt q hn)
    have h3 : q / n * n + q % n = q := by rw [Nat.mul_comm]; exact Nat.div_add_mod q n
    rw [h3] at h2
    rw [h2]
    have h4 : q % n < z.cells.size := by rw [hz.1]; exact Nat.mod_lt q hn
    simp only [Builtin.zeroCells, hz.1, Array.toList_map, Array.toList_range, List.getElem?_map, List.getElem?_range hq, Option.map_some]
    rw [Array.getElem?_eq_getElem h4]
    simp [h4]
  · rw [List.getElem?_eq_none, List.getElem?_eq_none]
    · rw [flat_length hg]; simp; omega
    · have := size_zeroCells' z.cells k
      rw [hz.1] at this
      simp only [Array.length_toList, this]
      omega

/-- Elements of an own block get new values. -/
theorem ObjAt.storeMany {w : World} {S : Nat → Nat → Prop} {b : Nat} {ob : Obj'} (h : ObjAt w S b ob) (hb : ∀ ρ, ¬ S ρ b) {P : Program} {off : Nat} {ys : List PV} {vs : List Value} (hv : ∀ v ∈ vs, Good ob.n v) (hr : Reps w S true ys vs) (hfit : off + vs.length ≤ ob.xs.length) :
    ∃ w', (storeCells ⟨b, off * ob.n, none⟩ (flatV vs)).run P w = .ok () w' ∧ Ext (fun k => k = b) w w' ∧ ObjAt w' S b ⟨ob.n, ob.xs.take off ++ ys ++ ob.xs.drop (off + vs.length)⟩ := by
  obtain ⟨hn, c, us, ⟨T, fz, hg, hf⟩, hl, hgd, hru, hc⟩ := h
  have hlen := hru.length
  have hfl := flat_length hv
  have hroom : off * ob.n + vs.length * ob.n ≤ c.size := by
    have := Nat.mul_le_mul_right ob.n (show off + vs.length ≤ us.length by omega)
    rw [Nat.add_mul] at this
    omega
  have hfit' : off * ob.n + (flatV vs).length ≤ c.size := by rw [hfl]; exact hroom
  have hrun := run_storeCells_in P b (off * ob.n) T fz (flatV vs) 0 c w hg hf (by simpa using hfit') (flat_one hv)
  simp only [Nat.add_zero] at hrun
  generalize hc' : (c.toList.take (off * ob.n) ++ flatV vs ++ c.toList.drop (off * ob.n + (flatV vs).length)).toArray = c' at hrun
  have hsz : c'.size = c.size := by rw [← hc']; simp; omega
  have he := Ext.setRow (c' := c') hg hsz
  have hgood : ∀ u ∈ us.take off ++ vs ++ us.drop (off + vs.length), Good ob.n u := by
    intro u hu
    simp only [List.mem_append] at hu
    rcases hu with (hu | hu) | hu
    · exact hgd u (List.mem_of_mem_take hu)
    · exact hv u hu
    · exact hgd u (List.mem_of_mem_drop hu)
  refine ⟨_, hrun, he, hn, c', us.take off ++ vs ++ us.drop (off + vs.length), ⟨T, fz, setRow_heap w b c _ T fz hg, by rw [hsz]; exact hf⟩, ?_, hgood, ?_, ?_⟩
  · rw [hsz]
    have : (us.take off ++ vs ++ us.drop (off + vs.length)).length = us.length := by simp; omega
    rw [this]; exact hl
  · refine (((hru.take off).append hr).append (hru.drop (off + vs.length))).mono (fun _ _ h => h) (fun ρ b' hb' => setRow_other _ _ _ _ (fun e => ?_)) id he.shape _ _
    subst e
    exact hb ρ hb'
  · intro i u hu j hj
    simp only at hj hu ⊢
    rw [← hc', List.getElem?_toArray, seg_get _ _ _ _ (by simpa using hfit'), hfl]
    by_cases h1 : i < off
    · have hlt : i * ob.n + j < off * ob.n := by
        have := Nat.mul_le_mul_right ob.n (show i + 1 ≤ off from h1)
        rw [Nat.add_mul] at this
        omega
      rw [if_neg (by omega)]
      rw [List.append_assoc, List.getElem?_append_left (by simp; omega), List.getElem?_take, if_pos h1] at hu
      have := hc i u hu j hj
      simpa using this
    · by_cases h2 : i < off + vs.length
      · have hlt : i * ob.n + j < off * ob.n + vs.length * ob.n := by
          have := Nat.mul_le_mul_right ob.n (show i + 1 ≤ off + vs.length from h2)
          rw [Nat.add_mul, Nat.add_mul] at this
          omega
        have hge : off * ob.n ≤ i * ob.n := Nat.mul_le_mul_right ob.n (by omega)
        rw [if_pos ⟨by omega, by omega⟩]
        have ht : (us.take off).length = off := by simp; omega
        rw [List.append_assoc, List.getElem?_append_right (by omega), ht, List.getElem?_append_left (by omega)] at hu
        have := flat_get hv hu hj
        rw [← this]
        congr 1
        rw [Nat.sub_mul]
        omega
      · have hge : off * ob.n + vs.length * ob.n ≤ i * ob.n := by
          have := Nat.mul_le_mul_right ob.n (show off + vs.length ≤ i by omega)
          rw [Nat.add_mul] at this
          exact this
        rw [if_neg (by omega)]
        have ht : (us.take off ++ vs).length = off + vs.length := by simp; omega
        rw [List.getElem?_append_right (by omega), ht, List.getElem?_drop] at hu
        rw [show off + vs.length + (i - (off + vs.length)) = i by omega] at hu
        have := hc i u hu j hj
        simpa using this

section
variable {Φ : Ctx} {α : AEnv} {K : AEnv → Prop} {o : Oper} {β : Type} {f : β → PV} {l : List β}

/-- A step that turns the own block at place k alone. -/
theorem Env.turned {S : Nat → Nat → Prop} {a : Act} {w w' : World} (he : Env Φ S α a w) {k b : Nat} {ob ob' : Obj'} (hb : α.H[k]? = some (b, ob)) (hext : Ext (fun q => q = b) w w') (hnew : ObjAt w' S b ob') : Env Φ S ⟨α.n, α.E, α.H.set k (b, ob')⟩ a w' := by
  obtain ⟨hob, hnS, hfr⟩ := he.objK hb
  have hmem : b ∈ α.H.map Prod.fst := List.mem_map.2 ⟨(b, ob), List.mem_of_getElem? hb, rfl⟩
  have hfst : (α.H.set k (b, ob')).map Prod.fst = α.H.map Prod.fst := set_keys (p := (b, ob')) hb
  refine he.step hext (fun q _ hq => by rw [hq]; exact hmem) (fun _ _ h => h) (fun _ _ h => .inl h) ?_ (by rw [hfst]; exact he.nodup)
  intro b' o' hm
  rw [List.mem_iff_getElem?] at hm
  obtain ⟨q, hq⟩ := hm
  rw [List.getElem?_set] at hq
  split at hq
  · rename_i e
    subst e
    have hlt := (List.getElem?_eq_some_iff.1 hb).1
    rw [if_pos hlt] at hq
    cases hq
    exact ⟨hnew, hnS, hfr⟩
  · rename_i e
    have hm' := List.mem_of_getElem? hq
    obtain ⟨hob', hnS', hfr'⟩ := he.objs b' o' hm'
    refine ⟨he.obj_step hext (fun q _ hq => by rw [hq]; exact hmem) (fun _ _ h => h) hm' ?_, hnS', hfr'⟩
    intro hbb
    subst hbb
    have hnd := he.nodup
    have h3 : (α.H.map Prod.fst)[k]? = some b' := by simp [hb]
    have h4 : (α.H.map Prod.fst)[q]? = some b' := by simp [hq]
    exact e ((List.getElem_inj hnd).1 ((List.getElem?_eq_some_iff.1 h3).2.trans (List.getElem?_eq_some_iff.1 h4).2.symm))

/-! ### Cells of an array; the lesser and the greater -/

theorem V1.idxPin {d T e len : Nat} {x i : Operand} {ρ : Nat} {y : PV} {j : Nat} {g : Bool} {k : IntKind} {m : Int} (ho : o.op = .indexAddr T x i) (hd : o.dst = some d)
    (hT : Φ.P.underlying T = some (.array len e)) (he : tyk Φ.P e = some (g, 1)) (hx : aeval α x = some (.pin ρ y j)) (hi : aeval α i = some (.int k m)) (h : 0 ≤ m ∧ m < (len : Int)) (hn : d < α.n)
    (hk : K (α.put d (.pin ρ y (j + m.toNat)))) : V1 Φ o α K :=
  V1.pure hd hn (fun _ a w he' => by
    have h1 := he'.eval hx
    have h2 := he'.eval hi
    unfold Rep at h1 h2
    obtain ⟨_, inf, hinf, hsz⟩ := tyk_spec he
    obtain ⟨u, b, o', hS, hv, hc, hr⟩ := h1
    refine ⟨.pointer (some ⟨b, o' + j + m.toNat, none⟩), ?_, by unfold Rep; exact ⟨u, b, o', hS, by rw [Nat.add_assoc], hc, hr⟩⟩
    simp [execOp, ho, hv, h2, Instr.indexAt, asIntOf, Instr.sureAddr, run_underlying hT, h, run_sizeOf' hinf, hsz, Addr.add_none]) hk

theorem V1.idxRef {d T e len : Nat} {x i : Operand} {b n q j : Nat} {g : Bool} {k : IntKind} {m : Int} (ho : o.op = .indexAddr T x i) (hd : o.dst = some d)
    (hT : Φ.P.underlying T = some (.array len e)) (he : tyk Φ.P e = some (g, 1)) (hx : aeval α x = some (.ref b n q j)) (hi : aeval α i = some (.int k m)) (h : 0 ≤ m ∧ m < (len : Int)) (hn : d < α.n)
    (hk : K (α.put d (.ref b n q (j + m.toNat)))) : V1 Φ o α K :=
  V1.pure hd hn (fun _ a w he' => by
    have h1 := he'.eval hx
    have h2 := he'.eval hi
    unfold Rep at h1 h2
    obtain ⟨_, inf, hinf, hsz⟩ := tyk_spec he
    refine ⟨.pointer (some ⟨b, q * n + j + m.toNat, none⟩), ?_, by unfold Rep; exact ⟨rfl, by rw [Nat.add_assoc]⟩⟩
    simp [execOp, ho, h1.2, h2, Instr.indexAt, asIntOf, Instr.sureAddr, run_underlying hT, h, run_sizeOf' hinf, hsz, Addr.add_none]) hk

theorem V1.minI {d : Nat} {c : Call} {x y : Operand} {k k' : IntKind} {a b : Int} (ho : o.op = .call c) (hc : c.callee = .builtin .min) (hca : c.args = #[x, y]) (hd : o.dst = some d)
    (hx : aeval α x = some (.int k a)) (hy : aeval α y = some (.int k' b)) (hn : d < α.n) (hk : K (α.put d (.int k (bif decide (b < a) then b else a)))) : V1 Φ o α K :=
  V1.pure hd hn (fun S ac w he => by
    have h1 := he.eval hx
    have h2 := he.eval hy
    unfold Rep at h1 h2
    refine ⟨.int k (bif decide (b < a) then b else a), ?_, by unfold Rep; rfl⟩
    obtain ⟨cal, cargs, cty⟩ := c
    simp only at hc hca
    subst hc hca
    by_cases hab : b < a <;> simp [execOp, ho, resolve, invoke, builtin, Builtin.min_, Builtin.min2, h1, h2, hab]) hk

theorem V1.maxI {d : Nat} {c : Call} {x y : Operand} {k k' : IntKind} {a b : Int} (ho : o.op = .call c) (hc : c.callee = .builtin .max) (hca : c.args = #[x, y]) (hd : o.dst = some d)
    (hx : aeval α x = some (.int k a)) (hy : aeval α y = some (.int k' b)) (hn : d < α.n) (hk : K (α.put d (.int k (bif decide (a < b) then b else a)))) : V1 Φ o α K :=
  V1.pure hd hn (fun S ac w he => by
    have h1 := he.eval hx
    have h2 := he.eval hy
    unfold Rep at h1 h2
    refine ⟨.int k (bif decide (a < b) then b else a), ?_, by unfold Rep; rfl⟩
    obtain ⟨cal, cargs, cty⟩ := c
    simp only at hc hca
    subst hc hca
    by_cases hab : a < b <;> simp [execOp, ho, resolve, invoke, builtin, Builtin.max_, Builtin.max2, h1, h2, hab]) hk

theorem V1.buildArr {d t n len e sz : Nat} {g : Bool} {parts : Array (Nat × Operand)} {zs cells : List PV} {ps : List (Nat × PV)} (ho : o.op = .build t parts) (hd : o.dst = some d)
    (hz : zeroK Φ.P t = some (n, .agg zs)) (hT : Φ.P.underlying t = some (.array len e)) (hE : tyk Φ.P e = some (g, sz)) (hps : partsPV α parts.toList = some ps) (hf : fillPV (fun i => some (i * sz, sz)) zs ps = some cells) (hn : d < α.n)
    (hk : K (α.put d (.agg cells))) : V1 Φ o α K :=
  V1.pure hd hn (fun S a w he => by
    obtain ⟨i, zv, h1, h2, h3, h4⟩ := zeroK_spec hz
    have h5 := h4 w S true
    unfold Rep at h5
    obtain ⟨us, rfl, hone, hr⟩ := h5
    obtain ⟨q1, q2⟩ := partsPV_spec he _ _ hps
    obtain ⟨cs', q3, q4, q5⟩ := fill_ok ps _ zs us.toArray cells (by simpa using hr) (by simpa using hone) q1 q2 hf
    obtain ⟨_, inf, hinf, hsz⟩ := tyk_spec hE
    refine ⟨.agg cs', ?_, by unfold Rep; exact ⟨cs'.toList, by simp, q5, q4⟩⟩
    have hmap : (parts.map fun (x : Nat × Operand) => (x.1, a.eval x.2)).toList = parts.toList.map fun x => (x.1, a.eval x.2) := by simp
    have hfill : Instr.fill (fun i => some (i * sz, sz)) us.toArray (parts.toList.map fun x => (x.1, a.eval x.2)) = some cs' := by simpa using q3
    have hb := run_build (P := Φ.P) w t (parts.map fun (x : Nat × Operand) => (x.1, a.eval x.2)) cs' (by
      rw [hmap]
      unfold Program.built
      simp only [h1, hT, hinf, h2, hsz, Value.cells]
      exact hfill)
    simp only [execOp, ho, Sem.run_bind, hb, Result.andThen_ok, Sem.run_pure]) hk

theorem noneNo {β : Type} {r : β} {p : Prop} (h : (none : Option β) = some r) : p := by cases h
end
end Go.VS
