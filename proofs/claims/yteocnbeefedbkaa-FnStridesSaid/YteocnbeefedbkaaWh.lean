/-
  What slices.Insert needs: the capacity of own rows, slices behind a view's end, copying into own rows, appending zero elements, rows that do not overlap. Over any program. No condition.
-/
import Derived.Test.YteocnbeefedbkaaWg
import Derived.Lib.Overlaps
set_option linter.unusedSimpArgs false
set_option linter.unusedVariables false
namespace Go.VS

/-- Block b has room for cp elements of n cells. -/
def CapIs (w : World) (b n cp : Nat) : Prop := ∃ c, Blk w b c ∧ cp * n = c.size

theorem CapIs.ext {I : Nat → Prop} {w w' : World} {b n cp : Nat} (h : CapIs w b n cp) (he : Ext I w w') : CapIs w' b n cp := by
  obtain ⟨c, h1, h2⟩ := h
  obtain ⟨c', h3, h4⟩ := he.shape b c h1
  exact ⟨c', h3, by rw [h4]; exact h2⟩

theorem CapIs.same {w : World} {b n cp : Nat} (h : CapIs w b n cp) {c : Array Value} (hc : Blk w b c) : cp * n = c.size := by
  obtain ⟨c0, ⟨T, fz, h1, _⟩, h2⟩ := h
  obtain ⟨T', fz', h3, _⟩ := hc
  rw [h1] at h3
  cases h3
  exact h2

theorem Rep.capIs {w : World} {S : Nat → Nat → Prop} {b n off len cp : Nat} {v : Value} (h : Rep w S true (.sref b n off len) v) (hc : CapIs w b n cp) (hn : 0 < n) (h0 : 0 < len) :
    off + len ≤ cp ∧ v = .slice (some ⟨b, off * n, none⟩) len (cp - off) := by
  unfold Rep at h
  rcases h.2 with ⟨e, _⟩ | ⟨cap, c', hv, hcap, hb', hz⟩
  · omega
  · have h1 := hc.same hb'
    have h2 : off + cap = cp := Nat.eq_of_mul_eq_mul_right hn (hz.trans h1.symm)
    refine ⟨by omega, ?_⟩
    rw [hv, ← h2, Nat.add_sub_cancel_left]

theorem Rep.hasCap {w : World} {S : Nat → Nat → Prop} {b n off len : Nat} {v : Value} (h : Rep w S true (.sref b n off len) v) (h0 : 0 < len) : ∃ cp, CapIs w b n cp ∧ off + len ≤ cp := by
  unfold Rep at h
  rcases h.2 with ⟨e, _⟩ | ⟨cap, c', hv, hcap, hb', hz⟩
  · omega
  · exact ⟨off + cap, ⟨c', hb', hz⟩, by omega⟩

/-- Elements of an own block, and such behind its last one, get new values. -/
theorem ObjAt.storeTo {w : World} {S : Nat → Nat → Prop} {b : Nat} {ob : Obj'} (h : ObjAt w S b ob) (hb : ∀ ρ, ¬ S ρ b) {P : Program} {off : Nat} {ys : List PV} {vs : List Value} (hv : ∀ v ∈ vs, Good ob.n v) (hr : Reps w S true ys vs) (hoff : off ≤ ob.xs.length)
    {cb : Array Value} (hcb : Blk w b cb) (hroom' : off * ob.n + vs.length * ob.n ≤ cb.size) :
    ∃ w', (storeCells ⟨b, off * ob.n, none⟩ (flatV vs)).run P w = .ok () w' ∧ Ext (fun k => k = b) w w' ∧ ObjAt w' S b ⟨ob.n, ob.xs.take off ++ ys ++ ob.xs.drop (off + vs.length)⟩ := by
  obtain ⟨hn, c, us, ⟨T, fz, hg, hf⟩, hl, hgd, hru, hc⟩ := h
  have hroom : off * ob.n + vs.length * ob.n ≤ c.size := by
    obtain ⟨T', fz', hg', _⟩ := hcb
    rw [hg] at hg'
    cases hg'
    exact hroom'
  have hlen := hru.length
  have hfl := flat_length hv
  have hfit' : off * ob.n + (flatV vs).length ≤ c.size := by rw [hfl]; exact hroom
  have hrun := run_storeCells_in P b (off * ob.n) T fz (flatV vs) 0 c w hg hf (by simpa using hfit') (flat_one hv)
  simp only [Nat.add_zero] at hrun
  generalize hc' : (c.toList.take (off * ob.n) ++ flatV vs ++ c.toList.drop (off * ob.n + (flatV vs).length)).toArray = c' at hrun
  have hsz : c'.size = c.size := by rw [← hc']; simp; omega
  have he := Ext.setRow (c' := c') hg hsz
  have hgood : ∀ u ∈ us.take off ++ vs ++ us.drop (off + vs.length), Good ob.n u := by
    intro u hu
    simp only [List.mem_append] at hu
    rcases hu with (hu | hu) | hu
    · exact hgd u (List.mem_of_mem_take hu)
    · exact hv u hu
    · exact hgd u (List.mem_of_mem_drop hu)
  refine ⟨_, hrun, he, hn, c', us.take off ++ vs ++ us.drop (off + vs.length), ⟨T, fz, setRow_heap w b c _ T fz hg, by rw [hsz]; exact hf⟩, ?_, hgood, ?_, ?_⟩
  · rw [hsz]
    by_cases hq : off + vs.length ≤ us.length
    · have : (us.take off ++ vs ++ us.drop (off + vs.length)).length = us.length := by simp; omega
      rw [this]; exact hl
    · have : (us.take off ++ vs ++ us.drop (off + vs.length)).length = off + vs.length := by simp; omega
      rw [this, Nat.add_mul]; exact hroom
  · refine (((hru.take off).append hr).append (hru.drop (off + vs.length))).mono (fun _ _ h => h) (fun ρ b' hb' => setRow_other _ _ _ _ (fun e => ?_)) id he.shape _ _
    subst e
    exact hb ρ hb'
  · intro i u hu j hj
    simp only at hj hu ⊢
    rw [← hc', List.getElem?_toArray, seg_get _ _ _ _ (by simpa using hfit'), hfl]
    by_cases h1 : i < off
    · have hlt : i * ob.n + j < off * ob.n := by
        have := Nat.mul_le_mul_right ob.n (show i + 1 ≤ off from h1)
        rw [Nat.add_mul] at this
        omega
      rw [if_neg (by omega)]
      rw [List.append_assoc, List.getElem?_append_left (by simp; omega), List.getElem?_take, if_pos h1] at hu
      have := hc i u hu j hj
      simpa using this
    · by_cases h2 : i < off + vs.length
      · have hlt : i * ob.n + j < off * ob.n + vs.length * ob.n := by
          have := Nat.mul_le_mul_right ob.n (show i + 1 ≤ off + vs.length from h2)
          rw [Nat.add_mul, Nat.add_mul] at this
          omega
        have hge : off * ob.n ≤ i * ob.n := Nat.mul_le_mul_right ob.n (by omega)
        rw [if_pos ⟨by omega, by omega⟩]
        have ht : (us.take off).length = off := by simp; omega
        rw [List.append_assoc, List.getElem?_append_right (by omega), ht, List.getElem?_append_left (by omega)] at hu
        have := flat_get hv hu hj
        rw [← this]
        congr 1
        rw [Nat.sub_mul]
        omega
      · have hge : off * ob.n + vs.length * ob.n ≤ i * ob.n := by
          have := Nat.mul_le_mul_right ob.n (show off + vs.length ≤ i by omega)
          rw [Nat.add_mul] at this
          exact this
        rw [if_neg (by omega)]
        have ht : (us.take off ++ vs).length = off + vs.length := by simp; omega
        rw [List.getElem?_append_right (by omega), ht, List.getElem?_drop] at hu
        rw [show off + vs.length + (i - (off + vs.length)) = i by omega] at hu
        have := hc i u hu j hj
        simpa using this

section
variable {Φ : Ctx} {α : AEnv} {K : AEnv → Prop} {o : Oper} {β : Type} {f : β → PV} {l m : List β}

/-- cap of a view of an own row. -/
theorem V1.capOwn {d t : Nat} {c : Call} {x : Operand} {b n off len cp : Nat} (ho : o.op = .call c) (hc : c.callee = .builtin .cap) (hca : c.args = #[x]) (hct : c.argTypes = #[t]) (hd : o.dst = some d)
    (hx : aeval α x = some (.sref b n off len)) (ht : isSl Φ.P t = true) (hB : CapIs Φ.w0 b n cp) (hn0 : 0 < n) (h0 : 0 < len) (hn : d < α.n) (hk : K (α.put d (.int .i64 ((cp - off : Nat) : Int)))) : V1 Φ o α K :=
  V1.pure hd hn (fun S a w he => by
    obtain ⟨e, hD⟩ := isSl_spec ht
    obtain ⟨_, hv⟩ := Rep.capIs (he.eval hx) (hB.ext he.ext) hn0 h0
    refine ⟨goInt ((cp - off : Nat) : Int), ?_, by unfold Rep; rfl⟩
    obtain ⟨cal, cargs, cty⟩ := c
    simp only at hc hca hct
    subst hc hca hct
    simp [execOp, ho, resolve, invoke, builtin, Builtin.cap_, hv, run_underlying hD]) hk

/-- x[:c] of an own row, c up to its capacity. -/
theorem V1.sliceUp {d t e n : Nat} {x hi : Operand} {b len cp : Nat} {kh : IntKind} {c : Int} (ho : o.op = .slice t x none (some hi) none) (hd : o.dst = some d)
    (ht : elemSz Φ.P t = some (e, n)) (hx : aeval α x = some (.sref b n 0 len)) (hhi : aeval α hi = some (.int kh c)) (hB : CapIs Φ.w0 b n cp) (hn0 : 0 < n) (h0 : 0 < len) (h : 0 ≤ c ∧ c ≤ (cp : Int)) (hn : d < α.n)
    (hk : K (α.put d (.sref b n 0 c.toNat))) : V1 Φ o α K :=
  V1.pure hd hn (fun S a w he => by
    have e1 := he.eval hx
    obtain ⟨hle, hv⟩ := Rep.capIs e1 (hB.ext he.ext) hn0 h0
    obtain ⟨hu, inf, hinf, hsn⟩ := elemSz_spec ht
    have hbd := run_sliceBoundsX (sl := true) (len := len) (cap := cp) (lo := none) (l := 0) he rfl hhi h.1 (by simpa using h.1) h.2
    simp only [Nat.zero_mul, Nat.sub_zero] at hv
    obtain ⟨c0, hb0, hz0⟩ := hB.ext he.ext
    have hcp : cp ≠ 0 := by omega
    refine ⟨.slice (some ⟨b, 0, none⟩) c.toNat cp, ?_, ?_⟩
    · simp at hbd
      simp [execOp, ho, hv, Instr.sliceAt, Instr.slice, run_underlying hu, hbd, run_sizeOf' hinf, hsn, Addr.add_none, hcp]
    · unfold Rep
      refine ⟨rfl, .inr ⟨cp, c0, by simp, by omega, hb0, by rw [Nat.zero_add]; exact hz0⟩⟩) hk

/-- What copy takes: the first elements of a source. -/
def SrcK (P : Program) (α : AEnv) (n : Nat) (p : PV) (dlen : Nat) (ys : List PV) : Prop :=
  ∀ (Φ : Ctx) (S : Nat → Nat → Prop) (a : Act) (w : World) (v : Value), Env Φ S α a w → Rep w S true p v →
    ∃ us : List Value, (∀ u ∈ us, Good n u) ∧ Reps w S true ys us ∧ ∃ L, Builtin.lenOf v = pure L ∧ Nat.min L dlen = us.length ∧ (Builtin.firstCells n us.length v).run P w = .ok (flatV us).toArray w

theorem SrcK.of {P : Program} {u n dlen : Nat} {p : PV} {ys : List PV} (h : SrcOf P α u n p ys) (hd : ys.length ≤ dlen) : SrcK P α n p dlen ys := by
  intro Φ S a w v he hr
  obtain ⟨us, h1, h2, h3, h4⟩ := h.2 Φ S a w v he hr
  have hl := h2.length
  exact ⟨us, h1, h2, _, h3, Nat.min_eq_left (by omega), h4 P w rfl⟩

theorem SrcK.sref {P : Program} {u n k b off len q dlen : Nat} {ob : Obj'} (hb : α.H[k]? = some (b, ob)) (hm : ob.n = n) (hfit : off + q ≤ ob.xs.length) (hu : isSl P u = true) (hq : Nat.min len dlen = q) (h0 : 0 < len) :
    SrcK P α n (.sref b n off len) dlen ((ob.xs.drop off).take q) := by
  intro Φ S a w v he hr
  unfold Rep at hr
  rcases hr.2 with ⟨e, _⟩ | ⟨cap, c', hv, hcap, hb', hz⟩
  · omega
  · have hql : q ≤ len := by rw [← hq]; exact Nat.min_le_left _ _
    have hr2 : Rep w S true (.sref b n off q) (.slice (some ⟨b, off * n, none⟩) q cap) := by
      unfold Rep
      exact ⟨rfl, .inr ⟨cap, c', rfl, by omega, hb', hz⟩⟩
    obtain ⟨us, h1, h2, h3, h4⟩ := (SrcOf.sref (P := P) (u := u) hb hm hfit hu).2 Φ S a w _ he hr2
    have hl := h2.length
    have hlq : us.length = q := by rw [hl]; simp; omega
    refine ⟨us, h1, h2, len, by rw [hv]; rfl, by rw [hlq]; exact hq, ?_⟩
    have h5 := h4 P w rfl
    rw [hv]
    exact h5

theorem run_copyOp {c : Call} {sx xx : Operand} {t u : Nat} {a : Act} {w w' : World} {v : Value} {P : Program} (ho : o.op = .call c) (hc : c.callee = .builtin .copy) (hca : c.args = #[sx, xx]) (hct : c.argTypes = #[t, u])
    (h : (Builtin.copy_ #[t, u] o.type #[a.eval sx, a.eval xx]).run P w = .ok v w') : (execOp a.eval o).run P w = .ok (.value v) w' := by
  obtain ⟨cal, cargs, cty⟩ := c
  simp only at hc hca hct
  subst hc hca hct
  simp [execOp, ho, resolve, invoke, builtin, h]

/-- copy into an own row. -/
theorem V1.copyOwn {d t u e n : Nat} {c : Call} {sx xx : Operand} {b off len k : Nat} {ob : Obj'} {p : PV} {ys : List PV} (ho : o.op = .call c) (hc : c.callee = .builtin .copy) (hca : c.args = #[sx, xx]) (hct : c.argTypes = #[t, u]) (hd : o.dst = some d)
    (ht : elemSz Φ.P t = some (e, n)) (hs : aeval α sx = some (.sref b n off len)) (hb : α.H[k]? = some (b, ob)) (hm : ob.n = n) (hoff : off ≤ ob.xs.length) (h0 : 0 < len)
    (hx : aeval α xx = some p) (hsrc : SrcK Φ.P α n p len ys) (hn : d < α.n)
    (hk : K ⟨α.n, (d, .int .i64 ys.length) :: α.E, α.H.set k (b, ⟨n, ob.xs.take off ++ ys ++ ob.xs.drop (off + ys.length)⟩)⟩) : V1 Φ o α K := by
  intro a w ⟨S, he⟩
  subst hm
  obtain ⟨hu, i, hi, hsn⟩ := elemSz_spec ht
  obtain ⟨us, hgu, hru, L, hL, hmin, hfu⟩ := hsrc Φ S a w _ he (he.eval hx)
  have hul : us.length = ys.length := hru.length
  have hsr := he.eval hs
  obtain ⟨hob, hnS, hfr⟩ := he.objK hb
  unfold Rep at hsr
  rcases hsr.2 with ⟨e1, _⟩ | ⟨cap, c', hsv, hcap, hb', hz⟩
  · omega
  · have hle : us.length ≤ len := by rw [← hmin]; exact Nat.min_le_right _ _
    have hroom : off * ob.n + us.length * ob.n ≤ c'.size := by
      rw [← hz, ← Nat.add_mul]
      exact Nat.mul_le_mul_right _ (by omega)
    obtain ⟨w', h1, h2, h3⟩ := hob.storeTo hnS (P := Φ.P) (off := off) (ys := ys) hgu hru hoff hb' hroom
    have hrun : (Builtin.copy_ #[t, u] o.type #[a.eval sx, a.eval xx]).run Φ.P w = .ok (goInt us.length) w' := by
      rw [hsv]
      simp [Builtin.copy_, run_underlying hu, sizeOf, typeInfo, hi, hL, hmin, hsn, hfu, h1]
    have hop := run_copyOp ho hc hca hct hrun
    unfold Oper.wp
    rw [hop, Oper.upon_value, hd]
    refine ⟨_, hk, S, ?_⟩
    have h4 := he.turned hb h2 h3
    rw [hul] at h4
    have h5 := Env.put h4 (d := d) (x := .int .i64 us.length) hn (by unfold Rep; rfl)
    rw [hul] at h5 ⊢
    exact h5

theorem run_append_zeros {P : Program} {w : World} {t u ty e : TypeId} {i : TypeInfo} {z : Value} {ki : IntKind} (ht : P.underlying t = some (.slice e)) (hu : P.underlying u = some (.int ki)) (hi : P.info? e = some i) (hz : i.zero = some z) {base : Option Addr} {sLen sCap m : Nat} {olds : List Value}
    (ho : (Builtin.firstCells i.size sLen (.slice base sLen sCap)).run P w.drew = .ok olds.toArray w.drew) (hm0 : m * i.size ≠ 0)
    (hg : sCap < sLen + m) (h31 : m ≤ 2147483648) (h63 : ((sLen + m : Nat) : Int) ≤ 9223372036854775807) (hmb : m * i.bytes ≤ 281474976710656) (hfit : Builtin.nextslicecap (sLen + m) sCap * i.bytes ≤ 281474976710656) :
    (Builtin.append_ #[t, u] ty #[.slice base sLen sCap, .int .i64 (m : Int)]).run P w =
      .ok (.slice (some ⟨w.heap.size, 0, none⟩) (sLen + m) (grownCap w (sLen + m) sCap e))
        (w.drew.alloc (.cells (olds ++ (Builtin.zeroCells z.cells m).toList ++ (Builtin.zeroCells z.cells (grownCap w (sLen + m) sCap e - (sLen + m))).toList).toArray e)) := by
  have hn : ¬ (sLen + m ≤ sCap) := by omega
  have h63' : ¬ (9223372036854775807 < ((sLen : Int) + (m : Int))) := by omega
  have h48' : ¬ (281474976710656 < Builtin.nextslicecap (sLen + m) sCap * i.bytes) := by omega
  have hw : IntKind.i64.wrap (m : Int) = (m : Int) := wrap64_id (by omega) (by omega)
  have hneg : ¬ ((m : Int) < 0) := by omega
  have hmb' : ¬ ((281474976710656 : Int) < (m : Int) * (i.bytes : Int)) := by
    have : ((m * i.bytes : Nat) : Int) ≤ ((281474976710656 : Nat) : Int) := Int.ofNat_le.2 hmb
    rw [Int.natCast_mul] at this
    omega
  simp [Builtin.append_, run_underlying ht, run_underlying hu, sizeOf, typeInfo, zeroValue, hi, hz, asInt, asIntOf, hw, hneg, hmb', hm0, hn, h63', h48', Question.forced, ho, newRow, grownCap]
  congr 2
  apply Array.ext'
  simp [List.append_assoc]

/-- append of zero elements to the first ones of an own row, where there is no room: a new row. -/
theorem V1.appendZ {d t u e n : Nat} {c : Call} {sx xx : Operand} {b i k m cp : Nat} {ki : IntKind} {ob : Obj'} {z : PV} (ho : o.op = .call c) (hc : c.callee = .builtin .append) (hca : c.args = #[sx, xx]) (hct : c.argTypes = #[t, u]) (hd : o.dst = some d)
    (ht : elemSz Φ.P t = some (e, n)) (hby : elemBy Φ.P t = true) (hz : zeroK Φ.P e = some (n, z)) (hui : Φ.P.underlying u = some (.int ki)) (hs : aeval α sx = some (.sref b n 0 i)) (hb : α.H[k]? = some (b, ob)) (hm : ob.n = n) (hil : i ≤ ob.xs.length)
    (hx : aeval α xx = some (.int .i64 (m : Int))) (hB : CapIs Φ.w0 b n cp) (hgrow : cp < i + m) (hm0 : 0 < m) (hfit : i + m ≤ 2147483648) (hn : d < α.n)
    (hk : ∀ b', K ⟨α.n, (d, .sref b' n 0 (i + m)) :: α.E, (b', ⟨n, ob.xs.take i ++ List.replicate m z⟩) :: α.H⟩) : V1 Φ o α K := by
  intro a w ⟨S, he⟩
  subst hm
  obtain ⟨hu, inf, hi, hsn⟩ := elemSz_spec ht
  obtain ⟨i', zv, q1, q2, q3, q4⟩ := zeroK_spec hz
  rw [hi] at q1
  cases q1
  have hbyte := elemBy_spec hby hu hi
  have hxr := he.eval hx
  unfold Rep at hxr
  have hsr := he.eval hs
  obtain ⟨⟨hn0, cc, vs, ⟨T, fz, hcc, hfz⟩, hl, hg, hr, hcells⟩, hnS, hfr⟩ := he.objK hb
  have hvl := hr.length
  obtain ⟨base, sCap, hsv, hcap, hfirst⟩ : ∃ base sCap, a.eval sx = .slice base i sCap ∧ sCap < i + m ∧ (Builtin.firstCells inf.size i (.slice base i sCap)).run Φ.P w.drew = .ok (flatV (vs.take i)).toArray w.drew := by
    unfold Rep at hsr
    rcases hsr.2 with ⟨e1, ⟨a', hv⟩, _⟩ | ⟨cap, c', hv, hcp, hb', hz'⟩
    · subst e1
      exact ⟨a', 0, hv, by omega, by cases a' <;> simp [Builtin.firstCells, loadCells, loadCellsFrom, flatV]⟩
    · have h1 := (hB.ext he.ext).same hb'
      have h2 : 0 + cap = cp := Nat.eq_of_mul_eq_mul_right hn0 (hz'.trans h1.symm)
      refine ⟨_, cap, hv, by omega, ?_⟩
      have hlt : (vs.take i).length = i := by simp; omega
      rw [hsn]
      have h3 := firstCells_row (P := Φ.P) (w := w.drew) (b := b) (o := 0 * ob.n) (n := ob.n) (us := vs.take i) (len := i) (cap := cap) hn0 (fun u hu => hg u (List.mem_of_mem_take hu)) (fun q v hq => CellsAt.heap rfl ?_)
      · rw [hlt] at h3
        exact h3
      · have hq2 : vs[q]? = some v := by
          rw [List.getElem?_take] at hq
          split at hq
          · exact hq
          · cases hq
        intro j hj
        rw [(hg v (List.mem_of_getElem? hq2)).1] at hj
        have := hcells q v hq2 j hj
        have h12 : w.drew.heap[b]? = some (.cells cc T fz) := hcc
        simp only [World.cell?, h12, Nat.zero_mul, Nat.zero_add]
        simpa using this
  have hgz : ∀ u ∈ List.replicate m zv, Good ob.n u := by intro u hu; rw [List.eq_of_mem_replicate hu]; exact q3
  have hgall : ∀ u ∈ vs.take i ++ List.replicate m zv, Good ob.n u := fun u hu => (List.mem_append.1 hu).elim (fun h => hg u (List.mem_of_mem_take h)) (hgz u)
  have hrz : Reps w S true (List.replicate m z) (List.replicate m zv) := Reps.mk (by simp) fun q x u hx hu => by
    rw [List.eq_of_mem_replicate (List.mem_of_getElem? hx), List.eq_of_mem_replicate (List.mem_of_getElem? hu)]
    exact q4 w S true
  have hmsz : m * inf.size ≠ 0 := by
    rw [hsn]
    exact Nat.mul_ne_zero (by omega) (by omega)
  have hrun := run_append_zeros (P := Φ.P) (w := w) (ty := o.type) (u := u) (m := m) hu hui hi q2 hfirst hmsz hcap (by omega) (by omega) (Nat.le_trans (fits_of (by omega) hbyte) (by decide)) (growslice_fits hcap (fits_of hfit hbyte))
  rw [← hsv, ← hxr] at hrun
  have hop := run_appendOp ho hc hca hct hrun
  obtain ⟨g1, g2, g3⟩ := grow_obj (w := w) (S := S) (n := ob.n) (e := e) (need := i + m) (sCap := sCap) (us := vs.take i ++ List.replicate m zv) (xs := ob.xs.take i ++ List.replicate m z) (z := zv) (fun ρ b h => (he.bound ρ b h).1) hn0 hgall ((hr.take i).append hrz) q3 (by simp; omega) rfl
  rw [flat_append, ← zero_flat q3 hn0] at g1 g2 g3
  unfold Oper.wp
  rw [hop, Oper.upon_value, hd]
  have hst := he.new g1 (Nat.le_refl _) g2
  exact ⟨_, hk w.heap.size, S, hst.put hn g3⟩

theorem World.shapeB {w : World} {b : Nat} {c : Array Value} (hM : ¬ MarkOK) (h : Blk w b c) : ∃ T, w.shape? b = some (T, c.size) ∧ ∀ q, w.frozen? ⟨b, q, none⟩ = false := by
  obtain ⟨T, fz, h1, h2⟩ := h
  have h3 : fz.2 ≤ fz.1 := h2.elim id fun h => absurd h.2 hM
  refine ⟨T, by simp [World.shape?, h1], fun q => ?_⟩
  obtain ⟨lo, hi⟩ := fz
  simp only at h3
  simp only [World.frozen?, h1, Bool.and_eq_false_iff, decide_eq_false_iff_not]
  by_cases h : lo ≤ q
  · right; omega
  · left; omega

/-- Two own rows do not overlap. -/
theorem V1.overlapsNo {d g t tb e n : Nat} {fn : Func} {c : Call} {x y : Operand} {b1 b2 off1 len1 off2 len2 k1 k2 : Nat} {ob1 ob2 : Obj'} (ho : o.op = .call c) (hc : c.callee = .value (.func g)) (hca : c.args = #[x, y]) (hd : o.dst = some d)
    (hf : Φ.P.funcs[g]? = some fn) (hname : (fn.name == "runtime.NumGoroutine") = false) (hbn : fn.body.isNone = true) (hnx : Extern.findNext fn = none) (hex : Extern.find fn = some (Extern.SlicesOverlaps.overlaps #[t, t] #[tb]))
    (ht : elemSz Φ.P t = some (e, n)) (hx : aeval α x = some (.sref b1 n off1 len1)) (hy : aeval α y = some (.sref b2 n off2 len2)) (hb1 : α.H[k1]? = some (b1, ob1)) (hb2 : α.H[k2]? = some (b2, ob2)) (hne : k1 ≠ k2) (h1 : 0 < len1) (h2 : 0 < len2) (hn0 : 0 < n) (hn : d < α.n)
    (hk : K (α.put d (.bool false))) (hM : ¬ MarkOK := by exact fun h => h) : V1 Φ o α K :=
  V1.pure hd hn (fun S a w he => by
    have hbb : b1 ≠ b2 := by
      intro e0
      subst e0
      have hnd := he.nodup
      have e1 : (α.H.map Prod.fst)[k1]? = some b1 := by rw [List.getElem?_map, hb1]; rfl
      have e2 : (α.H.map Prod.fst)[k2]? = some b1 := by rw [List.getElem?_map, hb2]; rfl
      obtain ⟨l1, e1⟩ := List.getElem?_eq_some_iff.1 e1
      obtain ⟨l2, e2⟩ := List.getElem?_eq_some_iff.1 e2
      have hp := List.pairwise_iff_getElem.1 hnd
      rcases Nat.lt_or_gt_of_ne hne with h | h
      · exact hp k1 k2 l1 l2 h (e1.trans e2.symm)
      · exact hp k2 k1 l2 l1 h (e2.trans e1.symm)
    have hx1 := he.eval hx
    have hy1 := he.eval hy
    unfold Rep at hx1 hy1
    obtain ⟨hu, inf, hi, hsn⟩ := elemSz_spec ht
    rcases hx1.2 with ⟨e1, _⟩ | ⟨cap1, c1, hv1, hcap1, hB1, hz1⟩
    · omega
    rcases hy1.2 with ⟨e1, _⟩ | ⟨cap2, c2, hv2, hcap2, hB2, hz2⟩
    · omega
    obtain ⟨T1, s1, f1⟩ := World.shapeB hM hB1
    obtain ⟨T2, s2, f2⟩ := World.shapeB hM hB2
    have hk2 : c2.size ≠ 0 := by
      rw [← hz2]
      exact Nat.mul_ne_zero (by omega) (by omega)
    refine ⟨.bool false, ?_, by unfold Rep; rfl⟩
    have hrun := Lib.run_overlaps_apart (P := Φ.P) w t tb e hu n (fun w => by have := run_sizeOf' (w := w) hi; rw [hsn] at this; exact this) ⟨b1, off1 * n, none⟩ ⟨b2, off2 * n, none⟩ len1 cap1 len2 cap2 hbb T1 T2 _ _ s1 s2 hk2 (f1 _) (f1 _)
    have hcf : (callFunc g #[.slice (some ⟨b1, off1 * n, none⟩) len1 cap1, .slice (some ⟨b2, off2 * n, none⟩) len2 cap2]).run Φ.P w = .ok (.value (.bool false)) w := by
      rw [run_callFunc_extern hf hname hbn hnx hex, hrun]
      rfl
    have e : (#[] ++ c.args.map a.eval ++ #[] : Array Value) = #[.slice (some ⟨b1, off1 * n, none⟩) len1 cap1, .slice (some ⟨b2, off2 * n, none⟩) len2 cap2] := by
      rw [hca, ← hv1, ← hv2]
      apply Array.ext'
      simp
    simp only [execOp, ho, resolve, hc, Act.eval, Deferred.ofValue, Sem.run_bind, Sem.run_pure, Result.andThen_ok, invoke, e, hcf]) hk

theorem perm_two {H H1 : List (Nat × Obj')} {p : Nat × Obj'} {j : Nat} (h : H[j]? = some p) (e : H.eraseIdx j = H1) : List.Perm H (H1 ++ [p]) :=
  (perm_erase h).trans (by rw [e]; exact (List.perm_append_singleton p H1).symm)

/-- A call that eats an optional row and an own one. -/
theorem V1.callI {d g n : Nat} {c : Call} {ps : List PV} {ob : Option Nat} {xs : List PV} (k : Nat) (H1 : List (Nat × Obj')) {p : Nat × Obj'} {rn : Nat} {R : PV → List (Nat × Obj') → Prop} (ho : o.op = .call c) (hc : c.callee = .value (.func g)) (hd : o.dst = some d) (hok : callOK Φ.P g = true)
    (hps : argsPV α c.args.toList = some ps) (hp : α.H[k]? = some p) (he : List.Perm (α.H.eraseIdx k) (H1 ++ optH n ob xs)) (hF : Does Φ.P g ps (p :: optH n ob xs) rn R) (hrn : rn = Φ.rn) (hn : d < α.n) (hk : ∀ x H', R x H' → K ⟨α.n, (d, x) :: α.E, H' ++ H1⟩) : V1 Φ o α K :=
  V1.callG (τ := 0) (Bw := []) (Hr := H1) hd hn (run_call ho hc hok hps) ((perm_erase hp).trans ((he.cons p).trans (List.Perm.cons _ List.perm_append_comm))) (Lends.same ps) (fun _ h => by cases h) hF (.inl hrn) (.inl rfl) hk

theorem ins_grow {xs : List PV} {ey : PV} {k : Nat} (hk : k < xs.length) (z : PV) {X : List PV} (hX : X = xs.take k ++ List.replicate (xs.length + 1 - k) z) :
    (X.take k ++ [ey] ++ X.drop (k + 1)).take (k + 1) ++ (xs.drop k).take (xs.length - k) ++ (X.take k ++ [ey] ++ X.drop (k + 1)).drop (k + 1 + (xs.length - k)) = xs.take k ++ [ey] ++ xs.drop k := by
  have ht : (xs.take k).length = k := by rw [List.length_take]; omega
  have h1 : X.take k = xs.take k := by rw [hX, List.take_append_of_le_length (by omega), List.take_take, Nat.min_self]
  have hl : X.length = xs.length + 1 := by rw [hX, List.length_append, ht, List.length_replicate]; omega
  have h2 : (xs.take k ++ [ey]).length = k + 1 := by rw [List.length_append, ht]; rfl
  have e1 : (xs.take k ++ [ey] ++ X.drop (k + 1)).take (k + 1) = xs.take k ++ [ey] := by rw [List.take_append_of_le_length (by omega), List.take_of_length_le (by omega)]
  have e2 : (xs.take k ++ [ey] ++ X.drop (k + 1)).drop (k + 1 + (xs.length - k)) = [] := List.drop_of_length_le (by rw [List.length_append, h2, List.length_drop, hl]; omega)
  have e3 : (xs.drop k).take (xs.length - k) = xs.drop k := List.take_of_length_le (by rw [List.length_drop]; omega)
  rw [h1, e1, e2, e3, List.append_nil]

theorem ins_room {xs : List PV} {ey : PV} {k : Nat} (hk : k < xs.length) {X : List PV} (hX : X = xs.take (k + 1) ++ (xs.drop k).take (xs.length - k) ++ xs.drop (k + 1 + (xs.length - k))) :
    X.take k ++ [ey] ++ X.drop (k + 1) = xs.take k ++ [ey] ++ xs.drop k := by
  have ht : (xs.take (k + 1)).length = k + 1 := by rw [List.length_take]; omega
  have h0 : xs.drop (k + 1 + (xs.length - k)) = [] := List.drop_of_length_le (by omega)
  rw [h0, List.append_nil, List.take_of_length_le (show (xs.drop k).length ≤ xs.length - k by rw [List.length_drop]; omega)] at hX
  have h1 : X.take k = xs.take k := by rw [hX, List.take_append_of_le_length (by omega), List.take_take, Nat.min_eq_left (by omega)]
  have h2 : X.drop (k + 1) = xs.drop k := by rw [hX, List.drop_append_of_le_length (by omega), List.drop_of_length_le (by omega), List.nil_append]
  rw [h1, h2]
end
end Go.VS
