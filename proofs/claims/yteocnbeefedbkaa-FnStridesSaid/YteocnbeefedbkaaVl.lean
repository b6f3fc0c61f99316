/-
  append in the symbolic environment. Over any program. Conditions: what is appended to is the call's own, or nil; at most 2^31 elements of at most 65536 bytes.
-/
import Derived.Test.YteocnbeefedbkaaVk
import Derived.Laws.AppendOwn
import Derived.Lib.AppendStr
set_option linter.unusedSimpArgs false
set_option linter.unusedVariables false
namespace Go.VS

/-- A slice type or a string type. -/
def SlOrStr (D : TypeDesc) : Prop := (∃ e, D = .slice e) ∨ D = .string

section
variable {P : Program} {w : World}

theorem run_append_room' {t u ty e : TypeId} {i : TypeInfo} {D : TypeDesc} (ht : P.underlying t = some (.slice e)) (hu : P.underlying u = some D) (hD : SlOrStr D) (hi : P.info? e = some i) {base : Option Addr} {sLen sCap m : Nat} {x : Value} {news : List Value}
    (hl : Builtin.lenOf x = pure m) (hx : (Builtin.firstCells i.size m x).run P w = .ok news.toArray w) (hroom : sLen + m ≤ sCap) {w' : World}
    (hst : match base with | some a => (storeCells (a.add (sLen * i.size)) news).run P w = .ok () w' | none => w' = w) :
    (Builtin.append_ #[t, u] ty #[.slice base sLen sCap, x]).run P w = .ok (.slice base (sLen + m) sCap) w' := by
  cases base with
  | none =>
    simp only at hst
    subst hst
    rcases hD with ⟨e2, rfl⟩ | rfl <;> simp [Builtin.append_, run_underlying ht, run_underlying hu, sizeOf, typeInfo, hi, hl, hroom, hx]
  | some a =>
    simp only at hst
    rcases hD with ⟨e2, rfl⟩ | rfl <;> simp [Builtin.append_, run_underlying ht, run_underlying hu, sizeOf, typeInfo, hi, hl, hroom, hx, hst]

theorem run_append_grow' {t u ty e : TypeId} {i : TypeInfo} {z : Value} {D : TypeDesc} (ht : P.underlying t = some (.slice e)) (hu : P.underlying u = some D) (hD : SlOrStr D) (hi : P.info? e = some i) (hz : i.zero = some z) {base : Option Addr} {sLen sCap m : Nat} {x : Value} {olds news : List Value}
    (hl : Builtin.lenOf x = pure m) (hx : (Builtin.firstCells i.size m x).run P w.drew = .ok news.toArray w.drew) (ho : (Builtin.firstCells i.size sLen (.slice base sLen sCap)).run P w.drew = .ok olds.toArray w.drew)
    (hg : sCap < sLen + m) (h63 : ((sLen + m : Nat) : Int) ≤ 9223372036854775807) (hfit : Builtin.nextslicecap (sLen + m) sCap * i.bytes ≤ 281474976710656) :
    (Builtin.append_ #[t, u] ty #[.slice base sLen sCap, x]).run P w =
      .ok (.slice (some ⟨w.heap.size, 0, none⟩) (sLen + m) (grownCap w (sLen + m) sCap e))
        (w.drew.alloc (.cells (olds ++ news ++ (Builtin.zeroCells z.cells (grownCap w (sLen + m) sCap e - (sLen + m))).toList).toArray e)) := by
  have hn : ¬ (sLen + m ≤ sCap) := by omega
  have h63' : ¬ (9223372036854775807 < ((sLen : Int) + (m : Int))) := by omega
  have h48' : ¬ (281474976710656 < Builtin.nextslicecap (sLen + m) sCap * i.bytes) := by omega
  rcases hD with ⟨e2, rfl⟩ | rfl <;>
    (simp [Builtin.append_, run_underlying ht, run_underlying hu, sizeOf, typeInfo, zeroValue, hi, hz, hl, hn, h63', h48', Question.forced, hx, ho, newRow, grownCap]
     congr 2
     apply Array.ext'
     simp [List.append_assoc])
end

/-- The cells of a row of values that lie one behind the other. -/
theorem flat_cells {w : World} {b o n : Nat} {us : List Value} (hn : 0 < n) (hg : ∀ u ∈ us, Good n u) (hc : ∀ (i : Nat) (u : Value), us[i]? = some u → CellsAt w b (o + i * n) u.cells) :
    ∀ j v, (flatV us)[j]? = some v → w.cell? ((⟨b, o, none⟩ : Addr).add j) = some v := by
  intro j v hj
  have hlt := (List.getElem?_eq_some_iff.1 hj).1
  rw [flat_length hg] at hlt
  have h1 : j / n < us.length := (Nat.div_lt_iff_lt_mul hn).2 hlt
  have hu : us[j / n]? = some us[j / n] := List.getElem?_eq_getElem h1
  have h2 := flat_get hg hu (Nat.mod_lt j hn)
  have h3 : j / n * n + j % n = j := by rw [Nat.mul_comm]; exact Nat.div_add_mod j n
  rw [h3, hj] at h2
  have h4 : j % n < us[j / n].cells.size := by rw [(hg _ (List.getElem_mem h1)).1]; exact Nat.mod_lt j hn
  have h5 := hc _ _ hu (j % n) h4
  rw [Addr.add_none]
  rw [Nat.add_assoc, h3] at h5
  rw [h5, h2]

/-- What may be appended: its elements as trees. -/
def SrcOf (P : Program) (α : AEnv) (u n : Nat) (p : PV) (ys : List PV) : Prop :=
  (∃ D, P.underlying u = some D ∧ SlOrStr D) ∧
  ∀ (Φ : Ctx) (S : Nat → Nat → Prop) (a : Act) (w : World) (v : Value), Env Φ S α a w → Rep w S true p v →
    ∃ us : List Value, (∀ u ∈ us, Good n u) ∧ Reps w S true ys us ∧ Builtin.lenOf v = pure us.length ∧ ∀ P' w', w'.heap = w.heap → (Builtin.firstCells n us.length v).run P' w' = .ok (flatV us).toArray w'

section
variable {P : Program} {α : AEnv} {n u : Nat}

theorem firstCells_row {P : Program} {w : World} {b o n cap : Nat} {us : List Value} {len : Nat} (hn : 0 < n) (hg : ∀ u ∈ us, Good n u) (hc : ∀ (i : Nat) (u : Value), us[i]? = some u → CellsAt w b (o + i * n) u.cells) :
    (Builtin.firstCells n us.length (.slice (some ⟨b, o, none⟩) len cap)).run P w = .ok (flatV us).toArray w :=
  run_firstCells_some (P := P) w n us.length ⟨b, o, none⟩ len cap (flatV us) (flat_length hg) (flat_cells hn hg hc)

theorem CellsAt.heap {w w' : World} {b o : Nat} {cs : Array Value} (h : w'.heap = w.heap) (hc : CellsAt w b o cs) : CellsAt w' b o cs := hc.congr (by rw [h])

theorem SrcOf.vl {ρ : Nat} {xs : List PV} (hu : isSl P u = true) : SrcOf P α u n (.vl ρ n xs) xs := by
  obtain ⟨e, he⟩ := isSl_spec hu
  refine ⟨⟨_, he, .inl ⟨e, rfl⟩⟩, fun Φ S a w v _ h => ?_⟩
  unfold Rep at h
  obtain ⟨hn, us, hg, hr, ⟨rfl, a', cap, rfl⟩ | ⟨b, off, cap, hS, rfl, hcap, hc⟩⟩ := h
  · refine ⟨[], by simp, hr.own, rfl, fun P' w' _ => ?_⟩
    cases a' <;> simp [Builtin.firstCells, loadCells, loadCellsFrom, flatV]
  · exact ⟨us, hg, hr.own, rfl, fun P' w' hw => firstCells_row hn hg fun i u hu => (hc i u hu).heap hw⟩

theorem SrcOf.nils (hu : isSl P u = true) : SrcOf P α u n .nils [] := by
  obtain ⟨e, he⟩ := isSl_spec hu
  refine ⟨⟨_, he, .inl ⟨e, rfl⟩⟩, fun Φ S a w v _ h => ?_⟩
  unfold Rep at h
  subst h
  exact ⟨[], by simp, by rw [Reps.nil_iff], rfl, fun P' w' _ => by simp [Builtin.firstCells, flatV]⟩

theorem SrcOf.sref {k b off len : Nat} {ob : Obj'} (hb : α.H[k]? = some (b, ob)) (hm : ob.n = n) (hfit : off + len ≤ ob.xs.length) (hu : isSl P u = true) : SrcOf P α u n (.sref b n off len) ((ob.xs.drop off).take len) := by
  obtain ⟨e, he⟩ := isSl_spec hu
  refine ⟨⟨_, he, .inl ⟨e, rfl⟩⟩, fun Φ S a w v hE h => ?_⟩
  subst hm
  obtain ⟨hn, c, us, ⟨T, fz, hc, _⟩, hl, hg, hr, hcells⟩ := (hE.objK hb).1
  have hlen := hr.length
  have hlen' : ((us.drop off).take len).length = len := by simp; omega
  unfold Rep at h
  refine ⟨(us.drop off).take len, fun u hu => hg u (List.mem_of_mem_drop (List.mem_of_mem_take hu)), (hr.drop off).take len, ?_, fun P' w' hw => ?_⟩
  · rw [hlen']
    rcases h.2 with ⟨rfl, ⟨a', rfl⟩, _⟩ | ⟨cap, c', rfl, _⟩ <;> rfl
  · rcases h.2 with ⟨h0, ⟨a', rfl⟩, _⟩ | ⟨cap, c', rfl, hcap, hb', hfit'⟩
    · subst h0
      cases a' <;> simp [Builtin.firstCells, loadCells, loadCellsFrom, flatV]
    · refine firstCells_row hn (fun u hu => hg u (List.mem_of_mem_drop (List.mem_of_mem_take hu))) fun i u hu => CellsAt.heap hw ?_
      rw [List.getElem?_take] at hu
      split at hu
      · rw [List.getElem?_drop] at hu
        intro j hj
        rw [(hg u (List.mem_of_getElem? hu)).1] at hj
        have := hcells _ u hu j hj
        simp only [World.cell?, hc]
        rw [← Nat.add_mul]
        simpa using this
      · cases hu

theorem SrcOf.srefAll {k b len : Nat} {ob : Obj'} (hb : α.H[k]? = some (b, ob)) (hm : ob.n = n) (hfit : ob.xs.length = len) (hu : isSl P u = true) : SrcOf P α u n (.sref b n 0 len) ob.xs := by
  have := SrcOf.sref (off := 0) (len := len) hb hm (by omega) hu
  rw [List.drop_zero, List.take_of_length_le (by omega)] at this
  exact this

theorem SrcOf.str {s : List UInt8} (hu : isStr P u = true) : SrcOf P α u 1 (.str s) (s.map fun b => .int .u8 b.toNat) := by
  refine ⟨⟨_, isStr_spec hu, .inr rfl⟩, fun Φ S a w v _ h => ?_⟩
  unfold Rep at h
  subst h
  have hsz : (⟨s.toArray⟩ : ByteArray).size = s.length := by simp [ByteArray.size]
  refine ⟨s.map fun b => .int .u8 b.toNat, ?_, ?_, ?_, fun P' w' _ => ?_⟩
  · intro u hu
    obtain ⟨b, _, rfl⟩ := List.mem_map.1 hu
    exact ⟨rfl, fun j c hc => by cases j <;> simp [Value.cells] at hc; subst hc; rfl⟩
  · refine Reps.mk (by simp) fun i x u hx hu => ?_
    rw [List.getElem?_map] at hx hu
    cases hs : s[i]? with
    | none => rw [hs] at hx; cases hx
    | some b => rw [hs] at hx hu; cases hx; cases hu; unfold Rep; rfl
  · simp [Builtin.lenOf, hsz]
  · have := Lib.run_firstCells_string (P := P') w' 1 ⟨s.toArray⟩
    rw [hsz] at this
    simp only [List.length_map]
    rw [this]
    congr 2
    simp only [Lib.strCells, flatV, List.flatMap_map, Value.cells]
    rw [List.map_eq_flatMap]
end

section
variable {Φ : Ctx} {α : AEnv} {K : AEnv → Prop} {o : Oper}

theorem run_appendOp {c : Call} {sx xx : Operand} {t u : Nat} {a : Act} {w w' : World} {v : Value} {P : Program} (ho : o.op = .call c) (hc : c.callee = .builtin .append) (hca : c.args = #[sx, xx]) (hct : c.argTypes = #[t, u])
    (h : (Builtin.append_ #[t, u] o.type #[a.eval sx, a.eval xx]).run P w = .ok v w') : (execOp a.eval o).run P w = .ok (.value v) w' := by
  obtain ⟨cal, cargs, cty⟩ := c
  simp only at hc hca hct
  subst hc hca hct
  simp [execOp, ho, resolve, invoke, builtin, h]

/-- A new row at the end of an append that grows. -/
theorem grow_obj {w : World} {S : Nat → Nat → Prop} {n e need sCap : Nat} {us : List Value} {xs : List PV} {z : Value} (hS : ∀ ρ b, S ρ b → b < w.heap.size) (hn : 0 < n) (hg : ∀ u ∈ us, Good n u) (hr : Reps w S true xs us) (hz : Good n z) (hlen : us.length = need)
    {w' : World} (hw' : w' = w.drew.alloc (.cells (flatV us ++ (Builtin.zeroCells z.cells (grownCap w need sCap e - need)).toList).toArray e)) :
    Ext (fun _ => False) w w' ∧ ObjAt w' S w.heap.size ⟨n, xs⟩ ∧ Rep w' S true (.sref w.heap.size n 0 need) (.slice (some ⟨w.heap.size, 0, none⟩) need (grownCap w need sCap e)) := by
  have hext : Ext (fun _ => False) w w' := by
    rw [hw']
    exact (Ext.drew w).trans (Ext.alloc w.drew _) (fun _ h => h) fun _ _ h => h
  have hblk : w'.heap[w.heap.size]? = some (.cells (flatV us ++ (Builtin.zeroCells z.cells (grownCap w need sCap e - need)).toList).toArray e (0, 0)) := by
    rw [hw']
    show (w.heap.push _)[w.heap.size]? = _
    simp
  refine ⟨hext, ObjAt.row (w := w) hn hg (hr.ext hext (fun _ _ h => h) fun ρ b hb => ⟨hS ρ b hb, id⟩) hblk, ?_⟩
  unfold Rep
  refine ⟨rfl, .inr ⟨_, _, by simp, grownCap_ge w need sCap e, ⟨e, (0, 0), hblk, .inl (Nat.le_refl _)⟩, ?_⟩⟩
  have hge := grownCap_ge w need sCap e
  have hsz : (Builtin.zeroCells z.cells (grownCap w need sCap e - need)).size = (grownCap w need sCap e - need) * n := by rw [size_zeroCells, hz.1]
  simp only [List.size_toArray, List.length_append, flat_length hg, hlen, Array.length_toList, hsz, Nat.zero_add, ← Nat.add_mul]
  congr 1
  omega

theorem fits_of {need by_ : Nat} (h1 : need ≤ 2147483648) (h2 : by_ ≤ 65536) : need * by_ ≤ 140737488355328 := by
  calc need * by_ ≤ 2147483648 * 65536 := Nat.mul_le_mul h1 h2
    _ ≤ 140737488355328 := by decide

/-- append to an own row. -/
theorem V1.append {d t u e n : Nat} {c : Call} {sx xx : Operand} {b len k : Nat} {ob : Obj'} {p z : PV} {ys : List PV} (ho : o.op = .call c) (hc : c.callee = .builtin .append) (hca : c.args = #[sx, xx]) (hct : c.argTypes = #[t, u]) (hd : o.dst = some d)
    (ht : elemSz Φ.P t = some (e, n)) (hby : elemBy Φ.P t = true) (hz : zeroK Φ.P e = some (n, z)) (hs : aeval α sx = some (.sref b n 0 len)) (hb : α.H[k]? = some (b, ob)) (hm : ob.n = n) (hlen : ob.xs.length = len)
    (hx : aeval α xx = some p) (hsrc : SrcOf Φ.P α u n p ys) (hfit : len + ys.length ≤ 2147483648) (hn : d < α.n)
    (hk : ∀ b', K ⟨α.n, (d, .sref b' n 0 (len + ys.length)) :: α.E, (b', ⟨n, ob.xs ++ ys⟩) :: α.H.eraseIdx k⟩) : V1 Φ o α K := by
  intro a w ⟨S, he⟩
  subst hm
  obtain ⟨hu, i, hi, hsn⟩ := elemSz_spec ht
  obtain ⟨i', zv, q1, q2, q3, q4⟩ := zeroK_spec hz
  rw [hi] at q1
  cases q1
  have hbyte := elemBy_spec hby hu hi
  obtain ⟨⟨D, hD, hDi⟩, hsrc⟩ := hsrc
  have hxr := he.eval hx
  obtain ⟨us, hgu, hru, hlu, hfu⟩ := hsrc Φ S a w _ he hxr
  have hsr := he.eval hs
  obtain ⟨hob, hnS, hfr⟩ := he.objK hb
  have hblt := hob.lt
  obtain ⟨hn0, cc, vs, ⟨T, fz, hcc, hfz⟩, hl, hg, hr, hcells⟩ := hob
  have hvl := hr.length
  have hvl' : vs.length = len := hvl.trans hlen
  have hul := hru.length
  have hsub : (α.H.eraseIdx k).Sublist α.H := List.eraseIdx_sublist _ _
  have hdiff : b ∉ (α.H.eraseIdx k).map Prod.fst := by
    intro hm
    have hnd := he.nodup
    obtain ⟨hkl, hke⟩ := List.getElem?_eq_some_iff.1 hb
    have hsplit : α.H = α.H.take k ++ (b, ob) :: α.H.drop (k + 1) := by rw [← hke, List.getElem_cons_drop, List.take_append_drop]
    rw [List.eraseIdx_eq_take_drop_succ] at hm
    rw [hsplit] at hnd
    simp only [List.map_append, List.map_cons, List.mem_append] at hm hnd
    rw [List.nodup_append] at hnd
    obtain ⟨_, h2, h3⟩ := hnd
    rcases hm with hm | hm
    · exact h3 b hm b (by simp) rfl
    · exact (List.nodup_cons.1 h2).1 hm
  have hgall : ∀ u ∈ vs ++ us, Good ob.n u := fun u hu => (List.mem_append.1 hu).elim (hg u) (hgu u)
  unfold Rep at hsr
  -- the arm that grows
  have grow : ∀ (base : Option Addr) (sCap : Nat), a.eval sx = .slice base len sCap → sCap < len + us.length → (Builtin.firstCells ob.n len (.slice base len sCap)).run Φ.P w.drew = .ok (flatV vs).toArray w.drew →
      o.wp Φ.P a w (fun a' w' => ∃ α', K α' ∧ ER Φ α' a' w') (fun _ _ _ => False) := by
    intro base sCap hsv hcap hfirst
    have hneed : len + us.length ≤ 2147483648 := by omega
    have hrun := run_append_grow' (w := w) (ty := o.type) hu hD hDi hi q2 (olds := flatV vs) (news := flatV us) hlu (by rw [hsn]; exact hfu Φ.P w.drew rfl) (by rw [hsn]; exact hfirst) hcap (by omega)
      (growslice_fits hcap (fits_of hneed hbyte))
    rw [← hsv] at hrun
    have hop := run_appendOp ho hc hca hct hrun
    obtain ⟨g1, g2, g3⟩ := grow_obj (w := w) (S := S) (n := ob.n) (e := e) (need := len + us.length) (sCap := sCap) (us := vs ++ us) (xs := ob.xs ++ ys) (z := zv) (fun ρ b h => (he.bound ρ b h).1) hn0 hgall (hr.append hru) q3 (by simp; omega) rfl
    rw [flat_append] at g1 g2 g3
    unfold Oper.wp
    rw [hop, Oper.upon_value, hd]
    have hst := (he.keep (E' := α.E) (H' := α.H.eraseIdx k) (fun _ _ h => h) hsub).new g1 (Nat.le_refl _) g2
    have h5 := hk w.heap.size
    rw [← hul] at h5
    exact ⟨_, h5, S, hst.put hn g3⟩
  rcases hsr.2 with ⟨rfl, ⟨a', hsv⟩, c0, hc0, hz0⟩ | ⟨cap, c', hsv, hcap, hb', hfit'⟩
  · -- an empty slice of whatever base
    have hvs : vs = [] := by apply List.eq_nil_of_length_eq_zero; omega
    by_cases h0 : us.length = 0
    · have hus : us = [] := by apply List.eq_nil_of_length_eq_zero; exact h0
      subst hus
      have hys : ys = [] := by apply List.eq_nil_of_length_eq_zero; simpa using hul.symm
      subst hys
      have hrun := run_append_room' (w := w) (w' := w) (ty := o.type) hu hD hDi hi (base := a') (sLen := 0) (sCap := 0) (m := 0) (x := a.eval xx) (news := []) hlu (by rw [hsn]; simpa [flatV] using hfu Φ.P w rfl) (by omega) (by cases a' <;> simp [storeCells])
      rw [← hsv] at hrun
      have hop := run_appendOp ho hc hca hct hrun
      unfold Oper.wp
      rw [hop, Oper.upon_value, hd]
      have h5 := hk b
      refine ⟨_, h5, S, Env.put (α := ⟨α.n, α.E, (b, ⟨ob.n, ob.xs ++ []⟩) :: α.H.eraseIdx k⟩) ?_ hn (by unfold Rep; exact ⟨rfl, .inl ⟨rfl, ⟨a', by first | exact hsv | rfl⟩, c0, hc0, hz0⟩⟩)⟩
      refine he.step (Ext.refl (fun _ => False) w) (fun _ _ h => h.elim) (fun _ _ h => h) (fun _ _ h => .inl h) ?_ ?_
      · intro b1 o1 hm1
        rcases List.mem_cons.1 hm1 with e1 | hm1
        · cases e1
          rw [List.append_nil]
          exact ⟨(he.objK hb).1, hnS, hfr⟩
        · exact he.objs b1 o1 (hsub.subset hm1)
      · simp only [List.map_cons, List.nodup_cons]
        exact ⟨hdiff, he.nodup.sublist (hsub.map _)⟩
    · exact grow a' 0 hsv (by omega) (by rw [hvs]; cases a' <;> simp [Builtin.firstCells, loadCells, loadCellsFrom, flatV])
  · simp only [Nat.zero_mul, Nat.zero_add] at hsv hfit'
    obtain ⟨T', fz', hcc', _⟩ := hb'
    rw [hcc] at hcc'
    cases hcc'
    by_cases hroom : len + us.length ≤ cap
    · -- in place
      have hlen2 : (flatV us).length = us.length * ob.n := flat_length hgu
      have hfits : len * ob.n + (flatV us).length ≤ cc.size := by
        rw [hlen2, ← Nat.add_mul]
        exact Nat.le_trans (Nat.mul_le_mul_right _ hroom) (Nat.le_of_eq hfit')
      have hst := run_storeCells_in Φ.P b (len * ob.n) T fz (flatV us) 0 cc w hcc hfz (by simpa using hfits) (flat_one hgu)
      simp only [Nat.add_zero] at hst
      have hrun := run_append_room' (w := w) (ty := o.type) hu hD hDi hi (base := some ⟨b, 0, none⟩) (sLen := len) (sCap := cap) (m := us.length) (x := a.eval xx) (news := flatV us) hlu (by rw [hsn]; exact hfu Φ.P w rfl) hroom
        (w' := w.setRow b (cc.toList.take (len * ob.n) ++ flatV us ++ cc.toList.drop (len * ob.n + (flatV us).length)).toArray) (by simp only [Addr.add_none, Nat.zero_add, hsn]; exact hst)
      rw [← hsv] at hrun
      have hop := run_appendOp ho hc hca hct hrun
      have hsz : (cc.toList.take (len * ob.n) ++ flatV us ++ cc.toList.drop (len * ob.n + (flatV us).length)).toArray.size = cc.size := by simp; omega
      have hext := Ext.setRow (c' := (cc.toList.take (len * ob.n) ++ flatV us ++ cc.toList.drop (len * ob.n + (flatV us).length)).toArray) hcc hsz
      have hblk := setRow_heap w b cc (cc.toList.take (len * ob.n) ++ flatV us ++ cc.toList.drop (len * ob.n + (flatV us).length)).toArray T fz hcc
      have hmem : b ∈ α.H.map Prod.fst := List.mem_map.2 ⟨(b, ob), List.mem_of_getElem? hb, rfl⟩
      have hJ : ∀ q, q < w.heap.size → q = b → q ∈ α.H.map Prod.fst := fun q _ e => by rw [e]; exact hmem
      have hobj : ObjAt (w.setRow b (cc.toList.take (len * ob.n) ++ flatV us ++ cc.toList.drop (len * ob.n + (flatV us).length)).toArray) S b ⟨ob.n, ob.xs ++ ys⟩ := by
        refine ⟨hn0, _, vs ++ us, ⟨T, fz, hblk, by rw [hsz]; exact hfz⟩, ?_, hgall, ?_, ?_⟩
        · simp only [List.length_append]
          rw [hsz, hvl']
          exact Nat.le_trans (Nat.mul_le_mul_right _ hroom) (Nat.le_of_eq hfit')
        · exact (hr.append hru).ext hext (fun _ _ h => h) fun ρ q hq => ⟨(he.bound ρ q hq).1, fun e => hnS ρ (e ▸ hq)⟩
        · intro q v hv j hj
          simp only at hj hv ⊢
          rw [List.getElem?_toArray, seg_get _ _ _ _ (by simpa using hfits)]
          by_cases hq : q < vs.length
          · rw [List.getElem?_append_left hq] at hv
            have h7 : q * ob.n + j < len * ob.n := by
              have := Nat.mul_le_mul_right ob.n (show q + 1 ≤ len by omega)
              rw [Nat.add_mul] at this
              omega
            rw [if_neg (by omega)]
            have := hcells q v hv j hj
            simpa using this
          · rw [List.getElem?_append_right (by omega)] at hv
            have hlt := (List.getElem?_eq_some_iff.1 hv).1
            have h8 : q * ob.n + j - len * ob.n = (q - vs.length) * ob.n + j := by
              rw [hvl', Nat.sub_mul]
              have := Nat.mul_le_mul_right ob.n (show len ≤ q by omega)
              omega
            have h9 : (q - vs.length) * ob.n + ob.n ≤ us.length * ob.n := by
              have := Nat.mul_le_mul_right ob.n (show q - vs.length + 1 ≤ us.length by omega)
              rwa [Nat.add_mul, Nat.one_mul] at this
            have h10 : len * ob.n ≤ q * ob.n := Nat.mul_le_mul_right ob.n (by omega)
            rw [if_pos (by constructor <;> omega), h8]
            exact flat_get hgu hv hj
      unfold Oper.wp
      rw [hop, Oper.upon_value, hd]
      have h5 := hk b
      rw [← hul] at h5
      refine ⟨_, h5, S, Env.put (α := ⟨α.n, α.E, (b, ⟨ob.n, ob.xs ++ ys⟩) :: α.H.eraseIdx k⟩) ?_ hn ?_⟩
      · refine he.step hext hJ (fun _ _ h => h) (fun _ _ h => .inl h) ?_ ?_
        · intro b1 o1 hm1
          rcases List.mem_cons.1 hm1 with e1 | hm2
          · cases e1
            exact ⟨hobj, hnS, hfr⟩
          · obtain ⟨r1, r2, r3⟩ := he.objs b1 o1 (hsub.subset hm2)
            refine ⟨he.obj_step hext hJ (fun _ _ h => h) (hsub.subset hm2) (fun e => ?_), r2, r3⟩
            subst e
            exact hdiff (List.mem_map.2 ⟨(b1, o1), hm2, rfl⟩)
        · simp only [List.map_cons, List.nodup_cons]
          exact ⟨hdiff, he.nodup.sublist (hsub.map _)⟩
      · unfold Rep
        refine ⟨rfl, .inr ⟨cap, _, by simp, hroom, ⟨T, fz, hblk, by rw [hsz]; exact hfz⟩, ?_⟩⟩
        rw [hsz]
        simpa using hfit'
    · refine grow (some ⟨b, 0, none⟩) cap hsv (by omega) ?_
      rw [← hvl']
      refine firstCells_row hn0 hg fun q v hv => CellsAt.heap rfl ?_
      intro j hj
      rw [(hg v (List.mem_of_getElem? hv)).1] at hj
      have := hcells q v hv j hj
      have h12 : w.drew.heap[b]? = some (.cells cc T fz) := hcc
      simp only [World.cell?, h12, Nat.zero_add]
      simpa using this

/-- append to the nil slice, of one element at least. -/
theorem V1.appendNil {d t u e n : Nat} {c : Call} {sx xx : Operand} {p z : PV} {ys : List PV} (ho : o.op = .call c) (hc : c.callee = .builtin .append) (hca : c.args = #[sx, xx]) (hct : c.argTypes = #[t, u]) (hd : o.dst = some d)
    (ht : elemSz Φ.P t = some (e, n)) (hby : elemBy Φ.P t = true) (hz : zeroK Φ.P e = some (n, z)) (h0n : Nat.blt 0 n = true) (hs : aeval α sx = some .nils ∨ aeval α sx = some .emp)
    (hx : aeval α xx = some p) (hsrc : SrcOf Φ.P α u n p ys) (h0 : 0 < ys.length) (hfit : ys.length ≤ 2147483648) (hn : d < α.n)
    (hk : ∀ b', K ⟨α.n, (d, .sref b' n 0 ys.length) :: α.E, (b', ⟨n, ys⟩) :: α.H⟩) : V1 Φ o α K := by
  intro a w ⟨S, he⟩
  obtain ⟨hu, i, hi, hsn⟩ := elemSz_spec ht
  obtain ⟨i', zv, q1, q2, q3, q4⟩ := zeroK_spec hz
  rw [hi] at q1
  cases q1
  have hbyte := elemBy_spec hby hu hi
  obtain ⟨⟨D, hD, hDi⟩, hsrc⟩ := hsrc
  obtain ⟨us, hgu, hru, hlu, hfu⟩ := hsrc Φ S a w _ he (he.eval hx)
  have hul := hru.length
  have hsv : ∃ base, a.eval sx = .slice base 0 0 := by
    rcases hs with hs | hs
    · have := he.eval hs; unfold Rep at this; exact ⟨none, this⟩
    · have := he.eval hs; unfold Rep at this; exact this
  obtain ⟨base, hsv⟩ := hsv
  have hrun := run_append_grow' (w := w) (ty := o.type) hu hD hDi hi q2 (base := base) (sLen := 0) (sCap := 0) (olds := []) (news := flatV us) hlu (by rw [hsn]; exact hfu Φ.P w.drew rfl) (by cases base <;> simp [Builtin.firstCells, loadCells, loadCellsFrom])
    (by omega) (by omega) (growslice_fits (by omega) (fits_of (by omega) hbyte))
  rw [← hsv] at hrun
  have hop := run_appendOp ho hc hca hct hrun
  obtain ⟨g1, g2, g3⟩ := grow_obj (w := w) (S := S) (n := n) (e := e) (need := 0 + us.length) (sCap := 0) (us := us) (xs := ys) (z := zv) (fun ρ b h => (he.bound ρ b h).1) (ltb h0n) hgu hru q3 (by omega) rfl
  unfold Oper.wp
  rw [hop, Oper.upon_value, hd]
  have hst := he.new g1 (Nat.le_refl _) g2
  have h5 := hk w.heap.size
  rw [← hul] at h5
  simp only [Nat.zero_add, List.nil_append] at hst g3 ⊢
  exact ⟨_, h5, S, hst.put hn g3⟩
end
end Go.VS
