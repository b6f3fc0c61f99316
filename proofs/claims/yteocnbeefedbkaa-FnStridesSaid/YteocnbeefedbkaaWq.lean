/-
  Maps over int keys whose block lies in a lot: made, looked up, updated. Over any program. No condition.
-/
import Derived.Test.YteocnbeefedbkaaWs
import Derived.MapKept
import Derived.Carry
set_option linter.unusedSimpArgs false
set_option linter.unusedVariables false
namespace Go.VS

mutual
/-- No map is told. -/
def PV.noMp : PV → Bool
  | .mp .. => false
  | .vl _ _ xs => PV.noMpL xs
  | .pin _ x _ => x.noMp
  | .agg cs => PV.noMpL cs
  | .tup vs => PV.noMpL vs
  | .fn _ cs => PV.noMpL cs
  | _ => true
def PV.noMpL : List PV → Bool
  | [] => true
  | x :: xs => x.noMp && PV.noMpL xs
end

theorem noMpL_map {β : Type} {f : β → PV} (h : ∀ x, (f x).noMp = true) : ∀ l : List β, PV.noMpL (List.map f l) = true
  | [] => rfl
  | x :: l => by rw [List.map_cons, PV.noMpL, h x, noMpL_map h l]; rfl

/-- What a map tells at a key. -/
def mpGet (k : Int) : List Int → List PV → PV
  | j :: ks, x :: xs => if j = k then x else mpGet k ks xs
  | _, _ => .nils
def mpPutK (k : Int) : List Int → List Int
  | [] => [k]
  | j :: ks => if j = k then j :: ks else j :: mpPutK k ks
def mpPutX (k : Int) (p : PV) : List Int → List PV → List PV
  | j :: ks, x :: xs => if j = k then p :: xs else x :: mpPutX k p ks xs
  | _, xs => xs ++ [p]

section
variable {w w' : World} {S S' : Nat → Nat → Prop}

/-- Whatever is read as cells is read so. -/
structure SameC (w w' : World) : Prop where
  blk : ∀ b c, Blk w b c → Blk w' b c
  cell : ∀ p v, w.cell? p = some v → w'.cell? p = some v

theorem SameC.putObj {l : Nat} {o o' : Obj} (h : w.heap[l]? = some o) (ho : o.isCells = false) : SameC w (w.putObj l o') where
  blk b c hb := by
    obtain ⟨T, fz, h1, h2⟩ := hb
    have : b ≠ l := fun e => by subst e; rw [h] at h1; cases h1; cases ho
    exact ⟨T, fz, by rw [World.putObj_heap_other this]; exact h1, h2⟩
  cell p v hv := by
    have : p.block ≠ l := fun e => by
      obtain ⟨o1, h1, h2⟩ := cells_of_cell hv
      rw [e, h] at h1; cases h1; rw [ho] at h2; cases h2
    unfold World.cell? at *
    rw [World.putObj_heap_other this]; exact hv

theorem CellsAt.sameC {b o : Nat} {cs : Array Value} (hs : SameC w w') (h : CellsAt w b o cs) : CellsAt w' b o cs := fun j hj => by
  have h1 := h j hj
  rw [Array.getElem?_eq_getElem hj] at h1 ⊢
  exact hs.cell _ _ h1

mutual
theorem Rep.sameC {own : Bool} (hs : SameC w w') : ∀ (x : PV) (v : Value), x.noMp = true → Rep w S own x v → Rep w' S own x v
  | .undef, _, _, h => by unfold Rep at *; exact h
  | .bool _, _, _, h => by unfold Rep at *; exact h
  | .int _ _, _, _, h => by unfold Rep at *; exact h
  | .str _, _, _, h => by unfold Rep at *; exact h
  | .nils, _, _, h => by unfold Rep at *; exact h
  | .emp, _, _, h => by unfold Rep at *; exact h
  | .vl ρ n xs, v, hm, h => by
    unfold Rep at *
    obtain ⟨hn, us, h1, h2, h3⟩ := h
    refine ⟨hn, us, h1, Reps.sameC hs xs us (by simpa [PV.noMp] using hm) h2, ?_⟩
    rcases h3 with h3 | ⟨b, off, cap, hb, hv, hc⟩
    · exact .inl h3
    · exact .inr ⟨b, off, cap, hb, hv, hc.1, fun i u hu => CellsAt.sameC hs (hc.2 i u hu)⟩
  | .pin ρ x j, v, hm, h => by
    unfold Rep at *
    obtain ⟨u, b, off, hb, hv, hc, hr⟩ := h
    exact ⟨u, b, off, hb, hv, CellsAt.sameC hs hc, Rep.sameC hs x u (by simpa [PV.noMp] using hm) hr⟩
  | .ref b n i j, v, _, h => by unfold Rep at *; exact h
  | .sref b n off len, v, _, h => by
    unfold Rep at *
    obtain ⟨h0, ⟨h1, h2, c, hc, hz⟩ | ⟨cap, c, hv, hl, hc, hz⟩⟩ := h
    · exact ⟨h0, .inl ⟨h1, h2, c, hs.blk _ _ hc, hz⟩⟩
    · exact ⟨h0, .inr ⟨cap, c, hv, hl, hs.blk _ _ hc, hz⟩⟩
  | .agg cs, v, hm, h => by
    unfold Rep at *
    obtain ⟨us, hv, hp, hr⟩ := h
    exact ⟨us, hv, hp, Reps.sameC hs cs us (by simpa [PV.noMp] using hm) hr⟩
  | .tup vs, v, hm, h => by
    unfold Rep at *
    obtain ⟨us, hv, hr⟩ := h
    exact ⟨us, hv, Reps.sameC hs vs us (by simpa [PV.noMp] using hm) hr⟩
  | .fn f cap, v, hm, h => by
    unfold Rep at *
    obtain ⟨us, hv, hr⟩ := h
    exact ⟨us, hv, Reps.sameC hs cap us (by simpa [PV.noMp] using hm) hr⟩
  | .val u, v, _, h => by unfold Rep at *; exact h
  | .mp .., v, hm, h => by simp [PV.noMp] at hm
theorem Reps.sameC {own : Bool} (hs : SameC w w') : ∀ (xs : List PV) (us : List Value), PV.noMpL xs = true → Reps w S own xs us → Reps w' S own xs us
  | [], us, _, h => by unfold Reps at *; exact h
  | x :: xs, us, hm, h => by
    unfold Reps at *
    simp only [PV.noMpL, Bool.and_eq_true] at hm
    obtain ⟨u, us', e, h1, h2⟩ := h
    exact ⟨u, us', e, Rep.sameC hs x u hm.1 h1, Reps.sameC hs xs us' hm.2 h2⟩
end

theorem ObjAt.sameC {b : Nat} {o : Obj'} (hs : SameC w w') (hm : PV.noMpL o.xs = true) (h : ObjAt w S b o) : ObjAt w' S b o := by
  obtain ⟨hn, c, us, h1, h2, h3, h4, h5⟩ := h
  exact ⟨hn, c, us, hs.blk _ _ h1, h2, h3, Reps.sameC hs _ _ hm h4, h5⟩

/-- What is found at a key. -/
theorem mp_find {own : Bool} {kt : IntKind} {k : Int} : ∀ (es : List MapEntry) (ks : List Int) (xs : List PV) (i : Nat), es.map MapEntry.key = ks.map (Value.int .i64) → Reps w S own xs (es.map MapEntry.val) →
    (Instr.findNow (.int kt) (.int .i64 k) es i = some none ∧ mpGet k ks xs = .nils ∧ mpPutK k ks = ks ++ [k] ∧ ∀ p, mpPutX k p ks xs = xs ++ [p]) ∨
    ∃ j e, Instr.findNow (.int kt) (.int .i64 k) es i = some (some (i + j, e.val)) ∧ es[j]? = some e ∧ e.key = .int .i64 k ∧ Rep w S own (mpGet k ks xs) e.val ∧ mpPutK k ks = ks ∧
      ∀ p v, Rep w S own p v → Reps w S own (mpPutX k p ks xs) ((es.map MapEntry.val).set j v)
  | [], ks, xs, i, hk, hx => by
    have : ks = [] := by cases ks with | nil => rfl | cons _ _ => simp at hk
    subst this
    have : xs = [] := by
      cases xs with
      | nil => rfl
      | cons x xs => unfold Reps at hx; obtain ⟨u, us', e, _⟩ := hx; simp at e
    subst this
    exact .inl ⟨rfl, rfl, rfl, fun _ => rfl⟩
  | e :: es, [], xs, i, hk, hx => by simp at hk
  | e :: es, j0 :: ks, [], i, hk, hx => by unfold Reps at hx; simp at hx
  | e :: es, j0 :: ks, x :: xs, i, hk, hx => by
    unfold Reps at hx
    obtain ⟨u, us', e1, h1, h2⟩ := hx
    simp only [List.map_cons, List.cons.injEq] at hk e1
    obtain ⟨rfl, rfl⟩ := e1
    obtain ⟨k1, k2⟩ := hk
    have hsame : Instr.sameNow (.int kt) (.int .i64 k) e.key = some (k == j0) := by rw [k1]; simp [Instr.sameNow]
    by_cases hkj : j0 = k
    · subst hkj
      refine .inr ⟨0, e, ?_, rfl, k1, ?_, ?_, fun p v hp => ?_⟩
      · simp [Instr.findNow, hsame]
      · simp only [mpGet, if_true]; exact h1
      · simp only [mpPutK, if_true]
      · simp only [mpPutX, if_true, List.map_cons, List.set_cons_zero]
        unfold Reps
        exact ⟨_, _, rfl, hp, h2⟩
    · have hb : (k == j0) = false := by rw [beq_eq_false_iff_ne]; exact fun q => hkj q.symm
      rcases mp_find (kt := kt) (k := k) es ks xs (i + 1) k2 h2 with ⟨q1, q2, q3, q4⟩ | ⟨j, e', q1, q2, q3, q4, q5, q6⟩
      · refine .inl ⟨by simp [Instr.findNow, hsame, hb, q1], ?_, ?_, fun p => ?_⟩
        · simp only [mpGet, hkj, if_false]; exact q2
        · simp only [mpPutK, hkj, if_false, q3, List.cons_append]
        · simp only [mpPutX, hkj, if_false, q4, List.cons_append]
      · refine .inr ⟨j + 1, e', by simp [Instr.findNow, hsame, hb, q1]; omega, by simpa using q2, q3, ?_, ?_, fun p v hp => ?_⟩
        · simp only [mpGet, hkj, if_false]; exact q4
        · simp only [mpPutK, hkj, if_false, q5]
        · simp only [mpPutX, hkj, if_false, List.map_cons, List.set_cons_succ]
          unfold Reps
          exact ⟨_, _, rfl, h1, q6 p v hp⟩
end

section
variable {Φ : Ctx} {α : AEnv} {o : Oper}

theorem V1.mapMade {d t : Nat} {K : AEnv → Prop} (ho : o.op = .makeMap t none) (hd : o.dst = some d) (hn : d < α.n)
    (hk : ∀ b, Φ.w0.heap.size ≤ b → K (α.put d (.mp Φ.rn b [] []))) : V1 Φ o α K := by
  intro a w ⟨S, he⟩
  have hs : Ext (fun _ => False) w (w.alloc (.map #[] 0)) := Ext.alloc w _
  have hlt : ∀ ρ b, S ρ b → b < w.heap.size := fun ρ b hb => (he.bound ρ b hb).1
  have hnew : (w.alloc (.map #[] 0)).heap[w.heap.size]? = some (.map #[] 0) := (MapKept.heap_alloc w _).1
  have hsz : w.heap.size < (w.alloc (.map #[] 0)).heap.size := (Array.getElem?_eq_some_iff.1 hnew).1
  have he2 : Env Φ (fun ρ b => S ρ b ∨ (ρ = Φ.rn ∧ b = w.heap.size)) ⟨α.n, α.E, α.H⟩ a (w.alloc (.map #[] 0)) := by
    refine he.step (J := fun _ => False) hs (fun _ _ h => h.elim) (fun _ _ h => .inl h) ?_ ?_ he.nodup
    · rintro ρ b (h | ⟨rfl, rfl⟩)
      · exact .inl h
      · refine .inr ⟨.inl rfl, he.ext.size, hsz, fun _ ρ' h => absurd (hlt _ _ h) (Nat.lt_irrefl _), ?_⟩
        rintro _ ρ' (h | ⟨rfl, _⟩)
        · exact absurd (hlt _ _ h) (Nat.lt_irrefl _)
        · rfl
    · intro b ob hb
      obtain ⟨h1, h2, h3⟩ := he.objs b ob hb
      have hbl := h1.lt
      refine ⟨h1.ext hs (fun h => h) (fun _ _ h => .inl h) (fun ρ b h => ⟨hlt ρ b h, fun h => h⟩), ?_, h3⟩
      rintro ρ (h | ⟨_, rfl⟩)
      · exact h2 ρ h
      · exact absurd hbl (Nat.lt_irrefl _)
  unfold Oper.wp
  have hrun : (execOp a.eval o).run Φ.P w = .ok (.value (.map (some w.heap.size))) (w.alloc (.map #[] 0)) := by
    simp [execOp, ho, show (Instr.makeMap t none).run Φ.P w = .ok (.map (some w.heap.size)) (w.alloc (.map #[] 0)) from rfl]
  rw [hrun, Oper.upon_value, hd]
  refine ⟨_, hk w.heap.size he.ext.size, _, he2.put (α := ⟨α.n, α.E, α.H⟩) hn ?_⟩
  unfold Rep
  exact ⟨.inr ⟨rfl, rfl⟩, rfl, #[], 0, hnew, rfl, by unfold Reps; rfl⟩

theorem V1.lookup {d t kt et ρ b : Nat} {x i : Operand} {k : Int} {ks : List Int} {xs : List PV} {K : AEnv → Prop} (ho : o.op = .lookup t x i false) (hd : o.dst = some d)
    (ht : Φ.P.underlying t = some (.map kt et)) (hkt : Φ.P.underlying kt = some (.int .i64)) (hz : zeroK Φ.P et = some (1, .nils))
    (hx : aeval α x = some (.mp ρ b ks xs)) (hi : aeval α i = some (.int .i64 k)) (hn : d < α.n) (hk : K (α.put d (mpGet k ks xs))) : V1 Φ o α K :=
  V1.pure hd hn (fun S a w he => by
    have h1 := he.eval hx
    have h2 := he.eval hi
    unfold Rep at h1 h2
    obtain ⟨_, hv, es, clock, hb, hks, hr⟩ := h1
    obtain ⟨inf, zv, z1, z2, _, z4⟩ := zeroK_spec hz
    have hzr : (zeroValue et).run Φ.P w = .ok zv w := by simp [zeroValue, typeInfo, program, Sem.run, Sem.bind, Bind.bind, Pure.pure, z1, z2]
    have hkey : MapKept.IsKey (.int .i64) (.int .i64 k) := by simp [MapKept.IsKey]
    rcases mp_find (kt := .i64) (k := k) es.toList ks xs 0 hks hr with ⟨q1, q2, _⟩ | ⟨j, e, q1, q2, q3, q4, _⟩
    · refine ⟨zv, ?_, by rw [q2]; exact z4 w S true⟩
      simp [execOp, ho, Instr.lookup, hv, h2, run_underlying ht, MapKept.run_getObj_map hb, MapKept.run_checkKey hkt hkey, MapKept.run_findKey hkt q1, hzr, Result.andThen]
    · refine ⟨e.val, ?_, q4⟩
      simp [execOp, ho, Instr.lookup, hv, h2, run_underlying ht, MapKept.run_getObj_map hb, MapKept.run_checkKey hkt hkey, MapKept.run_findKey hkt q1, Result.andThen]) hk

/-- The facts behind an update: what names no map stays; what told of the map tells of the new one. -/
def UpE (E0 : List (Nat × PV)) (old new : PV) : List (Nat × PV) → Prop
  | [] => True
  | (t, x) :: L => ((x.noMp = true ∧ get E0 t = some x) ∨ (x = new ∧ get E0 t = some old)) ∧ UpE E0 old new L

theorem UpE.get {E0 : List (Nat × PV)} {old new : PV} : ∀ {L : List (Nat × PV)}, UpE E0 old new L → ∀ t x, Go.VS.get L t = some x → (x.noMp = true ∧ Go.VS.get E0 t = some x) ∨ (x = new ∧ Go.VS.get E0 t = some old)
  | [], _, t, x, h => by cases h
  | (s, y) :: L, ⟨h1, h2⟩, t, x, h => by
    simp only [Go.VS.get] at h
    split at h
    · rename_i e
      have e := Nat.eq_of_beq_eq_true e
      subst e
      cases h
      exact h1
    · exact h2.get t x h

theorem V1.mapUpdate {t kt et ρ b : Nat} {x i v : Operand} {k : Int} {ks : List Int} {xs : List PV} {p : PV} {K : AEnv → Prop} (E' : List (Nat × PV)) (ho : o.op = .mapUpdate t x i v) (hd : o.dst = none)
    (ht : Φ.P.underlying t = some (.map kt et)) (hkt : Φ.P.underlying kt = some (.int .i64)) (hx : aeval α x = some (.mp ρ b ks xs)) (hi : aeval α i = some (.int .i64 k)) (hv : aeval α v = some p)
    (hp : p.noMp = true) (hxs : PV.noMpL xs = true) (hb0 : Φ.w0.heap.size ≤ b) (hH : ∀ q, q ∈ α.H → PV.noMpL q.2.xs = true) (hE : UpE α.E (.mp ρ b ks xs) (.mp ρ b (mpPutK k ks) (mpPutX k p ks xs)) E')
    (hk : K ⟨α.n, E', α.H⟩) : V1 Φ o α K := by
  intro a w ⟨S, he⟩
  have h1 := he.eval hx
  have h2 := he.eval hi
  have h3 := he.eval hv
  unfold Rep at h1 h2
  obtain ⟨hSb, hvx, es, clock, hb, hks, hr⟩ := h1
  have hkey : MapKept.IsKey (.int .i64) (.int .i64 k) := by simp [MapKept.IsKey]
  -- the map behind the update
  obtain ⟨es', clock', hrun, hks', hr'⟩ : ∃ (es' : Array MapEntry) (clock' : Nat), (execOp a.eval o).run Φ.P w = .ok .skip (w.putObj b (.map es' clock')) ∧ es'.toList.map MapEntry.key = (mpPutK k ks).map (Value.int .i64) ∧
      ∀ w', SameC w w' → Reps w' S true (mpPutX k p ks xs) (es'.toList.map MapEntry.val) := by
    rcases mp_find (kt := .i64) (k := k) es.toList ks xs 0 hks hr with ⟨q1, q2, q3, q4⟩ | ⟨j, e, q1, q2, q3, q4, q5, q6⟩
    · refine ⟨es.push { key := .int .i64 k, val := a.eval v, born := clock }, clock + 1, ?_, ?_, fun w' hs => ?_⟩
      · simp [execOp, ho, Instr.mapUpdate, hvx, h2, run_underlying ht, MapKept.run_getObj_map hb, MapKept.run_checkKey hkt hkey, MapKept.run_findKey hkt q1, MapKept.run_setObj_map _ hb, Result.andThen, World.putObj]
      · rw [q3]; simp [hks]
      · rw [q4]
        have := (Reps.sameC hs _ _ hxs hr).append (Reps.cons_iff.2 ⟨a.eval v, [], rfl, Rep.sameC hs _ _ hp h3, Reps.nil_iff.2 rfl⟩)
        simpa using this
    · have hj : es[j]? = some e := by simpa using q2
      refine ⟨es.modify j fun e => { e with key := .int .i64 k, val := a.eval v }, clock, ?_, ?_, fun w' hs => ?_⟩
      · simp [execOp, ho, Instr.mapUpdate, hvx, h2, run_underlying ht, MapKept.run_getObj_map hb, MapKept.run_checkKey hkt hkey, MapKept.run_findKey hkt q1, hj, q3, MapKept.run_keyThatStays hkey, MapKept.run_setObj_map _ hb, Result.andThen, World.putObj]
      · rw [q5, ← hks]
        exact MapKept.modify_keys j _ fun e' he' => by rw [hj] at he'; cases he'; exact q3.symm
      · have hr2 := Reps.sameC hs _ _ hxs hr
        rcases mp_find (kt := .i64) (k := k) es.toList ks xs 0 hks hr2 with ⟨z1, _⟩ | ⟨j', e', z1, _, _, _, _, z6⟩
        · rw [z1] at q1; cases q1
        · have hjj : j' = j := by
            rw [z1] at q1
            simp only [Option.some.injEq, Prod.mk.injEq] at q1
            omega
          subst hjj
          have z := z6 p (a.eval v) (Rep.sameC hs _ _ hp h3)
          have e1 : (es.modify j' fun e => { e with key := .int .i64 k, val := a.eval v }).toList.map MapEntry.val = (es.toList.map MapEntry.val).set j' (a.eval v) := by
            apply List.ext_getElem?
            intro m
            simp only [List.getElem?_map, Array.getElem?_toList, Array.getElem?_modify, List.getElem?_set, List.length_map]
            by_cases hm : j' = m
            · subst hm
              have hlt : j' < es.toList.length := by have := (List.getElem?_eq_some_iff.1 q2).1; exact this
              simp [hj, hlt]
              simpa using hlt
            · simp [hm]
          rw [e1]
          exact z
  have hs : SameC w (w.putObj b (.map es' clock')) := .putObj hb rfl
  have hnew : (w.putObj b (.map es' clock')).heap[b]? = some (.map es' clock') := World.putObj_heap_same (Array.getElem?_eq_some_iff.1 hb).1
  unfold Oper.wp
  rw [hrun, Oper.upon_skip, hd]
  refine ⟨_, hk, S, ?_⟩
  exact {
    defers := he.defers.of_heap fun D hD => by
      rw [World.putObj_heap_other (by rintro rfl; rw [hb] at hD; cases hD)]; exact hD
    size := he.size
    ext := ⟨he.ext.os, he.ext.tape, he.ext.output, by rw [World.putObj_size]; exact he.ext.size, fun q hq hI => (World.putObj_heap_other (by omega)).trans (he.ext.block q hq hI), fun q c hc => by
      obtain ⟨c', h1, h2⟩ := he.ext.shape q c hc
      exact ⟨c', hs.blk _ _ h1, h2⟩⟩
    sub := he.sub
    bound := fun ρ' b' hb' => by rw [World.putObj_size]; exact he.bound ρ' b' hb'
    disj := he.disj
    slots := fun s y hy => by
      rcases hE.get s y hy with ⟨q1, q2⟩ | ⟨rfl, q2⟩
      · obtain ⟨u, v1, v2⟩ := he.slots s y q2
        exact ⟨u, v1, Rep.sameC hs y u q1 v2⟩
      · obtain ⟨u, v1, v2⟩ := he.slots s _ q2
        unfold Rep at v2
        exact ⟨u, v1, by unfold Rep; exact ⟨v2.1, v2.2.1, es', clock', hnew, hks', hr' _ hs⟩⟩
    objs := fun b' ob hq => ⟨(he.objs b' ob hq).1.sameC hs (hH _ hq), (he.objs b' ob hq).2⟩
    nodup := he.nodup }

/-! ### Groups of numbers -/
abbrev Grp := List (Int × Nat × List Int)
def gKeys (gs : Grp) : List Int := gs.map Prod.fst
def gTrees (gs : Grp) : List PV := gs.map fun g => .sref g.2.1 1 0 g.2.2.length
def gVls (ρ : Nat) (gs : Grp) : List PV := gs.map fun g => .vl ρ 1 (List.map encInt g.2.2)
def gRows (gs : Grp) : List (Nat × Obj') := gs.map fun g => (g.2.1, ⟨1, List.map encInt g.2.2⟩)
def gMod (gs : Grp) : List (Int × List Int) := gs.map fun g => (g.1, g.2.2)
def gAt (k : Int) : List (Int × List Int) → List Int
  | [] => []
  | (j, l) :: g => if j = k then l else gAt k g
def gPut (k i : Int) : List (Int × List Int) → List (Int × List Int)
  | [] => [(k, [i])]
  | (j, l) :: g => if j = k then (j, l ++ [i]) :: g else (j, l) :: gPut k i g
def gsPut (k : Int) (nb : Nat) (i : Int) : Grp → Grp
  | [] => [(k, nb, [i])]
  | (j, b, l) :: g => if j = k then (j, nb, l ++ [i]) :: g else (j, b, l) :: gsPut k nb i g

theorem gMod_put {k i : Int} {nb : Nat} : ∀ gs : Grp, gMod (gsPut k nb i gs) = gPut k i (gMod gs)
  | [] => rfl
  | (j, b, l) :: gs => by
    have ih := gMod_put (k := k) (i := i) (nb := nb) gs
    unfold gMod at ih ⊢
    simp only [gsPut, List.map_cons, gPut]
    split
    · rfl
    · rw [List.map_cons, ih]
theorem gKeys_put {k i : Int} {nb : Nat} : ∀ gs : Grp, gKeys (gsPut k nb i gs) = mpPutK k (gKeys gs)
  | [] => rfl
  | (j, b, l) :: gs => by
    have ih := gKeys_put (k := k) (i := i) (nb := nb) gs
    unfold gKeys at ih ⊢
    simp only [gsPut, List.map_cons, mpPutK]
    split
    · rfl
    · rw [List.map_cons, ih]
theorem gTrees_put {k i : Int} {nb : Nat} : ∀ gs : Grp, gTrees (gsPut k nb i gs) = mpPutX k (.sref nb 1 0 (gAt k (gMod gs) ++ [i]).length) (gKeys gs) (gTrees gs)
  | [] => rfl
  | (j, b, l) :: gs => by
    have ih := gTrees_put (k := k) (i := i) (nb := nb) gs
    unfold gTrees gKeys gMod at ih ⊢
    simp only [gsPut, List.map_cons, mpPutX, gAt]
    split
    · rfl
    · rw [List.map_cons, ih]
theorem gTrees_noMp : ∀ gs : Grp, PV.noMpL (gTrees gs) = true
  | [] => rfl
  | g :: gs => by
    have ih := gTrees_noMp gs
    unfold gTrees at ih ⊢
    rw [List.map_cons, PV.noMpL, ih]; rfl
theorem gRows_noMp {gs : Grp} : ∀ q, q ∈ gRows gs → PV.noMpL q.2.xs = true := by
  intro q hq
  obtain ⟨g, _, rfl⟩ := List.mem_map.1 hq
  exact noMpL_map (fun _ => rfl) _
theorem gSplit (k : Int) : ∀ gs : Grp, (mpGet k (gKeys gs) (gTrees gs) = .nils ∧ gAt k (gMod gs) = [] ∧ ∀ nb i, List.Perm (gRows (gsPut k nb i gs)) ((nb, ⟨1, List.map encInt (gAt k (gMod gs) ++ [i])⟩) :: gRows gs)) ∨
    ∃ b rest, mpGet k (gKeys gs) (gTrees gs) = .sref b 1 0 (List.length (gAt k (gMod gs))) ∧ List.Perm (gRows gs) ((b, ⟨1, List.map encInt (gAt k (gMod gs))⟩) :: rest) ∧ (∀ q, q ∈ rest → q ∈ gRows gs) ∧
      ∀ nb i, List.Perm (gRows (gsPut k nb i gs)) ((nb, ⟨1, List.map encInt (gAt k (gMod gs) ++ [i])⟩) :: rest)
  | [] => .inl ⟨rfl, rfl, fun _ _ => .refl _⟩
  | (j, b, l) :: gs => by
    by_cases h : j = k
    · have hA : gAt k (gMod ((j, b, l) :: gs)) = l := by simp only [gMod, List.map_cons, gAt, h, if_true]
      refine .inr ⟨b, gRows gs, ?_, ?_, fun q hq => List.mem_cons_of_mem _ hq, fun nb i => ?_⟩
      · rw [hA]; simp only [gKeys, gTrees, List.map_cons, mpGet, h, if_true]
      · rw [hA]; exact .refl _
      · rw [hA]; simp only [gsPut, h, if_true]; exact .refl _
    · have hA : gAt k (gMod ((j, b, l) :: gs)) = gAt k (gMod gs) := by simp only [gMod, List.map_cons, gAt, h, if_false]
      have hG : mpGet k (gKeys ((j, b, l) :: gs)) (gTrees ((j, b, l) :: gs)) = mpGet k (gKeys gs) (gTrees gs) := by simp only [gKeys, gTrees, List.map_cons, mpGet, h, if_false]
      rw [hA, hG]
      rcases gSplit k gs with ⟨h1, h2, h3⟩ | ⟨b', rest, h1, h3, h4, h5⟩
      · refine .inl ⟨h1, h2, fun nb i => ?_⟩
        simp only [gsPut, h, if_false]
        exact ((h3 nb i).cons _).trans (.swap _ _ _)
      · refine .inr ⟨b', (b, ⟨1, List.map encInt l⟩) :: rest, h1, ?_, ?_, fun nb i => ?_⟩
        · exact (h3.cons _).trans (.swap _ _ _)
        · intro q hq
          rcases List.mem_cons.1 hq with rfl | hq
          · exact .head _
          · exact List.mem_cons_of_mem _ (h4 q hq)
        · simp only [gsPut, h, if_false]
          exact ((h5 nb i).cons _).trans (.swap _ _ _)
theorem noMpH {p : Nat × Obj'} {T : List (Nat × Obj')} (h1 : PV.noMpL p.2.xs = true) (h2 : ∀ q, q ∈ T → PV.noMpL q.2.xs = true) : ∀ q, q ∈ p :: T → PV.noMpL q.2.xs = true := fun q hq => by
  rcases List.mem_cons.1 hq with rfl | hq
  · exact h1
  · exact h2 q hq
theorem gVls_get {ρ : Nat} (k : Int) : ∀ gs : Grp, mpGet k (gKeys gs) (gVls ρ gs) = .vl ρ 1 (List.map encInt (gAt k (gMod gs))) ∨ (mpGet k (gKeys gs) (gVls ρ gs) = .nils ∧ gAt k (gMod gs) = [])
  | [] => .inr ⟨rfl, rfl⟩
  | (j, b, l) :: gs => by
    by_cases h : j = k
    · left
      simp only [gKeys, gVls, gMod, List.map_cons, mpGet, gAt, h, if_true]
    · have ih := gVls_get (ρ := ρ) k gs
      simp only [gKeys, gVls, gMod, List.map_cons, mpGet, gAt, h, if_false] at ih ⊢
      exact ih

/-- A look-up whose tree is known. -/
theorem V1.lookupIs {d t kt et ρ b : Nat} {x i : Operand} {k : Int} {ks : List Int} {xs : List PV} {q : PV} {K : AEnv → Prop} (hg : mpGet k ks xs = q) (ho : o.op = .lookup t x i false) (hd : o.dst = some d)
    (ht : Φ.P.underlying t = some (.map kt et)) (hkt : Φ.P.underlying kt = some (.int .i64)) (hz : zeroK Φ.P et = some (1, .nils))
    (hx : aeval α x = some (.mp ρ b ks xs)) (hi : aeval α i = some (.int .i64 k)) (hn : d < α.n) (hk : K (α.put d q)) : V1 Φ o α K :=
  V1.lookup ho hd ht hkt hz hx hi hn (by rw [hg]; exact hk)

/-- A look-up in a map of frozen groups. -/
theorem V1.lookupG {d t kt et ρ ρ' b : Nat} {x i : Operand} {k : Int} {gs : Grp} {g : List (Int × List Int)} {K : AEnv → Prop} (hgs : gMod gs = g) (ho : o.op = .lookup t x i false) (hd : o.dst = some d)
    (ht : Φ.P.underlying t = some (.map kt et)) (hkt : Φ.P.underlying kt = some (.int .i64)) (hz : zeroK Φ.P et = some (1, .nils))
    (hx : aeval α x = some (.mp ρ b (gKeys gs) (gVls ρ' gs))) (hi : aeval α i = some (.int .i64 k)) (hn : d < α.n) (hk : K (α.put d (.vl ρ' 1 (List.map encInt (gAt k g))))) : V1 Φ o α K := by
  subst hgs
  rcases gVls_get (ρ := ρ') k gs with h | ⟨h, hl⟩
  · exact V1.lookupIs h ho hd ht hkt hz hx hi hn hk
  · intro a w he
    refine Oper.wp_mono ?_ (V1.lookupIs (K := fun α' => α' = α.put d .nils) h ho hd ht hkt hz hx hi hn rfl a w he)
    rintro a' w' ⟨_, rfl, S, h2⟩
    refine ⟨_, hk, S, { h2 with slots := fun s y hy => ?_ }⟩
    simp only [AEnv.put, get] at hy
    split at hy
    · rename_i e
      cases hy
      obtain ⟨v, v1, v2⟩ := h2.slots s .nils (by simp only [AEnv.put, get, e, if_true])
      refine ⟨v, v1, ?_⟩
      unfold Rep at v2 ⊢
      rw [hl]
      exact ⟨Nat.one_pos, [], (fun u hu => by cases hu), Reps.nil_iff.2 rfl, .inl ⟨rfl, none, 0, v2⟩⟩
    · rename_i e
      exact h2.slots s y (by simp only [AEnv.put, get, e, if_false]; exact hy)
end

theorem FrzL.refl {b n len ρ : Nat} {xs : List PV} : ∀ cs : List PV, FrzL b n len ρ xs cs cs
  | [] => .nil
  | c :: cs => .cons .same (FrzL.refl cs)
theorem FrzL.mid {b n len ρ : Nat} {ys : List PV} (xs : List PV) : ∀ D : List PV, FrzL b n len ρ ys (D ++ .sref b n 0 len :: xs) (D ++ .vl ρ n ys :: xs)
  | [] => .cons .here (FrzL.refl xs)
  | d :: D => .cons .same (FrzL.mid xs D)

/-- All rows of a map are frozen. -/
theorem Keeps.freezeRows {Φ : Ctx} (hI : ∀ c, ¬ Φ.I c) {N t b : Nat} {ks : List Int} {E : List (Nat × PV)} : ∀ (gs : Grp) (D : List PV),
    Keeps Φ ⟨N, (t, .mp Φ.rn b ks (D ++ gTrees gs)) :: E, gRows gs⟩ ⟨N, (t, .mp Φ.rn b ks (D ++ gVls Φ.rn gs)) :: E, []⟩
  | [], D => Keeps.refl Φ _
  | g :: gs, D => by
    intro a w h
    have hg : get ((t, PV.mp Φ.rn b ks (D ++ gTrees (g :: gs))) :: E) t = some (PV.mp Φ.rn b ks (D ++ gTrees (g :: gs))) := by simp only [get, Nat.beq_refl, if_true]
    obtain ⟨S, h2⟩ := Keeps.freezeG (Φ := Φ) (α := ⟨N, (t, .mp Φ.rn b ks (D ++ gTrees (g :: gs))) :: E, gRows (g :: gs)⟩) (f := encInt) (l := g.2.2) (b := g.2.1) (n := 1) 0 Φ.rn
      [(t, .mp Φ.rn b ks ((D ++ [.vl Φ.rn 1 (List.map encInt g.2.2)]) ++ gTrees gs))] (gRows gs) rfl (fun _ => rfl)
      ⟨⟨_, hg, .mp (by rw [List.append_assoc]; exact FrzL.mid (gTrees gs) D)⟩, trivial⟩ FrzH.same rfl (fun c hc => (hI c hc).elim) a w h
    have h3 : ER Φ ⟨N, (t, .mp Φ.rn b ks ((D ++ [.vl Φ.rn 1 (List.map encInt g.2.2)]) ++ gTrees gs)) :: E, gRows gs⟩ a w := by
      refine ⟨S, { h2 with slots := fun s x hx => h2.slots s x ?_ }⟩
      have key : get ((t, PV.mp Φ.rn b ks ((D ++ [.vl Φ.rn 1 (List.map encInt g.2.2)]) ++ gTrees gs)) :: E) s = get ([(t, PV.mp Φ.rn b ks ((D ++ [.vl Φ.rn 1 (List.map encInt g.2.2)]) ++ gTrees gs))] ++ (t, PV.mp Φ.rn b ks (D ++ gTrees (g :: gs))) :: E) s := by
        simp only [List.cons_append, List.nil_append, get]
        cases Nat.beq t s <;> rfl
      exact key ▸ hx
    have h4 := Keeps.freezeRows hI gs (D ++ [.vl Φ.rn 1 (List.map encInt g.2.2)]) a w h3
    rw [List.append_assoc] at h4
    exact h4
end Go.VS
