/-
  New variables, struct and slice literals, make. Over any program. Conditions: a literal lists all its elements in order; what is made is at most 2^31 elements of at most 65536 bytes.
-/
import Derived.Test.YteocnbeefedbkaaVd
import Derived.Laws.MakeOwn
import Derived.Laws.Tables
set_option linter.unusedSimpArgs false
set_option linter.unusedVariables false
namespace Go.VS

def valPV : Value → PV
  | .agg cs => .agg (cs.toList.map constPV)
  | v => constPV v

/-- The zero value of a type: its cells, as a tree. -/
def zeroK (P : Program) (t : TypeId) : Option (Nat × PV) :=
  match P.info? t with
  | some i => match i.zero with
    | some z => match z.cells.toList.all Value.oneCell' with | true => some (z.cells.size, valPV z) | false => none
    | none => none
  | none => none

/-- An element's bytes, of a slice type: at most 65536. -/
def elemBy (P : Program) (t : TypeId) : Bool :=
  match P.underlying t with
  | some (.slice e) => match P.info? e with
    | some i => Nat.ble i.bytes 65536
    | none => false
  | _ => false

section
variable {Φ : Ctx} {S : Nat → Nat → Prop} {α : AEnv} {a : Act} {w : World}

theorem constPV_rep (w : World) (S : Nat → Nat → Prop) (own : Bool) (v : Value) : Rep w S own (constPV v) v := by
  unfold constPV
  split <;> simp [Rep]

theorem valPV_rep (w : World) (S : Nat → Nat → Prop) (own : Bool) {z : Value} (h : z.cells.toList.all Value.oneCell' = true) : Rep w S own (valPV z) z := by
  cases z with
  | agg cs =>
    simp only [Value.cells, List.all_eq_true] at h
    simp only [valPV]
    unfold Rep
    refine ⟨cs.toList, by simp, h, Reps.mk (by simp) fun i x u hx hu => ?_⟩
    simp only [List.getElem?_map, hu, Option.map_some, Option.some.injEq] at hx
    subst hx
    exact constPV_rep w S own u
  | _ => simp only [valPV]; exact constPV_rep w S own _

theorem zeroK_spec {P : Program} {t n : Nat} {p : PV} (h : zeroK P t = some (n, p)) : ∃ i z, P.info? t = some i ∧ i.zero = some z ∧ Good n z ∧ ∀ w S own, Rep w S own p z := by
  unfold zeroK at h
  split at h
  · rename_i i h1
    split at h
    · rename_i z h2
      split at h
      · rename_i h3
        simp only [Option.some.injEq, Prod.mk.injEq] at h
        obtain ⟨rfl, rfl⟩ := h
        refine ⟨i, z, h1, h2, ⟨rfl, fun j c hc => ?_⟩, fun w S own => valPV_rep w S own h3⟩
        rw [List.all_eq_true] at h3
        refine h3 c ?_
        rw [← Array.getElem?_toList] at hc
        exact List.mem_of_getElem? hc
      · cases h
    · cases h
  · cases h

/-- An operation that lays one block. -/
theorem V1.newBlk {o : Oper} {d : Nat} {x : Nat → PV} {ob : Obj'} {K : AEnv → Prop} (hd : o.dst = some d) (hn : d < α.n)
    (h : ∀ S a w, Env Φ S α a w → ∃ v w' b, (execOp a.eval o).run Φ.P w = .ok (.value v) w' ∧ Ext (fun _ => False) w w' ∧ w.heap.size ≤ b ∧ ObjAt w' S b ob ∧ Rep w' S true (x b) v)
    (hk : ∀ b, K ⟨α.n, (d, x b) :: α.E, (b, ob) :: α.H⟩) : V1 Φ o α K := by
  intro a w ⟨S, he⟩
  obtain ⟨v, w', b, h1, h2, h3, h4, h5⟩ := h S a w he
  unfold Oper.wp
  rw [h1, Oper.upon_value, hd]
  exact ⟨_, hk b, S, (he.new h2 h3 h4).put hn h5⟩

theorem V1.alloc {o : Oper} {d t n : Nat} {z : PV} {K : AEnv → Prop} (ho : o.op = .alloc t) (hd : o.dst = some d) (hz : zeroK Φ.P t = some (n + 1, z)) (hn : d < α.n)
    (hk : ∀ b, K ⟨α.n, (d, .ref b (n + 1) 0 0) :: α.E, (b, ⟨n + 1, [z]⟩) :: α.H⟩) : V1 Φ o α K :=
  V1.newBlk hd hn (fun S a w he => by
    obtain ⟨i, zv, h1, h2, h3, h4⟩ := zeroK_spec hz
    refine ⟨.pointer (some ⟨w.heap.size, 0, none⟩), w.alloc (.cells zv.cells t), w.heap.size, ?_, Ext.alloc w _, Nat.le_refl _, ObjAt.var (fun ρ b hb => (he.bound ρ b hb).1) h3 (by omega) (h4 w S true), by unfold Rep; simp⟩
    simp [execOp, ho, Instr.alloc, zeroValue, typeInfo, program, Sem.run, Sem.bind, Bind.bind, Pure.pure, h1, h2, newVar, newRow, newObj]) hk

/-- How many cells a tree takes. -/
def PV.width : PV → Nat
  | .agg cs => cs.length
  | _ => 1

theorem V1.box {o : Oper} {d t n : Nat} {x : Operand} {p : PV} {K : AEnv → Prop} (ho : o.op = .box t x) (hd : o.dst = some d) (hx : aeval α x = some p) (hp : p.good (n + 1) = true) (hn : d < α.n)
    (hk : ∀ b, K ⟨α.n, (d, .ref b (n + 1) 0 0) :: α.E, (b, ⟨n + 1, [p]⟩) :: α.H⟩) : V1 Φ o α K :=
  V1.newBlk hd hn (fun S a w he => by
    have h1 := he.eval hx
    refine ⟨.pointer (some ⟨w.heap.size, 0, none⟩), w.alloc (.cells (a.eval x).cells t), w.heap.size, ?_, Ext.alloc w _, Nat.le_refl _, ObjAt.var (fun ρ b hb => (he.bound ρ b hb).1) (h1.good hp) (by omega) h1, by unfold Rep; simp⟩
    simp [execOp, ho, Instr.box, Sem.run, Sem.bind, Bind.bind, Pure.pure, newVar, newRow, newObj]) hk

/-! ### Struct literals -/
def fillPV (place : Nat → Option (Nat × Nat)) : List PV → List (Nat × PV) → Option (List PV)
  | cells, [] => some cells
  | cells, (i, p) :: rest => match place i with
    | none => none
    | some (off, size) => match p.good size with
      | true => match Nat.ble (off + size) cells.length with
        | true => fillPV place (cells.take off ++ p.cellsL ++ cells.drop (off + size)) rest
        | false => none
      | false => none

theorem fold_seg (off : Nat) : ∀ (l : List Value) (k : Nat) (cs : Array Value), off + k + l.length ≤ cs.size →
    ((l.zipIdx k).foldl (fun cs (x : Value × Nat) => cs.setIfInBounds (off + x.2) x.1) cs).toList = cs.toList.take (off + k) ++ l ++ cs.toList.drop (off + k + l.length)
  | [], k, cs, _ => by simp
  | v :: l, k, cs, h => by
    simp only [List.length_cons] at h
    have ih := fold_seg off l (k + 1) (cs.setIfInBounds (off + k) v) (by simp; omega)
    simp only [List.zipIdx_cons, List.foldl_cons]
    rw [ih, Array.toList_setIfInBounds, ← Nat.add_assoc]
    exact list_seg_step cs.toList (off + k) v l (by simpa using (by omega : off + k + (l.length + 1) ≤ cs.size))

theorem Rep.cellsL {own : Bool} {p : PV} {v : Value} {n : Nat} (h : Rep w S own p v) (hg : p.good n = true) : Reps w S own p.cellsL v.cells.toList := by
  by_cases hna : ∀ cs, p ≠ .agg cs
  · have hn : n = 1 := by
      cases p <;> simp [PV.good] at hg <;> first | exact hg | exact hg.1 | exact absurd rfl (hna _)
    subst hn
    obtain ⟨h1, h2⟩ := h.one hg hna
    have h3 : p.cellsL = [p] := by
      cases p <;> first | rfl | exact absurd rfl (hna _) | (simp [PV.good] at hg; done) | (simp [PV.good] at hg; simp [PV.cellsL, hg])
    rw [h3, h2, Reps.cons_iff]
    exact ⟨v, [], rfl, h, by rw [Reps.nil_iff]⟩
  · simp only [Classical.not_forall, Classical.not_not] at hna
    obtain ⟨cs, rfl⟩ := hna
    unfold Rep at h
    obtain ⟨us, rfl, h1, hr⟩ := h
    simpa [PV.cellsL, Value.cells] using hr

theorem fill_ok {place : Nat → Option (Nat × Nat)} {own : Bool} : ∀ (parts : List (Nat × PV)) (vs : List (Nat × Value)) (cells : List PV) (cs : Array Value) (r : List PV),
    Reps w S own cells cs.toList → (∀ c ∈ cs.toList, c.oneCell' = true) → vs.length = parts.length → (∀ (k : Nat) (i j : Nat) (p : PV) (v : Value), parts[k]? = some (i, p) → vs[k]? = some (j, v) → i = j ∧ Rep w S own p v) →
    fillPV place cells parts = some r → ∃ cs', Instr.fill place cs vs = some cs' ∧ Reps w S own r cs'.toList ∧ (∀ c ∈ cs'.toList, c.oneCell' = true)
  | [], vs, cells, cs, r, hr, h1, hl, _, hf => by
    have : vs = [] := by simpa using hl
    subst this
    simp only [fillPV, Option.some.injEq] at hf
    subst hf
    exact ⟨cs, rfl, hr, h1⟩
  | (i, p) :: parts, [], cells, cs, r, _, _, hl, _, _ => by simp at hl
  | (i, p) :: parts, (j, v) :: vs, cells, cs, r, hr, h1, hl, hp, hf => by
    obtain ⟨rfl, hpv⟩ := hp 0 i j p v rfl rfl
    simp only [fillPV] at hf
    cases hpl : place i with
    | none => rw [hpl] at hf; cases hf
    | some os =>
      obtain ⟨off, size⟩ := os
      rw [hpl] at hf
      simp only at hf
      split at hf
      · rename_i hg
        split at hf
        · rename_i hb
          have hb : off + size ≤ cells.length := Nat.le_of_ble_eq_true hb
          have hgood := hpv.good hg
          have hlen := hr.length
          simp only [Array.length_toList] at hlen
          have hseg := fold_seg off v.cells.toList 0 cs (by simp [hgood.1]; omega)
          simp only [Nat.add_zero, Array.length_toList, hgood.1] at hseg
          have harr : (v.cells.zipIdx.foldl (fun cs (x : Value × Nat) => cs.setIfInBounds (off + x.2) x.1) cs).toList = cs.toList.take off ++ v.cells.toList ++ cs.toList.drop (off + size) := by
            rw [← hseg, ← Array.foldl_toList]
            simp
          have hrep := ((hr.take off).append (hpv.cellsL hg)).append (hr.drop (off + size))
          rw [← harr] at hrep
          obtain ⟨cs', q1, q2, q3⟩ := fill_ok parts vs _ _ r hrep (fun c hc => by
            rw [harr] at hc
            simp only [List.mem_append] at hc
            rcases hc with (hc | hc) | hc
            · exact h1 c (List.mem_of_mem_take hc)
            · obtain ⟨q, hq⟩ := List.mem_iff_getElem?.1 hc
              exact hgood.2 q c (by simpa using hq)
            · exact h1 c (List.mem_of_mem_drop hc)) (by simpa using hl) (fun k i' j' p' v' ha hb => hp (k + 1) i' j' p' v' (by simpa using ha) (by simpa using hb)) hf
          refine ⟨cs', ?_, q2, q3⟩
          simp only [Instr.fill, hpl]
          rw [if_neg (by simp [hgood.1]; omega)]
          exact q1
        · cases hf
      · cases hf

/-- The parts of a literal as trees. -/
def partsPV (α : AEnv) : List (Nat × Operand) → Option (List (Nat × PV))
  | [] => some []
  | (i, x) :: r => match aeval α x with
    | some p => match partsPV α r with
      | some ps => some ((i, p) :: ps)
      | none => none
    | none => none

theorem partsPV_spec (he : Env Φ S α a w) : ∀ (l : List (Nat × Operand)) (ps : List (Nat × PV)), partsPV α l = some ps →
    (l.map fun x => (x.1, a.eval x.2)).length = ps.length ∧ ∀ (k i j : Nat) (p : PV) (v : Value), ps[k]? = some (i, p) → (l.map fun x => (x.1, a.eval x.2))[k]? = some (j, v) → i = j ∧ Rep w S true p v
  | [], ps, h => by cases h; simp
  | (i, x) :: r, ps, h => by
    simp only [partsPV] at h
    split at h
    · rename_i p hp
      split at h
      · rename_i ps' hps
        cases h
        obtain ⟨h1, h2⟩ := partsPV_spec he r ps' hps
        refine ⟨by simpa using h1, fun k i' j' p' v' ha hb => ?_⟩
        cases k with
        | zero => simp at ha hb; obtain ⟨rfl, rfl⟩ := ha; obtain ⟨rfl, rfl⟩ := hb; exact ⟨rfl, he.eval hp⟩
        | succ k => exact h2 k i' j' p' v' (by simpa using ha) (by simpa using hb)
      · cases h
    · cases h

/-- Where the fields of a struct type lie, and their sizes. -/
def placesK (P : Program) (t : TypeId) : Option (List (Nat × Nat)) :=
  match P.underlying t with
  | some (.struct fs) => fs.toList.mapM fun f => (P.info? f.type).map fun i => (f.offset, i.size)
  | _ => none

theorem V1.build {o : Oper} {d t n : Nat} {parts : Array (Nat × Operand)} {zs cells : List PV} {pls : List (Nat × Nat)} {ps : List (Nat × PV)} {K : AEnv → Prop} (ho : o.op = .build t parts) (hd : o.dst = some d)
    (hz : zeroK Φ.P t = some (n, .agg zs)) (hpl : placesK Φ.P t = some pls) (hps : partsPV α parts.toList = some ps) (hf : fillPV (fun i => pls[i]?) zs ps = some cells) (hn : d < α.n)
    (hk : K (α.put d (.agg cells))) : V1 Φ o α K :=
  V1.pure hd hn (fun S a w he => by
    obtain ⟨i, zv, h1, h2, h3, h4⟩ := zeroK_spec hz
    have h5 := h4 w S true
    unfold Rep at h5
    obtain ⟨us, rfl, hone, hr⟩ := h5
    obtain ⟨q1, q2⟩ := partsPV_spec he _ _ hps
    obtain ⟨cs', q3, q4, q5⟩ := fill_ok ps _ zs us.toArray cells (by simpa using hr) (by simpa using hone) q1 q2 hf
    refine ⟨.agg cs', ?_, by unfold Rep; exact ⟨cs'.toList, by simp, q5, q4⟩⟩
    unfold placesK at hpl
    split at hpl
    · rename_i fs hfs
      have hmap : (parts.map fun (x : Nat × Operand) => (x.1, a.eval x.2)).toList = parts.toList.map fun x => (x.1, a.eval x.2) := by simp
      have hfill : Instr.fill (fun i => pls.toArray[i]?) us.toArray (parts.toList.map fun x => (x.1, a.eval x.2)) = some cs' := by simpa using q3
      have hb := run_build (P := Φ.P) w t (parts.map fun (x : Nat × Operand) => (x.1, a.eval x.2)) cs' (by
        rw [hmap]
        unfold Program.built
        simp only [h1, hfs, h2, hpl, Value.cells]
        exact hfill)
      simp only [execOp, ho, Sem.run_bind, hb, Result.andThen_ok, Sem.run_pure]
    · cases hpl) hk
end
end Go.VS
