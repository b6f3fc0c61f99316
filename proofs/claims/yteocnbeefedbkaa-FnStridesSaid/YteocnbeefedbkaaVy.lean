/-
  What is walked plainly holds in the frame of a loop's round too: the operations of a region; the marks that a range over a function leaves. Over any program. No condition.
-/
import Derived.Test.YteocnbeefedbkaaVa
import Derived.RangeFuncFrom
import Derived.RangeFuncLeaves
import Derived.OrdersIn
import Derived.TacticsIn
set_option linter.unusedSimpArgs false
set_option linter.unusedVariables false
namespace Go.VS
open Go.RowKit

/-- All functions; in a round of loop l, or in none. -/
def fenceR (r : Option Nat) : Fence := { Fence.wide with round := r }

def noDef (o : Oper) : Bool := match o.op with | .defer _ => false | _ => true

theorem noDef_spec {o : Oper} (h : noDef o = true) : ∀ c, o.op ≠ .defer c := by
  intro c e
  unfold noDef at h
  rw [e] at h
  cases h

section
variable {r : Option Nat} {n : Nat} {P : Program} {ops : Array Oper} {Q : Exit → Act → World → Prop}

theorem callsR {f : FuncId} {args : Array Value} {w : World} {R : Ending → World → Prop} (h : Calls P f args w R) : CallsIn (fenceR r) n P f args w R := callsIn_wide.2 h
theorem callsR' {f : FuncId} {args : Array Value} {w : World} {R : Ending → World → Prop} (h : CallsIn (fenceR r) n P f args w R) : Calls P f args w R := callsIn_wide.1 h
theorem rowsR {row : String} {args : Array Value} {w : World} {R : Value → World → Prop} (h : Rows P row args w R) : RowsIn (fenceR r) n P row args w R := fun c cs _ =>
  let ⟨v, w', q, s⟩ := h c cs
  ⟨v, w', q, stepsIn_wide.2 s⟩

theorem Oper.wpR {o : Oper} {a : Act} {w : World} {K : Act → World → Prop} (hd : noDef o = true) (h : o.wp P a w K Q) : o.wpIn (fenceR r) n P a w K Q := by
  unfold Oper.wp at h
  unfold Oper.wpIn
  refine ⟨fun _ _ => trivial, ?_⟩
  rw [Oper.semAt_eq _ _ _ (noDef_spec hd)]
  generalize (execOp a.eval o).run P w = x at *
  cases x with
  | ok y w' =>
    cases y <;> simp only [Oper.upon] at h <;> simp only [Oper.uponIn] <;> first
      | exact h
      | exact ⟨(fun e => by cases e), CallsIn.mono (callsR h) (fun e w he => by cases e <;> exact he)⟩
      | exact ⟨(fun e => by cases e), rowsR h⟩
  | halt y w' => cases y <;> simp only [Oper.upon] at h <;> simp only [Oper.uponIn] <;> exact h

theorem wpListR (hQ : ¬ LetsOut Q) : ∀ (l : List Oper) {a : Act} {w : World}, l.all noDef = true → wpList P ops Q l a w → wpListIn (fenceR r) n P ops Q l a w
  | [], a, w, _, h => h
  | o :: l, a, w, hd, h => by
    rw [List.all_cons, Bool.and_eq_true] at hd
    unfold wpList at h
    unfold wpListIn
    by_cases hw : Region.wanted o (yielded ops a.tmps)
    · rw [if_pos hw] at h ⊢
      rcases h with h | ⟨_, h⟩
      · exact Oper.wpIn_mono (fun a w h => wpListR hQ l hd.2 h) (Oper.wpR hd.1 h)
      · exact (hQ h).elim
    · rw [if_neg hw] at h ⊢
      exact ⟨fun _ _ => trivial, wpListR hQ l hd.2 h⟩

theorem wpAnyR (hQ : ¬ LetsOut Q) (hd : ∀ (i : Nat) (o : Oper), ops[i]? = some o → noDef o = true) {md : Region.Mode} : ∀ (fuel : Nat) (listed : Array Bool) (a : Act) (w : World), wpAny P md ops Q fuel listed a w → wpAnyIn (fenceR r) n P md ops Q fuel listed a w
  | 0, listed, a, w, h => h
  | fuel + 1, listed, a, w, h => by
    refine ⟨h.1, fun i hi => ?_⟩
    have h1 := h.2 i hi
    unfold wpOp at h1
    unfold wpOpIn
    cases ho : ops[i]? with
    | none =>
      rw [ho] at h1
      exact wpAnyR hQ hd fuel _ _ _ h1
    | some o =>
      rw [ho] at h1
      simp only at h1 ⊢
      by_cases hw : Region.wanted o (yielded ops a.tmps)
      · rw [if_pos hw] at h1 ⊢
        rcases h1 with h1 | ⟨_, h1⟩
        · exact Oper.wpIn_mono (fun a w h => wpAnyR hQ hd fuel _ _ _ h) (Oper.wpR (hd i o ho) h1)
        · exact (hQ h1).elim
      · rw [if_neg hw] at h1 ⊢
        exact ⟨fun _ _ => trivial, wpAnyR hQ hd fuel _ _ _ h1⟩

theorem wpIn_region_listR {id : Nat} {l : List Oper} {a : Act} {w : World} (hQ : ¬ LetsOut Q) (hd : l.all noDef = true) (h : wpList P l.toArray Q l a w) : (Code.region id l.toArray false).wpIn (fenceR r) n P Q a w :=
  wpIn_region_lit (wpListR hQ l hd h)

theorem wpIn_region_anyR {id : Nat} {a : Act} {w : World} (hQ : ¬ LetsOut Q) (hd : ops.toList.all noDef = true) (hm : P.follows .mixedOrders = true)
    (h : wpAny P .any ops Q ops.size (Array.replicate ops.size false) a { w with drawn := w.drawn + 1 }) : (Code.region id ops true).wpIn (fenceR r) n P Q a w :=
  wpIn_region_any hm (wpAnyR hQ (fun i o ho => by
    rw [List.all_eq_true] at hd
    exact hd o (by rw [Array.mem_toList_iff]; exact Array.mem_of_getElem? ho)) _ _ _ _ h)
end

/-! ### Marks -/
def markOf (D : Nat) : Deferred := { target := .collected D, args := #[] }

/-- The calls that a function defers are marks of its loops alone, and nothing has been deferred in these. -/
def Marks (n0 : Nat) (ds : List Deferred) (w : World) : Prop := ∃ Ds : List Nat, ds = Ds.map markOf ∧ Ds.Nodup ∧ ∀ D, D ∈ Ds → n0 ≤ D ∧ w.heap[D]? = some (.deferred (some []))

theorem Marks.nil {n0 : Nat} {w : World} : Marks n0 [] w := ⟨[], rfl, List.nodup_nil, fun D h => by cases h⟩

theorem Marks.of_heap {n0 : Nat} {ds : List Deferred} {w w' : World} (h : Marks n0 ds w) (hw : ∀ D : Nat, w.heap[D]? = some (.deferred (some [])) → w'.heap[D]? = some (.deferred (some []))) : Marks n0 ds w' := by
  obtain ⟨Ds, h1, h2, h3⟩ := h
  exact ⟨Ds, h1, h2, fun D hD => ⟨(h3 D hD).1, hw D (h3 D hD).2⟩⟩

/-- What is read as cells is read so when blocks turn that are no cells. -/
structure SameCells (w w' : World) : Prop where
  blk : ∀ b c, Blk w b c → Blk w' b c
  cell : ∀ p v, w.cell? p = some v → w'.cell? p = some v
  map : ∀ (b : Nat) (es : Array MapEntry) (c : Nat), w.heap[b]? = some (.map es c) → w'.heap[b]? = some (.map es c)

theorem SameCells.putObj {w : World} {l : Nat} {o o' : Obj} (h : w.heap[l]? = some o) (ho : o.isCells = false) (hm : ∀ es c, o ≠ .map es c := by intro _ _ h; cases h) : SameCells w (w.putObj l o') where
  map b es c hb := by
    have : b ≠ l := fun e => by subst e; rw [h] at hb; cases hb; exact hm _ _ rfl
    rw [World.putObj_heap_other this]; exact hb
  blk b c hb := by
    obtain ⟨T, fz, h1, h2⟩ := hb
    have : b ≠ l := fun e => by subst e; rw [h] at h1; cases h1; cases ho
    exact ⟨T, fz, by rw [World.putObj_heap_other this]; exact h1, h2⟩
  cell p v hv := by
    have : p.block ≠ l := fun e => by
      obtain ⟨o1, h1, h2⟩ := cells_of_cell hv
      rw [e, h] at h1; cases h1; rw [ho] at h2; cases h2
    unfold World.cell? at *
    rw [World.putObj_heap_other this]; exact hv

theorem SameCells.alloc {w : World} {o : Obj} : SameCells w (w.alloc o) where
  map b es c hb := by
    have hlt := (Array.getElem?_eq_some_iff.1 hb).1
    rw [Below.heap_alloc _ _ _ hlt]; exact hb
  blk b c hb := by
    obtain ⟨T, fz, h1, h2⟩ := hb
    have hlt := (Array.getElem?_eq_some_iff.1 h1).1
    exact ⟨T, fz, by rw [Below.heap_alloc _ _ _ hlt]; exact h1, h2⟩
  cell p v hv := by
    obtain ⟨o1, h1, _⟩ := cells_of_cell hv
    have hlt := (Array.getElem?_eq_some_iff.1 h1).1
    unfold World.cell? at *
    rw [Below.heap_alloc _ _ _ hlt]; exact hv

theorem SameCells.trans {a b c : World} (h : SameCells a b) (h' : SameCells b c) : SameCells a c := ⟨fun x y z => h'.blk x y (h.blk x y z), fun x y z => h'.cell x y (h.cell x y z), fun x y z q => h'.map x y z (h.map x y z q)⟩

theorem CellsAt.same {w w' : World} {b o : Nat} {cs : Array Value} (hs : SameCells w w') (h : CellsAt w b o cs) : CellsAt w' b o cs := fun j hj => by
  have := h j hj
  rw [Array.getElem?_eq_getElem hj] at this ⊢
  exact hs.cell _ _ this

section
variable {w w' : World} {S : Nat → Nat → Prop}
mutual
theorem Rep.same {own : Bool} (hs : SameCells w w') : ∀ (x : PV) (v : Value), Rep w S own x v → Rep w' S own x v
  | .undef, _, h => by unfold Rep at *; exact h
  | .bool _, _, h => by unfold Rep at *; exact h
  | .int _ _, _, h => by unfold Rep at *; exact h
  | .str _, _, h => by unfold Rep at *; exact h
  | .nils, _, h => by unfold Rep at *; exact h
  | .emp, _, h => by unfold Rep at *; exact h
  | .vl ρ n xs, v, h => by
    unfold Rep at *
    obtain ⟨hn, us, h1, h2, h3⟩ := h
    refine ⟨hn, us, h1, Reps.same hs xs us h2, ?_⟩
    rcases h3 with h3 | ⟨b, off, cap, hb, hv, hc⟩
    · exact .inl h3
    · exact .inr ⟨b, off, cap, hb, hv, hc.1, fun i u hu => CellsAt.same hs (hc.2 i u hu)⟩
  | .pin ρ x j, v, h => by
    unfold Rep at *
    obtain ⟨u, b, off, hb, hv, hc, hr⟩ := h
    exact ⟨u, b, off, hb, hv, CellsAt.same hs hc, Rep.same hs x u hr⟩
  | .ref b n i j, v, h => by unfold Rep at *; exact h
  | .sref b n off len, v, h => by
    unfold Rep at *
    obtain ⟨h0, ⟨h1, h2, c, hc, hz⟩ | ⟨cap, c, hv, hl, hc, hz⟩⟩ := h
    · exact ⟨h0, .inl ⟨h1, h2, c, hs.blk _ _ hc, hz⟩⟩
    · exact ⟨h0, .inr ⟨cap, c, hv, hl, hs.blk _ _ hc, hz⟩⟩
  | .agg cs, v, h => by
    unfold Rep at *
    obtain ⟨us, hv, hp, hr⟩ := h
    exact ⟨us, hv, hp, Reps.same hs cs us hr⟩
  | .tup vs, v, h => by
    unfold Rep at *
    obtain ⟨us, hv, hr⟩ := h
    exact ⟨us, hv, Reps.same hs vs us hr⟩
  | .fn f cap, v, h => by
    unfold Rep at *
    obtain ⟨us, hv, hr⟩ := h
    exact ⟨us, hv, Reps.same hs cap us hr⟩
  | .val u, v, h => by unfold Rep at *; exact h
  | .mp ρ b ks xs, v, h => by
    unfold Rep at *
    obtain ⟨hb, hv, es, clock, h1, h2, h3⟩ := h
    exact ⟨hb, hv, es, clock, hs.map _ _ _ h1, h2, Reps.same hs xs _ h3⟩
theorem Reps.same {own : Bool} (hs : SameCells w w') : ∀ (xs : List PV) (us : List Value), Reps w S own xs us → Reps w' S own xs us
  | [], us, h => by unfold Reps at *; exact h
  | x :: xs, us, h => by
    unfold Reps at *
    obtain ⟨u, us', e, h1, h2⟩ := h
    exact ⟨u, us', e, Rep.same hs x u h1, Reps.same hs xs us' h2⟩
end

theorem ObjAt.same {b : Nat} {o : Obj'} (hs : SameCells w w') (h : ObjAt w S b o) : ObjAt w' S b o := by
  obtain ⟨hn, c, us, h1, h2, h3, h4, h5⟩ := h
  exact ⟨hn, c, us, hs.blk _ _ h1, h2, h3, Reps.same hs _ _ h4, h5⟩
end
end Go.VS
