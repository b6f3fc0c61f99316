/-
  From the statements' readings of arguments to trees: a value that a statement reads stands for a tree of the type's shape. Over any program. Condition: the type is of truth values, integers, strings, slices, structs and arrays of these.
-/
import Derived.Test.YteocnbeefedbkaaVm
import Derived.ProofKit
import Derived.OpenShut
set_option linter.unusedSimpArgs false
set_option linter.unusedVariables false
namespace Go.VS

inductive Sh where
  | bool
  | int (k : IntKind)
  | str
  | sl (n : Nat) (e : Sh)
  | st (fs : List Sh)

def Sh.wrap : Sh → List PV → PV
  | .st _, ys => .agg ys
  | _, [y] => y
  | _, _ => .undef

mutual
/-- These trees, one a cell, are of the shape. -/
def Sh.ok : Sh → List PV → Prop
  | .bool, xs => ∃ b, xs = [.bool b]
  | .int k, xs => ∃ n, xs = [.int k n] ∧ (Lit.int k n).wf = true
  | .str, xs => ∃ s, xs = [.str s] ∧ s.length ≤ maxLen
  | .sl n e, xs => ∃ l : List (List PV), xs = [.vl 0 n (l.map e.wrap)] ∧ l.length ≤ maxLen ∧ ∀ y, y ∈ l → e.ok y
  | .st fs, xs => Sh.okL fs xs
def Sh.okL : List Sh → List PV → Prop
  | [], xs => xs = []
  | s :: fs, xs => ∃ ys zs, xs = ys ++ zs ∧ s.ok ys ∧ Sh.okL fs zs
end

/-- The fields, one behind the other, with the shape of each. -/
def fieldsSh (P : Program) (sh : TypeId → Option Sh) : List Field → Nat → Option (List Sh × Nat)
  | [], o => some ([], o)
  | f :: fs, o => match Nat.beq f.offset o, sh f.type, fieldsSh P sh fs (o + P.cellsOf f.type) with
    | true, some s, some (r, m) => some (s :: r, m)
    | _, _, _ => none

def shOf (P : Program) : Nat → TypeId → Option Sh
  | 0, _ => none
  | k + 1, t => match P.underlying t with
    | some .bool => some .bool
    | some (.int q) => some (.int q)
    | some .string => some .str
    | some (.slice e) => match shOf P k e, Nat.blt 0 (P.cellsOf e) with
      | some s, true => some (.sl (P.cellsOf e) s)
      | _, _ => none
    | some (.struct fs) => match fieldsSh P (shOf P k) fs.toList 0 with
      | some (r, m) => match Nat.beq m (P.cellsOf t) with
        | true => some (.st r)
        | false => none
      | none => none
    | some (.array n e) => match shOf P k e, Nat.beq (n * P.cellsOf e) (P.cellsOf t) with
      | some s, true => some (.st (List.replicate n s))
      | _, _ => none
    | _ => none

section
variable {H : Type} {enc : TypeId × Value → H} {P : Program} {w : World} {held : Bool} {spare : Nat → Bool}

/-- All of the world as it stands, as one lot. -/
def All0 (w : World) : Nat → Nat → Prop := fun ρ b => ρ = 0 ∧ b < w.heap.size

theorem Rep.wrap {S : Nat → Nat → Prop} {e : Sh} {ys : List PV} {us : List Value} (ho : e.ok ys) (h : Reps w S false ys us) (h1 : ∀ u ∈ us, u.oneCell' = true) :
    ∃ u : Value, Rep w S false (e.wrap ys) u ∧ u.cells = us.toArray := by
  have one : ∀ (x : PV), ys = [x] → ∃ u : Value, Rep w S false x u ∧ u.cells = us.toArray := by
    rintro x rfl
    rw [Reps.cons_iff] at h
    obtain ⟨u, us', rfl, h2, h3⟩ := h
    rw [Reps.nil_iff] at h3
    subst h3
    refine ⟨u, h2, ?_⟩
    have := h1 u (by simp)
    cases u <;> simp_all [Value.oneCell', Value.cells]
  cases e with
  | bool => obtain ⟨b, rfl⟩ := ho; exact one _ rfl
  | int k => obtain ⟨n, rfl, _⟩ := ho; exact one _ rfl
  | str => obtain ⟨s, rfl, _⟩ := ho; exact one _ rfl
  | sl n e => obtain ⟨l, rfl, _⟩ := ho; exact one _ rfl
  | st fs => exact ⟨.agg us.toArray, by simp only [Sh.wrap]; unfold Rep; exact ⟨us, rfl, h1, h⟩, rfl⟩

theorem Reps.append' {S : Nat → Nat → Prop} {own : Bool} : ∀ {xs ys : List PV} {us vs : List Value}, Reps w S own xs us → Reps w S own ys vs → Reps w S own (xs ++ ys) (us ++ vs) := Reps.append

theorem Sh.okL_replicate {s : Sh} : ∀ {n : Nat} {xs : List PV}, Sh.okL (List.replicate n s) xs ↔ ∃ L : List (List PV), L.length = n ∧ xs = L.flatten ∧ ∀ y, y ∈ L → s.ok y
  | 0, xs => by
    simp only [List.replicate_zero, Sh.okL]
    constructor
    · rintro rfl; exact ⟨[], rfl, rfl, by simp⟩
    · rintro ⟨L, h, rfl, _⟩; rw [List.length_eq_zero_iff] at h; subst h; rfl
  | n + 1, xs => by
    simp only [List.replicate_succ, Sh.okL]
    constructor
    · rintro ⟨ys, zs, rfl, h1, h2⟩
      obtain ⟨L, h3, rfl, h4⟩ := Sh.okL_replicate.1 h2
      refine ⟨ys :: L, by simp [h3], rfl, ?_⟩
      intro y hy
      rcases List.mem_cons.1 hy with rfl | hy
      · exact h1
      · exact h4 y hy
    · rintro ⟨L, h, rfl, h4⟩
      cases L with
      | nil => simp at h
      | cons y L => exact ⟨y, L.flatten, rfl, h4 y (by simp), Sh.okL_replicate.2 ⟨L, by simpa using h, rfl, fun z hz => h4 z (by simp [hz])⟩⟩

/-- The fields' cells, one after the other. -/
theorem fields_go {sh : TypeId → Option Sh} {tr : TypeId → List Value → Option (DataW H × List MemPlace)} {cs : List Value}
    (ih : ∀ t cs x s, tr t cs = some x → sh t = some s → ∃ xs, s.ok xs ∧ Reps w (All0 w) false xs cs ∧ ∀ c ∈ cs, c.oneCell' = true) :
    ∀ (L : List Field) (o m : Nat) (r : List Sh), fieldsSh P sh L o = some (r, m) → m = cs.length → (∀ f, f ∈ L → ∃ x, tr f.type ((cs.drop f.offset).take (P.cellsOf f.type)) = some x) →
      o ≤ cs.length ∧ ∃ xs, Sh.okL r xs ∧ Reps w (All0 w) false xs (cs.drop o) ∧ ∀ c ∈ cs.drop o, c.oneCell' = true
  | [], o, m, r, h, hm, _ => by
    simp only [fieldsSh, Option.some.injEq, Prod.mk.injEq] at h
    obtain ⟨rfl, rfl⟩ := h
    subst hm
    exact ⟨Nat.le_refl _, [], rfl, by simp [Reps.nil_iff], by simp⟩
  | f :: L, o, m, r, h, hm, hf => by
    simp only [fieldsSh] at h
    split at h
    · rename_i s r' m' e1 e2 e3
      cases h
      have e1 := Nat.eq_of_beq_eq_true e1
      obtain ⟨hle, xs, h1, h2, h3⟩ := fields_go ih L _ _ _ e3 hm fun g hg => hf g (List.mem_cons_of_mem _ hg)
      obtain ⟨x, hx⟩ := hf f (by simp)
      obtain ⟨ys, h4, h5, h6⟩ := ih _ _ _ _ hx e2
      rw [e1] at h5 h6
      have hsplit : cs.drop o = (cs.drop o).take (P.cellsOf f.type) ++ cs.drop (o + P.cellsOf f.type) := by
        rw [← List.drop_drop, List.take_append_drop]
      refine ⟨by omega, ys ++ xs, ⟨ys, xs, rfl, h4, h1⟩, ?_, ?_⟩
      · rw [hsplit]; exact h5.append h2
      · rw [hsplit]
        intro c hc
        rcases List.mem_append.1 hc with hc | hc
        · exact h6 c hc
        · exact h3 c hc
    · cases h

theorem array_go {e n : Nat} {s : Sh} {tr : List Value → Option (DataW H × List MemPlace)} {z : Nat}
    (ih : ∀ cs x, tr cs = some x → ∃ xs, s.ok xs ∧ Reps w (All0 w) false xs cs ∧ ∀ c ∈ cs, c.oneCell' = true) :
    ∀ (n : Nat) (cs : List Value), cs.length = n * z → (∀ i, i < n → ∃ x, tr ((cs.drop (i * z)).take z) = some x) →
      ∃ xs, Sh.okL (List.replicate n s) xs ∧ Reps w (All0 w) false xs cs ∧ ∀ c ∈ cs, c.oneCell' = true
  | 0, cs, hl, _ => by
    have : cs = [] := by rw [Nat.zero_mul] at hl; exact List.eq_nil_of_length_eq_zero hl
    subst this
    exact ⟨[], rfl, by rw [Reps.nil_iff], by simp⟩
  | n + 1, cs, hl, hf => by
    obtain ⟨x, hx⟩ := hf 0 (by omega)
    rw [Nat.zero_mul, List.drop_zero] at hx
    obtain ⟨ys, h1, h2, h3⟩ := ih _ _ hx
    obtain ⟨xs, h4, h5, h6⟩ := array_go (e := e) (n := n) (z := z) ih n (cs.drop z) (by rw [List.length_drop, hl, Nat.succ_mul]; omega) fun i hi => by
      obtain ⟨y, hy⟩ := hf (i + 1) (by omega)
      refine ⟨y, ?_⟩
      rw [List.drop_drop]
      rw [Nat.succ_mul, Nat.add_comm] at hy
      exact hy
    refine ⟨ys ++ xs, by rw [List.replicate_succ]; exact ⟨ys, xs, rfl, h1, h4⟩, ?_, ?_⟩
    · have := h2.append h5
      rwa [List.take_append_drop] at this
    · intro c hc
      rw [← List.take_append_drop z cs] at hc
      rcases List.mem_append.1 hc with hc | hc
      · exact h3 c hc
      · exact h6 c hc

theorem add_add (b o n m : Nat) : ((⟨b, o, none⟩ : Addr).add n).add m = ⟨b, o + n + m, none⟩ := by
  unfold Addr.add
  split <;> split <;> simp_all

theorem trod_rep : ∀ (m k : Nat) (t : TypeId) (cs : List Value) (x : DataW H × List MemPlace) (s : Sh), DataW.trod enc P w 0 spare held m t cs = some x → shOf P k t = some s →
    ∃ xs, s.ok xs ∧ Reps w (All0 w) false xs cs ∧ ∀ c ∈ cs, c.oneCell' = true := by
  intro m
  induction m with
  | zero => intro k t cs x s h; simp [DataW.trod] at h
  | succ m ih =>
    intro k t cs x s h hs
    cases k with
    | zero => simp [shOf] at hs
    | succ k =>
      simp only [shOf] at hs
      split at hs
      · rename_i ht
        cases hs
        obtain ⟨b, rfl, _⟩ := DataW.trod_bool ht h
        exact ⟨[.bool b], ⟨b, rfl⟩, by simp [Reps, Rep], by simp [Value.oneCell']⟩
      · rename_i q ht
        cases hs
        obtain ⟨n, rfl, _, hw⟩ := DataW.trod_int ht h
        exact ⟨[.int q n], ⟨n, rfl, hw⟩, by simp [Reps, Rep], by simp [Value.oneCell']⟩
      · rename_i ht
        cases hs
        obtain ⟨b, rfl, _, hl⟩ := DataW.trod_string ht h
        exact ⟨[.str b.data.toList], ⟨b.data.toList, rfl, by rw [Array.length_toList]; exact hl⟩, by simp [Reps, Rep], by simp [Value.oneCell']⟩
      · rename_i e ht
        split at hs
        · rename_i se hse hpos
          cases hs
          have hpos := ltb hpos
          rcases DataW.trod_slice ht h with ⟨rfl, _⟩ | ⟨a, len, cap, elems, rest, n, hn, rfl, _, _, hlc, hcm, hel, hget, _⟩
          · refine ⟨[.vl 0 (P.cellsOf e) []], ⟨[], rfl, Nat.zero_le _, by simp⟩, ?_, by simp [Value.oneCell']⟩
            simp only [Reps, Rep]
            exact ⟨_, _, rfl, ⟨hpos, [], by simp, rfl, .inl ⟨rfl, none, 0, rfl⟩⟩, rfl⟩
          · cases hn
            have each : ∀ i : Nat, ∃ y : List PV × Value, i < len → se.ok y.1 ∧ Rep w (All0 w) false (se.wrap y.1) y.2 ∧ Good (P.cellsOf e) y.2 ∧ (∀ j, j < P.cellsOf e → w.cell? ((a.add (i * P.cellsOf e)).add j) = y.2.cells[j]?) ∧ a.block < w.heap.size ∧ (∃ off, a = ⟨a.block, off, a.spot⟩) := by
              intro i
              by_cases hi : i < len
              · have h1 := hget i hi
                rw [List.getElem?_eq_getElem (by omega), Option.bind_eq_some_iff] at h1
                obtain ⟨ci, h2, h3⟩ := h1
                obtain ⟨ys, h4, h5, h6⟩ := ih k e ci _ se h3 hse
                obtain ⟨u, h7, h8⟩ := Rep.wrap h4 h5 h6
                obtain ⟨_, h9, h10⟩ := World.cells?_some h2
                have hblk := World.cells?_block h2 hpos
                refine ⟨(ys, u), fun _ => ⟨h4, h7, ⟨by rw [h8]; simpa using h9, fun j c hc => ?_⟩, fun j hj => by rw [h8]; simpa using h10 j hj, ?_, ⟨a.off, rfl⟩⟩⟩
                · rw [h8] at hc
                  exact h6 c (by simpa using List.mem_of_getElem? (by simpa using hc))
                · unfold Addr.add at hblk
                  split at hblk <;> exact hblk
              · exact ⟨([], .bool false), fun h => absurd h hi⟩
            let g := fun i => Classical.choose (each i)
            have hg : ∀ i, i < len → _ := fun i hi => Classical.choose_spec (each i) hi
            refine ⟨[.vl 0 (P.cellsOf e) (((List.range len).map fun i => (g i).1).map se.wrap)], ⟨_, rfl, by rw [List.length_map, List.length_range]; exact Nat.le_trans hlc hcm, ?_⟩, ?_, by simp [Value.oneCell']⟩
            · intro y hy
              obtain ⟨i, hi, rfl⟩ := List.mem_map.1 hy
              exact (hg i (List.mem_range.1 hi)).1
            · rw [Reps.cons_iff]
              refine ⟨_, [], rfl, ?_, by rw [Reps.nil_iff]⟩
              unfold Rep
              refine ⟨hpos, (List.range len).map fun i => (g i).2, ?_, ?_, ?_⟩
              · intro u hu
                obtain ⟨i, hi, rfl⟩ := List.mem_map.1 hu
                exact (hg i (List.mem_range.1 hi)).2.2.1
              · have : ∀ L : List Nat, (∀ i ∈ L, i < len) → Reps w (All0 w) false ((L.map fun i => (g i).1).map se.wrap) (L.map fun i => (g i).2) := by
                  intro L
                  induction L with
                  | nil => intro _; simp [Reps.nil_iff]
                  | cons i L ihL =>
                    intro hL
                    simp only [List.map_cons]
                    rw [Reps.cons_iff]
                    exact ⟨_, _, rfl, (hg i (hL i (by simp))).2.1, ihL fun j hj => hL j (by simp [hj])⟩
                exact this _ fun i hi => List.mem_range.1 hi
              · by_cases hz : len = 0
                · subst hz
                  exact .inl ⟨rfl, some a, cap, rfl⟩
                · right
                  have h0 := hg 0 (by omega)
                  have hspot : a.spot = none := by
                    have hc := h0.2.2.2.1 0 hpos
                    obtain ⟨c, hc'⟩ : ∃ c, (Classical.choose (each 0)).2.cells[0]? = some c := ⟨_, Array.getElem?_eq_getElem (by have := h0.2.2.1.1; omega)⟩
                    rw [hc'] at hc
                    simpa [Addr.add] using World.cell?_spot hc
                  obtain ⟨b, off, sp⟩ := a
                  simp only at hspot
                  subst hspot
                  refine ⟨b, off, cap, ⟨rfl, h0.2.2.2.2.1⟩, by simp, by simpa using hlc, fun i u hu => ?_⟩
                  rw [List.getElem?_map, Option.map_eq_some_iff] at hu
                  obtain ⟨i', hi', rfl⟩ := hu
                  obtain ⟨hlt, hv⟩ := List.getElem?_eq_some_iff.1 hi'
                  simp only [List.getElem_range] at hv
                  subst hv
                  simp only [List.length_range] at hlt
                  intro j hj
                  have h1 := hg i hlt
                  have := h1.2.2.2.1 j (by rw [h1.2.2.1.1] at hj; exact hj)
                  rw [← this]
                  rw [add_add]
        · cases hs
      · rename_i fs ht
        split at hs
        · rename_i r mm hf
          split at hs
          · rename_i hm
            cases hs
            have hm := Nat.eq_of_beq_eq_true hm
            obtain ⟨xs, n, hn, _, hl, hxl, hall⟩ := DataW.trod_struct ht h
            cases hn
            obtain ⟨_, ys, h1, h2, h3⟩ := fields_go (P := P) (w := w) (sh := shOf P k) (tr := DataW.trod enc P w 0 spare held m) (cs := cs) (fun t cs x s h h' => ih k t cs x s h h') fs.toList 0 mm r hf (by rw [hm, hl]) (by
              intro f hfm
              obtain ⟨i, hi⟩ := List.getElem?_of_mem hfm
              have hi' : fs[i]? = some f := by simpa using hi
              have := hall i f hi'
              have hlt := (Array.getElem?_eq_some_iff.1 hi').1
              rw [List.getElem?_eq_getElem (by omega)] at this
              exact ⟨_, this⟩)
            rw [List.drop_zero] at h2 h3
            exact ⟨ys, h1, h2, h3⟩
          · cases hs
        · cases hs
      · rename_i nn e ht
        split at hs
        · rename_i se hse hm
          cases hs
          have hm := Nat.eq_of_beq_eq_true hm
          obtain ⟨xs, n, hn, _, hl, hxl, hall⟩ := DataW.trod_array ht h
          cases hn
          exact array_go (e := e) (n := nn) (z := P.cellsOf e) (s := se) (tr := DataW.trod enc P w 0 spare held m e) (fun cs x h => ih k e cs x se h hse) nn cs (by rw [hl, ← hm]) fun i hi => by
            have := hall i hi
            rw [List.getElem?_eq_getElem (by omega)] at this
            exact ⟨_, this⟩
        · cases hs
      · cases hs

/-! ### A law's answer -/
open Go.RowKit
theorem Ext.below {w w' : World} (h : Ext (fun b => b ∈ ([] : List (Nat × Obj')).map Prod.fst) w w') : Below w.heap.size w w' :=
  ⟨h.os, h.tape, h.output, h.size, fun k hk => h.block k hk (by simp)⟩

/-- A law that is true whatever it is called with. -/
theorem Does.lawL {f : FuncId} {args : List PV} (hLib : LibW P w (fun _ => False)) (h : Does P f args [] 0 (fun x H => x = .bool true ∧ H = [])) {vs : List Value} (hv : Reps w (All0 w) true args vs) :
    Calls P f vs.toArray w fun e w' => e = .returned (.bool true) ∧ Below w.heap.size w w' := by
  refine (h w (All0 w) vs (fun ρ b hb => hb.2) hv ⟨by simp, fun b o hb => by simp at hb⟩ (hLib.step (Ext.refl _ w) (fun b hb => by simp at hb))).mono ?_
  rintro e w' ⟨v, x, H', S', rfl, ⟨rfl, rfl⟩, hx, _, he, _⟩
  unfold Rep at hx
  subst hx
  exact ⟨rfl, he.below⟩

/-- An argument, opened. -/
theorem Trod.rep {k : Nat} {t : TypeId} {v : Value} {d : DataW H} {p : List MemPlace} {s : Sh} (h : DataW.Trod enc P w 0 spare held t v d p) (hs : shOf P k t = some s) :
    ∃ ys, s.ok ys ∧ Reps w (All0 w) false ys v.cells.toList ∧ ∀ c ∈ v.cells.toList, c.oneCell' = true := by
  obtain ⟨m, h⟩ := h
  exact trod_rep m k t _ _ s h hs

theorem Reps.any {S : Nat → Nat → Prop} {own : Bool} {xs : List PV} {us : List Value} (h : Reps w S own xs us) : Reps w S true xs us := by
  cases own with
  | true => exact h
  | false => exact h.own

theorem Trod.agg {r : Reach} {b k : Nat} {t : TypeId} {fs : Array Field} {v : Value} {d : DataW H} {p : List MemPlace} {s : Sh} (ht : P.underlying t = some (.struct fs)) (hval : Value.okWide P w r b t v) (h : DataW.Trod enc P w 0 spare held t v d p) (hs : shOf P k t = some s) :
    ∃ ys, s.ok ys ∧ Rep w (All0 w) true (.agg ys) v := by
  unfold Value.okWide at hval
  rw [ht] at hval
  obtain ⟨cs, rfl, _⟩ := hval
  obtain ⟨ys, h1, h2, h3⟩ := Trod.rep h hs
  refine ⟨ys, h1, ?_⟩
  unfold Rep
  exact ⟨cs.toList, by simp, h3, h2.own⟩

theorem okL_int {k : IntKind} {xs : List PV} {fs : List Sh} (h : Sh.okL (.int k :: fs) xs) : ∃ n zs, xs = .int k n :: zs ∧ (Lit.int k n).wf = true ∧ Sh.okL fs zs := by
  obtain ⟨ys, zs, rfl, ⟨n, rfl, hw⟩, h2⟩ := h
  exact ⟨n, zs, rfl, hw, h2⟩

theorem ok_ints {k : IntKind} : ∀ {l : List (List PV)}, (∀ y, y ∈ l → (Sh.int k).ok y) → ∃ l' : List Int, l.map (Sh.int k).wrap = l'.map (PV.int k) ∧ l'.length = l.length
  | [], _ => ⟨[], rfl, rfl⟩
  | y :: l, h => by
    obtain ⟨n, rfl, _⟩ := h y (by simp)
    obtain ⟨l', h1, h2⟩ := ok_ints (l := l) fun z hz => h z (by simp [hz])
    exact ⟨n :: l', by simp [h1, Sh.wrap], by simp [h2]⟩

theorem okL_ints {k : IntKind} {n : Nat} {xs : List PV} {fs : List Sh} (h : Sh.okL (.sl n (.int k) :: fs) xs) : ∃ (l : List Int) (zs : List PV), xs = .vl 0 n (l.map (PV.int k)) :: zs ∧ l.length ≤ maxLen ∧ Sh.okL fs zs := by
  obtain ⟨ys, zs, rfl, ⟨l, rfl, hl, hw⟩, h2⟩ := h
  obtain ⟨l', h3, h4⟩ := ok_ints hw
  exact ⟨l', zs, by rw [h3]; rfl, by omega, h2⟩

theorem ok_map {β : Type} {n : Nat} {e : Sh} {enc : β → PV} {Q : β → Prop} (he : ∀ y, e.ok y → ∃ c, e.wrap y = enc c ∧ Q c) {ys : List PV} (h : Sh.ok (.sl n e) ys) :
    ∃ l : List β, ys = [.vl 0 n (l.map enc)] ∧ l.length ≤ maxLen ∧ ∀ c, c ∈ l → Q c := by
  obtain ⟨l, rfl, hl, hw⟩ := h
  have key : ∀ l : List (List PV), (∀ y, y ∈ l → e.ok y) → ∃ l' : List β, l.map e.wrap = l'.map enc ∧ l'.length = l.length ∧ ∀ c, c ∈ l' → Q c := by
    intro l
    induction l with
    | nil => intro _; exact ⟨[], rfl, rfl, by simp⟩
    | cons y l ih =>
      intro h
      obtain ⟨c, h1, h2⟩ := he y (h y (by simp))
      obtain ⟨l', h3, h4, h5⟩ := ih fun z hz => h z (by simp [hz])
      exact ⟨c :: l', by simp [h1, h3], by simp [h4], by simpa using ⟨h2, h5⟩⟩
  obtain ⟨l', h1, h2, h3⟩ := key l hw
  exact ⟨l', by rw [h1], by omega, h3⟩

theorem Trod.slice {r : Reach} {b k : Nat} {t e : TypeId} {v : Value} {d : DataW H} {p : List MemPlace} {s : Sh} (ht : P.underlying t = some (.slice e)) (hval : Value.okWide P w r b t v) (h : DataW.Trod enc P w 0 spare held t v d p) (hs : shOf P k t = some s) :
    ∃ ys, s.ok ys ∧ Reps w (All0 w) true ys [v] := by
  obtain ⟨a, len, cap, rfl⟩ := Go.WideShapes.okWide_slice ht hval
  obtain ⟨ys, h1, h2, _⟩ := Trod.rep h hs
  exact ⟨ys, h1, by simpa [Value.cells] using h2.own⟩
end
end Go.VS
