/-
  Entering and leaving a function; calls by what the callee does; own blocks lent and given away. Over any program. Conditions as at 'Does'.
-/
import Derived.Test.YteocnbeefedbkaaVi
set_option linter.unusedSimpArgs false
set_option linter.unusedVariables false
namespace Go.VS

/-! ### Entering and leaving -/
def zipArgs : Nat → List PV → List (Nat × PV)
  | _, [] => []
  | i, x :: xs => (i, x) :: zipArgs (i + 1) xs

theorem get_zipArgs : ∀ (xs : List PV) (i t : Nat) (x : PV), get (zipArgs i xs) t = some x → ∃ k, t = i + k ∧ xs[k]? = some x
  | [], i, t, x, h => by cases h
  | y :: xs, i, t, x, h => by
    simp only [zipArgs, get] at h
    split at h
    · rename_i e
      have e := Nat.eq_of_beq_eq_true e
      subst e
      cases h
      exact ⟨0, rfl, rfl⟩
    · obtain ⟨k, h1, h2⟩ := get_zipArgs xs (i + 1) t x h
      exact ⟨k + 1, by omega, by simpa using h2⟩

/-- A result variable of the function reads as this tree. -/
def ResOK (P : Program) (α : AEnv) : ResultVar → PV → Prop
  | .tmp t, x => get α.E t = some x
  | .cell c t, x => ∃ (b n k : Nat) (ob : Obj'), get α.E c = some (.ref b n 0 0) ∧ α.H[k]? = some (b, ob) ∧ ob.n = n ∧ ob.xs[0]? = some x ∧ tyk P t = some (true, n) ∧ x.isAgg n = true

def ResAll (P : Program) (α : AEnv) : List ResultVar → List PV → Prop
  | [], xs => xs = []
  | r :: rs, xs => ∃ x xs', xs = x :: xs' ∧ ResOK P α r x ∧ ResAll P α rs xs'

def packPV : List PV → PV
  | [x] => x
  | xs => .tup xs

def RetQ (P : Program) (rs : List ResultVar) (R : PV → List (Nat × Obj') → Prop) : Exit → AEnv → Prop
  | .ret, α | .normal, α => ∃ xs H', ResAll P α rs xs ∧ H'.Sublist α.H ∧ R (packPV xs) H'
  | _, _ => False

section
variable {Φ : Ctx} {S : Nat → Nat → Prop} {α : AEnv} {a : Act} {w : World}

theorem results_run (he : Env Φ S α a w) : ∀ (rs : List ResultVar) (xs : List PV), ResAll Φ.P α rs xs →
    ∃ us : List Value, (rs.mapM (fun (r : ResultVar) => (match r with | .tmp t => pure (a.tmps.getD t undef) | .cell c t => do loadVar t (← asAddr (a.tmps.getD c undef)) : Sem Value))).run Φ.P w = .ok us w ∧ Reps w S true xs us
  | [], xs, h => by simp only [ResAll] at h; subst h; exact ⟨[], by simp, by rw [Reps.nil_iff]⟩
  | r :: rs, xs, h => by
    obtain ⟨x, xs', rfl, h1, h2⟩ := h
    obtain ⟨us, h3, h4⟩ := results_run he rs xs' h2
    have key : ∃ u, (match r with | .tmp t => pure (a.tmps.getD t undef) | .cell c t => do loadVar t (← asAddr (a.tmps.getD c undef)) : Sem Value).run Φ.P w = .ok u w ∧ Rep w S true x u := by
      cases r with
      | tmp t =>
        obtain ⟨v, h5, h6⟩ := he.slots t x h1
        exact ⟨v, by simp [h5], h6⟩
      | cell c t =>
        obtain ⟨b, n, k, ob, q1, q2, rfl, q4, q5, q6⟩ := h1
        obtain ⟨v, h5, h6⟩ := he.slots c _ q1
        unfold Rep at h6
        obtain ⟨u, hg, hc, hr⟩ := (he.objK q2).1.elem q4
        obtain ⟨us', rfl, hl, _⟩ := hr.isAgg q6
        have hload := run_loadAgg (P := Φ.P) (w := w) q5 hl (by simpa [Value.cells] using hc)
        refine ⟨_, ?_, hr⟩
        simp only [Instr.loadAt, Instr.sureAddr, Sem.run_bind, Sem.run_pure, Result.andThen_ok] at hload
        have hv : a.tmps.getD c undef = .pointer (some ⟨b, 0 * ob.n + 0, none⟩) := by
          rw [Array.getD_eq_getD_getElem?, h5]; exact h6.2
        simp only [hv, asAddr, Sem.run_bind, Sem.run_pure, Result.andThen_ok]
        simpa using hload
    obtain ⟨u, h5, h6⟩ := key
    refine ⟨u :: us, ?_, by rw [Reps.cons_iff]; exact ⟨u, us, rfl, h6, h4⟩⟩
    rw [List.mapM_cons, Sem.run_bind, h5, Result.andThen_ok, Sem.run_bind, h3, Result.andThen_ok, Sem.run_pure]

theorem results_ok (he : Env Φ S α a w) {fn : Func} {rs : List ResultVar} (hrs : fn.results = rs.toArray) {xs : List PV} (h : ResAll Φ.P α rs xs) :
    ∃ v, (results fn a.tmps).run Φ.P w = .ok v w ∧ Rep w S true (packPV xs) v := by
  obtain ⟨us, h1, h2⟩ := results_run he rs xs h
  refine ⟨if h : us.length = 1 then us[0] else .tuple us.toArray, ?_, ?_⟩
  · have h3 : (fn.results.mapM (fun (r : ResultVar) => (match r with | .tmp t => pure (a.tmps.getD t undef) | .cell c t => do loadVar t (← asAddr (a.tmps.getD c undef)) : Sem Value))).run Φ.P w = .ok us.toArray w := by
      rw [hrs, List.mapM_toArray, Sem.run_map, h1]
      rfl
    unfold results
    rw [Sem.run_bind]
    erw [h3]
    simp [Result.andThen_ok]
  · have hl := h2.length
    by_cases h1 : us.length = 1
    · rw [dif_pos h1]
      match us, xs, h1, h2, hl with
      | [u], [x], _, h2, _ =>
        rw [Reps.cons_iff] at h2
        obtain ⟨u', us', e, h3, _⟩ := h2
        cases e
        exact h3
    · rw [dif_neg h1]
      have : packPV xs = .tup xs := by
        match xs, hl with
        | [], _ => rfl
        | [x], hl => exact absurd (by simpa using hl) h1
        | x :: y :: r, _ => rfl
      rw [this]
      unfold Rep
      exact ⟨us, rfl, h2⟩
end

/-- A mark is taken in at the function's end. -/
theorem Env.take {Φ : Ctx} {S : Nat → Nat → Prop} {α : AEnv} {a : Act} {w : World} {D : Nat} {Ds : List Nat} (h : Env Φ S α a w) (hD : Φ.w0.heap.size ≤ D) (hd : w.heap[D]? = some (.deferred (some []))) (hn : D ∉ Ds) (hDs : Ds.Nodup)
    (hr : ∀ E, E ∈ Ds → Φ.w0.heap.size ≤ E ∧ w.heap[E]? = some (.deferred (some []))) : Env Φ S α ⟨a.tmps, Ds.map markOf⟩ (w.putObj D (.deferred none)) :=
  have hs : SameCells w (w.putObj D (.deferred none)) := .putObj hd rfl
  { defers := ⟨Ds, rfl, hDs, fun E hE => ⟨(hr E hE).1, (World.putObj_heap_other (by rintro rfl; exact hn hE)).trans (hr E hE).2⟩⟩
    size := h.size
    ext := ⟨h.ext.os, h.ext.tape, h.ext.output, by simpa [World.putObj] using h.ext.size, fun k hk hI => (World.putObj_heap_other (by omega)).trans (h.ext.block k hk hI), fun k c hc => by
      obtain ⟨c', h1, h2⟩ := h.ext.shape k c hc
      exact ⟨c', hs.blk _ _ h1, h2⟩⟩
    sub := h.sub
    bound := fun ρ b hb => ⟨by simpa [World.putObj] using (h.bound ρ b hb).1, (h.bound ρ b hb).2⟩
    disj := h.disj
    slots := fun t x hx => let ⟨v, h1, h2⟩ := h.slots t x hx; ⟨v, h1, Rep.same hs x v h2⟩
    objs := fun b o hb => ⟨(h.objs b o hb).1.same hs, (h.objs b o hb).2⟩
    nodup := h.nodup }

theorem leavesM {Φ : Ctx} {S : Nat → Nat → Prop} {α : AEnv} {fn : Func} {R : Ending → World → Prop} (hR : ∀ a w, a.defers = [] → Env Φ S α a w → ∃ v, (results fn a.tmps).run Φ.P w = .ok v w ∧ R (.returned v) w) :
    ∀ (Ds : List Nat) (a : Act) (w : World), a.defers = Ds.map markOf → Ds.Nodup → (∀ D, D ∈ Ds → Φ.w0.heap.size ≤ D ∧ w.heap[D]? = some (.deferred (some []))) → Env Φ S α a w → LeavesInM (fenceR none) 0 Φ.P fn a.tmps R (Ds.map markOf) .returning w
  | [], a, w, hd, _, _, h => by
    obtain ⟨v, h1, h2⟩ := hR a w hd h
    exact ⟨v, h1, h2⟩
  | D :: Ds, a, w, hd, hn, hr, h => by
    have hD := hr D (List.mem_cons_self ..)
    rw [List.nodup_cons] at hn
    have h2 := h.take hD.1 hD.2 hn.1 hn.2 fun E hE => hr E (List.mem_cons_of_mem _ hE)
    refine ⟨by simp, .inl ⟨D, _, rfl, run_takeDeferred hD.2, ?_⟩⟩
    exact leavesM hR Ds ⟨a.tmps, Ds.map markOf⟩ _ rfl hn.2 (fun E hE => by
      have := hr E (List.mem_cons_of_mem _ hE)
      exact ⟨this.1, (World.putObj_heap_other (by rintro rfl; exact hn.1 hE)).trans this.2⟩) h2

theorem Does.introW {P : Program} {f : FuncId} {fn : Func} {c : Code} {args : List PV} {H : List (Nat × Obj')} {rn N : Nat} {rs : List ResultVar} {R : PV → List (Nat × Obj') → Prop}
    (hf : P.funcs[f]? = some fn) (hb : fn.body = some c) (hN : fn.ntmps = N) (hl : Nat.ble args.length N = true) (hrs : fn.results = rs.toArray) {w : World} {S : Nat → Nat → Prop} {vs : List Value}
    (hS : ∀ ρ b, S ρ b → b < w.heap.size) (hv : Reps w S true args vs) (hH : HeapOK w S H) (hLib : LibW P w (fun b => b ∈ H.map Prod.fst))
    (h : V ⟨P, w, S, fun b => b ∈ H.map Prod.fst, rn, false, hLib, none⟩ c (RetQ P rs R) ⟨N, zipArgs 0 args, H⟩) :
    Calls P f vs.toArray w fun e w' => ∃ v x H' S', e = .returned v ∧ R x H' ∧ Rep w' S' true x v ∧ HeapOK w' S' H' ∧ Ext (fun b => b ∈ H.map Prod.fst) w w' ∧ (∀ ρ b, S ρ b → S' ρ b) ∧
      (∀ ρ b, S' ρ b → b < w'.heap.size ∧ (S ρ b ∨ (ρ = rn ∧ w.heap.size ≤ b))) ∧ (∀ b, b ∈ H'.map Prod.fst → b ∈ H.map Prod.fst ∨ w.heap.size ≤ b) := by
  have hl : args.length ≤ N := Nat.le_of_ble_eq_true hl
  have hvl := hv.length
  refine callsR' (r := none) (n := 0) (callsIn_of_wp_marks hf hb trivial ?_)
  have he : ER ⟨P, w, S, fun b => b ∈ H.map Prod.fst, rn, false, hLib, none⟩ ⟨N, zipArgs 0 args, H⟩ { tmps := vs.toArray ++ Array.replicate (fn.ntmps - vs.toArray.size) undef, defers := [] } w := by
    refine ⟨S, ⟨.nil, by simp [hN]; omega, Ext.refl _ _, fun _ _ h => h, fun ρ b h => ⟨hS ρ b h, .inl h⟩, (by simp), ?_, fun b o hm => ⟨(hH.2 b o hm).1, (hH.2 b o hm).2, .inr (List.mem_map.2 ⟨(b, o), hm, rfl⟩)⟩, hH.1⟩⟩
    intro t x hx
    obtain ⟨k, rfl, h2⟩ := get_zipArgs args 0 t x hx
    obtain ⟨u, h3, h4⟩ := hv.get h2
    have hlt := (List.getElem?_eq_some_iff.1 h3).1
    exact ⟨u, by rw [Nat.zero_add, Array.getElem?_append_left (by simpa using hlt)]; simpa using h3, h4⟩
  refine wpIn_mono (h _ w he) ?_
  rintro e a' w' ⟨α', h1, S', h2⟩
  have key : (∃ xs H', ResAll P α' rs xs ∧ H'.Sublist α'.H ∧ R (packPV xs) H') → LeavesInM (fenceR none) 0 P fn a'.tmps (fun e w' => ∃ v x H' S', e = .returned v ∧ R x H' ∧ Rep w' S' true x v ∧ HeapOK w' S' H' ∧ Ext (fun b => b ∈ H.map Prod.fst) w w' ∧ (∀ ρ b, S ρ b → S' ρ b) ∧
      (∀ ρ b, S' ρ b → b < w'.heap.size ∧ (S ρ b ∨ (ρ = rn ∧ w.heap.size ≤ b))) ∧ (∀ b, b ∈ H'.map Prod.fst → b ∈ H.map Prod.fst ∨ w.heap.size ≤ b)) a'.defers .returning w' := by
    rintro ⟨xs, H', q1, q2, q3⟩
    obtain ⟨Ds, d1, d2, d3⟩ := h2.defers
    rw [d1]
    refine leavesM ?_ Ds a' w' d1 d2 d3 h2
    intro a1 w1 _ h2
    obtain ⟨v, q4, q5⟩ := results_ok h2 hrs q1
    refine ⟨v, q4, v, _, H', S', rfl, q3, q5, ⟨h2.nodup.sublist (q2.map _), fun b o hm => ⟨(h2.objs b o (q2.subset hm)).1, (h2.objs b o (q2.subset hm)).2.1⟩⟩, h2.ext, h2.sub, fun ρ b hb => ?_, fun b hm => ?_⟩
    · obtain ⟨q6, q7⟩ := h2.bound ρ b hb
      simp only [Bool.false_eq_true, or_false] at q7
      exact ⟨q6, q7⟩
    · simp only [List.mem_map] at hm
      obtain ⟨⟨b', o⟩, hm, rfl⟩ := hm
      exact (h2.objs b' o (q2.subset hm)).2.2.symm
  cases e <;> first | exact key h1 | exact h1.elim

theorem Does.introR {P : Program} {f : FuncId} {fn : Func} {c : Code} {args : List PV} {H : List (Nat × Obj')} {rn N : Nat} {rs : List ResultVar} {R : PV → List (Nat × Obj') → Prop}
    (hf : P.funcs[f]? = some fn) (hb : fn.body = some c) (hN : fn.ntmps = N) (hl : Nat.ble args.length N = true) (hrs : fn.results = rs.toArray)
    (h : ∀ (w0 : World) (S0 : Nat → Nat → Prop) (vs0 : List Value), Reps w0 S0 true args vs0 → HeapOK w0 S0 H → ∀ L0 : LibW P w0 (fun b => b ∈ H.map Prod.fst), V ⟨P, w0, S0, fun b => b ∈ H.map Prod.fst, rn, false, L0, none⟩ c (RetQ P rs R) ⟨N, zipArgs 0 args, H⟩) : Does P f args H rn R :=
  fun w S vs hS hv hH hLib => Does.introW hf hb hN hl hrs hS hv hH hLib (h w S vs hv hH hLib)

theorem Does.intro {P : Program} {f : FuncId} {fn : Func} {c : Code} {args : List PV} {H : List (Nat × Obj')} {rn N : Nat} {rs : List ResultVar} {R : PV → List (Nat × Obj') → Prop}
    (hf : P.funcs[f]? = some fn) (hb : fn.body = some c) (hN : fn.ntmps = N) (hl : Nat.ble args.length N = true) (hrs : fn.results = rs.toArray)
    (h : ∀ (w0 : World) (S0 : Nat → Nat → Prop) (L0 : LibW P w0 (fun b => b ∈ H.map Prod.fst)), V ⟨P, w0, S0, fun b => b ∈ H.map Prod.fst, rn, false, L0, none⟩ c (RetQ P rs R) ⟨N, zipArgs 0 args, H⟩) : Does P f args H rn R :=
  Does.introR hf hb hN hl hrs fun w0 S0 _ _ _ L0 => h w0 S0 L0

/-! ### Lending -/
/-- An argument as the callee sees it: itself, or an own block that is lent as unchanging memory of the lot τ. -/
def Lend (α : AEnv) (τ : Nat) (Bw : List Nat) (p q : PV) : Prop :=
  ∀ (Φ : Ctx) (S : Nat → Nat → Prop) (a : Act) (w : World) (v : Value), Env Φ S α a w → Rep w S true p v → Rep w (fun ρ b => S ρ b ∨ (ρ = τ ∧ b ∈ Bw)) true q v

def Lends (α : AEnv) (τ : Nat) (Bw : List Nat) : List PV → List PV → Prop
  | [], qs => qs = []
  | p :: ps, qs => ∃ q qs', qs = q :: qs' ∧ Lend α τ Bw p q ∧ Lends α τ Bw ps qs'

theorem Lend.same {α : AEnv} {τ : Nat} {Bw : List Nat} (p : PV) : Lend α τ Bw p p := fun Φ S a w v _ h => h.grow fun _ _ h => .inl h

theorem Lends.reps {α : AEnv} {τ : Nat} {Bw : List Nat} {Φ : Ctx} {S : Nat → Nat → Prop} {a : Act} {w : World} (he : Env Φ S α a w) : ∀ {ps qs : List PV} {vs : List Value}, Lends α τ Bw ps qs → Reps w S true ps vs →
    Reps w (fun ρ b => S ρ b ∨ (ρ = τ ∧ b ∈ Bw)) true qs vs
  | [], qs, vs, h, hv => by simp only [Lends] at h; subst h; rw [Reps.nil_iff] at *; exact hv
  | p :: ps, qs, vs, h, hv => by
    obtain ⟨q, qs', rfl, h1, h2⟩ := h
    rw [Reps.cons_iff] at *
    obtain ⟨u, us, rfl, h3, h4⟩ := hv
    exact ⟨u, us, rfl, h1 Φ S a w u he h3, Lends.reps he h2 h4⟩

theorem Lends.same {α : AEnv} {τ : Nat} {Bw : List Nat} : ∀ (ps : List PV), Lends α τ Bw ps ps
  | [] => rfl
  | p :: ps => ⟨p, ps, rfl, .same p, Lends.same ps⟩

/-- What a slice into an own block reads as. -/
theorem Rep.srefVl {Φ : Ctx} {α : AEnv} {a : Act} {w : World} {S S' : Nat → Nat → Prop} (he : Env Φ S α a w) {k b n off len τ : Nat} {ob : Obj'} (hb : α.H[k]? = some (b, ob)) (hm : ob.n = n) (hfit : off + len ≤ ob.xs.length) (hro : PV.roL ob.xs = true)
    (hS : ∀ ρ b, S ρ b → S' ρ b) (hτ : S' τ b) {v : Value} {own : Bool} (h : Rep w S true (.sref b n off len) v) : Rep w S' own (.vl τ n ((ob.xs.drop off).take len)) v := by
  subst hm
  obtain ⟨hn, c, us, ⟨T, fz, hc, _⟩, hl, hg, hr, hcells⟩ := (he.objK hb).1
  unfold Rep at h
  have hr' := (((hr.ro hro).drop off).take len).grow hS
  have hlen := hr.length
  unfold Rep
  refine ⟨hn, _, fun u hu => hg u (List.mem_of_mem_drop (List.mem_of_mem_take hu)), hr', ?_⟩
  rcases h.2 with ⟨rfl, ⟨a', rfl⟩, _⟩ | ⟨cap, c', rfl, hcap, hb', hfit'⟩
  · exact .inl ⟨by simp, a', 0, rfl⟩
  · refine .inr ⟨b, off * ob.n, cap, hτ, by congr 1; simp; omega, by simp; omega, fun i u hu => ?_⟩
    rw [List.getElem?_take] at hu
    split at hu
    · rw [List.getElem?_drop] at hu
      intro j hj
      rw [(hg u (List.mem_of_getElem? hu)).1] at hj
      have := hcells _ u hu j hj
      simp only [World.cell?, hc]
      rw [← Nat.add_mul]
      simpa using this
    · cases hu

theorem Lend.sref {α : AEnv} {τ : Nat} {Bw : List Nat} (k : Nat) {b n off len : Nat} {ob : Obj'} (hb : α.H[k]? = some (b, ob)) (hm : ob.n = n) (hfit : off + len ≤ ob.xs.length) (hro : PV.roL ob.xs = true) (hbw : b ∈ Bw) :
    Lend α τ Bw (.sref b n off len) (.vl τ n ((ob.xs.drop off).take len)) := fun Φ S a w v he h =>
  Rep.srefVl he hb hm hfit hro (fun _ _ h => .inl h) (.inr ⟨rfl, hbw⟩) h

/-- A whole own row. -/
theorem Lend.srefAll {α : AEnv} {τ : Nat} {Bw : List Nat} (k : Nat) {b n len : Nat} {ob : Obj'} (hb : α.H[k]? = some (b, ob)) (hm : ob.n = n) (hfit : ob.xs.length = len) (hro : PV.roL ob.xs = true) (hbw : b ∈ Bw) :
    Lend α τ Bw (.sref b n 0 len) (.vl τ n ob.xs) := by
  have := Lend.sref (τ := τ) k (off := 0) (len := len) hb hm (by omega) hro hbw
  rw [List.drop_zero, List.take_of_length_le (by omega)] at this
  exact this

theorem Lend.ref {α : AEnv} {τ : Nat} {Bw : List Nat} (k : Nat) {b n i j : Nat} {ob : Obj'} {y : PV} (hb : α.H[k]? = some (b, ob)) (hm : ob.n = n) (hy : ob.xs[i]? = some y) (hro : y.ro = true) (hbw : b ∈ Bw) :
    Lend α τ Bw (.ref b n i j) (.pin τ y j) := fun Φ S a w v he h => by
  subst hm
  obtain ⟨u, hg, hc, hr⟩ := (he.objK hb).1.elem hy
  unfold Rep at h ⊢
  exact ⟨u, b, i * ob.n, .inr ⟨rfl, hbw⟩, h.2, hc, (hr.ro hro).grow fun _ _ h => .inl h⟩

theorem Lend.fn {α : AEnv} {τ : Nat} {Bw : List Nat} {f : FuncId} {ps qs : List PV} (h : Lends α τ Bw ps qs) : Lend α τ Bw (.fn f ps) (.fn f qs) := fun Φ S a w v he hv => by
  unfold Rep at hv ⊢
  obtain ⟨us, h1, h2⟩ := hv
  exact ⟨us, h1, h.reps he h2⟩

/-! ### Calls -/
/-- The function has a body of Go text. -/
def callOK (P : Program) (f : FuncId) : Bool :=
  match P.funcs[f]? with
  | some fn => !(fn.name == "runtime.NumGoroutine") && fn.body.isSome
  | none => false

theorem run_callFunc_enter {P : Program} {f : FuncId} (h : callOK P f = true) (args : Array Value) (w : World) : (callFunc f args).run P w = .ok (.enter f args) w := by
  unfold callOK at h
  split at h
  · rename_i fn hf
    simp only [Bool.and_eq_true, Bool.not_eq_true'] at h
    have hnone : fn.body.isNone = false := by cases hb : fn.body <;> simp_all
    simp only [callFunc, program, Sem.run_bind, Sem.run, Result.andThen_ok, hf]
    simp [h.1, hnone]
  · cases h

section
variable {Φ : Ctx} {α : AEnv} {K : AEnv → Prop} {o : Oper}

/-- A call: the callee is lent the blocks of Bw (they read as unchanging memory of the lot τ) and may change those of Hc. -/
theorem V1.callG {d f τ : Nat} {ps qs : List PV} {Bw : List Nat} {Hc Hr : List (Nat × Obj')} {rn : Nat} {R : PV → List (Nat × Obj') → Prop} (hd : o.dst = some d) (hn : d < α.n)
    (hrun : ∀ S a w, Env Φ S α a w → ∃ vs : List Value, (execOp a.eval o).run Φ.P w = .ok (.enter f vs.toArray) w ∧ Reps w S true ps vs)
    (hperm : List.Perm α.H (Hc ++ Hr)) (hl : Lends α τ Bw ps qs) (hbw : ∀ b, b ∈ Bw → b ∈ Hr.map Prod.fst) (hF : Does Φ.P f qs Hc rn R) (hrn : rn = Φ.rn ∨ Φ.loc = true)
    (hno : Bw = [] ∨ (τ ≠ rn ∧ ∀ x H', R x H' → x.no τ = true ∧ ∀ b ob, (b, ob) ∈ H' → PV.noL τ ob.xs = true))
    (hk : ∀ x H', R x H' → K ⟨α.n, (d, x) :: α.E, H' ++ Hr⟩) : V1 Φ o α K := by
  intro a w ⟨S, he⟩
  obtain ⟨vs, h1, h2⟩ := hrun S a w he
  have hmem : ∀ p, p ∈ α.H ↔ p ∈ Hc ∨ p ∈ Hr := fun p => by rw [hperm.mem_iff, List.mem_append]
  have hnd : ((Hc ++ Hr).map Prod.fst).Nodup := (hperm.map _).nodup_iff.1 he.nodup
  rw [List.map_append, List.nodup_append] at hnd
  obtain ⟨hndc, hndr, hdj⟩ := hnd
  have hlt : ∀ b o, (b, o) ∈ α.H → b < w.heap.size := fun b o hb => (he.objs b o hb).1.lt
  -- what the callee takes as unchanging
  let S1 : Nat → Nat → Prop := fun ρ b => S ρ b ∨ (ρ = τ ∧ b ∈ Bw)
  have hS1 : ∀ ρ b, S1 ρ b → b < w.heap.size := by
    rintro ρ b (h | ⟨_, h⟩)
    · exact (he.bound ρ b h).1
    · obtain ⟨⟨b', o'⟩, hm, rfl⟩ := List.mem_map.1 (hbw b h)
      exact hlt b' o' ((hmem _).2 (.inr hm))
  have hH : HeapOK w S1 Hc := by
    refine ⟨hndc, fun b o hb => ?_⟩
    obtain ⟨h3, h4, _⟩ := he.objs b o ((hmem _).2 (.inl hb))
    refine ⟨?_, ?_⟩
    · exact h3.ext (Ext.refl (fun _ => False) w) id (fun _ _ h => .inl h) fun ρ b h => ⟨(he.bound ρ b h).1, id⟩
    · rintro ρ (h | ⟨_, h⟩)
      · exact h4 ρ h
      · exact hdj b (List.mem_map.2 ⟨(b, o), hb, rfl⟩) b (hbw b h) rfl
  have hcall := hF w S1 vs hS1 (hl.reps he h2) hH (Φ.lib.step he.ext fun b hb => by
    obtain ⟨⟨b', o'⟩, hm, rfl⟩ := List.mem_map.1 hb
    exact (he.objs b' o' ((hmem _).2 (.inl hm))).2.2)
  unfold Oper.wp
  rw [h1, Oper.upon_enter]
  refine hcall.mono ?_
  rintro e w' ⟨v, x, H', S', rfl, hR, hx, hH', hext, hsub, hbd, hfr⟩
  have hcx : ∀ b, b ∈ Hc.map Prod.fst → b ∈ α.H.map Prod.fst := by
    intro b hb
    obtain ⟨⟨b', o'⟩, hm, rfl⟩ := List.mem_map.1 hb
    exact List.mem_map.2 ⟨(b', o'), (hmem _).2 (.inl hm), rfl⟩
  have hrx : ∀ b, b ∈ Hr.map Prod.fst → b ∈ α.H.map Prod.fst ∧ b < w.heap.size := by
    intro b hb
    obtain ⟨⟨b', o'⟩, hm, rfl⟩ := List.mem_map.1 hb
    exact ⟨List.mem_map.2 ⟨(b', o'), (hmem _).2 (.inr hm), rfl⟩, hlt b' o' ((hmem _).2 (.inr hm))⟩
  -- what is unchanging from here on
  let S2 : Nat → Nat → Prop := fun ρ b => S ρ b ∨ (S' ρ b ∧ w.heap.size ≤ b)
  have hS2 : ∀ ρ b, S2 ρ b → S ρ b ∨ (ρ = rn ∧ w.heap.size ≤ b ∧ b < w'.heap.size) := by
    rintro ρ b (h | ⟨h, h'⟩)
    · exact .inl h
    · rcases (hbd ρ b h).2 with h3 | ⟨h3, _⟩
      · exact absurd (hS1 ρ b h3) (by omega)
      · exact .inr ⟨h3, h', (hbd ρ b h).1⟩
  have hS2' : ∀ ρ b, S2 ρ b → S' ρ b := by
    rintro ρ b (h | ⟨h, _⟩)
    · exact hsub ρ b (.inl h)
    · exact h
  -- without the lent blocks
  have back : (Bw = [] ∨ (τ ≠ rn)) → ∀ ρ b, S' ρ b → (Bw = [] ∨ ρ ≠ τ) → S2 ρ b := by
    intro hB ρ b h hρ
    rcases (hbd ρ b h).2 with (h3 | ⟨h3, h4⟩) | ⟨h3, h4⟩
    · exact .inl h3
    · rcases hρ with h5 | h5
      · rw [h5] at h4; cases h4
      · exact absurd h3 h5
    · exact .inr ⟨h, h4⟩
  have rep2 : ∀ (own : Bool) (y : PV) (u : Value), Rep w' S' own y u → (Bw = [] ∨ y.no τ = true) → Rep w' S2 own y u := by
    intro own y u hy hnoy
    rcases hno with hB | ⟨hτ, _⟩
    · exact hy.grow fun ρ b h => back (.inl hB) ρ b h (.inl hB)
    · rcases hnoy with hB | hny
      · exact hy.grow fun ρ b h => back (.inl hB) ρ b h (.inl hB)
      · exact (hy.no hny).grow fun ρ b h => back (.inr hτ) ρ b h.1 (.inr h.2)
  have reps2 : ∀ (own : Bool) (y : List PV) (u : List Value), Reps w' S' own y u → (Bw = [] ∨ PV.noL τ y = true) → Reps w' S2 own y u := by
    intro own y u hy hnoy
    rcases hno with hB | ⟨hτ, _⟩
    · exact hy.grow fun ρ b h => back (.inl hB) ρ b h (.inl hB)
    · rcases hnoy with hB | hny
      · exact hy.grow fun ρ b h => back (.inl hB) ρ b h (.inl hB)
      · exact (hy.no hny).grow fun ρ b h => back (.inr hτ) ρ b h.1 (.inr h.2)
  rw [hd]
  refine ⟨_, hk x H' hR, S2, Env.put (α := ⟨α.n, α.E, H' ++ Hr⟩) ?_ hn (rep2 true x v hx (hno.imp id fun h => (h.2 x H' hR).1))⟩
  refine he.step hext (fun b _ hb => hcx b hb) (fun ρ b h => .inl h) ?_ ?_ ?_
  · intro ρ b h
    rcases hS2 ρ b h with h3 | ⟨h3, h4, h5⟩
    · exact .inl h3
    · refine .inr ⟨by rw [h3]; exact hrn, Nat.le_trans he.ext.size h4, h5, fun hloc ρ' h6 => absurd (he.bound ρ' b h6).1 (by omega), fun hloc ρ' h6 => ?_⟩
      rcases hS2 ρ' b h6 with h7 | ⟨h7, _⟩
      · exact absurd (he.bound ρ' b h7).1 (by omega)
      · rw [h7, h3]
  · intro b ob hb
    rcases List.mem_append.1 hb with hb | hb
    · obtain ⟨q1, q2⟩ := hH'.2 b ob hb
      refine ⟨?_, fun ρ h => q2 ρ (hS2' ρ b h), ?_⟩
      · obtain ⟨q3, c, us, q4, q5, q6, q7, q8⟩ := q1
        exact ⟨q3, c, us, q4, q5, q6, reps2 true _ _ q7 (hno.imp id fun h => (h.2 x H' hR).2 b ob hb), q8⟩
      · rcases hfr b (List.mem_map.2 ⟨(b, ob), hb, rfl⟩) with h3 | h3
        · obtain ⟨⟨b', o'⟩, hm, rfl⟩ := List.mem_map.1 (hcx b h3)
          exact (he.objs b' o' hm).2.2
        · exact .inl (Nat.le_trans he.ext.size h3)
    · have hm : (b, ob) ∈ α.H := (hmem _).2 (.inr hb)
      obtain ⟨q1, q2, q3⟩ := he.objs b ob hm
      refine ⟨he.obj_step hext (fun b _ hb => hcx b hb) (fun ρ b h => .inl h) hm fun h => hdj b h b (List.mem_map.2 ⟨(b, ob), hb, rfl⟩) rfl, fun ρ h => ?_, q3⟩
      rcases hS2 ρ b h with h3 | ⟨_, h3, _⟩
      · exact q2 ρ h3
      · exact absurd (hlt b ob hm) (by omega)
  · rw [List.map_append, List.nodup_append]
    refine ⟨hH'.1, hndr, fun b hb b' hb' e => ?_⟩
    subst e
    rcases hfr b hb with h3 | h3
    · exact hdj b h3 b hb' rfl
    · exact absurd (hrx b hb').2 (by omega)

theorem run_call {f : FuncId} {c : Call} {ps : List PV} (ho : o.op = .call c) (hc : c.callee = .value (.func f)) (hok : callOK Φ.P f = true) (hps : argsPV α c.args.toList = some ps) :
    ∀ S a w, Env Φ S α a w → ∃ vs : List Value, (execOp a.eval o).run Φ.P w = .ok (.enter f vs.toArray) w ∧ Reps w S true ps vs := by
  intro S a w he
  refine ⟨c.args.toList.map a.eval, ?_, argsPV_spec he _ _ hps⟩
  have e : (#[] ++ c.args.map a.eval ++ #[] : Array Value) = (c.args.toList.map a.eval).toArray := by apply Array.ext'; simp
  simp only [execOp, ho, resolve, hc, Act.eval, Deferred.ofValue, Sem.run_bind, Sem.run_pure, Result.andThen_ok, invoke, run_callFunc_enter hok, e]

theorem run_callFn {f : FuncId} {c : Call} {t : Nat} {ps cs : List PV} (ho : o.op = .call c) (hc : c.callee = .value (.tmp t)) (ht : get α.E t = some (.fn f cs)) (hok : callOK Φ.P f = true) (hps : argsPV α c.args.toList = some ps) :
    ∀ S a w, Env Φ S α a w → ∃ vs : List Value, (execOp a.eval o).run Φ.P w = .ok (.enter f vs.toArray) w ∧ Reps w S true (ps ++ cs) vs := by
  intro S a w he
  have h1 := he.eval (x := .tmp t) ht
  unfold Rep at h1
  obtain ⟨us, h1, h2⟩ := h1
  refine ⟨c.args.toList.map a.eval ++ us, ?_, (argsPV_spec he _ _ hps).append h2⟩
  have e : (#[] ++ c.args.map a.eval ++ us.toArray : Array Value) = (c.args.toList.map a.eval ++ us).toArray := by apply Array.ext'; simp
  simp only [execOp, ho, resolve, hc, h1, Deferred.ofValue, Sem.run_bind, Sem.run_pure, Result.andThen_ok, invoke, run_callFunc_enter hok, e]

/-- A call that changes nothing and is lent nothing. -/
theorem V1.call {d f : Nat} {c : Call} {ps : List PV} {rn : Nat} {R : PV → List (Nat × Obj') → Prop} (ho : o.op = .call c) (hc : c.callee = .value (.func f)) (hd : o.dst = some d) (hok : callOK Φ.P f = true)
    (hps : argsPV α c.args.toList = some ps) (hF : Does Φ.P f ps [] rn R) (hrn : rn = Φ.rn) (hn : d < α.n) (hk : ∀ x H', R x H' → K ⟨α.n, (d, x) :: α.E, H' ++ α.H⟩) : V1 Φ o α K :=
  V1.callG (τ := 0) (Bw := []) hd hn (run_call ho hc hok hps) (.refl _) (Lends.same ps) (fun _ h => by cases h) hF (.inl hrn) (.inl rfl) hk

/-- A call that is lent own blocks. -/
theorem V1.callL {d f : Nat} {c : Call} {ps : List PV} (τ : Nat) (Bw : List Nat) (qs : List PV) {rn : Nat} {R : PV → List (Nat × Obj') → Prop} (ho : o.op = .call c) (hc : c.callee = .value (.func f)) (hd : o.dst = some d) (hok : callOK Φ.P f = true)
    (hps : argsPV α c.args.toList = some ps) (hl : Lends α τ Bw ps qs) (hbw : ∀ b, b ∈ Bw → b ∈ α.H.map Prod.fst) (hF : Does Φ.P f qs [] rn R) (hrn : rn = Φ.rn)
    (hno : τ ≠ rn ∧ ∀ x H', R x H' → x.no τ = true ∧ ∀ b ob, (b, ob) ∈ H' → PV.noL τ ob.xs = true) (hn : d < α.n) (hk : ∀ x H', R x H' → K ⟨α.n, (d, x) :: α.E, H' ++ α.H⟩) : V1 Φ o α K :=
  V1.callG hd hn (run_call ho hc hok hps) (.refl _) hl hbw hF (.inl hrn) (.inr hno) hk
end
end Go.VS
