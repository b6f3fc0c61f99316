/-
  Ranges over functions: the loop's body is judged in a round's frame; the iterator's function by what it hands to yield. Over any program. No condition.
-/
import Derived.Test.YtlpnicmlgckdnaaDoorWs
import Derived.Lib.IndexMore
set_option linter.unusedSimpArgs false
set_option linter.unusedVariables false
namespace Go.VS
open Go.RowKit

/-- The function 'yield' of the loop whose record lies in block l. -/
def yieldV (l : Nat) : Value := .func (.yield l) #[] #[]

abbrev keysOf (H : List (Nat × Obj')) : Nat → Prop := fun b => b ∈ H.map Prod.fst

/-- What a round of the loop l does that is given x: the own blocks H turn as R says. ws, Ss, Is: the world in which the iterator was called, the lots there, the blocks that may be turned. -/
def Rounds (P : Program) (l : Nat) (ob : Obj) (ws : World) (Ss : Nat → Nat → Prop) (Is : Nat → Prop) (x : PV) (H : List (Nat × Obj')) (rn : Nat) (R : List (Nat × Obj') → Prop) : Prop :=
  ∀ (w : World) (S : Nat → Nat → Prop) (u : Value), Ext Is ws w → (∀ ρ b, Ss ρ b → S ρ b) → (∀ ρ b, S ρ b → b < w.heap.size) → Rep w S true x u → HeapOK w S H → LibW P w (keysOf H) → w.heap[l]? = some ob →
    YieldAt (fenceR none) 0 P l #[u] w fun e w' => ∃ H' S', e = .returned (.bool true) ∧ R H' ∧ HeapOK w' S' H' ∧ Ext (keysOf H) w w' ∧ (∀ ρ b, S ρ b → S' ρ b) ∧
      (∀ ρ b, S' ρ b → b < w'.heap.size ∧ (S ρ b ∨ (ρ = rn ∧ w.heap.size ≤ b))) ∧ (∀ b, b ∈ H'.map Prod.fst → b ∈ H.map Prod.fst ∨ w.heap.size ≤ b)

/-- The iterator f, with what it has captured, hands the values xs to yield, one after the other, and nothing else; what the rounds keep (Pd, of blocks Hc) is kept. -/
def Iterates (P : Program) (f : FuncId) (cs : List PV) (Hi : List (Nat × Obj')) (xs : List PV) (rn : Nat) : Prop :=
  ∀ (l : Nat) (ob : Obj), ob.isCells = false → ∀ (D : Type) (Hc : D → List (Nat × Obj')) (Pd : Nat → D → Prop) (d0 : D) (w : World) (S : Nat → Nat → Prop) (us : List Value), Pd 0 d0 → (∀ ρ b, S ρ b → b < w.heap.size) → Reps w S true cs us →
    HeapOK w S (Hi ++ Hc d0) → LibW P w (keysOf (Hi ++ Hc d0)) → w.heap[l]? = some ob →
    (∀ k d x, Pd k d → xs[k]? = some x → Rounds P l ob w S (keysOf (Hi ++ Hc d0)) x (Hc d) rn (fun H' => ∃ d', Pd (k + 1) d' ∧ H' = Hc d')) →
    Calls P f (yieldV l :: us).toArray w fun e w' => ∃ v d S', e = .returned v ∧ Pd xs.length d ∧ HeapOK w' S' (Hc d) ∧ Ext (keysOf (Hi ++ Hc d0)) w w' ∧ (∀ ρ b, S ρ b → S' ρ b) ∧
      (∀ ρ b, S' ρ b → b < w'.heap.size ∧ (S ρ b ∨ (ρ = rn ∧ w.heap.size ≤ b))) ∧ (∀ b, b ∈ (Hc d).map Prod.fst → b ∈ (Hi ++ Hc d0).map Prod.fst ∨ w.heap.size ≤ b)

section
variable {Φ : Ctx} {S S' : Nat → Nat → Prop} {α : AEnv} {a : Act} {w w' : World}

/-- What a callee (or a round) that was given the blocks H has done. -/
theorem Env.called (he : Env Φ S α a w) {H Hr H' : List (Nat × Obj')} {rn : Nat} (hperm : List.Perm α.H (H ++ Hr)) (hH' : HeapOK w' S' H') (hext : Ext (keysOf H) w w') (hsub : ∀ ρ b, S ρ b → S' ρ b)
    (hbd : ∀ ρ b, S' ρ b → b < w'.heap.size ∧ (S ρ b ∨ (ρ = rn ∧ w.heap.size ≤ b))) (hfr : ∀ b, b ∈ H'.map Prod.fst → b ∈ H.map Prod.fst ∨ w.heap.size ≤ b) (hrn : rn = Φ.rn) (hloc : Φ.loc = false) :
    Env Φ S' ⟨α.n, α.E, H' ++ Hr⟩ a w' := by
  have hmem : ∀ p, p ∈ α.H ↔ p ∈ H ∨ p ∈ Hr := fun p => by rw [hperm.mem_iff, List.mem_append]
  have hnd : ((H ++ Hr).map Prod.fst).Nodup := (hperm.map _).nodup_iff.1 he.nodup
  rw [List.map_append, List.nodup_append] at hnd
  obtain ⟨hndc, hndr, hdj⟩ := hnd
  have hcx : ∀ b, keysOf H b → b ∈ α.H.map Prod.fst := by
    intro b hb
    obtain ⟨⟨b', o'⟩, hm, rfl⟩ := List.mem_map.1 hb
    exact List.mem_map.2 ⟨(b', o'), (hmem _).2 (.inl hm), rfl⟩
  refine he.step hext (fun b _ hb => hcx b hb) hsub ?_ ?_ ?_
  · intro ρ b h
    rcases (hbd ρ b h).2 with h1 | ⟨h1, h2⟩
    · exact .inl h1
    · exact .inr ⟨.inl (h1.trans hrn), Nat.le_trans he.ext.size h2, (hbd ρ b h).1, (fun h => by rw [hloc] at h; cases h), (fun h => by rw [hloc] at h; cases h)⟩
  · intro b o hb
    rcases List.mem_append.1 hb with hb | hb
    · refine ⟨(hH'.2 b o hb).1, (hH'.2 b o hb).2, ?_⟩
      rcases hfr b (List.mem_map.2 ⟨(b, o), hb, rfl⟩) with h3 | h3
      · obtain ⟨⟨b', o'⟩, hm, rfl⟩ := List.mem_map.1 (hcx b h3)
        exact (he.objs b' o' hm).2.2
      · exact .inl (Nat.le_trans he.ext.size h3)
    · have hm : (b, o) ∈ α.H := (hmem _).2 (.inr hb)
      obtain ⟨q1, q2, q3⟩ := he.objs b o hm
      refine ⟨he.obj_step hext (fun b _ hb => hcx b hb) hsub hm fun h => hdj b h b (List.mem_map.2 ⟨(b, o), hb, rfl⟩) rfl, fun ρ h => ?_, q3⟩
      rcases (hbd ρ b h).2 with h3 | ⟨_, h3⟩
      · exact q2 ρ h3
      · exact absurd q1.lt (by omega)
  · rw [List.map_append, List.nodup_append]
    refine ⟨hH'.1, hndr, fun b hb b' hb' e => ?_⟩
    subst e
    rcases hfr b hb with h3 | h3
    · exact hdj b h3 b hb' rfl
    · obtain ⟨⟨b', o'⟩, hm, rfl⟩ := List.mem_map.1 hb'
      have := (he.objs b' o' ((hmem _).2 (.inr hm))).1.lt
      omega

/-- A block beyond the start that is no cells and no mark's turns. -/
theorem Env.putOther (h : Env Φ S α a w) {l : Nat} {o o' : Obj} (hl : Φ.w0.heap.size ≤ l) (ho : w.heap[l]? = some o) (hc : o.isCells = false) (hm : o ≠ .deferred (some [])) : Env Φ S α a (w.putObj l o') :=
  have hs : SameCells w (w.putObj l o') := .putObj ho hc
  { defers := h.defers.of_heap fun D hD => (World.putObj_heap_other (by rintro rfl; rw [ho] at hD; exact hm (Option.some.inj hD))).trans hD
    size := h.size
    ext := ⟨h.ext.os, h.ext.tape, h.ext.output, by simpa [World.putObj] using h.ext.size, fun k hk hI => (World.putObj_heap_other (by omega)).trans (h.ext.block k hk hI), fun k c hc => by
      obtain ⟨c', h1, h2⟩ := h.ext.shape k c hc
      exact ⟨c', hs.blk _ _ h1, h2⟩⟩
    sub := h.sub
    bound := fun ρ b hb => ⟨by simpa [World.putObj] using (h.bound ρ b hb).1, (h.bound ρ b hb).2⟩
    disj := h.disj
    slots := fun t x hx => let ⟨v, h1, h2⟩ := h.slots t x hx; ⟨v, h1, Rep.same hs x v h2⟩
    objs := fun b o hb => ⟨(h.objs b o hb).1.same hs, (h.objs b o hb).2⟩
    nodup := h.nodup }

theorem Env.heapOK (he : Env Φ S α a w) {H Hr : List (Nat × Obj')} (hperm : List.Perm α.H (H ++ Hr)) : HeapOK w S H := by
  have hnd : ((H ++ Hr).map Prod.fst).Nodup := (hperm.map _).nodup_iff.1 he.nodup
  rw [List.map_append, List.nodup_append] at hnd
  refine ⟨hnd.1, fun b o hb => ?_⟩
  obtain ⟨h1, h2, _⟩ := he.objs b o (hperm.mem_iff.2 (List.mem_append_left _ hb))
  exact ⟨h1, h2⟩

theorem Env.libOf (he : Env Φ S α a w) {H Hr : List (Nat × Obj')} (hperm : List.Perm α.H (H ++ Hr)) : LibW Φ.P w (keysOf H) :=
  Φ.lib.step he.ext fun b hb => by
    obtain ⟨⟨b', o'⟩, hm, rfl⟩ := List.mem_map.1 hb
    exact (he.objs b' o' (hperm.mem_iff.2 (List.mem_append_left _ hm))).2.2
end

theorem HeapOK.notKey {w : World} {S : Nat → Nat → Prop} {H : List (Nat × Obj')} (h : HeapOK w S H) {l : Nat} {o : Obj} (hl : w.heap[l]? = some o) (ho : o.isCells = false) : ¬ keysOf H l := fun hm => by
  obtain ⟨⟨b', o'⟩, hq, rfl⟩ := List.mem_map.1 hm
  obtain ⟨_, c, us, ⟨T, fz, hc, _⟩, _⟩ := (h.2 b' o' hq).1
  simp only at hl
  rw [hl] at hc
  cases hc
  cases ho

theorem isCells_ne {o : Obj} (h : o.isCells = false) : ∀ c T fz, o ≠ .cells c T fz := by
  rintro c T fz rfl
  cases h

/-! ### The iterator's side -/
def VOI (Φ : Ctx) (ops : Array Oper) (l : List Oper) (K : AEnv → Prop) (α : AEnv) : Prop :=
  ∀ a w, ER Φ α a w → wpListIn (fenceR Φ.ro) 0 Φ.P ops (fun e a' w' => e = .normal ∧ ∃ α', K α' ∧ ER Φ α' a' w') l a w

section
variable {Φ : Ctx} {Q : Exit → AEnv → Prop} {α : AEnv} {ops : Array Oper} {K : AEnv → Prop} {o : Oper} {rest : List Oper}

theorem V.regionI {id : Nat} {l : List Oper} (h : VOI Φ l.toArray l (Q .normal) α) : V Φ (.region id l.toArray false) Q α := fun a w he => by
  refine wpIn_mono (wpIn_region_lit (h a w he)) ?_
  rintro e a' w' ⟨rfl, h1⟩
  exact h1

theorem VOI.nil (h : K α) : VOI Φ ops [] K α := fun a w he => wpListIn_nil ⟨rfl, α, h, he⟩

theorem VOI.cons (hg : o.guard = none) (h : V1 Φ o α (VOI Φ ops rest K)) (hd : noDef o = true := by rfl) : VOI Φ ops (o :: rest) K α := fun a w he => by
  unfold wpListIn
  rw [if_pos (by simp [Region.wanted, hg])]
  have := h a w he
  unfold Oper.wp at this
  unfold Oper.wpIn
  refine ⟨fun _ _ => trivial, ?_⟩
  rw [Oper.semAt_eq _ _ _ (noDef_spec hd)]
  generalize (execOp a.eval o).run Φ.P w = r at *
  cases r with
  | ok n w' =>
    cases n <;> simp only [Oper.upon] at this <;> simp only [Oper.uponIn] <;> first
      | (obtain ⟨α', h1, h2⟩ := this; exact h1 _ _ h2)
      | (refine ⟨(fun e => by cases e), CallsIn.mono (callsR this) ?_⟩; intro e w'' he; cases e <;> first | (obtain ⟨α', h1, h2⟩ := he; exact h1 _ _ h2) | exact he.elim | (obtain ⟨_, _, h⟩ := he; exact h.elim))
      | (refine ⟨(fun e => by cases e), RowsIn.mono (rowsR this) ?_⟩; intro v w'' he; obtain ⟨α', h1, h2⟩ := he; exact h1 _ _ h2)
  | halt x w' => cases x <;> simp only [Oper.upon] at this

theorem VOI.weakenK {l : List Oper} {α' : AEnv} (hk : Keeps Φ α α') (h : VOI Φ ops l K α') : VOI Φ ops l K α := fun a w he => h a w (hk a w he)

/-- The iterator calls yield. -/
theorem VOI.yield {d t l : Nat} {ob : Obj} {c : Call} {x : PV} {H Hr : List (Nat × Obj')} {R : List (Nat × Obj') → Prop} (hg : o.guard = none) (ho : o.op = .call c) (hc : c.callee = .value (.tmp t)) (hd : o.dst = some d)
    (ht : get α.E t = some (.val (yieldV l))) (hps : argsPV α c.args.toList = some [x]) (hperm : List.Perm α.H (H ++ Hr)) (h0 : Φ.w0.heap[l]? = some ob) (hI : ¬ Φ.I l) (hro : Φ.ro = none) (hloc : Φ.loc = false)
    (hY : Rounds Φ.P l ob Φ.w0 Φ.S0 Φ.I x H Φ.rn R) (hn : d < α.n) (hk : ∀ H', R H' → VOI Φ ops rest K ⟨α.n, (d, .bool true) :: α.E, H' ++ Hr⟩) : VOI Φ ops (o :: rest) K α := by
  rintro a w ⟨S, he⟩
  unfold wpListIn
  rw [if_pos (by simp [Region.wanted, hg])]
  unfold Oper.wpIn
  refine ⟨fun _ _ => trivial, ?_⟩
  rw [Oper.semAt_eq _ _ _ (by intro c' e; rw [ho] at e; cases e)]
  have h1 := he.eval (x := .tmp t) ht
  unfold Rep at h1
  have h2 := argsPV_spec he _ _ hps
  rw [Reps.cons_iff] at h2
  obtain ⟨u, us, hu, hxu, hnil⟩ := h2
  rw [Reps.nil_iff] at hnil
  subst hnil
  have hlt : l < Φ.w0.heap.size := (Array.getElem?_eq_some_iff.1 h0).1
  obtain ⟨fn, tmps, assign, body, hy, hR⟩ := hY w S u he.ext he.sub (fun ρ b h => (he.bound ρ b h).1) hxu (he.heapOK hperm) (he.libOf hperm) ((he.ext.block l hlt hI).trans h0)
  have hargs : c.args.map a.eval = #[u] := by apply Array.ext'; simpa using hu
  have hrun : (execOp a.eval o).run Φ.P w = .ok (.round l fn tmps assign body) w := by
    simp only [execOp, ho, resolve, hc, h1, yieldV, Deferred.ofValue, Sem.run_bind, Sem.run_pure, Result.andThen_ok, invoke, hargs]
    simpa using hy
  rw [hrun, hro]
  simp only [Oper.uponIn]
  refine ⟨fun e => (by cases e), hR.mono ?_⟩
  rintro e w' ⟨H', S', rfl, q1, q2, q3, q4, q5, q6⟩
  simp only
  have he' := he.called hperm q2 q3 q4 q5 q6 rfl hloc
  have hfin := hk H' q1 (a.put (some d) (.bool true)) w' ⟨S', he'.put (x := .bool true) hn (by unfold Rep; rfl)⟩
  rw [hro] at hfin
  rw [hd]
  exact hfin
end

/-- An iterator's function, out of its code. -/
theorem Iterates.intro {P : Program} {f : FuncId} {fn : Func} {c : Code} {cs xs : List PV} {Hi : List (Nat × Obj')} {rn N : Nat} (hf : P.funcs[f]? = some fn) (hb : fn.body = some c) (hN : fn.ntmps = N) (hl : Nat.ble (cs.length + 1) N = true) (hrs : fn.results = #[])
    (h : ∀ (l : Nat) (ob : Obj) (D : Type) (Hc : D → List (Nat × Obj')) (Pd : Nat → D → Prop) (d0 : D) (w0 : World) (S0 : Nat → Nat → Prop) (L0 : LibW P w0 (keysOf (Hi ++ Hc d0))), Pd 0 d0 → w0.heap[l]? = some ob → ¬ keysOf (Hi ++ Hc d0) l →
      (∀ k d x, Pd k d → xs[k]? = some x → Rounds P l ob w0 S0 (keysOf (Hi ++ Hc d0)) x (Hc d) rn (fun H' => ∃ d', Pd (k + 1) d' ∧ H' = Hc d')) →
      V ⟨P, w0, S0, keysOf (Hi ++ Hc d0), rn, false, L0, none⟩ c (RetQ P [] (fun _ H' => ∃ d, Pd xs.length d ∧ H' = Hc d)) ⟨N, zipArgs 0 (.val (yieldV l) :: cs), Hi ++ Hc d0⟩) : Iterates P f cs Hi xs rn := by
  intro l ob hob D Hc Pd d0 w S us h0 hS hcs hH hL hw hY
  refine (Does.introW (rs := []) (args := .val (yieldV l) :: cs) (R := fun _ H' => ∃ d, Pd xs.length d ∧ H' = Hc d) hf hb hN (by simpa using hl) hrs hS (by rw [Reps.cons_iff]; exact ⟨_, us, rfl, (by unfold Rep; rfl), hcs⟩) hH hL (h l ob D Hc Pd d0 w S hL h0 hw (hH.notKey hw hob) hY)).mono ?_
  rintro e w' ⟨v, x, H', S', rfl, ⟨d, hd, rfl⟩, _, q1, q2, q3, q4, q5⟩
  exact ⟨v, d, S', rfl, hd, q1, q2, q3, q4, q5⟩

/-! ### The caller's side -/
/-- The body, in a round that is given x (which stands in the slots p and q). -/
def BodyOK (Φ : Ctx) (l n p q : Nat) (body : Code) (E : List (Nat × PV)) (x : PV) (H : List (Nat × Obj')) (R : List (Nat × Obj') → Prop) : Prop :=
  ∀ (w1 : World) (S1 : Nat → Nat → Prop) (L1 : LibW Φ.P w1 (keysOf H)), V ⟨Φ.P, w1, S1, keysOf H, Φ.rn, false, L1, some l⟩ body (fun e α' => e = .normal ∧ ∃ H', R H' ∧ Keeps ⟨Φ.P, w1, S1, keysOf H, Φ.rn, false, L1, some l⟩ α' ⟨n, [], H'⟩) ⟨n, (q, x) :: (p, x) :: E, H⟩

theorem Ext.alloc' {w : World} {o : Obj} : Ext (fun _ => False) w (w.alloc o) where
  os := rfl
  tape := rfl
  output := rfl
  size := by simp
  block k hk _ := Below.heap_alloc _ _ _ hk
  shape k c hc := ⟨c, SameCells.alloc.blk k c hc, rfl⟩

theorem Ext.putObj {I : Nat → Prop} {w0 w : World} {l : Nat} {o o' : Obj} (h : Ext I w0 w) (hl : w.heap[l]? = some o) (ho : o.isCells = false) (hk : l < w0.heap.size → w0.heap[l]? = some o') : Ext I w0 (w.putObj l o') where
  os := h.os
  tape := h.tape
  output := h.output
  size := by simpa [World.putObj] using h.size
  block k hk' hI := by
    by_cases e : k = l
    · subst e
      rw [World.putObj_heap_same (Array.getElem?_eq_some_iff.1 hl).1, hk hk']
    · exact (World.putObj_heap_other e).trans (h.block k hk' hI)
  shape k c hc := by
    obtain ⟨c', h1, h2⟩ := h.shape k c hc
    exact ⟨c', (SameCells.putObj hl ho).blk _ _ h1, h2⟩

theorem HeapOK.same {w w' : World} {S : Nat → Nat → Prop} {H : List (Nat × Obj')} (hs : SameCells w w') (h : HeapOK w S H) : HeapOK w' S H := ⟨h.1, fun b o hb => ⟨(h.2 b o hb).1.same hs, (h.2 b o hb).2⟩⟩

/-- One round, out of the body. -/
theorem rounds_of_body {Φ : Ctx} {Ss : Nat → Nat → Prop} {n : Nat} {E : List (Nat × PV)} {tmps : Array Value} {ws : World} {l p q fnc D id : Nat} {oA : Oper} {body : Code} {x : PV} {H : List (Nat × Obj')} {Is : Nat → Prop} {R : List (Nat × Obj') → Prop}
    (hg : oA.guard = none) (ho : oA.op = .assign (.tmp p)) (hd : oA.dst = some q) (hsz : tmps.size = n) (hslots : ∀ t y, get E t = some y → ∃ v, tmps[t]? = some v ∧ Rep ws Ss true y v) (hSs : ∀ ρ b, Ss ρ b → b < ws.heap.size ∧ ¬ Is b) (hp : p < n) (hq : q < n)
    (hB : BodyOK Φ l n p q body E x H R) : Rounds Φ.P l (.loop { state := .ready, pending := none, fn := fnc, tmps := tmps, params := #[p], assign := .region id [oA].toArray false, body, defers := D }) ws Ss Is x H Φ.rn R := by
  intro w S u hext hsub hS hx hH hL hl
  obtain ⟨rec, hrec⟩ : ∃ rec : LoopState → Loop, rec = fun st => { state := st, pending := none, fn := fnc, tmps := tmps, params := #[p], assign := .region id [oA].toArray false, body, defers := D } := ⟨_, rfl⟩
  have hl' : w.heap[l]? = some (.loop (rec .ready)) := by rw [hrec]; exact hl
  have hy := run_yield (P := Φ.P) (args := #[u]) hl rfl
  refine ⟨fnc, _, .region id [oA].toArray false, body, hy, roundIn_of_wpIn trivial ?_⟩
  have hlt : l < w.heap.size := (Array.getElem?_eq_some_iff.1 hl').1
  have hkn : ¬ keysOf H l := hH.notKey hl' rfl
  -- the frame in which the round begins
  obtain ⟨a0, ha0⟩ : ∃ a0 : Act, a0 = { tmps := tmps.setIfInBounds p u, defers := [] } := ⟨_, rfl⟩
  obtain ⟨a1, ha1⟩ : ∃ a1 : Act, a1 = a0.put (some q) u := ⟨_, rfl⟩
  have hput : a0.tmps[p]? = some u := by rw [ha0]; exact Array.getElem?_setIfInBounds_self_of_lt (by omega)
  obtain ⟨w2, hw2⟩ : ∃ w2, w2 = w.putObj l (.loop (rec .busy)) := ⟨_, rfl⟩
  have hbr := run_beginRound (P := Φ.P) hl' (by rw [hrec])
  have hsame : SameCells w w2 := by rw [hw2]; exact .putObj hl' rfl
  have hsz2 : w2.heap.size = w.heap.size := by rw [hw2]; simp [World.putObj]
  have hl2 : w2.heap[l]? = some (.loop (rec .busy)) := by rw [hw2]; exact World.putObj_heap_same hlt
  have hE12 : Ext (fun b => keysOf H b ∨ b = l) w w2 := by
    rw [hw2]
    exact ⟨rfl, rfl, rfl, by simp [World.putObj], fun k hk hI => World.putObj_heap_other (fun e => hI (.inr e)), fun k c hc => ⟨c, (SameCells.putObj hl' rfl).blk _ _ hc, rfl⟩⟩
  have hL2 : LibW Φ.P w2 (keysOf H) := (hL.other hl' (isCells_ne rfl)).step hE12 fun b hb => .inr (.inl hb)
  have he3 : ER ⟨Φ.P, w2, S, keysOf H, Φ.rn, false, hL2, some l⟩ ⟨n, (q, x) :: (p, x) :: E, H⟩ a1 w2 := by
    refine ⟨S, ?_⟩
    have h0 : Env ⟨Φ.P, w2, S, keysOf H, Φ.rn, false, hL2, some l⟩ S ⟨n, E, H⟩ { tmps := tmps, defers := [] } w2 :=
      ⟨.nil, hsz, Ext.refl _ _, fun _ _ h => h, fun ρ b h => ⟨by rw [hsz2]; exact hS ρ b h, .inl h⟩, (fun h => by cases h), fun t y hy => by
        obtain ⟨v, h1, h2⟩ := hslots t y hy
        exact ⟨v, h1, Rep.same hsame y v (h2.ext hext hsub hSs)⟩, fun b o hb => ⟨(hH.2 b o hb).1.same hsame, (hH.2 b o hb).2, .inr (List.mem_map.2 ⟨(b, o), hb, rfl⟩)⟩, hH.1⟩
    have h1 := (h0.put (d := p) (x := x) (v := u) hp (Rep.same hsame x u hx)).put (d := q) (x := x) (v := u) hq (Rep.same hsame x u hx)
    rw [ha1, ha0]
    exact h1
  have hst := hB w2 S hL2 a1 w2 he3
  refine wpIn_region_lit ?_
  refine (fun key => key _ (by simp)) (fun (t' : Array Value) (ht' : t' = tmps.setIfInBounds p u) => ?_ : ∀ t', t' = tmps.setIfInBounds p u → wpListIn _ _ _ _ _ [oA] { tmps := t', defers := [] } w)
  rw [ht', ← ha0]
  unfold wpListIn
  rw [if_pos (by simp [Region.wanted, hg])]
  unfold Oper.wpIn
  refine ⟨fun _ _ => trivial, ?_⟩
  rw [Oper.semAt_eq _ _ _ (by intro c' e; rw [ho] at e; cases e)]
  have hex : (execOp a0.eval oA).run Φ.P w = .ok (.value u) w := by
    have : a0.eval (.tmp p) = u := by show a0.tmps.getD p undef = u; rw [Array.getD_eq_getD_getElem?, hput]; rfl
    simp [execOp, ho, Sem.run, Pure.pure, this]
  rw [hex, Oper.uponIn_value, hd, ← ha1]
  unfold wpListIn
  show ∃ w₂, _
  refine ⟨w2, ?_, ?_⟩
  · rw [hw2]
    have e1 : w.putObj l (.loop (rec .busy)) = w.putObj l (.loop { rec .ready with state := .busy }) := by rw [hrec]
    rw [e1]; exact hbr
  refine wpIn_mono (F := fenceR (some l)) hst ?_
  rintro e a2 w3 ⟨α', ⟨rfl, H', hR, hK⟩, he4⟩
  obtain ⟨S4, he4⟩ := hK a2 w3 he4
  have hlt2 : l < w2.heap.size := by omega
  have hl3 : w3.heap[l]? = some (.loop (rec .busy)) := (he4.ext.block l hlt2 hkn).trans hl2
  have hend := run_endRound (P := Φ.P) none hl3
  refine ⟨_, _, hend, H', S4, rfl, hR, ?_, ?_, ?_, ?_, ?_⟩
  · exact HeapOK.same (.putObj hl3 rfl) (he4.heapOK (Hr := []) (by rw [List.append_nil]))
  · refine ⟨he4.ext.os.trans hE12.os, he4.ext.tape.trans hE12.tape, he4.ext.output.trans hE12.output, ?_, fun k hk hI => ?_, fun k c hc => ?_⟩
    · have : w2.heap.size ≤ w3.heap.size := he4.ext.size
      simp only [World.putObj, Array.size_setIfInBounds]
      omega
    · by_cases e : k = l
      · subst e
        rw [World.putObj_heap_same (by have : w2.heap.size ≤ w3.heap.size := he4.ext.size; omega), hl', hrec]
        rfl
      · refine (World.putObj_heap_other e).trans ((he4.ext.block k (by simp only; omega) hI).trans ?_)
        simp only
        rw [hw2]
        exact World.putObj_heap_other e
    · obtain ⟨c1, h1, e1⟩ := hE12.shape k c hc
      obtain ⟨c2, h2, e2⟩ := he4.ext.shape k c1 h1
      exact ⟨c2, (SameCells.putObj hl3 rfl).blk _ _ h2, e2.trans e1⟩
  · exact fun ρ b h => he4.sub ρ b h
  · intro ρ b h
    obtain ⟨h1, h2⟩ := he4.bound ρ b h
    refine ⟨by simpa [World.putObj] using h1, h2.imp (fun h => h) fun h => ⟨h.1.resolve_right (fun h => by cases h), by rw [← hsz2]; exact h.2⟩⟩
  · intro b hb
    obtain ⟨⟨b', o'⟩, hm, rfl⟩ := List.mem_map.1 hb
    rcases (he4.objs b' o' hm).2.2 with h | h
    · exact .inr (by rw [← hsz2]; exact h)
    · exact .inl h

/-- A range over an iterator's function value: what the rounds keep, xs having been handed out. -/
theorem V.rangeFunc {Φ : Ctx} {Q : Exit → AEnv → Prop} {α : AEnv} {g : Operand} {p q id : Nat} {oA : Oper} {body : Code} {f : FuncId} {cs xs : List PV} {D : Type} (Hc : D → List (Nat × Obj')) (Pd : Nat → D → Prop) (d0 : D) (Hi Hr : List (Nat × Obj'))
    (hg : aeval α g = some (.fn f cs)) (hok : callOK Φ.P f = true) (hA : oA.guard = none) (hA1 : oA.op = .assign (.tmp p)) (hA2 : oA.dst = some q) (hp : p < α.n) (hq : q < α.n) (hro : Φ.ro = none) (hloc : Φ.loc = false)
    (hH : List.Perm α.H ((Hi ++ Hc d0) ++ Hr)) (hIt : Iterates Φ.P f cs Hi xs Φ.rn) (h0 : Pd 0 d0)
    (hB : ∀ l k d x, Pd k d → xs[k]? = some x → BodyOK Φ l α.n p q body α.E x (Hc d) (fun H' => ∃ d', Pd (k + 1) d' ∧ H' = Hc d'))
    (hk : ∀ d, Pd xs.length d → Q .normal ⟨α.n, α.E, Hc d ++ Hr⟩) : V Φ (.rangeFunc g #[p] (.region id [oA].toArray false) body) Q α := by
  rintro a w ⟨S, he⟩
  have hgv := he.eval hg
  unfold Rep at hgv
  obtain ⟨us, hgv, hus⟩ := hgv
  rw [hro]
  refine wpIn_rangeFunc fun fnc hfn => ?_
  obtain ⟨rec, hrec⟩ : ∃ rec : Loop, rec = { state := .ready, pending := none, fn := fnc, tmps := a.tmps, params := #[p], assign := .region id [oA].toArray false, body, defers := w.heap.size } := ⟨_, rfl⟩
  obtain ⟨W1, hW1⟩ : ∃ W1, W1 = (w.alloc (.deferred (some []))).alloc (.loop rec) := ⟨_, rfl⟩
  have hsz1 : W1.heap.size = w.heap.size + 2 := by rw [hW1]; simp
  have hL1 : W1.heap[w.heap.size + 1]? = some (.loop rec) := by
    rw [hW1]; have := World.alloc_heap_new (w.alloc (.deferred (some []))) (.loop rec); rwa [World.size_alloc] at this
  have hK1 : W1.heap[w.heap.size]? = some (.deferred (some [])) := by
    rw [hW1]; exact (Below.heap_alloc _ _ _ (by simp)).trans (World.alloc_heap_new w _)
  have hs1 : SameCells w W1 := by rw [hW1]; exact SameCells.alloc.trans SameCells.alloc
  have hE1 : Ext (fun _ => False) w W1 := by rw [hW1]; exact Ext.alloc'.trans Ext.alloc' (fun _ h => h) (fun _ _ h => h)
  have hH0 : HeapOK W1 S (Hi ++ Hc d0) := (he.heapOK hH).same hs1
  have hlib : LibW Φ.P W1 (keysOf (Hi ++ Hc d0)) := (he.libOf hH).step ⟨hE1.os, hE1.tape, hE1.output, hE1.size, fun k hk hI => hE1.block k hk (fun h => h), hE1.shape⟩ fun b hb => .inr hb
  have hS1 : ∀ ρ b, S ρ b → b < W1.heap.size := fun ρ b h => by have := (he.bound ρ b h).1; omega
  refine ⟨w.heap.size + 1, [markOf w.heap.size], W1, { target := .fn (.func f) us.toArray, args := #[yieldV (w.heap.size + 1)] }, W1, f, (yieldV (w.heap.size + 1) :: us).toArray, W1, ?_, ?_, fun _ _ => trivial, ?_, fun e => (by cases e), ?_⟩
  · have := run_enterLoop_outer (P := Φ.P) (w := w) fnc a.tmps #[p] (.region id [oA].toArray false) body
    rw [hW1, hrec]
    exact this
  · simp only [resolve, hgv]
    simp [go_sem, yieldV]
  · have hcf := run_callFunc_enter hok (yieldV (w.heap.size + 1) :: us).toArray W1
    have e : (#[yieldV (w.heap.size + 1)] ++ us.toArray : Array Value) = (yieldV (w.heap.size + 1) :: us).toArray := by apply Array.ext'; simp
    simp only [invoke, e]
    exact hcf
  refine CallsIn.mono (callsR (hIt (w.heap.size + 1) (.loop rec) rfl D Hc Pd d0 W1 S us h0 hS1 (Reps.same hs1 _ _ hus) hH0 hlib hL1 ?_)) ?_
  · intro k d x hd hx
    rw [hrec]
    refine rounds_of_body (Φ := Φ) hA hA1 hA2 he.size (fun t y hy => ?_) (fun ρ b h => ⟨hS1 ρ b h, fun hb => he.own_not (b := b) ?_ ρ h⟩) hp hq (hB _ k d x hd hx)
    · obtain ⟨v, h1, h2⟩ := he.slots t y hy
      exact ⟨v, h1, Rep.same hs1 y v h2⟩
    · exact (hH.map Prod.fst).mem_iff.2 (by rw [List.map_append]; exact List.mem_append_left _ hb)
  rintro e w3 ⟨v, d, S', rfl, hd, q1, q2, q3, q4, q5⟩
  have hkl : ¬ keysOf (Hi ++ Hc d0) (w.heap.size + 1) := hH0.notKey hL1 rfl
  have hkD : ¬ keysOf (Hi ++ Hc d0) w.heap.size := hH0.notKey hK1 rfl
  have hL3 : w3.heap[w.heap.size + 1]? = some (.loop rec) := (q2.block _ (by omega) hkl).trans hL1
  have hK3 : w3.heap[w.heap.size]? = some (.deferred (some [])) := (q2.block _ (by omega) hkD).trans hK1
  have hend := run_endLoop (P := Φ.P) hL3 (by rw [hrec]; simp)
  have hpend : rec.pending = none := by rw [hrec]
  rw [hpend] at hend
  refine ⟨none, _, hend, ?_⟩
  refine ⟨_, hk d hd, S', ?_⟩
  have he3 : Env Φ S' ⟨α.n, α.E, Hc d ++ Hr⟩ a w3 := he.called hH q1 (hE1.trans q2 (fun _ h => h.elim) (fun _ _ h => h)) q3 (fun ρ b h => ⟨(q4 ρ b h).1, (q4 ρ b h).2.imp (fun h => h) fun h => ⟨h.1, by omega⟩⟩) (fun b hb => (q5 b hb).imp (fun h => h) fun h => by omega) rfl hloc
  have he4 : ∀ o', Env Φ S' ⟨α.n, α.E, Hc d ++ Hr⟩ a (w3.putObj (w.heap.size + 1) o') := fun o' => he3.putOther (Nat.le_trans he.ext.size (Nat.le_succ _)) hL3 rfl (by intro e; cases e)
  refine { he4 _ with defers := ?_ }
  obtain ⟨Ds, d1, d2, d3⟩ := he.defers
  refine ⟨w.heap.size :: Ds, ?_, ?_, ?_⟩
  · show [markOf w.heap.size] ++ a.defers = _
    rw [d1]; rfl
  · refine List.nodup_cons.2 ⟨fun h => ?_, d2⟩
    have := (Array.getElem?_eq_some_iff.1 (d3 _ h).2).1
    omega
  · intro E hE
    rcases List.mem_cons.1 hE with rfl | hE
    · exact ⟨he.ext.size, (World.putObj_heap_other (by omega)).trans hK3⟩
    · have h1 := d3 E hE
      have hlt := (Array.getElem?_eq_some_iff.1 h1.2).1
      have h2 : W1.heap[E]? = some (.deferred (some [])) := (hE1.block E hlt (fun h => h)).trans h1.2
      exact ⟨h1.1, (World.putObj_heap_other (by omega)).trans ((q2.block E (by omega) (hH0.notKey h2 rfl)).trans h2)⟩

/-! ### Models of such loops -/
def foldO {X T : Type} (step : T → X → Option T) : List X → T → Option T
  | [], s => some s
  | x :: xs, s => (step s x).bind (foldO step xs)

theorem fold_head {X T : Type} {step : T → X → Option T} {enc : X → PV} {ls : List X} {k : Nat} {s e : T} {x : PV} (hP : foldO step (ls.drop k) s = some e) (hx : (ls.map enc)[k]? = some x) :
    ∃ y s', x = enc y ∧ step s y = some s' ∧ foldO step (ls.drop (k + 1)) s' = some e := by
  rw [List.getElem?_map] at hx
  cases hk : ls[k]? with
  | none => rw [hk] at hx; cases hx
  | some y =>
    rw [hk] at hx
    obtain ⟨hlt, hy⟩ := List.getElem?_eq_some_iff.1 hk
    rw [List.drop_eq_getElem_cons hlt, hy] at hP
    simp only [foldO] at hP
    cases hs : step s y with
    | none => rw [hs] at hP; cases hP
    | some s' =>
      rw [hs] at hP
      exact ⟨y, s', (Option.some.inj hx).symm, hs, hP⟩

theorem fold_end {X T : Type} {step : T → X → Option T} {enc : X → PV} {ls : List X} {s e : T} (hP : foldO step (ls.drop (ls.map enc).length) s = some e) : s = e := by
  rw [List.length_map, List.drop_length] at hP
  exact Option.some.inj hP

theorem V1.slice3Vl {Φ : Ctx} {α : AEnv} {K : AEnv → Prop} {o : Oper} {d t e n : Nat} {x lo hi mx : Operand} {ρ : Nat} {xs : List PV} {kl kh km : IntKind} {a c q : Int} (ho : o.op = .slice t x (some lo) (some hi) (some mx)) (hd : o.dst = some d)
    (ht : elemSz Φ.P t = some (e, n)) (hx : aeval α x = some (.vl ρ n xs)) (hlo : aeval α lo = some (.int kl a)) (hhi : aeval α hi = some (.int kh c)) (hmx : aeval α mx = some (.int km q)) (h : 0 ≤ a ∧ a ≤ c ∧ c ≤ q ∧ q ≤ (xs.length : Int)) (hn : d < α.n)
    (hk : K (α.put d (.vl ρ n ((xs.take c.toNat).drop a.toNat)))) : V1 Φ o α K :=
  V1.pure hd hn (fun S ac w he => by
    have e1 := he.eval hx
    unfold Rep at e1
    obtain ⟨hn0, us, hg, hr, h3⟩ := e1
    obtain ⟨hu, inf, hinf, hsn⟩ := elemSz_spec ht
    have hlen := hr.length
    have hr' := (hr.take c.toNat).drop a.toNat
    have hg' : ∀ u ∈ (us.take c.toNat).drop a.toNat, Good n u := fun u hu => hg u (List.mem_of_mem_take (List.mem_of_mem_drop hu))
    rcases h3 with ⟨rfl, a', cap, hv⟩ | ⟨b, off, cap, hS, hv, hcap, hc⟩
    · simp at hlen
      have hb := run_sliceBounds3 (sl := true) (len := 0) (cap := cap) he hlo hhi hmx h.1 h.2.1 h.2.2.1 (by omega)
      have h0 : c = 0 := by omega
      have l0 : a = 0 := by omega
      have q0 : q = 0 := by omega
      subst h0 l0 q0
      refine ⟨.slice (if (0 : Nat) = 0 then a' else a'.map (·.add (0 * n))) 0 0, ?_, ?_⟩
      · simp [execOp, ho, hv, Instr.sliceAt, Instr.slice, run_underlying hu, hb, run_sizeOf' hinf, hsn]
      · unfold Rep
        exact ⟨hn0, _, hg', hr', .inl ⟨by simp, _, _, rfl⟩⟩
    · have hb := run_sliceBounds3 (sl := true) (len := us.length) (cap := cap) he hlo hhi hmx h.1 h.2.1 h.2.2.1 (by omega)
      refine ⟨.slice (if q.toNat = a.toNat then some ⟨b, off, none⟩ else some ⟨b, off + a.toNat * n, none⟩) (c.toNat - a.toNat) (q.toNat - a.toNat), ?_, ?_⟩
      · simp [execOp, ho, hv, Instr.sliceAt, Instr.slice, run_underlying hu, hb, run_sizeOf' hinf, hsn, Addr.add_none]
      · unfold Rep
        refine ⟨hn0, _, hg', hr', ?_⟩
        by_cases hcl : q.toNat = a.toNat
        · have : c.toNat - a.toNat = 0 := by omega
          rw [if_pos hcl, this]
          exact .inl ⟨by apply List.eq_nil_of_length_eq_zero; simp; omega, _, _, rfl⟩
        · rw [if_neg hcl]
          refine .inr ⟨b, off + a.toNat * n, q.toNat - a.toNat, hS, by congr 1; simp; omega, by simp; omega, fun i u hu => ?_⟩
          rw [List.getElem?_drop, List.getElem?_take] at hu
          split at hu
          · have := hc (a.toNat + i) u hu
            rwa [Nat.add_mul, ← Nat.add_assoc] at this
          · cases hu) hk
/-- The parts of two of a list. -/
def chunk2 {β : Type} (s : List β) : List (List β) := (List.range ((s.length + 1) / 2)).map fun k => (s.drop (2 * k)).take 2
theorem chunk2_len {β : Type} {s : List β} : (chunk2 s).length = (s.length + 1) / 2 := by simp [chunk2]
theorem chunk2_at {β : Type} {s : List β} {k : Nat} (h : 2 * k < s.length) : (chunk2 s)[k]? = some ((s.drop (2 * k)).take 2) := by
  unfold chunk2
  rw [List.getElem?_map, List.getElem?_range (by omega)]
  rfl

/-- The parts of a text between bytes. -/
def splitC (c : UInt8) : List UInt8 → List (List UInt8)
  | [] => [[]]
  | b :: l => if b == c then [] :: splitC c l else (b :: (splitC c l).headD []) :: (splitC c l).tail

theorem splitC_ne (c : UInt8) (l : List UInt8) : splitC c l = (splitC c l).headD [] :: (splitC c l).tail := by
  cases l with
  | nil => rfl
  | cons b l => unfold splitC; split <;> rfl

theorem splitC_none {c : UInt8} : ∀ {l : List UInt8}, Go.Lib.indexByte l c < 0 → splitC c l = [l]
  | [], _ => rfl
  | b :: l, h => by
    have hge := Go.Lib.indexByte_ge l c
    unfold Go.Lib.indexByte at h
    unfold splitC
    by_cases hb : (b == c) = true
    · rw [if_pos hb] at h; omega
    · rw [if_neg hb] at h ⊢
      by_cases h1 : (Go.Lib.indexByte l c == -1) = true
      · rw [splitC_none (by have := eq_of_beq h1; omega)]; rfl
      · rw [if_neg h1] at h; omega

theorem splitC_some {c : UInt8} : ∀ {l : List UInt8} {n : Nat}, Go.Lib.indexByte l c = (n : Int) → n < l.length ∧ splitC c l = l.take n :: splitC c (l.drop (n + 1))
  | [], n, h => by unfold Go.Lib.indexByte at h; omega
  | b :: l, n, h => by
    have hge := Go.Lib.indexByte_ge l c
    unfold Go.Lib.indexByte at h
    by_cases hb : (b == c) = true
    · rw [if_pos hb] at h
      obtain rfl : n = 0 := by omega
      refine ⟨by simp, ?_⟩
      conv => lhs; unfold splitC
      rw [if_pos hb]; rfl
    · rw [if_neg hb] at h
      by_cases h1 : (Go.Lib.indexByte l c == -1) = true
      · rw [if_pos h1] at h; omega
      · rw [if_neg h1] at h
        have hne : Go.Lib.indexByte l c ≠ -1 := fun e => h1 (by rw [e]; rfl)
        obtain ⟨m, rfl⟩ : ∃ m, n = m + 1 := ⟨n - 1, by omega⟩
        obtain ⟨h2, h3⟩ := splitC_some (c := c) (l := l) (n := m) (by omega)
        refine ⟨by simp; omega, ?_⟩
        conv => lhs; unfold splitC
        rw [if_neg hb, h3]; rfl

theorem V.rangeFunc0 {Φ : Ctx} {Q : Exit → AEnv → Prop} {α : AEnv} {g : Operand} {p q id : Nat} {oA : Oper} {body : Code} {f : FuncId} {cs xs : List PV} {D : Type} (Hc : D → List (Nat × Obj')) (Pd : Nat → D → Prop) (d0 : D) (Hi : List (Nat × Obj'))
    (hg : aeval α g = some (.fn f cs)) (hok : callOK Φ.P f = true) (hA : oA.guard = none) (hA1 : oA.op = .assign (.tmp p)) (hA2 : oA.dst = some q) (hp : p < α.n) (hq : q < α.n) (hro : Φ.ro = none) (hloc : Φ.loc = false)
    (hH : List.Perm α.H (Hi ++ Hc d0)) (hIt : Iterates Φ.P f cs Hi xs Φ.rn) (h0 : Pd 0 d0)
    (hB : ∀ l k d x, Pd k d → xs[k]? = some x → BodyOK Φ l α.n p q body α.E x (Hc d) (fun H' => ∃ d', Pd (k + 1) d' ∧ H' = Hc d'))
    (hk : ∀ d, Pd xs.length d → Q .normal ⟨α.n, α.E, Hc d⟩) : V Φ (.rangeFunc g #[p] (.region id [oA].toArray false) body) Q α :=
  V.rangeFunc Hc Pd d0 Hi [] hg hok hA hA1 hA2 hp hq hro hloc (by rw [List.append_nil]; exact hH) hIt h0 hB fun d hd => by rw [List.append_nil]; exact hk d hd

theorem iIn {I H : List (Nat × Obj')} (h : ∀ q, q ∈ I → q ∈ H) : ∀ c, c ∈ I.map Prod.fst → c ∈ H.map Prod.fst := fun c hc => by
  obtain ⟨p, hp, rfl⟩ := List.mem_map.1 hc
  exact List.mem_map.2 ⟨p, h p hp, rfl⟩
theorem iKCons {H L : List (Nat × Obj')} {b : Nat} {o o' : Obj'} (k : Nat) (h : H[k]? = some (b, o)) (r : ∀ c, c ∈ L.map Prod.fst → c ∈ H.map Prod.fst) : ∀ c, c ∈ ((b, o') :: L).map Prod.fst → c ∈ H.map Prod.fst := fun c hc => by
  rw [List.map_cons, List.mem_cons] at hc
  rcases hc with rfl | hc
  · exact List.mem_map.2 ⟨_, List.mem_of_getElem? h, rfl⟩
  · exact r c hc
end Go.VS
