/-
  slices.Sort of numbers by the kit's contract; slices that are nil where they are empty. Over any program. Conditions: what the contract asks.
-/
import Derived.Test.YteocnbeefedbkaaWi
import Derived.Sort.Grow
set_option linter.unusedSimpArgs false
set_option linter.unusedVariables false
namespace Go.VS
open Go.RowKit Go.Sort

/-! ### Sorting -/
def sortL (s : List Int) : List Int := s.mergeSort fun x y => decide (x ≤ y)
theorem sortL_len (s : List Int) : (sortL s).length = s.length := List.length_mergeSort s

theorem Does.sortI {P : Program} {f : FuncId} {rn : Nat} {oq : Option Nat} {s : List Int} (hoq : oq = none → s = [])
    (hc : ∀ (blk off cap : Nat) (zs : List Int) (w : World), Holds (Value.int .i64) w blk off zs.toArray → blk < w.heap.size → zs.length < 4611686018427387904 →
      Calls P f #[.slice (some ⟨blk, off, none⟩) zs.length cap] w fun e w' => e = .returned (.tuple #[]) ∧ ∃ n os, w' = grow (putRow (Value.int .i64) (Sort.ahead w n) blk off (zs.mergeSort fun x y => decide (x ≤ y)).toArray) os)
    (hn : ∀ (p : Option Addr) (cap : Nat) (w : World), Calls P f #[.slice p 0 cap] w fun e w' => e = .returned (.tuple #[]) ∧ w' = w) (hl : s.length < 4611686018427387904) :
    Does P f [optS 1 oq (List.length s)] (optH 1 oq (List.map encInt s)) rn (fun x H => x = .tup [] ∧ H = optH 1 oq (List.map encInt (sortL s))) := by
  intro w S vs hS hr hH _
  obtain ⟨v, us0, rfl, hv, hr0⟩ := Reps.cons_iff.1 hr
  obtain rfl := Reps.nil_iff.1 hr0
  have ht : ∀ w' : World, Rep w' S true (.tup []) (.tuple #[]) := fun w' => by
    unfold Rep
    exact ⟨[], rfl, Reps.nil_iff.2 rfl⟩
  have same : ∀ (p : Option Addr) (cap : Nat), v = .slice p 0 cap → s = [] → Calls P f #[v] w fun e w' => ∃ v x H' S', e = .returned v ∧ (x = .tup [] ∧ H' = optH 1 oq (List.map encInt (sortL s))) ∧ Rep w' S' true x v ∧ HeapOK w' S' H' ∧ Ext (fun b => b ∈ (optH 1 oq (List.map encInt s)).map Prod.fst) w w' ∧ (∀ ρ b, S ρ b → S' ρ b) ∧
      (∀ ρ b, S' ρ b → b < w'.heap.size ∧ (S ρ b ∨ (ρ = rn ∧ w.heap.size ≤ b))) ∧ (∀ b, b ∈ H'.map Prod.fst → b ∈ (optH 1 oq (List.map encInt s)).map Prod.fst ∨ w.heap.size ≤ b) := by
    intro p cap e0 hs
    subst hs
    rw [e0]
    refine (hn p cap w).mono ?_
    rintro e w' ⟨rfl, rfl⟩
    have e0 : sortL ([] : List Int) = [] := by simp [sortL]
    rw [e0]
    exact ⟨_, _, _, S, rfl, ⟨rfl, rfl⟩, ht w', hH, Ext.refl _ _, fun _ _ h => h, fun ρ b h => ⟨hS ρ b h, .inl h⟩, fun b h => .inl h⟩
  cases oq with
  | none =>
    have hs := hoq rfl
    unfold optS at hv
    simp only at hv
    unfold Rep at hv
    exact same none 0 hv hs
  | some b =>
    unfold optS at hv
    simp only at hv
    unfold Rep at hv
    obtain ⟨_, hv⟩ := hv
    rcases hv with ⟨h0, ⟨a, hv⟩, _⟩ | ⟨cap, c, hv, hle, hB, hz⟩
    · exact same a 0 hv (List.length_eq_zero_iff.1 h0)
    · obtain ⟨hob, hno⟩ := hH.2 b ⟨1, List.map encInt s⟩ (by simp [optH])
      have hblt := hob.lt
      obtain ⟨h1, c', us, ⟨T, fz, hg, hf⟩, hul, hgd, hrs, hcs⟩ := hob
      have hlen : us.length = s.length := by rw [hrs.length, List.length_map]
      have huv : ∀ (i : Nat) (z : Int), s[i]? = some z → c'[i]? = some (.int .i64 z) := by
        intro i z hi
        obtain ⟨u, g1, g2⟩ := hrs.get (i := i) (x := encInt z) (by rw [List.getElem?_map, hi]; rfl)
        unfold Rep at g2
        subst g2
        have := hcs i _ g1 0 (by omega)
        simpa [Value.cells] using this
      have hH2 : Holds (Value.int .i64) w b 0 s.toArray := by
        intro j hj
        have hj' : j < s.length := by simpa using hj
        have e1 := huv j s[j] (List.getElem?_eq_getElem hj')
        have e2 : (s.toArray)[j]! = s[j] := by simp [hj']
        refine ⟨?_, ?_⟩
        · rw [e2, Nat.zero_add]
          simp only [World.cell?, hg]
          exact e1
        · obtain ⟨lo, hi'⟩ := fz
          simp only [World.frozen?, hg, Bool.and_eq_false_iff, decide_eq_false_iff_not]
          simp only at hf
          rcases hf with hf | hf
          · by_cases h : lo ≤ 0 + j
            · right; omega
            · left; omega
          · left; have := hf.1; simp at hul; omega
      rw [hv]
      refine (hc b 0 cap s w hH2 hblt hl).mono ?_
      rintro e w' ⟨rfl, n, os, rfl⟩
      have hheap : ∀ k, k < w.heap.size → (grow (putRow (Value.int .i64) (Sort.ahead w n) b 0 (s.mergeSort fun x y => decide (x ≤ y)).toArray) os).heap[k]? = if k = b then some (.cells (putCells (Value.int .i64) 0 (s.mergeSort fun x y => decide (x ≤ y)).toArray c') T fz) else w.heap[k]? := by
        intro k hk
        simp only [grow, putRow, mapBlock, Sort.ahead]
        rw [Array.getElem?_append_left (by simpa using hk), Array.getElem?_modify]
        by_cases e : k = b
        · subst e
          rw [if_pos rfl, if_pos rfl, hg]
          rfl
        · rw [if_neg (fun h => e h.symm), if_neg e]
      have hsz : (putCells (Value.int .i64) 0 (s.mergeSort fun x y => decide (x ≤ y)).toArray c').size = c'.size := by simp [putCells]
      have hBlk : Blk (grow (putRow (Value.int .i64) (Sort.ahead w n) b 0 (s.mergeSort fun x y => decide (x ≤ y)).toArray) os) b (putCells (Value.int .i64) 0 (s.mergeSort fun x y => decide (x ≤ y)).toArray c') :=
        ⟨T, fz, by rw [hheap b hblt, if_pos rfl], by rw [hsz]; exact hf⟩
      have hsize : w.heap.size ≤ (grow (putRow (Value.int .i64) (Sort.ahead w n) b 0 (s.mergeSort fun x y => decide (x ≤ y)).toArray) os).heap.size := by simp [grow, putRow, mapBlock, Sort.ahead]
      refine ⟨_, _, _, S, rfl, ⟨rfl, rfl⟩, ht _, ⟨by simp [optH], ?_⟩, ⟨rfl, rfl, rfl, hsize, ?_, ?_⟩, fun _ _ h => h, fun ρ k h => ⟨Nat.lt_of_lt_of_le (hS ρ k h) hsize, .inl h⟩, fun k h => .inl h⟩
      · intro k ob hk
        simp only [optH, List.mem_singleton, Prod.mk.injEq] at hk
        obtain ⟨rfl, rfl⟩ := hk
        refine ⟨⟨Nat.one_pos, _, (sortL s).map (Value.int .i64), hBlk, ?_, ?_, ?_, ?_⟩, hno⟩
        · rw [hsz, List.length_map, sortL_len, ← hlen]; exact hul
        · intro u hu
          obtain ⟨z, _, rfl⟩ := List.mem_map.1 hu
          refine ⟨rfl, fun j c0 hc0 => ?_⟩
          have : j = 0 ∧ c0 = .int .i64 z := by
            cases j with
            | zero => simp [Value.cells] at hc0; exact ⟨rfl, hc0.symm⟩
            | succ j => simp [Value.cells] at hc0
          rw [this.2]; rfl
        · refine Reps.mk (by simp) fun i x u hx hu => ?_
          rw [List.getElem?_map] at hx hu
          cases hq : (sortL s)[i]? with
          | none => rw [hq] at hx; cases hx
          | some z =>
            rw [hq] at hx hu
            cases hx; cases hu
            unfold Rep; rfl
        · intro i u hu j hj
          obtain rfl : j = 0 := by simp only at hj; omega
          rw [List.getElem?_map] at hu
          cases hq : (sortL s)[i]? with
          | none => rw [hq] at hu; cases hu
          | some z =>
            rw [hq] at hu
            cases hu
            have hi : i < (sortL s).length := (List.getElem?_eq_some_iff.1 hq).1
            have hi2 : i < c'.size := by
              rw [sortL_len, ← hlen] at hi
              have hul' : us.length * 1 ≤ c'.size := hul
              omega
            have ez : ((s.mergeSort fun x y => decide (x ≤ y)).toArray)[i]! = z := by
              have : (sortL s)[i] = z := (List.getElem?_eq_some_iff.1 hq).2
              have hi0 : i < ((s.mergeSort fun x y => decide (x ≤ y)).toArray).size := hi
              rw [getElem!_pos _ i hi0]
              exact this
            simp only [Nat.mul_one, Nat.add_zero, putCells, Array.getElem?_mapIdx, Nat.zero_le, true_and, Nat.zero_add, Nat.sub_zero]
            rw [Array.getElem?_eq_getElem hi2]
            simp only [Option.map_some]
            unfold sortL at hi
            rw [if_pos (by simpa using hi), ez]
            simp [Value.cells]
      · intro k hk hnot
        rw [hheap k hk, if_neg (fun e => hnot (by rw [e]; simp [optH]))]
      · intro k c0 hc0
        by_cases e : k = b
        · subst e
          obtain ⟨T0, fz0, g1, g2⟩ := hc0
          rw [hg] at g1
          cases g1
          exact ⟨_, hBlk, hsz⟩
        · obtain ⟨T0, fz0, g1, g2⟩ := hc0
          have hk : k < w.heap.size := by
            rcases Nat.lt_or_ge k w.heap.size with h' | h'
            · exact h'
            · rw [Array.getElem?_eq_none h'] at g1; cases g1
          exact ⟨c0, ⟨T0, fz0, by rw [hheap k hk, if_neg e]; exact g1, g2⟩, rfl⟩

/-! ### Slices that are nil where they are empty -/
def nzS (ρ n : Nat) (xs : List PV) : PV := match xs with | [] => .nils | x :: t => .vl ρ n (x :: t)
theorem nzS_nil {β : Type} {ρ n : Nat} {f : β → PV} {l : List β} (h : l = []) : PV.nils = nzS ρ n (l.map f) := by subst h; rfl
theorem nzS_ne {β : Type} {ρ n : Nat} {f : β → PV} {l : List β} (h : l ≠ []) : PV.vl ρ n (l.map f) = nzS ρ n (l.map f) := by
  cases l with
  | nil => exact absurd rfl h
  | cons x t => rfl
theorem nzS_ne' {β : Type} {ρ n : Nat} {f : β → PV} {l : List β} (h : l ≠ []) : nzS ρ n (l.map f) = PV.vl ρ n (l.map f) := (nzS_ne h).symm

theorem Keeps.nzVl {Φ : Ctx} {α : AEnv} {β : Type} {f : β → PV} {l : List β} (t ρ n : Nat) (hn : Nat.blt 0 n = true) (ht : get α.E t = some (nzS ρ n (l.map f))) : Keeps Φ α ⟨α.n, (t, .vl ρ n (l.map f)) :: α.E, α.H⟩ := by
  cases l with
  | nil => exact Keeps.nils t ρ n (ltb hn) ht
  | cons x l => exact Keeps.say t ht rfl

section
variable {Φ : Ctx} {α : AEnv} {K : AEnv → Prop} {o : Oper} {β : Type} {f : β → PV} {l : List β}
theorem V1.eqNilNz {d T T' E : Nat} {x y : Operand} {ρ n : Nat} (ho : o.op = .binOp .eql T x y T') (hd : o.dst = some d)
    (hT : Φ.P.underlying T = some (.slice E)) (hx : aeval α x = some (nzS ρ n (l.map f))) (hy : aeval α y = some .nils) (hn : d < α.n) (hk : K (α.put d (.bool (List.isEmpty l)))) : V1 Φ o α K := by
  rintro a w ⟨S, he⟩
  have h1 := he.eval hx
  have h2 := he.eval hy
  unfold Rep at h2
  have key : ∀ (b : Option Addr) (m c : Nat), a.eval x = .slice b m c → b.isNone = List.isEmpty l → o.wp Φ.P a w (fun a' w' => ∃ α', K α' ∧ ER Φ α' a' w') (fun _ _ _ => False) := by
    intro b m c hv hb
    have hrun : (execOp a.eval o).run Φ.P w = .ok (.value (.bool b.isNone)) w := by
      have h3 := run_equal_nil hT b m c w
      simp only [execOp, ho, hv, h2, eqGuard, binOp, Sem.run_bind, Result.andThen_ok, Sem.run_pure, Sem.run_ite]
      simp
      rw [h3]
      rfl
    unfold Oper.wp
    rw [hrun, Oper.upon_value, hd, hb]
    exact ⟨_, hk, S, he.put (d := d) hn (by unfold Rep; rfl)⟩
  cases l with
  | nil =>
    unfold nzS at h1
    simp only [List.map_nil] at h1
    unfold Rep at h1
    exact key none 0 0 h1 rfl
  | cons z t =>
    unfold nzS at h1
    simp only [List.map_cons] at h1
    unfold Rep at h1
    obtain ⟨_, us, _, hr, h1⟩ := h1
    rcases h1 with ⟨rfl, b, cap, hv⟩ | ⟨b, off, cap, hS, hv, _⟩
    · rw [Reps.cons_iff] at hr; obtain ⟨_, _, h, _⟩ := hr; cases h
    · exact key _ _ _ hv rfl
theorem V1.neNilNz {d T T' E : Nat} {x y : Operand} {ρ n : Nat} (ho : o.op = .binOp .neq T x y T') (hd : o.dst = some d)
    (hT : Φ.P.underlying T = some (.slice E)) (hx : aeval α x = some (nzS ρ n (l.map f))) (hy : aeval α y = some .nils) (hn : d < α.n) (hk : K (α.put d (.bool (!(List.isEmpty l))))) : V1 Φ o α K := by
  rintro a w ⟨S, he⟩
  have h1 := he.eval hx
  have h2 := he.eval hy
  unfold Rep at h2
  have key : ∀ (b : Option Addr) (m c : Nat), a.eval x = .slice b m c → b.isNone = List.isEmpty l → o.wp Φ.P a w (fun a' w' => ∃ α', K α' ∧ ER Φ α' a' w') (fun _ _ _ => False) := by
    intro b m c hv hb
    have hrun : (execOp a.eval o).run Φ.P w = .ok (.value (.bool (!b.isNone))) w := by
      have h3 := run_equal_nil hT b m c w
      simp only [execOp, ho, hv, h2, eqGuard, binOp, Sem.run_bind, Result.andThen_ok, Sem.run_pure, Sem.run_ite]
      simp
      rw [h3]
      cases b <;> rfl
    unfold Oper.wp
    rw [hrun, Oper.upon_value, hd, hb]
    exact ⟨_, hk, S, he.put (d := d) hn (by unfold Rep; rfl)⟩
  cases l with
  | nil =>
    unfold nzS at h1
    simp only [List.map_nil] at h1
    unfold Rep at h1
    exact key none 0 0 h1 rfl
  | cons z t =>
    unfold nzS at h1
    simp only [List.map_cons] at h1
    unfold Rep at h1
    obtain ⟨_, us, _, hr, h1⟩ := h1
    rcases h1 with ⟨rfl, b, cap, hv⟩ | ⟨b, off, cap, hS, hv, _⟩
    · rw [Reps.cons_iff] at hr; obtain ⟨_, _, h, _⟩ := hr; cases h
    · exact key _ _ _ hv rfl
end
end Go.VS
