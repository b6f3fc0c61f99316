/-
  Bytes to a string, strings.Join by the kit's contract, what is appended to a slice that may be nil. Over any program. Conditions: what the rules ask.
-/
import Derived.Test.YteocnbeefedbkaaWj
import Derived.Laws.BytesString
import Derived.Lib.Join
set_option linter.unusedSimpArgs false
set_option linter.unusedVariables false
namespace Go.VS
open Go Go.RowKit
theorem oi {β : Type} {a b : β} (h : some a = some b) : a = b := Option.some.inj h
theorem lt0 {a b : Nat} (h : Nat.blt a b = true := by exact rfl) : a < b := ltb h

section
variable {Φ : Ctx} {α : AEnv} {K : AEnv → Prop} {o : Oper}

theorem V1.mv {d : Nat} {x : Operand} {p : PV} (hk : K (α.put d p)) (ho : o.op = .move x := by exact rfl) (hd : o.dst = some d := by exact rfl) (hx : aeval α x = some p := by exact rfl) (hn : d < α.n := by exact ltb rfl) : V1 Φ o α K := V1.move ho hd hx hn hk
theorem V1.as {d : Nat} {x : Operand} {p : PV} (hk : K (α.put d p)) (ho : o.op = .assign x := by exact rfl) (hd : o.dst = some d := by exact rfl) (hx : aeval α x = some p := by exact rfl) (hn : d < α.n := by exact ltb rfl) : V1 Φ o α K := V1.assign ho hd hx hn hk
theorem V1.it {d : Nat} {op : BinOp} {T T' : TypeId} {x y : Operand} {k : IntKind} {m n : Int} {p : PV} (hk : K (α.put d p)) (ho : o.op = .binOp op T x y T' := by exact rfl) (hd : o.dst = some d := by exact rfl)
    (hx : aeval α x = some (.int k m) := by exact rfl) (hy : aeval α y = some (.int k n) := by exact rfl) (hr : intBin op k m n = some p := by exact rfl) (hn : d < α.n := by exact ltb rfl) : V1 Φ o α K := V1.int ho hd hx hy hr hn hk
theorem V1.appendNilNil {d t u e n : Nat} {c : Call} {sx xx : Operand} {p : PV} (ho : o.op = .call c) (hc : c.callee = .builtin .append) (hca : c.args = #[sx, xx]) (hct : c.argTypes = #[t, u]) (hd : o.dst = some d)
    (ht : elemSz Φ.P t = some (e, n)) (hs : aeval α sx = some .nils) (hx : aeval α xx = some p) (hsrc : SrcOf Φ.P α u n p []) (hn : d < α.n) (hk : K (α.put d .nils)) : V1 Φ o α K :=
  V1.pure hd hn (fun S a w he => by
    obtain ⟨hu, i, hi, hsn⟩ := elemSz_spec ht
    obtain ⟨⟨D, hD, hDi⟩, hsrc⟩ := hsrc
    obtain ⟨us, hgu, hru, hlu, hfu⟩ := hsrc Φ S a w _ he (he.eval hx)
    have h0 : us = [] := by have := hru.length; simpa using this
    subst h0
    have h1 := he.eval hs
    unfold Rep at h1
    have hrun := run_append_room' (w := w) (ty := o.type) hu hD hDi hi (base := none) (sLen := 0) (sCap := 0) (m := 0) (news := []) hlu (by rw [hsn]; exact hfu Φ.P w rfl) (Nat.le_refl _) (w' := w) rfl
    rw [← h1] at hrun
    exact ⟨_, run_appendOp ho hc hca hct hrun, by unfold Rep; exact h1⟩) hk

theorem V1.appendOO {β : Type} {f : β → PV} {l m : List β} {d t u e n : Nat} {c : Call} {sx xx : Operand} {p z : PV} {ob : Option Nat} (H1 : List (Nat × Obj')) (hl : ob = none → l = []) (ho : o.op = .call c) (hc : c.callee = .builtin .append) (hca : c.args = #[sx, xx]) (hct : c.argTypes = #[t, u]) (hd : o.dst = some d)
    (ht : elemSz Φ.P t = some (e, n)) (hby : elemBy Φ.P t = true) (hz : zeroK Φ.P e = some (n, z)) (h0n : Nat.blt 0 n = true) (hs : aeval α sx = some (optS n ob l.length)) (hH : α.H = H1 ++ optH n ob (l.map f))
    (hx : aeval α xx = some p) (hsrc : SrcOf Φ.P α u n p (m.map f)) (hfit : (l.length : Int) + (m.length : Int) ≤ 2147483648) (hn : d < α.n)
    (hk : ∀ ob', (ob' = none → l ++ m = []) → K ⟨α.n, (d, optS n ob' (l ++ m).length) :: α.E, optH n ob' ((l ++ m).map f) ++ H1⟩) : V1 Φ o α K := by
  cases ob with
  | none =>
    have e1 : α.H = H1 := by rw [hH]; simp [optH]
    have el := hl rfl
    cases m with
    | nil =>
      refine V1.appendNilNil ho hc hca hct hd ht hs hx hsrc hn ?_
      have := hk none (fun _ => by rw [el]; rfl)
      rw [← e1] at this
      exact this
    | cons y m =>
      refine V1.appendNilE (l := l) (m := y :: m) (f := f) el ho hc hca hct hd ht hby hz h0n hs hx hsrc rfl hfit hn fun b' => ?_
      rw [e1]
      exact hk (some b') (fun h => by cases h)
  | some b =>
    have e1 : α.H[H1.length]? = some (b, ⟨n, l.map f⟩) := by rw [hH]; simp [optH]
    have e2 : α.H.eraseIdx H1.length = H1 := by rw [hH]; simp [optH, List.eraseIdx_append_of_length_le]
    refine V1.appendMap (k := H1.length) (l := l) (m := m) (f := f) ho hc hca hct hd ht hby hz hs e1 hx hsrc hfit hn fun b' => ?_
    rw [e2]
    exact hk (some b') (fun h => by cases h)

/-! ### Bytes to a string -/
def toBytes (l : List Int) : List UInt8 := l.map fun n => UInt8.ofNat n.toNat
theorem foldl_push (ns : List Int) : ∀ s : ByteArray, ns.foldl (fun r n => r.push (UInt8.ofNat n.toNat)) s = ⟨(s.data.toList ++ toBytes ns).toArray⟩ := by
  induction ns with
  | nil => intro s; simp [toBytes]
  | cons n ns ih =>
    intro s
    rw [List.foldl_cons, ih]
    simp [toBytes, ByteArray.push]
theorem reps_u8 {w : World} {S : Nat → Nat → Prop} {own : Bool} : ∀ {l : List Int} {us : List Value}, Reps w S own (l.map encU8) us → us = l.map (Value.int .u8)
  | [], us, h => Reps.nil_iff.1 h
  | n :: l, us, h => by
    obtain ⟨u, us', rfl, h1, h2⟩ := Reps.cons_iff.1 h
    unfold encU8 Rep at h1
    rw [h1, reps_u8 h2]; rfl
theorem V1.convStr {d T T' e ρ : Nat} {x : Operand} {l : List Int} (ho : o.op = .convert T T' x) (hd : o.dst = some d) (hT : Φ.P.underlying T = some (.slice e)) (he : Φ.P.underlying e = some (.int .u8)) (hT' : Φ.P.underlying T' = some .string)
    (hx : aeval α x = some (.vl ρ 1 (l.map encU8))) (hn : d < α.n) (hk : K (α.put d (.str (toBytes l)))) : V1 Φ o α K :=
  V1.pure hd hn (fun S a w hE => by
    have h := hE.eval hx
    have key : ∃ q len cap, a.eval x = .slice q len cap ∧ (Conv.bytesToString (.slice q len cap)).run Φ.P w = .ok (.string ⟨(toBytes l).toArray⟩) w := by
      unfold Rep at h
      obtain ⟨_, us, hg, hr, ⟨rfl, a', cap, hv⟩ | ⟨b, off, cap, hS, hv, hcap, hc⟩⟩ := h
      · have hl : l = [] := List.length_eq_zero_iff.1 (by have := hr.length; simpa using this.symm)
        subst hl
        refine ⟨a', 0, cap, hv, ?_⟩
        cases a' with
        | none => simp [Conv.bytesToString, toBytes, Sem.run, Pure.pure]; rfl
        | some a' =>
          have := run_bytesToString (P := Φ.P) w a' 0 cap [] (by simp [loadCells, loadCellsFrom, Sem.run, Pure.pure])
          rw [this]; rfl
      · have hu := reps_u8 hr
        subst hu
        refine ⟨_, _, cap, hv, ?_⟩
        have hld := run_loadCells_list (P := Φ.P) w ⟨b, off, none⟩ (l.map (Value.int .u8)) (fun j v hj => by
          have h1 := hc j v hj 0 (by
            rw [List.getElem?_map] at hj
            cases h2 : l[j]? with
            | none => rw [h2] at hj; cases hj
            | some n => rw [h2] at hj; cases hj; exact Nat.one_pos)
          rw [List.getElem?_map] at hj
          cases h2 : l[j]? with
          | none => rw [h2] at hj; cases hj
          | some n =>
            rw [h2] at hj; cases hj
            have e : (⟨b, off, none⟩ : Addr).add j = ⟨b, off + j, none⟩ := by
              unfold Addr.add
              by_cases hj0 : j = 0
              · subst hj0; simp
              · simp [hj0]
            rw [e]
            simpa [Value.cells] using h1)
        have := run_bytesToString (P := Φ.P) w ⟨b, off, none⟩ (l.map (Value.int .u8)).length cap l hld
        rw [this, foldl_push]
        rfl
    obtain ⟨q, len, cap, h1, h2⟩ := key
    refine ⟨.string ⟨(toBytes l).toArray⟩, ?_, by unfold Rep; rfl⟩
    have h3 := run_convert_bytes_string (P := Φ.P) w T T' e q len cap hT he hT'
    rw [h2, ← h1] at h3
    simp only [execOp, ho, Sem.run_bind, h3]
    rfl) hk
theorem V1.convStrOwn {d T T' e b k : Nat} {x : Operand} {l : List Int} (ho : o.op = .convert T T' x) (hd : o.dst = some d) (hT : Φ.P.underlying T = some (.slice e)) (he : Φ.P.underlying e = some (.int .u8)) (hT' : Φ.P.underlying T' = some .string)
    (hx : aeval α x = some (.sref b 1 0 l.length)) (hb : α.H[k]? = some (b, ⟨1, l.map encU8⟩)) (hn : d < α.n) (hk : K (α.put d (.str (toBytes l)))) : V1 Φ o α K :=
  V1.pure hd hn (fun S a w hE => by
    have h := hE.eval hx
    have hu : isSl Φ.P T = true := by unfold isSl; rw [hT]
    obtain ⟨_, hsrc⟩ := SrcOf.srefAll (P := Φ.P) (n := 1) (len := l.length) hb rfl (by simp) hu
    obtain ⟨us, hg, hr, _, hf⟩ := hsrc Φ S a w _ hE h
    have e1 := reps_u8 hr
    subst e1
    have hf := hf Φ.P w rfl
    have key : ∃ q len cap, a.eval x = .slice q len cap ∧ (Conv.bytesToString (.slice q len cap)).run Φ.P w = .ok (.string ⟨(toBytes l).toArray⟩) w := by
      unfold Rep at h
      rcases h.2 with ⟨h0, ⟨a', hv⟩, _⟩ | ⟨cap, c', hv, _⟩
      · have hl := List.length_eq_zero_iff.1 h0
        subst hl
        refine ⟨a', 0, 0, hv, ?_⟩
        cases a' with
        | none => simp [Conv.bytesToString, toBytes, Sem.run, Pure.pure]; rfl
        | some a' =>
          have := run_bytesToString (P := Φ.P) w a' 0 0 [] (by simp [loadCells, loadCellsFrom, Sem.run, Pure.pure])
          rw [this]; rfl
      · refine ⟨_, _, cap, hv, ?_⟩
        rw [hv] at hf
        have h2 : (loadCells ⟨b, 0 * 1, none⟩ l.length).run Φ.P w = .ok (l.map (Value.int .u8)).toArray w := by
          have h3 : flatV (l.map (Value.int .u8)) = l.map (Value.int .u8) := by
            unfold flatV
            rw [List.flatMap_map, List.map_eq_flatMap]
            rfl
          rw [h3] at hf
          simpa [Builtin.firstCells] using hf
        have := run_bytesToString (P := Φ.P) w ⟨b, 0 * 1, none⟩ l.length cap l h2
        rw [this, foldl_push]
        rfl
    obtain ⟨q, len, cap, h1, h2⟩ := key
    refine ⟨.string ⟨(toBytes l).toArray⟩, ?_, by unfold Rep; rfl⟩
    have h3 := run_convert_bytes_string (P := Φ.P) w T T' e q len cap hT he hT'
    rw [h2, ← h1] at h3
    simp only [execOp, ho, Sem.run_bind, h3]
    rfl) hk
end

/-! ### strings.Join -/
theorem reps_strs {w : World} {S : Nat → Nat → Prop} {own : Bool} : ∀ {l : List (List UInt8)} {us : List Value}, Reps w S own (l.map encStr) us → us = l.map fun s => Value.string ⟨s.toArray⟩
  | [], us, h => Reps.nil_iff.1 h
  | n :: l, us, h => by
    obtain ⟨u, us', rfl, h1, h2⟩ := Reps.cons_iff.1 h
    unfold encStr Rep at h1
    rw [h1, reps_strs h2]; rfl
theorem Does.joinI {P : Program} {f : FuncId} {rn ρ : Nat} {xs : List (List UInt8)} {sep : List UInt8}
    (h0 : ∀ (a : Option Addr) (c : Nat) (sep : ByteArray) (w : World), Calls P f #[.slice a 0 c, .string sep] w fun e w' => e = .returned (.string ⟨#[]⟩) ∧ w' = w)
    (h1 : ∀ (bk o c : Nat) (ys : List ByteArray) (sep : ByteArray) (w : World), (∀ (j : Nat) x, ys[j]? = some x → w.cell? ⟨bk, o + j, none⟩ = some (.string x)) → bk < w.heap.size → ys.length ≤ 140737488355328 → ys.length ≤ c → (Lib.join (ys.map (·.data.toList)) sep.data.toList).length ≤ 140737488355328 →
      Calls P f #[.slice (some ⟨bk, o, none⟩) ys.length c, .string sep] w fun e w' => e = .returned (.string ⟨(Lib.join (ys.map (·.data.toList)) sep.data.toList).toArray⟩) ∧ Below w.heap.size w w')
    (hN : xs.length ≤ 140737488355328) (hL : (Lib.join xs sep).length ≤ 140737488355328) : Does P f [.vl ρ 1 (xs.map encStr), .str sep] [] rn (fun y H => y = .str (Lib.join xs sep) ∧ H = []) := by
  intro w S us hS hr hH _
  obtain ⟨v, us', rfl, hv, hr'⟩ := Reps.cons_iff.1 hr
  obtain ⟨us2, rfl, hr2⟩ := reps_str hr'
  obtain rfl := Reps.nil_iff.1 hr2
  have key : Calls P f #[v, .string ⟨sep.toArray⟩] w fun e w' => e = .returned (.string ⟨(Lib.join xs sep).toArray⟩) ∧ Below w.heap.size w w' := by
    unfold Rep at hv
    obtain ⟨_, vs, hg, hrr, ⟨rfl, a', cap, rfl⟩ | ⟨b, off, cap, hSb, rfl, hcap, hc⟩⟩ := hv
    · have hx : xs = [] := List.length_eq_zero_iff.1 (by have := hrr.length; simpa using this.symm)
      subst hx
      exact (h0 a' cap _ w).mono fun e w' ⟨g1, g2⟩ => ⟨g1, g2 ▸ Below.refl _ _⟩
    · have hu := reps_strs hrr
      subst hu
      have hm : (xs.map fun s => (⟨s.toArray⟩ : ByteArray)).map (·.data.toList) = xs := by
        rw [List.map_map]
        exact (List.map_congr_left (fun s _ => rfl)).trans (List.map_id _)
      have := h1 b off cap (xs.map fun s => (⟨s.toArray⟩ : ByteArray)) ⟨sep.toArray⟩ w (fun j x hj => by
        rw [List.getElem?_map] at hj
        cases h2 : xs[j]? with
        | none => rw [h2] at hj; cases hj
        | some s =>
          rw [h2] at hj; cases hj
          have h3 := hc j (.string ⟨s.toArray⟩) (by rw [List.getElem?_map, h2]; rfl) 0 Nat.one_pos
          simpa [Value.cells] using h3) (hS _ _ hSb) (by simpa using hN) (by simpa using hcap) (by rw [hm]; exact hL)
      rw [hm] at this
      simpa using this
  refine key.mono ?_
  rintro e w' ⟨rfl, hB⟩
  exact ⟨_, _, [], S, rfl, ⟨rfl, rfl⟩, rep_str, ⟨List.nodup_nil, fun b o h => absurd h (List.not_mem_nil)⟩, Ext.ofBelow hB, fun _ _ h => h, fun ρ b h => ⟨Nat.lt_of_lt_of_le (hS ρ b h) hB.size, .inl h⟩, fun b h => absurd h (List.not_mem_nil)⟩
end Go.VS
