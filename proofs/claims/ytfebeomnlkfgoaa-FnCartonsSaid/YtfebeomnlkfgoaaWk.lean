/-
  Bytes to a string, strings.Join by the kit's contract, what is appended to a slice that may be nil. Over any program. Conditions: what the rules ask.
-/
import Derived.Test.YtfebeomnlkfgoaaWj
import Derived.Laws.BytesString
import Derived.Lib.Join
set_option linter.unusedSimpArgs false
set_option linter.unusedVariables false
namespace Go.VS
open Go Go.RowKit
theorem oi {β : Type} {a b : β} (h : some a = some b) : a = b := Option.some.inj h
theorem lt0 {a b : Nat} (h : Nat.blt a b = true := by exact rfl) : a < b := ltb h
section
variable {Φ : Ctx} {α : AEnv} {K : AEnv → Prop} {o : Oper}
theorem V1.mv {d : Nat} {x : Operand} {p : PV} (hk : K (α.put d p)) (ho : o.op = .move x := by exact rfl) (hd : o.dst = some d := by exact rfl) (hx : aeval α x = some p := by exact rfl) (hn : d < α.n := by exact ltb rfl) : V1 Φ o α K := V1.move ho hd hx hn hk
theorem V1.as {d : Nat} {x : Operand} {p : PV} (hk : K (α.put d p)) (ho : o.op = .assign x := by exact rfl) (hd : o.dst = some d := by exact rfl) (hx : aeval α x = some p := by exact rfl) (hn : d < α.n := by exact ltb rfl) : V1 Φ o α K := V1.assign ho hd hx hn hk
theorem V1.it {d : Nat} {op : BinOp} {T T' : TypeId} {x y : Operand} {k : IntKind} {m n : Int} {p : PV} (hk : K (α.put d p)) (ho : o.op = .binOp op T x y T' := by exact rfl) (hd : o.dst = some d := by exact rfl)
    (hx : aeval α x = some (.int k m) := by exact rfl) (hy : aeval α y = some (.int k n) := by exact rfl) (hr : intBin op k m n = some p := by exact rfl) (hn : d < α.n := by exact ltb rfl) : V1 Φ o α K := V1.int ho hd hx hy hr hn hk
theorem V1.appendNilNil {d t u e n : Nat} {c : Call} {sx xx : Operand} {p : PV} (ho : o.op = .call c) (hc : c.callee = .builtin .append) (hca : c.args = #[sx, xx]) (hct : c.argTypes = #[t, u]) (hd : o.dst = some d)
    (ht : elemSz Φ.P t = some (e, n)) (hs : aeval α sx = some .nils) (hx : aeval α xx = some p) (hsrc : SrcOf Φ.P α u n p []) (hn : d < α.n) (hk : K (α.put d .nils)) : V1 Φ o α K :=
  V1.pure hd hn (fun S a w he => by
    obtain ⟨hu, i, hi, hsn⟩ := elemSz_spec ht
    obtain ⟨⟨D, hD, hDi⟩, hsrc⟩ := hsrc
    obtain ⟨us, hgu, hru, hlu, hfu⟩ := hsrc Φ S a w _ he (he.eval hx)
    have h0 : us = [] := by have := hru.length; simpa using this
    subst h0
    have h1 := he.eval hs
    unfold Rep at h1
    have hrun := run_append_room' (w := w) (ty := o.type) hu hD hDi hi (base := none) (sLen := 0) (sCap := 0) (m := 0) (news := []) hlu (by rw [hsn]; exact hfu Φ.P w rfl) (Nat.le_refl _) (w' := w) rfl
    rw [← h1] at hrun
    exact ⟨_, run_appendOp ho hc hca hct hrun, by unfold Rep; exact h1⟩) hk
theorem V1.appendOO {β : Type} {f : β → PV} {l m : List β} {d t u e n : Nat} {c : Call} {sx xx : Operand} {p z : PV} {ob : Option Nat} (H1 : List (Nat × Obj')) (hl : ob = none → l = []) (ho : o.op = .call c) (hc : c.callee = .builtin .append) (hca : c.args = #[sx, xx]) (hct : c.argTypes = #[t, u]) (hd : o.dst = some d)
    (ht : elemSz Φ.P t = some (e, n)) (hby : elemBy Φ.P t = true) (hz : zeroK Φ.P e = some (n, z)) (h0n : Nat.blt 0 n = true) (hs : aeval α sx = some (optS n ob l.length)) (hH : α.H = H1 ++ optH n ob (l.map f))
    (hx : aeval α xx = some p) (hsrc : SrcOf Φ.P α u n p (m.map f)) (hfit : (l.length : Int) + (m.length : Int) ≤ 2147483648) (hn : d < α.n)
    (hk : ∀ ob', (ob' = none → l ++ m = []) → K ⟨α.n, (d, optS n ob' (l ++ m).length) :: α.E, optH n ob' ((l ++ m).map f) ++ H1⟩) : V1 Φ o α K := by
  cases ob with
  | none =>
    have e1 : α.H = H1 := by rw [hH]; simp [optH]
    have el := hl rfl
    cases m with
    | nil =>
      refine V1.appendNilNil ho hc hca hct hd ht hs hx hsrc hn ?_
      have := hk none (fun _ => by rw [el]; rfl)
      rw [← e1] at this
      exact this
    | cons y m =>
      refine V1.appendNilE (l := l) (m := y :: m) (f := f) el ho hc hca hct hd ht hby hz h0n hs hx hsrc rfl hfit hn fun b' => ?_
      rw [e1]
      exact hk (some b') (fun h => by cases h)
  | some b =>
    have e1 : α.H[H1.length]? = some (b, ⟨n, l.map f⟩) := by rw [hH]; simp [optH]
    have e2 : α.H.eraseIdx H1.length = H1 := by rw [hH]; simp [optH, List.eraseIdx_append_of_length_le]
    refine V1.appendMap (k := H1.length) (l := l) (m := m) (f := f) ho hc hca hct hd ht hby hz hs e1 hx hsrc hfit hn fun b' => ?_
    rw [e2]
    exact hk (some b') (fun h => by cases h)
end
end Go.VS
