/-
  Errors: strconv.Atoi's, and errors held against nil. Over any program. No condition.
-/
import Derived.Test.YtlpnicmlgckdnaaDoorWt
import Derived.Shelf.Strconv.ErrVarAll
set_option linter.unusedSimpArgs false
set_option linter.unusedVariables false
namespace Go.VS
open Go.RowKit

/-- A value of an interface type that is nil just if b is false. -/
def ErrIs (v : Value) (b : Bool) : Prop := if b = true then ∃ t p, v = .iface t p else v = .nilIface

theorem Does.ofBelowE {P : Program} {f : FuncId} {args : List PV} {vs : List Value} {rn : Nat} {R : PV → Prop}
    (ha : ∀ (w : World) (S : Nat → Nat → Prop) (us : List Value), Reps w S true args us → us = vs)
    (hc : ∀ w : World, LibW P w (fun b => b ∈ ([] : List (Nat × Obj')).map Prod.fst) → Calls P f vs.toArray w fun e w' => ∃ v x, e = .returned v ∧ R x ∧ (∀ (S : Nat → Nat → Prop), Rep w' S true x v) ∧ Below w.heap.size w w') : Does P f args [] rn (fun y H => R y ∧ H = []) := by
  intro w S us hS hr hH hL
  obtain rfl := ha w S us hr
  refine (hc w hL).mono ?_
  rintro e w' ⟨v, x, rfl, hR, hx, hB⟩
  exact ⟨v, x, [], S, rfl, ⟨hR, rfl⟩, hx S, ⟨List.nodup_nil, fun b o h => absurd h (List.not_mem_nil)⟩, Ext.ofBelow hB, fun _ _ h => h, fun ρ b h => ⟨Nat.lt_of_lt_of_le (hS ρ b h) hB.size, .inl h⟩, fun b h => absurd h (List.not_mem_nil)⟩

theorem run_equal_iface {P : Program} {T : TypeId} {ms : Array (String × TypeId)} (hT : P.underlying T = some (.interface ms)) {v : Value} {b : Bool} (hv : ErrIs v b) (w : World) : (Op.equal T v .nilIface).run P w = .ok (!b) w := by
  have h : ∀ n, (Op.equalIn (n + 1) T v .nilIface).run P w = .ok (!b) w := fun n => by
    cases b
    · rw [show v = .nilIface from hv]
      simp only [Op.equalIn, Sem.run_bind, run_underlying hT, Result.andThen_ok, Sem.run_pure]; rfl
    · obtain ⟨t, p, rfl⟩ : ∃ t p, v = .iface t p := hv
      simp only [Op.equalIn, Sem.run_bind, run_underlying hT, Result.andThen_ok, Sem.run_pure]; rfl
  exact h 9999

section
variable {Φ : Ctx} {α : AEnv} {K : AEnv → Prop} {o : Oper}

theorem V1.errEq {d T T' : Nat} {x : Operand} {v : Value} {b : Bool} {ms : Array (String × TypeId)} (hv : ErrIs v b) (ho : o.op = .binOp .eql T x (.const .nilIface) T') (hd : o.dst = some d)
    (hT : Φ.P.underlying T = some (.interface ms)) (hx : aeval α x = some (.val v)) (hn : d < α.n) (hk : K (α.put d (.bool (!b)))) : V1 Φ o α K :=
  V1.pure hd hn (fun S a w he => by
    have h1 := he.eval hx
    simp only [Rep] at h1
    refine ⟨.bool (!b), ?_, by unfold Rep; rfl⟩
    have h3 := run_equal_iface hT hv w
    have h4 : a.eval (.const .nilIface) = .nilIface := rfl
    cases b
    · rw [show v = .nilIface from hv] at h1 h3
      simp only [execOp, ho, h1, h4, eqGuard, binOp, Sem.run_bind, Result.andThen_ok, Sem.run_pure, Sem.run_ite]
      simp
      rw [h3]
      rfl
    · obtain ⟨t, p, rfl⟩ : ∃ t p, v = .iface t p := hv
      simp only [execOp, ho, h1, h4, eqGuard, binOp, Sem.run_bind, Result.andThen_ok, Sem.run_pure, Sem.run_ite]
      simp
      rw [h3]
      rfl) hk

theorem V1.errNe {d T T' : Nat} {x : Operand} {v : Value} {b : Bool} {ms : Array (String × TypeId)} (hv : ErrIs v b) (ho : o.op = .binOp .neq T x (.const .nilIface) T') (hd : o.dst = some d)
    (hT : Φ.P.underlying T = some (.interface ms)) (hx : aeval α x = some (.val v)) (hn : d < α.n) (hk : K (α.put d (.bool b))) : V1 Φ o α K :=
  V1.pure hd hn (fun S a w he => by
    have h1 := he.eval hx
    simp only [Rep] at h1
    refine ⟨.bool b, ?_, by unfold Rep; rfl⟩
    have h3 := run_equal_iface hT hv w
    have h4 : a.eval (.const .nilIface) = .nilIface := rfl
    cases b
    · rw [show v = .nilIface from hv] at h1 h3
      simp only [execOp, ho, h1, h4, eqGuard, binOp, Sem.run_bind, Result.andThen_ok, Sem.run_pure, Sem.run_ite]
      simp
      rw [h3]
      rfl
    · obtain ⟨t, p, rfl⟩ : ∃ t p, v = .iface t p := hv
      simp only [execOp, ho, h1, h4, eqGuard, binOp, Sem.run_bind, Result.andThen_ok, Sem.run_pure, Sem.run_ite]
      simp
      rw [h3]
      rfl) hk
end

/-! ### A string to bytes -/
def bytesI (s : List UInt8) : List Int := s.map fun b => (b.toNat : Int)
theorem reps_bytesI {w : World} {S : Nat → Nat → Prop} {own : Bool} : ∀ (l : List Int), Reps w S own (l.map encU8) (l.map (Value.int .u8))
  | [] => Reps.nil_iff.2 rfl
  | n :: l => by
    rw [List.map_cons, List.map_cons]
    exact Reps.cons_iff.2 ⟨_, _, rfl, by show Rep w S own (.int .u8 n) (.int .u8 n); unfold Rep; rfl, reps_bytesI l⟩
theorem V1.convBytes {Φ : Ctx} {α : AEnv} {K : AEnv → Prop} {o : Oper} {d T T' e : Nat} {x : Operand} {s : List UInt8} (hM : MarkOK) (ho : o.op = .convert T T' x) (hd : o.dst = some d) (hT : Φ.P.underlying T = some .string)
    (hT' : Φ.P.underlying T' = some (.slice e)) (he : Φ.P.underlying e = some (.int .u8)) (hx : aeval α x = some (.str s)) (hn : d < α.n)
    (hk : ∀ b, K ⟨α.n, (d, .sref b 1 0 (bytesI s).length) :: α.E, (b, ⟨1, (bytesI s).map encU8⟩) :: α.H⟩) : V1 Φ o α K :=
  V1.newBlk (x := fun b => .sref b 1 0 (bytesI s).length) (ob := ⟨1, (bytesI s).map encU8⟩) hd hn (fun S a w hE => by
    have h := hE.eval hx
    simp only [Rep] at h
    have hrun := Go.Lib.run_convert_string_bytes (P := Φ.P) w T T' e ⟨s.toArray⟩ hT hT' he
    have hge : s.length ≤ grownCap w s.length 0 e := grownCap_ge w s.length 0 e
    have hsz : (ByteArray.mk s.toArray).size = s.length := by simp [ByteArray.size]
    have hcs : (Go.Lib.bytesCells w e ⟨s.toArray⟩).size = grownCap w s.length 0 e := by
      unfold Go.Lib.bytesCells
      rw [Array.size_append, Array.size_replicate, hsz]
      simp
      omega
    have hnew := Go.Lib.bytesWorld_at_new w e ⟨s.toArray⟩
    have hB := Go.Lib.bytesWorld_below w e ⟨s.toArray⟩
    have hblk : Blk (Go.Lib.bytesWorld w e ⟨s.toArray⟩) w.heap.size (Go.Lib.bytesCells w e ⟨s.toArray⟩) := ⟨_, _, hnew, .inr ⟨Nat.le_refl _, hM⟩⟩
    have hlen : (bytesI s).length = s.length := by simp [bytesI]
    refine ⟨.slice (some ⟨w.heap.size, 0, none⟩) s.length (grownCap w s.length 0 e), _, w.heap.size, ?_, Ext.ofBelow hB, Nat.le_refl _, ⟨Nat.one_pos, _, (bytesI s).map (Value.int .u8), hblk, ?_, ?_, reps_bytesI _, ?_⟩, ?_⟩
    · rw [hsz] at hrun
      simp only [execOp, ho, h, Sem.run_bind, hrun]
      rfl
    · show ((bytesI s).map (Value.int .u8)).length * 1 ≤ _
      rw [hcs, List.length_map, hlen]; omega
    · intro u hu
      obtain ⟨n, _, rfl⟩ := List.mem_map.1 hu
      exact ⟨rfl, fun j c hc => by
        cases j with
        | zero => simp [Value.cells] at hc; subst hc; rfl
        | succ j => simp [Value.cells] at hc⟩
    · intro i u hu j hj
      have hj : j < 1 := hj
      obtain rfl : j = 0 := by omega
      show (Go.Lib.bytesCells w e ⟨s.toArray⟩)[i * 1 + 0]? = _
      rw [Nat.mul_one, Nat.add_zero]
      rw [List.getElem?_map] at hu
      have hi : i < s.length := by
        rcases Nat.lt_or_ge i s.length with h' | h'
        · exact h'
        · rw [List.getElem?_eq_none (by rw [hlen]; omega)] at hu; cases hu
      have e1 : (bytesI s)[i]? = some ((s[i].toNat : Nat) : Int) := by simp [bytesI, hi]
      rw [e1] at hu
      cases hu
      unfold Go.Lib.bytesCells
      rw [Array.getElem?_append_left (by simp; omega)]
      simp [hi, Value.cells]
    · show Rep _ S true (.sref w.heap.size 1 0 (bytesI s).length) _
      unfold Rep
      exact ⟨rfl, .inr ⟨_, _, by rw [hlen], by rw [hlen]; exact hge, hblk, by rw [hcs]; omega⟩⟩) hk

/-! ### strconv.Atoi -/
/-- The number, and whether there is an error. -/
def atoiR (s : List UInt8) : Int × Bool :=
  match Go.Lib.atoiAll s with
  | .ok v => (v, false)
  | .«syntax» => (0, true)
  | .range => (Go.Lib.atoiSat s, true)
theorem Does.atoi {P : Program} {f : FuncId} {ρ : Go.Shelf.Ren} {rn : Nat} {s : List UInt8} (L : Go.Proofs.LaysC.n172 P ρ) (hf : ρ.f 172 = f) (hl : s.length ≤ 281474976710656) :
    Does P f [.str s] [] rn (fun x H => (∃ v, ErrIs v (atoiR s).2 ∧ x = .tup [.int .i64 (atoiR s).1, .val v]) ∧ H = []) := by
  subst hf
  refine Does.ofBelowE (vs := [.string ⟨s.toArray⟩]) (fun w S us hr => ?_) (fun w hL => ?_)
  · obtain ⟨us1, rfl, hr1⟩ := reps_str hr
    rw [Reps.nil_iff.1 hr1]
  · have hrep : ∀ (w' : World) (S : Nat → Nat → Prop) (n : Int) (v : Value), Rep w' S true (.tup [.int .i64 n, .val v]) (.tuple #[.int .i64 n, v]) := fun w' S n v => by
      unfold Rep
      exact ⟨[.int .i64 n, v], rfl, Reps.cons_iff.2 ⟨_, _, rfl, rep_int, Reps.cons_iff.2 ⟨_, _, rfl, by unfold Rep; rfl, Reps.nil_iff.2 rfl⟩⟩⟩
    obtain ⟨tp1, p1, hs1⟩ := hL.errSyntax
    obtain ⟨tp2, p2, hs2⟩ := hL.errRange
    unfold atoiR
    cases h : Go.Lib.atoiAll s with
    | ok v =>
      refine (Go.Proofs.Any.strconv_Atoi_ok L ⟨s.toArray⟩ (by simp [ByteArray.size]; omega) v h w).mono ?_
      rintro e w' ⟨rfl, hw⟩
      refine ⟨_, .tup [.int .i64 v, .val .nilIface], rfl, ⟨.nilIface, rfl, rfl⟩, fun S => hrep _ _ _ _, ?_⟩
      rcases hw with rfl | ⟨t, rfl⟩
      · exact Go.RowKit.Below.refl _ _
      · exact Go.Lib.bytesWorld_below _ _ _
    | «syntax» =>
      refine (Go.Proofs.Any.strconv_Atoi_syntax_var L ⟨s.toArray⟩ (by simpa [ByteArray.size] using hl) h tp1 p1 w hs1).mono ?_
      rintro e w' ⟨N, rfl, _, _, hB⟩
      exact ⟨_, .tup [.int .i64 0, .val _], rfl, ⟨_, ⟨_, _, rfl⟩, rfl⟩, fun S => hrep _ _ _ _, hB⟩
    | range =>
      refine (Go.Proofs.Any.strconv_Atoi_range_var L ⟨s.toArray⟩ (by simpa [ByteArray.size] using hl) h tp2 p2 w hs2).mono ?_
      rintro e w' ⟨N, rfl, _, _, hB⟩
      exact ⟨_, .tup [.int .i64 (Go.Lib.atoiSat s), .val _], rfl, ⟨_, ⟨_, _, rfl⟩, rfl⟩, fun S => hrep _ _ _ _, hB⟩
end Go.VS
