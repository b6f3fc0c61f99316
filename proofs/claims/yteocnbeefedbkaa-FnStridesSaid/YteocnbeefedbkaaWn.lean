/-
  slices.Delete on deep lists: the outer row loses elements, the inner blocks of these are left alone. Over any program. No condition.
-/
import Derived.Test.YteocnbeefedbkaaWm
set_option linter.unusedSimpArgs false
set_option linter.unusedVariables false
namespace Go.VS

/-- The model of slices.Delete, z standing in the places behind. -/
def delM {β : Type} (z : β) (s : List β) (i : Int) (j_ : Int) : Option (List β) :=
  asrt ((0 : Int) ≤ i ∧ i ≤ j_ ∧ j_ ≤ (s.length : Int) ∧ (s.length : Int) ≤ (s.length : Int)) <|
  bif (i == j_) then (
    some s)
  else (
    asrt ((0 : Int) ≤ (0 : Int) ∧ (0 : Int) ≤ i ∧ i ≤ (s.length : Int)) <|
    asrt ((0 : Int) ≤ j_ ∧ j_ ≤ (((List.length s) : Nat) : Int) ∧ (((List.length s) : Nat) : Int) ≤ (((List.length s) : Nat) : Int)) <|
    asrt ((0 + Int.toNat j_) + (Int.toNat (((List.length s) : Nat) : Int) - Int.toNat j_) ≤ s.length) <|
    asrt ((Int.toNat i - Int.toNat (0 : Int)) + (List.take (Int.toNat (((List.length s) : Nat) : Int) - Int.toNat j_) (List.drop (0 + Int.toNat j_) s)).length ≤ s.length) <|
    asrt ((0 : Int) ≤ ((((Int.toNat i - Int.toNat (0 : Int)) + List.length (List.take (Int.toNat (((List.length s) : Nat) : Int) - Int.toNat j_) (List.drop (0 + Int.toNat j_) s))) : Nat) : Int) ∧ ((((Int.toNat i - Int.toNat (0 : Int)) + List.length (List.take (Int.toNat (((List.length s) : Nat) : Int) - Int.toNat j_) (List.drop (0 + Int.toNat j_) s))) : Nat) : Int) ≤ (s.length : Int) ∧ (((0 : Nat) : Int) : Int) + (s.length : Int) ≤ ((List.take (Int.toNat i - Int.toNat (0 : Int)) s ++ (List.take (Int.toNat (((List.length s) : Nat) : Int) - Int.toNat j_) (List.drop (0 + Int.toNat j_) s)) ++ List.drop ((Int.toNat i - Int.toNat (0 : Int)) + List.length (List.take (Int.toNat (((List.length s) : Nat) : Int) - Int.toNat j_) (List.drop (0 + Int.toNat j_) s))) s).length : Int)) <|
    asrt ((0 + Int.toNat ((((Int.toNat i - Int.toNat (0 : Int)) + List.length (List.take (Int.toNat (((List.length s) : Nat) : Int) - Int.toNat j_) (List.drop (0 + Int.toNat j_) s))) : Nat) : Int)) + (Int.toNat (s.length : Int) - Int.toNat ((((Int.toNat i - Int.toNat (0 : Int)) + List.length (List.take (Int.toNat (((List.length s) : Nat) : Int) - Int.toNat j_) (List.drop (0 + Int.toNat j_) s))) : Nat) : Int)) ≤ (List.take (Int.toNat i - Int.toNat (0 : Int)) s ++ (List.take (Int.toNat (((List.length s) : Nat) : Int) - Int.toNat j_) (List.drop (0 + Int.toNat j_) s)) ++ List.drop ((Int.toNat i - Int.toNat (0 : Int)) + List.length (List.take (Int.toNat (((List.length s) : Nat) : Int) - Int.toNat j_) (List.drop (0 + Int.toNat j_) s))) s).length) <|
    asrt (((Int.toNat i - Int.toNat (0 : Int)) + List.length (List.take (Int.toNat (((List.length s) : Nat) : Int) - Int.toNat j_) (List.drop (0 + Int.toNat j_) s))) ≤ (List.take (0 + Int.toNat ((((Int.toNat i - Int.toNat (0 : Int)) + List.length (List.take (Int.toNat (((List.length s) : Nat) : Int) - Int.toNat j_) (List.drop (0 + Int.toNat j_) s))) : Nat) : Int)) (List.take (Int.toNat i - Int.toNat (0 : Int)) s ++ (List.take (Int.toNat (((List.length s) : Nat) : Int) - Int.toNat j_) (List.drop (0 + Int.toNat j_) s)) ++ List.drop ((Int.toNat i - Int.toNat (0 : Int)) + List.length (List.take (Int.toNat (((List.length s) : Nat) : Int) - Int.toNat j_) (List.drop (0 + Int.toNat j_) s))) s) ++ List.replicate (Int.toNat (s.length : Int) - Int.toNat ((((Int.toNat i - Int.toNat (0 : Int)) + List.length (List.take (Int.toNat (((List.length s) : Nat) : Int) - Int.toNat j_) (List.drop (0 + Int.toNat j_) s))) : Nat) : Int)) z ++ List.drop ((0 + Int.toNat ((((Int.toNat i - Int.toNat (0 : Int)) + List.length (List.take (Int.toNat (((List.length s) : Nat) : Int) - Int.toNat j_) (List.drop (0 + Int.toNat j_) s))) : Nat) : Int)) + (Int.toNat (s.length : Int) - Int.toNat ((((Int.toNat i - Int.toNat (0 : Int)) + List.length (List.take (Int.toNat (((List.length s) : Nat) : Int) - Int.toNat j_) (List.drop (0 + Int.toNat j_) s))) : Nat) : Int))) (List.take (Int.toNat i - Int.toNat (0 : Int)) s ++ (List.take (Int.toNat (((List.length s) : Nat) : Int) - Int.toNat j_) (List.drop (0 + Int.toNat j_) s)) ++ List.drop ((Int.toNat i - Int.toNat (0 : Int)) + List.length (List.take (Int.toNat (((List.length s) : Nat) : Int) - Int.toNat j_) (List.drop (0 + Int.toNat j_) s))) s)).length) <|
    some (List.take ((Int.toNat i - Int.toNat (0 : Int)) + List.length (List.take (Int.toNat (((List.length s) : Nat) : Int) - Int.toNat j_) (List.drop (0 + Int.toNat j_) s))) (List.take (0 + Int.toNat ((((Int.toNat i - Int.toNat (0 : Int)) + List.length (List.take (Int.toNat (((List.length s) : Nat) : Int) - Int.toNat j_) (List.drop (0 + Int.toNat j_) s))) : Nat) : Int)) (List.take (Int.toNat i - Int.toNat (0 : Int)) s ++ (List.take (Int.toNat (((List.length s) : Nat) : Int) - Int.toNat j_) (List.drop (0 + Int.toNat j_) s)) ++ List.drop ((Int.toNat i - Int.toNat (0 : Int)) + List.length (List.take (Int.toNat (((List.length s) : Nat) : Int) - Int.toNat j_) (List.drop (0 + Int.toNat j_) s))) s) ++ List.replicate (Int.toNat (s.length : Int) - Int.toNat ((((Int.toNat i - Int.toNat (0 : Int)) + List.length (List.take (Int.toNat (((List.length s) : Nat) : Int) - Int.toNat j_) (List.drop (0 + Int.toNat j_) s))) : Nat) : Int)) z ++ List.drop ((0 + Int.toNat ((((Int.toNat i - Int.toNat (0 : Int)) + List.length (List.take (Int.toNat (((List.length s) : Nat) : Int) - Int.toNat j_) (List.drop (0 + Int.toNat j_) s))) : Nat) : Int)) + (Int.toNat (s.length : Int) - Int.toNat ((((Int.toNat i - Int.toNat (0 : Int)) + List.length (List.take (Int.toNat (((List.length s) : Nat) : Int) - Int.toNat j_) (List.drop (0 + Int.toNat j_) s))) : Nat) : Int))) (List.take (Int.toNat i - Int.toNat (0 : Int)) s ++ (List.take (Int.toNat (((List.length s) : Nat) : Int) - Int.toNat j_) (List.drop (0 + Int.toNat j_) s)) ++ List.drop ((Int.toNat i - Int.toNat (0 : Int)) + List.length (List.take (Int.toNat (((List.length s) : Nat) : Int) - Int.toNat j_) (List.drop (0 + Int.toNat j_) s))) s))))

theorem delM_some {β : Type} {z : β} {s r : List β} {i j : Int} (h : delM z s i j = some r) : ∃ a b : Nat, i = (a : Int) ∧ j = (b : Int) ∧ a ≤ b ∧ b ≤ s.length := by
  unfold delM at h
  obtain ⟨⟨h1, h2, h3, _⟩, _⟩ := asrt_some h
  exact ⟨i.toNat, j.toNat, by omega, by omega, by omega, by omega⟩

theorem delM_eq {β : Type} {z : β} {s : List β} {a b : Nat} (hab : a ≤ b) (hb : b ≤ s.length) : delM z s (a : Int) (b : Int) = some (s.take a ++ s.drop b) := by
  unfold delM
  rw [asrt_pos ⟨by omega, by omega, by omega, by omega⟩]
  by_cases he : a = b
  · subst he
    rw [beq_self_eq_true, cond_true, List.take_append_drop]
  rw [show ((a : Int) == (b : Int)) = false by rw [beq_eq_false_iff_ne]; omega, cond_false]
  simp only [Int.toNat_natCast, Int.toNat_zero, Nat.sub_zero, Nat.zero_add]
  have hd : (s.drop b).length = s.length - b := List.length_drop
  rw [List.take_of_length_le (Nat.le_of_eq hd)]
  have ht : (s.take a).length = a := by rw [List.length_take]; omega
  have hX : (s.take a ++ s.drop b).length = a + (s.drop b).length := by rw [List.length_append, ht]
  have hdd : (s.drop (a + (s.drop b).length)).length = s.length - (a + (s.drop b).length) := List.length_drop
  rw [asrt_pos ⟨by omega, by omega, by omega⟩, asrt_pos ⟨by omega, by omega, by omega⟩, asrt_pos (by omega), asrt_pos (by omega)]
  have hY : (s.take a ++ s.drop b ++ s.drop (a + (s.drop b).length)).length = s.length := by rw [List.length_append, hX, hdd]; omega
  rw [asrt_pos ⟨by omega, by omega, by simp only [hY]; omega⟩, asrt_pos (by rw [hY]; omega)]
  have t1 : (s.take a ++ s.drop b ++ s.drop (a + (s.drop b).length)).take (a + (s.drop b).length) = s.take a ++ s.drop b := by
    rw [← hX, List.take_left]
  rw [t1, asrt_pos (by rw [List.length_append, List.length_append, hX]; omega), List.append_assoc, ← hX, List.take_left]

section
variable {T : Type} {m : Nat} {inn : T → List PV} {cell : PV → T → PV}

theorem Deep.cut : ∀ {ts : List PV} {os : List (Nat × Obj')} {xs : List T} (k : Nat), Deep m inn ts os xs → ∃ o1 o2, os = o1 ++ o2 ∧ Deep m inn (ts.take k) o1 (xs.take k) ∧ Deep m inn (ts.drop k) o2 (xs.drop k)
  | ts, os, xs, 0, h => ⟨[], os, rfl, by simpa using Deep.empty, by simpa using h⟩
  | [], os, xs, k + 1, h => ⟨[], [], by rw [h.1]; rfl, by rw [h.2]; simpa using Deep.empty, by rw [h.2]; simpa using Deep.empty⟩
  | t :: ts, _, _, k + 1, h => by
    obtain ⟨o, os', x, xs', rfl, rfl, h1, h⟩ := h
    obtain ⟨o1, o2, rfl, g1, g2⟩ := Deep.cut k h
    exact ⟨o ++ o1, o2, (List.append_assoc _ _ _).symm, ⟨o, o1, x, _, rfl, rfl, h1, g1⟩, g2⟩

theorem Deep.del {ts : List PV} {os : List (Nat × Obj')} {xs : List T} {a b : Nat} (hab : a ≤ b) (h : Deep m inn ts os xs) : ∃ os', List.Sublist os' os ∧ Deep m inn (ts.take a ++ ts.drop b) os' (xs.take a ++ xs.drop b) := by
  obtain ⟨o1, o2, rfl, g1, g2⟩ := h.cut a
  obtain ⟨o3, o4, rfl, g3, g4⟩ := g2.cut (b - a)
  refine ⟨o1 ++ o4, (List.Sublist.refl _).append (List.sublist_append_right _ _), Deep.append g1 ?_⟩
  rw [List.drop_drop, List.drop_drop, show a + (b - a) = b by omega] at g4
  exact g4

theorem deepC_del {ts : List PV} {xs : List T} {a b : Nat} (h : ts.length = xs.length) : (deepC cell ts xs).take a ++ (deepC cell ts xs).drop b = deepC cell (ts.take a ++ ts.drop b) (xs.take a ++ xs.drop b) := by
  unfold deepC
  rw [List.zipWith_append (by rw [List.length_take, List.length_take, h]), List.take_zipWith, List.drop_zipWith]

variable {Φ : Ctx} {α : AEnv} {K : AEnv → Prop} {o : Oper} {n jj : Nat} {ts : List PV} {os : List (Nat × Obj')} {xs r : List T}

/-- A call of slices.Delete at a deep list. -/
theorem V1.callDel {d f : Nat} {c : Call} {rest : List PV} (k : Nat) {A A' : List (Nat × Obj')} {b rn : Nat} {i j : Int} {z : T} {zr : PV} (ho : o.op = .call c) (hc : c.callee = .value (.func f)) (hd : o.dst = some d) (hok : callOK Φ.P f = true)
    (hps : argsPV α c.args.toList = some (.sref b n 0 xs.length :: rest)) (hH : α.H = A ++ os) (hk0 : A[k]? = some (b, ⟨n, deepC cell ts xs⟩)) (hA' : A.eraseIdx k = A') (hD : Deep m inn ts os xs) (hr : delM z xs i j = some r)
    (hF : ∀ rL, delM zr (deepC cell ts xs) i j = some rL → Does Φ.P f (.sref b n 0 (deepC cell ts xs).length :: rest) [(b, ⟨n, deepC cell ts xs⟩)] rn (fun x H => ∃ ob0 : Option Nat, (ob0 = none → rL = []) ∧ x = optS n ob0 rL.length ∧ H = optH n ob0 rL)) (hrn : rn = Φ.rn) (hn : d < α.n)
    (hk : ∀ (ob0 : Option Nat) (ts' : List PV) (os' : List (Nat × Obj')), (ob0 = none → r = []) → Deep m inn ts' os' r → K ⟨α.n, (d, optS n ob0 r.length) :: α.E, optH n ob0 (deepC cell ts' r) ++ (A' ++ os')⟩) : V1 Φ o α K := by
  subst hA'
  obtain ⟨a, e, rfl, rfl, h1, h2⟩ := delM_some hr
  rw [delM_eq h1 h2] at hr
  cases hr
  have hlen := hD.length
  have hl2 : (deepC cell ts xs).length = xs.length := deepC_length hD
  obtain ⟨os', hs, hD'⟩ := hD.del h1
  have hL : (deepC cell ts xs).take a ++ (deepC cell ts xs).drop e = deepC cell (ts.take a ++ ts.drop e) (xs.take a ++ xs.drop e) := deepC_del hlen
  have hF' := hF _ (delM_eq h1 (by rw [hl2]; exact h2))
  rw [hL, hl2] at hF'
  have hlr : (deepC cell (ts.take a ++ ts.drop e) (xs.take a ++ xs.drop e)).length = (xs.take a ++ xs.drop e).length := deepC_length hD'
  refine V1.permK (V1.callG (τ := 0) (Bw := []) hd hn (run_call ho hc hok hps) ((by rw [hH]; exact (perm_erase hk0).append_right os) : List.Perm α.H ([(b, ⟨n, deepC cell ts xs⟩)] ++ (A.eraseIdx k ++ os))) (Lends.same _) (fun _ h => by cases h) hF' (.inl hrn) (.inl rfl) ?_)
  rintro _ _ ⟨ob0, hob0, rfl, rfl⟩
  refine ⟨_, hk ob0 _ os' (fun e0 => ?_) hD', ?_⟩
  · have := congrArg List.length (hob0 e0)
    rw [hlr] at this
    exact List.length_eq_zero_iff.1 this
  · rw [hlr]
    exact Keeps.sub _ ((List.Sublist.refl _).append ((List.Sublist.refl _).append hs))
end
end Go.VS
