/-
  slices.DeleteFunc on deep lists: its loop runs over pairs of a tree and of what it reads as. Over any program. No condition.
-/
import Derived.Test.YteocnbeefedbkaaWr
set_option linter.unusedSimpArgs false
set_option linter.unusedVariables false
namespace Go.VS

theorem asrt_map {β γ : Type} {p : Prop} [Decidable p] {k : Option β} {g : β → γ} : (asrt p k).map g = asrt p (k.map g) := by
  unfold asrt; split <;> rfl

theorem bif_map {β γ : Type} {b : Bool} {x y : Option β} {g : β → γ} : (bif b then x else y).map g = bif b then x.map g else y.map g := by cases b <;> rfl

theorem getD_mapD {α β : Type} [Inhabited α] [Inhabited β] {g : α → β} (hd : g default = default) (xs : List α) (i : Nat) : (xs.map g).getD i default = g (xs.getD i default) := by
  rw [List.getD_eq_getElem?_getD, List.getD_eq_getElem?_getD, List.getElem?_map]
  cases xs[i]? with
  | none => exact hd.symm
  | some x => rfl

section
variable {β : Type} [Inhabited β]

/-- One round of slices.IndexFunc. -/
def idxF_l0 (s : List β) (fm : β → Option Bool) : (Int) → Option ((Int) ⊕ ((Unit) ⊕ (Int))) := fun st_ => match st_ with
| v =>
  bif (decide (v < (s.length : Int))) then (
    asrt ((0 : Int) ≤ v ∧ v < (s.length : Int)) <|
    (fm (s.getD (Int.toNat v) default)).bind fun y1 =>
    bif y1 then (
      some (.inr (.inr v)))
    else (
      some (.inl (IntKind.i64.wrap (v + (1 : Int))))))
  else (
    some (.inr (.inl ())))

def idxF (s : List β) (fm : β → Option Bool) : Option Int :=
  (iterO (idxF_l0 s fm) (0 : Int)).bind fun e => match e with
  | .inl () =>
    (some (-1 : Int))
  | .inr r => some r

/-- One round of slices.DeleteFunc. -/
def delF_l0 (fm : β → Option Bool) : (List β × Int × Int) → Option ((List β × Int × Int) ⊕ (List β × Int)) := fun st_ => match st_ with
| (s1, i0, j_) =>
  bif (decide (j_ < (s1.length : Int))) then (
    (((
      asrt ((0 : Int) ≤ j_ ∧ j_ < (s1.length : Int)) <|
      (fm (s1.getD (Int.toNat j_) default)).bind fun y2 =>
      bif (!y2) then (
        asrt ((0 : Int) ≤ i0 ∧ i0 < (s1.length : Int)) <|
        some ((s1.set (Int.toNat i0) (s1.getD (Int.toNat j_) default)), (IntKind.i64.wrap (i0 + (1 : Int)))))
      else (
        some (s1, i0))) : Option (List β × Int))).bind fun e => match e with
    | (s2, i1) =>
      (some (.inl (s2, i1, (IntKind.i64.wrap (j_ + (1 : Int)))))))
  else (
    some (.inr (s1, i0)))

/-- The model of slices.DeleteFunc, z standing in the places behind. -/
def delF (z : β) (s : List β) (fm : β → Option Bool) : Option (List β) :=
  (idxF s fm).bind fun y0 =>
  bif (y0 == (-1 : Int)) then (
    some s)
  else (
    (iterO (delF_l0 fm) (s, y0, (IntKind.i64.wrap (y0 + (1 : Int))))).bind fun e => match e with
    | (s0, i) =>
      (asrt ((0 : Int) ≤ i ∧ i ≤ (((List.length s0) : Nat) : Int) ∧ (((List.length s0) : Nat) : Int) ≤ (((List.length s0) : Nat) : Int)) <|
      asrt ((0 + Int.toNat i) + (Int.toNat (((List.length s0) : Nat) : Int) - Int.toNat i) ≤ s0.length) <|
      asrt ((0 : Int) ≤ (0 : Int) ∧ (0 : Int) ≤ i ∧ i ≤ ((List.take (0 + Int.toNat i) s0 ++ List.replicate (Int.toNat (((List.length s0) : Nat) : Int) - Int.toNat i) z ++ List.drop ((0 + Int.toNat i) + (Int.toNat (((List.length s0) : Nat) : Int) - Int.toNat i)) s0).length : Int)) <|
      asrt ((Int.toNat i - Int.toNat (0 : Int)) ≤ (List.take (0 + Int.toNat i) s0 ++ List.replicate (Int.toNat (((List.length s0) : Nat) : Int) - Int.toNat i) z ++ List.drop ((0 + Int.toNat i) + (Int.toNat (((List.length s0) : Nat) : Int) - Int.toNat i)) s0).length) <|
      some (List.take (Int.toNat i - Int.toNat (0 : Int)) (List.take (0 + Int.toNat i) s0 ++ List.replicate (Int.toNat (((List.length s0) : Nat) : Int) - Int.toNat i) z ++ List.drop ((0 + Int.toNat i) + (Int.toNat (((List.length s0) : Nat) : Int) - Int.toNat i)) s0))))

end

section
variable {α β : Type} [Inhabited α] [Inhabited β] {g : α → β}

theorem idxF_map (hd : g default = default) (ps : List α) (fm : β → Option Bool) : idxF (ps.map g) fm = idxF ps (fun p => fm (g p)) := by
  have e : idxF_l0 (ps.map g) fm = idxF_l0 ps (fun p => fm (g p)) := by
    funext v
    simp only [idxF_l0, List.length_map, getD_mapD hd]
  unfold idxF
  rw [e]

theorem delF_l0_map (hd : g default = default) (fm : β → Option Bool) (s : List α × Int × Int) : delF_l0 fm (s.1.map g, s.2.1, s.2.2) = (delF_l0 (fun p => fm (g p)) s).map (Sum.map (fun s => (s.1.map g, s.2.1, s.2.2)) (fun e => (e.1.map g, e.2))) := by
  obtain ⟨s1, i, j⟩ := s
  simp only [delF_l0, List.length_map, getD_mapD hd]
  rw [bif_map]
  congr 1
  unfold asrt
  split
  · cases fm (g (s1.getD (Int.toNat j) default)) with
    | none => rfl
    | some b =>
      cases b
      · simp only [Option.bind_some, Bool.not_false, cond_true]
        split
        · simp only [Option.bind_some, Option.map_some, Sum.map_inl, List.map_set]
        · rfl
      · rfl
  · rfl

theorem delF_map (hd : g default = default) {z : α} {ps : List α} {fm : β → Option Bool} {r : List β} (h : delF (g z) (ps.map g) fm = some r) : ∃ rp, delF z ps (fun p => fm (g p)) = some rp ∧ rp.map g = r := by
  unfold delF at h ⊢
  rw [idxF_map hd] at h
  cases hi : idxF ps (fun p => fm (g p)) with
  | none => rw [hi] at h; cases h
  | some y0 =>
    rw [hi, Option.bind_some] at h
    rw [Option.bind_some]
    cases hc : (y0 == (-1 : Int)) with
    | true =>
      rw [hc, cond_true] at h
      exact ⟨ps, rfl, Option.some.inj h⟩
    | false =>
      rw [hc, cond_false] at h
      rw [cond_false]
      have hl := loopO_map (step := delF_l0 (fun p => fm (g p))) (step' := delF_l0 fm) (fun s : List α × Int × Int => (s.1.map g, s.2.1, s.2.2)) (fun e : List α × Int => (e.1.map g, e.2)) (fun s => delF_l0_map hd fm s) rounds (ps, y0, (IntKind.i64.wrap (y0 + (1 : Int))))
      have hl' : iterO (delF_l0 fm) (ps.map g, y0, (IntKind.i64.wrap (y0 + (1 : Int)))) = (iterO (delF_l0 (fun p => fm (g p))) (ps, y0, (IntKind.i64.wrap (y0 + (1 : Int))))).map (fun e : List α × Int => (e.1.map g, e.2)) := hl
      rw [hl'] at h
      cases he : iterO (delF_l0 (fun p => fm (g p))) (ps, y0, (IntKind.i64.wrap (y0 + (1 : Int)))) with
      | none => rw [he] at h; cases h
      | some e =>
        obtain ⟨s0, i⟩ := e
        rw [he, Option.map_some, Option.bind_some] at h
        rw [Option.bind_some]
        simp only [← List.map_take, ← List.map_drop, ← List.map_replicate, ← List.map_append, List.length_map] at h ⊢
        obtain ⟨h1, h⟩ := asrt_some h
        obtain ⟨h2, h⟩ := asrt_some h
        obtain ⟨h3, h⟩ := asrt_some h
        obtain ⟨h4, h⟩ := asrt_some h
        rw [asrt_pos h1, asrt_pos h2, asrt_pos h3, asrt_pos h4]
        exact ⟨_, rfl, Option.some.inj h⟩
end

section
variable {β : Type} [Inhabited β]
/-- What slices.DeleteFunc leaves is a part of the list, in its order. -/
theorem delF_loop {fm : β → Option Bool} {s0 : List β} : ∀ (n : Nat) (s1 : List β) (i j : Int) (e : List β × Int), s1.length = s0.length → (j < 0 ∨ (0 ≤ i ∧ i ≤ j ∧ j ≤ 9223372036854775807 ∧ (s1.take i.toNat).Sublist (s0.take j.toNat) ∧ s1.drop j.toNat = s0.drop j.toNat)) →
    loopO (delF_l0 fm) n (s1, i, j) = some e → e.1.length = s0.length ∧ 0 ≤ e.2 ∧ (e.1.take e.2.toNat).Sublist s0
  | 0, s1, i, j, e, hl, hv, h => by cases h
  | n + 1, s1, i, j, e, hl, hv, h => by
    obtain ⟨m, y, hm, hy, h1, h2⟩ := loop_head h
    obtain rfl : n = m := Nat.succ.inj hm
    simp only [delF_l0] at hy
    cases hd : decide (j < (s1.length : Int)) with
    | false =>
      rw [hd, cond_false] at hy
      have := h2 _ (Option.some.inj hy).symm
      subst this
      simp only [decide_eq_false_iff_not] at hd
      rcases hv with hv | ⟨a1, a2, a3, a4, a5⟩
      · omega
      · refine ⟨hl, a1, ?_⟩
        rwa [List.take_of_length_le (l := s0) (by omega)] at a4
    | true =>
      rw [hd, cond_true] at hy
      simp only [decide_eq_true_eq] at hd
      cases hb : (asrt ((0 : Int) ≤ j ∧ j < (s1.length : Int)) <|
        (fm (s1.getD (Int.toNat j) default)).bind fun y2 =>
        bif (!y2) then (
          asrt ((0 : Int) ≤ i ∧ i < (s1.length : Int)) <|
          some ((s1.set (Int.toNat i) (s1.getD (Int.toNat j) default)), (IntKind.i64.wrap (i + (1 : Int)))))
        else (
          some (s1, i))) with
      | none => rw [hb] at hy; cases hy
      | some p =>
        rw [hb, Option.bind_some] at hy
        obtain ⟨s2, i1⟩ := p
        have h3 := h1 _ (Option.some.inj hy).symm
        obtain ⟨⟨b1, _⟩, hb⟩ := asrt_some hb
        rcases hv with hv | ⟨a1, a2, a3, a4, a5⟩
        · omega
        have hjl : j.toNat < s0.length := by omega
        have hjl1 : j.toNat < s1.length := by omega
        have a6 : s1[j.toNat]'hjl1 = s0[j.toNat]'hjl := by
          have := congrArg (fun l : List β => l[0]?) a5
          simp only [List.getElem?_drop, Nat.add_zero, List.getElem?_eq_getElem hjl, List.getElem?_eq_getElem hjl1, Option.some.injEq] at this
          exact this
        have a7 : s1.drop (j.toNat + 1) = s0.drop (j.toNat + 1) := by
          have := congrArg (List.drop 1) a5
          simpa [List.drop_drop] using this
        have a8 : s1.getD j.toNat default = s0[j.toNat]'hjl := by
          rw [List.getD_eq_getElem?_getD, List.getElem?_eq_getElem hjl1, Option.getD_some, a6]
        have a9 : s0.take (j.toNat + 1) = s0.take j.toNat ++ [s0[j.toNat]'hjl] := by simp
        cases hf : fm (s1.getD (Int.toNat j) default) with
        | none => rw [hf] at hb; cases hb
        | some b =>
          rw [hf, Option.bind_some] at hb
          by_cases hmx : j = 9223372036854775807
          · refine delF_loop n s2 i1 _ e ?_ (.inl (by rw [hmx]; decide)) h3
            cases b
            · obtain ⟨_, hb⟩ := asrt_some hb
              rw [← (Prod.mk.inj (Option.some.inj hb)).1, List.length_set]; exact hl
            · rw [← (Prod.mk.inj (Option.some.inj hb)).1]; exact hl
          have hw : IntKind.i64.wrap (j + (1 : Int)) = j + 1 := by rw [wrap64_id (by omega) (by omega)]
          have hjs : (j + 1).toNat = j.toNat + 1 := by omega
          rw [hw] at h3
          cases b
          · obtain ⟨_, hb⟩ := asrt_some hb
            have hb' := Prod.mk.inj (Option.some.inj hb)
            have hw2 : IntKind.i64.wrap (i + (1 : Int)) = i + 1 := by rw [wrap64_id (by omega) (by omega)]
            rw [hw2] at hb'
            obtain ⟨rfl, rfl⟩ := hb'
            have his : (i + 1).toNat = i.toNat + 1 := by omega
            refine delF_loop n _ _ _ e (by rw [List.length_set]; exact hl) (.inr ⟨by omega, by omega, by omega, ?_, ?_⟩) h3
            · rw [his, hjs, a9, a8]
              have : (s1.set i.toNat (s0[j.toNat]'hjl)).take (i.toNat + 1) = s1.take i.toNat ++ [s0[j.toNat]'hjl] := by
                rw [List.take_add_one, List.getElem?_set_self (by omega), List.take_set_of_le (Nat.le_refl _)]
                rfl
              rw [this]
              exact a4.append (List.Sublist.refl _)
            · rw [hjs, List.drop_set_of_lt (by omega)]
              exact a7
          · obtain ⟨rfl, rfl⟩ := Prod.mk.inj (Option.some.inj hb)
            refine delF_loop n _ _ _ e hl (.inr ⟨a1, by omega, by omega, ?_, ?_⟩) h3
            · rw [hjs, a9]
              exact a4.trans (List.sublist_append_left _ _)
            · rw [hjs]; exact a7

theorem idxF_range {s : List β} {fm : β → Option Bool} : ∀ (n : Nat) (v : Int) (e : Unit ⊕ Int), v ≤ 9223372036854775807 → loopO (idxF_l0 s fm) n v = some e → ∀ r, e = .inr r → 0 ≤ r ∧ r < (s.length : Int) ∧ r ≤ 9223372036854775807
  | 0, v, e, hv, h => by cases h
  | n + 1, v, e, hv, h => by
    intro r hr
    obtain ⟨m, y, hm, hy, h1, h2⟩ := loop_head h
    obtain rfl : n = m := Nat.succ.inj hm
    simp only [idxF_l0] at hy
    cases hd : decide (v < (s.length : Int)) with
    | false =>
      rw [hd, cond_false] at hy
      have := h2 _ (Option.some.inj hy).symm
      rw [← this] at hr; cases hr
    | true =>
      rw [hd, cond_true] at hy
      obtain ⟨⟨g1, g2⟩, hy⟩ := asrt_some hy
      cases hf : fm (s.getD (Int.toNat v) default) with
      | none => rw [hf] at hy; cases hy
      | some b =>
        rw [hf, Option.bind_some] at hy
        cases b
        · have h3 := h1 _ (Option.some.inj hy).symm
          refine idxF_range n _ e ?_ h3 r hr
          by_cases hmx : v = 9223372036854775807
          · rw [hmx]; decide
          · rw [wrap64_id (by omega) (by omega)]; omega
        · have := h2 _ (Option.some.inj hy).symm
          rw [← this] at hr
          cases hr
          exact ⟨g1, g2, hv⟩

theorem delF_sub {z : β} {s r : List β} {fm : β → Option Bool} (h : delF z s fm = some r) : r.Sublist s := by
  unfold delF at h
  cases hi : idxF s fm with
  | none => rw [hi] at h; cases h
  | some y0 =>
    rw [hi, Option.bind_some] at h
    cases hc : (y0 == (-1 : Int)) with
    | true =>
      rw [hc, cond_true] at h
      rw [← Option.some.inj h]; exact List.Sublist.refl _
    | false =>
      rw [hc, cond_false] at h
      have hr : 0 ≤ y0 ∧ y0 < (s.length : Int) ∧ y0 ≤ 9223372036854775807 := by
        unfold idxF at hi
        cases he : iterO (idxF_l0 s fm) (0 : Int) with
        | none => rw [he] at hi; cases hi
        | some e =>
          rw [he, Option.bind_some] at hi
          have hg := idxF_range rounds 0 e (by decide) he
          cases e with
          | inl u => have := Option.some.inj hi; subst this; simp at hc
          | inr r' => have := Option.some.inj hi; subst this; exact hg _ rfl
      cases he : iterO (delF_l0 fm) (s, y0, (IntKind.i64.wrap (y0 + (1 : Int)))) with
      | none => rw [he] at h; cases h
      | some e =>
        obtain ⟨s0, i⟩ := e
        rw [he, Option.bind_some] at h
        have hl : s0.length = s.length ∧ 0 ≤ i ∧ (s0.take i.toNat).Sublist s := by
          refine delF_loop rounds s y0 (IntKind.i64.wrap (y0 + (1 : Int))) (s0, i) rfl ?_ he
          by_cases hmx : y0 = 9223372036854775807
          · left; rw [hmx]; decide
          · right
            rw [wrap64_id (by omega) (by omega)]
            refine ⟨hr.1, by omega, by omega, ?_, rfl⟩
            exact List.take_sublist_take_left (by omega)
        obtain ⟨h1, h⟩ := asrt_some h
        obtain ⟨h2, h⟩ := asrt_some h
        obtain ⟨h3, h⟩ := asrt_some h
        obtain ⟨h4, h⟩ := asrt_some h
        have h5 := Option.some.inj h
        simp only [Int.toNat_zero, Nat.sub_zero, Nat.zero_add] at h5
        have h6 : (s0.take i.toNat).length = i.toNat := by rw [List.length_take]; omega
        rw [List.append_assoc, List.take_append_of_le_length (by omega), List.take_take, Nat.min_self] at h5
        rw [← h5]
        exact hl.2.2
end

theorem deepRow {β : Type} : ∀ (ps : List (PV × List β)), deepC cellRow (ps.map Prod.fst) (ps.map Prod.snd) = ps.map Prod.fst
  | [] => rfl
  | p :: ps => by
    show p.1 :: deepC cellRow (ps.map Prod.fst) (ps.map Prod.snd) = _
    rw [deepRow ps]; rfl

theorem zip_fst {α β : Type} : ∀ {ts : List α} {xs : List β}, ts.length = xs.length → (ts.zip xs).map Prod.fst = ts ∧ (ts.zip xs).map Prod.snd = xs
  | [], [], _ => ⟨rfl, rfl⟩
  | t :: ts, x :: xs, h => by
    obtain ⟨h1, h2⟩ := zip_fst (Nat.succ.inj h)
    simp only [List.zip_cons_cons, List.map_cons, h1, h2, and_self]

theorem Held.cells {β : Type} {m : Nat} {f : β → PV} {T : List (Nat × Obj')} {p : PV × List β} (h : Held m f T p) : p.1.cellsL[0]? = some p.1 := by
  obtain ⟨ob, _, h, _⟩ := h
  rw [h, optS_cells]; rfl
theorem Held.good {β : Type} {m : Nat} {f : β → PV} {T : List (Nat × Obj')} {p : PV × List β} (h : Held m f T p) : p.1.good 1 = true := by
  obtain ⟨ob, _, h, _⟩ := h
  rw [h]; cases ob <;> rfl

theorem heldSet {β : Type} {P : β → Prop} [Inhabited β] {s : List β} {i j : Nat} (h : ∀ p, p ∈ s → P p) (hj : j < s.length) : ∀ p, p ∈ s.set i (s.getD j default) → P p := fun p hp => by
  rcases List.mem_or_eq_of_mem_set hp with hp | rfl
  · exact h p hp
  · apply h
    rw [List.getD_eq_getElem?_getD, List.getElem?_eq_getElem hj, Option.getD_some]
    exact List.getElem_mem hj

theorem heldAt {β : Type} {P : β → Prop} [Inhabited β] {s : List β} {j : Int} (h : ∀ p, p ∈ s → P p) (hj : 0 ≤ j ∧ j < (s.length : Int)) : P (s.getD j.toNat default) := by
  apply h
  have : j.toNat < s.length := by omega
  rw [List.getD_eq_getElem?_getD, List.getElem?_eq_getElem this, Option.getD_some]
  exact List.getElem_mem this

section
variable {T : Type} {m : Nat} {inn : T → List PV} {cell : PV → T → PV} {Φ : Ctx} {α : AEnv} {K : AEnv → Prop} {o : Oper} {n jj : Nat} {ts : List PV} {os : List (Nat × Obj')} {xs r : List T}

/-- A call of slices.DeleteFunc at a deep list. -/
theorem V1.callDelF {d f : Nat} {c : Call} {ps : List PV} (τ : Nat) (Bw : List Nat) (qs : List PV) {A : List (Nat × Obj')} {ob : Option Nat} {rn : Nat} (ho : o.op = .call c) (hc : c.callee = .value (.func f)) (hd : o.dst = some d) (hok : callOK Φ.P f = true)
    (hps : argsPV α c.args.toList = some ps) (hH : α.H = A ++ (optH n ob (deepC cell ts xs) ++ os)) (hC : CellOK n jj m inn cell) (hin : ∀ x, PV.noL τ (inn x) = true) (hl : Lends α τ Bw ps qs) (hbw : ∀ b, b ∈ Bw → b ∈ A.map Prod.fst)
    (hF : Does Φ.P f qs (optH n ob (deepC cell ts xs) ++ os) rn (fun x H => ∃ (ob1 : Option Nat) (ts' : List PV) (os' : List (Nat × Obj')), (ob1 = none → r = []) ∧ Deep m inn ts' os' r ∧ x = optS n ob1 r.length ∧ H = optH n ob1 (deepC cell ts' r) ++ os')) (hrn : rn = Φ.rn) (hτ : τ ≠ rn) (hn : d < α.n)
    (hk : ∀ (ob1 : Option Nat) (ts' : List PV) (os' : List (Nat × Obj')), (ob1 = none → r = []) → Deep m inn ts' os' r → K ⟨α.n, (d, optS n ob1 r.length) :: α.E, optH n ob1 (deepC cell ts' r) ++ (A ++ os')⟩) : V1 Φ o α K := by
  refine V1.permK (V1.callG (τ := τ) (Bw := Bw) hd hn (run_call ho hc hok hps) (?_ : List.Perm α.H ((optH n ob (deepC cell ts xs) ++ os) ++ A)) hl hbw hF (.inl hrn) (.inr ⟨hτ, ?_⟩) ?_)
  · rw [hH]
    exact List.perm_append_comm
  · rintro x H' ⟨ob1, ts', os', g1, g2, rfl, rfl⟩
    refine ⟨optS_no, fun b ob' hb => ?_⟩
    obtain ⟨q1, q2⟩ := deepNo hC hin g2
    exact (List.mem_append.1 hb).elim (fun h => optH_no q1 b ob' h) (fun h => q2 b ob' h)
  · rintro _ _ ⟨ob1, ts', os', g1, g2, rfl, rfl⟩
    refine ⟨_, hk ob1 ts' os' g1 g2, Keeps.perm _ ?_⟩
    rw [List.append_assoc]
    exact List.perm_append_comm.append_left _
end
end Go.VS
