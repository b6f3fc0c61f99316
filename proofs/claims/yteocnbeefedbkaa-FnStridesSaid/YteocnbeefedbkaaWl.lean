/-
  Lists whose elements hold an own slice each ('deep' lists): the outer row is an own block; the inner blocks stand behind all others. Over any program. No condition.
-/
import Derived.Test.YteocnbeefedbkaaWk
set_option linter.unusedSimpArgs false
set_option linter.unusedVariables false
namespace Go.VS

/-- An inner slice (nil or own) and its block. -/
def Deep1 (m : Nat) (t : PV) (o : List (Nat × Obj')) (l : List PV) : Prop := ∃ ob : Option Nat, (ob = none → l = []) ∧ t = optS m ob l.length ∧ o = optH m ob l

/-- The inner slices ts and their blocks os, of the elements xs. -/
def Deep {T : Type} (m : Nat) (inn : T → List PV) : List PV → List (Nat × Obj') → List T → Prop
  | [], os, xs => os = [] ∧ xs = []
  | t :: ts, os, xs => ∃ o os' x xs', os = o ++ os' ∧ xs = x :: xs' ∧ Deep1 m t o (inn x) ∧ Deep m inn ts os' xs'

/-- The elements' trees. -/
abbrev deepC {T : Type} (cell : PV → T → PV) (ts : List PV) (xs : List T) : List PV := List.zipWith cell ts xs

section
variable {T : Type} {m : Nat} {inn : T → List PV} {cell : PV → T → PV}

theorem Deep.length : ∀ {ts : List PV} {os : List (Nat × Obj')} {xs : List T}, Deep m inn ts os xs → ts.length = xs.length
  | [], _, _, h => by simp [h.2]
  | t :: ts, _, _, h => by
    obtain ⟨o, os', x, xs', _, rfl, _, h⟩ := h
    simp [Deep.length h]

theorem Deep.nil {ts : List PV} {os : List (Nat × Obj')} {xs : List T} (hx : xs = []) (h : Deep m inn ts os xs) : ts = [] ∧ os = [] := by
  subst hx
  cases ts with
  | nil => exact ⟨rfl, h.1⟩
  | cons t ts => obtain ⟨_, _, _, _, _, h, _⟩ := h; cases h

theorem Deep.append : ∀ {ts ts' : List PV} {os os' : List (Nat × Obj')} {xs xs' : List T}, Deep m inn ts os xs → Deep m inn ts' os' xs' → Deep m inn (ts ++ ts') (os ++ os') (xs ++ xs')
  | [], _, _, _, _, _, h, h' => by rw [h.1, h.2]; exact h'
  | t :: ts, _, _, _, _, _, h, h' => by
    obtain ⟨o, os', x, xs', rfl, rfl, h1, h⟩ := h
    exact ⟨o, _, x, _, List.append_assoc _ _ _, rfl, h1, Deep.append h h'⟩

theorem Deep.empty : Deep m inn [] [] ([] : List T) := ⟨rfl, rfl⟩

theorem Deep.nils : ∀ {xs : List T}, (∀ x ∈ xs, inn x = []) → Deep m inn (List.replicate xs.length .nils) [] xs
  | [], _ => ⟨rfl, rfl⟩
  | x :: xs, h => ⟨[], [], x, xs, rfl, rfl, ⟨none, fun _ => h x (by simp), by simp [optS], rfl⟩, Deep.nils fun y hy => h y (by simp [hy])⟩

theorem Deep.nilsR {z : T} (h : inn z = []) (k : Nat) : Deep m inn (List.replicate k .nils) [] (List.replicate k z) := by
  have := Deep.nils (m := m) (inn := inn) (xs := List.replicate k z) fun x hx => by rw [(List.mem_replicate.1 hx).2]; exact h
  rwa [List.length_replicate] at this

theorem Deep.ofNil {xs : List T} (h : xs = []) : Deep m inn [] [] xs := by subst h; exact Deep.empty

theorem Deep1.own {b q : Nat} {l : List PV} (h : q = l.length) : Deep1 m (.sref b m 0 q) [(b, ⟨m, l⟩)] l := ⟨some b, (fun e => by cases e), by rw [h]; rfl, rfl⟩

theorem Deep1.nil {β : Type} {f : β → PV} {k : List β} (h : k = []) : Deep1 m .nils [] (List.map f k) := ⟨none, (fun _ => by rw [h]; rfl), by simp [optS], rfl⟩

theorem Deep1.opt {ob : Option Nat} {q : Nat} {l : List PV} (h : q = l.length) (h0 : ob = none → l = []) : Deep1 m (optS m ob q) (optH m ob l) l := ⟨ob, h0, by rw [h], rfl⟩

theorem Deep.one {t : PV} {o : List (Nat × Obj')} {x : T} (h : Deep1 m t o (inn x)) : Deep m inn [t] o [x] := ⟨o, [], x, [], (List.append_nil o).symm, rfl, h, rfl, rfl⟩

/-- An element by itself, and another one in its place. -/
theorem Deep.split [Inhabited T] : ∀ {ts : List PV} {os : List (Nat × Obj')} {xs : List T} (i : Nat), Deep m inn ts os xs → i < xs.length → ∃ os1 oi os2, os = os1 ++ (oi ++ os2) ∧ Deep1 m (ts.getD i .nils) oi (inn (xs.getD i default)) ∧
    ∀ t' o' x', Deep1 m t' o' (inn x') → Deep m inn (ts.set i t') (os1 ++ (o' ++ os2)) (xs.set i x')
  | [], _, xs, i, h, hi => by rw [h.2] at hi; simp at hi
  | t :: ts, _, _, 0, h, _ => by
    obtain ⟨o, os', x, xs', rfl, rfl, h1, h⟩ := h
    exact ⟨[], o, os', rfl, h1, fun t' o' x' h' => ⟨o', os', x', xs', rfl, rfl, h', h⟩⟩
  | t :: ts, _, _, i + 1, h, hi => by
    obtain ⟨o, os', x, xs', rfl, rfl, h1, h⟩ := h
    obtain ⟨os1, oi, os2, rfl, h2, h3⟩ := Deep.split i h (by simpa using hi)
    refine ⟨o ++ os1, oi, os2, by simp [List.append_assoc], by simpa using h2, fun t' o' x' h' => ?_⟩
    exact ⟨o, os1 ++ (o' ++ os2), x, xs'.set i x', by simp [List.append_assoc], rfl, h1, h3 t' o' x' h'⟩

/-- The same, the slice told apart. -/
theorem Deep.focus [Inhabited T] {ts : List PV} {os : List (Nat × Obj')} {xs : List T} (i : Nat) (h : Deep m inn ts os xs) (hi : i < xs.length) : ∃ (ob : Option Nat) (os1 os2 : List (Nat × Obj')), (ob = none → inn (xs.getD i default) = []) ∧
    ts.getD i .nils = optS m ob (inn (xs.getD i default)).length ∧ os = os1 ++ (optH m ob (inn (xs.getD i default)) ++ os2) ∧
    (∀ t' o' x', Deep1 m t' o' (inn x') → Deep m inn (ts.set i t') (os1 ++ (o' ++ os2)) (xs.set i x')) ∧
    ∀ x', (inn x').length = (inn (xs.getD i default)).length → (ob = none → inn x' = []) → Deep m inn ts (os1 ++ (optH m ob (inn x') ++ os2)) (xs.set i x') := by
  obtain ⟨os1, oi, os2, rfl, ⟨ob, h1, h2, rfl⟩, h3⟩ := h.split i hi
  refine ⟨ob, os1, os2, h1, h2, rfl, h3, fun x' hl hn => ?_⟩
  have := h3 (ts.getD i .nils) (optH m ob (inn x')) x' ⟨ob, hn, by rw [h2, hl], rfl⟩
  rwa [show ts.set i (ts.getD i .nils) = ts from ?_] at this
  have hlen := h.length
  apply List.ext_getElem?
  intro j
  rw [List.getElem?_set]
  split
  · subst_vars
    have : j < ts.length := by omega
    simp [this, List.getD]
  · rfl

/-- The same, for elements whose slices hold encoded data. -/
theorem Deep.focusM [Inhabited T] {β : Type} {f : β → PV} {g : T → List β} {ts : List PV} {os : List (Nat × Obj')} {xs : List T} (i : Nat) (h : Deep m (fun x => List.map f (g x)) ts os xs) (hi : i < xs.length) : ∃ (ob : Option Nat) (os1 os2 : List (Nat × Obj')), (ob = none → g (xs.getD i default) = []) ∧
    ts.getD i .nils = optS m ob (g (xs.getD i default)).length ∧ os = os1 ++ (optH m ob (List.map f (g (xs.getD i default))) ++ os2) ∧
    (∀ t' o' x', Deep1 m t' o' (List.map f (g x')) → Deep m (fun x => List.map f (g x)) (ts.set i t') (os1 ++ (o' ++ os2)) (xs.set i x')) ∧
    ∀ x', (g x').length = (g (xs.getD i default)).length → Deep m (fun x => List.map f (g x)) ts (os1 ++ (optH m ob (List.map f (g x')) ++ os2)) (xs.set i x') := by
  obtain ⟨ob, os1, os2, h1, h2, h3, h4, h5⟩ := h.focus i hi
  have h1' : ob = none → g (xs.getD i default) = [] := fun e => by simpa using h1 e
  refine ⟨ob, os1, os2, h1', by simpa using h2, h3, h4, fun x' hl => h5 x' (by simpa using hl) fun e => ?_⟩
  have := h1' e
  rw [this] at hl
  simp only [List.length_nil, List.length_eq_zero_iff] at hl
  rw [hl]; rfl

theorem Deep.setSame [Inhabited T] {ts : List PV} {os : List (Nat × Obj')} {xs : List T} {i : Nat} (x' : T) (hx : inn x' = inn (xs.getD i default)) (h : Deep m inn ts os xs) : Deep m inn ts os (xs.set i x') := by
  rcases Nat.lt_or_ge i xs.length with hi | hi
  · obtain ⟨ob, os1, os2, h1, h2, rfl, _, h4⟩ := h.focus i hi
    have := h4 x' (by rw [hx]) (fun e => by rw [hx]; exact h1 e)
    rwa [hx] at this
  · rw [List.set_eq_of_length_le hi]; exact h

theorem deepC_length {ts : List PV} {os : List (Nat × Obj')} {xs : List T} (h : Deep m inn ts os xs) : (deepC cell ts xs).length = xs.length := by
  simp [deepC, h.length]

theorem deepC_get [Inhabited T] {ts : List PV} {xs : List T} {i : Nat} (hl : ts.length = xs.length) (hi : i < xs.length) : (deepC cell ts xs)[i]? = some (cell (ts.getD i .nils) (xs.getD i default)) := by
  have h1 : i < ts.length := by omega
  simp [deepC, List.getElem?_zipWith, h1, hi, List.getD]

theorem deepC_set {ts : List PV} {xs : List T} {i : Nat} {t : PV} {x : T} : (deepC cell ts xs).set i (cell t x) = deepC cell (ts.set i t) (xs.set i x) := by
  apply List.ext_getElem?
  intro j
  simp only [deepC, List.getElem?_set, List.getElem?_zipWith, List.length_zipWith]
  by_cases hij : i = j
  · subst hij
    simp only [if_true]
    by_cases h1 : i < ts.length <;> by_cases h2 : i < xs.length <;> simp [h1, h2, Nat.lt_min, List.getElem?_eq_none (Nat.le_of_not_lt _)] <;> omega
  · simp [hij]

theorem set_getD_self {ts : List PV} {i : Nat} : ts.set i (ts.getD i .nils) = ts := by
  apply List.ext_getElem?
  intro j
  rw [List.getElem?_set]
  split
  · subst_vars
    split
    · rename_i h; simp [h, List.getD]
    · rename_i h; rw [List.getElem?_eq_none (by omega)]
  · rfl

theorem deepC_setX {ts : List PV} {xs : List T} {i : Nat} {x : T} : (deepC cell ts xs).set i (cell (ts.getD i .nils) x) = deepC cell ts (xs.set i x) := by
  rw [deepC_set, set_getD_self]

/-- A turn that the trees do not show. -/
theorem deepC_same [Inhabited T] {ts : List PV} {xs : List T} {i : Nat} {x : T} (hl : ts.length = xs.length) (h : ∀ t, cell t x = cell t (xs.getD i default)) : deepC cell ts xs = deepC cell ts (xs.set i x) := by
  rcases Nat.lt_or_ge i xs.length with hi | hi
  · rw [← deepC_setX, h]
    have := deepC_get (cell := cell) hl hi
    apply List.ext_getElem?
    intro j
    rw [List.getElem?_set]
    split
    · subst_vars
      rename_i hj
      split
      · rw [this]
      · rw [List.getElem?_eq_none (by omega)]
    · rfl
  · rw [List.set_eq_of_length_le hi]

theorem Deep1.good {t : PV} {o : List (Nat × Obj')} {l : List PV} (h : Deep1 m t o l) : t.good 1 = true ∧ t.isAgg 1 = false ∧ t.cellsL = [t] := by
  obtain ⟨ob, _, rfl, _⟩ := h
  cases ob <;> exact ⟨rfl, rfl, rfl⟩

end

theorem Deep.goodAt {T : Type} [Inhabited T] {m : Nat} {inn : T → List PV} {ts : List PV} {os : List (Nat × Obj')} {xs : List T} (i : Nat) (h : Deep m inn ts os xs) (hi : i < xs.length) : (ts.getD i .nils).good 1 = true ∧ (ts.getD i .nils).isAgg 1 = false := by
  obtain ⟨_, _, _, _, h1, _⟩ := h.split i hi
  exact ⟨h1.good.1, h1.good.2.1⟩

/-- Trees of structs, cell by cell. -/
inductive CellsTo (w : World) (S S' : Nat → Nat → Prop) (own own' : Bool) : List PV → List PV → Prop
  | nil : CellsTo w S S' own own' [] []
  | cons {x y : PV} {xs ys : List PV} (h : ∀ u, Rep w S own x u → Rep w S' own' y u) (r : CellsTo w S S' own own' xs ys) : CellsTo w S S' own own' (x :: xs) (y :: ys)

theorem CellsTo.reps {w : World} {S S' : Nat → Nat → Prop} {own own' : Bool} {xs ys : List PV} (h : CellsTo w S S' own own' xs ys) : ∀ {us : List Value}, Reps w S own xs us → Reps w S' own' ys us := by
  induction h with
  | nil => intro us hr; rw [Reps.nil_iff] at hr ⊢; exact hr
  | cons h _ ih => intro us hr; rw [Reps.cons_iff] at hr ⊢; obtain ⟨u, us', e, h1, h2⟩ := hr; exact ⟨u, us', e, h u h1, ih h2⟩

theorem Rep.aggTo {w : World} {S S' : Nat → Nat → Prop} {own own' : Bool} {xs ys : List PV} (h : CellsTo w S S' own own' xs ys) : ∀ v, Rep w S own (.agg xs) v → Rep w S' own' (.agg ys) v := fun v hv => by
  unfold Rep at hv ⊢
  obtain ⟨us, h1, h2, h3⟩ := hv
  exact ⟨us, h1, h2, h.reps h3⟩

/-- What a type of deep elements must keep: the tree of an element is that of its inner slice in place. -/
structure CellOK {T : Type} (n j m : Nat) (inn : T → List PV) (cell : PV → T → PV) : Prop where
  good : ∀ t x, t.good 1 = true → (cell t x).good n = true
  isl : ∀ t x, t.cellsL = [t] → (cell t x).cellsL[j]? = some t
  set : ∀ t t' x, t.isAgg 1 = false → t.good 1 = true → (cell t x).setCell j t' = cell t' x
  no : ∀ τ t x, t.no τ = true → (cell t x).no τ = true
  rep : ∀ (w : World) (S S' : Nat → Nat → Prop) (own own' : Bool) (t t' : PV) (x : T), (∀ u, Rep w S own t u → Rep w S' own' t' u) → ∀ v, Rep w S own (cell t x) v → Rep w S' own' (cell t' x) v

section
variable {Φ : Ctx} {α : AEnv} {K : AEnv → Prop} {o : Oper} {T : Type} {m n jj : Nat} {inn : T → List PV} {cell : PV → T → PV} {ts : List PV} {os : List (Nat × Obj')} {xs : List T}

theorem Keeps.perm {Φ : Ctx} {α : AEnv} (H' : List (Nat × Obj')) (hp : List.Perm α.H H') : Keeps Φ α ⟨α.n, α.E, H'⟩ := by
  rintro a w ⟨S, he⟩
  exact ⟨S, { he with objs := fun b o hb => he.objs b o (hp.mem_iff.2 hb), nodup := (hp.map _).nodup_iff.1 he.nodup }⟩

theorem Keeps.sub {Φ : Ctx} {α : AEnv} (H' : List (Nat × Obj')) (hp : List.Sublist H' α.H) : Keeps Φ α ⟨α.n, α.E, H'⟩ := fun a w he => HeapSub hp he

/-- Forgetting, where the blocks behind are a list by itself. -/
theorem Keeps.mkT {Φ : Ctx} {α : AEnv} {n : Nat} {E : List (Nat × PV)} {A H T T' : List (Nat × Obj')} {ks : List Nat} (hn : α.n = n) (hE : HasAll α.E E) (hA : α.H = A ++ T) (hH : HasI A ks H) (hk : nodupB ks = true) (hs : List.Sublist T' T) : Keeps Φ α ⟨n, E, H ++ T'⟩ := by
  obtain ⟨N, E0, H0⟩ := α
  simp only at hn hE hA
  subst hn hA
  rintro a w ⟨S, he⟩
  have hnd := he.nodup
  simp only [List.map_append, List.nodup_append] at hnd
  refine ⟨S, { he with slots := fun t x hx => he.slots t x (hE.get hx), objs := fun b o hb => he.objs b o ?_, nodup := ?_ }⟩
  · rcases List.mem_append.1 hb with hb | hb
    · obtain ⟨k, _, hk⟩ := hH.mem _ hb
      exact List.mem_append.2 (.inl (List.mem_of_getElem? hk))
    · exact List.mem_append.2 (.inr (hs.subset hb))
  · simp only [List.map_append, List.nodup_append]
    refine ⟨hH.nodup hnd.1 (nodupB_spec hk), hnd.2.1.sublist (hs.map _), fun b hb b' hb' e => ?_⟩
    obtain ⟨p, hp, rfl⟩ := List.mem_map.1 hb
    obtain ⟨k, _, hk⟩ := hH.mem _ hp
    exact hnd.2.2 _ (List.mem_map.2 ⟨p, List.mem_of_getElem? hk, rfl⟩) b' ((hs.map _).subset hb') e

theorem V.keepT {Φ : Ctx} {c : Code} {Q : Exit → AEnv → Prop} {α : AEnv} (N : Nat) (L ks : List Nat) {E0 : List (Nat × PV)} {A H0 T T' : List (Nat × Obj')} (hn : α.n = N) (hE : PickOf α.E L E0) (hA : α.H = A ++ T) (hH : HasI A ks H0) (hk : nodupB ks = true) (hs : List.Sublist T' T) (h : V Φ c Q ⟨N, E0, H0 ++ T'⟩) : V Φ c Q α :=
  V.weakenK (Keeps.mkT hn hE.has hA hH hk hs) h

theorem appEq {A os os' : List (Nat × Obj')} (h : os = os') : A ++ os = A ++ os' := by rw [h]

theorem memTail {γ : Type} {A T : List γ} {p : γ} {H : List γ} (h : p ∈ T) (hH : H = A ++ T) : p ∈ H := by rw [hH]; exact List.mem_append_right _ h

theorem bwTail {H A T os : List (Nat × Obj')} {L : List Nat} (hH : H = A ++ T) (h : ∀ b, b ∈ L → b ∈ A.map Prod.fst) (hs : ∀ p, p ∈ os → p ∈ T) : ∀ b, b ∈ L ++ os.map Prod.fst → b ∈ H.map Prod.fst := fun b hb => by
  subst hH
  rw [List.map_append]
  rcases List.mem_append.1 hb with hb | hb
  · exact List.mem_append_left _ (h b hb)
  · obtain ⟨p, hp, rfl⟩ := List.mem_map.1 hb
    exact List.mem_append_right _ (List.mem_map.2 ⟨p, hs p hp, rfl⟩)

/-- What a call has made goes to the blocks behind. -/
theorem permDeep {p : Nat × Obj'} {os A T : List (Nat × Obj')} : List.Perm ((p :: os) ++ (A ++ T)) ((p :: A) ++ (os ++ T)) := by
  rw [List.cons_append, List.cons_append]
  exact (List.perm_append_comm_assoc os A T).cons p

theorem permDeepO {o os A T : List (Nat × Obj')} : List.Perm ((o ++ os) ++ (A ++ T)) (o ++ (A ++ (os ++ T))) := by
  rw [List.append_assoc]
  exact (List.perm_append_comm_assoc os A T).append_left o

theorem permDeep0 {p : Nat × Obj'} {os A : List (Nat × Obj')} : List.Perm ((p :: os) ++ (A ++ [])) ((p :: A) ++ os) := by
  rw [List.append_nil, List.cons_append, List.cons_append]
  exact List.perm_append_comm.cons p

theorem permDeep1 {p : Nat × Obj'} {os A : List (Nat × Obj')} : List.Perm ((p :: os) ++ A) ((p :: A) ++ os) := by
  rw [List.cons_append, List.cons_append]
  exact List.perm_append_comm.cons p

theorem permDeepO1 {o os A : List (Nat × Obj')} : List.Perm ((o ++ os) ++ A) (o ++ (A ++ os)) := by
  rw [List.append_assoc]
  exact List.perm_append_comm.append_left o

theorem Keeps.dropDeep {Φ : Ctx} {α : AEnv} {A os os1 oi os2 : List (Nat × Obj')} (hA : α.H = A ++ os) (hos : os = os1 ++ (oi ++ os2)) : Keeps Φ α ⟨α.n, α.E, A ++ (os1 ++ ([] ++ os2))⟩ := by
  subst hos
  exact Keeps.sub _ (by rw [hA]; exact ((List.Sublist.refl _).append ((List.Sublist.refl _).append (List.sublist_append_right _ _))))

theorem Keeps.fillDeep {Φ : Ctx} {α : AEnv} {A os1 os2 X : List (Nat × Obj')} (hA : α.H = (A ++ (os1 ++ os2)) ++ X) : Keeps Φ α ⟨α.n, α.E, A ++ (os1 ++ (X ++ os2))⟩ := by
  refine Keeps.perm _ ?_
  rw [hA, List.append_assoc, List.append_assoc]
  exact ((List.perm_append_comm (l₁ := os2) (l₂ := X)).append_left os1).append_left A

theorem Keeps.holeBack {Φ : Ctx} {α : AEnv} {A os1 os2 X : List (Nat × Obj')} (hA : α.H = A ++ (os1 ++ (X ++ os2))) : Keeps Φ α ⟨α.n, α.E, (A ++ (os1 ++ os2)) ++ X⟩ := by
  refine Keeps.perm _ ?_
  rw [hA, List.append_assoc, List.append_assoc]
  exact ((List.perm_append_comm (l₁ := X) (l₂ := os2)).append_left os1).append_left A

theorem V.loopT {Φ : Ctx} {c : Code} {Q : Exit → AEnv → Prop} {α : AEnv} {D : Type} {N : Nat} (dyn : D → List (Nat × PV)) (Hd : D → List (Nat × Obj')) (P : D → Prop) (μ : D → Nat) (d0 : D) {E0 : List (Nat × PV)}
    (hα : α = ⟨N, dyn d0 ++ E0, Hd d0⟩) (hP : P d0)
    (round : ∀ d, P d → V Φ c (thenV (fun α' => ∃ d', P d' ∧ μ d' < μ d ∧ Keeps Φ α' ⟨N, dyn d' ++ E0, Hd d'⟩) Q) ⟨N, dyn d ++ E0, Hd d⟩) : V Φ (.loop c) Q α :=
  V.loopD (fun d => ⟨N, dyn d ++ E0, Hd d⟩) P μ d0 hα hP round

/-- A new inner slice goes to the blocks behind, in its place. -/
theorem Keeps.putDeep {Φ : Ctx} {α : AEnv} (k : Nat) {A A' os os1 oi os2 : List (Nat × Obj')} {p : Nat × Obj'} (hA : α.H = A ++ os) (hos : os = os1 ++ (oi ++ os2)) (hk : A[k]? = some p) (hA' : A.eraseIdx k = A') : Keeps Φ α ⟨α.n, α.E, A' ++ (os1 ++ ([p] ++ os2))⟩ := by
  subst hA' hos
  refine Keeps.trans (Keeps.sub (A ++ (os1 ++ os2)) (by rw [hA]; exact ((List.Sublist.refl _).append ((List.Sublist.refl _).append (List.sublist_append_right _ _))))) (Keeps.perm _ ?_)
  show List.Perm (A ++ (os1 ++ os2)) _
  refine ((perm_erase hk).append_right _).trans ?_
  have : List.Perm (p :: (A.eraseIdx k ++ os1) ++ os2) ((A.eraseIdx k ++ os1) ++ ([p] ++ os2)) := by
    rw [List.cons_append]
    exact (List.perm_middle (l₁ := A.eraseIdx k ++ os1) (l₂ := os2) (a := p)).symm
  simpa [List.append_assoc] using this

/-- An own block goes behind. -/
theorem Keeps.tailPut {Φ : Ctx} {α : AEnv} (k : Nat) {A A' T : List (Nat × Obj')} {p : Nat × Obj'} (hA : α.H = A ++ T) (hk : A[k]? = some p) (hA' : A.eraseIdx k = A') : Keeps Φ α ⟨α.n, α.E, A' ++ (T ++ [p])⟩ := by
  subst hA'
  refine Keeps.perm _ ?_
  rw [hA]
  refine ((perm_erase hk).append_right _).trans ?_
  have := List.perm_append_comm (l₁ := [p]) (l₂ := A.eraseIdx k ++ T)
  simpa [List.append_assoc] using this

/-- A slot that holds an inner slice, told apart. -/
theorem deepNo (hC : CellOK n jj m inn cell) {τ : Nat} (hin : ∀ x, PV.noL τ (inn x) = true) : ∀ {ts : List PV} {os : List (Nat × Obj')} {xs : List T}, Deep m inn ts os xs → PV.noL τ (deepC cell ts xs) = true ∧ ∀ b ob, (b, ob) ∈ os → PV.noL τ ob.xs = true
  | [], os, xs, h => by rw [h.1]; exact ⟨by simp [deepC, PV.noL], fun b ob hb => by cases hb⟩
  | t :: ts, _, _, h => by
    obtain ⟨o, os', x, xs', rfl, rfl, ⟨ob, _, rfl, rfl⟩, h⟩ := h
    obtain ⟨h1, h2⟩ := deepNo hC hin h
    refine ⟨?_, fun b o hb => ?_⟩
    · simp only [deepC, List.zipWith_cons_cons, PV.noL, Bool.and_eq_true]
      exact ⟨hC.no _ _ _ optS_no, h1⟩
    · rcases List.mem_append.1 hb with hb | hb
      · exact optH_no (hin x) b o hb
      · exact h2 b o hb

/-! ### Reading and storing -/
theorem V1.loadDeep [Inhabited T] {d t m' : Nat} {x : Operand} {b i j k : Nat} {p : PV} (ho : o.op = .load t x) (hd : o.dst = some d)
    (ht : tyk Φ.P t = some (false, m')) (hx : aeval α x = some (.ref b n i j)) (hb : α.H[k]? = some (b, ⟨n, deepC cell ts xs⟩)) (hD : Deep m inn ts os xs) (hi : i < xs.length) (hp : (cell (ts.getD i .nils) (xs.getD i default)).cellsL[j]? = some p) (hn : d < α.n)
    (hk : K (α.put d p)) : V1 Φ o α K :=
  V1.loadRef (k := k) ho hd ht hx hb rfl (deepC_get hD.length hi) hp hn hk

theorem V1.loadDeepIn [Inhabited T] (hC : CellOK n jj m inn cell) {d t m' : Nat} {x : Operand} {b i k : Nat} (ho : o.op = .load t x) (hd : o.dst = some d)
    (ht : tyk Φ.P t = some (false, m')) (hx : aeval α x = some (.ref b n i jj)) (hb : α.H[k]? = some (b, ⟨n, deepC cell ts xs⟩)) (hD : Deep m inn ts os xs) (hi : i < xs.length) (hn : d < α.n)
    (hk : K (α.put d (ts.getD i .nils))) : V1 Φ o α K := by
  obtain ⟨_, oi, _, _, h1, _⟩ := hD.split i hi
  exact V1.loadDeep (k := k) ho hd ht hx hb hD hi (hC.isl _ _ h1.good.2.2) hn hk

/-- A store of a cell that is no slice. -/
theorem V1.storeDeepCell [Inhabited T] (hC : CellOK n jj m inn cell) {t : Nat} {ax vx : Operand} {b i j k : Nat} (x' : T) {p : PV} (ho : o.op = .store t ax vx) (hd : o.dst = none)
    (ht : tyk Φ.P t = some (false, 1)) (ha : aeval α ax = some (.ref b n i j)) (hb : α.H[k]? = some (b, ⟨n, deepC cell ts xs⟩)) (hD : Deep m inn ts os xs) (hi : i < xs.length) (hv : aeval α vx = some p)
    (hp : p.good 1 = true) (hp' : p.isAgg 1 = false) (hj : Nat.blt j n = true) (hx : ∀ t, (cell t (xs.getD i default)).setCell j p = cell t x')
    (hk : K ⟨α.n, α.E, α.H.set k (b, ⟨n, deepC cell ts (xs.set i x')⟩)⟩) : V1 Φ o α K := by
  obtain ⟨_, oi, _, _, h1, _⟩ := hD.split i hi
  refine V1.storeRef (k := k) ho hd ht ha hv hb rfl (deepC_get hD.length hi) hp hp' (hC.good _ _ h1.good.1) hj ?_
  rw [hx]
  show K ⟨α.n, α.E, α.H.set k (b, ⟨n, (deepC cell ts xs).set i (cell (ts.getD i .nils) x')⟩)⟩
  rw [deepC_setX]; exact hk

/-- A store of an inner slice. -/
theorem V1.storeDeepIn [Inhabited T] (hC : CellOK n jj m inn cell) {t : Nat} {ax vx : Operand} {b i k : Nat} (x' : T) {p : PV} (ho : o.op = .store t ax vx) (hd : o.dst = none)
    (ht : tyk Φ.P t = some (false, 1)) (ha : aeval α ax = some (.ref b n i jj)) (hb : α.H[k]? = some (b, ⟨n, deepC cell ts xs⟩)) (hl : ts.length = xs.length) (hg : (ts.getD i .nils).good 1 = true ∧ (ts.getD i .nils).isAgg 1 = false) (hi : i < xs.length) (hv : aeval α vx = some p)
    (hp : p.good 1 = true) (hp' : p.isAgg 1 = false) (hj : Nat.blt jj n = true) (hx : cell p (xs.getD i default) = cell p x')
    (hk : K ⟨α.n, α.E, α.H.set k (b, ⟨n, deepC cell (ts.set i p) (xs.set i x')⟩)⟩) : V1 Φ o α K := by
  refine V1.storeRef (k := k) ho hd ht ha hv hb rfl (deepC_get hl hi) hp hp' (hC.good _ _ hg.1) hj ?_
  rw [hC.set _ _ _ hg.2 hg.1, hx]
  show K ⟨α.n, α.E, α.H.set k (b, ⟨n, (deepC cell ts xs).set i (cell p x')⟩)⟩
  rw [deepC_set]; exact hk

/-- A store of a whole element. -/
theorem V1.storeDeepAll [Inhabited T] (hC : CellOK n jj m inn cell) {t : Nat} {g : Bool} {ax vx : Operand} {b i k : Nat} (x' : T) (t' : PV) (ho : o.op = .store t ax vx) (hd : o.dst = none)
    (ht : tyk Φ.P t = some (g, n)) (ha : aeval α ax = some (.ref b n i 0)) (hb : α.H[k]? = some (b, ⟨n, deepC cell ts xs⟩)) (hl : ts.length = xs.length) (hi : i < xs.length) (hv : aeval α vx = some (cell t' x'))
    (hg : t'.good 1 = true) (hk : K ⟨α.n, α.E, α.H.set k (b, ⟨n, deepC cell (ts.set i t') (xs.set i x')⟩)⟩) : V1 Φ o α K := by
  refine V1.storeRefAll (k := k) ho hd ht ha hv hb rfl (deepC_get hl hi) (hC.good _ _ hg) ?_
  show K ⟨α.n, α.E, α.H.set k (b, ⟨n, (deepC cell ts xs).set i (cell t' x')⟩)⟩
  rw [deepC_set]; exact hk

/-- A row of elements with nil slices. -/
theorem V1.makeDeep {d t e : Nat} {lx cx : Operand} {z : T} {kl kc : IntKind} {a c : Int} (ho : o.op = .makeSlice t lx cx) (hd : o.dst = some d)
    (ht : elemSz Φ.P t = some (e, n)) (hby : elemBy Φ.P t = true) (hz : zeroK Φ.P e = some (n, cell .nils z)) (hl : aeval α lx = some (.int kl a)) (hc : aeval α cx = some (.int kc c)) (h : 0 ≤ a ∧ a ≤ c ∧ c ≤ 2147483648)
    (h3 : Nat.blt 0 n = true) (hn : d < α.n) (hk : ∀ b, K ⟨α.n, (d, .sref b n 0 (List.replicate a.toNat z).length) :: α.E, (b, ⟨n, deepC cell (List.replicate a.toNat .nils) (List.replicate a.toNat z)⟩) :: α.H⟩) : V1 Φ o α K := by
  refine V1.makeSlice ho hd ht hby hz hl hc h.1 h.2.1 h.2.2 h3 hn fun b => ?_
  have := hk b
  rw [List.length_replicate] at this
  rwa [show deepC cell (List.replicate a.toNat .nils) (List.replicate a.toNat z) = List.replicate a.toNat (cell .nils z) from ?_] at this
  simp [deepC, List.zipWith_replicate]

/-! ### Lending -/
theorem Lend.deep (hC : CellOK n jj m inn cell) {τ : Nat} {Bw : List Nat} (k : Nat) {b : Nat} (hD : Deep m inn ts os xs) (hm : Nat.blt 0 m = true) (hro : ∀ x, PV.roL (inn x) = true) (hb : α.H[k]? = some (b, ⟨n, deepC cell ts xs⟩)) (hos : ∀ p, p ∈ os → p ∈ α.H)
    (hbw : b ∈ Bw) (hbw' : ∀ p, p ∈ os → p.1 ∈ Bw) : Lend α τ Bw (.sref b n 0 xs.length) (.vl τ n (xs.map fun x => cell (.vl τ m (inn x)) x)) := by
  intro Φ S a w v he h
  obtain ⟨hn, c, us, ⟨Ty, fz, hc, _⟩, hl, hg, hr, hcells⟩ := (he.objK hb).1
  have hlen := hr.length
  rw [deepC_length hD] at hlen
  -- the inner ones
  have hin : ∀ (ts : List PV) (os : List (Nat × Obj')) (xs : List T) (us : List Value), Deep m inn ts os xs → (∀ p, p ∈ os → p ∈ α.H) → (∀ p, p ∈ os → p.1 ∈ Bw) → Reps w S true (deepC cell ts xs) us →
      Reps w (fun ρ b => S ρ b ∨ (ρ = τ ∧ b ∈ Bw)) false (xs.map fun x => cell (.vl τ m (inn x)) x) us := by
    intro ts
    induction ts with
    | nil => intro os xs us hD _ _ hr; rw [hD.2] at hr ⊢; simpa [deepC, Reps] using hr
    | cons t ts ih =>
      intro os xs us hD ho hw hr
      obtain ⟨o1, os', x, xs', rfl, rfl, ⟨ob, h1, rfl, rfl⟩, hD⟩ := hD
      simp only [deepC, List.zipWith_cons_cons] at hr
      rw [Reps.cons_iff] at hr
      obtain ⟨u, us', rfl, hu, hus⟩ := hr
      rw [List.map_cons, Reps.cons_iff]
      refine ⟨u, us', rfl, ?_, ih os' xs' us' hD (fun p hp => ho p (by simp [hp])) (fun p hp => hw p (by simp [hp])) hus⟩
      refine hC.rep w S _ true false _ _ x (fun u' hu' => ?_) u hu
      cases ob with
      | none =>
        rw [h1 rfl]
        have e := hu'
        simp only [optS] at e
        unfold Rep at e
        subst e
        unfold Rep
        exact ⟨ltb hm, [], by simp, by simp [Reps], .inl ⟨rfl, none, 0, rfl⟩⟩
      | some b' =>
        have hm' := ho (b', ⟨m, inn x⟩) (by simp [optH])
        obtain ⟨k', hk'⟩ := List.getElem?_of_mem hm'
        have := Rep.srefVl (S' := fun ρ b => S ρ b ∨ (ρ = τ ∧ b ∈ Bw)) (τ := τ) (own := false) he hk' rfl (off := 0) (len := (inn x).length) (by simp) (hro x) (fun _ _ h => .inl h) (.inr ⟨rfl, hw (b', ⟨m, inn x⟩) (by simp [optH])⟩) hu'
        simpa using this
  have hr' := hin ts os xs us hD hos hbw' hr
  unfold Rep at h ⊢
  refine ⟨hn, us, hg, hr', ?_⟩
  rcases h.2 with ⟨h0, ⟨a', rfl⟩, _⟩ | ⟨cap, c', rfl, hcap, hb', hfit'⟩
  · have : us = [] := List.length_eq_zero_iff.1 (by rw [hlen]; exact h0)
    exact .inl ⟨this, a', 0, rfl⟩
  · refine .inr ⟨b, 0 * n, cap, .inr ⟨rfl, hbw⟩, by rw [hlen], by omega, fun i u hu j hj => ?_⟩
    rw [(hg u (List.mem_of_getElem? hu)).1] at hj
    have := hcells i u hu j hj
    simp only [World.cell?, hc]
    simpa using this

/-- A call that turns a deep list. -/
theorem V1.callDT {d f : Nat} {c : Call} {ps : List PV} (k : Nat) {A A' T0 os T : List (Nat × Obj')} {p : Nat × Obj'} {rn : Nat} {R : PV → List (Nat × Obj') → Prop} (ho : o.op = .call c) (hc : c.callee = .value (.func f)) (hd : o.dst = some d) (hok : callOK Φ.P f = true)
    (hps : argsPV α c.args.toList = some ps) (hH : α.H = A ++ T0) (hT : List.Perm T0 (os ++ T)) (hk0 : A[k]? = some p) (hA' : A.eraseIdx k = A') (τ : Nat) (Bw : List Nat) (qs : List PV) (hl : Lends α τ Bw ps qs) (hbw : ∀ b, b ∈ Bw → b ∈ (A' ++ T).map Prod.fst) (hF : Does Φ.P f qs (p :: os) rn R) (hrn : rn = Φ.rn)
    (hno : Bw = [] ∨ (τ ≠ rn ∧ ∀ x H', R x H' → x.no τ = true ∧ ∀ b ob, (b, ob) ∈ H' → PV.noL τ ob.xs = true)) (hn : d < α.n)
    (hk : ∀ x H', R x H' → K ⟨α.n, (d, x) :: α.E, H' ++ (A' ++ T)⟩) : V1 Φ o α K := by
  subst hA'
  refine V1.callG hd hn (run_call ho hc hok hps) ?_ hl hbw hF (.inl hrn) hno hk
  rw [hH]
  refine ((perm_erase hk0).append hT).trans ?_
  rw [List.cons_append, List.cons_append]
  exact (List.perm_append_comm_assoc (A.eraseIdx k) os T).cons p

/-- A call that turns the inner slice of one element. -/
theorem V1.callD {d f : Nat} {c : Call} {ps : List PV} {A os1 os2 Hc : List (Nat × Obj')} {rn : Nat} {R : PV → List (Nat × Obj') → Prop} (ho : o.op = .call c) (hc : c.callee = .value (.func f)) (hd : o.dst = some d) (hok : callOK Φ.P f = true)
    (hps : argsPV α c.args.toList = some ps) (hH : α.H = A ++ (os1 ++ (Hc ++ os2))) (τ : Nat) (Bw : List Nat) (qs : List PV) (hl : Lends α τ Bw ps qs) (hbw : ∀ b, b ∈ Bw → b ∈ (A ++ (os1 ++ os2)).map Prod.fst) (hF : Does Φ.P f qs Hc rn R) (hrn : rn = Φ.rn)
    (hno : Bw = [] ∨ (τ ≠ rn ∧ ∀ x H', R x H' → x.no τ = true ∧ ∀ b ob, (b, ob) ∈ H' → PV.noL τ ob.xs = true)) (hn : d < α.n)
    (hk : ∀ x H', R x H' → K ⟨α.n, (d, x) :: α.E, A ++ (os1 ++ (H' ++ os2))⟩) : V1 Φ o α K := by
  have p1 : ∀ X : List (Nat × Obj'), List.Perm (A ++ (os1 ++ (X ++ os2))) (X ++ (A ++ (os1 ++ os2))) := fun X => by
    rw [← List.append_assoc, ← List.append_assoc A]
    refine List.Perm.trans ?_ (List.perm_append_comm_assoc (A ++ os1) X os2)
    exact .refl _
  refine V1.permK (V1.callG hd hn (run_call ho hc hok hps) (by rw [hH]; exact p1 Hc) hl hbw hF (.inl hrn) hno fun x H' hR => ?_)
  exact ⟨_, hk x H' hR, Keeps.perm _ (p1 H').symm⟩

/-- The same, what it gives standing ahead (a slice that is stored later). -/
theorem V1.callE {d f : Nat} {c : Call} {ps : List PV} {A os1 os2 Hc : List (Nat × Obj')} {rn : Nat} {R : PV → List (Nat × Obj') → Prop} (ho : o.op = .call c) (hc : c.callee = .value (.func f)) (hd : o.dst = some d) (hok : callOK Φ.P f = true)
    (hps : argsPV α c.args.toList = some ps) (hH : α.H = A ++ (os1 ++ (Hc ++ os2))) (τ : Nat) (Bw : List Nat) (qs : List PV) (hl : Lends α τ Bw ps qs) (hbw : ∀ b, b ∈ Bw → b ∈ (A ++ (os1 ++ os2)).map Prod.fst) (hF : Does Φ.P f qs Hc rn R) (hrn : rn = Φ.rn)
    (hno : Bw = [] ∨ (τ ≠ rn ∧ ∀ x H', R x H' → x.no τ = true ∧ ∀ b ob, (b, ob) ∈ H' → PV.noL τ ob.xs = true)) (hn : d < α.n)
    (hk : ∀ x H', R x H' → K ⟨α.n, (d, x) :: α.E, H' ++ (A ++ (os1 ++ os2))⟩) : V1 Φ o α K := by
  have p1 : ∀ X : List (Nat × Obj'), List.Perm (A ++ (os1 ++ (X ++ os2))) (X ++ (A ++ (os1 ++ os2))) := fun X => by
    rw [← List.append_assoc, ← List.append_assoc A]
    refine List.Perm.trans ?_ (List.perm_append_comm_assoc (A ++ os1) X os2)
    exact .refl _
  exact V1.callG hd hn (run_call ho hc hok hps) (by rw [hH]; exact p1 Hc) hl hbw hF (.inl hrn) hno hk

/-- A row of one own slice. -/
theorem V1.buildDeep {d t e n len : Nat} {parts : Array (Nat × Operand)} {z p : PV} {ps : List (Nat × PV)} (ho : o.op = .buildSlice t len parts) (hd : o.dst = some d)
    (ht : elemSz Φ.P t = some (e, n)) (hz : zeroK Φ.P e = some (n, z)) (hps : partsPV α parts.toList = some ps) (hidx : (ps.map Prod.fst) = List.range len) (hg : ps.all (fun x => x.2.good n) = true)
    (h0 : Nat.blt 0 n = true) (hsz : Nat.ble (len * n) 16777216 = true) (hxs : ps.map Prod.snd = [p]) (hlen : len = 1) (hn : d < α.n)
    (hk : ∀ b, K ⟨α.n, (d, .sref b n 0 1) :: α.E, (b, ⟨n, [p]⟩) :: α.H⟩) : V1 Φ o α K := by
  refine V1.buildSlice ho hd ht hz hps hidx hg h0 hsz hn fun b => ?_
  rw [hxs, hlen]; exact hk b

/-- One deep list behind another. -/
theorem V1.appendDD {d t u e n : Nat} {c : Call} {sx xx : Operand} {b b2 k k2 : Nat} {z : PV} {ts2 : List PV} {xs2 : List T} (ho : o.op = .call c) (hc : c.callee = .builtin .append) (hca : c.args = #[sx, xx]) (hct : c.argTypes = #[t, u]) (hd : o.dst = some d)
    (ht : elemSz Φ.P t = some (e, n)) (hby : elemBy Φ.P t = true) (hz : zeroK Φ.P e = some (n, z)) (hs : aeval α sx = some (.sref b n 0 xs.length)) (hb : α.H[k]? = some (b, ⟨n, deepC cell ts xs⟩)) (hl : ts.length = xs.length)
    (hx : aeval α xx = some (.sref b2 n 0 xs2.length)) (hb2 : α.H[k2]? = some (b2, ⟨n, deepC cell ts2 xs2⟩)) (hl2 : ts2.length = xs2.length) (hu : isSl Φ.P u = true) (hfit : (xs.length : Int) + (xs2.length : Int) ≤ 2147483648) (hn : d < α.n)
    (hk : ∀ b', K ⟨α.n, (d, .sref b' n 0 (xs ++ xs2).length) :: α.E, (b', ⟨n, deepC cell (ts ++ ts2) (xs ++ xs2)⟩) :: α.H.eraseIdx k⟩) : V1 Φ o α K := by
  have e1 : (deepC cell ts xs).length = xs.length := by simp [deepC, hl]
  have e2 : (deepC cell ts2 xs2).length = xs2.length := by simp [deepC, hl2]
  refine V1.append (k := k) ho hc hca hct hd ht hby hz hs hb rfl e1 hx (SrcOf.srefAll hb2 rfl e2 hu) (by rw [e2]; omega) hn fun b' => ?_
  have := hk b'
  rw [List.length_append] at this
  rw [e2]
  rwa [show deepC cell (ts ++ ts2) (xs ++ xs2) = deepC cell ts xs ++ deepC cell ts2 xs2 from ?_] at this
  exact List.zipWith_append hl

theorem V1.appendND {d t u e n : Nat} {c : Call} {sx xx : Operand} {b2 k2 : Nat} {z : PV} {ts2 : List PV} {xs2 : List T} (ho : o.op = .call c) (hc : c.callee = .builtin .append) (hca : c.args = #[sx, xx]) (hct : c.argTypes = #[t, u]) (hd : o.dst = some d)
    (ht : elemSz Φ.P t = some (e, n)) (hby : elemBy Φ.P t = true) (hz : zeroK Φ.P e = some (n, z)) (h0n : Nat.blt 0 n = true) (hs : aeval α sx = some .nils) (hxs : xs = [])
    (hx : aeval α xx = some (.sref b2 n 0 xs2.length)) (hb2 : α.H[k2]? = some (b2, ⟨n, deepC cell ts2 xs2⟩)) (hl2 : ts2.length = xs2.length) (hu : isSl Φ.P u = true) (h0 : 0 < xs2.length) (hfit : (xs.length : Int) + (xs2.length : Int) ≤ 2147483648) (hn : d < α.n)
    (hk : ∀ b', K ⟨α.n, (d, .sref b' n 0 (xs ++ xs2).length) :: α.E, (b', ⟨n, deepC cell ts2 (xs ++ xs2)⟩) :: α.H⟩) : V1 Φ o α K := by
  subst hxs
  have e2 : (deepC cell ts2 xs2).length = xs2.length := by simp [deepC, hl2]
  refine V1.appendNil ho hc hca hct hd ht hby hz h0n (.inl hs) hx (SrcOf.srefAll hb2 rfl e2 hu) (by show 0 < (deepC cell ts2 xs2).length; rw [e2]; exact h0) (by show (deepC cell ts2 xs2).length ≤ _; rw [e2]; simp at hfit; omega) hn fun b' => ?_
  show K ⟨α.n, (d, .sref b' n 0 (deepC cell ts2 xs2).length) :: α.E, _⟩
  rw [e2]; exact hk b'
end

/-- Rows of rows. -/
abbrev cellRow {β : Type} (t : PV) (l : List β) : PV := t
theorem cokRow {β : Type} (m : Nat) (f : β → PV) : CellOK 1 0 m (fun l : List β => List.map f l) cellRow where
  good := fun t x h => h
  isl := fun t x h => by show t.cellsL[0]? = _; rw [h]; rfl
  set := fun t t' x h h' => by
    show t.setCell 0 t' = t'
    cases t <;> simp_all [PV.setCell, PV.isAgg, PV.good]
  no := fun τ t x h => h
  rep := fun w S S' own own' t t' x h v hv => h v hv
end Go.VS
