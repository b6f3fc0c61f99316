/-
  Walks in a graph: breadth first, depth first. Plain.
-/
import Derived.Test.YteocnbeefedbkaaDoorTc
set_option linter.unusedSimpArgs false
set_option linter.unusedVariables false
namespace Go.Proofs.YteocnbeefedbkaaDoor
open Go.VS

/-! ### Lists -/
theorem nodup_le : ∀ {S T : List Int}, S.Nodup → (∀ x ∈ S, x ∈ T) → S.length ≤ T.length
  | [], _, _, _ => Nat.zero_le _
  | x :: S, T, h, hs => by
    obtain ⟨h1, h2⟩ := List.nodup_cons.1 h
    have hx := hs x (by simp)
    have := nodup_le (S := S) (T := T.erase x) h2 (fun y hy => (List.mem_erase_of_ne (fun e => h1 (by rw [← e]; exact hy))).2 (hs y (by simp [hy])))
    have hl := List.length_erase_of_mem hx
    have : 0 < T.length := List.length_pos_of_mem hx
    simp only [List.length_cons]
    omega
theorem findSome_bind {β γ : Type} (g : β → Option γ) : ∀ L : List β, L.findSome? g = (L.find? fun p => (g p).isSome).bind g
  | [] => rfl
  | x :: L => by
    rw [List.findSome?_cons, List.find?_cons]
    cases h : g x with
    | none => simpa using findSome_bind g L
    | some y => simp [h]
theorem find_flat {β γ : Type} (f : β → List γ) (q : γ → Bool) : ∀ L : List β, (L.flatMap f).find? q = L.findSome? fun p => (f p).find? q
  | [] => rfl
  | x :: L => by
    rw [List.flatMap_cons, List.find?_append, List.findSome?_cons, find_flat f q L]
    cases (f x).find? q <;> rfl
theorem findSome_through {β γ δ : Type} (f : β → Option γ) (G : γ → Option δ) (h : ∀ w p, f w = some p → (G p).isSome = true) : ∀ L : List β, (L.findSome? f).bind G = L.findSome? fun w => (f w).bind G
  | [] => rfl
  | x :: L => by
    rw [List.findSome?_cons, List.findSome?_cons]
    cases hx : f x with
    | none => simpa using findSome_through f G h L
    | some p =>
      have := h x p hx
      cases hg : G p with
      | none => rw [hg] at this; cases this
      | some q => simp [hg]
theorem findSome_congr {β γ : Type} {f g : β → Option γ} {L : List β} (h : ∀ x ∈ L, f x = g x) : L.findSome? f = L.findSome? g := by
  induction L with
  | nil => rfl
  | cons x L ih =>
    rw [List.findSome?_cons, List.findSome?_cons, h x (by simp), ih (fun y hy => h y (by simp [hy]))]

/-! ### Walks -/
def lst (p : List Int) : Int := p.getD (p.length - 1) default
theorem lst_snoc (p : List Int) (w : Int) : lst (p ++ [w]) = w := by unfold lst; simp [List.getD]
theorem lst_cons {p : List Int} (v : Int) (h : p ≠ []) : lst (v :: p) = lst p := by
  cases p with
  | nil => exact absurd rfl h
  | cons x p => unfold lst; simp [List.getD]
def fnd (L : List (List Int)) (Q : Int → Bool) : Option (List Int) := L.find? fun p => Q (lst p)
theorem fnd_spec {L : List (List Int)} {Q : Int → Bool} {p : List Int} (h : fnd L Q = some p) : p ∈ L ∧ Q (lst p) = true := ⟨List.mem_of_find?_eq_some h, by simpa using List.find?_some h⟩
theorem fnd_none {L : List (List Int)} {Q : Int → Bool} : fnd L Q = none ↔ ∀ p ∈ L, Q (lst p) = false := by
  unfold fnd; rw [List.find?_eq_none]; simp

section
variable (N : Int → List Int)
def cand (P : List (List Int)) : List (List Int) := P.flatMap fun p => (N (lst p)).map fun w => p ++ [w]
def walks (u : Int) : Nat → List (List Int)
  | 0 => [[u]]
  | k + 1 => cand N (walks u k)
def Rch (u : Int) (k : Nat) (x : Int) : Prop := ∃ p ∈ walks N u k, lst p = x

theorem cand_mem {P : List (List Int)} {q : List Int} : q ∈ cand N P ↔ ∃ p ∈ P, ∃ w ∈ N (lst p), q = p ++ [w] := by
  unfold cand
  simp only [List.mem_flatMap, List.mem_map]
  constructor
  · rintro ⟨p, hp, w, hw, rfl⟩; exact ⟨p, hp, w, hw, rfl⟩
  · rintro ⟨p, hp, w, hw, rfl⟩; exact ⟨p, hp, w, hw, rfl⟩
theorem Rch.next {N : Int → List Int} {u : Int} {k : Nat} {x w : Int} (h : Rch N u k x) (hw : w ∈ N x) : Rch N u (k + 1) w := by
  obtain ⟨p, hp, rfl⟩ := h
  exact ⟨p ++ [w], (cand_mem N).2 ⟨p, hp, w, hw, rfl⟩, lst_snoc p w⟩
theorem Rch.zero {N : Int → List Int} {u : Int} : Rch N u 0 u := ⟨[u], by simp [walks], rfl⟩
theorem Rch.closed {N : Int → List Int} {u : Int} {S : List Int} (hu : u ∈ S) (hc : ∀ x ∈ S, ∀ w ∈ N x, w ∈ S) : ∀ (k : Nat) (x : Int), Rch N u k x → x ∈ S
  | 0, x, h => by
    obtain ⟨p, hp, rfl⟩ := h
    simp only [walks, List.mem_singleton] at hp
    subst hp; exact hu
  | k + 1, x, h => by
    obtain ⟨p, hp, rfl⟩ := h
    obtain ⟨q, hq, w, hw, rfl⟩ := (cand_mem N).1 hp
    rw [lst_snoc]
    exact hc _ (Rch.closed hu hc k _ ⟨q, hq, rfl⟩) w hw
theorem walks_len {u : Int} : ∀ (k : Nat), ∀ p ∈ walks N u k, p.length = k + 1
  | 0, p, h => by simp only [walks, List.mem_singleton] at h; rw [h]; rfl
  | k + 1, p, h => by
    obtain ⟨q, hq, w, hw, rfl⟩ := (cand_mem N).1 h
    have := walks_len k q hq
    simp only [List.length_append, List.length_cons, List.length_nil]; omega
theorem walks_edge {u : Int} : ∀ (k : Nat), ∀ p ∈ walks N u k, ∀ j, j + 1 < p.length → p.getD (j + 1) default ∈ N (p.getD j default)
  | 0, p, h, j, hj => by simp only [walks, List.mem_singleton] at h; rw [h] at hj; simp at hj
  | k + 1, p, h, j, hj => by
    obtain ⟨q, hq, w, hw, rfl⟩ := (cand_mem N).1 h
    have hl := walks_len N k q hq
    simp only [List.length_append, List.length_cons, List.length_nil] at hj
    rcases Nat.lt_or_ge (j + 1) q.length with h1 | h1
    · have := walks_edge k q hq j h1
      rw [List.getD_eq_getElem?_getD, List.getD_eq_getElem?_getD, List.getElem?_append_left h1, List.getElem?_append_left (by omega), ← List.getD_eq_getElem?_getD, ← List.getD_eq_getElem?_getD]
      exact this
    · have e1 : j + 1 = q.length := by omega
      have e2 : (q ++ [w]).getD (j + 1) default = w := by rw [e1]; simp [List.getD]
      have e3 : (q ++ [w]).getD j default = lst q := by
        rw [List.getD_eq_getElem?_getD, List.getElem?_append_left (by omega), ← List.getD_eq_getElem?_getD]
        unfold lst
        rw [show q.length - 1 = j by omega]
      rw [e2, e3]; exact hw

theorem map_find (p : List Int) (Q : Int → Bool) : ∀ L : List Int, fnd (L.map fun w => p ++ [w]) Q = (L.find? Q).map fun w => p ++ [w]
  | [] => rfl
  | w :: L => by
    have ih := map_find p Q L
    unfold fnd at ih ⊢
    rw [List.map_cons, List.find?_cons, List.find?_cons, lst_snoc, ih]
    cases Q w <;> rfl
def G (Q : Int → Bool) (p : List Int) : Option (List Int) := ((N (lst p)).find? Q).map fun w => p ++ [w]
theorem G_some {Q : Int → Bool} {p : List Int} : (G N Q p).isSome = (N (lst p)).any Q := by
  unfold G
  rw [Option.isSome_map]
  cases h : (N (lst p)).find? Q with
  | none =>
    rw [List.find?_eq_none] at h
    rw [eq_comm, Option.isSome_none, List.any_eq_false]
    exact h
  | some w =>
    have h1 := List.mem_of_find?_eq_some h
    have h2 := List.find?_some h
    rw [eq_comm, Option.isSome_some, List.any_eq_true]
    exact ⟨w, h1, h2⟩
theorem cand_find (P : List (List Int)) (Q : Int → Bool) : fnd (cand N P) Q = (fnd P fun x => (N x).any Q).bind (G N Q) := by
  unfold cand
  have h1 : fnd (P.flatMap fun p => (N (lst p)).map fun w => p ++ [w]) Q = P.findSome? (G N Q) := by
    unfold fnd
    rw [find_flat]
    exact findSome_congr fun p _ => map_find p Q (N (lst p))
  rw [h1, findSome_bind]
  unfold fnd
  simp only [G_some]

/-! ### Depth first -/
def dfsQ (Q : Int → Bool) : Nat → Int → Option (List Int)
  | 0, v => if Q v = true then some [v] else none
  | k + 1, v => (N v).findSome? fun w => (dfsQ Q k w).map (v :: ·)
theorem dfsQ_some {Q : Int → Bool} : ∀ (k : Nat) (v : Int) (p : List Int), dfsQ N Q k v = some p → p ≠ [] ∧ Q (lst p) = true ∧ p.length = k + 1
  | 0, v, p, h => by
    unfold dfsQ at h
    split at h
    · cases h; exact ⟨by simp, by assumption, rfl⟩
    · cases h
  | k + 1, v, p, h => by
    unfold dfsQ at h
    obtain ⟨w, hw, h1⟩ := List.exists_of_findSome?_eq_some h
    cases hq : dfsQ N Q k w with
    | none => rw [hq] at h1; cases h1
    | some q =>
      rw [hq] at h1
      cases h1
      obtain ⟨k1, k2, k3⟩ := dfsQ_some k w q hq
      exact ⟨by simp, by rw [lst_cons v k1]; exact k2, by simp [k3]⟩
theorem G_cons {Q : Int → Bool} (v : Int) {p : List Int} (h : p ≠ []) : G N Q (v :: p) = (G N Q p).map (v :: ·) := by
  unfold G
  rw [lst_cons v h]
  cases (N (lst p)).find? Q <;> rfl
theorem dfs_step (Q : Int → Bool) : ∀ (k : Nat) (v : Int), dfsQ N Q (k + 1) v = (dfsQ N (fun x => (N x).any Q) k v).bind (G N Q)
  | 0, v => by
    show ((N v).findSome? fun w => (if Q w = true then some [w] else none).map (v :: ·)) = (if (N v).any Q = true then some [v] else none).bind (G N Q)
    have e : ∀ L : List Int, (L.findSome? fun w => (if Q w = true then some [w] else none).map (v :: ·)) = (L.find? Q).map fun w => [v] ++ [w] := by
      intro L
      induction L with
      | nil => rfl
      | cons w L ih =>
        rw [List.findSome?_cons, List.find?_cons, ih]
        cases h : Q w <;> simp
    rw [e]
    by_cases ha : (N v).any Q = true
    · rw [if_pos ha]; rfl
    · rw [if_neg ha]
      have : (N v).find? Q = none := by
        rw [List.find?_eq_none]
        intro x hx hq
        exact ha (List.any_eq_true.2 ⟨x, hx, hq⟩)
      rw [this]; rfl
  | k + 1, v => by
    show ((N v).findSome? fun w => (dfsQ N Q (k + 1) w).map (v :: ·)) = ((N v).findSome? fun w => (dfsQ N (fun x => (N x).any Q) k w).map (v :: ·)).bind (G N Q)
    rw [findSome_through]
    · refine findSome_congr fun w _ => ?_
      rw [dfs_step Q k w]
      cases hp : dfsQ N (fun x => (N x).any Q) k w with
      | none => rfl
      | some p =>
        obtain ⟨k1, _, _⟩ := dfsQ_some N k w p hp
        show (G N Q p).map (v :: ·) = G N Q (v :: p)
        rw [G_cons N v k1]
    · intro w p hp
      cases hq : dfsQ N (fun x => (N x).any Q) k w with
      | none => rw [hq] at hp; cases hp
      | some q =>
        rw [hq] at hp
        cases hp
        obtain ⟨k1, k2, _⟩ := dfsQ_some N k w q hq
        rw [G_some, lst_cons v k1]
        exact k2
theorem dfs_walks (v : Int) : ∀ (k : Nat) (Q : Int → Bool), dfsQ N Q k v = fnd (walks N v k) Q
  | 0, Q => by
    show (if Q v = true then some [v] else none) = fnd [[v]] Q
    unfold fnd
    rw [List.find?_cons]
    show _ = (match Q v with | true => some [v] | false => List.find? _ [])
    cases Q v <;> rfl
  | k + 1, Q => by
    rw [dfs_step, dfs_walks v k]
    exact (cand_find N (walks N v k) Q).symm

/-! ### Breadth first -/
def addN (st : List Int × List (List Int)) (q : List Int) : List Int × List (List Int) := if lst q ∈ st.1 then st else (st.1 ++ [lst q], st.2 ++ [q])
theorem fnd_app (a b : List (List Int)) (Q : Int → Bool) : fnd (a ++ b) Q = (fnd a Q).or (fnd b Q) := by unfold fnd; rw [List.find?_append]
theorem fold_find (Q : Int → Bool) : ∀ (C : List (List Int)) (seen : List Int) (next : List (List Int)), (∀ x ∈ seen, Q x = true → (fnd next Q).isSome = true) → fnd (C.foldl addN (seen, next)).2 Q = (fnd next Q).or (fnd C Q)
  | [], seen, next, _ => by show fnd next Q = (fnd next Q).or none; rw [Option.or_none]
  | q :: C, seen, next, h => by
    rw [List.foldl_cons]
    have e0 : fnd (q :: C) Q = (fnd [q] Q).or (fnd C Q) := fnd_app [q] C Q
    have e1 : fnd [q] Q = if Q (lst q) = true then some q else none := by
      unfold fnd
      rw [List.find?_cons]
      cases hq : Q (lst q) <;> simp
    by_cases hm : lst q ∈ seen
    · have : addN (seen, next) q = (seen, next) := if_pos hm
      rw [this, fold_find Q C seen next h, e0, e1]
      by_cases hq : Q (lst q) = true
      · have := h _ hm hq
        cases hn : fnd next Q with
        | none => rw [hn] at this; cases this
        | some p => rfl
      · rw [if_neg hq]; rfl
    · have : addN (seen, next) q = (seen ++ [lst q], next ++ [q]) := if_neg hm
      rw [this, fold_find Q C (seen ++ [lst q]) (next ++ [q]), fnd_app, e0, Option.or_assoc]
      intro x hx hq
      rw [fnd_app, e1]
      rcases List.mem_append.1 hx with hx | hx
      · have := h x hx hq
        cases hn : fnd next Q with
        | none => rw [hn] at this; cases this
        | some p => rfl
      · rw [List.mem_singleton] at hx
        subst hx
        rw [if_pos hq]
        cases fnd next Q <;> rfl
theorem fold_seen : ∀ (C : List (List Int)) (seen : List Int) (next : List (List Int)), (∀ x ∈ seen, x ∈ (C.foldl addN (seen, next)).1) ∧ (∀ q ∈ C, lst q ∈ (C.foldl addN (seen, next)).1) ∧ (∀ x ∈ (C.foldl addN (seen, next)).1, x ∈ seen ∨ ∃ q ∈ C, lst q = x)
  | [], seen, next => ⟨fun x hx => hx, by simp, fun x hx => .inl hx⟩
  | q :: C, seen, next => by
    rw [List.foldl_cons]
    unfold addN
    by_cases hm : lst q ∈ seen
    · simp only [hm, if_true]
      obtain ⟨h1, h2, h3⟩ := fold_seen C seen next
      refine ⟨h1, fun p hp => ?_, fun x hx => ?_⟩
      · rcases List.mem_cons.1 hp with rfl | hp
        · exact h1 _ hm
        · exact h2 p hp
      · rcases h3 x hx with h | ⟨p, hp, e⟩
        · exact .inl h
        · exact .inr ⟨p, by simp [hp], e⟩
    · simp only [hm, if_false]
      obtain ⟨h1, h2, h3⟩ := fold_seen C (seen ++ [lst q]) (next ++ [q])
      refine ⟨fun x hx => h1 x (by simp [hx]), fun p hp => ?_, fun x hx => ?_⟩
      · rcases List.mem_cons.1 hp with rfl | hp
        · exact h1 _ (by simp)
        · exact h2 p hp
      · rcases h3 x hx with h | ⟨p, hp, e⟩
        · rcases List.mem_append.1 h with h | h
          · exact .inl h
          · rw [List.mem_singleton] at h; exact .inr ⟨q, by simp, h.symm⟩
        · exact .inr ⟨p, by simp [hp], e⟩
theorem fold_next : ∀ (C : List (List Int)) (seen : List Int) (next : List (List Int)), seen.Nodup → (C.foldl addN (seen, next)).1.Nodup ∧ (C.foldl addN (seen, next)).1.length + next.length = seen.length + (C.foldl addN (seen, next)).2.length ∧ (∀ q ∈ (C.foldl addN (seen, next)).2, q ∈ next ∨ q ∈ C) ∧ (∀ q ∈ (C.foldl addN (seen, next)).2, q ∈ next ∨ lst q ∈ (C.foldl addN (seen, next)).1) ∧ (∀ x ∈ (C.foldl addN (seen, next)).1, x ∈ seen ∨ ∃ q ∈ (C.foldl addN (seen, next)).2, lst q = x) ∧ (∀ q ∈ next, q ∈ (C.foldl addN (seen, next)).2)
  | [], seen, next, h => ⟨h, rfl, fun q hq => .inl hq, fun q hq => .inl hq, fun x hx => .inl hx, fun q hq => hq⟩
  | q :: C, seen, next, h => by
    rw [List.foldl_cons]
    unfold addN
    by_cases hm : lst q ∈ seen
    · simp only [hm, if_true]
      obtain ⟨h1, h2, h3, h4, h5, h6⟩ := fold_next C seen next h
      refine ⟨h1, h2, fun p hp => ?_, h4, h5, h6⟩
      rcases h3 p hp with h | h
      · exact .inl h
      · exact .inr (by simp [h])
    · simp only [hm, if_false]
      have hnd : (seen ++ [lst q]).Nodup := by
        rw [List.nodup_append]
        refine ⟨h, by simp, fun a ha b hb => ?_⟩
        rw [List.mem_singleton] at hb
        rintro rfl
        exact hm (by rw [← hb]; exact ha)
      obtain ⟨h1, h2, h3, h4, h5, h6⟩ := fold_next C (seen ++ [lst q]) (next ++ [q]) hnd
      have g := (fold_seen C (seen ++ [lst q]) (next ++ [q])).1
      refine ⟨h1, by simp only [List.length_append, List.length_cons, List.length_nil] at h2; unfold addN at h2; omega, fun p hp => ?_, fun p hp => ?_, fun x hx => ?_, fun p hp => h6 p (by simp [hp])⟩
      · rcases h3 p hp with h | h
        · rcases List.mem_append.1 h with h | h
          · exact .inl h
          · rw [List.mem_singleton] at h; exact .inr (by simp [h])
        · exact .inr (by simp [h])
      · rcases h4 p hp with h | h
        · rcases List.mem_append.1 h with h | h
          · exact .inl h
          · rw [List.mem_singleton] at h; subst h; exact .inr (g _ (by simp))
        · exact .inr h
      · rcases h5 x hx with h | h
        · rcases List.mem_append.1 h with h | h
          · exact .inl h
          · rw [List.mem_singleton] at h; subst h; exact .inr ⟨q, h6 q (by simp), rfl⟩
        · exact .inr h

/-- What holds ahead of a level. -/
structure BI (u to : Int) (k : Nat) (P : List (List Int)) (S : List Int) : Prop where
  hP : ∀ p ∈ P, p ∈ walks N u k
  hS : ∀ x ∈ S, ∃ j, j ≤ k ∧ Rch N u j x
  hF : ∀ Q : Int → Bool, (∀ x j, j < k → Rch N u j x → Q x = false) → fnd P Q = fnd (walks N u k) Q
  hN : S.Nodup
  hk : P ≠ [] → k < S.length
  hl : ∀ p ∈ P, lst p ∈ S
  hu : u ∈ S
  hC : ∀ x ∈ S, (∀ p ∈ P, lst p ≠ x) → ∀ w ∈ N x, w ∈ S
  hT : ∀ x ∈ S, x = to → ∃ p ∈ P, lst p = x
  hR : ∀ j, j < k → ¬ Rch N u j to
  hL : P.length ≤ S.length
theorem BI.init (u to : Int) : BI N u to 0 [[u]] [u] where
  hP := fun p hp => hp
  hS := fun x hx => by rw [List.mem_singleton] at hx; subst hx; exact ⟨0, Nat.le_refl _, .zero⟩
  hF := fun Q _ => rfl
  hN := by simp
  hk := fun _ => by simp
  hl := fun p hp => by rw [List.mem_singleton] at hp; subst hp; simp [lst]
  hu := by simp
  hC := fun x hx h => absurd (by rw [List.mem_singleton] at hx; subst hx; rfl) (h [u] (by simp))
  hT := fun x hx _ => ⟨[u], by simp, by rw [List.mem_singleton] at hx; subst hx; rfl⟩
  hR := fun j hj => absurd hj (Nat.not_lt_zero _)
  hL := Nat.le_refl _
theorem BI.toNo {N : Int → List Int} {u to : Int} {k : Nat} {P : List (List Int)} {S : List Int} (h : BI N u to k P S) : ∀ x j, j < k → Rch N u j x → (x == to) = false := by
  intro x j hj hx
  rw [beq_eq_false_iff_ne]
  rintro rfl
  exact h.hR j hj hx
theorem BI.step {N : Int → List Int} {u to : Int} {k : Nat} {P : List (List Int)} {S : List Int} (h : BI N u to k P S) (hno : ∀ p ∈ P, lst p ≠ to) : BI N u to (k + 1) ((cand N P).foldl addN (S, [])).2 ((cand N P).foldl addN (S, [])).1 := by
  obtain ⟨s1, s2, s3⟩ := fold_seen (cand N P) S []
  obtain ⟨n1, n2, n3, n4, n5, _⟩ := fold_next (cand N P) S [] h.hN
  have hcw : ∀ q ∈ cand N P, q ∈ walks N u (k + 1) := by
    intro q hq
    obtain ⟨p, hp, w, hw, rfl⟩ := (cand_mem N).1 hq
    exact (cand_mem N).2 ⟨p, h.hP p hp, w, hw, rfl⟩
  refine ⟨?_, ?_, ?_, n1, ?_, ?_, s1 u h.hu, ?_, ?_, ?_, ?_⟩
  · intro q hq
    rcases n3 q hq with h1 | h1
    · simp at h1
    · exact hcw q h1
  · intro x hx
    rcases s3 x hx with h1 | ⟨q, hq, rfl⟩
    · obtain ⟨j, hj, hr⟩ := h.hS x h1
      exact ⟨j, by omega, hr⟩
    · exact ⟨k + 1, Nat.le_refl _, q, hcw q hq, rfl⟩
  · intro Q hQ
    have e1 : fnd ((cand N P).foldl addN (S, [])).2 Q = fnd (cand N P) Q := by
      rw [fold_find Q (cand N P) S []]
      · rfl
      · intro x hx hq
        obtain ⟨j, hj, hr⟩ := h.hS x hx
        rw [hQ x j (by omega) hr] at hq
        cases hq
    rw [e1, cand_find, h.hF]
    · exact (cand_find N (walks N u k) Q).symm
    · intro x j hj hr
      rw [List.any_eq_false]
      intro w hw hq
      rw [hQ w (j + 1) (by omega) (hr.next hw)] at hq
      cases hq
  · intro hne
    have hPne : P ≠ [] := by
      rintro rfl
      exact hne rfl
    have := h.hk hPne
    have hpos : 1 ≤ ((cand N P).foldl addN (S, [])).2.length := List.length_pos_iff.2 hne
    simp only [List.length_nil] at n2
    omega
  · intro q hq
    rcases n4 q hq with h1 | h1
    · simp at h1
    · exact h1
  · intro x hx hxn w hw
    rcases n5 x hx with h1 | ⟨q, hq, e⟩
    · by_cases hl : ∃ p ∈ P, lst p = x
      · obtain ⟨p, hp, rfl⟩ := hl
        have := s2 (p ++ [w]) ((cand_mem N).2 ⟨p, hp, w, hw, rfl⟩)
        rw [lst_snoc] at this
        exact this
      · exact s1 w (h.hC x h1 (fun p hp e => hl ⟨p, hp, e⟩) w hw)
    · exact absurd e (hxn q hq)
  · intro x hx e
    rcases n5 x hx with h1 | h1
    · obtain ⟨p, hp, e2⟩ := h.hT x h1 e
      exact absurd (e2.trans e) (hno p hp)
    · exact h1
  · intro j hj hr
    rcases Nat.lt_or_ge j k with h1 | h1
    · exact h.hR j h1 hr
    · obtain rfl : j = k := by omega
      have e1 : fnd P (· == to) = none := fnd_none.2 fun p hp => by rw [beq_eq_false_iff_ne]; exact hno p hp
      rw [h.hF _ h.toNo, fnd_none] at e1
      obtain ⟨p, hp, e⟩ := hr
      have := e1 p hp
      rw [e] at this
      simp at this
  · simp only [List.length_nil] at n2
    omega
/-- What the shortest path is. -/
def ResP (u to : Int) (r : List Int × Bool) : Prop :=
  (∃ k p, (∀ j, j < k → ¬ Rch N u j to) ∧ fnd (walks N u k) (· == to) = some p ∧ r = (p, true) ∧ ∃ S : List Int, S.Nodup ∧ (∀ x ∈ S, ∃ j, Rch N u j x) ∧ k < S.length) ∨ ((∀ j, ¬ Rch N u j to) ∧ r = ([], false))
theorem BI.found {N : Int → List Int} {u to : Int} {k : Nat} {P : List (List Int)} {S : List Int} (h : BI N u to k P S) {p : List Int} (hp : fnd P (· == to) = some p) : ResP N u to (p, true) := by
  refine .inl ⟨k, p, h.hR, ?_, rfl, S, h.hN, fun x hx => let ⟨j, _, hr⟩ := h.hS x hx; ⟨j, hr⟩, h.hk ?_⟩
  · rw [← h.hF _ h.toNo]; exact hp
  · rintro rfl; cases hp
theorem BI.over {N : Int → List Int} {u to : Int} {k : Nat} {S : List Int} (h : BI N u to k [] S) : ResP N u to ([], false) := by
  refine .inr ⟨fun j hr => ?_, rfl⟩
  have := Rch.closed h.hu (fun x hx w hw => h.hC x hx (by simp) w hw) j to hr
  obtain ⟨p, hp, _⟩ := h.hT to this rfl
  simp at hp
theorem ResP.one {N : Int → List Int} {u to : Int} {r q : List Int × Bool} (h : ResP N u to r) (h' : ResP N u to q) : r = q := by
  have reach : ∀ {k : Nat} {p : List Int}, fnd (walks N u k) (· == to) = some p → Rch N u k to := fun e => by
    obtain ⟨h1, h2⟩ := fnd_spec e
    exact ⟨_, h1, by simpa using h2⟩
  rcases h with ⟨k, p, a1, a2, rfl, _⟩ | ⟨a1, rfl⟩
  · rcases h' with ⟨m, s, b1, b2, rfl, _⟩ | ⟨b1, rfl⟩
    · have : k = m := by
        rcases Nat.lt_trichotomy k m with hlt | e | hlt
        · exact absurd (reach a2) (b1 k hlt)
        · exact e
        · exact absurd (reach b2) (a1 m hlt)
      subst this
      rw [a2] at b2
      cases b2
      rfl
    · exact absurd (reach a2) (b1 k)
  · rcases h' with ⟨m, s, b1, b2, rfl, _⟩ | ⟨b1, rfl⟩
    · exact absurd (reach b2) (a1 m)
    · rfl
end
end Go.Proofs.YteocnbeefedbkaaDoor
