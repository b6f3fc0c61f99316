/-
  Without a cycle every event's day is found within ten calls; both sides say the same day. Plain.
-/
import Derived.Test.YtjfpdbhjoofllaaGreatYa
set_option linter.unusedSimpArgs false
set_option linter.unusedVariables false
namespace Go.Proofs.YtjfpdbhjoofllaaGreat
open Go.VS

/-! ### Walks -/
def Wk (f : Int → Int → Bool) : List Int → Prop
  | [] => True
  | [_] => True
  | a :: b :: t => f a b = true ∧ Wk f (b :: t)
theorem lastK_cons {a b : Int} {t : List Int} : lastK (a :: b :: t) = lastK (b :: t) := by unfold lastK; simp [List.getD]
theorem lastK_app : ∀ (a : List Int) {b : List Int}, b ≠ [] → lastK (a ++ b) = lastK b
  | [], b, _ => rfl
  | [x], [], h => absurd rfl h
  | [x], y :: t, _ => lastK_cons
  | x :: y :: a, b, h => by
    have := lastK_app (y :: a) (b := b) h
    rw [← this]
    exact lastK_cons
theorem lastK_snoc {a : List Int} {x : Int} : lastK (a ++ [x]) = x := by rw [lastK_app a (by simp)]; rfl
theorem wk_app {f : Int → Int → Bool} : ∀ (a b : List Int), Wk f (a ++ b) ↔ Wk f a ∧ Wk f b ∧ (a ≠ [] → b ≠ [] → f (lastK a) (headK b) = true)
  | [], b => by simp [Wk]
  | [x], [] => by simp [Wk]
  | [x], y :: t => by
    show (f x y = true ∧ Wk f (y :: t)) ↔ _
    constructor
    · rintro ⟨h1, h2⟩; exact ⟨trivial, h2, fun _ _ => h1⟩
    · rintro ⟨_, h2, h3⟩; exact ⟨h3 (by simp) (by simp), h2⟩
  | x :: y :: a, b => by
    have ih := wk_app (f := f) (y :: a) b
    show (f x y = true ∧ Wk f (y :: a ++ b)) ↔ (f x y = true ∧ Wk f (y :: a)) ∧ Wk f b ∧ _
    rw [ih, lastK_cons]
    constructor
    · rintro ⟨h1, h2, h3, h4⟩; exact ⟨⟨h1, h2⟩, h3, fun _ hb => h4 (by simp) hb⟩
    · rintro ⟨⟨h1, h2⟩, h3, h4⟩; exact ⟨h1, h2, h3, fun _ hb => h4 (by simp) hb⟩

/-! ### The search finds a cycle -/
theorem tryK_ne (f : List Int → List Int) (g : Int → Bool) (ks : List Int) : ∀ (m : Nat) (x y : Int), x ≤ y → y < x + (m : Int) → g y = true → (ks.any fun z => z == y) = false → f (ks ++ [y]) ≠ [] → tryK f g ks m x ≠ []
  | 0, x, y, h1, h2, _, _, _ => by omega
  | m + 1, x, y, h1, h2, h3, h4, h5 => by
    unfold tryK
    by_cases e : x = y
    · subst e
      rw [h3, h4]
      simp only [Bool.not_false, Bool.and_self, cond_true]
      cases he : (f (ks ++ [x])).isEmpty
      · exact h5
      · exact absurd (List.isEmpty_iff.1 he) h5
    · have ih := tryK_ne f g ks m (x + 1) y (by omega) (by omega) h3 h4 h5
      cases g x && !(ks.any fun z => z == x)
      · exact ih
      · rw [cond_true]
        cases he : (f (ks ++ [x])).isEmpty
        · intro h; rw [cond_false] at h; rw [h] at he; cases he
        · exact ih
theorem any_no {ks : List Int} {x : Int} (h : x ∉ ks) : (ks.any fun y => y == x) = false := by
  rw [List.any_eq_false]
  intro y hy e
  rw [beq_iff_eq] at e
  exact h (e ▸ hy)
theorem cyc_found (l : List Trigger) : ∀ (r ks : List Int) (n : Nat), Pre l ks → Wk (fol l) (ks ++ r) → (ks ++ r).Nodup → (∀ x ∈ r, headK ks < x ∧ x ≤ 9) → fol l (lastK (ks ++ r)) (headK ks) = true → r.length < n → cyc l n ks ≠ []
  | r, ks, 0, _, _, _, _, _, h => by omega
  | [], ks, n + 1, hP, _, _, _, hc, _ => by
    rw [List.append_nil] at hc
    unfold cyc
    rw [hc, cond_true]
    exact List.length_pos_iff.1 hP.ne
  | x :: r, ks, n + 1, hP, hw, hn, hr, hc, h => by
    unfold cyc
    cases hf : fol l (lastK ks) (headK ks)
    · rw [cond_false]
      have hne : ks ≠ [] := List.length_pos_iff.1 hP.ne
      have hx := hr x (by simp)
      have hh := hP.toChain.head
      have hfx : fol l (lastK ks) x = true := ((wk_app ks (x :: r)).1 hw).2.2 hne (by simp)
      have hno : x ∉ ks := by
        intro hm
        exact (List.pairwise_append.1 hn).2.2 x hm x (by simp) rfl
      have e0 : headK (ks ++ [x]) = headK ks := by
        cases ks with
        | nil => exact absurd rfl hne
        | cons y t => rfl
      have ea : ks ++ [x] ++ r = ks ++ x :: r := by simp
      refine tryK_ne _ _ _ _ _ x (by omega) (by omega) hfx (any_no hno) ?_
      exact cyc_found l r (ks ++ [x]) n (hP.snoc ⟨hx.1, hx.2⟩ hfx (any_no hno)) (by rw [ea]; exact hw) (by rw [ea]; exact hn) (by rw [e0]; exact fun y hy => hr y (by simp [hy])) (by rw [ea, e0]; exact hc) (by simp only [List.length_cons] at h; omega)
    · rw [cond_true]
      exact List.length_pos_iff.1 hP.ne
theorem firstC_ne (l : List Trigger) : ∀ (m : Nat) (x y : Int), x ≤ y → y < x + (m : Int) → cyc l rounds [y] ≠ [] → firstC l m x ≠ []
  | 0, x, y, h1, h2, _ => by omega
  | m + 1, x, y, h1, h2, h3 => by
    unfold firstC
    by_cases e : x = y
    · subst e
      cases he : (cyc l rounds [x]).isEmpty
      · exact h3
      · exact absurd (List.isEmpty_iff.1 he) h3
    · have ih := firstC_ne l m (x + 1) y (by omega) (by omega) h3
      cases he : (cyc l rounds [x]).isEmpty
      · intro h; rw [cond_false] at h; rw [h] at he; cases he
      · exact ih
theorem min_mem : ∀ (c : List Int), c ≠ [] → ∃ m ∈ c, ∀ y ∈ c, m ≤ y
  | [], h => absurd rfl h
  | [x], _ => ⟨x, by simp, fun y hy => by rw [List.mem_singleton.1 hy]; exact Int.le_refl _⟩
  | x :: y :: t, _ => by
    obtain ⟨m, hm, h⟩ := min_mem (y :: t) (by simp)
    by_cases q : x ≤ m
    · refine ⟨x, by simp, fun z hz => ?_⟩
      rcases List.mem_cons.1 hz with e | e
      · omega
      · have := h z e; omega
    · refine ⟨m, by simp [hm], fun z hz => ?_⟩
      rcases List.mem_cons.1 hz with e | e
      · omega
      · exact h z e
/-- A simple closed walk is found. -/
theorem closed_found (l : List Trigger) {c : List Int} (hne : c ≠ []) (hn : c.Nodup) (hb : ∀ x ∈ c, 1 ≤ x ∧ x ≤ 9) (hw : Wk (fol l) c) (hc : fol l (lastK c) (headK c) = true) : firstK l ≠ [] := by
  obtain ⟨m, hm, hmin⟩ := min_mem c hne
  obtain ⟨p, q, rfl⟩ := List.append_of_mem hm
  obtain ⟨w1, w2, w3⟩ := (wk_app p (m :: q)).1 hw
  have hmb := hb m hm
  have elast : lastK (p ++ m :: q) = lastK (m :: q) := lastK_app p (by simp)
  have hn' : ([m] ++ (q ++ p)).Nodup := by
    have : List.Perm ([m] ++ (q ++ p)) (p ++ m :: q) := by
      rw [← List.append_assoc]
      exact (List.perm_append_comm (l₁ := [m] ++ q) (l₂ := p))
    exact this.nodup_iff.2 hn
  have hW : Wk (fol l) ([m] ++ (q ++ p)) := by
    rw [← List.append_assoc]
    refine (wk_app (m :: q) p).2 ⟨w2, w1, fun _ hp => ?_⟩
    have : headK (p ++ m :: q) = headK p := by
      cases p with
      | nil => exact absurd rfl hp
      | cons y t => rfl
    rw [elast, this] at hc
    exact hc
  have hC : fol l (lastK ([m] ++ (q ++ p))) (headK [m]) = true := by
    rw [← List.append_assoc]
    by_cases hp : p = []
    · subst hp
      rw [List.append_nil]
      exact hc
    · rw [lastK_app ([m] ++ q) hp]
      exact w3 hp (by simp)
  have hlen : (q ++ p).length < 9 := by
    have := nodup_len 9 _ hn' (fun x hx => by
      have hx2 : x ∈ p ++ m :: q := by
        rcases List.mem_append.1 hx with e | e
        · rw [List.mem_singleton.1 e]; exact hm
        · rcases List.mem_append.1 e with z | z
          · simp [z]
          · simp [z]
      have := hb x hx2
      omega)
    simp only [List.length_append, List.length_singleton] at this ⊢
    omega
  have hP : Pre l [m] := ⟨chain_one hmb, fun k hk => by simp at hk, fun y hy => by rw [List.mem_singleton.1 hy]; exact Int.le_refl _⟩
  refine firstC_ne l 9 1 m (by omega) (by omega) ?_
  refine cyc_found l (q ++ p) [m] rounds hP hW hn' (fun x hx => ?_) hC (by unfold rounds; omega)
  have hx2 : x ∈ p ++ m :: q := by
    rcases List.mem_append.1 hx with z | z
    · simp [z]
    · simp [z]
  have h1 := hmin x hx2
  have h2 := (hb x hx2).2
  have h3 : m ≠ x := by
    intro e
    subst e
    exact (List.pairwise_append.1 hn').2.2 m (by simp) m hx rfl
  show m < x ∧ x ≤ 9
  omega

/-! ### Runs: chains along which an event's day is asked for -/
structure Run (l : List Trigger) (ks : List Int) : Prop extends Chain ks where
  wk : Wk (fol l) ks
theorem no_back {l : List Trigger} (hA : firstK l = []) {ks : List Int} (h : Run l ks) {x : Int} (hx : x ∈ ks) (hf : fol l (lastK ks) x = true) : False := by
  obtain ⟨a, b, rfl⟩ := List.append_of_mem hx
  refine closed_found l (c := x :: b) (by simp) ?_ (fun y hy => h.bd y (by simp at hy ⊢; rcases hy with e | e <;> simp [e])) ((wk_app a (x :: b)).1 h.wk).2.1 ?_ hA
  · exact h.nd.sublist (List.sublist_append_right _ _)
  · rw [lastK_app a (by simp)] at hf
    exact hf
theorem Run.one {l : List Trigger} {x : Int} (h : 1 ≤ x ∧ x ≤ 9) : Run l [x] := ⟨chain_one h, trivial⟩
theorem Run.snoc {l : List Trigger} (hA : firstK l = []) {ks : List Int} (h : Run l ks) {x : Int} (hx : 1 ≤ x ∧ x ≤ 9) (hf : fol l (lastK ks) x = true) : Run l (ks ++ [x]) := by
  have hno : x ∉ ks := fun hm => no_back hA h hm hf
  exact ⟨h.toChain.snoc hx (any_no hno), (wk_app ks [x]).2 ⟨h.wk, trivial, fun _ _ => hf⟩⟩

/-! ### The day of an event -/
def exB (rc : Int → Int × Bool) (e : Int) (a : Int × Bool) (t : Trigger) : (Int × Bool) ⊕ ((Int × Bool) ⊕ (Int × Bool)) :=
  bif t.Event != e then .inl a else bif !(rc t.After).2 then .inr (.inr (0, false)) else .inl (bif decide (a.1 < (rc t.After).1 + t.Days) then (rc t.After).1 + t.Days else a.1, true)
def both {β : Type} (s : β ⊕ β) : β := match s with | .inl r => r | .inr r => r
def exF (l : List Trigger) : Nat → Int → Int × Bool
  | 0, _ => (0, false)
  | n + 1, e => bif e == 0 then (0, true) else both (forE (exB (exF l n) e) Sum.inl l (0, false))
def asDay (r : Int × Bool) : Int := bif r.2 then r.1 else -1
def dyB (rc : Int → Int × Bool) (e : Int) (a : Int) (t : Trigger) : Int ⊕ (Int ⊕ Int) :=
  bif t.Event != e then .inl a else bif !(rc t.After).2 then .inr (.inr (-1)) else .inl (bif decide (a > (rc t.After).1 + t.Days) then a else (rc t.After).1 + t.Days)

theorem forE_congr {A E β : Type} {b b' : A → β → A ⊕ E} {off : A → E} : ∀ (l : List β) (a : A), (∀ a, ∀ t ∈ l, b a t = b' a t) → forE b off l a = forE b' off l a
  | [], _, _ => rfl
  | t :: l, a, h => by
    simp only [forE]
    rw [h a t (by simp)]
    cases b' a t with
    | inl a' => exact forE_congr l a' (fun a t ht => h a t (by simp [ht]))
    | inr e => rfl

/-- What a level gives: both sides agree, and the day is in its bounds. -/
theorem level {rc : Int → Int × Bool} {e D : Int} : ∀ (l : List Trigger) (a : Int × Bool), (∀ t ∈ l, t.Event = e → (rc t.After).2 = true → 0 ≤ (rc t.After).1 + t.Days ∧ (rc t.After).1 + t.Days ≤ D) → (0 ≤ a.1 ∧ a.1 ≤ D) → (a.2 = false → a.1 = 0) →
    asDay (both (forE (exB rc e) Sum.inl l a)) = both (forE (dyB rc e) Sum.inl l (asDay a)) ∧ (0 ≤ (both (forE (exB rc e) Sum.inl l a)).1 ∧ (both (forE (exB rc e) Sum.inl l a)).1 ≤ D) ∧ ((both (forE (exB rc e) Sum.inl l a)).2 = false → (both (forE (exB rc e) Sum.inl l a)).1 = 0) ∧
    ((both (forE (exB rc e) Sum.inl l a)).2 = true → a.1 ≤ (both (forE (exB rc e) Sum.inl l a)).1 ∧ ∀ t ∈ l, t.Event = e → (rc t.After).2 = true ∧ (rc t.After).1 + t.Days ≤ (both (forE (exB rc e) Sum.inl l a)).1)
  | [], a, _, ha, h0 => ⟨rfl, ha, h0, fun _ => ⟨Int.le_refl _, fun t ht => absurd ht (by simp)⟩⟩
  | t :: l, a, hl, ha, h0 => by
    simp only [forE]
    by_cases he : t.Event = e
    · have e1 : (t.Event != e) = false := by simp [he]
      cases hr : (rc t.After).2
      · have x1 : exB rc e a t = .inr (.inr (0, false)) := by unfold exB; rw [e1, hr]; rfl
        have x2 : dyB rc e (asDay a) t = .inr (.inr (-1)) := by unfold dyB; rw [e1, hr]; rfl
        rw [x1, x2]
        simp only
        exact ⟨rfl, ⟨Int.le_refl _, by show (0 : Int) ≤ D; omega⟩, fun _ => rfl, fun h => by cases h⟩
      · have hb := hl t (by simp) he hr
        have x1 : exB rc e a t = .inl (bif decide (a.1 < (rc t.After).1 + t.Days) then (rc t.After).1 + t.Days else a.1, true) := by unfold exB; rw [e1, hr]; rfl
        have x2 : dyB rc e (asDay a) t = .inl (asDay (bif decide (a.1 < (rc t.After).1 + t.Days) then (rc t.After).1 + t.Days else a.1, true)) := by
          unfold dyB
          rw [e1, hr]
          simp only [cond_false, Bool.not_true]
          congr 1
          obtain ⟨x, y⟩ := a
          simp only at ha h0 ⊢
          unfold asDay
          simp only [cond_true]
          cases y
          · have := h0 rfl
            subst this
            simp only [cond_false]
            rw [decide_eq_false (show ¬ ((-1 : Int) > (rc t.After).1 + t.Days) by omega), cond_false]
            cases hd : decide ((0 : Int) < (rc t.After).1 + t.Days)
            · simp only [decide_eq_false_iff_not] at hd
              rw [cond_false]; omega
            · rfl
          · simp only [cond_true]
            by_cases h : x < (rc t.After).1 + t.Days
            · rw [decide_eq_true h, decide_eq_false (by omega)]; rfl
            · rw [decide_eq_false h]
              by_cases h2 : x > (rc t.After).1 + t.Days
              · rw [decide_eq_true h2]; rfl
              · rw [decide_eq_false h2]; simp only [cond_false]; omega
        rw [x1, x2]
        simp only
        have hm : a.1 ≤ (bif decide (a.1 < (rc t.After).1 + t.Days) then (rc t.After).1 + t.Days else a.1) ∧ (rc t.After).1 + t.Days ≤ (bif decide (a.1 < (rc t.After).1 + t.Days) then (rc t.After).1 + t.Days else a.1) ∧ (bif decide (a.1 < (rc t.After).1 + t.Days) then (rc t.After).1 + t.Days else a.1) ≤ D := by
          by_cases h : a.1 < (rc t.After).1 + t.Days
          · rw [decide_eq_true h, cond_true]; omega
          · rw [decide_eq_false h, cond_false]; omega
        obtain ⟨i1, i2, i3, i4⟩ := level (rc := rc) (e := e) (D := D) l (bif decide (a.1 < (rc t.After).1 + t.Days) then (rc t.After).1 + t.Days else a.1, true) (fun t ht => hl t (by simp [ht])) ⟨by simp only; omega, hm.2.2⟩ (fun h => by cases h)
        refine ⟨i1, i2, i3, fun h => ?_⟩
        obtain ⟨j1, j2⟩ := i4 h
        simp only at j1
        refine ⟨by omega, fun u hu hue => ?_⟩
        rcases List.mem_cons.1 hu with z | z
        · subst z; exact ⟨hr, by omega⟩
        · exact j2 u z hue
    · have e1 : (t.Event != e) = true := by simp [he]
      have x1 : exB rc e a t = .inl a := by unfold exB; rw [e1]; rfl
      have x2 : dyB rc e (asDay a) t = .inl (asDay a) := by unfold dyB; rw [e1]; rfl
      rw [x1, x2]
      simp only
      obtain ⟨i1, i2, i3, i4⟩ := level (rc := rc) (e := e) (D := D) l a (fun t ht => hl t (by simp [ht])) ha h0
      refine ⟨i1, i2, i3, fun h => ?_⟩
      obtain ⟨j1, j2⟩ := i4 h
      refine ⟨j1, fun u hu hue => ?_⟩
      rcases List.mem_cons.1 hu with z | z
      · subst z; exact absurd hue he
      · exact j2 u z hue

theorem tgs_mem {l : List Trigger} (h : tgsOk l = true) : l.length ≤ 10 ∧ ∀ t ∈ l, (1 ≤ t.Event ∧ t.Event ≤ 9) ∧ (0 ≤ t.After ∧ t.After ≤ 9) ∧ 0 ≤ t.Days ∧ t.Days ≤ 10000 := by
  unfold tgsOk at h
  rw [Bool.and_eq_true, decide_eq_true_eq] at h
  refine ⟨by omega, fun t ht => ?_⟩
  have := rise_all h.1 t ht
  rw [Bool.not_eq_false'] at this
  unfold tgOne at this
  simp only [Bool.and_eq_true, inR_true] at this
  exact ⟨this.1.1.1, this.1.1.2, this.2⟩
theorem fol_mem {l : List Trigger} {t : Trigger} (h : t ∈ l) : fol l t.Event t.After = true := List.any_eq_true.2 ⟨t, h, by simp⟩

theorem levelI (l : List Trigger) (e D : Int) (rec_ : List Trigger → Int → Option (Int × Bool)) (rc : Int → Int × Bool) (hD : D ≤ 1000000) (hl : l.length < 1000) (hr : ∀ t ∈ l, t.Event = e → rec_ l t.After = some (rc t.After)) (hb : ∀ t ∈ l, t.Event = e → 0 ≤ (rc t.After).1 ∧ 0 ≤ t.Days ∧ (rc t.After).1 + t.Days ≤ D) :
    iterO (M.impl_expected_l0 l e rec_) ((0 : Int), false, (0 : Int)) = some (forE (exB rc e) Sum.inl l (0, false)) := by
  refine iter_forE (s := ((0 : Int), false, (0 : Int))) (fun (a : Int × Bool) (k : Nat) => (a.1, a.2, (k : Int))) (exB rc e) Sum.inl l (0, false) (fun _ _ => True) rfl (by omega) trivial (fun a k hk _ => ?_) (fun a _ => ?_)
  · have hm := getD_mem hk
    unfold M.impl_expected_l0 exB
    dsimp only
    rw [decide_eq_true (show (k : Int) < (l.length : Int) by omega), cond_true, asrt_pos ⟨by omega, by omega⟩, Int.toNat_natCast, wrap64_id (n := (k : Int) + 1) (by omega) (by omega)]
    by_cases he : (l.getD k default).Event = e
    · rw [show ((l.getD k default).Event != e) = false by rw [he]; exact bne_self_eq_false e, cond_false, cond_false, hr _ hm he, Option.bind_some]
      have := hb _ hm he
      rw [wrap64_id (n := (rc (l.getD k default).After).1 + (l.getD k default).Days) (by omega) (by omega)]
      cases (rc (l.getD k default).After).2
      · rfl
      · exact ⟨rfl, trivial⟩
    · rw [show ((l.getD k default).Event != e) = true from bne_iff_ne.2 he, cond_true, cond_true]
      exact ⟨rfl, trivial⟩
  · unfold M.impl_expected_l0
    dsimp only
    rw [decide_eq_false (by omega)]
    rfl
theorem levelS (l : List Trigger) (e D : Int) (rec_ : List Trigger → Int → Option Int) (rc : Int → Int × Bool) (hD : D ≤ 1000000) (hl : l.length < 1000) (hr : ∀ t ∈ l, t.Event = e → rec_ l t.After = some (asDay (rc t.After))) (hb : ∀ t ∈ l, t.Event = e → 0 ≤ (rc t.After).1 ∧ 0 ≤ t.Days ∧ (rc t.After).1 + t.Days ≤ D) :
    iterO (M.spec_l10Day_l0 l e rec_) ((-1 : Int), (0 : Int)) = some (forE (dyB rc e) Sum.inl l (-1)) := by
  refine iter_forE (s := ((-1 : Int), (0 : Int))) (fun (a : Int) (k : Nat) => (a, (k : Int))) (dyB rc e) Sum.inl l (-1) (fun _ _ => True) rfl (by omega) trivial (fun a k hk _ => ?_) (fun a _ => ?_)
  · have hm := getD_mem hk
    unfold M.spec_l10Day_l0 dyB
    dsimp only
    rw [decide_eq_true (show (k : Int) < (l.length : Int) by omega), cond_true, asrt_pos ⟨by omega, by omega⟩, Int.toNat_natCast, wrap64_id (n := (k : Int) + 1) (by omega) (by omega)]
    by_cases he : (l.getD k default).Event = e
    · rw [show ((l.getD k default).Event != e) = false by rw [he]; exact bne_self_eq_false e, cond_false, cond_false, asrt_pos ⟨by omega, by omega⟩, hr _ hm he, Option.bind_some]
      have := hb _ hm he
      unfold asDay
      cases (rc (l.getD k default).After).2
      · rfl
      · rw [cond_true, decide_eq_false (show ¬ (rc (l.getD k default).After).1 < 0 by omega), cond_false, asrt_pos ⟨by omega, by omega⟩, wrap64_id (n := (rc (l.getD k default).After).1 + (l.getD k default).Days) (by omega) (by omega)]
        unfold M.spec_l1Most
        cases decide (a > (rc (l.getD k default).After).1 + (l.getD k default).Days)
        · exact ⟨rfl, trivial⟩
        · exact ⟨rfl, trivial⟩
    · rw [show ((l.getD k default).Event != e) = true from bne_iff_ne.2 he, cond_true, cond_true]
      exact ⟨rfl, trivial⟩
  · unfold M.spec_l10Day_l0
    dsimp only
    rw [decide_eq_false (by omega)]
    rfl

/-- Along a run both sides answer, and agree. -/
theorem exRun (l : List Trigger) (hO : tgsOk l = true) (hA : firstK l = []) : ∀ (n : Nat) (ks : List Int), Run l ks → 11 ≤ n + ks.length →
    M.impl_expected_r n l (lastK ks) = some (exF l n (lastK ks)) ∧ M.spec_l10Day_r n l (lastK ks) = some (asDay (exF l n (lastK ks))) ∧ (0 ≤ (exF l n (lastK ks)).1 ∧ (exF l n (lastK ks)).1 ≤ 10000 * (10 - (ks.length : Int)))
  | 0, ks, hk, h => by have := hk.toChain.len; omega
  | n + 1, ks, hk, h => by
    have h9 := hk.toChain.len
    have hne := hk.toChain.ne
    obtain ⟨hlen, hmem⟩ := tgs_mem hO
    have hb : 1 ≤ lastK ks ∧ lastK ks ≤ 9 := hk.bd _ (getD_mem (by omega))
    have hz : (lastK ks == 0) = false := by rw [beq_eq_false_iff_ne]; omega
    have sub : ∀ t ∈ l, t.Event = lastK ks → M.impl_expected_r n l t.After = some (exF l n t.After) ∧ M.spec_l10Day_r n l t.After = some (asDay (exF l n t.After)) ∧ (0 ≤ (exF l n t.After).1 ∧ (exF l n t.After).1 ≤ 10000 * (9 - (ks.length : Int))) := by
      intro t ht he
      have hm := hmem t ht
      by_cases h0 : t.After = 0
      · rw [h0]
        obtain ⟨n', rfl⟩ : ∃ n', n = n' + 1 := ⟨n - 1, by omega⟩
        refine ⟨rfl, rfl, Int.le_refl _, ?_⟩
        show (0 : Int) ≤ _
        omega
      · have hf : fol l (lastK ks) t.After = true := by rw [← he]; exact fol_mem ht
        have hR := hk.snoc hA (x := t.After) ⟨by omega, by omega⟩ hf
        have := exRun l hO hA n (ks ++ [t.After]) hR (by simp; omega)
        rw [lastK_snoc, List.length_append, List.length_singleton] at this
        refine ⟨this.1, this.2.1, this.2.2.1, ?_⟩
        have := this.2.2.2
        omega
    have hbb : ∀ t ∈ l, t.Event = lastK ks → 0 ≤ (exF l n t.After).1 ∧ 0 ≤ t.Days ∧ (exF l n t.After).1 + t.Days ≤ 10000 * (10 - (ks.length : Int)) := by
      intro t ht he
      have h1 := (sub t ht he).2.2
      have h2 := (hmem t ht).2.2
      omega
    have hI := levelI l (lastK ks) (10000 * (10 - (ks.length : Int))) (M.impl_expected_r n) (exF l n) (by omega) (by omega) (fun t ht he => (sub t ht he).1) hbb
    have hS := levelS l (lastK ks) (10000 * (10 - (ks.length : Int))) (M.spec_l10Day_r n) (exF l n) (by omega) (by omega) (fun t ht he => (sub t ht he).2.1) hbb
    have hL := level (rc := exF l n) (e := lastK ks) (D := 10000 * (10 - (ks.length : Int))) l (0, false) (fun t ht he hr => by have := hbb t ht he; omega) ⟨Int.le_refl _, by simp only; omega⟩ (fun _ => rfl)
    have eF : exF l (n + 1) (lastK ks) = both (forE (exB (exF l n) (lastK ks)) Sum.inl l (0, false)) := by
      show (bif lastK ks == 0 then _ else _) = _
      rw [hz, cond_false]
    rw [eF]
    refine ⟨?_, ?_, hL.2.1⟩
    · show M.impl_expected_s (M.impl_expected_r n) l (lastK ks) = _
      unfold M.impl_expected_s
      rw [hz, cond_false, hI, Option.bind_some]
      cases forE (exB (exF l n) (lastK ks)) Sum.inl l (0, false) <;> rfl
    · show M.spec_l10Day_s (M.spec_l10Day_r n) l (lastK ks) = _
      unfold M.spec_l10Day_s
      rw [hz, cond_false, hS, Option.bind_some, hL.1]
      show _ = some (both (forE (dyB (exF l n) (lastK ks)) Sum.inl l (-1)))
      cases forE (dyB (exF l n) (lastK ks)) Sum.inl l (-1) <;> rfl

/-- Fuel does not matter. -/
theorem ex_fuel (l : List Trigger) (hO : tgsOk l = true) (hA : firstK l = []) : ∀ (n m : Nat) (ks : List Int), Run l ks → 11 ≤ n + ks.length → 11 ≤ m + ks.length → exF l n (lastK ks) = exF l m (lastK ks)
  | 0, _, ks, hk, h, _ => by have := hk.toChain.len; omega
  | n + 1, 0, ks, hk, _, h => by have := hk.toChain.len; omega
  | n + 1, m + 1, ks, hk, h1, h2 => by
    have h9 := hk.toChain.len
    obtain ⟨hlen, hmem⟩ := tgs_mem hO
    have hb : 1 ≤ lastK ks ∧ lastK ks ≤ 9 := hk.bd _ (getD_mem (by have := hk.toChain.ne; omega))
    have hz : (lastK ks == 0) = false := by rw [beq_eq_false_iff_ne]; omega
    show (bif lastK ks == 0 then _ else _) = (bif lastK ks == 0 then _ else _)
    rw [hz, cond_false, cond_false]
    congr 1
    refine forE_congr l _ (fun a t ht => ?_)
    unfold exB
    by_cases he : t.Event = lastK ks
    · have : exF l n t.After = exF l m t.After := by
        by_cases h0 : t.After = 0
        · rw [h0]
          obtain ⟨n', rfl⟩ : ∃ n', n = n' + 1 := ⟨n - 1, by omega⟩
          obtain ⟨m', rfl⟩ : ∃ m', m = m' + 1 := ⟨m - 1, by omega⟩
          rfl
        · have hm := hmem t ht
          have hf : fol l (lastK ks) t.After = true := by rw [← he]; exact fol_mem ht
          have := ex_fuel l hO hA n m (ks ++ [t.After]) (hk.snoc hA ⟨by omega, by omega⟩ hf) (by simp; omega) (by simp; omega)
          rwa [lastK_snoc] at this
      rw [this]
    · rw [show (t.Event != lastK ks) = true by simp [he]]; rfl

/-- The day of an event. -/
def exD (l : List Trigger) (e : Int) : Int × Bool := exF l rounds e
theorem exD_zero (l : List Trigger) : exD l 0 = (0, true) := by
  unfold exD
  obtain ⟨r, hr⟩ : ∃ r, rounds = r + 1 := ⟨rounds - 1, by unfold rounds; omega⟩
  rw [hr]; rfl
theorem exD_I (l : List Trigger) (hO : tgsOk l = true) (hA : firstK l = []) (e : Int) (he : 0 ≤ e ∧ e ≤ 9) : M.impl_expected l e = some (exD l e) ∧ M.spec_l10Day l e = some (asDay (exD l e)) ∧ (0 ≤ (exD l e).1 ∧ (exD l e).1 ≤ 90000) := by
  by_cases h0 : e = 0
  · subst h0
    rw [exD_zero]
    unfold M.impl_expected M.spec_l10Day
    obtain ⟨r, hr⟩ : ∃ r, rounds = r + 1 := ⟨rounds - 1, by unfold rounds; omega⟩
    rw [hr]
    exact ⟨rfl, rfl, by decide, by decide⟩
  · have := exRun l hO hA rounds [e] (Run.one ⟨by omega, he.2⟩) (by unfold rounds; omega)
    exact this
/-- A day that is found is after all that it waits for. -/
theorem exD_step (l : List Trigger) (hO : tgsOk l = true) (hA : firstK l = []) (e : Int) (he : 1 ≤ e ∧ e ≤ 9) : ((exD l e).2 = false → (exD l e).1 = 0) ∧ ((exD l e).2 = true → ∀ t ∈ l, t.Event = e → (exD l t.After).2 = true ∧ (exD l t.After).1 + t.Days ≤ (exD l e).1) := by
  obtain ⟨hlen, hmem⟩ := tgs_mem hO
  obtain ⟨r, hr⟩ : ∃ r, rounds = r + 1 := ⟨rounds - 1, by unfold rounds; omega⟩
  have hr1 : 100 < r := by unfold rounds at hr; omega
  have hz : (e == 0) = false := by rw [beq_eq_false_iff_ne]; omega
  have sub : ∀ t ∈ l, t.Event = e → exF l r t.After = exD l t.After := by
    intro t ht hte
    have hm := hmem t ht
    by_cases h0 : t.After = 0
    · rw [h0, exD_zero]
      obtain ⟨n', rfl⟩ : ∃ n', r = n' + 1 := ⟨r - 1, by omega⟩
      rfl
    · exact ex_fuel l hO hA r rounds [t.After] (Run.one ⟨by omega, by omega⟩) (by simp; omega) (by unfold rounds; simp)
  have eF : exD l e = both (forE (exB (exD l) e) Sum.inl l (0, false)) := by
    unfold exD
    rw [hr]
    show (bif e == 0 then _ else _) = _
    rw [hz, cond_false]
    congr 1
    refine forE_congr l _ (fun a t ht => ?_)
    unfold exB
    by_cases hte : t.Event = e
    · have := sub t ht hte
      unfold exD at this
      rw [hr] at this
      rw [this]
    · rw [show (t.Event != e) = true by simp [hte]]; rfl
  have hL := level (rc := exD l) (e := e) (D := 200000) l (0, false) (fun t ht hte _ => by
    have h1 := (exD_I l hO hA t.After (hmem t ht).2.1).2.2
    have h2 := (hmem t ht).2.2
    omega) ⟨Int.le_refl _, by decide⟩ (fun _ => rfl)
  rw [← eF] at hL
  exact ⟨hL.2.2.1, fun h => (hL.2.2.2 h).2⟩
end Go.Proofs.YtjfpdbhjoofllaaGreat
