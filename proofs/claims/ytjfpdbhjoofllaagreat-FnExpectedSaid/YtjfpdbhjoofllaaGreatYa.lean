/-
  Triggers: validity, chains of events, the first cycle. Plain.
-/
import Derived.Test.YtjfpdbhjoofllaaGreatTc
import Derived.Test.YtjfpdbhjoofllaaGreatHa
set_option linter.unusedSimpArgs false
set_option linter.unusedVariables false
namespace Go.Proofs.YtjfpdbhjoofllaaGreat
open Go.VS

def tgOne (t : Trigger) : Bool := ((inR t.Event 1 9 && inR t.After 0 9) && !(t.After == t.Event)) && inR t.Days 0 10000
def beforeT (a b : Trigger) : Bool := !(decide (a.Event > b.Event) || ((a.Event == b.Event) && decide (a.After ≥ b.After)))
def tgsOk (l : List Trigger) : Bool := rise (fun t => !tgOne t) (fun a b => !beforeT a b) l && decide ((l.length : Int) ≤ 10)
theorem cmpT_ge (a b : Trigger) : decide ((if cmpI a.Event b.Event ≠ 0 then cmpI a.Event b.Event else cmpI a.After b.After) ≥ 0) = !beforeT a b := by
  unfold beforeT cmpI
  by_cases h1 : a.Event < b.Event
  · have h2 : ¬ a.Event > b.Event := by omega
    have h3 : ¬ a.Event = b.Event := by omega
    simp [h1, h2, h3]
  · by_cases h2 : a.Event > b.Event
    · simp [h1, h2]
    · have h3 : a.Event = b.Event := by omega
      by_cases h4 : a.After < b.After
      · simp [h3, h4]
      · by_cases h5 : a.After > b.After
        · simp [h3, h4, h5]; omega
        · simp [h3, h4, h5]; omega

theorem tgsI (l : List Trigger) (hl : l.length < 1000000) : M.impl_AreTriggers l = some (tgsOk l) := by
  unfold M.impl_AreTriggers
  rw [iter_rise (n := l.length) (bad := riseB (fun t => !tgOne t) (fun a b => !beforeT a b) l) (by omega) (fun k hk => by
    unfold M.impl_AreTriggers_l0 M.impl_isKind riseB tgOne
    dsimp only
    rw [decide_eq_true (show (k : Int) < (l.length : Int) by omega), cond_true, asrt_pos ⟨by omega, by omega⟩, Int.toNat_natCast, withinI, Option.bind_some, withinI, withinI, Option.bind_some]
    cases inR (l.getD k default).Event 1 9
    · rfl
    cases inR (l.getD k default).After 0 9
    · rfl
    cases (l.getD k default).After == (l.getD k default).Event
    · cases inR (l.getD k default).Days 0 10000
      · rfl
      · simp only [Bool.not_true, Bool.not_false, Bool.or_self, cond_false, Option.bind_some, Bool.and_self, Bool.false_or]
        rw [asrt_pos (fun h => by
          simp only [decide_eq_true_eq] at h
          rw [wrap64_id (by omega) (by omega)]
          exact ⟨by omega, by omega⟩)]
        by_cases h0 : k = 0
        · subst h0; rfl
        · rw [decide_eq_true (show (k : Int) > 0 by omega), cond_true, cond_true, wrap64_id (n := (k : Int) - 1) (by omega) (by omega), toNat_pred, cmpIntI, Option.bind_some, asrt_pos (fun _ => ⟨by omega, by omega⟩), cmpIntI, Option.bind_some, cond_true, or2I, Option.bind_some, Bool.true_and, Bool.true_and, cmpT_ge, wrap64_id (by omega) (by omega), bif_some]
    · rfl) (by
    unfold M.impl_AreTriggers_l0
    simp (disch := first | omega | (intros; simp only [decide_eq_true_eq, decide_eq_false_iff_not, Bool.not_eq_true, Bool.not_eq_false, Bool.not_true, Bool.not_false] at *; omega)) only [cast_succ, asrt_pos, wrap64_id, Option.bind_some, cond_true, cond_false, decide_eq_true, decide_eq_false, Int.toNat_natCast, Bool.not_true, Bool.not_false, Bool.and_true, Bool.true_and, Bool.and_false, Bool.false_and, Bool.or_true, Bool.true_or, Bool.or_false, Bool.false_or])]
  unfold tgsOk rise
  cases (List.range l.length).any _ <;> rfl
theorem tgsS (l : List Trigger) (hl : l.length < 1000000) : M.spec_l10Good l = some (tgsOk l) := by
  unfold M.spec_l10Good
  rw [iter_rise (n := l.length) (bad := riseB (fun t => !tgOne t) (fun a b => !beforeT a b) l) (by omega) (fun k hk => by
    unfold M.spec_l10Good_l0 riseB tgOne
    dsimp only
    rw [decide_eq_true (show (k : Int) < (l.length : Int) by omega), cond_true, asrt_pos ⟨by omega, by omega⟩, Int.toNat_natCast, l1InS, Option.bind_some, l1InS, l1InS]
    cases inR (l.getD k default).Event 1 9
    · rfl
    cases inR (l.getD k default).After 0 9
    · rfl
    cases (l.getD k default).After == (l.getD k default).Event
    · cases inR (l.getD k default).Days 0 10000
      · rfl
      · simp only [Bool.not_true, Bool.not_false, Bool.or_self, cond_false, cond_true, Option.bind_some, Bool.and_self, Bool.false_or]
        rw [asrt_pos (fun h => by
          simp only [decide_eq_true_eq] at h
          rw [wrap64_id (by omega) (by omega)]
          exact ⟨by omega, by omega⟩), asrt_pos (fun h _ => by
          simp only [decide_eq_true_eq] at h
          rw [wrap64_id (by omega) (by omega)]
          exact ⟨by omega, by omega⟩), asrt_pos (fun h _ _ => by
          simp only [decide_eq_true_eq] at h
          rw [wrap64_id (by omega) (by omega)]
          exact ⟨by omega, by omega⟩)]
        by_cases h0 : k = 0
        · subst h0; rfl
        · unfold beforeT
          rw [decide_eq_true (show (k : Int) > 0 by omega), wrap64_id (n := (k : Int) - 1) (by omega) (by omega), toNat_pred, wrap64_id (by omega) (by omega), bif_some, Bool.not_not]
    · rfl) (by
    unfold M.spec_l10Good_l0
    simp (disch := first | omega | (intros; simp only [decide_eq_true_eq, decide_eq_false_iff_not, Bool.not_eq_true, Bool.not_eq_false, Bool.not_true, Bool.not_false] at *; omega)) only [cast_succ, asrt_pos, wrap64_id, Option.bind_some, cond_true, cond_false, decide_eq_true, decide_eq_false, Int.toNat_natCast, Bool.not_true, Bool.not_false, Bool.and_true, Bool.true_and, Bool.and_false, Bool.false_and, Bool.or_true, Bool.true_or, Bool.or_false, Bool.false_or])]
  unfold tgsOk rise
  cases (List.range l.length).any _ <;> rfl

def fol (l : List Trigger) (e a : Int) : Bool := l.any fun t => (t.Event == e) && (t.After == a)
theorem contT (t : List Trigger) (p : Trigger → Bool) (fm : Trigger → Option Bool) (hfm : ∀ x ∈ t, fm x = some (p x)) (hl : t.length < 1000000) : M.slices_ContainsFunc_impl_Trigger_impl_Trigger t fm = some (t.any p) := by
  unfold M.slices_ContainsFunc_impl_Trigger_impl_Trigger M.slices_IndexFunc_impl_Trigger_impl_Trigger
  have h := iter_first (step := M.slices_IndexFunc_impl_Trigger_impl_Trigger_l0 t fm) p t (by omega) (fun k hk => by
    have := hfm _ (getD_mem hk)
    unfold M.slices_IndexFunc_impl_Trigger_impl_Trigger_l0
    simp (disch := first | omega | (intros; simp only [decide_eq_true_eq, decide_eq_false_iff_not, Bool.not_eq_true, Bool.not_eq_false, Bool.not_true, Bool.not_false] at *; omega)) only [cast_succ, asrt_pos, wrap64_id, Option.bind_some, cond_true, cond_false, decide_eq_true, decide_eq_false, Int.toNat_natCast, Bool.not_true, Bool.not_false, Bool.and_true, Bool.true_and, Bool.and_false, Bool.false_and, Bool.or_true, Bool.true_or, Bool.or_false, Bool.false_or, bif_some, this]) (by
    unfold M.slices_IndexFunc_impl_Trigger_impl_Trigger_l0
    simp (disch := first | omega | (intros; simp only [decide_eq_true_eq, decide_eq_false_iff_not, Bool.not_eq_true, Bool.not_eq_false, Bool.not_true, Bool.not_false] at *; omega)) only [cast_succ, asrt_pos, wrap64_id, Option.bind_some, cond_true, cond_false, decide_eq_true, decide_eq_false, Int.toNat_natCast, Bool.not_true, Bool.not_false, Bool.and_true, Bool.true_and, Bool.and_false, Bool.false_and, Bool.or_true, Bool.true_or, Bool.or_false, Bool.false_or])
  refine (congrArg (fun q => q.bind fun y0 => some (decide (y0 ≥ 0))) h).trans ?_
  rw [Option.bind_some, firstAt_any]
theorem folI (l : List Trigger) (e a : Int) (hl : l.length < 1000000) : M.impl_follows l e a = some (fol l e a) := by
  unfold M.impl_follows fol
  rw [contT l (fun t => (t.Event == e) && (t.After == a)) (fun x0 => M.impl_follows_1 x0 e a) (fun x _ => rfl) hl, Option.bind_some]
theorem foldl_or {β : Type} (p : β → Bool) : ∀ (l : List β) (b : Bool), l.foldl (fun b x => b || p x) b = (b || l.any p)
  | [], b => by simp
  | x :: t, b => by rw [List.foldl_cons, foldl_or p t, List.any_cons, Bool.or_assoc]
theorem folS (l : List Trigger) (ks : List Int) (a : Int) (hl : l.length < 1000000) : iterO (M.spec_l10Chain_l1 l ks a) (false, (0 : Int)) = some (fol l (ks.getD (Int.toNat (IntKind.i64.wrap ((ks.length : Int) - (1 : Int)))) default) a) := by
  rw [iter_fold (s := (false, (0 : Int))) (step := M.spec_l10Chain_l1 l ks a) (fun (b : Bool) (k : Nat) => (b, (k : Int))) (fun b t => b || ((t.Event == (ks.getD (Int.toNat (IntKind.i64.wrap ((ks.length : Int) - (1 : Int)))) default)) && (t.After == a))) (fun b => b) l false (fun _ _ => True) rfl (by omega) trivial (fun b k hk _ => ⟨?_, trivial⟩) (fun b _ => ?_), foldl_or]
  · rfl
  · unfold M.spec_l10Chain_l1
    dsimp only
    rw [decide_eq_true (show (k : Int) < (l.length : Int) by omega), cond_true, asrt_pos (fun _ => ⟨by omega, by omega⟩), asrt_pos (fun _ _ => ⟨by omega, by omega⟩), Int.toNat_natCast, wrap64_id (n := (k : Int) + 1) (by omega) (by omega)]
    rfl
  · unfold M.spec_l10Chain_l1
    dsimp only
    rw [decide_eq_false (by omega)]
    rfl

def lastK (ks : List Int) : Int := ks.getD (ks.length - 1) default
def headK (ks : List Int) : Int := ks.getD 0 default
def tryK (f : List Int → List Int) (g : Int → Bool) (ks : List Int) : Nat → Int → List Int
  | 0, _ => []
  | m + 1, x => bif g x && !(ks.any fun y => y == x) then (bif (f (ks ++ [x])).isEmpty then tryK f g ks m (x + 1) else f (ks ++ [x])) else tryK f g ks m (x + 1)
def cyc (l : List Trigger) : Nat → List Int → List Int
  | 0, _ => []
  | n + 1, ks => bif fol l (lastK ks) (headK ks) then ks else tryK (cyc l n) (fol l (lastK ks)) ks (9 - headK ks).toNat (headK ks + 1)

structure Chain (ks : List Int) : Prop where
  ne : 0 < ks.length
  nd : ks.Nodup
  bd : ∀ x ∈ ks, 1 ≤ x ∧ x ≤ 9
theorem nodup_len : ∀ (m : Nat) (l : List Int), l.Nodup → (∀ x ∈ l, 1 ≤ x ∧ x ≤ (m : Int)) → l.length ≤ m
  | 0, l, _, h => by
    cases l with
    | nil => simp
    | cons x t => have := h x (by simp); omega
  | m + 1, l, hn, h => by
    have h1 := nodup_len m (l.erase ((m : Int) + 1)) (hn.erase _) (fun x hx => by
      have h2 := (hn.mem_erase_iff).1 hx
      have := h x h2.2
      omega)
    by_cases hm : ((m : Int) + 1) ∈ l
    · rw [List.length_erase_of_mem hm] at h1; omega
    · rw [List.erase_of_not_mem hm] at h1; omega
theorem Chain.len {ks : List Int} (h : Chain ks) : ks.length ≤ 9 := nodup_len 9 ks h.nd (fun x hx => by have := h.bd x hx; omega)
theorem Chain.snoc {ks : List Int} (h : Chain ks) {x : Int} (hx : 1 ≤ x ∧ x ≤ 9) (hn : (ks.any fun y => y == x) = false) : Chain (ks ++ [x]) := by
  refine ⟨by simp, ?_, fun y hy => ?_⟩
  · have hq : x ∉ ks := by
      intro hm
      have := List.any_eq_false.1 hn x hm
      simp at this
    unfold List.Nodup
    rw [List.pairwise_append]
    refine ⟨h.nd, by simp, fun a ha b hb => ?_⟩
    rw [List.mem_singleton.1 hb]
    intro e
    exact hq (e ▸ ha)
  · rcases List.mem_append.1 hy with q | q
    · exact h.bd y q
    · rw [List.mem_singleton.1 q]; exact hx
theorem Chain.head {ks : List Int} (h : Chain ks) : 1 ≤ headK ks ∧ headK ks ≤ 9 := h.bd _ (getD_mem h.ne)
theorem lastG {ks : List Int} (h : Chain ks) : ks.getD (Int.toNat (IntKind.i64.wrap ((ks.length : Int) - (1 : Int)))) default = lastK ks := by
  have := h.len
  have := h.ne
  rw [wrap64_id (by omega) (by omega), toNat_pred]; rfl

theorem contK (m : List Int) (x : Int) (hl : m.length < 1000000) : M.slices_Contains_int_int m x = some (m.any fun y => y == x) := by
  unfold M.slices_Contains_int_int M.slices_Index_int_int
  have h := iter_first (step := M.slices_Index_int_int_l0 m x) (fun y => y == x) m (by omega) (fun k hk => by
    have e : (x == m.getD k default) = (m.getD k default == x) := by rw [Bool.eq_iff_iff, beq_iff_eq, beq_iff_eq]; exact eq_comm
    unfold M.slices_Index_int_int_l0
    simp (disch := first | omega | (intros; simp only [decide_eq_true_eq, decide_eq_false_iff_not, Bool.not_eq_true, Bool.not_eq_false, Bool.not_true, Bool.not_false] at *; omega)) only [cast_succ, asrt_pos, wrap64_id, Option.bind_some, cond_true, cond_false, decide_eq_true, decide_eq_false, Int.toNat_natCast, Bool.not_true, Bool.not_false, Bool.and_true, Bool.true_and, Bool.and_false, Bool.false_and, Bool.or_true, Bool.true_or, Bool.or_false, Bool.false_or, bif_some, e]) (by
    unfold M.slices_Index_int_int_l0
    simp (disch := first | omega | (intros; simp only [decide_eq_true_eq, decide_eq_false_iff_not, Bool.not_eq_true, Bool.not_eq_false, Bool.not_true, Bool.not_false] at *; omega)) only [cast_succ, asrt_pos, wrap64_id, Option.bind_some, cond_true, cond_false, decide_eq_true, decide_eq_false, Int.toNat_natCast, Bool.not_true, Bool.not_false, Bool.and_true, Bool.true_and, Bool.and_false, Bool.false_and, Bool.or_true, Bool.true_or, Bool.or_false, Bool.false_or])
  refine (congrArg (fun q => q.bind fun y0 => some (decide (y0 ≥ 0))) h).trans ?_
  rw [Option.bind_some, firstAt_any]
theorem hasK (m : List Int) (x : Int) (hl : m.length < 1000000) : M.spec_l1Has m x = some (m.any fun y => y == x) := by
  unfold M.spec_l1Has
  rw [iter_any (step := M.spec_l1Has_l0 m x) (s := 0) (fun k => (k : Int)) m.length (fun k => m.getD k default == x) (.inr true) (.inl ()) rfl (by omega)
    (fun k hk hp => by
      unfold M.spec_l1Has_l0
      simp (disch := first | omega | (intros; simp only [decide_eq_true_eq, decide_eq_false_iff_not, Bool.not_eq_true, Bool.not_eq_false, Bool.not_true, Bool.not_false] at *; omega)) only [cast_succ, asrt_pos, wrap64_id, Option.bind_some, cond_true, cond_false, decide_eq_true, decide_eq_false, Int.toNat_natCast, Bool.not_true, Bool.not_false, Bool.and_true, Bool.true_and, Bool.and_false, Bool.false_and, Bool.or_true, Bool.true_or, Bool.or_false, Bool.false_or, hp])
    (fun k hk hp => by
      unfold M.spec_l1Has_l0
      simp (disch := first | omega | (intros; simp only [decide_eq_true_eq, decide_eq_false_iff_not, Bool.not_eq_true, Bool.not_eq_false, Bool.not_true, Bool.not_false] at *; omega)) only [cast_succ, asrt_pos, wrap64_id, Option.bind_some, cond_true, cond_false, decide_eq_true, decide_eq_false, Int.toNat_natCast, Bool.not_true, Bool.not_false, Bool.and_true, Bool.true_and, Bool.and_false, Bool.false_and, Bool.or_true, Bool.true_or, Bool.or_false, Bool.false_or, hp])
    (by
      unfold M.spec_l1Has_l0
      simp (disch := first | omega | (intros; simp only [decide_eq_true_eq, decide_eq_false_iff_not, Bool.not_eq_true, Bool.not_eq_false, Bool.not_true, Bool.not_false] at *; omega)) only [cast_succ, asrt_pos, wrap64_id, Option.bind_some, cond_true, cond_false, decide_eq_true, decide_eq_false, Int.toNat_natCast, Bool.not_true, Bool.not_false, Bool.and_true, Bool.true_and, Bool.and_false, Bool.false_and, Bool.or_true, Bool.true_or, Bool.or_false, Bool.false_or]), ← any_getD (p := fun y => y == x)]
  cases m.any fun y => y == x <;> rfl

theorem cycLoopI (l : List Trigger) (ks : List Int) (hl : l.length < 1000000) (hk : Chain ks) (rec_ : List Trigger → List Int → Option (List Int)) (f : List Int → List Int) (hr : ∀ x, Chain (ks ++ [x]) → rec_ l (ks ++ [x]) = some (f (ks ++ [x]))) :
    ∀ (m : Nat) (x : Int), 1 ≤ x → x + (m : Int) = 10 → ∀ fu, m < fu → loopO (M.impl_cycleFrom_l0 l ks rec_) fu x = some (bif (tryK f (fol l (lastK ks)) ks m x).isEmpty then .inl () else .inr (tryK f (fol l (lastK ks)) ks m x))
  | 0, x, h1, h2, fu, hf => by
    obtain ⟨fu, rfl⟩ : ∃ q, fu = q + 1 := ⟨fu - 1, by omega⟩
    have e : M.impl_cycleFrom_l0 l ks rec_ x = some (.inr (.inl ())) := by
      unfold M.impl_cycleFrom_l0
      dsimp only
      rw [decide_eq_false (by omega)]
      rfl
    rw [loopO, e]
    rfl
  | m + 1, x, h1, h2, fu, hf => by
    obtain ⟨fu, rfl⟩ : ∃ q, fu = q + 1 := ⟨fu - 1, by omega⟩
    have hlen := hk.len
    have hstep : M.impl_cycleFrom_l0 l ks rec_ x = some (bif fol l (lastK ks) x && !(ks.any fun y => y == x) then (bif (f (ks ++ [x])).isEmpty then .inl (x + 1) else .inr (.inr (f (ks ++ [x])))) else .inl (x + 1)) := by
      unfold M.impl_cycleFrom_l0 M.slices_Clone_int_int
      dsimp only
      rw [decide_eq_true (show x ≤ 9 by omega), cond_true, lastG hk, folI l _ _ hl, Option.bind_some, wrap64_id (n := x + 1) (by omega) (by omega)]
      cases fol l (lastK ks) x
      · rfl
      · rw [cond_true, contK ks x (by omega), Option.bind_some]
        cases hn : ks.any fun y => y == x
        · rw [Bool.not_false, Bool.and_self, cond_true, cond_true, asrt_pos (by omega), Option.bind_some, asrt_pos (by simp; omega), hr x (hk.snoc ⟨h1, by omega⟩ hn), Option.bind_some]
          cases (f (ks ++ [x])).isEmpty <;> rfl
        · rfl
    rw [loopO, hstep]
    have ih := cycLoopI l ks hl hk rec_ f hr m (x + 1) (by omega) (by omega) fu (by omega)
    unfold tryK
    cases hg : (fol l (lastK ks) x && !(ks.any fun y => y == x))
    · exact ih
    · rw [cond_true, cond_true]
      cases he : (f (ks ++ [x])).isEmpty
      · simp only [cond_false, he]
      · exact ih

theorem cycI (l : List Trigger) (hl : l.length < 1000000) : ∀ (n : Nat) (ks : List Int), Chain ks → 10 ≤ n + ks.length → M.impl_cycleFrom_r n l ks = some (cyc l n ks)
  | 0, ks, hk, h => by have := hk.len; omega
  | n + 1, ks, hk, h => by
    have hlen := hk.len
    have hne := hk.ne
    show M.impl_cycleFrom_s (M.impl_cycleFrom_r n) l ks = _
    unfold M.impl_cycleFrom_s cyc
    rw [asrt_pos ⟨by omega, by omega⟩, lastG hk, show ks.getD (Int.toNat (0 : Int)) default = headK ks from rfl]
    rw [asrt_pos (by rw [wrap64_id (by omega) (by omega)]; exact ⟨by omega, by omega⟩), folI l _ _ hl, Option.bind_some]
    cases fol l (lastK ks) (headK ks)
    · have hh := hk.head
      rw [cond_false, cond_false, wrap64_id (n := headK ks + 1) (by omega) (by omega)]
      have := cycLoopI l ks hl hk (M.impl_cycleFrom_r n) (cyc l n) (fun x hx => cycI l hl n _ hx (by simp; omega)) (9 - headK ks).toNat (headK ks + 1) (by omega) (by omega) rounds (by unfold rounds; omega)
      rw [show iterO (M.impl_cycleFrom_l0 l ks (M.impl_cycleFrom_r n)) (headK ks + 1) = _ from this, Option.bind_some]
      cases he : (tryK (cyc l n) (fol l (lastK ks)) ks (9 - headK ks).toNat (headK ks + 1)).isEmpty
      · rfl
      · rw [List.isEmpty_iff.1 he]; rfl
    · rw [cond_true, cond_true, asrt_pos (List.length_pos_iff.1 hne)]

theorem cycLoopS (l : List Trigger) (ks : List Int) (hl : l.length < 1000000) (hk : Chain ks) (hf0 : fol l (lastK ks) (headK ks) = false) (rec_ : List Trigger → List Int → Option (List Int × Bool)) (f : List Int → List Int) (hr : ∀ x, Chain (ks ++ [x]) → rec_ l (ks ++ [x]) = some (f (ks ++ [x]), !(f (ks ++ [x])).isEmpty)) :
    ∀ (m : Nat) (x : Int), headK ks < x → x + (m : Int) = 10 → ∀ fu, m < fu → loopO (M.spec_l10Chain_l0 l ks rec_) fu x = some (bif (tryK f (fol l (lastK ks)) ks m x).isEmpty then .inl () else .inr (tryK f (fol l (lastK ks)) ks m x, true))
  | 0, x, h1, h2, fu, hf => by
    obtain ⟨fu, rfl⟩ : ∃ q, fu = q + 1 := ⟨fu - 1, by omega⟩
    have e : M.spec_l10Chain_l0 l ks rec_ x = some (.inr (.inl ())) := by
      unfold M.spec_l10Chain_l0
      dsimp only
      rw [decide_eq_false (by omega)]
      rfl
    rw [loopO, e]
    rfl
  | m + 1, x, h1, h2, fu, hf => by
    obtain ⟨fu, rfl⟩ : ∃ q, fu = q + 1 := ⟨fu - 1, by omega⟩
    have hlen := hk.len
    have hne := hk.ne
    have hh := hk.head
    have hstep : M.spec_l10Chain_l0 l ks rec_ x = some (bif fol l (lastK ks) x && !(ks.any fun y => y == x) then (bif (f (ks ++ [x])).isEmpty then .inl (x + 1) else .inr (.inr (f (ks ++ [x]), true))) else .inl (x + 1)) := by
      unfold M.spec_l10Chain_l0 M.spec_l1Own
      dsimp only
      rw [decide_eq_true (show x ≤ 9 by omega), cond_true, folS l ks x hl, Option.bind_some, lastG hk, wrap64_id (n := x + 1) (by omega) (by omega)]
      try dsimp only
      cases fol l (lastK ks) x
      · rfl
      · rw [Bool.not_true, cond_false, asrt_pos ⟨by omega, by omega⟩, show ks.getD (Int.toNat (0 : Int)) default = headK ks from rfl, show (x == headK ks) = false by rw [beq_eq_false_iff_ne]; omega, cond_false, hasK ks x (by omega), Option.bind_some]
        cases hn : ks.any fun y => y == x
        · rw [cond_false, Bool.not_false, Bool.and_self, cond_true, List.nil_append, asrt_pos (by simp; omega), Option.bind_some, asrt_pos (by simp; omega), hr x (hk.snoc ⟨by omega, by omega⟩ hn), Option.bind_some]
          cases (f (ks ++ [x])).isEmpty <;> rfl
        · rfl
    rw [loopO, hstep]
    have ih := cycLoopS l ks hl hk hf0 rec_ f hr m (x + 1) (by omega) (by omega) fu (by omega)
    unfold tryK
    cases hg : (fol l (lastK ks) x && !(ks.any fun y => y == x))
    · exact ih
    · rw [cond_true, cond_true]
      cases he : (f (ks ++ [x])).isEmpty
      · simp only [cond_false, he]
      · exact ih

theorem cycS (l : List Trigger) (hl : l.length < 1000000) : ∀ (n : Nat) (ks : List Int), Chain ks → 10 ≤ n + ks.length → M.spec_l10Chain_r n l ks = some (cyc l n ks, !(cyc l n ks).isEmpty)
  | 0, ks, hk, h => by have := hk.len; omega
  | n + 1, ks, hk, h => by
    have hlen := hk.len
    have hne := hk.ne
    have hh := hk.head
    show M.spec_l10Chain_s (M.spec_l10Chain_r n) l ks = _
    unfold M.spec_l10Chain_s cyc
    rw [asrt_pos (by rw [wrap64_id (by omega) (by omega)]; exact ⟨by omega, by omega⟩), asrt_pos ⟨by omega, by omega⟩, show ks.getD (Int.toNat (0 : Int)) default = headK ks from rfl]
    obtain ⟨r, hr⟩ : ∃ r, rounds = r + 1 := ⟨rounds - 1, by unfold rounds; omega⟩
    have hr1 : 10 < r := by unfold rounds at hr; omega
    cases hf : fol l (lastK ks) (headK ks)
    · have e : M.spec_l10Chain_l0 l ks (M.spec_l10Chain_r n) (headK ks) = some (.inl (headK ks + 1)) := by
        unfold M.spec_l10Chain_l0
        dsimp only
        rw [decide_eq_true (show headK ks ≤ 9 by omega), cond_true, folS l ks _ hl, Option.bind_some, lastG hk, hf, wrap64_id (n := headK ks + 1) (by omega) (by omega)]
        rfl
      have := cycLoopS l ks hl hk hf (M.spec_l10Chain_r n) (cyc l n) (fun x hx => cycS l hl n _ hx (by simp; omega)) (9 - headK ks).toNat (headK ks + 1) (by omega) (by omega) r (by omega)
      have e2 : iterO (M.spec_l10Chain_l0 l ks (M.spec_l10Chain_r n)) (headK ks) = loopO (M.spec_l10Chain_l0 l ks (M.spec_l10Chain_r n)) r (headK ks + 1) := by
        unfold iterO
        rw [hr, loopO, e]
      rw [e2, this, Option.bind_some, cond_false]
      cases he : (tryK (cyc l n) (fol l (lastK ks)) ks (9 - headK ks).toNat (headK ks + 1)).isEmpty
      · rfl
      · rw [List.isEmpty_iff.1 he]; rfl
    · have e : M.spec_l10Chain_l0 l ks (M.spec_l10Chain_r n) (headK ks) = some (.inr (.inr (ks, true))) := by
        unfold M.spec_l10Chain_l0
        dsimp only
        rw [decide_eq_true (show headK ks ≤ 9 by omega), cond_true, folS l ks _ hl, Option.bind_some, lastG hk, hf]
        try dsimp only
        rw [Bool.not_true, cond_false, asrt_pos ⟨by omega, by omega⟩, show ks.getD (Int.toNat (0 : Int)) default = headK ks from rfl, beq_self_eq_true]
        rfl
      have e2 : iterO (M.spec_l10Chain_l0 l ks (M.spec_l10Chain_r n)) (headK ks) = some (.inr (ks, true)) := by
        unfold iterO
        rw [hr, loopO, e]
      rw [e2, Option.bind_some, cond_true]
      have : ks.isEmpty = false := by
        cases ks with
        | nil => simp at hne
        | cons x t => rfl
      rw [this]; rfl

def firstC (l : List Trigger) : Nat → Int → List Int
  | 0, _ => []
  | m + 1, x => bif (cyc l rounds [x]).isEmpty then firstC l m (x + 1) else cyc l rounds [x]
theorem chain_one {x : Int} (h : 1 ≤ x ∧ x ≤ 9) : Chain [x] := ⟨by simp, by simp, fun y hy => by rw [List.mem_singleton.1 hy]; exact h⟩
theorem fcLoopI (l : List Trigger) (hl : l.length < 1000000) : ∀ (m : Nat) (x : Int), 1 ≤ x → x + (m : Int) = 10 → ∀ fu, m < fu → loopO (M.impl_firstCycle_l0 l) fu x = some (bif (firstC l m x).isEmpty then .inl () else .inr (firstC l m x))
  | 0, x, h1, h2, fu, hf => by
    obtain ⟨fu, rfl⟩ : ∃ q, fu = q + 1 := ⟨fu - 1, by omega⟩
    have e : M.impl_firstCycle_l0 l x = some (.inr (.inl ())) := by
      unfold M.impl_firstCycle_l0
      dsimp only
      rw [decide_eq_false (by omega)]
      rfl
    rw [loopO, e]
    rfl
  | m + 1, x, h1, h2, fu, hf => by
    obtain ⟨fu, rfl⟩ : ∃ q, fu = q + 1 := ⟨fu - 1, by omega⟩
    have hstep : M.impl_firstCycle_l0 l x = some (bif (cyc l rounds [x]).isEmpty then .inl (x + 1) else .inr (.inr (cyc l rounds [x]))) := by
      unfold M.impl_firstCycle_l0 M.impl_cycleFrom
      dsimp only
      rw [decide_eq_true (show x ≤ 9 by omega), cond_true, cycI l hl rounds [x] (chain_one ⟨h1, by omega⟩) (by unfold rounds; simp), Option.bind_some, wrap64_id (n := x + 1) (by omega) (by omega)]
      cases (cyc l rounds [x]).isEmpty <;> rfl
    have ih := fcLoopI l hl m (x + 1) (by omega) (by omega) fu (by omega)
    rw [loopO, hstep]
    unfold firstC
    cases he : (cyc l rounds [x]).isEmpty
    · simp only [cond_false, he]
    · exact ih
theorem fcLoopS (l : List Trigger) (hl : l.length < 1000000) : ∀ (m : Nat) (x : Int), 1 ≤ x → x + (m : Int) = 10 → ∀ fu, m < fu → loopO (M.spec_l10Cycle_l0 l) fu x = some (bif (firstC l m x).isEmpty then .inl () else .inr (firstC l m x, true))
  | 0, x, h1, h2, fu, hf => by
    obtain ⟨fu, rfl⟩ : ∃ q, fu = q + 1 := ⟨fu - 1, by omega⟩
    have e : M.spec_l10Cycle_l0 l x = some (.inr (.inl ())) := by
      unfold M.spec_l10Cycle_l0
      dsimp only
      rw [decide_eq_false (by omega)]
      rfl
    rw [loopO, e]
    rfl
  | m + 1, x, h1, h2, fu, hf => by
    obtain ⟨fu, rfl⟩ : ∃ q, fu = q + 1 := ⟨fu - 1, by omega⟩
    have hstep : M.spec_l10Cycle_l0 l x = some (bif (cyc l rounds [x]).isEmpty then .inl (x + 1) else .inr (.inr (cyc l rounds [x], true))) := by
      unfold M.spec_l10Cycle_l0 M.spec_l10Chain
      dsimp only
      rw [decide_eq_true (show x ≤ 9 by omega), cond_true, cycS l hl rounds [x] (chain_one ⟨h1, by omega⟩) (by unfold rounds; simp), Option.bind_some, wrap64_id (n := x + 1) (by omega) (by omega)]
      cases (cyc l rounds [x]).isEmpty <;> rfl
    have ih := fcLoopS l hl m (x + 1) (by omega) (by omega) fu (by omega)
    rw [loopO, hstep]
    unfold firstC
    cases he : (cyc l rounds [x]).isEmpty
    · simp only [cond_false, he]
    · exact ih
def firstK (l : List Trigger) : List Int := firstC l 9 1
theorem fcI (l : List Trigger) (hl : l.length < 1000000) : M.impl_firstCycle l = some (firstK l) := by
  unfold M.impl_firstCycle firstK
  rw [show iterO (M.impl_firstCycle_l0 l) (1 : Int) = _ from fcLoopI l hl 9 1 (by omega) (by omega) rounds (by unfold rounds; omega), Option.bind_some]
  cases he : (firstC l 9 1).isEmpty
  · rfl
  · rw [List.isEmpty_iff.1 he]; rfl
theorem fcS (l : List Trigger) (hl : l.length < 1000000) : M.spec_l10Cycle l = some (firstK l, !(firstK l).isEmpty) := by
  unfold M.spec_l10Cycle firstK
  rw [show iterO (M.spec_l10Cycle_l0 l) (1 : Int) = _ from fcLoopS l hl 9 1 (by omega) (by omega) rounds (by unfold rounds; omega), Option.bind_some]
  cases he : (firstC l 9 1).isEmpty
  · rfl
  · rw [List.isEmpty_iff.1 he]; rfl

structure Cyc (l : List Trigger) (r : List Int) : Prop where
  nxt : ∀ k, k + 1 < r.length → fol l (r.getD k default) (r.getD (k + 1) default) = true
  end_ : fol l (lastK r) (headK r) = true
  low : ∀ x ∈ r, headK r ≤ x
  len : r.length ≤ 9
structure Pre (l : List Trigger) (r : List Int) : Prop extends Chain r where
  nxt : ∀ k, k + 1 < r.length → fol l (r.getD k default) (r.getD (k + 1) default) = true
  low : ∀ x ∈ r, headK r ≤ x
theorem Pre.snoc {l : List Trigger} {ks : List Int} (h : Pre l ks) {x : Int} (hx : headK ks < x ∧ x ≤ 9) (hf : fol l (lastK ks) x = true) (hn : (ks.any fun y => y == x) = false) : Pre l (ks ++ [x]) := by
  have hne := h.ne
  have hh := h.toChain.head
  have e0 : headK (ks ++ [x]) = headK ks := by
    cases ks with
    | nil => simp at hne
    | cons y t => rfl
  refine ⟨h.toChain.snoc ⟨by omega, hx.2⟩ hn, fun k hk => ?_, fun y hy => ?_⟩
  · rw [List.length_append, List.length_singleton] at hk
    by_cases q : k + 1 < ks.length
    · have := h.nxt k q
      simpa [List.getD, List.getElem?_append_left q, List.getElem?_append_left (show k < ks.length by omega)] using this
    · have q1 : k = ks.length - 1 := by omega
      have q2 : k + 1 = ks.length := by omega
      have e1 : (ks ++ [x]).getD k default = lastK ks := by
        unfold lastK
        rw [q1]
        simp [List.getD, List.getElem?_append_left (show ks.length - 1 < ks.length by omega)]
      have e2 : (ks ++ [x]).getD (k + 1) default = x := by rw [q2]; simp [List.getD]
      rw [e1, e2]; exact hf
  · rw [e0]
    rcases List.mem_append.1 hy with q | q
    · exact h.low y q
    · rw [List.mem_singleton.1 q]; omega
end Go.Proofs.YtjfpdbhjoofllaaGreat
