/-
  Events of a record: one that is added and dropped again leaves no trace. Plain.
-/
import Derived.Test.YtjfpdbhjoofllaaHc
import Derived.Test.YtjfpdbhjoofllaaLi
set_option linter.unusedSimpArgs false
set_option linter.unusedVariables false
namespace Go.Proofs.Ytjfpdbhjoofllaa
open Go.VS

/-! ### Sorted events -/
def evLo (l : List Event) (k : Int) : List Event := l.filter fun x => decide (x.Kind < k)
def evHi (l : List Event) (k : Int) : List Event := l.filter fun x => !decide (x.Kind < k)
def Srt (l : List Event) : Prop := l.Pairwise fun a b => a.Kind < b.Kind
theorem ev_split (k : Int) : ∀ {l : List Event}, Srt l → l = evLo l k ++ evHi l k
  | [], _ => rfl
  | x :: l, h => by
    obtain ⟨h1, h2⟩ := List.pairwise_cons.1 h
    unfold evLo evHi
    by_cases hx : x.Kind < k
    · rw [List.filter_cons_of_pos (by simpa using hx), List.filter_cons_of_neg (by simpa using hx), List.cons_append]
      exact congrArg (x :: ·) (ev_split k h2)
    · rw [List.filter_cons_of_neg (by simpa using hx), List.filter_cons_of_pos (by simpa using hx), List.filter_eq_nil_iff.2 (fun y hy => by have := h1 y hy; simp; omega), List.filter_eq_self.2 (fun y hy => by have := h1 y hy; simp; omega)]
      rfl
theorem evLo_mem {l : List Event} {k : Int} {x : Event} (h : x ∈ evLo l k) : x ∈ l ∧ x.Kind < k := by
  obtain ⟨h1, h2⟩ := List.mem_filter.1 h
  exact ⟨h1, by simpa using h2⟩
theorem evHi_mem {l : List Event} {k : Int} {x : Event} (h : x ∈ evHi l k) : x ∈ l ∧ k ≤ x.Kind := by
  obtain ⟨h1, h2⟩ := List.mem_filter.1 h
  exact ⟨h1, by simpa using h2⟩
theorem evs_iff {r : Record} : evsOk r = true ↔ (∀ e ∈ r.Events, (!evOk e || decide (e.Day < r.Made)) = false) ∧ Srt r.Events := by
  unfold evsOk Srt
  rw [rise_pw (fun a b c h1 h2 => by simp only [decide_eq_false_iff_not] at h1 h2 ⊢; omega)]
  refine and_congr Iff.rfl ⟨fun h => h.imp fun h => ?_, fun h => h.imp fun h => ?_⟩
  · simp only [decide_eq_false_iff_not] at h; omega
  · simp only [decide_eq_false_iff_not]; omega
theorem rec_srt {r : Record} (h : recOk r = true) : Srt r.Events := by
  unfold recOk at h
  rw [Bool.and_eq_true] at h
  exact (evs_iff.1 h.2).2
theorem rec_len {r : Record} (h : recOk r = true) : r.Events.length ≤ 6 := (recOk_spec h).2.2.2.1
theorem getDlo {a b : List Event} {k : Nat} (h : k < a.length) : (a ++ b).getD k default = a.getD k default := by simp [List.getD, List.getElem?_append_left h]
theorem getDhi {a b : List Event} {k : Nat} (h : a.length ≤ k) : (a ++ b).getD k default = b.getD (k - a.length) default := by simp [List.getD, List.getElem?_append_right h]
theorem cutE {l a z : List Event} (h : l = a ++ z) : l.take a.length = a ∧ l.drop a.length = z := by subst h; simp
theorem placeE (r : Record) (e : Event) (a z : List Event) (h : r.Events = a ++ z) (ha : ∀ x ∈ a, x.Kind < e.Kind) (hz : ∀ x ∈ z, e.Kind ≤ x.Kind) (hl : r.Events.length < 1000000) : iterO (M.impl_AddEvent_l0 r e) 0 = some (a.length : Int) := by
  have hL : r.Events.length = a.length + z.length := by rw [h, List.length_append]
  refine iter_up (s := 0) (fun k => (k : Int)) a.length rfl (by omega) (fun k hk => ?_) ?_
  · have hx := ha _ (getD_mem hk)
    unfold M.impl_AddEvent_l0
    dsimp only
    rw [asrt_pos (fun _ => ⟨by omega, by omega⟩), decide_eq_true (show (k : Int) < (r.Events.length : Int) by omega), Int.toNat_natCast, h, getDlo hk, decide_eq_true hx, Bool.and_self, cond_true, wrap64_id (by omega) (by omega)]
    rfl
  · unfold M.impl_AddEvent_l0
    dsimp only
    by_cases hk : a.length < r.Events.length
    · have hx := hz _ (getD_mem (show 0 < z.length by omega))
      rw [asrt_pos (fun _ => ⟨by omega, by omega⟩), Int.toNat_natCast, h, getDhi (Nat.le_refl _), Nat.sub_self, decide_eq_false (show ¬ (z.getD 0 default).Kind < e.Kind by omega), Bool.and_false]
      rfl
    · rw [decide_eq_false (show ¬ ((a.length : Int) < (r.Events.length : Int)) by omega), asrt_pos (fun h => by cases h), Bool.false_and]
      rfl
theorem placeES (r : Record) (e : Event) : M.spec_AddEvent_l0 r e = M.impl_AddEvent_l0 r e := rfl

/-! ### An event is added -/
def noRec : Record := ⟨0, 0, 0, []⟩
def addR (r : Record) (e : Event) : Record := ⟨r.Id, r.Series, r.Made, evLo r.Events e.Kind ++ [e] ++ evHi r.Events e.Kind⟩
def AddD (r : Record) (e : Event) : Record × Bool := bif (recOk r && evOk e) && recOk (addR r e) then (addR r e, true) else (noRec, false)
theorem addR_len {r : Record} {e : Event} : (addR r e).Events.length ≤ 2 * r.Events.length + 1 := by
  unfold addR evLo evHi
  have h1 := List.length_filter_le (fun x : Event => decide (x.Kind < e.Kind)) r.Events
  have h2 := List.length_filter_le (fun x : Event => !decide (x.Kind < e.Kind)) r.Events
  simp only [List.length_append, List.length_singleton]
  omega
theorem AddD_len {r : Record} {e : Event} (hl : r.Events.length < 1000) : (AddD r e).1.Events.length < 1000000 := by
  unfold AddD
  cases (recOk r && evOk e) && recOk (addR r e)
  · simp [noRec]
  · have := addR_len (r := r) (e := e)
    show (addR r e).Events.length < 1000000
    omega
theorem addI (r : Record) (e : Event) (hl : r.Events.length < 1000) : M.impl_AddEvent r e = some (AddD r e) := by
  unfold M.impl_AddEvent AddD
  rw [recI r (by omega), Option.bind_some]
  cases h1 : recOk r
  · rfl
  rw [Bool.not_true, cond_false, evI, Option.bind_some]
  cases h2 : evOk e
  · rfl
  have hs := ev_split e.Kind (rec_srt h1)
  have hL : r.Events.length = (evLo r.Events e.Kind).length + (evHi r.Events e.Kind).length := by rw [← List.length_append, ← hs]
  obtain ⟨c1, c2⟩ := cutE hs
  rw [Bool.not_true, Bool.or_self, cond_false, placeE r e _ _ hs (fun x h => (evLo_mem h).2) (fun x h => (evHi_mem h).2) (by omega), Option.bind_some]
  dsimp only
  unfold M.slices_Clone_impl_Event_impl_Event M.slices_Insert_impl_Event_impl_Event
  rw [asrt_pos (by omega), Option.bind_some, asrt_pos ⟨by omega, by omega, by omega, rfl⟩, Option.bind_some, Int.toNat_natCast, c1, c2, Option.bind_some]
  have hA := addR_len (r := r) (e := e)
  show ((M.impl_IsRecord (addR r e)).bind fun y5 => bif (!y5) then some (noRec, false) else some (addR r e, true)) = _
  rw [recI _ (by omega), Option.bind_some, Bool.and_self, Bool.true_and]
  cases recOk (addR r e) <;> rfl
theorem day_none {r : Record} {k : Int} (h : recOk r = true) (hk : k ≠ 0) : decide (dayOf r k < 0) = !(r.Events.any fun e => e.Kind == k) := by
  have hb := (recOk_spec h).2.2.2.2
  have hm := (recOk_spec h).2.2.1
  unfold dayOf
  rw [if_neg hk]
  cases hf : r.Events.find? (fun e => e.Kind == k) with
  | none =>
    have := List.find?_eq_none.1 hf
    rw [show (r.Events.any fun e => e.Kind == k) = false from by rw [List.any_eq_false]; exact this]
    rfl
  | some x =>
    have h1 := List.mem_of_find?_eq_some hf
    have h2 := List.find?_some hf
    have h3 := (hb x h1).2
    rw [show (r.Events.any fun e => e.Kind == k) = true from List.any_eq_true.2 ⟨x, h1, h2⟩]
    simp only
    rw [decide_eq_false (by omega)]
    rfl
theorem add_twice {r : Record} {e : Event} (h : recOk r = true) (hd : (r.Events.any fun x => x.Kind == e.Kind) = true) : recOk (addR r e) = false := by
  rw [Bool.eq_false_iff]
  intro hc
  have hs := rec_srt hc
  obtain ⟨x, hx, hx2⟩ := List.any_eq_true.1 hd
  have hx2 := eq_of_beq hx2
  unfold addR Srt at hs
  dsimp only at hs
  rw [ev_split e.Kind (rec_srt h), List.mem_append] at hx
  rcases hx with hx | hx
  · have := (evLo_mem hx).2; omega
  · rw [List.append_assoc, List.singleton_append, List.pairwise_append, List.pairwise_cons] at hs
    have := hs.2.1.1 x hx
    omega
theorem addS (r : Record) (e : Event) (hl : r.Events.length < 1000) : M.spec_AddEvent r e = some (AddD r e) := by
  unfold M.spec_AddEvent AddD
  rw [recS r (by omega), Option.bind_some]
  cases h1 : recOk r
  · rfl
  rw [Bool.not_true, cond_false, evS, Option.bind_some]
  cases h2 : evOk e
  · rfl
  have hk : e.Kind ≠ 0 := by
    unfold evOk at h2
    rw [Bool.and_eq_true] at h2
    have := inR_true.1 h2.1
    omega
  rw [Bool.not_true, Bool.or_self, cond_false, dayS r _ (by omega), Option.bind_some]
  have hg : decide (dayOf r e.Kind ≥ 0) = r.Events.any fun x => x.Kind == e.Kind := by
    have := day_none h1 hk
    rw [show decide (dayOf r e.Kind ≥ 0) = !decide (dayOf r e.Kind < 0) by rw [Bool.eq_iff_iff]; simp, this, Bool.not_not]
  rw [hg]
  cases hd : r.Events.any fun x => x.Kind == e.Kind
  · have hs := ev_split e.Kind (rec_srt h1)
    have hL : r.Events.length = (evLo r.Events e.Kind).length + (evHi r.Events e.Kind).length := by rw [← List.length_append, ← hs]
    obtain ⟨c1, c2⟩ := cutE hs
    obtain ⟨s1, s2⟩ := slc_take (l := r.Events) (k := (evLo r.Events e.Kind).length) (by omega)
    have hA := addR_len (r := r) (e := e)
    rw [Bool.or_false, cond_false, placeES, placeE r e _ _ hs (fun x h => (evLo_mem h).2) (fun x h => (evHi_mem h).2) (by omega), Option.bind_some]
    dsimp only
    rw [s1, s2, c1, c2, List.nil_append, asrt_pos ⟨by omega, by omega, by omega⟩, asrt_pos (by simp; omega), asrt_pos (by simp; omega), asrt_pos ⟨by omega, by omega, by omega⟩, asrt_pos (by simp; omega), Option.bind_some]
    show ((M.spec_l2Record (addR r e)).bind fun y4 => bif (!y4) then some (noRec, false) else some (addR r e, true)) = _
    rw [recS _ (by omega), Option.bind_some, Bool.and_self, Bool.true_and]
    cases recOk (addR r e) <;> rfl
  · rw [add_twice h1 hd]
    rfl

/-! ### An event is dropped -/
def dropR (r : Record) (k : Int) : Record := ⟨r.Id, r.Series, r.Made, r.Events.filter fun e => e.Kind != k⟩
def DropD (r : Record) (k : Int) : Record × Bool := bif recOk r && (r.Events.any fun e => e.Kind == k) then (dropR r k, true) else (noRec, false)
theorem DropD_len {r : Record} {k : Int} (hl : r.Events.length < 1000000) : (DropD r k).1.Events.length < 1000000 := by
  unfold DropD
  cases recOk r && (r.Events.any fun e => e.Kind == k)
  · simp [noRec]
  · have := List.length_filter_le (fun e : Event => e.Kind != k) r.Events
    show (r.Events.filter fun e => e.Kind != k).length < 1000000
    omega
theorem srt_drop {l a b : List Event} {x : Event} (hs : Srt l) (h : l = a ++ x :: b) : (l.filter fun e => e.Kind != x.Kind) = a ++ b := by
  subst h
  unfold Srt at hs
  rw [List.pairwise_append, List.pairwise_cons] at hs
  rw [List.filter_append, List.filter_cons_of_neg (by simp), List.filter_eq_self.2 (fun y hy => by have := hs.2.2 y hy x (by simp); simp; omega), List.filter_eq_self.2 (fun y hy => by have := hs.2.1.1 y hy; simp; omega)]
theorem delAtE (s : List Event) (k : Nat) (hk : k < s.length) (hl : s.length < 1000000) : M.slices_Delete_impl_Event_impl_Event s (k : Int) ((k : Int) + 1) = some (s.take k ++ s.drop (k + 1)) := by
  unfold M.slices_Delete_impl_Event_impl_Event
  have e1 : Int.toNat ((k : Int) + 1) = k + 1 := by omega
  have e2 : ((k : Int) == (k : Int) + 1) = false := by rw [beq_eq_false_iff_ne]; omega
  rw [asrt_pos ⟨by omega, by omega, by omega, by omega⟩, e2, cond_false]
  simp only [e1, Int.toNat_natCast, Int.toNat_zero, Nat.sub_zero, Nat.zero_add]
  have hd : (s.drop (k + 1)).length = s.length - (k + 1) := List.length_drop
  rw [List.take_of_length_le (Nat.le_of_eq hd)]
  have ht : (s.take k).length = k := by rw [List.length_take]; omega
  have hX : (s.take k ++ s.drop (k + 1)).length = k + (s.drop (k + 1)).length := by rw [List.length_append, ht]
  have hdd : (s.drop (k + (s.drop (k + 1)).length)).length = s.length - (k + (s.drop (k + 1)).length) := List.length_drop
  rw [asrt_pos (by omega), asrt_pos (by omega), asrt_pos (by omega), asrt_pos (by omega)]
  have hY : (s.take k ++ s.drop (k + 1) ++ s.drop (k + (s.drop (k + 1)).length)).length = s.length := by rw [List.length_append, hX, hdd]; omega
  rw [asrt_pos ⟨by omega, by omega, by simp only [hY]; omega⟩, asrt_pos (by rw [hY]; omega)]
  have t1 : (s.take k ++ s.drop (k + 1) ++ s.drop (k + (s.drop (k + 1)).length)).take (k + (s.drop (k + 1)).length) = s.take k ++ s.drop (k + 1) := by
    rw [← hX, List.take_left]
  rw [t1, asrt_pos (by rw [List.length_append, List.length_append, hX]; omega), List.append_assoc, ← hX, List.take_left]
theorem evAtI (r : Record) (k : Int) (hl : r.Events.length < 1000000) : M.impl_eventAt r k = some (firstAt (fun e : Event => e.Kind == k) r.Events) := by
  have h := iter_first (step := M.slices_IndexFunc_impl_Event_impl_Event_l0 r.Events (fun x0 => M.impl_eventAt_1 x0 k)) (fun e : Event => e.Kind == k) r.Events (by omega) (fun i hi => by
    unfold M.slices_IndexFunc_impl_Event_impl_Event_l0 M.impl_eventAt_1
    dsimp only
    rw [decide_eq_true (show (i : Int) < (r.Events.length : Int) by omega), cond_true, asrt_pos ⟨by omega, by omega⟩, Int.toNat_natCast, Option.bind_some, wrap64_id (by omega) (by omega)]
    cases (r.Events.getD i default).Kind == k <;> rfl) (by
    unfold M.slices_IndexFunc_impl_Event_impl_Event_l0
    dsimp only
    rw [decide_eq_false (by omega)]
    rfl)
  exact (congrArg (fun o => Option.bind o fun y0 => some y0) h).trans rfl
theorem dropEI (r : Record) (k : Int) (hl : r.Events.length < 1000000) : M.impl_DropEvent r k = some (DropD r k) := by
  unfold M.impl_DropEvent DropD
  rw [evAtI r k hl, Option.bind_some, recI r hl, Option.bind_some]
  cases h1 : recOk r
  · rfl
  rw [firstAt_neg, Bool.not_true, Bool.false_or, Bool.true_and]
  cases h2 : r.Events.any fun e => e.Kind == k
  · rfl
  obtain ⟨p1, p2, p3, p4⟩ := firstAt_at h2
  have p4 := eq_of_beq p4
  rw [Bool.not_true, cond_false, cond_true]
  unfold M.impl_copyRecord M.slices_Clone_impl_Event_impl_Event
  rw [asrt_pos (by omega), Option.bind_some, Option.bind_some, wrap64_id (by omega) (by omega)]
  dsimp only
  have hi : firstAt (fun e : Event => e.Kind == k) r.Events = ((firstAt (fun e : Event => e.Kind == k) r.Events).toNat : Int) := by omega
  rw [hi, delAtE _ _ p2 hl, Option.bind_some]
  have hc : r.Events = r.Events.take (firstAt (fun e : Event => e.Kind == k) r.Events).toNat ++ r.Events.getD (firstAt (fun e : Event => e.Kind == k) r.Events).toNat default :: r.Events.drop ((firstAt (fun e : Event => e.Kind == k) r.Events).toNat + 1) := by
    rw [getD_el p2, ← List.drop_eq_getElem_cons p2, List.take_append_drop]
  have hf := srt_drop (rec_srt h1) hc
  rw [p4] at hf
  unfold dropR
  rw [hf]
theorem dropES (r : Record) (k : Int) (hl : r.Events.length < 1000000) : M.spec_DropEvent r k = some (DropD r k) := by
  unfold M.spec_DropEvent DropD
  rw [recS r hl, Option.bind_some]
  cases h1 : recOk r
  · rfl
  by_cases hk : k = 0
  · have h2 : (r.Events.any fun e => e.Kind == k) = false := by
      rw [List.any_eq_false]
      intro x hx
      have := ((recOk_spec h1).2.2.2.2 x hx).1
      simp
      omega
    rw [h2, hk]
    rfl
  rw [show (k == 0) = false from beq_eq_false_iff_ne.2 hk, Bool.not_true, Bool.or_self, cond_false, dayS r k hl, Option.bind_some, day_none h1 hk, Bool.true_and]
  cases h2 : r.Events.any fun e => e.Kind == k
  · rfl
  rw [Bool.not_true, Bool.or_self, cond_false, cond_true]
  rw [iter_coll (s := ((0 : Int), ([] : List Event))) (step := M.spec_DropEvent_l0 r k) (fun a i => ((i : Int), a)) (fun e : Event => bif e.Kind != k then [e] else []) id r.Events rfl (by omega) (fun k _ => if_len _ _) (fun a i hi ha => by
    unfold M.spec_DropEvent_l0
    dsimp only
    rw [decide_eq_true (show (i : Int) < (r.Events.length : Int) by omega), cond_true, asrt_pos ⟨by omega, by omega⟩, Int.toNat_natCast, wrap64_id (by omega) (by omega), app_if]
    cases (r.Events.getD i default).Kind != k
    · rfl
    · rw [cond_true, cond_true, asrt_pos ⟨by omega, by omega⟩, asrt_pos (by simp; omega)]
      rfl) (fun a ha => by
    unfold M.spec_DropEvent_l0
    dsimp only
    rw [decide_eq_false (by omega)]
    rfl)]
  simp only [id, Option.bind_some, flatMap_if, List.map_id']
  rfl

/-! ### Days -/
def DayD (r : Record) (k : Int) : Int × Bool := bif recOk r && !decide (dayOf r k < 0) then (dayOf r k, true) else (0, false)
theorem dayDI (r : Record) (k : Int) (hl : r.Events.length < 1000000) : M.impl_DayOf r k = some (DayD r k) := by
  unfold M.impl_DayOf DayD
  rw [recI r hl, Option.bind_some]
  cases h1 : recOk r
  · rfl
  have hb := recOk_spec h1
  rw [Bool.not_true, cond_false, dayI r k hl (fun e he => by have := hb.2.2.2.2 e he; omega) hb.2.2.1.1, Option.bind_some, Bool.true_and]
  cases decide (dayOf r k < 0) <;> rfl
theorem dayDS (r : Record) (k : Int) (hl : r.Events.length < 1000000) : M.spec_DayOf r k = some (DayD r k) := by
  unfold M.spec_DayOf DayD
  rw [recS r hl, Option.bind_some]
  cases h1 : recOk r
  · rfl
  rw [Bool.not_true, cond_false, dayS r k hl, Option.bind_some, Bool.true_and, Option.bind_some]
  cases decide (dayOf r k < 0) <;> rfl

/-! ### The law -/
theorem back_same {r : Record} {e : Event} (h1 : recOk r = true) (h2 : recOk (addR r e) = true) : DropD (addR r e) e.Kind = (r, true) := by
  have ha : ((addR r e).Events.any fun x => x.Kind == e.Kind) = true := List.any_eq_true.2 ⟨e, by simp [addR], beq_self_eq_true _⟩
  have hf : ((addR r e).Events.filter fun x => x.Kind != e.Kind) = r.Events := by
    rw [srt_drop (a := evLo r.Events e.Kind) (b := evHi r.Events e.Kind) (x := e) (rec_srt h2) (by simp [addR])]
    exact (ev_split e.Kind (rec_srt h1)).symm
  unfold DropD
  rw [h2, ha, Bool.and_self, cond_true]
  unfold dropR
  rw [hf]
  rfl
theorem day_added {r : Record} {e : Event} (he : evOk e = true) (h1 : recOk r = true) (h2 : recOk (addR r e) = true) : DayD (addR r e) e.Kind = (e.Day, true) := by
  unfold evOk at he
  rw [Bool.and_eq_true] at he
  have k1 := inR_true.1 he.1
  have k2 := inR_true.1 he.2
  have hd : dayOf (addR r e) e.Kind = e.Day := by
    unfold dayOf addR
    dsimp only
    rw [if_neg (by omega), List.append_assoc, List.find?_append, List.find?_eq_none.2 (fun x hx => by have := (evLo_mem hx).2; simp; omega), Option.none_or, List.singleton_append, List.find?_cons_of_pos (by simp)]
  unfold DayD
  rw [h2, hd, decide_eq_false (by omega)]
  rfl
theorem day_dropped {r : Record} {k : Int} (h1 : recOk r = true) (h2 : (r.Events.any fun e => e.Kind == k) = true) : (DayD (dropR r k) k).2 = false := by
  have hk : k ≠ 0 := by
    obtain ⟨x, hx, hx2⟩ := List.any_eq_true.1 h2
    have := ((recOk_spec h1).2.2.2.2 x hx).1
    have := eq_of_beq hx2
    omega
  have hd : dayOf (dropR r k) k = -1 := by
    unfold dayOf dropR
    dsimp only
    rw [if_neg hk, List.find?_eq_none.2 (fun x hx => by have := (List.mem_filter.1 hx).2; simpa using this)]
  unfold DayD
  rw [hd]
  cases recOk (dropR r k) <;> rfl
theorem vEvsE (a : List Event) (hl : a.length < 1000000) : M.laws_vEvents a a = some true := by
  unfold M.laws_vEvents
  rw [bne_self_eq_false, cond_false]
  rw [iter_up (s := 0) (step := M.laws_vEvents_l0 a a) (e := .inl ()) (fun k => (k : Int)) a.length rfl (by omega) (fun k hk => by
    unfold M.laws_vEvents_l0
    simp (disch := first | omega | (intros; simp only [decide_eq_true_eq, decide_eq_false_iff_not, Bool.not_eq_true, Bool.not_eq_false, Bool.not_true, Bool.not_false] at *; omega)) only [cast_succ, asrt_pos, wrap64_id, Option.bind_some, cond_true, cond_false, decide_eq_true, decide_eq_false, Int.toNat_natCast, Bool.not_true, Bool.not_false, Bool.and_true, Bool.true_and, Bool.and_false, Bool.false_and, Bool.or_true, Bool.true_or, Bool.or_false, Bool.false_or, beq_self_eq_true]) (by
    unfold M.laws_vEvents_l0
    simp (disch := first | omega | (intros; simp only [decide_eq_true_eq, decide_eq_false_iff_not, Bool.not_eq_true, Bool.not_eq_false, Bool.not_true, Bool.not_false] at *; omega)) only [cast_succ, asrt_pos, wrap64_id, Option.bind_some, cond_true, cond_false, decide_eq_true, decide_eq_false, Int.toNat_natCast, Bool.not_true, Bool.not_false, Bool.and_true, Bool.true_and, Bool.and_false, Bool.false_and, Bool.or_true, Bool.true_or, Bool.or_false, Bool.false_or])]
  rfl
theorem vRecE (a : Record) (hl : a.Events.length < 1000000) : M.laws_vRecord a a = some true := by
  unfold M.laws_vRecord
  rw [beq_self_eq_true, beq_self_eq_true, beq_self_eq_true, Bool.and_self, Bool.and_self, cond_true, vEvsE _ hl]
  rfl
theorem good0e {code : List Int} : Good code 0 (⟨code, 0, 0⟩ : Cur) := ⟨rfl, Int.le_refl _, Int.le_refl _⟩
theorem drawEv {code : List Int} {k : Nat} {c : Cur} (hb : Bytes code) (h : Good code k c) (hk : k < 1000000) (x : Int) : T (M.spec_l1Cur_event c x) (fun _ => True) := by
  unfold M.spec_l1Cur_event
  refine T_pick hb h (by omega) ?_
  intro x0 c0 _ _ h0
  refine T_among hb h0 (by omega) (by simp) ?_
  intro x1 c1 _ h1
  refine T_pick hb h1 (by omega) ?_
  intro x2 c2 _ _ h2
  dsimp only
  refine T.then (Q := fun _ => True) ?_ (fun s _ => T_ret trivial)
  refine T_if (fun _ => ?_) (fun _ => T_if (fun _ => ?_) (fun _ => T_ret trivial))
  · refine T_among hb h2 (by omega) (by simp) ?_
    intro x3 c3 _ _
    exact T_ret trivial
  · refine T_among hb h2 (by omega) (by simp) ?_
    intro x3 c3 _ _
    exact T_ret trivial
theorem drawAddE {code : List Int} (hb : Bytes code) : T (M.spec_DrawAddEvent code) (fun r => r.1.Events.length ≤ 7) := by
  unfold M.spec_DrawAddEvent
  refine (drawRecord hb good0e (by omega) 12).then ?_
  rintro ⟨r, c⟩ ⟨g1, g2⟩
  simp only at g1 g2
  refine T_among hb g2 (by omega) (by simp) ?_
  intro x1 c1 _ h1
  refine (drawEv hb h1 (by omega) _).then ?_
  rintro ⟨e, c2⟩ _
  exact T_ret g1
theorem drawDayE {code : List Int} (hb : Bytes code) : T (M.spec_DrawDayOf code) (fun r => r.1.Events.length ≤ 7) := by
  unfold M.spec_DrawDayOf
  refine (drawRecord hb good0e (by omega) 12).then ?_
  rintro ⟨r, c⟩ ⟨g1, g2⟩
  simp only at g1 g2
  refine T_among hb g2 (by omega) (by simp) ?_
  intro x1 c1 _ h1
  exact T_ret g1

theorem law_FnEvents (code : List Int) (h1 : code.length ≤ 9223372036854775807) (h2 : ∀ x, x ∈ code → 0 ≤ x ∧ x ≤ 255) : M.laws_FnEvents code = some true := by
  apply T.eq
  unfold M.laws_FnEvents M.laws_vBig
  rw [Option.bind_some]
  refine T_if (fun _ => T_ret rfl) (fun hq => ?_)
  simp only [decide_eq_false_iff_not] at hq
  have hb : Bytes code := ⟨by omega, h2⟩
  refine (drawAddE hb).then ?_
  rintro ⟨r, e⟩ hr
  simp only at hr
  dsimp only
  have hS : M.spec_IsEvent e = some (evOk e) := by unfold M.spec_IsEvent; rw [evS]; rfl
  have hA := AddD_len (r := r) (e := e) (by omega)
  rw [addI r e (by omega), Option.bind_some, addS r e (by omega), Option.bind_some, beq_self_eq_true, Bool.not_true, cond_false, vRecE _ hA, Option.bind_some, Bool.not_true, Bool.or_self, cond_false, evI, Option.bind_some, cond_false, hS, Option.bind_some, beq_self_eq_true, Bool.not_true, Bool.or_self, cond_false]
  refine T.then (Q := fun e => e = .inl ()) ?_ ?_
  · refine T_if (fun ht => ?_) (fun _ => T_ret rfl)
    cases h3 : (recOk r && evOk e) && recOk (addR r e)
    · unfold AddD at ht; rw [h3] at ht; cases ht
    have hD : AddD r e = (addR r e, true) := by unfold AddD; rw [h3]; rfl
    rw [Bool.and_eq_true, Bool.and_eq_true] at h3
    have hl := addR_len (r := r) (e := e)
    rw [hD]
    dsimp only
    rw [dropEI _ _ (by omega), Option.bind_some, dayDI _ _ (by omega), Option.bind_some, back_same h3.1.1 h3.2, day_added h3.1.2 h3.1.1 h3.2]
    dsimp only
    rw [Bool.not_true, cond_false, vRecE r (by omega), Option.bind_some, bne_self_eq_false]
    exact T_ret rfl
  rintro _ rfl
  dsimp only
  have hdr : T (M.spec_DrawDropEvent code) (fun r => r.1.Events.length ≤ 7) := by
    unfold M.spec_DrawDropEvent
    refine (drawDayE hb).then ?_
    rintro ⟨x, k⟩ hx
    exact T_ret hx
  refine hdr.then ?_
  rintro ⟨x, k⟩ hx
  simp only at hx
  dsimp only
  rw [dropEI x k (by omega), Option.bind_some, dropES x k (by omega), Option.bind_some, beq_self_eq_true, Bool.not_true, cond_false, vRecE _ (DropD_len (by omega)), Option.bind_some, Bool.not_true, Bool.or_self, cond_false]
  refine T.then (Q := fun e => e = .inl ()) ?_ ?_
  · refine T_if (fun ht => ?_) (fun _ => T_ret rfl)
    cases h3 : recOk x && (x.Events.any fun e => e.Kind == k)
    · unfold DropD at ht; rw [h3] at ht; cases ht
    have hD : DropD x k = (dropR x k, true) := by unfold DropD; rw [h3]; rfl
    rw [Bool.and_eq_true] at h3
    have hl := DropD_len (r := x) (k := k) (by omega)
    rw [hD] at hl ⊢
    dsimp only at hl ⊢
    rw [dayDI _ _ hl, Option.bind_some, day_dropped h3.1 h3.2]
    exact T_ret rfl
  rintro _ rfl
  dsimp only
  refine (drawDayE hb).then ?_
  rintro ⟨y, k⟩ hy
  simp only at hy
  dsimp only
  rw [dayDI y k (by omega), Option.bind_some, dayDS y k (by omega), Option.bind_some, beq_self_eq_true, beq_self_eq_true]
  exact T_ret rfl
end Go.Proofs.Ytjfpdbhjoofllaa
