/-
  Versions that are put, series that changed; the plain law of version lists. Plain.
-/
import Derived.Test.YtjfpdbhjoofllaaDb
import Derived.Test.YtjfpdbhjoofllaaCm
import Derived.Test.YtjfpdbhjoofllaaRa
set_option linter.unusedSimpArgs false
set_option linter.unusedVariables false
namespace Go.Proofs.Ytjfpdbhjoofllaa
open Go.VS
def sameU (a b : Rule) : Bool := (a.Series == b.Series) && ((a.Event == b.Event) && ((a.Days == b.Days) && ((a.Act == b.Act) && true)))
def SameL (a b : List Rule) : Bool := ((a.length : Int) == (b.length : Int)) && !((List.range a.length).any fun k => !sameU (a.getD k default) (b.getD k default))
theorem SameL_self (a : List Rule) : SameL a a = true := by
  unfold SameL
  rw [beq_self_eq_true, Bool.true_and, Bool.not_eq_true', List.any_eq_false]
  intro k _
  simp [sameU]
theorem vRulesV (a b : List Rule) (ha : a.length < 1000000) : M.laws_vRules a b = some (SameL a b) := by
  unfold M.laws_vRules SameL
  rw [bne]
  cases h : ((a.length : Int) == (b.length : Int))
  · rfl
  have hl : a.length = b.length := by have := eq_of_beq h; omega
  rw [Bool.not_true, cond_false, Bool.true_and]
  rw [iter_any (step := M.laws_vRules_l0 a b) (s := 0) (fun k => (k : Int)) a.length (fun k => !sameU (a.getD k default) (b.getD k default)) (.inr false) (.inl ()) rfl (by omega) (fun k hk hp => by
    unfold M.laws_vRules_l0
    dsimp only
    rw [decide_eq_true (show (k : Int) < (a.length : Int) by omega), cond_true, asrt_pos ⟨by omega, by omega⟩, asrt_pos ⟨by omega, by omega⟩, Int.toNat_natCast]
    change (bif (!sameU (a.getD k default) (b.getD k default)) then _ else _) = _
    rw [hp, cond_false, wrap64_id (by omega) (by omega)]
    rfl) (fun k hk hp => by
    unfold M.laws_vRules_l0
    dsimp only
    rw [decide_eq_true (show (k : Int) < (a.length : Int) by omega), cond_true, asrt_pos ⟨by omega, by omega⟩, asrt_pos ⟨by omega, by omega⟩, Int.toNat_natCast]
    change (bif (!sameU (a.getD k default) (b.getD k default)) then _ else _) = _
    rw [hp, cond_true]) (by
    unfold M.laws_vRules_l0
    dsimp only
    rw [decide_eq_false (by omega)]
    rfl)]
  cases (List.range a.length).any fun k => !sameU (a.getD k default) (b.getD k default) <;> rfl
theorem equalV (a b : List Rule) (ha : a.length < 1000000) : M.slices_Equal_impl_Rule_impl_Rule a b = some (SameL a b) := by
  unfold M.slices_Equal_impl_Rule_impl_Rule SameL
  rw [bne]
  cases h : ((a.length : Int) == (b.length : Int))
  · rfl
  have hl : a.length = b.length := by have := eq_of_beq h; omega
  rw [Bool.not_true, cond_false, Bool.true_and]
  rw [iter_any (step := M.slices_Equal_impl_Rule_impl_Rule_l0 a b) (s := 0) (fun k => (k : Int)) a.length (fun k => !sameU (a.getD k default) (b.getD k default)) (.inr false) (.inl ()) rfl (by omega) (fun k hk hp => by
    unfold M.slices_Equal_impl_Rule_impl_Rule_l0
    dsimp only
    rw [decide_eq_true (show (k : Int) < (a.length : Int) by omega), cond_true, asrt_pos ⟨by omega, by omega⟩, asrt_pos ⟨by omega, by omega⟩, Int.toNat_natCast]
    change (bif (!sameU (a.getD k default) (b.getD k default)) then _ else _) = _
    rw [hp, cond_false, wrap64_id (by omega) (by omega)]
    rfl) (fun k hk hp => by
    unfold M.slices_Equal_impl_Rule_impl_Rule_l0
    dsimp only
    rw [decide_eq_true (show (k : Int) < (a.length : Int) by omega), cond_true, asrt_pos ⟨by omega, by omega⟩, asrt_pos ⟨by omega, by omega⟩, Int.toNat_natCast]
    change (bif (!sameU (a.getD k default) (b.getD k default)) then _ else _) = _
    rw [hp, cond_true]) (by
    unfold M.slices_Equal_impl_Rule_impl_Rule_l0
    dsimp only
    rw [decide_eq_false (by omega)]
    rfl)]
  cases (List.range a.length).any fun k => !sameU (a.getD k default) (b.getD k default) <;> rfl
theorem sameV (a b : List Rule) (ha : a.length < 1000000) : M.spec_l8Same a b = some (SameL a b) := by
  unfold M.spec_l8Same SameL
  rw [bne]
  cases h : ((a.length : Int) == (b.length : Int))
  · rfl
  have hl : a.length = b.length := by have := eq_of_beq h; omega
  rw [Bool.not_true, cond_false, Bool.true_and]
  rw [iter_any (step := M.spec_l8Same_l0 a b) (s := 0) (fun k => (k : Int)) a.length (fun k => !sameU (a.getD k default) (b.getD k default)) (.inr false) (.inl ()) rfl (by omega) (fun k hk hp => by
    unfold M.spec_l8Same_l0
    dsimp only
    rw [decide_eq_true (show (k : Int) < (a.length : Int) by omega), cond_true, asrt_pos ⟨by omega, by omega⟩, asrt_pos ⟨by omega, by omega⟩, Int.toNat_natCast]
    change (bif (!sameU (a.getD k default) (b.getD k default)) then _ else _) = _
    rw [hp, cond_false, wrap64_id (by omega) (by omega)]
    rfl) (fun k hk hp => by
    unfold M.spec_l8Same_l0
    dsimp only
    rw [decide_eq_true (show (k : Int) < (a.length : Int) by omega), cond_true, asrt_pos ⟨by omega, by omega⟩, asrt_pos ⟨by omega, by omega⟩, Int.toNat_natCast]
    change (bif (!sameU (a.getD k default) (b.getD k default)) then _ else _) = _
    rw [hp, cond_true]) (by
    unfold M.spec_l8Same_l0
    dsimp only
    rw [decide_eq_false (by omega)]
    rfl)]
  cases (List.range a.length).any fun k => !sameU (a.getD k default) (b.getD k default) <;> rfl
def serXs (a : List Int) (r : Rule) : List Int := bif !(a.any fun y => r.Series == y) then a ++ [r.Series] else a
def serX (l : List Rule) : List Int := l.foldl serXs []
theorem serXs_len {a : List Int} {r : Rule} {k : Nat} (h : a.length ≤ k) : (serXs a r).length ≤ k + 1 := by
  unfold serXs
  cases a.any fun y => r.Series == y
  · simp; omega
  · simp; omega
theorem serX_len' : ∀ (l : List Rule) (a : List Int), (l.foldl serXs a).length ≤ a.length + l.length
  | [], a => by simp
  | r :: l, a => by
    have h1 := serX_len' l (serXs a r)
    have h2 := serXs_len (a := a) (r := r) (Nat.le_refl _)
    rw [List.foldl_cons, List.length_cons]
    omega
theorem serX_len {l : List Rule} : (serX l).length ≤ l.length := by
  have := serX_len' l []
  simpa [serX] using this
theorem serX_mem' : ∀ (l : List Rule) (a : List Int) (y : Int), y ∈ l.foldl serXs a ↔ y ∈ a ∨ ∃ r ∈ l, r.Series = y
  | [], a, y => by simp
  | r :: l, a, y => by
    rw [List.foldl_cons, serX_mem' l]
    have h1 : y ∈ serXs a r ↔ y ∈ a ∨ r.Series = y := by
      unfold serXs
      cases h : a.any fun z => r.Series == z
      · rw [Bool.not_false, cond_true, List.mem_append, List.mem_singleton]
        exact or_congr Iff.rfl eq_comm
      · rw [Bool.not_true, cond_false]
        obtain ⟨z, hz, e⟩ := List.any_eq_true.1 h
        have e := eq_of_beq e
        exact ⟨.inl, fun h => h.elim id fun h => by rw [← h, e]; exact hz⟩
    rw [h1]
    constructor
    · rintro ((h | h) | ⟨q, hq, h⟩)
      · exact .inl h
      · exact .inr ⟨r, by simp, h⟩
      · exact .inr ⟨q, by simp [hq], h⟩
    · rintro (h | ⟨q, hq, h⟩)
      · exact .inl (.inl h)
      · rcases List.mem_cons.1 hq with e | e
        · subst e; exact .inl (.inr h)
        · exact .inr ⟨q, e, h⟩
theorem serX_mem {l : List Rule} {y : Int} : y ∈ serX l ↔ ∃ r ∈ l, r.Series = y := by
  unfold serX
  rw [serX_mem']
  simp
theorem serXI (l : List Rule) (hl : l.length < 1000000) : M.impl_seriesIn l = some (serX l) := by
  unfold M.impl_seriesIn
  rw [iter_fold (s := (([] : List Int), (0 : Int))) (step := M.impl_seriesIn_l0 l) (fun (a : List Int) (k : Nat) => (a, (k : Int))) serXs (fun a => a) l [] (fun a k => a.length ≤ k) rfl (by omega) (by simp) (fun a k hk hI => ⟨?_, serXs_len hI⟩) (fun a hI => ?_), Option.bind_some]
  · rfl
  · unfold M.impl_seriesIn_l0 serXs
    dsimp only
    rw [decide_eq_true (show (k : Int) < (l.length : Int) by omega), cond_true, asrt_pos ⟨by omega, by omega⟩, Int.toNat_natCast, contI _ _ (by omega), Option.bind_some, wrap64_id (n := (k : Int) + 1) (by omega) (by omega)]
    cases a.any fun y => (l.getD k default).Series == y
    · rw [Bool.not_false, cond_true, cond_true, asrt_pos (by simp; omega)]
      rfl
    · rfl
  · unfold M.impl_seriesIn_l0
    dsimp only
    rw [decide_eq_false (by omega)]
    rfl
theorem sortV_le (l : List Int) : (sortL l).Pairwise (· ≤ ·) := by
  have h := List.pairwise_mergeSort (le := fun x y : Int => decide (x ≤ y)) (fun a b c h1 h2 => by simp only [decide_eq_true_eq] at *; omega) (fun a b => by simp only [Bool.or_eq_true, decide_eq_true_eq]; omega) l
  exact h.imp fun h => by simpa using h
theorem sortV_mem {l : List Int} {y : Int} : y ∈ dd (sortL l) ↔ y ∈ l := by
  rw [(dd_spec (sortV_le _)).2 y]
  unfold sortL
  exact List.mem_mergeSort
def chg (a b : List Rule) : List Int := (dd (sortL (serX a ++ serX b))).filter fun s => !SameL (rulesFor a s) (rulesFor b s)
theorem chg_mem {a b : List Rule} {s : Int} : s ∈ chg a b ↔ (∃ r, (r ∈ a ∨ r ∈ b) ∧ r.Series = s) ∧ SameL (rulesFor a s) (rulesFor b s) = false := by
  unfold chg
  rw [List.mem_filter, sortV_mem, List.mem_append, serX_mem, serX_mem, Bool.not_eq_true']
  refine and_congr ⟨?_, ?_⟩ Iff.rfl
  · rintro (⟨r, h1, h2⟩ | ⟨r, h1, h2⟩)
    · exact ⟨r, .inl h1, h2⟩
    · exact ⟨r, .inr h1, h2⟩
  · rintro ⟨r, h1 | h1, h2⟩
    · exact .inl ⟨r, h1, h2⟩
    · exact .inr ⟨r, h1, h2⟩
theorem chg_len {a b : List Rule} : (chg a b).length ≤ a.length + b.length := by
  unfold chg
  have h1 := List.length_filter_le (fun s => !SameL (rulesFor a s) (rulesFor b s)) (dd (sortL (serX a ++ serX b)))
  have h2 := dd_len (l := sortL (serX a ++ serX b))
  have h3 := sortL_len (serX a ++ serX b)
  have h4 := serX_len (l := a)
  have h5 := serX_len (l := b)
  rw [List.length_append] at h3
  omega
def oldR (l : List Version) (k : Int) : List Rule := (l.getD (k - 1).toNat default).Rules
def newR (l : List Version) (k : Int) : List Rule := (l.getD k.toNat default).Rules
def ChgD (l : List Version) (k : Int) : List Int × Bool := bif versOk l && inR k 1 ((l.length : Int) - 1) then (chg (oldR l k) (newR l k), true) else ([], false)
theorem chg_ok {l : List Version} {k : Int} (h : versOk l = true) (hk : 1 ≤ k ∧ k ≤ (l.length : Int) - 1) : schedOk (oldR l k) = true ∧ schedOk (newR l k) = true := by
  have hv := (versOk_spec h).2.1
  exact ⟨(hv _ (by omega)).2, (hv _ (by omega)).2⟩
theorem ChgD_len {l : List Version} {k : Int} : (ChgD l k).1.length < 1000000 := by
  unfold ChgD
  cases h : versOk l && inR k 1 ((l.length : Int) - 1)
  · simp
  · rw [Bool.and_eq_true] at h
    obtain ⟨h1, h2⟩ := chg_ok h.1 (inR_true.1 h.2)
    have h3 := (schedOk_spec h1).1
    have h4 := (schedOk_spec h2).1
    have h5 := chg_len (a := oldR l k) (b := newR l k)
    rw [cond_true]
    show (chg (oldR l k) (newR l k)).length < 1000000
    omega
theorem chgI (l : List Version) (k : Int) (hl : VersB l) : M.impl_ChangedSeries l k = some (ChgD l k) := by
  have hb := hl.1
  unfold M.impl_ChangedSeries ChgD
  rw [versI l hl, Option.bind_some]
  cases h : versOk l
  · rfl
  rw [Bool.not_true, cond_false, withinI, Option.bind_some, wrap64_id (n := (l.length : Int) - 1) (by omega) (by omega), Bool.true_and]
  cases h2 : inR k 1 ((l.length : Int) - 1)
  · rfl
  have hk := inR_true.1 h2
  obtain ⟨s1, s2⟩ := chg_ok h hk
  have t1 := (schedOk_spec s1).1
  have t2 := (schedOk_spec s2).1
  have u1 := serX_len (l := oldR l k)
  have u2 := serX_len (l := newR l k)
  rw [Bool.not_true, Bool.or_self, cond_false, cond_true, wrap64_id (n := k - 1) (by omega) (by omega), asrt_pos ⟨by omega, by omega⟩, asrt_pos ⟨by omega, by omega⟩, Option.bind_some]
  show ((M.impl_seriesIn (oldR l k)).bind fun y2 => (M.impl_seriesIn (newR l k)).bind fun y3 => asrt ((y2.length : Int) + (y3.length : Int) ≤ 2147483648) <| (M.slices_Sort_int_int (y2 ++ y3)).bind fun y4 => asrt (y4.length = (y2 ++ y3).length) <| (M.slices_Compact_int_int y4).bind fun y5 => (M.slices_DeleteFunc_int_int y5 (fun x0 => M.impl_ChangedSeries_1 x0 (oldR l k) (newR l k))).bind fun y6 => some (y6, true)) = _
  rw [serXI _ (by omega), Option.bind_some, serXI _ (by omega), Option.bind_some, asrt_pos (by omega)]
  unfold M.slices_Sort_int_int
  have hsl := sortL_len (serX (oldR l k) ++ serX (newR l k))
  rw [List.length_append] at hsl
  rw [asrt_pos (by rw [List.length_append]; omega), Option.bind_some, asrt_pos (sortL_len _), compactI _ (by omega), Option.bind_some]
  have hdl := dd_len (l := sortL (serX (oldR l k) ++ serX (newR l k)))
  rw [delI _ (fun s => SameL (rulesFor (oldR l k) s) (rulesFor (newR l k) s)) _ (fun x _ => by
    have hf := rulesFor_len (l := oldR l k) (s := x)
    unfold M.impl_ChangedSeries_1
    rw [forI _ _ (by omega), Option.bind_some, forI _ _ (by omega), Option.bind_some, equalV _ _ (by omega)]
    rfl) (by omega), Option.bind_some]
  rfl
def chgP (a b : List Rule) (k : Nat) : Bool := !SameL (rulesFor a ((k : Int) + 1)) (rulesFor b ((k : Int) + 1))
theorem rangeV {k n : Nat} (h : k < n) : (List.range n).getD k default = k := by
  rw [List.getD, List.getElem?_range h]; rfl
theorem chgS (l : List Version) (k : Int) (hl : VersB l) : M.spec_ChangedSeries l k = some (ChgD l k) := by
  have hb := hl.1
  unfold M.spec_ChangedSeries ChgD
  rw [versS l hl, Option.bind_some]
  cases h : versOk l
  · rfl
  rw [Bool.not_true, cond_false, l1InS, Option.bind_some, wrap64_id (n := (l.length : Int) - 1) (by omega) (by omega), Bool.true_and]
  cases h2 : inR k 1 ((l.length : Int) - 1)
  · rfl
  have hk := inR_true.1 h2
  obtain ⟨s1, s2⟩ := chg_ok h hk
  have t1 := (schedOk_spec s1).1
  have t2 := (schedOk_spec s2).1
  rw [Bool.not_true, Bool.or_self, cond_false, cond_true]
  rw [iter_coll (s := (([] : List Int), (1 : Int))) (step := M.spec_ChangedSeries_l0 l k) (fun a j => (a, (j : Int) + 1)) (fun j : Nat => bif chgP (oldR l k) (newR l k) j then [(j : Int) + 1] else []) id (List.range 99) (by rfl) (by simp) (fun k _ => if_len _ _) (fun a j hj ha => by
    rw [List.length_range] at hj
    rw [rangeV hj]
    have hf := rulesFor_len (l := oldR l k) (s := (j : Int) + 1)
    unfold M.spec_ChangedSeries_l0 chgP
    dsimp only
    rw [decide_eq_true (show (j : Int) + 1 ≤ 99 by omega), cond_true, wrap64_id (n := k - 1) (by omega) (by omega), asrt_pos ⟨by omega, by omega⟩, wrap64_id (n := (j : Int) + 1 + 1) (by omega) (by omega), app_if]
    change (((M.spec_l4For (oldR l k) ((j : Int) + 1)).bind fun y3 => asrt ((0 : Int) ≤ k ∧ k < (l.length : Int)) <| (M.spec_l4For (newR l k) ((j : Int) + 1)).bind fun y4 => (M.spec_l8Same y3 y4).bind fun y5 => bif (!y5) then (asrt ((a.length : Int) + (([(j : Int) + 1] : List Int).length : Int) ≤ 2147483648) <| some (a ++ [(j : Int) + 1])) else some a).bind _) = _
    rw [forS _ _ (by omega), Option.bind_some, asrt_pos ⟨by omega, by omega⟩, forS _ _ (by omega), Option.bind_some, sameV _ _ (by omega), Option.bind_some]
    cases SameL (rulesFor (oldR l k) ((j : Int) + 1)) (rulesFor (newR l k) ((j : Int) + 1))
    · rw [Bool.not_false, cond_true, cond_true, asrt_pos (by simp; omega)]
      rfl
    · rfl) (fun a ha => by
    unfold M.spec_ChangedSeries_l0
    dsimp only
    rw [decide_eq_false (by simp)]
    rfl)]
  simp only [id, Option.bind_some, flatMap_if]
  congr 1
  refine Prod.ext ?_ rfl
  simp only
  refine strict_ext ?_ ?_ fun y => ?_
  · rw [List.pairwise_map]
    exact (List.Pairwise.filter _ (List.pairwise_lt_range)).imp fun h => by omega
  · exact List.Pairwise.filter _ (dd_spec (sortV_le _)).1
  · rw [chg_mem, List.mem_map]
    constructor
    · rintro ⟨j, hj, e⟩
      obtain ⟨m1, m2⟩ := List.mem_filter.1 hj
      unfold chgP at m2
      rw [Bool.not_eq_true', e] at m2
      refine ⟨?_, m2⟩
      have none_of : ∀ {R : List Rule}, (¬ ∃ r ∈ R, r.Series = y) → rulesFor R y = [] := fun hn => by
        unfold rulesFor
        exact List.filter_eq_nil_iff.2 fun r hr hc => hn ⟨r, hr, eq_of_beq hc⟩
      by_cases ha : ∃ r ∈ oldR l k, r.Series = y
      · obtain ⟨r, h1, h2⟩ := ha; exact ⟨r, .inl h1, h2⟩
      · by_cases hb : ∃ r ∈ newR l k, r.Series = y
        · obtain ⟨r, h1, h2⟩ := hb; exact ⟨r, .inr h1, h2⟩
        · rw [none_of ha, none_of hb, SameL_self] at m2
          cases m2
    · rintro ⟨⟨r, hr, e⟩, m2⟩
      have hs : 1 ≤ r.Series ∧ r.Series ≤ 99 := by
        rcases hr with hr | hr
        · exact ((schedOk_spec s1).2 r hr).1
        · exact ((schedOk_spec s2).2 r hr).1
      refine ⟨(y - 1).toNat, List.mem_filter.2 ⟨List.mem_range.2 (by omega), ?_⟩, by omega⟩
      unfold chgP
      rw [show (((y - 1).toNat : Nat) : Int) + 1 = y by omega, m2]
      rfl
def vLo (l : List Version) (f : Int) : List Version := l.filter fun x => decide (x.From < f)
def vGe (l : List Version) (f : Int) : List Version := l.filter fun x => !decide (x.From < f)
def vHi (l : List Version) (f : Int) : List Version := l.filter fun x => decide (x.From > f)
def SrtV (l : List Version) : Prop := l.Pairwise fun a b => a.From < b.From
theorem vers_iff {l : List Version} : versOk l = true ↔ (∀ v ∈ l, verOk v = true) ∧ SrtV l ∧ l.length ≤ 5 := by
  unfold versOk SrtV
  rw [Bool.and_eq_true, decide_eq_true_eq, rise_pw (fun a b c h1 h2 => by simp only [decide_eq_false_iff_not] at h1 h2 ⊢; omega), and_assoc]
  refine and_congr ⟨fun h v hv => by simpa using h v hv, fun h v hv => by simpa using h v hv⟩ (and_congr ⟨fun h => h.imp fun h => ?_, fun h => h.imp fun h => ?_⟩ Iff.rfl)
  · simp only [decide_eq_false_iff_not] at h; omega
  · simp only [decide_eq_false_iff_not]; omega
theorem v_split (f : Int) : ∀ {l : List Version}, SrtV l → l = vLo l f ++ vGe l f ∧ ((∃ x, x.From = f ∧ vGe l f = x :: vHi l f) ∨ vGe l f = vHi l f)
  | [], _ => ⟨rfl, .inr rfl⟩
  | x :: l, h => by
    obtain ⟨h1, h2⟩ := List.pairwise_cons.1 h
    obtain ⟨i1, i2⟩ := v_split f h2
    unfold vLo vGe at i1
    unfold vGe vHi at i2
    unfold vLo vGe vHi
    by_cases hx : x.From < f
    · rw [List.filter_cons_of_pos (by simpa using hx), List.filter_cons_of_neg (by simpa using hx), List.filter_cons_of_neg (by simp; omega), List.cons_append]
      exact ⟨congrArg (x :: ·) i1, i2⟩
    · have e1 : l.filter (fun x => decide (x.From < f)) = [] := List.filter_eq_nil_iff.2 (fun y hy => by have := h1 y hy; simp; omega)
      have e2 : l.filter (fun x => !decide (x.From < f)) = l := List.filter_eq_self.2 (fun y hy => by have := h1 y hy; simp; omega)
      have e3 : l.filter (fun x => decide (x.From > f)) = l := List.filter_eq_self.2 (fun y hy => by have := h1 y hy; simp; omega)
      rw [List.filter_cons_of_neg (by simpa using hx), List.filter_cons_of_pos (by simpa using hx), e1, e2]
      refine ⟨rfl, ?_⟩
      by_cases hq : x.From = f
      · left
        rw [List.filter_cons_of_neg (by simp; omega), e3]
        exact ⟨x, hq, rfl⟩
      · right
        rw [List.filter_cons_of_pos (by simp; omega), e3]
theorem vLo_mem {l : List Version} {f : Int} {x : Version} (h : x ∈ vLo l f) : x ∈ l ∧ x.From < f := by
  obtain ⟨h1, h2⟩ := List.mem_filter.1 h
  exact ⟨h1, by simpa using h2⟩
theorem vGe_mem {l : List Version} {f : Int} {x : Version} (h : x ∈ vGe l f) : x ∈ l ∧ ¬ x.From < f := by
  obtain ⟨h1, h2⟩ := List.mem_filter.1 h
  exact ⟨h1, by simpa using h2⟩
theorem vHi_mem {l : List Version} {f : Int} {x : Version} (h : x ∈ vHi l f) : x ∈ l ∧ f < x.From := by
  obtain ⟨h1, h2⟩ := List.mem_filter.1 h
  exact ⟨h1, by simpa using h2⟩
def putV (l : List Version) (v : Version) : List Version := vLo l v.From ++ [v] ++ vHi l v.From
def PutW (l : List Version) (v : Version) : List Version × Bool := bif versOk l && versOk (putV l v) then (putV l v, true) else ([], false)
theorem putV_b {l : List Version} {v : Version} (hl : VersB l) (h1 : l.length < 1000) (hv : v.Rules.length < 1000000) : VersB (putV l v) := by
  have a1 := List.length_filter_le (fun x : Version => decide (x.From < v.From)) l
  have a2 := List.length_filter_le (fun x : Version => decide (x.From > v.From)) l
  refine ⟨?_, fun x hx => ?_⟩
  · unfold putV vLo vHi
    simp only [List.length_append, List.length_singleton]
    omega
  · unfold putV at hx
    simp only [List.mem_append, List.mem_singleton] at hx
    rcases hx with (hx | hx) | hx
    · exact hl.2 x (vLo_mem hx).1
    · subst hx; exact hv
    · exact hl.2 x (vHi_mem hx).1
theorem setSelf {l : List Version} {k : Nat} (h : k < l.length) : l.set k (l.getD k default) = l := by
  rw [getD_el h, List.set_getElem_self]
theorem copyV (l : List Version) (hl : VersB l) : M.impl_copyVersions l = some l := by
  have hb := hl.1
  unfold M.impl_copyVersions M.slices_Clone_impl_Version_impl_Version
  rw [asrt_pos (by omega), Option.bind_some]
  rw [iter_up (s := (l, (0 : Int))) (step := M.impl_copyVersions_l0 l) (e := l) (fun k => (l, (k : Int))) l.length rfl (by omega) (fun k hk => by
    have hr := hl.elt hk
    unfold M.impl_copyVersions_l0 M.slices_Clone_impl_Rule_impl_Rule
    dsimp only
    rw [decide_eq_true (show (k : Int) < (l.length : Int) by omega), cond_true, asrt_pos ⟨by omega, by omega⟩, Int.toNat_natCast, asrt_pos (by omega), Option.bind_some, asrt_pos ⟨by omega, by omega⟩, wrap64_id (by omega) (by omega)]
    change some (Sum.inl (l.set k (l.getD k default), ((k : Int) + 1))) = _
    rw [setSelf hk]
    rfl) (by
    unfold M.impl_copyVersions_l0
    dsimp only
    rw [decide_eq_false (by omega)]
    rfl)]
  rfl
theorem cmpI_neg (x y : Int) : decide (cmpI x y < 0) = decide (x < y) := by
  unfold cmpI
  rw [Bool.eq_iff_iff, decide_eq_true_eq, decide_eq_true_eq]
  by_cases h : x < y
  · rw [if_pos h]; omega
  · rw [if_neg h]
    by_cases h2 : x > y
    · rw [if_pos h2]; omega
    · rw [if_neg h2]; omega
theorem cmpI_zero (x y : Int) : (cmpI x y == 0) = (x == y) := by
  unfold cmpI
  rw [Bool.eq_iff_iff, beq_iff_eq, beq_iff_eq]
  by_cases h : x < y
  · rw [if_pos h]; omega
  · rw [if_neg h]
    by_cases h2 : x > y
    · rw [if_pos h2]; omega
    · rw [if_neg h2]; omega
theorem cmpVI (a b : Version) : M.impl_PutVersion_1 a b = some (cmpI a.From b.From) := by
  unfold M.impl_PutVersion_1
  rw [cmpIntI]; rfl
theorem binV (u : Version) (a b : List Version) (ha : ∀ x ∈ a, x.From < u.From) (hb : ∀ x ∈ b, ¬ x.From < u.From) (hl : (a ++ b).length < 1000000) :
    M.slices_BinarySearchFunc_impl_Version_impl_Version_impl_Version (a ++ b) u (fun x0 x1 => M.impl_PutVersion_1 x0 x1) = some ((a.length : Int), bif decide (0 < b.length) then (b.getD 0 default).From == u.From else false) := by
  have hla : (a ++ b).length = a.length + b.length := List.length_append
  have loop : iterO (M.slices_BinarySearchFunc_impl_Version_impl_Version_impl_Version_l0 (a ++ b) u (fun x0 x1 => M.impl_PutVersion_1 x0 x1)) ((0 : Int), ((a ++ b).length : Int)) = some (a.length : Int) := by
    apply T.eq
    refine T_iter (fun s => 0 ≤ s.1 ∧ s.1 ≤ (a.length : Int) ∧ (a.length : Int) ≤ s.2 ∧ s.2 ≤ ((a ++ b).length : Int)) (fun s => (s.2 - s.1).toNat) _ ⟨Int.le_refl _, by simp only; omega, by simp only; omega, Int.le_refl _⟩ (by simp only; omega) ?_
    rintro ⟨i, j⟩ ⟨h1, h2, h3, h4⟩
    simp only at h1 h2 h3 h4
    unfold M.slices_BinarySearchFunc_impl_Version_impl_Version_impl_Version_l0
    dsimp only
    rw [half_id (by omega) (by omega) (by omega)]
    refine T_if (fun hq => ?_) (fun hq => ?_)
    · simp only [decide_eq_true_eq] at hq
      obtain ⟨m, hm⟩ := Int.eq_ofNat_of_zero_le (show 0 ≤ (i + j) / 2 by omega)
      rw [hm]
      have hmr : i ≤ (m : Int) ∧ (m : Int) < j := by omega
      refine T_in (T_ask ⟨by omega, by omega⟩ ?_)
      simp only [Int.toNat_natCast]
      rw [cmpVI, Option.bind_some, cmpI_neg]
      refine T_if (fun hp => ?_) (fun hp => ?_)
      · have : (m : Int) < a.length := by
          by_cases q : m < a.length
          · omega
          · rw [getD_app_r (by omega), decide_eq_true_eq] at hp
            exact absurd hp (hb _ (getD_mem (by omega)))
        rw [wrap64_id (by omega) (by omega)]
        exact T_ret (T_ret ⟨⟨by simp only; omega, by simp only; omega, by simp only; omega, by simp only; omega⟩, by simp only; omega⟩)
      · have : (a.length : Int) ≤ m := by
          by_cases q : m < a.length
          · rw [getD_app_l q, decide_eq_false_iff_not] at hp
            exact absurd (ha _ (getD_mem q)) hp
          · omega
        exact T_ret (T_ret ⟨⟨by simp only; omega, by simp only; omega, by simp only; omega, by simp only; omega⟩, by simp only; omega⟩)
    · simp only [decide_eq_false_iff_not] at hq
      exact T_ret (by simp only; omega)
  unfold M.slices_BinarySearchFunc_impl_Version_impl_Version_impl_Version
  rw [loop, Option.bind_some]
  dsimp only
  by_cases hn : 0 < b.length
  · have e1 : (a ++ b).getD a.length default = b.getD 0 default := by rw [getD_app_r (Nat.le_refl _), Nat.sub_self]
    rw [decide_eq_true (show (a.length : Int) < ((a ++ b).length : Int) by omega), asrt_pos (fun _ => ⟨by omega, by omega⟩), cond_true, Int.toNat_natCast, e1, cmpVI, Option.bind_some, cmpI_zero, Bool.true_and, decide_eq_true hn, cond_true]
  · rw [decide_eq_false (show ¬ (a.length : Int) < ((a ++ b).length : Int) by omega), asrt_pos (fun h => by cases h), cond_false, Option.bind_some, Bool.false_and, decide_eq_false hn, cond_false]
theorem putI (l : List Version) (v : Version) (hl : VersB l) (h1 : l.length < 1000) (hv : v.Rules.length < 1000000) : M.impl_PutVersion l v = some (PutW l v) := by
  have hb := hl.1
  unfold M.impl_PutVersion PutW
  rw [versI l hl, Option.bind_some]
  cases h : versOk l
  · rfl
  obtain ⟨_, hs, h5⟩ := vers_iff.1 h
  obtain ⟨s1, s2⟩ := v_split v.From hs
  have hbn := binV v (vLo l v.From) (vGe l v.From) (fun x hx => (vLo_mem hx).2) (fun x hx => (vGe_mem hx).2) (by rw [← s1]; omega)
  rw [← s1] at hbn
  have hL : l.length = (vLo l v.From).length + (vGe l v.From).length := by rw [← List.length_append, ← s1]
  unfold M.slices_Clone_impl_Rule_impl_Rule
  rw [Bool.not_true, cond_false, copyV l hl, Option.bind_some, asrt_pos (by omega), Option.bind_some, Bool.true_and]
  change ((M.slices_BinarySearchFunc_impl_Version_impl_Version_impl_Version l v (fun x0 x1 => M.impl_PutVersion_1 x0 x1)).bind fun y3 => ((bif y3.2 then (asrt ((0 : Int) ≤ y3.1 ∧ y3.1 < (l.length : Int)) <| some (l.set (Int.toNat y3.1) v)) else ((M.slices_Insert_impl_Version_impl_Version l y3.1 ([v] : List Version)).bind fun y4 => some y4)) : Option (List Version)).bind fun out => (M.impl_AreVersions out).bind fun y5 => bif (!y5) then some (([] : List Version), false) else some (out, true)) = _
  rw [hbn, Option.bind_some]
  dsimp only
  have key : ((bif (bif decide (0 < (vGe l v.From).length) then ((vGe l v.From).getD 0 default).From == v.From else false) then (asrt ((0 : Int) ≤ ((vLo l v.From).length : Int) ∧ ((vLo l v.From).length : Int) < (l.length : Int)) <| some (l.set (Int.toNat ((vLo l v.From).length : Int)) v)) else ((M.slices_Insert_impl_Version_impl_Version l ((vLo l v.From).length : Int) ([v] : List Version)).bind fun y4 => some y4)) : Option (List Version)) = some (putV l v) := by
    rcases s2 with ⟨x, hx, e⟩ | e
    · rw [e, show decide (0 < (x :: vHi l v.From).length) = true from decide_eq_true (by simp), cond_true, show ((x :: vHi l v.From).getD 0 default) = x from rfl, hx, beq_self_eq_true, cond_true, asrt_pos ⟨by omega, by rw [e] at hL; simp at hL; omega⟩, Int.toNat_natCast]
      have e2 : l = vLo l v.From ++ x :: vHi l v.From := by rw [← e]; exact s1
      have e3 : l.set (vLo l v.From).length v = (vLo l v.From ++ x :: vHi l v.From).set (vLo l v.From).length v := by rw [← e2]
      rw [e3, List.set_append_right _ _ (Nat.le_refl _), Nat.sub_self, List.set_cons_zero]
      unfold putV
      rw [List.append_assoc, List.singleton_append]
    · have hno : (bif decide (0 < (vGe l v.From).length) then ((vGe l v.From).getD 0 default).From == v.From else false) = false := by
        cases hd : decide (0 < (vGe l v.From).length)
        · rfl
        · simp only [decide_eq_true_eq] at hd
          rw [cond_true, beq_eq_false_iff_ne]
          have hm := getD_mem hd
          rw [e] at hm ⊢
          have := (vHi_mem hm).2
          omega
      unfold M.slices_Insert_impl_Version_impl_Version
      rw [hno, cond_false, asrt_pos ⟨by omega, by omega, by omega, rfl⟩, Option.bind_some, Int.toNat_natCast]
      have c1 : l.take (vLo l v.From).length = vLo l v.From := by
        have : (vLo l v.From ++ vGe l v.From).take (vLo l v.From).length = vLo l v.From := List.take_left
        rwa [← s1] at this
      have c2 : l.drop (vLo l v.From).length = vGe l v.From := by
        have : (vLo l v.From ++ vGe l v.From).drop (vLo l v.From).length = vGe l v.From := List.drop_left
        rwa [← s1] at this
      rw [c1, c2, e]
      rfl
  rw [key, Option.bind_some, versI _ (putV_b hl h1 hv), Option.bind_some]
  cases versOk (putV l v) <;> rfl
theorem ownV (v : Version) (hv : v.Rules.length < 1000000) : M.spec_l8Own v = some v := by
  unfold M.spec_l8Own
  rw [asrt_pos (by simp; omega), List.nil_append]
theorem putLoop0 (l : List Version) (v : Version) (hl : VersB l) : iterO (M.spec_PutVersion_l0 l v) (([] : List Version), (0 : Int)) = some (vLo l v.From) := by
  have hb := hl.1
  rw [iter_coll (s := (([] : List Version), (0 : Int))) (step := M.spec_PutVersion_l0 l v) (fun a k => (a, (k : Int))) (fun x : Version => bif decide (x.From < v.From) then [x] else []) id l rfl (by omega) (fun k _ => if_len _ _) (fun a k hk ha => by
    have hr := hl.elt hk
    unfold M.spec_PutVersion_l0
    dsimp only
    rw [decide_eq_true (show (k : Int) < (l.length : Int) by omega), cond_true, asrt_pos ⟨by omega, by omega⟩, Int.toNat_natCast, wrap64_id (by omega) (by omega), app_if]
    cases decide ((l.getD k default).From < v.From)
    · rfl
    · rw [cond_true, cond_true, asrt_pos ⟨by omega, by omega⟩, ownV _ hr, Option.bind_some, asrt_pos (by simp; omega)]
      rfl) (fun a ha => by
    unfold M.spec_PutVersion_l0
    dsimp only
    rw [decide_eq_false (by omega)]
    rfl)]
  simp only [id, flatMap_if, List.map_id']
  rfl
theorem putLoop1 (l : List Version) (v : Version) (a0 : List Version) (h0 : a0.length < 1000000) (hl : VersB l) : iterO (M.spec_PutVersion_l1 l v) (a0, (0 : Int)) = some (a0 ++ vHi l v.From) := by
  have hb := hl.1
  rw [iter_fold (s := (a0, (0 : Int))) (step := M.spec_PutVersion_l1 l v) (fun (a : List Version) (k : Nat) => (a, (k : Int))) (fun a x => a ++ (bif decide (x.From > v.From) then [x] else [])) (fun a => a) l a0 (fun a k => a.length ≤ a0.length + k) rfl (by omega) (Nat.le_refl _) (fun a k hk hI => ⟨?_, ?_⟩) (fun a hI => ?_), foldl_collect, flatMap_if, List.map_id']
  · rfl
  · have hr := hl.elt hk
    unfold M.spec_PutVersion_l1
    dsimp only
    rw [decide_eq_true (show (k : Int) < (l.length : Int) by omega), cond_true, asrt_pos ⟨by omega, by omega⟩, Int.toNat_natCast, wrap64_id (by omega) (by omega), app_if]
    cases decide ((l.getD k default).From > v.From)
    · rfl
    · rw [cond_true, cond_true, asrt_pos ⟨by omega, by omega⟩, ownV _ hr, Option.bind_some, asrt_pos (by simp; omega)]
      rfl
  · rw [List.length_append]
    have := if_len (decide ((l.getD k default).From > v.From)) (l.getD k default)
    omega
  · unfold M.spec_PutVersion_l1
    dsimp only
    rw [decide_eq_false (by omega)]
    rfl
theorem putSp (l : List Version) (v : Version) (hl : VersB l) (h1 : l.length < 1000) (hv : v.Rules.length < 1000000) : M.spec_PutVersion l v = some (PutW l v) := by
  have a1 := List.length_filter_le (fun x : Version => decide (x.From < v.From)) l
  unfold M.spec_PutVersion PutW
  rw [versS l hl, Option.bind_some]
  cases h : versOk l
  · rfl
  rw [Bool.not_true, cond_false, versS [v] ⟨by simp, fun x hx => by rw [List.mem_singleton.1 hx]; exact hv⟩, Option.bind_some, Bool.true_and]
  cases h2 : versOk [v]
  · have : versOk (putV l v) = false := by
      rw [Bool.eq_false_iff]
      intro hc
      have := (vers_iff.1 hc).1 v (by simp [putV])
      rw [Bool.eq_false_iff] at h2
      exact h2 (vers_iff.2 ⟨fun x hx => by rw [List.mem_singleton.1 hx]; exact this, by unfold SrtV; simp, by simp⟩)
    rw [this]
    rfl
  rw [Bool.not_true, Bool.or_self, cond_false, putLoop0 l v hl, Option.bind_some]
  dsimp only
  have hlo : (vLo l v.From).length ≤ l.length := a1
  rw [ownV v hv, Option.bind_some, asrt_pos (by simp; omega), putLoop1 l v _ (by simp; omega) hl, Option.bind_some]
  change ((M.spec_l8Good (putV l v)).bind fun y7 => bif (!y7) then some (([] : List Version), false) else some (putV l v, true)) = _
  rw [versS _ (putV_b hl h1 hv), Option.bind_some]
  cases versOk (putV l v) <;> rfl
theorem PutW_b {l : List Version} {v : Version} (hl : VersB l) (h1 : l.length < 1000) (hv : v.Rules.length < 1000000) : VersB (PutW l v).1 := by
  unfold PutW
  cases versOk l && versOk (putV l v)
  · exact ⟨by simp, fun x hx => absurd hx (by simp)⟩
  · exact putV_b hl h1 hv
def VerOnD (l : List Version) (d : Int) : Int × Bool := bif (versOk l && inR d 0 20000) && !decide (verAt l d < 0) then (verAt l d, true) else (0, false)
theorem verOnDI (l : List Version) (d : Int) (hl : VersB l) : M.impl_VersionOn l d = some (VerOnD l d) := by
  unfold M.impl_VersionOn VerOnD
  rw [versI l hl, Option.bind_some]
  cases versOk l
  · rfl
  rw [Bool.not_true, cond_false, isDayI, Option.bind_some]
  cases inR d 0 20000
  · rfl
  rw [Bool.not_true, Bool.or_self, cond_false, verOnI l d hl.1, Option.bind_some]
  cases decide (verAt l d < 0) <;> rfl
theorem verOnDS (l : List Version) (d : Int) (hl : VersB l) : M.spec_VersionOn l d = some (VerOnD l d) := by
  unfold M.spec_VersionOn VerOnD
  rw [versS l hl, Option.bind_some]
  cases versOk l
  · rfl
  rw [Bool.not_true, cond_false, l2DayS, Option.bind_some]
  cases inR d 0 20000
  · rfl
  rw [Bool.not_true, Bool.or_self, cond_false, verOnS l d hl.1, Option.bind_some]
  cases decide (verAt l d < 0) <;> rfl
theorem put_at {l : List Version} {v : Version} (h : versOk (putV l v) = true) : VerOnD (putV l v) v.From = (((vLo l v.From).length : Int), true) ∧ (vLo l v.From).length < (putV l v).length ∧ (putV l v).getD (vLo l v.From).length default = v := by
  obtain ⟨h1, h2, h3⟩ := vers_iff.1 h
  have hlen : (putV l v).length = (vLo l v.From).length + 1 + (vHi l v.From).length := by unfold putV; simp; omega
  have hv : (putV l v).getD (vLo l v.From).length default = v := by
    unfold putV
    rw [List.append_assoc, getD_app_r (Nat.le_refl _), Nat.sub_self]
    rfl
  have hA : verAt (putV l v) v.From = ((vLo l v.From).length : Int) := verAt_eq h (by omega) (by rw [hv]; exact Int.le_refl _) (fun hk => by
    have e : (putV l v).getD ((vLo l v.From).length + 1) default = (vHi l v.From).getD 0 default := by
      unfold putV
      rw [getD_app_r (by simp)]
      simp
    rw [e]
    exact (vHi_mem (getD_mem (by omega))).2)
  have hd := h1 v (by simp [putV])
  unfold verOk at hd
  rw [Bool.and_eq_true] at hd
  refine ⟨?_, by omega, hv⟩
  unfold VerOnD
  rw [h, hd.1, hA, decide_eq_false (by omega)]
  rfl
theorem rulesD {R : List Rule} {s : Int} (h : schedOk R = true) (hs : 1 ≤ s ∧ s ≤ 99) : M.impl_RulesFor R s = some (rulesFor R s, true) := by
  have hl := (schedOk_spec h).1
  unfold M.impl_RulesFor
  rw [schedI R (by omega), h, Option.bind_some, Bool.not_true, cond_false, isIdI, inR_true.2 hs, Option.bind_some, Bool.not_true, Bool.or_self, cond_false, forI R s (by omega), Option.bind_some]
theorem chgLoop (l : List Version) (b : Bool) (k : Nat) (h : versOk l = true) (hk : 1 ≤ k ∧ k < l.length) : iterO (M.laws_FnVersionLists_l0 (l, b) ((k : Int), true) (ChgD l (k : Int))) (0 : Int) = some (.inl ()) := by
  have hc := ChgD_len (l := l) (k := (k : Int))
  have h5 := (versOk_spec h).1
  have hin : inR (k : Int) 1 ((l.length : Int) - 1) = true := inR_true.2 (by omega)
  have e : ChgD l (k : Int) = (chg (oldR l (k : Int)) (newR l (k : Int)), true) := by unfold ChgD; rw [h, hin]; rfl
  obtain ⟨s1, s2⟩ := chg_ok h (inR_true.1 hin)
  have t1 := (schedOk_spec s1).1
  refine iter_up (s := 0) (fun j => (j : Int)) (ChgD l (k : Int)).1.length rfl (by omega) (fun j hj => ?_) ?_
  · have hm := getD_mem hj
    generalize hz : (ChgD l (k : Int)).1.getD j default = z at hm
    rw [e] at hm
    obtain ⟨⟨r, hr, hs⟩, hd⟩ := chg_mem.1 hm
    have hz2 : 1 ≤ z ∧ z ≤ 99 := by
      rcases hr with hr | hr
      · have := ((schedOk_spec s1).2 r hr).1; omega
      · have := ((schedOk_spec s2).2 r hr).1; omega
    have hf := rulesFor_len (l := oldR l (k : Int)) (s := z)
    have e1 : M.impl_RulesFor ((l.getD (Int.toNat ((k : Int) - 1)) default).Rules) z = some (rulesFor (oldR l (k : Int)) z, true) := rulesD s1 hz2
    have e2 : M.impl_RulesFor ((l.getD (Int.toNat (k : Int)) default).Rules) z = some (rulesFor (newR l (k : Int)) z, true) := rulesD s2 hz2
    unfold M.laws_FnVersionLists_l0
    dsimp only
    rw [decide_eq_true (show (j : Int) < ((ChgD l (k : Int)).1.length : Int) by omega), cond_true, wrap64_id (n := (k : Int) - 1) (by omega) (by omega), asrt_pos ⟨by omega, by omega⟩, asrt_pos ⟨by omega, by omega⟩, Int.toNat_natCast (n := j), hz, e1, Option.bind_some, asrt_pos ⟨by omega, by omega⟩, asrt_pos ⟨by omega, by omega⟩, e2, Option.bind_some]
    dsimp only
    rw [Bool.not_true, Bool.or_self, cond_false, vRulesV _ _ (by omega), Option.bind_some, hd, Bool.or_self, cond_false, wrap64_id (by omega) (by omega)]
    rfl
  · unfold M.laws_FnVersionLists_l0
    dsimp only
    rw [decide_eq_false (by omega)]
    rfl
theorem vVersV (a : List Version) (hl : VersB a) : M.laws_vVersions a a = some true := by
  have hb := hl.1
  unfold M.laws_vVersions
  rw [bne_self_eq_false, cond_false]
  rw [iter_up (s := 0) (step := M.laws_vVersions_l0 a a) (e := .inl ()) (fun k => (k : Int)) a.length rfl (by omega) (fun k hk => by
    have hr := hl.elt hk
    unfold M.laws_vVersions_l0
    dsimp only
    rw [decide_eq_true (show (k : Int) < (a.length : Int) by omega), cond_true, asrt_pos ⟨by omega, by omega⟩, asrt_pos ⟨by omega, by omega⟩, asrt_pos (fun _ => ⟨by omega, by omega⟩), asrt_pos (fun _ => ⟨by omega, by omega⟩), Int.toNat_natCast, bne_self_eq_false, cond_false, vRulesV _ _ hr, Option.bind_some, SameL_self, Bool.not_true, Bool.or_self, cond_false, wrap64_id (by omega) (by omega)]
    rfl) (by
    unfold M.laws_vVersions_l0
    dsimp only
    rw [decide_eq_false (by omega)]
    rfl)]
  rfl
theorem vIntsV (a : List Int) (hl : a.length < 1000000) : M.laws_vInts a a = some true := by
  unfold M.laws_vInts
  rw [bne_self_eq_false, cond_false]
  rw [iter_up (s := 0) (step := M.laws_vInts_l0 a a) (e := .inl ()) (fun k => (k : Int)) a.length rfl (by omega) (fun k hk => by
    unfold M.laws_vInts_l0
    simp (disch := first | omega | (intros; simp only [decide_eq_true_eq, decide_eq_false_iff_not, Bool.not_eq_true, Bool.not_eq_false, Bool.not_true, Bool.not_false] at *; omega)) only [cast_succ, asrt_pos, wrap64_id, Option.bind_some, cond_true, cond_false, decide_eq_true, decide_eq_false, Int.toNat_natCast, Bool.not_true, Bool.not_false, Bool.and_true, Bool.true_and, Bool.and_false, Bool.false_and, Bool.or_true, Bool.true_or, Bool.or_false, Bool.false_or, bne_self_eq_false]) (by
    unfold M.laws_vInts_l0
    simp (disch := first | omega | (intros; simp only [decide_eq_true_eq, decide_eq_false_iff_not, Bool.not_eq_true, Bool.not_eq_false, Bool.not_true, Bool.not_false] at *; omega)) only [cast_succ, asrt_pos, wrap64_id, Option.bind_some, cond_true, cond_false, decide_eq_true, decide_eq_false, Int.toNat_natCast, Bool.not_true, Bool.not_false, Bool.and_true, Bool.true_and, Bool.and_false, Bool.false_and, Bool.or_true, Bool.true_or, Bool.or_false, Bool.false_or])]
  rfl
theorem good0v {code : List Int} : Good code 0 (⟨code, 0, 0⟩ : Cur) := ⟨rfl, Int.le_refl _, Int.le_refl _⟩
theorem dPutV {code : List Int} (hb : Bytes code) : T (M.spec_DrawPutVersion code) (fun q => VersD q.1 ∧ q.2.Rules.length ≤ 20) := by
  unfold M.spec_DrawPutVersion
  refine (drawRecord hb good0v (by omega) 12).then ?_
  rintro ⟨r, c1⟩ ⟨h1, h2⟩
  refine (drawVersions hb h2 (by omega) r).then ?_
  rintro ⟨l, c2⟩ ⟨h3, h4⟩
  refine (drawDay hb h4 (by omega)).then ?_
  rintro ⟨d, c3⟩ h5
  refine (drawSuited hb h5 (by omega) r).then ?_
  rintro ⟨s, c4⟩ ⟨h6, h7⟩
  simp only at h3 h6 h7
  dsimp only
  rw [Option.bind_some]
  refine T.then (Q := fun e => e.2.Rules.length ≤ 20) ?_ (fun e he => by obtain ⟨c, v⟩ := e; exact T_ret ⟨h3, he⟩)
  cases hd : decide ((l.length : Int) > 0)
  · rw [cond_false, Option.bind_some, Bool.false_and, cond_false, cond_false]
    exact T_ret h6
  · rw [cond_true]
    refine T_one hb h7 (by omega) ?_
    intro b c5 h8
    dsimp only
    rw [cond_true, Bool.true_and]
    simp only [decide_eq_true_eq] at hd
    refine T_if (fun _ => ?_) (fun _ => T_ret h6)
    refine T_pick hb h8 (by omega) ?_
    intro x c6 _ hx _
    have hx := hx (by omega)
    exact T_ask ⟨by simp only; omega, by simp only; omega⟩ (T_ret h6)
theorem firstV (l : List Version) (r : Record) (hl : VersB l) (hr : RecB r) : ∃ x : Int × Bool, M.spec_FirstDueDay l r = some x := by
  unfold M.spec_FirstDueDay
  rw [askedS l r 0 hl hr, Option.bind_some]
  unfold inForce
  rw [inR_true.2 ⟨Int.le_refl 0, by omega⟩, Bool.and_true]
  cases h : versOk l && recOk r
  · exact ⟨(0, false), rfl⟩
  simp only [Bool.and_eq_true] at h
  obtain ⟨h1, h2⟩ := h
  obtain ⟨g1, g2, g3⟩ := versOk_spec h1
  simp only [Bool.not_true, cond_false, cond_true]
  rcases find_cases (n := l.length) (hits l r) with ⟨k, q1, q2, q3⟩ | q
  · refine ⟨(firstOf l r k, true), ?_⟩
    rw [iter_up (s := (0 : Int)) (step := M.spec_FirstDueDay_l0 l r) (e := .inr (firstOf l r k, true)) (fun k => (k : Int)) k rfl (by omega) (fun j hj => by rw [firstStepS l r h1 h2 j (by omega), q3 j hj]; rfl) (by rw [firstStepS l r h1 h2 k q1, q2]; rfl)]
    rfl
  · refine ⟨(0, false), ?_⟩
    rw [iter_up (s := (0 : Int)) (step := M.spec_FirstDueDay_l0 l r) (e := .inl ()) (fun k => (k : Int)) l.length rfl (by omega) (fun j hj => by rw [firstStepS l r h1 h2 j (by omega), q j hj]; rfl) (by
      unfold M.spec_FirstDueDay_l0
      simp)]
    rfl
theorem nearV {code : List Int} {k : Nat} {c : Cur} (hb : Bytes code) (h : Good code k c) (hk : k < 400000000) (l : List Version) (r : Record) (hl : VersB l) (hr : RecB r) : T (M.spec_l1Cur_dayNear c l r) (fun q => Good code (k + 20) q.2) := by
  unfold M.spec_l1Cur_dayNear
  obtain ⟨x, e1⟩ := firstV l r hl hr
  rw [e1, Option.bind_some]
  have rest : ∀ c1, Good code (k + 2) c1 → T (((bif (decide ((l.length : Int) > (0 : Int))) then M.spec_l1Cur_one c1 (2 : Int) else some default)).bind fun y3 =>
    bif ((decide ((l.length : Int) > (0 : Int))) && y3.1) then (
      (M.spec_l1Cur_pick (bif (decide ((l.length : Int) > (0 : Int))) then y3.2 else c1) (l.length : Int)).bind fun y4 =>
      asrt ((0 : Int) ≤ y4.1 ∧ y4.1 < (l.length : Int)) <|
      (M.spec_l1Cur_pick y4.2 (2 : Int)).bind fun y5 =>
      some ((IntKind.i64.wrap (((l.getD (Int.toNat y4.1) default).From) - y5.1)), y5.2))
    else (
      (M.spec_l1Cur_day (bif (decide ((l.length : Int) > (0 : Int))) then y3.2 else c1)).bind fun y6 =>
      some (y6.1, y6.2))) (fun q => Good code (k + 20) q.2) := by
    intro c1 h1
    cases hc : decide ((l.length : Int) > 0)
    · simp only [cond_false, Bool.false_and, Option.bind_some]
      exact (drawDay hb h1 (by omega)).then fun q hq => T_ret (hq.up (by omega))
    · simp only [cond_true, Bool.true_and]
      simp only [decide_eq_true_eq] at hc
      refine T_one hb h1 (by omega) ?_
      intro b c2 h2
      refine T_if (fun _ => ?_) (fun _ => (drawDay hb h2 (by omega)).then fun q hq => T_ret (hq.up (by omega)))
      refine T_pick hb h2 (by omega) ?_
      intro y c3 _ y2 h3
      refine T_ask (y2 (by omega)) ?_
      refine T_pick hb h3 (by omega) ?_
      intro z c4 _ _ h4
      exact T_ret (h4.up (by omega))
  cases hx : x.2
  · simp only [cond_false, Bool.false_and, Option.bind_some]
    exact rest c (h.up (by omega))
  · simp only [cond_true, Bool.true_and]
    refine T_one hb h (by omega) ?_
    intro b c1 h1
    refine T_if (fun _ => ?_) (fun _ => rest c1 h1)
    refine T_pick hb h1 (by omega) ?_
    intro y c2 _ _ h2
    exact T_ret (h2.up (by omega))
theorem dVerOn {code : List Int} (hb : Bytes code) : T (M.spec_DrawVersionOn code) (fun q => VersD q.1) := by
  unfold M.spec_DrawVersionOn
  refine (drawRecord hb good0v (by omega) 12).then ?_
  rintro ⟨r, c1⟩ ⟨h1, h2⟩
  have hr : RecB r := by unfold RecB; simp only at h1 ⊢; omega
  refine (drawVersions hb h2 (by omega) r).then ?_
  rintro ⟨l, c2⟩ ⟨h3, h4⟩
  refine (nearV hb h4 (by omega) l r h3.bb hr).then ?_
  rintro ⟨d, c3⟩ h5
  exact T_ret h3
theorem dChg {code : List Int} (hb : Bytes code) : T (M.spec_DrawChangedSeries code) (fun q => VersD q.1) := by
  unfold M.spec_DrawChangedSeries
  refine (drawRecord hb good0v (by omega) 12).then ?_
  rintro ⟨r, c1⟩ ⟨h1, h2⟩
  refine (drawVersions hb h2 (by omega) r).then ?_
  rintro ⟨l, c2⟩ ⟨h3, h4⟩
  simp only at h3 h4
  dsimp only
  refine T_pick hb h4 (by omega) ?_
  intro x c3 _ _ h5
  refine T_pick hb h5 (by omega) ?_
  intro y c4 _ _ _
  exact T_ret h3
theorem law_FnVersionLists (code : List Int) (h1 : code.length ≤ 9223372036854775807) (h2 : ∀ x, x ∈ code → 0 ≤ x ∧ x ≤ 255) : M.laws_FnVersionLists code = some true := by
  apply T.eq
  unfold M.laws_FnVersionLists M.laws_vBig
  rw [Option.bind_some]
  refine T_if (fun _ => T_ret rfl) (fun hq => ?_)
  simp only [decide_eq_false_iff_not] at hq
  have hb : Bytes code := ⟨by omega, h2⟩
  refine (dPutV hb).then ?_
  rintro ⟨l, v⟩ ⟨hl, hv⟩
  simp only at hl hv
  dsimp only
  have hlb := hl.bb
  have hl1 : l.length < 1000 := by have := hl.1; omega
  have hp := PutW_b (v := v) hlb hl1 (by omega)
  rw [putI l v hlb hl1 (by omega), Option.bind_some, putSp l v hlb hl1 (by omega), Option.bind_some, beq_self_eq_true, Bool.not_true, cond_false, vVersV _ hp, Option.bind_some, Bool.not_true, Bool.or_self, cond_false]
  refine T.then (Q := fun e => e = .inl ()) ?_ ?_
  · refine T_if (fun hd => ?_) (fun _ => T_ret rfl)
    cases h : versOk l && versOk (putV l v)
    · unfold PutW at hd; rw [h] at hd; cases hd
    have e : PutW l v = (putV l v, true) := by unfold PutW; rw [h]; rfl
    rw [e] at hp
    rw [Bool.and_eq_true] at h
    obtain ⟨q1, q2, q3⟩ := put_at h.2
    have h5 := (versOk_spec h.2).1
    rw [e]
    dsimp only at hp ⊢
    rw [verOnDI _ _ hp, Option.bind_some, q1]
    dsimp only
    rw [decide_eq_false (show ¬ (((vLo l v.From).length : Int) < 0) by omega), decide_eq_false (show ¬ (((vLo l v.From).length : Int) ≥ ((putV l v).length : Int)) by omega), Bool.not_true, Bool.or_self, Bool.or_self, asrt_pos (fun _ => ⟨by omega, by omega⟩), asrt_pos (fun _ => ⟨by omega, by omega⟩), Int.toNat_natCast, q3, bne_self_eq_false, Bool.or_self, cond_false, vRulesV _ _ (by omega), Option.bind_some, SameL_self, Bool.not_true, Bool.or_self, cond_false, versI _ hp, Option.bind_some, h.2, Bool.not_true, Bool.or_self, cond_false]
    refine T_if (fun hg => ?_) (fun _ => T_ret rfl)
    simp only [decide_eq_true_eq] at hg
    have hin : inR ((vLo l v.From).length : Int) 1 (((putV l v).length : Int) - 1) = true := inR_true.2 (by omega)
    have e2 : (ChgD (putV l v) ((vLo l v.From).length : Int)).2 = true := by unfold ChgD; rw [h.2, hin]; rfl
    rw [chgI _ _ hp, Option.bind_some, chgLoop _ _ _ h.2 ⟨by omega, q2⟩, Option.bind_some]
    dsimp only
    rw [e2]
    exact T_ret rfl
  rintro _ rfl
  dsimp only
  refine (dVerOn hb).then ?_
  rintro ⟨x, d⟩ hx
  simp only at hx
  dsimp only
  rw [verOnDI x d hx.bb, Option.bind_some, verOnDS x d hx.bb, Option.bind_some, bne_self_eq_false, beq_self_eq_true, Bool.not_true, Bool.or_self, cond_false]
  refine (dChg hb).then ?_
  rintro ⟨y, k⟩ hy
  simp only at hy
  dsimp only
  rw [chgI y k hy.bb, Option.bind_some, chgS y k hy.bb, Option.bind_some, beq_self_eq_true, cond_true, vIntsV _ ChgD_len, Option.bind_some]
  exact T_ret rfl
end Go.Proofs.Ytjfpdbhjoofllaa
