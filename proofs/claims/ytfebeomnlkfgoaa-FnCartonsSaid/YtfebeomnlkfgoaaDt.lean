/-
  Cartons that are merged: the exact law. Plain.
-/
import Derived.Test.YtfebeomnlkfgoaaDs
set_option linter.unusedSimpArgs false
set_option linter.unusedVariables false
namespace Go.Proofs.Ytfebeomnlkfgoaa
open Go.VS
def mrg (c d : Carton) : Carton := ⟨c.Id, c.Shelf, c.Room, sortL (c.Files ++ d.Files), c.Thick + d.Thick⟩
def mrgC (l : List Carton) (p q : Nat) : List Carton := (l.set p (mrg (l.getD p default) (l.getD q default))).eraseIdx q
def MrgD (l : List Carton) (a b : Int) : List Carton × Bool :=
  bif ((!(good l) || decide (atC l a < 0)) || decide (atC l b < 0)) || (atC l a == atC l b) then ([], false) else (bif !(good (mrgC l (atC l a).toNat (atC l b).toNat)) then ([], false) else (mrgC l (atC l a).toNat (atC l b).toNat, true))
theorem mrg_case {l : List Carton} {a b : Int} (hq : (((!(good l) || decide (atC l a < 0)) || decide (atC l b < 0)) || (atC l a == atC l b)) = false) :
    ∃ p q : Nat, atC l a = (p : Int) ∧ atC l b = (q : Int) ∧ p < l.length ∧ q < l.length ∧ p ≠ q ∧ good l = true ∧ l.length ≤ 10 ∧ (l.getD p default).Files.length ≤ 12 ∧ (l.getD q default).Files.length ≤ 12 ∧ (l.getD p default).Files.Pairwise (· < ·) ∧ (l.getD q default).Files.Pairwise (· < ·) ∧ (∀ f, f ∈ (l.getD p default).Files → f ∉ (l.getD q default).Files) ∧ (1 ≤ (l.getD p default).Thick ∧ (l.getD p default).Thick ≤ 40) ∧ 1 ≤ (l.getD q default).Thick ∧ (l.getD q default).Thick ≤ 40 := by
  simp only [Bool.or_eq_false_iff, Bool.not_eq_false', decide_eq_false_iff_not, beq_eq_false_iff_ne, ne_eq] at hq
  obtain ⟨⟨⟨hg, h1⟩, h2⟩, h3⟩ := hq
  have hP := good_P hg
  have hb1 := atC_bd (l := l) (i := a)
  have hb2 := atC_bd (l := l) (i := b)
  have g1 := goodOne_spec (hP.gd (atC l a).toNat (by omega))
  have g2 := goodOne_spec (hP.gd (atC l b).toNat (by omega))
  refine ⟨(atC l a).toNat, (atC l b).toNat, by omega, by omega, by omega, by omega, by omega, hg, hP.len, g1.2.2.2.1, g2.2.2.2.1, ris2_pw g1.2.2.2.2.1, ris2_pw g2.2.2.2.2.1, fun f m1 m2 => ?_, g1.2.2.2.2.2, g2.2.2.2.2.2⟩
  have hit1 : hasF f (l.getD (atC l a).toNat default) = true := by
    unfold hasF
    exact List.any_eq_true.2 ⟨f, m1, by simp⟩
  have hit2 : hasF f (l.getD (atC l b).toNat default) = true := by
    unfold hasF
    exact List.any_eq_true.2 ⟨f, m2, by simp⟩
  rcases Nat.lt_or_gt_of_ne (show (atC l a).toNat ≠ (atC l b).toNat by omega) with h | h
  · rw [good_apart hg h (by omega) hit1] at hit2; cases hit2
  · rw [good_apart hg h (by omega) hit2] at hit1; cases hit1
theorem Small.erase {l : List Carton} {k : Nat} (h : Small l) : Small (l.eraseIdx k) := ⟨Nat.le_trans (List.eraseIdx_sublist _ _).length_le h.1, fun c hc => h.2 c ((List.eraseIdx_sublist _ _).subset hc)⟩
theorem mrgC_small {l : List Carton} {p q : Nat} (hl : Small l) (h1 : (l.getD p default).Files.length ≤ 12) (h2 : (l.getD q default).Files.length ≤ 12) : Small (mrgC l p q) := by
  refine Small.erase (Small.set hl ?_)
  show (sortL _).length ≤ _
  rw [sortL_len, List.length_append]
  omega
theorem mrgI (l : List Carton) (a b : Int) (hl : Small l) : M.impl_MergeCartons l a b = some (MrgD l a b) := by
  have hl1 := hl.1
  unfold M.impl_MergeCartons MrgD
  rw [atCI l a (by omega), Option.bind_some, atCI l b (by omega), Option.bind_some, e_iAreCartons hl, Option.bind_some]
  show (bif ((!(good l) || decide (atC l a < 0)) || decide (atC l b < 0)) || (atC l a == atC l b) then _ else _) = _
  cases hq : ((!(good l) || decide (atC l a < 0)) || decide (atC l b < 0)) || (atC l a == atC l b)
  · obtain ⟨p, q, e1, e2, hp, hq2, hne, hg, hlen, hF1, hF2, hpw1, hpw2, hno, ht1, ht2⟩ := mrg_case hq
    have e3 : firstAt (fun c : Carton => c.Id == a) l = (p : Int) := e1
    have e4 : firstAt (fun c : Carton => c.Id == b) l = (q : Int) := e2
    rw [cond_false, cond_false, copyI l hl, Option.bind_some, e1, e2, e3, e4, Int.toNat_natCast, Int.toNat_natCast, asrt_pos ⟨by omega, by omega⟩, asrt_pos ⟨by omega, by omega⟩, asrt_pos (Ne.symm hne), asrt_pos ⟨by omega, by omega⟩, asrt_pos ⟨by omega, by omega⟩, asrt_pos (by omega), asrt_pos ⟨by omega, by omega⟩, Option.bind_some]
    try dsimp only
    simp only [set_eq_getD hp, set_ne_getD hne, List.set_set, List.length_set]
    unfold M.slices_Sort_int_int
    rw [asrt_pos ⟨by omega, by omega⟩, asrt_pos (by rw [List.length_append]; omega), Option.bind_some, asrt_pos (sortL_len _), asrt_pos ⟨by omega, by omega⟩, asrt_pos ⟨by omega, by omega⟩, asrt_pos ⟨by omega, by omega⟩]
    have hs := e_iAreCartons (mrgC_small (p := p) (q := q) hl hF1 hF2)
    unfold M.slices_Delete_impl_Carton_impl_Carton
    rw [wrap64_id (n := (q : Int) + 1) (by omega) (by omega), wrap64_id (n := (l.getD p default).Thick + (l.getD q default).Thick) (by omega) (by omega), show (q : Int) + 1 = ((q + 1 : Nat) : Int) by omega, delM_eq (by omega) (by rw [List.length_set]; omega), Option.bind_some, ← List.eraseIdx_eq_take_drop_succ]
    show ((M.impl_AreCartons (mrgC l p q)).bind fun y6 => bif !y6 then some (([] : List Carton), false) else some (mrgC l p q, true)) = _
    rw [hs, Option.bind_some]
    cases !(good (mrgC l p q)) <;> rfl
  · rfl
theorem putMany (F G : List Int) (h1 : F.Pairwise (· < ·)) (h2 : G.Pairwise (· < ·)) (hno : ∀ f, f ∈ F → f ∉ G) (k : Nat) (hk : k < G.length) (hl : F.length + G.length < 1000000) : M.spec_l1Put (sortL (F ++ G.take k)) (G.getD k default) = some (sortL (F ++ G.take (k + 1))) := by
  have hsub : (G.take (k + 1)).Pairwise (· < ·) := h2.sublist (List.take_sublist _ _)
  have hd1 : (F ++ G.take (k + 1)).Nodup := by
    rw [List.nodup_append]
    exact ⟨pw_nodup h1, pw_nodup hsub, fun a ha b hb e => hno a ha (by rw [e]; exact List.mem_of_mem_take hb)⟩
  have e1 : F ++ G.take (k + 1) = (F ++ G.take k) ++ [G.getD k default] := by rw [take_succ_getD hk, List.append_assoc]
  have hd2 := hd1
  rw [e1, List.nodup_append] at hd2
  rw [putSort (srt_strict hd2.1) (fun hm => hd2.2.2 _ (srt_mem.1 hm) _ (by simp) rfl) (by rw [sortL_len, List.length_append, List.length_take]; omega)]
  have hd3 : (sortL (F ++ G.take k) ++ [G.getD k default]).Nodup := by
    rw [List.nodup_append]
    exact ⟨pw_nodup (srt_strict hd2.1), by simp, fun a ha b hb e => hd2.2.2 a (srt_mem.1 ha) b hb e⟩
  rw [strict_ext (srt_strict hd3) (srt_strict hd1) (fun y => by
    rw [srt_mem, srt_mem, e1, List.mem_append, List.mem_append, srt_mem])]
theorem srt_self {F : List Int} (h : F.Pairwise (· < ·)) : sortL F = F := strict_ext (srt_strict (pw_nodup h)) h (fun y => srt_mem)
theorem mrgLoop1 (l : List Carton) (p q : Nat) (t : Int) (hl1 : l.length ≤ 1048576) (hp : p < l.length) (hq : q < l.length) (hF1 : (l.getD p default).Files.length ≤ 12) (hF2 : (l.getD q default).Files.length ≤ 12) (hpw1 : (l.getD p default).Files.Pairwise (· < ·)) (hpw2 : (l.getD q default).Files.Pairwise (· < ·)) (hno : ∀ f, f ∈ (l.getD p default).Files → f ∉ (l.getD q default).Files) :
    iterO (M.spec_MergeCartons_l1 l (q : Int)) ((0 : Int), (⟨(l.getD p default).Id, (l.getD p default).Shelf, (l.getD p default).Room, (l.getD p default).Files, t⟩ : Carton)) = some ⟨(l.getD p default).Id, (l.getD p default).Shelf, (l.getD p default).Room, sortL ((l.getD p default).Files ++ (l.getD q default).Files), t⟩ := by
  refine iter_up (fun k => ((k : Int), (⟨(l.getD p default).Id, (l.getD p default).Shelf, (l.getD p default).Room, sortL ((l.getD p default).Files ++ (l.getD q default).Files.take k), t⟩ : Carton))) (l.getD q default).Files.length (by rw [List.take_zero, List.append_nil, srt_self hpw1]; rfl) (by omega) (fun k hk => ?_) ?_
  · unfold M.spec_MergeCartons_l1
    try dsimp only
    rw [Int.toNat_natCast, Int.toNat_natCast, asrt_pos ⟨by omega, by omega⟩, decide_eq_true (by omega), cond_true, asrt_pos ⟨by omega, by omega⟩, asrt_pos ⟨by omega, by omega⟩, putMany _ _ hpw1 hpw2 hno k hk (by omega), Option.bind_some, wrap64_id (by omega) (by omega), cast_succ]
  · unfold M.spec_MergeCartons_l1
    try dsimp only
    rw [Int.toNat_natCast, asrt_pos ⟨by omega, by omega⟩, decide_eq_false (by omega), cond_false, List.take_of_length_le (Nat.le_refl _)]
theorem erase_step {L : List Carton} {k q : Nat} (hk : k < L.length) : (L.take (k + 1)).eraseIdx q = if k = q then (L.take k).eraseIdx q else (L.take k).eraseIdx q ++ [L.getD k default] := by
  have hlen : (L.take k).length = k := by rw [List.length_take]; omega
  rw [take_succ_getD hk]
  rcases Nat.lt_or_ge q k with h | h
  · rw [if_neg (by omega), List.eraseIdx_append_of_lt_length (by omega)]
  · rw [List.eraseIdx_append_of_length_le (by omega), hlen]
    have e : (L.take k).eraseIdx q = L.take k := List.eraseIdx_of_length_le (by omega)
    rw [e]
    by_cases hq : k = q
    · rw [if_pos hq, show q - k = 0 by omega]
      simp
    · rw [if_neg hq, show q - k = (q - k - 1) + 1 by omega]
      simp
theorem mrgS (l : List Carton) (a b : Int) (hl : Small l) : M.spec_MergeCartons l a b = some (MrgD l a b) := by
  have hl1 := hl.1
  unfold M.spec_MergeCartons MrgD
  rw [findS l a (by omega), Option.bind_some, findS l b (by omega), Option.bind_some, e_l18Good hl, Option.bind_some]
  show (bif ((!(good l) || decide (atC l a < 0)) || decide (atC l b < 0)) || (atC l a == atC l b) then _ else _) = _
  cases hq : ((!(good l) || decide (atC l a < 0)) || decide (atC l b < 0)) || (atC l a == atC l b)
  · obtain ⟨p, q, e1, e2, hp, hq2, hne, hg, hlen, hF1, hF2, hpw1, hpw2, hno, ht1, ht2⟩ := mrg_case hq
    have e3 : firstAt (fun c : Carton => c.Id == a) l = (p : Int) := e1
    have e4 : firstAt (fun c : Carton => c.Id == b) l = (q : Int) := e2
    obtain ⟨L, hL⟩ : ∃ L, l.set p (mrg (l.getD p default) (l.getD q default)) = L := ⟨_, rfl⟩
    have hLl : L.length = l.length := by rw [← hL, List.length_set]
    rw [cond_false, cond_false, ownS l hl, Option.bind_some, e1, e2, e3, e4, Int.toNat_natCast, Int.toNat_natCast, iter_up (s := (([] : List Carton), (0 : Int))) (step := M.spec_MergeCartons_l0 l (p : Int) (q : Int) l) (e := L.eraseIdx q) (fun k => ((L.take k).eraseIdx q, (k : Int))) l.length (by simp) (by omega) (fun k hk => ?_) ?_, Option.bind_some]
    · have hs := e_l18Good (mrgC_small (p := p) (q := q) hl hF1 hF2)
      unfold mrgC at hs ⊢
      rw [hL] at hs ⊢
      try dsimp only
      rw [hs, Option.bind_some]
      cases !(good (L.eraseIdx q)) <;> rfl
    · unfold M.spec_MergeCartons_l0
      try dsimp only
      rw [decide_eq_false (by omega), cond_false, List.take_of_length_le (by omega)]
    · have hel : ((L.take k).eraseIdx q).length ≤ k := Nat.le_trans (List.eraseIdx_sublist _ _).length_le (by rw [List.length_take]; omega)
      unfold M.spec_MergeCartons_l0
      try dsimp only
      rw [decide_eq_true (by omega), cond_true, asrt_pos ⟨by omega, by omega⟩, Int.toNat_natCast, Int.toNat_natCast, erase_step (by omega), wrap64_id (n := (k : Int) + 1) (by omega) (by omega), cast_succ]
      by_cases hkp : k = p
      · subst hkp
        rw [beq_self_eq_true, cond_true, asrt_pos ⟨by omega, by omega⟩, wrap64_id (n := (l.getD k default).Thick + (l.getD q default).Thick) (by omega) (by omega), mrgLoop1 l k q _ hl1 hk hq2 hF1 hF2 hpw1 hpw2 hno, Option.bind_some]
        try dsimp only
        rw [Option.bind_some, show ((k : Int) != (q : Int)) = true by simp; omega, cond_true, asrt_pos (by simp only [List.length_cons, List.length_nil]; omega), Option.bind_some, if_neg hne, ← hL, set_eq_getD hk]
        rfl
      · have e5 : L.getD k default = l.getD k default := by rw [← hL]; exact set_ne_getD (fun h => hkp h.symm)
        rw [show ((k : Int) == (p : Int)) = false by rw [beq_eq_false_iff_ne]; omega, cond_false, Option.bind_some, e5]
        try dsimp only
        by_cases hkq : k = q
        · rw [show ((k : Int) != (q : Int)) = false by simp; omega, cond_false, Option.bind_some, if_pos hkq]
        · rw [show ((k : Int) != (q : Int)) = true by simp; omega, cond_true, asrt_pos (by simp only [List.length_cons, List.length_nil]; omega), Option.bind_some, if_neg hkq]
  · rfl
theorem MrgD_small {l : List Carton} {a b : Int} (hl : Small l) : Small (MrgD l a b).1 := by
  unfold MrgD
  cases hq : ((!(good l) || decide (atC l a < 0)) || decide (atC l b < 0)) || (atC l a == atC l b)
  · obtain ⟨p, q, e1, e2, hp, hq2, hne, hg, hlen, hF1, hF2, _⟩ := mrg_case hq
    rw [e1, e2, Int.toNat_natCast, Int.toNat_natCast]
    cases !(good (mrgC l p q))
    · exact mrgC_small hl hF1 hF2
    · exact Small.nil
  · exact Small.nil
end Go.Proofs.Ytfebeomnlkfgoaa
