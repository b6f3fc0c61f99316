/-
  Words that are hidden: where a word stands in a text, spans in their order. Plain.
-/
import Derived.Test.YteocnbeefedbkaaDoorRe
set_option linter.unusedSimpArgs false
set_option linter.unusedVariables false
namespace Go.Proofs.YteocnbeefedbkaaDoor
open Go.VS

/-! ### Places -/
def plW (w : List UInt8) : Int → List (List UInt8) → List Int
  | _, [] => []
  | a, p :: ps => (bif p == w then [a] else []) ++ plW w (a + p.length + 1) ps
def bdy : List UInt8 → Bool
  | [] => true
  | c :: _ => !lower c
def scanW (w : List UInt8) : Bool → Int → List UInt8 → List Int
  | _, _, [] => []
  | b, a, c :: r => (bif b && (((c :: r).take w.length == w) && bdy ((c :: r).drop w.length)) then [a] else []) ++ scanW w (!lower c) (a + 1) r
theorem word_spec {w : List UInt8} (h : wordOk w = true) : (1 ≤ w.length ∧ w.length ≤ 10) ∧ w ≠ [] ∧ ∀ c ∈ w, lower c = true := by
  unfold wordOk at h
  simp only [Bool.and_eq_true, inR_true, List.all_eq_true] at h
  refine ⟨by omega, fun e => ?_, h.2⟩
  rw [e] at h; simp at h
theorem low32 : lower 32 = false := by decide
theorem splitC_cnt {c : UInt8} : ∀ t : List UInt8, (splitC c t).length = t.count c + 1
  | [] => rfl
  | b :: l => by
    have ih := splitC_cnt (c := c) l
    unfold splitC
    rw [List.count_cons]
    cases hb : b == c
    · simp only [Bool.false_eq_true, if_false, List.length_cons, List.length_tail]; omega
    · simp only [if_true, List.length_cons]; omega
theorem splitC_sum {c : UInt8} : ∀ t : List UInt8, ((splitC c t).map fun p => p.length + 1).sum = t.length + 1
  | [] => rfl
  | b :: l => by
    have ih := splitC_sum (c := c) l
    have hn := splitC_ne c l
    unfold splitC
    cases hb : b == c
    · simp only [Bool.false_eq_true, if_false, List.map_cons, List.sum_cons, List.length_cons]
      rw [hn] at ih
      simp only [List.map_cons, List.sum_cons] at ih
      omega
    · simp only [if_true, List.map_cons, List.sum_cons, List.length_cons, List.length_nil]; omega
/-- The first part, and what is behind it. -/
theorem split_hd : ∀ t : List UInt8, t.all lowsp = true → (∀ c ∈ (splitC 32 t).headD [], lower c = true) ∧ ∃ r, t = (splitC 32 t).headD [] ++ r ∧ (r = [] ∨ ∃ r', r = 32 :: r')
  | [], _ => ⟨fun c h => by simp [splitC] at h, [], by simp [splitC], .inl rfl⟩
  | b :: l, h => by
    simp only [List.all_cons, Bool.and_eq_true] at h
    obtain ⟨ih1, r, ih2, ih3⟩ := split_hd l h.2
    unfold splitC
    cases hb : b == 32
    · have hl : lower b = true := by
        have := h.1
        unfold lowsp at this
        rw [hb, Bool.or_false] at this
        exact this
      simp only [Bool.false_eq_true, if_false, List.headD_cons]
      refine ⟨fun c hc => ?_, r, by rw [List.cons_append, ← ih2], ih3⟩
      rcases List.mem_cons.1 hc with e | e
      · rw [e]; exact hl
      · exact ih1 c e
    · obtain rfl := eq_of_beq hb
      simp only [if_true, List.headD_cons]
      exact ⟨fun c hc => by simp at hc, 32 :: l, by simp, .inr ⟨l, rfl⟩⟩
theorem match_iff {w h r : List UInt8} (hw : ∀ c ∈ w, lower c = true) (hh : ∀ c ∈ h, lower c = true) (hr : r = [] ∨ ∃ r', r = 32 :: r') : (((h ++ r).take w.length == w) && bdy ((h ++ r).drop w.length)) = (h == w) := by
  rw [Bool.eq_iff_iff, Bool.and_eq_true, beq_iff_eq, beq_iff_eq]
  constructor
  · rintro ⟨h1, h2⟩
    rcases Nat.lt_trichotomy w.length h.length with g | g | g
    · rw [List.drop_append_of_le_length (by omega), List.drop_eq_getElem_cons g] at h2
      simp only [List.cons_append, bdy, Bool.not_eq_true'] at h2
      rw [hh _ (List.getElem_mem g)] at h2
      cases h2
    · rw [g, List.take_left] at h1; exact h1
    · rcases hr with rfl | ⟨r', rfl⟩
      · have := congrArg List.length h1
        simp at this; omega
      · have hm : (32 : UInt8) ∈ (h ++ 32 :: r').take w.length := by
          rw [List.take_append]
          refine List.mem_append_right _ ?_
          obtain ⟨d, hd⟩ : ∃ d, w.length - h.length = d + 1 := ⟨w.length - h.length - 1, by omega⟩
          rw [hd, List.take_succ_cons]
          exact List.mem_cons_self ..
        rw [h1] at hm
        have := hw _ hm
        rw [low32] at this; cases this
  · rintro rfl
    refine ⟨List.take_left, ?_⟩
    rw [List.drop_left]
    rcases hr with rfl | ⟨r', rfl⟩
    · rfl
    · simp only [bdy, low32, Bool.not_false]
theorem scan_pl {w : List UInt8} (hn : w ≠ []) (hw : ∀ c ∈ w, lower c = true) : ∀ t : List UInt8, t.all lowsp = true → ∀ a : Int, scanW w true a t = plW w a (splitC 32 t) ∧ scanW w false a t = plW w (a + ((splitC 32 t).headD []).length + 1) (splitC 32 t).tail
  | [], _, a => by
    have e : (([] : List UInt8) == w) = false := by rw [beq_eq_false_iff_ne]; exact fun h => hn h.symm
    refine ⟨?_, by simp [scanW, splitC, plW]⟩
    simp [scanW, splitC, plW, e]
  | c :: l, h, a => by
    have h0 := h
    simp only [List.all_cons, Bool.and_eq_true] at h
    obtain ⟨s1, r, s2, s3⟩ := split_hd (c :: l) h0
    have ih := scan_pl hn hw l h.2 (a + 1)
    have hm := match_iff hw s1 s3
    rw [← s2] at hm
    rw [scanW, scanW, hm, Bool.true_and, Bool.false_and, cond_false, List.nil_append]
    cases hb : c == 32
    · have hl : lower c = true := by
        have := h.1
        unfold lowsp at this
        rw [hb, Bool.or_false] at this
        exact this
      have e : splitC 32 (c :: l) = (c :: (splitC 32 l).headD []) :: (splitC 32 l).tail := by
        conv => lhs; unfold splitC
        simp only [hb, Bool.false_eq_true, if_false]
      rw [hl, Bool.not_true, ih.2, e]
      simp only [List.headD_cons, List.tail_cons, plW, List.length_cons]
      rw [show a + 1 + (((splitC 32 l).headD []).length : Int) + 1 = a + ((((splitC 32 l).headD []).length + 1 : Nat) : Int) + 1 by omega]
      exact ⟨rfl, rfl⟩
    · obtain rfl := eq_of_beq hb
      have e : splitC 32 (32 :: l) = [] :: splitC 32 l := by
        conv => lhs; unfold splitC
        simp
      rw [low32, Bool.not_false, ih.1, e]
      simp only [List.headD_cons, List.tail_cons, plW, List.length_nil]
      rw [show a + ((0 : Nat) : Int) + 1 = a + 1 by omega]
      exact ⟨rfl, rfl⟩
theorem scan_short {w : List UInt8} : ∀ (t : List UInt8) (b : Bool) (a : Int), t.length < w.length → scanW w b a t = []
  | [], _, _, _ => rfl
  | c :: r, b, a, h => by
    have e : ((c :: r).take w.length == w) = false := by
      rw [beq_eq_false_iff_ne]
      intro e
      have := congrArg List.length e
      rw [List.length_take] at this
      omega
    rw [scanW, e, Bool.false_and, Bool.and_false, cond_false, List.nil_append]
    exact scan_short r _ _ (by simp only [List.length_cons] at h; omega)
theorem scan_mem {w : List UInt8} : ∀ (t : List UInt8) (b : Bool) (a : Int), ∀ x ∈ scanW w b a t, a ≤ x ∧ x - a + (w.length : Int) ≤ (t.length : Int) ∧ (t.drop (x - a).toNat).take w.length = w
  | [], _, _, x, h => by simp [scanW] at h
  | c :: r, b, a, x, h => by
    rw [scanW] at h
    rcases List.mem_append.1 h with h | h
    · cases hq : b && (((c :: r).take w.length == w) && bdy ((c :: r).drop w.length))
      · rw [hq] at h; cases h
      · rw [hq] at h
        simp only [cond_true, List.mem_singleton] at h
        subst h
        simp only [Bool.and_eq_true, beq_iff_eq] at hq
        have hl := congrArg List.length hq.2.1
        rw [List.length_take] at hl
        refine ⟨Int.le_refl _, by omega, ?_⟩
        rw [Int.sub_self]
        exact hq.2.1
    · obtain ⟨h1, h2, h3⟩ := scan_mem r _ _ x h
      refine ⟨by omega, by simp only [List.length_cons]; omega, ?_⟩
      have : (x - a).toNat = (x - (a + 1)).toNat + 1 := by omega
      rw [this, List.drop_succ_cons]
      exact h3
theorem plW_ge {w : List UInt8} : ∀ (ps : List (List UInt8)) (a : Int), ∀ x ∈ plW w a ps, a ≤ x
  | [], _, x, h => by simp [plW] at h
  | p :: ps, a, x, h => by
    rw [plW] at h
    rcases List.mem_append.1 h with h | h
    · cases hq : p == w <;> rw [hq] at h
      · cases h
      · simp only [cond_true, List.mem_singleton] at h; omega
    · have := plW_ge ps _ x h
      omega
theorem plW_gap {w : List UInt8} : ∀ (ps : List (List UInt8)) (a : Int), (plW w a ps).Pairwise fun x y => x + (w.length : Int) < y
  | [], _ => .nil
  | p :: ps, a => by
    rw [plW]
    cases hq : p == w
    · rw [cond_false, List.nil_append]; exact plW_gap ps _
    · obtain rfl := eq_of_beq hq
      rw [cond_true, List.singleton_append, List.pairwise_cons]
      refine ⟨fun y hy => ?_, plW_gap ps _⟩
      have := plW_ge ps _ y hy
      omega
theorem plW_len {w : List UInt8} : ∀ (ps : List (List UInt8)) (a : Int), (plW w a ps).length ≤ ps.length
  | [], _ => Nat.le_refl _
  | p :: ps, a => by
    have := plW_len (w := w) ps (a + p.length + 1)
    rw [plW, List.length_append, List.length_cons]
    cases p == w <;> simp <;> omega
/-- Every part is the word. -/
theorem plW_all {w : List UInt8} : ∀ (ps : List (List UInt8)) (a : Int), (plW w a ps).length = ps.length → (∀ p ∈ ps, p = w)
  | [], _, _, p, hp => by cases hp
  | q :: ps, a, h, p, hp => by
    have g := plW_len (w := w) ps (a + q.length + 1)
    rw [plW, List.length_append, List.length_cons] at h
    cases hq : q == w
    · rw [hq, cond_false, List.length_nil] at h; omega
    · rw [hq, cond_true, List.length_singleton] at h
      have ih := plW_all (w := w) ps (a + q.length + 1) (by omega)
      rcases List.mem_cons.1 hp with e | e
      · rw [e]; exact eq_of_beq hq
      · exact ih p e
theorem plW_rep {w : List UInt8} : ∀ (ps : List (List UInt8)) (a : Int), (∀ p ∈ ps, p = w) → plW w a ps = (List.range ps.length).map fun k : Nat => a + (k : Int) * ((w.length : Int) + 1)
  | [], _, _ => rfl
  | p :: ps, a, h => by
    obtain rfl := h p (List.mem_cons_self ..)
    rw [plW, beq_self_eq_true, cond_true, plW_rep ps _ (fun q hq => h q (List.mem_cons_of_mem _ hq)), List.length_cons, List.range_succ_eq_map, List.map_cons, List.map_map]
    simp only [List.singleton_append, List.cons.injEq]
    refine ⟨by simp, List.map_congr_left fun k _ => ?_⟩
    show a + (p.length : Int) + 1 + (k : Int) * ((p.length : Int) + 1) = a + ((k + 1 : Nat) : Int) * ((p.length : Int) + 1)
    rw [cast_succ, Int.add_mul, Int.one_mul]
    omega

/-! ### The models of the places -/
theorem foldPl (w : List UInt8) (ps : List (List UInt8)) : ∀ (out : List Int) (a : Int), 0 ≤ a → a + (((ps.map fun p => p.length + 1).sum : Nat) : Int) < 10000000 → out.length + (ps.map fun p => p.length + 1).sum < 10000000 → ∃ a', foldO (M.impl_placesOf_l0 w) ps (out, a) = some (out ++ plW w a ps, a') := by
  induction ps with
  | nil => intro out a _ _ _; exact ⟨a, by simp [foldO, plW]⟩
  | cons p ps ih =>
    intro out a h0 h1 h2
    simp only [List.map_cons, List.sum_cons] at h1 h2
    have e : M.impl_placesOf_l0 w (out, a) p = some (out ++ (bif p == w then [a] else []), a + p.length + 1) := by
      unfold M.impl_placesOf_l0
      dsimp only
      rw [wrap64_id (n := (p.length : Int) + 1) (by omega) (by omega), wrap64_id (n := a + ((p.length : Int) + 1)) (by omega) (by omega), ← Int.add_assoc]
      cases p == w
      · rw [cond_false, cond_false, List.append_nil]; rfl
      · rw [cond_true, cond_true, asrt_pos (by rw [List.length_singleton]; omega)]; rfl
    obtain ⟨a', h⟩ := ih (out ++ (bif p == w then [a] else [])) (a + p.length + 1) (by omega) (by omega) (by
      have : (out ++ (bif p == w then [a] else [])).length ≤ out.length + 1 := by cases p == w <;> simp
      omega)
    refine ⟨a', ?_⟩
    rw [foldO, e, Option.bind_some, h, plW, List.append_assoc]
theorem placesI (t w : List UInt8) (hl : t.length < 1000000) : M.impl_placesOf t w = some (plW w 0 (splitC 32 t)) := by
  have e : M.strings_SplitSeq t [32] = some (splitC 32 t) := by
    unfold M.strings_SplitSeq
    rw [asrt_pos ⟨rfl, by omega⟩]
    rfl
  have hs := splitC_sum (c := 32) t
  obtain ⟨a', h⟩ := foldPl w (splitC 32 t) [] 0 (by omega) (by omega) (by rw [hs]; simp; omega)
  unfold M.impl_placesOf
  rw [e, Option.bind_some, h, Option.bind_some, List.nil_append]
theorem letterB (b : UInt8) : M.spec_l15Letter ((b.toNat : Nat) : Int) = some (lower b) := by
  rw [letterS]
  congr 1
  unfold lower
  rw [Bool.eq_iff_iff]
  simp only [Bool.and_eq_true, decide_eq_true_eq]
  omega
theorem getD_drop0 {t : List UInt8} {k : Nat} : bdy (t.drop k) = !(decide (k < t.length) && lower (t.getD k 0)) := by
  by_cases h : k < t.length
  · rw [List.drop_eq_getElem_cons h, decide_eq_true h, Bool.true_and]
    simp [bdy, List.getD, h]
  · rw [List.drop_eq_nil_of_le (by omega), decide_eq_false h, Bool.false_and]
    rfl
theorem placesS0 (t w : List UInt8) (hl : t.length < 1000000) (hn : 1 ≤ w.length) (hn2 : w.length < 1000000) : M.spec_l15Places t w = some (scanW w true 0 t) := by
  apply T.eq
  unfold M.spec_l15Places
  refine T.then (T_iter (fun s => ∃ k : Nat, s.2 = (k : Int) ∧ k ≤ t.length ∧ s.1.length ≤ k ∧ s.1 ++ scanW w (!(decide (0 < k) && lower (t.getD (k - 1) 0))) (k : Int) (t.drop k) = scanW w true 0 t) (fun s => t.length - s.2.toNat) (fun e => e = scanW w true 0 t) ⟨0, rfl, Nat.zero_le _, Nat.zero_le _, rfl⟩ (by simp only; omega) ?_) (fun e h => T_ret h)
  rintro ⟨out, i⟩ ⟨k, rfl, h1, h2, h3⟩
  simp only at h2 h3
  unfold M.spec_l15Places_l0
  dsimp only
  rw [wrap64_id (n := (k : Int) + (w.length : Int)) (by omega) (by omega)]
  refine T_if (fun hq => ?_) (fun hq => ?_)
  · simp only [decide_eq_true_eq] at hq
    have hk : k < t.length := by omega
    have ed : t.drop k = t[k] :: t.drop (k + 1) := List.drop_eq_getElem_cons hk
    have es : slc t (k : Int) ((k : Int) + (w.length : Int)) = (t.drop k).take w.length := by
      rw [slc_drop (by omega) (by omega)]
      congr 1
      omega
    rw [es]
    have e1 : ((bif (!((t.drop k).take w.length == w)) then some default else (bif (decide ((k : Int) > 0)) then M.spec_l15Letter ((t.getD (Int.toNat (IntKind.i64.wrap ((k : Int) - 1))) 0).toNat : Int) else some default)) : Option Bool) = some (((t.drop k).take w.length == w) && (decide (0 < k) && lower (t.getD (k - 1) 0))) := by
      by_cases hp : 0 < k
      · rw [decide_eq_true (show (k : Int) > 0 by omega), decide_eq_true hp, wrap64_id (by omega) (by omega), show Int.toNat ((k : Int) - 1) = k - 1 by omega, cond_true, letterB]
        cases (t.drop k).take w.length == w <;> rfl
      · rw [decide_eq_false (show ¬ (k : Int) > 0 by omega), decide_eq_false hp]
        cases (t.drop k).take w.length == w <;> rfl
    rw [e1, show decide ((k : Int) > 0) = decide (0 < k) by rw [Bool.eq_iff_iff, decide_eq_true_eq, decide_eq_true_eq]; omega]
    refine T_in (T_ask ⟨by omega, by omega, by omega⟩ (T_ask (fun _ hp => by rw [decide_eq_true_eq] at hp; rw [wrap64_id (by omega) (by omega)]; omega) ?_))
    rw [Option.bind_some]
    have e2 : ((bif ((!((t.drop k).take w.length == w)) || (decide (0 < k) && (((t.drop k).take w.length == w) && (decide (0 < k) && lower (t.getD (k - 1) 0))))) then some default else (bif (decide ((k : Int) + (w.length : Int) < (t.length : Int))) then M.spec_l15Letter ((t.getD (Int.toNat ((k : Int) + (w.length : Int))) 0).toNat : Int) else some default)) : Option Bool) = some (bif ((!((t.drop k).take w.length == w)) || (decide (0 < k) && (((t.drop k).take w.length == w) && (decide (0 < k) && lower (t.getD (k - 1) 0))))) then false else (decide (k + w.length < t.length) && lower (t.getD (k + w.length) 0))) := by
      cases (!((t.drop k).take w.length == w)) || (decide (0 < k) && (((t.drop k).take w.length == w) && (decide (0 < k) && lower (t.getD (k - 1) 0))))
      · rw [cond_false, cond_false]
        by_cases hp : k + w.length < t.length
        · rw [decide_eq_true (show (k : Int) + (w.length : Int) < (t.length : Int) by omega), decide_eq_true hp, cond_true, show Int.toNat ((k : Int) + (w.length : Int)) = k + w.length by omega, letterB, Bool.true_and]
        · rw [decide_eq_false (show ¬ (k : Int) + (w.length : Int) < (t.length : Int) by omega), decide_eq_false hp]
          rfl
      · rfl
    rw [e2]
    refine T_ask (fun _ hp => by rw [decide_eq_true_eq] at hp; omega) ?_
    rw [Option.bind_some, show decide ((k : Int) + (w.length : Int) < (t.length : Int)) = decide (k + w.length < t.length) by rw [Bool.eq_iff_iff, decide_eq_true_eq, decide_eq_true_eq]; omega]
    have hb : bdy ((t.drop k).drop w.length) = !(decide (k + w.length < t.length) && lower (t.getD (k + w.length) 0)) := by rw [List.drop_drop]; exact getD_drop0
    have eN : (!(decide (0 < k + 1) && lower (t.getD (k + 1 - 1) 0))) = !lower t[k] := by
      rw [decide_eq_true (Nat.succ_pos k), Bool.true_and, Nat.add_sub_cancel]
      simp [List.getD, hk]
    have eS : scanW w (!(decide (0 < k) && lower (t.getD (k - 1) 0))) (k : Int) (t.drop k) = (bif (!(decide (0 < k) && lower (t.getD (k - 1) 0))) && ((t.drop k).take w.length == w && bdy ((t.drop k).drop w.length)) then [(k : Int)] else []) ++ scanW w (!lower t[k]) ((k : Int) + 1) (t.drop (k + 1)) := by
      rw [ed, scanW]
    rw [eS, hb] at h3
    rw [wrap64_id (n := (k : Int) + 1) (by omega) (by omega)]
    generalize ((t.drop k).take w.length == w) = A at h3 ⊢
    generalize lower (t.getD (k - 1) 0) = B at h3 ⊢
    generalize lower (t.getD (k + w.length) 0) = D at h3 ⊢
    generalize decide (0 < k) = z at h3 ⊢
    generalize decide (k + w.length < t.length) = y at h3 ⊢
    have fin : ∀ o : List Int, o.length ≤ k + 1 → o ++ scanW w (!lower t[k]) ((k : Int) + 1) (t.drop (k + 1)) = scanW w true 0 t → ∃ k' : Nat, (o, (k : Int) + 1).2 = (k' : Int) ∧ k' ≤ t.length ∧ (o, (k : Int) + 1).1.length ≤ k' ∧ (o, (k : Int) + 1).1 ++ scanW w (!(decide (0 < k') && lower (t.getD (k' - 1) 0))) (k' : Int) (t.drop k') = scanW w true 0 t := fun o ho he => ⟨k + 1, by simp only; omega, by omega, ho, by rw [eN, cast_succ]; exact he⟩
    refine T_if (fun hc => T_ret (T_ret ⟨fin out (by omega) ?_, by simp only; omega⟩)) (fun hc => T_ask (by simp only [List.length_cons, List.length_nil]; omega) (T_ret (T_ret ⟨fin (out ++ [(k : Int)]) (by simp; omega) ?_, by simp only; omega⟩)))
    · cases A <;> cases B <;> cases D <;> cases z <;> cases y <;> first | exact h3 | (simp at hc)
    · cases A <;> cases B <;> cases D <;> cases z <;> cases y <;> first | (simp at hc; done) | (rw [List.append_assoc]; exact h3)
  · simp only [decide_eq_false_iff_not] at hq
    rw [scan_short _ _ _ (by rw [List.length_drop]; omega), List.append_nil] at h3
    exact T_ret h3
/-- All lowercase texts: the reference's places are the program's. -/
theorem placesS (t w : List UInt8) (hl : t.length < 1000000) (ht : t.all lowsp = true) (hw : wordOk w = true) : M.spec_l15Places t w = some (plW w 0 (splitC 32 t)) := by
  obtain ⟨h1, h2, h3⟩ := word_spec hw
  rw [placesS0 t w hl h1.1 (by omega), (scan_pl h2 h3 t ht 0).1]
theorem pl_mem {t w : List UInt8} (ht : t.all lowsp = true) (hw : wordOk w = true) : ∀ x ∈ plW w 0 (splitC 32 t), 0 ≤ x ∧ x + (w.length : Int) ≤ (t.length : Int) ∧ (t.drop x.toNat).take w.length = w := by
  obtain ⟨h1, h2, h3⟩ := word_spec hw
  intro x hx
  rw [← (scan_pl h2 h3 t ht 0).1] at hx
  obtain ⟨g1, g2, g3⟩ := scan_mem t true 0 x hx
  rw [Int.sub_zero] at g2 g3
  exact ⟨g1, g2, g3⟩

/-! ### Touched -/
def tch (l : List Span) (f t : Int) : Bool := l.any fun s => decide (s.From < t) && decide (f < s.To)
theorem contSp (t : List Span) (p : Span → Bool) (fm : Span → Option Bool) (hfm : ∀ x ∈ t, fm x = some (p x)) (hl : t.length < 1000000) : M.slices_ContainsFunc_impl_Span_impl_Span t fm = some (t.any p) := by
  unfold M.slices_ContainsFunc_impl_Span_impl_Span M.slices_IndexFunc_impl_Span_impl_Span
  have h := iter_first (step := M.slices_IndexFunc_impl_Span_impl_Span_l0 t fm) p t (by omega) (fun k hk => by
    have := hfm _ (getD_mem hk)
    unfold M.slices_IndexFunc_impl_Span_impl_Span_l0
    simp (disch := first | omega | (intros; simp only [decide_eq_true_eq, decide_eq_false_iff_not, Bool.not_eq_true, Bool.not_eq_false, Bool.not_true, Bool.not_false] at *; omega)) only [cast_succ, asrt_pos, wrap64_id, Option.bind_some, cond_true, cond_false, decide_eq_true, decide_eq_false, Int.toNat_natCast, Bool.not_true, Bool.not_false, Bool.and_true, Bool.true_and, Bool.and_false, Bool.false_and, Bool.or_true, Bool.true_or, Bool.or_false, Bool.false_or, bif_some, this]) (by
    unfold M.slices_IndexFunc_impl_Span_impl_Span_l0
    simp (disch := first | omega | (intros; simp only [decide_eq_true_eq, decide_eq_false_iff_not, Bool.not_eq_true, Bool.not_eq_false, Bool.not_true, Bool.not_false] at *; omega)) only [cast_succ, asrt_pos, wrap64_id, Option.bind_some, cond_true, cond_false, decide_eq_true, decide_eq_false, Int.toNat_natCast, Bool.not_true, Bool.not_false, Bool.and_true, Bool.true_and, Bool.and_false, Bool.false_and, Bool.or_true, Bool.true_or, Bool.or_false, Bool.false_or])
  refine (congrArg (fun q => q.bind fun y0 => some (decide (y0 ≥ 0))) h).trans ?_
  rw [Option.bind_some, firstAt_any]
theorem tchI (l : List Span) (f t : Int) (hl : l.length < 1000000) : M.impl_isTouched l f t = some (tch l f t) := by
  unfold M.impl_isTouched
  rw [contSp l (fun s => decide (s.From < t) && decide (f < s.To)) (fun x0 => M.impl_isTouched_1 x0 t f) (fun x _ => rfl) hl]
  rfl
theorem tchS (l : List Span) (f t : Int) (hl : l.length < 1000000) : M.spec_l15Touched l f t = some (tch l f t) := by
  unfold M.spec_l15Touched
  rw [iter_any (step := M.spec_l15Touched_l0 l f t) (s := 0) (fun k => (k : Int)) l.length (fun k => decide ((l.getD k default).From < t) && decide (f < (l.getD k default).To)) (.inr true) (.inl ()) rfl (by omega)
    (fun k hk hp => by
      unfold M.spec_l15Touched_l0
      dsimp only
      rw [Int.toNat_natCast, decide_eq_true (by omega), cond_true, asrt_pos ⟨by omega, by omega⟩, asrt_pos (fun _ => ⟨by omega, by omega⟩), hp, cond_false, wrap64_id (by omega) (by omega), cast_succ])
    (fun k hk hp => by
      unfold M.spec_l15Touched_l0
      dsimp only
      rw [Int.toNat_natCast, decide_eq_true (by omega), cond_true, asrt_pos ⟨by omega, by omega⟩, asrt_pos (fun _ => ⟨by omega, by omega⟩), hp, cond_true])
    (by
      unfold M.spec_l15Touched_l0
      dsimp only
      rw [decide_eq_false (by omega), cond_false])]
  rw [← any_getD (p := fun s : Span => decide (s.From < t) && decide (f < s.To))]
  unfold tch
  cases l.any fun s : Span => decide (s.From < t) && decide (f < s.To) <;> rfl
theorem tch_false {l : List Span} {f t : Int} (h : tch l f t = false) {s : Span} (hs : s ∈ l) : t ≤ s.From ∨ s.To ≤ f := by
  unfold tch at h
  rw [List.any_eq_false] at h
  have := h s hs
  simp only [Bool.and_eq_true, decide_eq_true_eq] at this
  omega
theorem tch_true {l : List Span} {f t : Int} {s : Span} (hs : s ∈ l) (h1 : s.From < t) (h2 : f < s.To) : tch l f t = true := by
  unfold tch
  rw [List.any_eq_true]
  exact ⟨s, hs, by simp only [Bool.and_eq_true, decide_eq_true_eq]; exact ⟨h1, h2⟩⟩
end Go.Proofs.YteocnbeefedbkaaDoor
