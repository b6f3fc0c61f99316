/-
  FnSchedules: schedules as texts, and back; series; draws; the law. Plain.
-/
import Derived.Test.YthcmelnpcaijaaaGreatDoorTx
import Derived.Test.YthcmelnpcaijaaaGreatDoorHc
import Derived.Test.YthcmelnpcaijaaaGreatDoorRb
set_option linter.unusedSimpArgs false
set_option linter.unusedVariables false
namespace Go.Proofs.YthcmelnpcaijaaaGreatDoor
open Go.VS

/-! ### Joins -/
theorem elGetD {β : Type} [Inhabited β] {l : List β} {k : Nat} (h : k < l.length) : l[k]? = some (l.getD k default) := by simp [List.getD, h]
theorem joinSucc (l : List (List UInt8)) (c : UInt8) (k : Nat) (hk : k < l.length) : Go.Lib.join (l.take (k + 1)) [c] = (bif decide ((k : Int) > 0) then Go.Lib.join (l.take k) [c] ++ [c] else Go.Lib.join (l.take k) [c]) ++ l.getD k default := by
  cases l with
  | nil => exact absurd hk (Nat.not_lt_zero _)
  | cons x r =>
    cases k with
    | zero =>
      show Go.Lib.join [x] [c] = Go.Lib.join [] [c] ++ x
      rw [Go.Lib.join_one, Go.Lib.join_nil, List.nil_append]
    | succ k =>
      have hk : k < r.length := by simpa using hk
      rw [decide_eq_true (by omega), cond_true, List.take_succ_cons, List.take_succ_cons, Go.Lib.join_cons, Go.Lib.join_cons, Go.Lib.joinTail_take_succ _ _ k _ (elGetD hk), List.getD_cons_succ]
      simp only [List.append_assoc]
theorem tailLe {c : UInt8} {m : Nat} : ∀ {xs : List (List UInt8)}, (∀ x ∈ xs, x.length ≤ m) → (Go.Lib.joinTail [c] xs).length ≤ (m + 1) * xs.length
  | [], _ => by simp [Go.Lib.joinTail]
  | x :: xs, h => by
    rw [joinTail_cons]
    have := tailLe (c := c) (m := m) (xs := xs) (fun y hy => h y (by simp [hy]))
    have := h x (by simp)
    simp only [List.length_append, List.length_cons, List.length_nil, Nat.mul_add]
    omega
theorem joinLe {c : UInt8} {m : Nat} {xs : List (List UInt8)} (h : ∀ x ∈ xs, x.length ≤ m) : (Go.Lib.join xs [c]).length ≤ (m + 1) * xs.length := by
  cases xs with
  | nil => simp [Go.Lib.join_nil]
  | cons x xs =>
    rw [Go.Lib.join_cons]
    have := tailLe (c := c) (m := m) (xs := xs) (fun y hy => h y (by simp [hy]))
    have := h x (by simp)
    simp only [List.length_append, List.length_cons, Nat.mul_add]
    omega

/-! ### The word of a rule -/
def ktd : List UInt8 := [107, 116, 100]
def actB (a : Int) : List UInt8 := slc ktd (a - 1) a
theorem act_cases {a : Int} (h : 1 ≤ a ∧ a ≤ 3) : (a = 1 ∧ actB a = [107]) ∨ (a = 2 ∧ actB a = [116]) ∨ (a = 3 ∧ actB a = [100]) := by
  rcases (by omega : a = 1 ∨ a = 2 ∨ a = 3) with rfl | rfl | rfl
  · exact .inl ⟨rfl, by decide⟩
  · exact .inr (.inl ⟨rfl, by decide⟩)
  · exact .inr (.inr ⟨rfl, by decide⟩)
theorem actB_len {a : Int} (h : 1 ≤ a ∧ a ≤ 3) : (actB a).length = 1 := by
  rcases act_cases h with ⟨_, e⟩ | ⟨_, e⟩ | ⟨_, e⟩ <;> rw [e] <;> rfl
def headR (r : Rule) : List UInt8 := numT r.Series ++ 46 :: (numT r.Event ++ 43 :: numT r.Days)
def wordR (r : Rule) : List UInt8 := numT r.Series ++ 46 :: (numT r.Event ++ 43 :: (numT r.Days ++ actB r.Act))
theorem wordR_head (r : Rule) : wordR r = headR r ++ actB r.Act := by simp [wordR, headR]
theorem wordR_nest (r : Rule) : (((((numT r.Series) ++ ([46])) ++ (numT r.Event)) ++ ([43])) ++ (numT r.Days)) ++ (actB r.Act) = wordR r := by simp [wordR]
theorem nestAssoc (s a b c d : List UInt8) : s ++ a ++ [46] ++ b ++ [43] ++ c ++ d = s ++ (a ++ [46] ++ b ++ [43] ++ c ++ d) := by simp
def textR (l : List Rule) : List UInt8 := Go.Lib.join (l.map wordR) [32]
theorem ruleOk_bd {r : Rule} (h : ruleOk r = true) : (1 ≤ r.Series ∧ r.Series ≤ 99) ∧ (0 ≤ r.Event ∧ r.Event ≤ 9) ∧ (0 ≤ r.Days ∧ r.Days ≤ 20000) ∧ (1 ≤ r.Act ∧ r.Act ≤ 3) := by
  unfold ruleOk at h
  simp only [Bool.and_eq_true] at h
  exact ⟨inR_true.1 h.1.1.1, inR_true.1 h.1.1.2, inR_true.1 h.1.2, inR_true.1 h.2⟩
theorem lens_of {r : Rule} (h : ruleOk r = true) : (numT r.Series).length ≤ 7 ∧ (numT r.Event).length ≤ 7 ∧ (numT r.Days).length ≤ 7 ∧ (actB r.Act).length = 1 := by
  have b := ruleOk_bd h
  exact ⟨numT_lenT (k := 6) (by omega) (by simp; omega), numT_lenT (k := 6) (by omega) (by simp; omega), numT_lenT (k := 6) (by omega) (by simp; omega), actB_len b.2.2.2⟩
theorem wordR_len {r : Rule} (h : ruleOk r = true) : (wordR r).length ≤ 24 := by
  have := lens_of h
  unfold wordR
  simp only [List.length_append, List.length_cons]
  omega
theorem sched_at {l : List Rule} (h : schedOk l = true) {k : Nat} (hk : k < l.length) : ruleOk (l.getD k default) = true := (schedOk_iff.1 h).1 _ (getD_mem hk)
theorem sched_len {l : List Rule} (h : schedOk l = true) : l.length ≤ 8 := (schedOk_iff.1 h).2.2
theorem words_len {l : List Rule} (h : schedOk l = true) : ∀ x ∈ l.map wordR, x.length ≤ 24 := by
  intro x hx
  obtain ⟨r, hr, rfl⟩ := List.mem_map.1 hx
  exact wordR_len ((schedOk_iff.1 h).1 r hr)
theorem textR_len {l : List Rule} (h : schedOk l = true) : (textR l).length ≤ 200 := by
  have := joinLe (c := 32) (words_len h)
  have := sched_len h
  unfold textR
  rw [List.length_map] at *
  omega
theorem takeMap {l : List Rule} {k : Nat} (hk : k < l.length) : (l.take (k + 1)).map wordR = (l.take k).map wordR ++ [wordR (l.getD k default)] := by
  rw [List.take_add_one, elGetD hk]; simp

theorem textI (l : List Rule) (h : schedOk l = true) : M.impl_scheduleText l = some (textR l) := by
  have h8 := sched_len h
  unfold M.impl_scheduleText
  rw [iter_up (step := M.impl_scheduleText_l0 l) (s := (([] : List (List UInt8)), (0 : Int))) (e := l.map wordR) (fun k => ((l.take k).map wordR, (k : Int))) l.length rfl (by omega) (fun k hk => by
    have hr := sched_at h hk
    have b := ruleOk_bd hr
    have n := lens_of hr
    unfold M.impl_scheduleText_l0
    try dsimp only
    have hw : slc ([107, 116, 100] : List UInt8) ((l.getD k default).Act - 1) ((l.getD k default).Act) = actB (l.getD k default).Act := rfl
    have hlk : ((l.take k).map wordR).length ≤ k := by simp; omega
    rw [decide_eq_true (by omega), cond_true, asrt_pos ⟨by omega, by omega⟩, Int.toNat_natCast, decI _ (by omega) (by omega), Option.bind_some, asrt_pos (by simp only [List.length_append, List.length_cons, List.length_nil]; omega), decI _ (by omega) (by omega), Option.bind_some, asrt_pos (by simp only [List.length_append, List.length_cons, List.length_nil]; omega), asrt_pos (by simp only [List.length_append, List.length_cons, List.length_nil]; omega), decI _ (by omega) (by omega), Option.bind_some, asrt_pos (by simp only [List.length_append, List.length_cons, List.length_nil]; omega), wrap64_id (n := (l.getD k default).Act - 1) (by omega) (by omega), asrt_pos ⟨by omega, by omega, by simp only [List.length_cons, List.length_nil]; omega⟩, hw, asrt_pos (by simp only [List.length_append, List.length_cons, List.length_nil]; omega), asrt_pos (by simp only [List.length_cons, List.length_nil]; omega), wrap64_id (n := (k : Int) + 1) (by omega) (by omega), wordR_nest, takeMap hk]
    rfl) (by
    unfold M.impl_scheduleText_l0
    try dsimp only
    rw [decide_eq_false (by omega), cond_false, List.take_length]), Option.bind_some]
  try dsimp only
  have hj := joinLe (c := 32) (words_len h)
  rw [List.length_map] at hj
  unfold M.strings_Join
  rw [asrt_pos ⟨by rw [List.length_map]; omega, by omega⟩, Option.bind_some]
  rfl
theorem actG {a : Int} (h : 1 ≤ a ∧ a ≤ 3) : (([[], [107], [116], [100]] : List (List UInt8)).getD (Int.toNat a) default) = actB a := by
  rcases act_cases h with ⟨rfl, e⟩ | ⟨rfl, e⟩ | ⟨rfl, e⟩ <;> rw [e] <;> rfl
theorem textS (l : List Rule) (h : schedOk l = true) : M.spec_l4Text l = some (textR l) := by
  have h8 := sched_len h
  unfold M.spec_l4Text
  rw [iter_up (step := M.spec_l4Text_l0 l) (s := (([] : List UInt8), (0 : Int))) (e := textR l) (fun k => (Go.Lib.join ((l.map wordR).take k) [32], (k : Int))) l.length rfl (by omega) (fun k hk => by
    have hr := sched_at h hk
    have b := ruleOk_bd hr
    have n := lens_of hr
    have hk' : k < (l.map wordR).length := by rw [List.length_map]; exact hk
    have hl : (Go.Lib.join ((l.map wordR).take k) [32]).length ≤ 400 := by
      have := joinLe (c := 32) (m := 24) (xs := (l.map wordR).take k) (fun x hx => words_len h x (List.mem_of_mem_take hx))
      rw [List.length_take, List.length_map] at this
      omega
    have hg : (l.map wordR).getD k default = wordR (l.getD k default) := by simp [List.getD, hk]
    unfold M.spec_l4Text_l0
    try dsimp only
    rw [decide_eq_true (show (k : Int) < (l.length : Int) by omega), cond_true, asrt_pos ⟨by omega, by omega⟩, Int.toNat_natCast, joinSucc _ 32 k hk', hg]
    apply T.eq
    refine T.then (Q := fun s1 => s1 = (bif decide ((k : Int) > 0) then Go.Lib.join ((l.map wordR).take k) [32] ++ [32] else Go.Lib.join ((l.map wordR).take k) [32]) ++ wordR (l.getD k default)) ?_ ?_
    · refine T.then (Q := fun s2 => s2 = (bif decide ((k : Int) > 0) then Go.Lib.join ((l.map wordR).take k) [32] ++ [32] else Go.Lib.join ((l.map wordR).take k) [32])) (T_if (fun h0 => T_ask (by simp only [List.length_cons, List.length_nil]; omega) (T_ret (by rw [h0]; rfl))) (fun h0 => T_ret (by rw [h0]; rfl))) ?_
      intro s2 hs
      have h2 : s2.length ≤ 401 := by
        rw [hs]
        cases decide ((k : Int) > 0)
        · simp only [cond_false]; omega
        · simp only [cond_true, List.length_append, List.length_cons, List.length_nil]; omega
      rw [← hs]
      rw [numS _ (by omega) (by omega), Option.bind_some, asrt_pos (by omega), asrt_pos (by simp only [List.length_append, List.length_cons, List.length_nil]; omega), numS _ (by omega) (by omega), Option.bind_some, asrt_pos (by simp only [List.length_append, List.length_cons, List.length_nil]; omega), asrt_pos (by simp only [List.length_append, List.length_cons, List.length_nil]; omega), numS _ (by omega) (by omega), Option.bind_some, asrt_pos (by simp only [List.length_append, List.length_cons, List.length_nil]; omega), asrt_pos ⟨by omega, by simp only [List.length_cons, List.length_nil]; omega⟩, actG b.2.2.2, asrt_pos (by simp only [List.length_append, List.length_cons, List.length_nil]; omega)]
      refine T_ret ?_
      rw [← wordR_nest]
      exact nestAssoc _ _ _ _ _
    · rintro s1 rfl
      refine T_ret ?_
      rw [wrap64_id (n := (k : Int) + 1) (by omega) (by omega), cast_succ]) (by
    unfold M.spec_l4Text_l0
    try dsimp only
    rw [decide_eq_false (by omega), cond_false]
    unfold textR
    rw [← List.length_map (f := wordR), List.take_length]), Option.bind_some]

def TxtD (l : List Rule) : List UInt8 × Bool := bif schedOk l then (textR l, true) else ([], false)
theorem TextI (l : List Rule) (hl : l.length < 1000000) : M.impl_ScheduleText l = some (TxtD l) := by
  unfold M.impl_ScheduleText TxtD
  rw [schedI l hl, Option.bind_some]
  cases h : schedOk l
  · rfl
  · rw [Bool.not_true, cond_false, textI l h]; rfl
theorem TextS (l : List Rule) (hl : l.length < 1000000) : M.spec_ScheduleText l = some (TxtD l) := by
  unfold M.spec_ScheduleText TxtD
  rw [schedS l hl, Option.bind_some]
  cases h : schedOk l
  · rfl
  · rw [Bool.not_true, cond_false, textS l h]; rfl

/-! ### Words read -/
theorem head_eq (r : Rule) : headR r = (numT r.Series ++ 46 :: numT r.Event) ++ 43 :: numT r.Days := by simp [headR]
theorem notMem_app {c : UInt8} {a b : List UInt8} (h1 : c ∉ a) (h2 : c ∉ b) : c ∉ a ++ b := fun h => (List.mem_append.1 h).elim h1 h2
theorem notMem_cons {c x : UInt8} {b : List UInt8} (h1 : c ≠ x) (h2 : c ∉ b) : c ∉ x :: b := fun h => (List.mem_cons.1 h).elim h1 h2
theorem num_free {n : Int} (h : 0 ≤ n) {c : UInt8} (hc : dgt c = false) : c ∉ numT n := all_free (numT_dgt h) hc
theorem word_free {r : Rule} (h : ruleOk r = true) : (32 : UInt8) ∉ wordR r := by
  have b := ruleOk_bd h
  unfold wordR
  refine notMem_app (num_free (by omega) rfl) (notMem_cons (by decide) (notMem_app (num_free (by omega) rfl) (notMem_cons (by decide) (notMem_app (num_free (by omega) rfl) ?_))))
  rcases act_cases b.2.2.2 with ⟨_, e⟩ | ⟨_, e⟩ | ⟨_, e⟩ <;> rw [e] <;> decide
theorem split_text {l : List Rule} (h : schedOk l = true) (hn : l ≠ []) : splitC 32 (textR l) = l.map wordR := by
  cases l with
  | nil => exact absurd rfl hn
  | cons r t =>
    unfold textR
    rw [List.map_cons, Go.Lib.join_cons, splitC_tail]
    · exact word_free ((schedOk_iff.1 h).1 r (by simp))
    · intro x hx
      obtain ⟨q, hq, rfl⟩ := List.mem_map.1 hx
      exact word_free ((schedOk_iff.1 h).1 q (by simp [hq]))

def restI (y : List UInt8) : List UInt8 := (Go.Lib.cut (Go.Lib.cut y [46]).2.1 [43]).2.1
def parseI (y : List UInt8) : Rule := ⟨dgI (Go.Lib.cut y [46]).1, dgI (Go.Lib.cut (Go.Lib.cut y [46]).2.1 [43]).1, dgI (Go.Lib.trimRightS (restI y) ktd), IntKind.i64.wrap (1 + Go.Lib.index ktd (slc (restI y) ((Go.Lib.trimRightS (restI y) ktd).length : Int) ((restI y).length : Int)))⟩
theorem trimRight_le (s cs : List UInt8) : (Go.Lib.trimRightS s cs).length ≤ s.length := by
  unfold Go.Lib.trimRightS
  rw [List.length_reverse]
  have := (List.dropWhile_suffix (cs.contains ·) (l := s.reverse)).length_le
  rw [List.length_reverse] at this
  exact this
theorem parseStepI (st : List Rule) (y : List UInt8) (hst : st.length < 1000000) (hy : y.length < 1000000) : M.impl_ParseSchedule_l0 st y = some (st ++ [parseI y]) := by
  unfold M.impl_ParseSchedule_l0
  try dsimp only
  have c1 := cut_len y [46]
  have c2 := cut_len (Go.Lib.cut y [46]).2.1 [43]
  have c3 := trimRight_le (restI y) ktd
  have c4 : (restI y).length ≤ y.length := by unfold restI; omega
  rw [cutI y _ hy, Option.bind_some, cutI _ _ (by omega), Option.bind_some]
  unfold M.strings_TrimRight
  rw [asrt_pos ⟨by unfold restI at c4; omega, by decide, by decide⟩, Option.bind_some, digitsI _ (by omega), Option.bind_some, digitsI _ (by omega), Option.bind_some, digitsI _ (by unfold restI ktd at *; omega), Option.bind_some, asrt_pos ⟨by omega, by unfold restI ktd at *; omega, by omega⟩]
  unfold M.strings_Index
  rw [asrt_pos (by decide), Option.bind_some, asrt_pos (by simp only [List.length_cons, List.length_nil]; omega)]
  rfl
theorem parseFoldI : ∀ (ws : List (List UInt8)) (st : List Rule), (∀ x ∈ ws, x.length < 1000000) → st.length + ws.length < 1000000 → foldO M.impl_ParseSchedule_l0 ws st = some (st ++ ws.map parseI)
  | [], st, _, _ => by simp [foldO]
  | w :: ws, st, h, hl => by
    simp only [List.length_cons] at hl
    rw [foldO, parseStepI st w (by omega) (h w (by simp)), Option.bind_some, parseFoldI ws (st ++ [parseI w]) (fun x hx => h x (by simp [hx])) (by simp; omega)]
    simp
theorem ktd_dgt : ∀ x ∈ ktd, dgt x = false := by decide
theorem trim_word {s : List UInt8} (h : s.all dgt = true) {x : UInt8} (hx : ktd.contains x = true) : Go.Lib.trimRightS (s ++ [x]) ktd = s := by
  unfold Go.Lib.trimRightS
  rw [List.reverse_append, List.reverse_singleton, List.singleton_append, List.dropWhile_cons, if_pos hx]
  have : s.reverse.dropWhile (ktd.contains ·) = s.reverse := by
    cases hs : s.reverse with
    | nil => rfl
    | cons b t =>
      have hb : b ∈ s := by rw [← List.mem_reverse, hs]; simp
      have hd := List.all_eq_true.1 h b hb
      have hc : ktd.contains b = false := by
        cases hc : ktd.contains b
        · rfl
        · have := ktd_dgt b (by simpa using hc)
          rw [this] at hd; cases hd
      rw [List.dropWhile_cons, if_neg (by rw [hc]; decide)]
  rw [this, List.reverse_reverse]
theorem slcBack {β : Type} {a b : List β} : slc (a ++ b) (a.length : Int) ((a ++ b).length : Int) = b := by unfold slc; rw [Int.toNat_natCast, Int.toNat_natCast, List.take_length, List.drop_left]
theorem parseI_word {r : Rule} (h : ruleOk r = true) : parseI (wordR r) = r := by
  have b := ruleOk_bd h
  have f1 : (46 : UInt8) ∉ numT r.Series := num_free (by omega) rfl
  have f2 : (43 : UInt8) ∉ numT r.Event := num_free (by omega) rfl
  have e1 : Go.Lib.cut (wordR r) [46] = (numT r.Series, numT r.Event ++ 43 :: (numT r.Days ++ actB r.Act), true) := cut_app f1
  have e2 : Go.Lib.cut (numT r.Event ++ 43 :: (numT r.Days ++ actB r.Act)) [43] = (numT r.Event, numT r.Days ++ actB r.Act, true) := cut_app f2
  have e3 : restI (wordR r) = numT r.Days ++ actB r.Act := by unfold restI; rw [e1]; simp only; rw [e2]
  have e4 : Go.Lib.trimRightS (numT r.Days ++ actB r.Act) ktd = numT r.Days := by
    rcases act_cases b.2.2.2 with ⟨_, e⟩ | ⟨_, e⟩ | ⟨_, e⟩ <;> rw [e] <;> exact trim_word (numT_dgt (by omega)) (by decide)
  have e5 : IntKind.i64.wrap (1 + Go.Lib.index ktd (actB r.Act)) = r.Act := by
    rcases act_cases b.2.2.2 with ⟨e0, e⟩ | ⟨e0, e⟩ | ⟨e0, e⟩ <;> rw [e, e0] <;> decide
  unfold parseI
  rw [e3, e4, slcBack, e5, e1]
  simp only
  rw [e2]
  simp only
  rw [dgI_num (by omega) (by omega), dgI_num (by omega) (by omega), dgI_num (by omega) (by omega)]

theorem slcHead {β : Type} {a b : List β} {n : Int} (h : n = (a.length : Int)) : slc (a ++ b) 0 n = a := by subst h; simp [slc]
theorem split43 (s : List UInt8) (hl : s.length < 1000000) : M.spec_l1Split s 43 = some (splitC 43 s) := splitS s 43 hl
theorem split46 (s : List UInt8) (hl : s.length < 1000000) : M.spec_l1Split s 46 = some (splitC 46 s) := splitS s 46 hl
theorem split32 (s : List UInt8) (hl : s.length < 1000000) : M.spec_l1Split s 32 = some (splitC 32 s) := splitS s 32 hl
theorem splitAtLen {c : UInt8} {s : List UInt8} {k : Nat} (hl : s.length < 1000000) : ((splitC c s).getD k default).length < 1000000 := by
  by_cases hk : k < (splitC c s).length
  · have := splitC_mem c s _ (getD_mem hk); omega
  · have e : (splitC c s).getD k default = [] := by
      rw [List.getD_eq_getElem?_getD, List.getElem?_eq_none (by omega)]; rfl
    rw [e]; simp
theorem word_last {r : Rule} (h : ruleOk r = true) : (((wordR r).getD ((wordR r).length - 1) 0).toNat : Int) = (bif r.Act == 1 then 107 else bif r.Act == 2 then 116 else 100) ∧ (wordR r).length = (headR r).length + 1 := by
  have b := ruleOk_bd h
  rw [wordR_head]
  rcases act_cases b.2.2.2 with ⟨e0, e⟩ | ⟨e0, e⟩ | ⟨e0, e⟩ <;> rw [e, e0] <;> refine ⟨?_, by simp⟩ <;> simp [List.getD]
theorem readWord' (w : List UInt8) (hl : w.length < 1000000) : T (M.spec_l4Read w) (fun r => ∀ u, ruleOk u = true → w = wordR u → r = u) := by
  unfold M.spec_l4Read
  refine T_if (fun hq => T_ret ?_) (fun hq => ?_)
  · rintro u hu rfl
    exfalso
    have := (word_last hu).2
    simp only [beq_iff_eq] at hq
    omega
  · simp only [beq_eq_false_iff_ne] at hq
    have hw : 1 ≤ w.length := by omega
    rw [wrap64_id (n := (w.length : Int) - 1) (by omega) (by omega)]
    have en : Int.toNat ((w.length : Int) - 1) = w.length - 1 := by omega
    refine T.then (Q := fun r => ∀ u, ruleOk u = true → w = wordR u → r.Act = u.Act) ?_ ?_
    · refine T_ask ⟨by omega, by omega⟩ (T.then (Q := fun r => ∀ u, ruleOk u = true → w = wordR u → r.Act = u.Act) ?_ (fun r hr => T_ret hr))
      rw [en]
      have key : ∀ u, ruleOk u = true → w = wordR u → (((w.getD (w.length - 1) 0).toNat : Int) = (bif u.Act == 1 then 107 else bif u.Act == 2 then 116 else 100)) ∧ (1 ≤ u.Act ∧ u.Act ≤ 3) := by
        rintro u hu rfl
        exact ⟨(word_last hu).1, (ruleOk_bd hu).2.2.2⟩
      refine T_if (fun h1 => T_ret ?_) (fun h1 => T_if (fun h2 => T_ret ?_) (fun h2 => T_if (fun h3 => T_ret ?_) (fun h3 => T_ret ?_)))
      all_goals
        intro u hu e
        obtain ⟨k1, k2⟩ := key u hu e
        rcases (by omega : u.Act = 1 ∨ u.Act = 2 ∨ u.Act = 3) with ea | ea | ea <;> rw [ea] at k1 ⊢ <;> simp_all
    rintro r hr
    try dsimp only
    refine T_ask ⟨by omega, by omega, by omega⟩ ?_
    have hsl : (slc w 0 ((w.length : Int) - 1)).length < 1000000 := by have := slcLe (l := w) (a := 0) (b := (w.length : Int) - 1); omega
    generalize hP : slc w 0 ((w.length : Int) - 1) = P at hsl
    have hh : ∀ u, ruleOk u = true → w = wordR u → P = headR u := by
      rintro u hu rfl
      rw [← hP]
      have := (word_last hu).2
      rw [wordR_head] at this ⊢
      exact slcHead (by omega)
    rw [split43 _ hsl, Option.bind_some]
    refine T_ask ⟨by omega, by have := (splitC_len 43 P).2; omega⟩ ?_
    rw [show Int.toNat (0 : Int) = 0 from rfl, show Int.toNat (1 : Int) = 1 from rfl, split46 _ (splitAtLen hsl), Option.bind_some]
    have e43 : ∀ u, ruleOk u = true → w = wordR u → splitC 43 P = [numT u.Series ++ 46 :: numT u.Event, numT u.Days] := by
      intro u hu e
      have b := ruleOk_bd hu
      rw [hh u hu e, head_eq, splitC_app (notMem_app (num_free (by omega) rfl) (notMem_cons (by decide) (num_free (by omega) rfl))), splitC_free (num_free (by omega) rfl)]
    have e46 : ∀ u, ruleOk u = true → w = wordR u → splitC 46 ((splitC 43 P).getD 0 default) = [numT u.Series, numT u.Event] := by
      intro u hu e
      have b := ruleOk_bd hu
      rw [e43 u hu e]
      show splitC 46 (numT u.Series ++ 46 :: numT u.Event) = _
      rw [splitC_app (num_free (by omega) rfl), splitC_free (num_free (by omega) rfl)]
    have hsl2 := splitAtLen (c := 43) (k := 0) hsl
    refine T_if (fun h1 => T_ret ?_) (fun h1 => ?_)
    · intro u hu e
      exfalso
      rw [e46 u hu e, e43 u hu e] at h1
      simp at h1
    · simp only [Bool.or_eq_false_iff, bne_eq_false_iff_eq] at h1
      refine T_ask ⟨by omega, by omega⟩ ?_
      rw [readS _ (splitAtLen hsl2), Option.bind_some]
      refine T_ask ⟨by omega, by omega⟩ ?_
      rw [readS _ (splitAtLen hsl2), Option.bind_some]
      refine T_ask ⟨by omega, by omega⟩ ?_
      rw [readS _ (splitAtLen hsl), Option.bind_some]
      refine T_ret ?_
      intro u hu e
      have b := ruleOk_bd hu
      have ha := hr u hu e
      rw [e46 u hu e, e43 u hu e]
      show (⟨(rdS (numT u.Series)).1, (rdS (numT u.Event)).1, (rdS (numT u.Days)).1, r.Act⟩ : Rule) = u
      rw [rdS_num (by omega) (by omega), rdS_num (by omega) (by omega), rdS_num (by omega) (by omega), ha]
def rdW (w : List UInt8) : Rule := (M.spec_l4Read w).getD default
theorem readWord (w : List UInt8) (hl : w.length < 1000000) : M.spec_l4Read w = some (rdW w) := by
  obtain ⟨r, h, _⟩ := readWord' w hl
  unfold rdW
  rw [h]; rfl
theorem rdW_word {r : Rule} (h : ruleOk r = true) : rdW (wordR r) = r := by
  obtain ⟨q, h1, h2⟩ := readWord' (wordR r) (by have := wordR_len h; omega)
  unfold rdW
  rw [h1, h2 r h rfl]; rfl

/-! ### Schedules read -/
def LI (s : List UInt8) : List Rule := (splitC 32 s).map parseI
def LS (s : List UInt8) : List Rule := ((splitC 32 s).take 9).map rdW
def accI (s : List UInt8) : Bool := schedOk (LI s) && (textR (LI s) == s)
def accS (s : List UInt8) : Bool := schedOk (LS s) && (textR (LS s) == s)
theorem map_back {f : List UInt8 → Rule} {l : List Rule} (hf : ∀ r, ruleOk r = true → f (wordR r) = r) (h : ∀ r ∈ l, ruleOk r = true) : (l.map wordR).map f = l := by
  induction l with
  | nil => rfl
  | cons r t ih => rw [List.map_cons, List.map_cons, hf r (h r (by simp)), ih (fun x hx => h x (by simp [hx]))]
theorem LI_text {l : List Rule} (h : schedOk l = true) (hn : l ≠ []) : LI (textR l) = l := by
  unfold LI
  rw [split_text h hn, map_back (fun r hr => parseI_word hr) (schedOk_iff.1 h).1]
theorem LS_text {l : List Rule} (h : schedOk l = true) (hn : l ≠ []) : LS (textR l) = l := by
  unfold LS
  rw [split_text h hn, List.take_of_length_le (by rw [List.length_map]; have := sched_len h; omega), map_back (fun r hr => rdW_word hr) (schedOk_iff.1 h).1]
theorem LI_ne (s : List UInt8) : LI s ≠ [] := by
  have h := (splitC_len 32 s).2
  unfold LI
  intro e
  have h2 := congrArg List.length e
  rw [List.length_map, List.length_nil] at h2
  omega
theorem LS_ne (s : List UInt8) : LS s ≠ [] := by
  have h := (splitC_len 32 s).2
  unfold LS
  intro e
  have h2 := congrArg List.length e
  rw [List.length_map, List.length_take, List.length_nil] at h2
  omega
theorem acc_eq (s : List UInt8) : accS s = accI s ∧ (accI s = true → LS s = LI s) := by
  have k1 : accI s = true → LS s = LI s ∧ accS s = true := by
    intro h
    unfold accI at h
    rw [Bool.and_eq_true, beq_iff_eq] at h
    have e : LS s = LI s := by rw [← LS_text h.1 (LI_ne s), h.2]
    refine ⟨e, ?_⟩
    unfold accS
    rw [e, h.1, h.2]; simp
  have k2 : accS s = true → accI s = true := by
    intro h
    unfold accS at h
    rw [Bool.and_eq_true, beq_iff_eq] at h
    have e : LI s = LS s := by rw [← LI_text h.1 (LS_ne s), h.2]
    unfold accI
    rw [e, h.1, h.2]; simp
  refine ⟨?_, fun h => (k1 h).1⟩
  cases h : accI s
  · cases h2 : accS s
    · rfl
    · rw [k2 h2] at h; cases h
  · exact (k1 h).2
def ParD (s : List UInt8) : List Rule × Bool := bif s == [] then ([], true) else bif accI s then (LI s, true) else ([], false)
theorem ParI (s : List UInt8) (hl : s.length < 100000) : M.impl_ParseSchedule s = some (ParD s) := by
  unfold M.impl_ParseSchedule ParD
  cases h0 : s == []
  · have h1 := splitC_len 32 s
    rw [cond_false, cond_false, splitI s 32 (by omega), Option.bind_some, parseFoldI _ [] (fun x hx => by have := splitC_mem 32 s x hx; omega) (by simp; omega), List.nil_append, Option.bind_some]
    try dsimp only
    rw [show List.map parseI (splitC 32 s) = LI s from rfl, schedI _ (by unfold LI; rw [List.length_map]; omega), Option.bind_some]
    unfold accI
    cases h : schedOk (LI s)
    · rfl
    · rw [Bool.not_true, cond_false, textI _ h, Option.bind_some, Bool.true_and]
      cases textR (LI s) == s <;> rfl
  · rfl
theorem ParS (s : List UInt8) (hl : s.length < 100000) : M.spec_ParseSchedule s = some (ParD s) := by
  unfold M.spec_ParseSchedule ParD
  cases h0 : s == []
  · have h1 := splitC_len 32 s
    have hlen : ((splitC 32 s).take 9).length = min 9 (splitC 32 s).length := List.length_take
    rw [cond_false, cond_false, split32 s (by omega), Option.bind_some, iter_up (step := M.spec_ParseSchedule_l0 (splitC 32 s)) (s := (([] : List Rule), (0 : Int))) (e := LS s) (fun k => (((splitC 32 s).take k).map rdW, (k : Int))) (min 9 (splitC 32 s).length) rfl (by omega) (fun k hk => by
      unfold M.spec_ParseSchedule_l0
      try dsimp only
      have hx : ((splitC 32 s).getD k default).length < 1000000 := splitAtLen (by omega)
      have hm : (((splitC 32 s).take k).map rdW).length ≤ k := by rw [List.length_map, List.length_take]; omega
      rw [decide_eq_true (show (k : Int) < ((splitC 32 s).length : Int) by omega), decide_eq_true (show (k : Int) ≤ 8 by omega)]
      simp only [Bool.and_self, cond_true]
      rw [asrt_pos ⟨by omega, by omega⟩, Int.toNat_natCast, readWord _ hx, Option.bind_some, asrt_pos (by simp only [List.length_cons, List.length_nil]; omega), wrap64_id (n := (k : Int) + 1) (by omega) (by omega), List.take_add_one, elGetD (by omega)]
      simp) (by
      unfold M.spec_ParseSchedule_l0
      try dsimp only
      have e : ((decide (((min 9 (splitC 32 s).length : Nat) : Int) < ((splitC 32 s).length : Int))) && (decide (((min 9 (splitC 32 s).length : Nat) : Int) ≤ 8))) = false := by
        rw [Bool.and_eq_false_iff]
        simp only [decide_eq_false_iff_not]
        omega
      rw [e, cond_false]
      unfold LS
      congr 3
      by_cases h9 : 9 ≤ (splitC 32 s).length
      · rw [Nat.min_eq_left h9]
      · rw [Nat.min_eq_right (by omega), List.take_of_length_le (Nat.le_refl _), List.take_of_length_le (by omega)]), Option.bind_some]
    try dsimp only
    rw [schedS _ (by unfold LS; rw [List.length_map, hlen]; omega), Option.bind_some]
    obtain ⟨a1, a2⟩ := acc_eq s
    rw [← a1]
    cases h : schedOk (LS s)
    · have : accS s = false := by unfold accS; rw [h]; rfl
      rw [this]; rfl
    · rw [Bool.not_true, cond_false, textS _ h, Option.bind_some]
      have : accS s = (textR (LS s) == s) := by unfold accS; rw [h]; rfl
      rw [← this]
      cases ha : accS s
      · rfl
      · rw [a2 (by rw [← a1, ha])]; rfl
  · rfl
theorem textR_nil : textR [] = [] := rfl
theorem textR_ne {l : List Rule} (h : schedOk l = true) (hn : l ≠ []) : (textR l == []) = false := by
  rw [beq_eq_false_iff_ne]
  intro e
  have := split_text h hn
  rw [e] at this
  cases l with
  | nil => exact hn rfl
  | cons r t =>
    have h2 := (word_last ((schedOk_iff.1 h).1 r (by simp))).2
    simp only [splitC, List.map_cons, List.cons.injEq] at this
    rw [← this.1] at h2
    simp at h2
theorem ParD_text {l : List Rule} (h : schedOk l = true) : ParD (textR l) = (l, true) := by
  unfold ParD
  by_cases hn : l = []
  · subst hn; rfl
  · rw [textR_ne h hn]
    have : accI (textR l) = true := by unfold accI; rw [LI_text h hn, h]; simp
    rw [this, LI_text h hn]; rfl
theorem ParD_back {s : List UInt8} (h : (ParD s).2 = true) : schedOk (ParD s).1 = true ∧ textR (ParD s).1 = s := by
  unfold ParD at h ⊢
  cases h0 : s == []
  · rw [h0] at h
    cases ha : accI s
    · rw [ha] at h; cases h
    · unfold accI at ha
      rw [Bool.and_eq_true, beq_iff_eq] at ha
      exact ha
  · rw [beq_iff_eq] at h0
    subst h0
    exact ⟨by decide, rfl⟩
theorem ParD_len {s : List UInt8} (hl : s.length < 100000) : (ParD s).1.length < 1000000 := by
  unfold ParD
  have h1 := splitC_len 32 s
  cases s == []
  · cases accI s
    · simp
    · simp only [cond_false, cond_true]; unfold LI; rw [List.length_map]; omega
  · simp
theorem vInts_sd (a : List Int) (hl : a.length < 1000000) : M.laws_vInts a a = some true := by
  unfold M.laws_vInts
  simp only [bne_self_eq_false, cond_false]
  rw [iter_up (s := 0) (step := M.laws_vInts_l0 a a) (e := .inl ()) (fun k => (k : Int)) a.length rfl (by omega) (fun k hk => by
    unfold M.laws_vInts_l0
    simp (disch := first | omega | (intros; simp only [decide_eq_true_eq, decide_eq_false_iff_not, Bool.not_eq_true, Bool.not_eq_false, Bool.not_true, Bool.not_false] at *; omega)) only [cast_succ, asrt_pos, wrap64_id, Option.bind_some, cond_true, cond_false, decide_eq_true, decide_eq_false, Int.toNat_natCast, Bool.not_true, Bool.not_false, Bool.and_true, Bool.true_and, Bool.and_false, Bool.false_and, Bool.or_true, Bool.true_or, Bool.or_false, Bool.false_or, bne_self_eq_false]) (by
    unfold M.laws_vInts_l0
    simp (disch := first | omega | (intros; simp only [decide_eq_true_eq, decide_eq_false_iff_not, Bool.not_eq_true, Bool.not_eq_false, Bool.not_true, Bool.not_false] at *; omega)) only [cast_succ, asrt_pos, wrap64_id, Option.bind_some, cond_true, cond_false, decide_eq_true, decide_eq_false, Int.toNat_natCast, Bool.not_true, Bool.not_false, Bool.and_true, Bool.true_and, Bool.and_false, Bool.false_and, Bool.or_true, Bool.true_or, Bool.or_false, Bool.false_or])]
  rfl

/-! ### Series -/
def serF (out : List Int) (r : Rule) : List Int := bif out.any (fun y => r.Series == y) then out else out ++ [r.Series]
def serOf (l : List Rule) : List Int := l.foldl serF []
theorem serF_len (out : List Int) (r : Rule) : (serF out r).length ≤ out.length + 1 := by
  unfold serF; cases out.any (fun y => r.Series == y) <;> simp
theorem sqI (l : List Rule) (hl : l.length < 100000) : M.impl_seriesIn l = some (serOf l) := by
  unfold M.impl_seriesIn
  rw [iter_fold (step := M.impl_seriesIn_l0 l) (s := (([] : List Int), (0 : Int))) (fun a k => (a, (k : Int))) serF id l [] (fun a k => a.length ≤ k) rfl (by omega) (by simp) (fun a k hk ha => by
    refine ⟨?_, by have := serF_len a (l.getD k default); omega⟩
    unfold M.impl_seriesIn_l0
    try dsimp only
    rw [decide_eq_true (by omega), cond_true, asrt_pos ⟨by omega, by omega⟩, Int.toNat_natCast, contI _ _ (by omega), Option.bind_some]
    unfold serF
    cases a.any (fun y => (l.getD k default).Series == y)
    · rw [Bool.not_false, cond_true, asrt_pos (by simp only [List.length_cons, List.length_nil]; omega), Option.bind_some, wrap64_id (n := (k : Int) + 1) (by omega) (by omega)]; rfl
    · rw [Bool.not_true, cond_false, Option.bind_some, wrap64_id (n := (k : Int) + 1) (by omega) (by omega)]; rfl) (fun a ha => by
    unfold M.impl_seriesIn_l0
    try dsimp only
    rw [decide_eq_false (by omega), cond_false]
    rfl)]
  rfl
def SerD (l : List Rule) : List Int × Bool := bif schedOk l then (serOf l, true) else ([], false)
theorem SqI (l : List Rule) (hl : l.length < 100000) : M.impl_SeriesIn l = some (SerD l) := by
  unfold M.impl_SeriesIn SerD
  rw [schedI l (by omega), Option.bind_some]
  cases schedOk l
  · rfl
  · rw [sqI l hl]; rfl
theorem SqS (l : List Rule) (hl : l.length < 100000) : M.spec_SeriesIn l = some (SerD l) := by
  unfold M.spec_SeriesIn SerD
  rw [schedS l (by omega), Option.bind_some]
  cases schedOk l
  · rfl
  · rw [Bool.not_true, cond_false, iter_fold (step := M.spec_SeriesIn_l0 l) (s := (([] : List Int), (0 : Int))) (fun a k => (a, (k : Int))) serF id l [] (fun a k => a.length ≤ k) rfl (by omega) (by simp) (fun a k hk ha => by
      refine ⟨?_, by have := serF_len a (l.getD k default); omega⟩
      unfold M.spec_SeriesIn_l0
      try dsimp only
      rw [decide_eq_true (by omega), cond_true, asrt_pos ⟨by omega, by omega⟩, Int.toNat_natCast, hasS _ _ (by omega), Option.bind_some]
      unfold serF
      cases a.any (fun y => (l.getD k default).Series == y)
      · rw [Bool.not_false, cond_true, asrt_pos ⟨by omega, by omega⟩, asrt_pos (by simp only [List.length_cons, List.length_nil]; omega), Option.bind_some, wrap64_id (n := (k : Int) + 1) (by omega) (by omega)]; rfl
      · rw [Bool.not_true, cond_false, Option.bind_some, wrap64_id (n := (k : Int) + 1) (by omega) (by omega)]; rfl) (fun a ha => by
      unfold M.spec_SeriesIn_l0
      try dsimp only
      rw [decide_eq_false (by omega), cond_false]
      rfl)]
    rfl

theorem serF_any (out : List Int) (r : Rule) : (out.any fun y => r.Series == y) = true ↔ r.Series ∈ out := by
  rw [List.any_eq_true]
  constructor
  · rintro ⟨x, hx, h⟩; rw [beq_iff_eq] at h; rw [h]; exact hx
  · intro h; exact ⟨_, h, by simp⟩
theorem ser_inv : ∀ (l : List Rule) (out : List Int), out.Nodup → (l.foldl serF out).Nodup ∧ (∀ x ∈ out, x ∈ l.foldl serF out) ∧ (∀ r ∈ l, r.Series ∈ l.foldl serF out) ∧ (∀ x ∈ l.foldl serF out, x ∈ out ∨ ∃ r ∈ l, r.Series = x)
  | [], out, h => ⟨h, fun x hx => hx, by simp, fun x hx => .inl hx⟩
  | r :: l, out, h => by
    have hn : (serF out r).Nodup ∧ (∀ x ∈ out, x ∈ serF out r) ∧ r.Series ∈ serF out r ∧ (∀ x ∈ serF out r, x ∈ out ∨ r.Series = x) := by
      unfold serF
      cases ha : out.any (fun y => r.Series == y)
      · have hm : r.Series ∉ out := fun hm => by rw [(serF_any out r).2 hm] at ha; cases ha
        refine ⟨?_, fun x hx => by simp [hx], by simp, fun x hx => ?_⟩
        · rw [cond_false, List.nodup_append]
          refine ⟨h, by simp, fun a ha b hb => ?_⟩
          rw [List.mem_singleton] at hb
          rintro rfl
          exact hm (by rw [← hb]; exact ha)
        · simp only [cond_false, List.mem_append, List.mem_singleton] at hx
          rcases hx with hx | hx
          · exact .inl hx
          · exact .inr hx.symm
      · exact ⟨h, fun x hx => hx, (serF_any out r).1 ha, fun x hx => .inl hx⟩
    obtain ⟨h1, h2, h3, h4⟩ := ser_inv l (serF out r) hn.1
    rw [List.foldl_cons]
    refine ⟨h1, fun x hx => h2 x (hn.2.1 x hx), fun q hq => ?_, fun x hx => ?_⟩
    · rcases List.mem_cons.1 hq with rfl | hq
      · exact h2 _ hn.2.2.1
      · exact h3 q hq
    · rcases h4 x hx with h5 | ⟨q, hq, e⟩
      · rcases hn.2.2.2 x h5 with h6 | h6
        · exact .inl h6
        · exact .inr ⟨r, by simp, h6⟩
      · exact .inr ⟨q, by simp [hq], e⟩
def cntR (l : List Rule) (out : List Int) : Nat := (out.map fun s => (rulesFor l s).length).sum
theorem cnt_cons (r : Rule) (l : List Rule) : ∀ (out : List Int), out.Nodup → cntR (r :: l) out = cntR l out + (if r.Series ∈ out then 1 else 0)
  | [], _ => rfl
  | s :: out, h => by
    have ih := cnt_cons r l out (List.nodup_cons.1 h).2
    have hs := (List.nodup_cons.1 h).1
    unfold cntR at ih ⊢
    rw [List.map_cons, List.sum_cons, ih, List.map_cons, List.sum_cons]
    unfold rulesFor
    rw [List.filter_cons]
    by_cases e : r.Series = s
    · subst e
      rw [if_pos (by simp), if_neg hs, if_pos (by simp)]
      simp only [List.length_cons]; omega
    · rw [if_neg (by simp [e])]
      by_cases hm : r.Series ∈ out
      · rw [if_pos hm, if_pos (by simp [hm])]; omega
      · rw [if_neg hm, if_neg (by simp [e, hm])]; omega
theorem cnt_all : ∀ (l : List Rule) (out : List Int), out.Nodup → (∀ r ∈ l, r.Series ∈ out) → cntR l out = l.length
  | [], out, _, _ => by
    unfold cntR rulesFor
    induction out with
    | nil => rfl
    | cons s t ih => simp_all
  | r :: l, out, h, hm => by
    rw [cnt_cons r l out h, if_pos (hm r (by simp)), cnt_all l out h (fun q hq => hm q (by simp [hq]))]; rfl

def ForD (l : List Rule) (s : Int) : List Rule × Bool := bif schedOk l && inR s 1 99 then (rulesFor l s, true) else ([], false)
theorem ForI (l : List Rule) (s : Int) (hl : l.length < 1000000) : M.impl_RulesFor l s = some (ForD l s) := rulesForI l s hl
theorem ForS (l : List Rule) (s : Int) (hl : l.length < 1000000) : M.spec_RulesFor l s = some (ForD l s) := by
  unfold M.spec_RulesFor ForD
  simp only [schedS l hl, l1InS, Option.bind_some, bif_some, forS l s hl]
  cases schedOk l <;> cases inR s 1 99 <;> rfl
theorem ForD_len {l : List Rule} {s : Int} : (ForD l s).1.length ≤ l.length := by
  unfold ForD
  cases schedOk l && inR s 1 99
  · simp
  · exact rulesFor_len

theorem sumLoop (l : List Rule) (hl : l.length ≤ 100) : T (iterO (M.laws_FnSchedules_l0 l (SerD l)) ((0 : Int), (0 : Int))) (fun r => ∃ n, r = .inl n ∧ ((SerD l).2 = true → n = (l.length : Int))) := by
  cases hs : schedOk l
  · have e : SerD l = ([], false) := by unfold SerD; rw [hs]; rfl
    rw [e]
    refine T_iter (fun s => s = (0, 0)) (fun _ => 0) _ rfl (by omega) ?_
    rintro _ rfl
    unfold M.laws_FnSchedules_l0
    exact T_ret ⟨0, rfl, by simp⟩
  · have e : SerD l = (serOf l, true) := by unfold SerD; rw [hs]; rfl
    rw [e]
    obtain ⟨k1, k2, k3, k4⟩ := ser_inv l [] List.nodup_nil
    have hlen : (serOf l).length ≤ l.length := by
      have key : ∀ (q : List Rule) (out : List Int), (q.foldl serF out).length ≤ out.length + q.length := by
        intro q
        induction q with
        | nil => intro out; simp
        | cons r t ih => intro out; have := ih (serF out r); have := serF_len out r; simp only [List.foldl_cons, List.length_cons]; omega
      have := key l []
      unfold serOf
      simpa using this
    have hpart : ∀ k, cntR l ((serOf l).take k) ≤ l.length := by
      intro k
      have e1 := cnt_all l (serOf l) k1 k3
      have e2 : cntR l (serOf l) = cntR l ((serOf l).take k) + cntR l ((serOf l).drop k) := by
        unfold cntR
        rw [← List.sum_append, ← List.map_append, List.take_append_drop]
      omega
    refine T_iter (fun s => ∃ k : Nat, s.2 = (k : Int) ∧ k ≤ (serOf l).length ∧ s.1 = ((cntR l ((serOf l).take k) : Nat) : Int)) (fun s => (serOf l).length + 1 - s.2.toNat) _ ⟨0, rfl, by omega, rfl⟩ (by simp only; omega) ?_
    rintro ⟨n, _⟩ ⟨k, rfl, h1, h2⟩
    simp only at h2
    unfold M.laws_FnSchedules_l0
    try dsimp only
    refine T_if (fun hq => ?_) (fun hq => ?_)
    · simp only [decide_eq_true_eq] at hq
      have hk : k < (serOf l).length := by omega
      refine T_ask ⟨by omega, by omega⟩ ?_
      rw [Int.toNat_natCast, ForI _ _ (by omega), Option.bind_some]
      have hm : (serOf l).getD k default ∈ serOf l := getD_mem hk
      obtain ⟨r, hr, er⟩ := (k4 _ hm).elim (fun h => by simp at h) id
      have hne : r ∈ rulesFor l ((serOf l).getD k default) := List.mem_filter.2 ⟨hr, by rw [er]; simp⟩
      have hb := ruleOk_bd ((schedOk_iff.1 hs).1 r hr)
      have ef : ForD l ((serOf l).getD k default) = (rulesFor l ((serOf l).getD k default), true) := by
        unfold ForD
        rw [hs, inR_true.2 (by rw [← er]; omega)]; rfl
      rw [ef]
      have hpos : 1 ≤ (rulesFor l ((serOf l).getD k default)).length := List.length_pos_of_mem hne
      have hz : (((rulesFor l ((serOf l).getD k default)).length : Int) == 0) = false := by rw [beq_eq_false_iff_ne]; omega
      try dsimp only
      rw [hz]
      simp only [Bool.not_true, Bool.or_self, cond_false]
      have hc : cntR l ((serOf l).take (k + 1)) = cntR l ((serOf l).take k) + (rulesFor l ((serOf l).getD k default)).length := by
        unfold cntR
        rw [List.take_add_one, elGetD hk]
        simp
      have := hpart (k + 1)
      refine T_ret ?_
      simp only
      rw [wrap64_id (by omega) (by omega), wrap64_id (by omega) (by omega)]
      exact ⟨⟨k + 1, by omega, by omega, by omega⟩, by omega⟩
    · simp only [decide_eq_false_iff_not] at hq
      obtain rfl : k = (serOf l).length := by omega
      refine T_ret ⟨n, rfl, fun _ => ?_⟩
      rw [h2, List.take_length, cnt_all l (serOf l) k1 k3]

theorem law_FnSchedules (code : List Int) (h1 : code.length ≤ 9223372036854775807) (h2 : ∀ x, x ∈ code → 0 ≤ x ∧ x ≤ 255) : M.laws_FnSchedules code = some true := by
  apply T.eq
  unfold M.laws_FnSchedules M.laws_vBig
  rw [Option.bind_some]
  refine T_if (fun _ => T_ret rfl) (fun hq => ?_)
  simp only [decide_eq_false_iff_not] at hq
  have hb : Bytes code := ⟨by omega, h2⟩
  have g0 : Good code 0 (⟨code, 0, 0⟩ : Cur) := ⟨rfl, Int.le_refl _, Int.le_refl _⟩
  have d1 : T (M.spec_DrawScheduleText code) (fun r => r.length ≤ 20) := by
    unfold M.spec_DrawScheduleText M.spec_DrawIsSchedule
    refine T_in (T.then (drawSchedule hb g0 (by omega)) ?_)
    rintro ⟨l, c1⟩ ⟨g1, _⟩
    exact T_ret (T_ret g1)
  refine d1.then ?_
  intro l hl
  have htl : (TxtD l).1.length ≤ 200 := by
    unfold TxtD
    cases h : schedOk l
    · simp
    · exact textR_len h
  have ht2 : (TxtD l).2 = schedOk l := by unfold TxtD; cases schedOk l <;> rfl
  rw [TextI l (by omega), Option.bind_some, ParI _ (by omega), Option.bind_some, TextS l (by omega), Option.bind_some]
  simp only [beq_self_eq_true, Bool.not_true, Bool.or_self, cond_false]
  rw [schedI l (by omega), Option.bind_some, ht2]
  simp only [beq_self_eq_true, Bool.not_true, Bool.or_self, cond_false]
  have hpart : (bif schedOk l then (bif (!(ParD (TxtD l).1).2) then some default else M.laws_vRules (ParD (TxtD l).1).1 l) else some default : Option Bool) = some (schedOk l) := by
    cases h : schedOk l
    · rfl
    · have e : (TxtD l).1 = textR l := by unfold TxtD; rw [h]; rfl
      rw [e, ParD_text h, cond_true]
      simp only [Bool.not_true, cond_false]
      exact vRules_self l (by omega)
  rw [hpart, Option.bind_some]
  have hno : (schedOk l && ((!(ParD (TxtD l).1).2) || (!schedOk l))) = false := by
    cases h : schedOk l
    · rfl
    · have e : (TxtD l).1 = textR l := by unfold TxtD; rw [h]; rfl
      rw [e, ParD_text h]; rfl
  rw [hno]
  simp only [Bool.or_self, cond_false]
  have d2 : T (M.spec_DrawParseSchedule code) (fun r => r.length ≤ 1000) := by
    unfold M.spec_DrawParseSchedule
    refine T.then (Q := fun r => r.1.length ≤ 200 ∧ Good code 1000 r.2) ?_ ?_
    · refine T.then (drawSchedule hb g0 (by omega)) ?_
      rintro ⟨q, c1⟩ ⟨g1, g2⟩
      simp only at g1 g2
      try dsimp only
      rw [schedS q (by omega), Option.bind_some]
      refine T_if (fun hs => ?_) (fun hs => ?_)
      · rw [textS q hs, Option.bind_some]
        exact T_ret ⟨textR_len hs, g2.up (by omega)⟩
      · exact T_ret ⟨by simp, g2.up (by omega)⟩
    · rintro ⟨s, c1⟩ ⟨g1, g2⟩
      simp only at g1 g2
      try dsimp only
      refine T_one hb g2 (by omega) ?_
      intro b c2 g3
      refine T_if (fun _ => ?_) (fun _ => T_ret (by omega))
      refine (spoilt_ok hb g3 (by omega) s _ (by omega) (by simp) (by simp)).then ?_
      rintro ⟨t, c3⟩ ⟨g4, _⟩
      exact T_ret (by simp only at g4 ⊢; omega)
  refine d2.then ?_
  intro s hs
  have hpl := ParD_len (s := s) (by omega)
  rw [ParI s (by omega), Option.bind_some, TextI _ hpl, Option.bind_some, ParS s (by omega), Option.bind_some]
  simp only [beq_self_eq_true, Bool.not_true, cond_false]
  rw [vRules_self _ hpl, Option.bind_some]
  have hno2 : ((ParD s).2 && ((!(TxtD (ParD s).1).2) || (!((TxtD (ParD s).1).1 == s)))) = false := by
    cases h : (ParD s).2
    · rfl
    · obtain ⟨a1, a2⟩ := ParD_back h
      unfold TxtD
      rw [a1, cond_true, a2]; simp
  rw [hno2]
  simp only [Bool.not_true, Bool.or_self, cond_false]
  have hs2 : (SerD l).2 = schedOk l := by unfold SerD; cases schedOk l <;> rfl
  have hsl : (SerD l).1.length < 1000000 := by
    unfold SerD
    cases schedOk l
    · simp
    · have key : ∀ (q : List Rule) (out : List Int), (q.foldl serF out).length ≤ out.length + q.length := by
        intro q
        induction q with
        | nil => intro out; simp
        | cons r t ih => intro out; have := ih (serF out r); have := serF_len out r; simp only [List.foldl_cons, List.length_cons]; omega
      have := key l []
      simp only [cond_true]; unfold serOf; simp at this; omega
  rw [SqI l (by omega), Option.bind_some, SqS l (by omega), Option.bind_some, hs2]
  simp only [beq_self_eq_true, Bool.not_true, Bool.or_self, cond_false]
  rw [vInts_sd _ hsl, Option.bind_some]
  simp only [Bool.not_true, Bool.or_self, cond_false]
  refine (sumLoop l (by omega)).then ?_
  rintro _ ⟨n, rfl, hn⟩
  try dsimp only
  have hno3 : (schedOk l && (n != (l.length : Int))) = false := by
    cases h : schedOk l
    · rfl
    · rw [hn (by rw [hs2, h])]; simp
  rw [hno3, cond_false]
  have d3 : T (M.spec_DrawRulesFor code) (fun r => r.1.length ≤ 20) := by
    unfold M.spec_DrawRulesFor
    refine T.then (drawSchedule hb g0 (by omega)) ?_
    rintro ⟨q, c1⟩ ⟨g1, g2⟩
    refine T_among hb g2 (by omega) (by simp) ?_
    intro x c2 _ _
    exact T_ret g1
  refine d3.then ?_
  rintro ⟨q, x⟩ g1
  simp only at g1
  try dsimp only
  rw [ForI q x (by omega), Option.bind_some, ForS q x (by omega), Option.bind_some, beq_self_eq_true, cond_true, vRules_self _ (by have := ForD_len (l := q) (s := x); omega), Option.bind_some]
  exact T_ret rfl
end Go.Proofs.YthcmelnpcaijaaaGreatDoor
