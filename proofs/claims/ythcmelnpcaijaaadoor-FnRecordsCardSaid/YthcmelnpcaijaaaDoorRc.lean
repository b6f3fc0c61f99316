/-
  Records as texts, and back. Plain.
-/
import Derived.Test.YthcmelnpcaijaaaDoorTx
import Derived.Test.YthcmelnpcaijaaaDoorHc
set_option linter.unusedSimpArgs false
set_option linter.unusedVariables false
namespace Go.Proofs.YthcmelnpcaijaaaDoor
open Go.VS

theorem elGetD {β : Type} [Inhabited β] {l : List β} {k : Nat} (h : k < l.length) : l[k]? = some (l.getD k default) := by simp [List.getD, h]
theorem notMem_app {c : UInt8} {a b : List UInt8} (h1 : c ∉ a) (h2 : c ∉ b) : c ∉ a ++ b := fun h => (List.mem_append.1 h).elim h1 h2
theorem notMem_cons {c x : UInt8} {b : List UInt8} (h1 : c ≠ x) (h2 : c ∉ b) : c ∉ x :: b := fun h => (List.mem_cons.1 h).elim h1 h2
theorem num_free {n : Int} (h : 0 ≤ n) {c : UInt8} (hc : dgt c = false) : c ∉ numT n := all_free (numT_dgt h) hc
theorem tailLe {c : UInt8} {m : Nat} : ∀ {xs : List (List UInt8)}, (∀ x ∈ xs, x.length ≤ m) → (Go.Lib.joinTail [c] xs).length ≤ (m + 1) * xs.length
  | [], _ => by simp [Go.Lib.joinTail]
  | x :: xs, h => by
    rw [joinTail_cons]
    have := tailLe (c := c) (m := m) (xs := xs) (fun y hy => h y (by simp [hy]))
    have := h x (by simp)
    simp only [List.length_append, List.length_cons, List.length_nil, Nat.mul_add]
    omega

/-! ### The text of a record -/
def evT (e : Event) : List UInt8 := numT e.Kind ++ 64 :: numT e.Day
def hdT (r : Record) : List UInt8 := numT r.Id ++ 115 :: (numT r.Series ++ 64 :: numT r.Made)
def textRec (r : Record) : List UInt8 := hdT r ++ Go.Lib.joinTail [32] (r.Events.map evT)
theorem hd_nest (a b c : List UInt8) : ((((a ++ ([115])) ++ b) ++ ([64])) ++ c) = a ++ 115 :: (b ++ 64 :: c) := by simp
theorem hd_len {r : Record} (h : recOk r = true) : (hdT r).length ≤ 12 ∧ (numT r.Id).length ≤ 3 ∧ (numT r.Series).length ≤ 2 ∧ (numT r.Made).length ≤ 5 := by
  obtain ⟨b1, b2, b3, _⟩ := recOk_spec h
  have l1 := numT_lenT (k := 2) (n := r.Id) (by omega) (by simp; omega)
  have l2 := numT_lenT (k := 1) (n := r.Series) (by omega) (by simp; omega)
  have l3 := numT_lenT (k := 4) (n := r.Made) (by omega) (by simp; omega)
  refine ⟨?_, l1, l2, l3⟩
  unfold hdT
  simp only [List.length_append, List.length_cons]
  omega
theorem ev_len {r : Record} (h : recOk r = true) {e : Event} (he : e ∈ r.Events) : (evT e).length ≤ 7 ∧ (numT e.Kind).length ≤ 1 ∧ (numT e.Day).length ≤ 5 := by
  obtain ⟨_, _, b3, _, b5⟩ := recOk_spec h
  have b := b5 e he
  have l1 := numT_lenT (k := 0) (n := e.Kind) (by omega) (by simp; omega)
  have l2 := numT_lenT (k := 4) (n := e.Day) (by omega) (by simp; omega)
  refine ⟨?_, l1, l2⟩
  unfold evT
  simp only [List.length_append, List.length_cons]
  omega
theorem evs_len {r : Record} (h : recOk r = true) : ∀ x ∈ r.Events.map evT, x.length ≤ 7 := by
  intro x hx
  obtain ⟨e, he, rfl⟩ := List.mem_map.1 hx
  exact (ev_len h he).1
theorem textRec_len {r : Record} (h : recOk r = true) : (textRec r).length ≤ 60 := by
  have l1 := (hd_len h).1
  have l2 := tailLe (c := 32) (evs_len h)
  obtain ⟨_, _, _, b4, _⟩ := recOk_spec h
  rw [List.length_map] at l2
  unfold textRec
  rw [List.length_append]
  omega
theorem part_len {r : Record} (h : recOk r = true) (k : Nat) : (hdT r ++ Go.Lib.joinTail [32] ((r.Events.map evT).take k)).length ≤ 60 := by
  have l1 := (hd_len h).1
  have l2 := tailLe (c := 32) (m := 7) (xs := (r.Events.map evT).take k) (fun x hx => evs_len h x (List.mem_of_mem_take hx))
  obtain ⟨_, _, _, b4, _⟩ := recOk_spec h
  rw [List.length_take, List.length_map] at l2
  rw [List.length_append]
  omega
theorem evAt {r : Record} {k : Nat} (hk : k < r.Events.length) : (r.Events.map evT)[k]? = some (evT (r.Events.getD k default)) := by
  rw [List.getElem?_map, elGetD hk]; rfl
theorem ev_nestI (h a b c : List UInt8) : (h ++ a) ++ (((([32]) ++ b) ++ ([64])) ++ c) = h ++ (a ++ [32] ++ (b ++ 64 :: c)) := by simp
theorem ev_nestS (h a b c : List UInt8) : (((((h ++ a) ++ ([32])) ++ b) ++ ([64])) ++ c) = h ++ (a ++ [32] ++ (b ++ 64 :: c)) := by simp

theorem recTextI (r : Record) (h : recOk r = true) : M.impl_recordText r = some (textRec r) := by
  obtain ⟨b1, b2, b3, b4, b5⟩ := recOk_spec h
  obtain ⟨l0, l1, l2, l3⟩ := hd_len h
  unfold M.impl_recordText
  rw [decI _ (by omega) (by omega), Option.bind_some, asrt_pos (by simp only [List.length_cons, List.length_nil]; omega), decI _ (by omega) (by omega), Option.bind_some, asrt_pos (by simp only [List.length_append, List.length_cons, List.length_nil]; omega), asrt_pos (by simp only [List.length_append, List.length_cons, List.length_nil]; omega), decI _ (by omega) (by omega), Option.bind_some, asrt_pos (by simp only [List.length_append, List.length_cons, List.length_nil]; omega), hd_nest]
  rw [iter_up (step := M.impl_recordText_l0 r) (e := textRec r) (fun k => (hdT r ++ Go.Lib.joinTail [32] ((r.Events.map evT).take k), (k : Int))) r.Events.length (by
    show _ = (hdT r ++ Go.Lib.joinTail [32] [], _)
    rw [show Go.Lib.joinTail [32] [] = [] from rfl, List.append_nil]; rfl) (by omega) (fun k hk => by
    have be := b5 _ (getD_mem hk)
    obtain ⟨e0, e1, e2⟩ := ev_len h (getD_mem hk)
    have pl := part_len h k
    unfold M.impl_recordText_l0
    try dsimp only
    rw [decide_eq_true (by omega), cond_true, asrt_pos ⟨by omega, by omega⟩, Int.toNat_natCast, decI _ (by omega) (by omega), Option.bind_some, asrt_pos (by simp only [List.length_cons, List.length_nil]; omega), asrt_pos (by simp only [List.length_append, List.length_cons, List.length_nil]; omega), decI _ (by omega) (by omega), Option.bind_some, asrt_pos (by simp only [List.length_append, List.length_cons, List.length_nil]; omega), asrt_pos (by rw [List.length_append] at pl; simp only [List.length_append, List.length_cons, List.length_nil]; omega), wrap64_id (n := (k : Int) + 1) (by omega) (by omega), ev_nestI, Go.Lib.joinTail_take_succ _ _ _ _ (evAt hk)]
    rfl) (by
    unfold M.impl_recordText_l0
    try dsimp only
    rw [decide_eq_false (by omega), cond_false]
    unfold textRec
    rw [← List.length_map (f := evT), List.take_length])]
  rfl
theorem recTextS (r : Record) (h : recOk r = true) : M.spec_l2Text r = some (textRec r) := by
  obtain ⟨b1, b2, b3, b4, b5⟩ := recOk_spec h
  obtain ⟨l0, l1, l2, l3⟩ := hd_len h
  unfold M.spec_l2Text
  rw [numS _ (by omega) (by omega), Option.bind_some, asrt_pos (by simp only [List.length_cons, List.length_nil]; omega), numS _ (by omega) (by omega), Option.bind_some, asrt_pos (by simp only [List.length_append, List.length_cons, List.length_nil]; omega), asrt_pos (by simp only [List.length_append, List.length_cons, List.length_nil]; omega), numS _ (by omega) (by omega), Option.bind_some, asrt_pos (by simp only [List.length_append, List.length_cons, List.length_nil]; omega), hd_nest]
  rw [iter_up (step := M.spec_l2Text_l0 r) (e := textRec r) (fun k => (hdT r ++ Go.Lib.joinTail [32] ((r.Events.map evT).take k), (k : Int))) r.Events.length (by
    show _ = (hdT r ++ Go.Lib.joinTail [32] [], _)
    rw [show Go.Lib.joinTail [32] [] = [] from rfl, List.append_nil]; rfl) (by omega) (fun k hk => by
    have be := b5 _ (getD_mem hk)
    obtain ⟨e0, e1, e2⟩ := ev_len h (getD_mem hk)
    have pl := part_len h k
    rw [List.length_append] at pl
    unfold M.spec_l2Text_l0
    try dsimp only
    rw [decide_eq_true (by omega), cond_true, asrt_pos (by simp only [List.length_append, List.length_cons, List.length_nil]; omega), asrt_pos ⟨by omega, by omega⟩, Int.toNat_natCast, numS _ (by omega) (by omega), Option.bind_some, asrt_pos (by simp only [List.length_append, List.length_cons, List.length_nil]; omega), asrt_pos (by simp only [List.length_append, List.length_cons, List.length_nil]; omega), asrt_pos ⟨by omega, by omega⟩, numS _ (by omega) (by omega), Option.bind_some, asrt_pos (by simp only [List.length_append, List.length_cons, List.length_nil]; omega), wrap64_id (n := (k : Int) + 1) (by omega) (by omega), ev_nestS, Go.Lib.joinTail_take_succ _ _ _ _ (evAt hk)]
    rfl) (by
    unfold M.spec_l2Text_l0
    try dsimp only
    rw [decide_eq_false (by omega), cond_false]
    unfold textRec
    rw [← List.length_map (f := evT), List.take_length])]
  rfl
def RtD (r : Record) : List UInt8 × Bool := bif recOk r then (textRec r, true) else ([], false)
theorem RtI (r : Record) (hr : RecB r) : M.impl_RecordText r = some (RtD r) := by
  unfold M.impl_RecordText RtD
  rw [recI r hr, Option.bind_some]
  cases h : recOk r
  · rfl
  · rw [Bool.not_true, cond_false, recTextI r h]; rfl
theorem RtS (r : Record) (hr : RecB r) : M.spec_RecordText r = some (RtD r) := by
  unfold M.spec_RecordText RtD
  rw [recS r hr, Option.bind_some]
  cases h : recOk r
  · rfl
  · rw [Bool.not_true, cond_false, recTextS r h]; rfl

/-! ### Texts read -/
def zR : Record × Bool := ((⟨0, 0, 0, []⟩ : Record), false)
/-- What a reader of records answers at the text s. -/
def ParR (s : List UInt8) (r : Record × Bool) : Prop := (r = zR ∨ (r.2 = true ∧ recOk r.1 = true ∧ textRec r.1 = s)) ∧ ∀ u, recOk u = true → s = textRec u → r = (u, true)
theorem ParR.one {s : List UInt8} {r q : Record × Bool} (h : ParR s r) (h' : ParR s q) : r = q := by
  rcases h.1 with e | ⟨_, e2, e3⟩
  · rcases h'.1 with f | ⟨_, f2, f3⟩
    · rw [e, f]
    · rw [h.2 _ f2 f3.symm, h'.2 _ f2 f3.symm]
  · rw [h.2 _ e2 e3.symm, h'.2 _ e2 e3.symm]
theorem ev_free {r : Record} (h : recOk r = true) : ∀ x ∈ r.Events.map evT, (32 : UInt8) ∉ x := by
  intro x hx
  obtain ⟨e, he, rfl⟩ := List.mem_map.1 hx
  obtain ⟨_, _, b3, _, b5⟩ := recOk_spec h
  have b := b5 e he
  exact notMem_app (num_free (by omega) rfl) (notMem_cons (by decide) (num_free (by omega) rfl))
theorem hd_free {r : Record} (h : recOk r = true) : (32 : UInt8) ∉ hdT r := by
  obtain ⟨b1, b2, b3, _⟩ := recOk_spec h
  exact notMem_app (num_free (by omega) rfl) (notMem_cons (by decide) (notMem_app (num_free (by omega) rfl) (notMem_cons (by decide) (num_free (by omega) rfl))))

def pev (w : List UInt8) : Event := ⟨dgI (Go.Lib.cut w [64]).1, dgI (Go.Lib.cut w [64]).2.1⟩
def evL (s : List UInt8) : List Event := bif (Go.Lib.cut s [32]).2.2 then (splitC 32 (Go.Lib.cut s [32]).2.1).map pev else []
def RI (s : List UInt8) : Record :=
  ⟨dgI (Go.Lib.cut (Go.Lib.cut s [32]).1 [115]).1, dgI (Go.Lib.cut (Go.Lib.cut (Go.Lib.cut s [32]).1 [115]).2.1 [64]).1, dgI (Go.Lib.cut (Go.Lib.cut (Go.Lib.cut s [32]).1 [115]).2.1 [64]).2.1, evL s⟩
theorem pevStep (st : List Event) (w : List UInt8) (hst : st.length < 1000000) (hw : w.length < 1000000) : M.impl_ParseRecord_l0 st w = some (st ++ [pev w]) := by
  unfold M.impl_ParseRecord_l0
  try dsimp only
  have c1 := cut_len w [64]
  rw [cutI w _ hw, Option.bind_some, digitsI _ (by omega), Option.bind_some, digitsI _ (by omega), Option.bind_some, asrt_pos (by simp only [List.length_cons, List.length_nil]; omega)]
  rfl
theorem pevFold : ∀ (ws : List (List UInt8)) (st : List Event), (∀ x ∈ ws, x.length < 1000000) → st.length + ws.length < 1000000 → foldO M.impl_ParseRecord_l0 ws st = some (st ++ ws.map pev)
  | [], st, _, _ => by simp [foldO]
  | w :: ws, st, h, hl => by
    simp only [List.length_cons] at hl
    rw [foldO, pevStep st w (by omega) (h w (by simp)), Option.bind_some, pevFold ws (st ++ [pev w]) (fun x hx => h x (by simp [hx])) (by simp; omega)]
    simp
theorem pev_ev {r : Record} (h : recOk r = true) {e : Event} (he : e ∈ r.Events) : pev (evT e) = e := by
  obtain ⟨_, _, b3, _, b5⟩ := recOk_spec h
  have b := b5 e he
  have f : (64 : UInt8) ∉ numT e.Kind := num_free (by omega) rfl
  have e1 : Go.Lib.cut (evT e) [64] = (numT e.Kind, numT e.Day, true) := cut_app f
  unfold pev
  rw [e1]
  simp only
  rw [dgI_num (by omega) (by omega), dgI_num (by omega) (by omega)]
theorem pev_map {r : Record} (h : recOk r = true) : ∀ l : List Event, (∀ e ∈ l, e ∈ r.Events) → (l.map evT).map pev = l
  | [], _ => rfl
  | e :: l, hl => by rw [List.map_cons, List.map_cons, pev_ev h (hl e (by simp)), pev_map h l (fun x hx => hl x (by simp [hx]))]
theorem RI_text {u : Record} (h : recOk u = true) : RI (textRec u) = u := by
  obtain ⟨b1, b2, b3, _⟩ := recOk_spec h
  have e0 : (Go.Lib.cut (textRec u) [32]).1 = hdT u ∧ evL (textRec u) = u.Events := by
    unfold evL textRec
    cases hE : u.Events with
    | nil =>
      rw [List.map_nil, show Go.Lib.joinTail [32] [] = [] from rfl, List.append_nil, cut_free (hd_free h)]
      exact ⟨rfl, rfl⟩
    | cons e t =>
      have hf := ev_free h
      rw [hE, List.map_cons] at hf
      rw [List.map_cons, joinTail_cons, List.append_assoc, List.singleton_append, cut_app (hd_free h)]
      refine ⟨rfl, ?_⟩
      simp only [cond_true]
      rw [splitC_tail (hf _ (by simp)) (fun x hx => hf x (by simp [hx]))]
      exact pev_map h (e :: t) (fun x hx => by rw [hE]; exact hx)
  have e1 : Go.Lib.cut (hdT u) [115] = (numT u.Id, numT u.Series ++ 64 :: numT u.Made, true) := cut_app (num_free (by omega) rfl)
  have e2 : Go.Lib.cut (numT u.Series ++ 64 :: numT u.Made) [64] = (numT u.Series, numT u.Made, true) := cut_app (num_free (by omega) rfl)
  unfold RI
  rw [e0.1, e0.2, e1]
  simp only
  rw [e2]
  simp only
  rw [dgI_num (by omega) (by omega), dgI_num (by omega) (by omega), dgI_num (by omega) (by omega)]
theorem parRI (s : List UInt8) (hl : s.length < 100000) : T (M.impl_ParseRecord s) (ParR s) := by
  unfold M.impl_ParseRecord
  have c1 := cut_len s [32]
  have c2 := cut_len (Go.Lib.cut s [32]).1 [115]
  have c3 := cut_len (Go.Lib.cut (Go.Lib.cut s [32]).1 [115]).2.1 [64]
  rw [cutI s _ (by omega), Option.bind_some, cutI _ _ (by omega), Option.bind_some, cutI _ _ (by omega), Option.bind_some, digitsI _ (by omega), Option.bind_some, digitsI _ (by omega), Option.bind_some, digitsI _ (by omega), Option.bind_some]
  have hsp := splitC_len 32 (Go.Lib.cut s [32]).2.1
  refine T.then (Q := fun l => l = evL s) ?_ ?_
  · unfold evL
    refine T_if (fun hq => ?_) (fun hq => ?_)
    · rw [splitI _ 32 (by omega), Option.bind_some, pevFold _ [] (fun x hx => by have := splitC_mem 32 _ x hx; omega) (by simp; omega), Option.bind_some, hq]
      exact T_ret rfl
    · rw [hq]
      exact T_ret rfl
  rintro _ rfl
  try dsimp only
  have hlen : (evL s).length < 1000000 := by
    unfold evL
    cases (Go.Lib.cut s [32]).2.2
    · simp
    · simp only [cond_true, List.length_map]; omega
  rw [show (⟨dgI (Go.Lib.cut (Go.Lib.cut s [32]).1 [115]).1, dgI (Go.Lib.cut (Go.Lib.cut (Go.Lib.cut s [32]).1 [115]).2.1 [64]).1, dgI (Go.Lib.cut (Go.Lib.cut (Go.Lib.cut s [32]).1 [115]).2.1 [64]).2.1, evL s⟩ : Record) = RI s from rfl]
  rw [recI (RI s) hlen, Option.bind_some]
  cases h : recOk (RI s)
  · refine T_ret ⟨.inl rfl, ?_⟩
    rintro u hu rfl
    rw [RI_text hu] at h
    rw [hu] at h; cases h
  · rw [Bool.not_true, cond_false, recTextI _ h, Option.bind_some, Bool.false_or]
    refine T_if (fun hq => T_ret ⟨.inl rfl, ?_⟩) (fun hq => T_ret ⟨.inr ⟨rfl, h, ?_⟩, ?_⟩)
    · rintro u hu rfl
      rw [RI_text hu] at hq
      simp at hq
    · simpa using hq
    · rintro u hu rfl
      rw [RI_text hu]

theorem split64 (s : List UInt8) (hl : s.length < 1000000) : M.spec_l1Split s 64 = some (splitC 64 s) := splitS s 64 hl
theorem split115 (s : List UInt8) (hl : s.length < 1000000) : M.spec_l1Split s 115 = some (splitC 115 s) := splitS s 115 hl
theorem split32 (s : List UInt8) (hl : s.length < 1000000) : M.spec_l1Split s 32 = some (splitC 32 s) := splitS s 32 hl
theorem splitAtLen {c : UInt8} {s : List UInt8} {k : Nat} (hl : s.length < 1000000) : ((splitC c s).getD k default).length < 1000000 := by
  by_cases hk : k < (splitC c s).length
  · have := splitC_mem c s _ (getD_mem hk); omega
  · have e : (splitC c s).getD k default = [] := by
      rw [List.getD_eq_getElem?_getD, List.getElem?_eq_none (by omega)]; rfl
    rw [e]; simp
theorem split_rec {u : Record} (h : recOk u = true) : splitC 32 (textRec u) = hdT u :: u.Events.map evT := splitC_tail (hd_free h) (ev_free h)
theorem split_hd {u : Record} (h : recOk u = true) : splitC 64 (hdT u) = [numT u.Id ++ 115 :: numT u.Series, numT u.Made] ∧ splitC 115 (numT u.Id ++ 115 :: numT u.Series) = [numT u.Id, numT u.Series] := by
  obtain ⟨b1, b2, b3, _⟩ := recOk_spec h
  have e : hdT u = (numT u.Id ++ 115 :: numT u.Series) ++ 64 :: numT u.Made := by simp [hdT]
  refine ⟨?_, ?_⟩
  · rw [e, splitC_app (notMem_app (num_free (by omega) rfl) (notMem_cons (by decide) (num_free (by omega) rfl))), splitC_free (num_free (by omega) rfl)]
  · rw [splitC_app (num_free (by omega) rfl), splitC_free (num_free (by omega) rfl)]
theorem split_ev {u : Record} (h : recOk u = true) {e : Event} (he : e ∈ u.Events) : splitC 64 (evT e) = [numT e.Kind, numT e.Day] := by
  obtain ⟨_, _, b3, _, b5⟩ := recOk_spec h
  have b := b5 e he
  unfold evT
  rw [splitC_app (num_free (by omega) rfl), splitC_free (num_free (by omega) rfl)]

theorem evLoop (s : List UInt8) (hl : s.length ≤ 80) : T (iterO (M.spec_ParseRecord_l0 (splitC 32 s)) ((1 : Int), ([] : List Event))) (fun r => (∃ out, r = .inl out ∧ out.length ≤ 100 ∧ ∀ u, recOk u = true → s = textRec u → out = u.Events) ∨ (r = .inr zR ∧ ∀ u, recOk u = true → s ≠ textRec u)) := by
  have hn := splitC_len 32 s
  refine T_iter (fun st => ∃ k : Nat, st.1 = (k : Int) + 1 ∧ k + 1 ≤ (splitC 32 s).length ∧ st.2.length = k ∧ ∀ u, recOk u = true → s = textRec u → st.2 = u.Events.take k) (fun st => (splitC 32 s).length + 1 - st.1.toNat) _ ⟨0, rfl, by omega, rfl, fun u _ _ => rfl⟩ (by simp only; omega) ?_
  rintro ⟨_, out⟩ ⟨k, rfl, h1, h2, h3⟩
  simp only at h2 h3
  unfold M.spec_ParseRecord_l0
  try dsimp only
  refine T_if (fun hq => ?_) (fun hq => ?_)
  · simp only [decide_eq_true_eq] at hq
    have hk : k + 1 < (splitC 32 s).length := by omega
    have hw : ((splitC 32 s).getD (k + 1) default).length < 1000000 := splitAtLen (by omega)
    have key : ∀ u, recOk u = true → s = textRec u → ∃ e, u.Events[k]? = some e ∧ (splitC 32 s).getD (k + 1) default = evT e ∧ e ∈ u.Events := by
      rintro u hu rfl
      rw [split_rec hu] at hk ⊢
      have hk2 : k < u.Events.length := by simpa using hk
      refine ⟨u.Events.getD k default, elGetD hk2, ?_, getD_mem hk2⟩
      rw [List.getD_cons_succ]
      simp [List.getD, hk2]
    rw [show ((k : Int) + 1).toNat = k + 1 by omega]
    refine T_ask ⟨by omega, by omega⟩ ?_
    rw [split64 _ hw, Option.bind_some]
    refine T_if (fun h4 => T_ret (.inr ⟨rfl, ?_⟩)) (fun h4 => ?_)
    · intro u hu e
      obtain ⟨ev, _, e2, e3⟩ := key u hu e
      rw [e2, split_ev hu e3] at h4
      simp at h4
    · simp only [bne_eq_false_iff_eq] at h4
      refine T_ask ⟨by omega, by omega⟩ ?_
      rw [show Int.toNat (0 : Int) = 0 from rfl, show Int.toNat (1 : Int) = 1 from rfl, readS _ (splitAtLen hw), Option.bind_some]
      refine T_ask ⟨by omega, by omega⟩ ?_
      rw [readS _ (splitAtLen hw), Option.bind_some]
      refine T_ask (by simp only [List.length_cons, List.length_nil]; omega) (T_ret ?_)
      simp only
      rw [wrap64_id (by omega) (by omega)]
      refine ⟨⟨k + 1, by omega, by omega, by simp; omega, ?_⟩, by omega⟩
      intro u hu e
      obtain ⟨ev, e1, e2, e3⟩ := key u hu e
      obtain ⟨_, _, b3, _, b5⟩ := recOk_spec hu
      have b := b5 ev e3
      rw [e2, split_ev hu e3, List.take_add_one, e1, h3 u hu e]
      show u.Events.take k ++ [(⟨(rdS (numT ev.Kind)).1, (rdS (numT ev.Day)).1⟩ : Event)] = _
      rw [rdS_num (by omega) (by omega), rdS_num (by omega) (by omega)]
      rfl
  · simp only [decide_eq_false_iff_not] at hq
    refine T_ret (.inl ⟨out, rfl, by omega, ?_⟩)
    intro u hu e
    rw [h3 u hu e]
    have : (splitC 32 s).length = u.Events.length + 1 := by rw [e, split_rec hu]; simp
    rw [List.take_of_length_le (by omega)]

theorem parRS (s : List UInt8) (hl : s.length < 100000) : T (M.spec_ParseRecord s) (ParR s) := by
  unfold M.spec_ParseRecord
  refine T_if (fun hq => T_ret ⟨.inl rfl, ?_⟩) (fun hq => ?_)
  · rintro u hu rfl
    exfalso
    have := textRec_len hu
    simp only [decide_eq_true_eq] at hq
    omega
  · simp only [decide_eq_false_iff_not] at hq
    have hn := splitC_len 32 s
    rw [split32 s (by omega), Option.bind_some]
    refine T_ask ⟨by omega, by omega⟩ ?_
    rw [show Int.toNat (0 : Int) = 0 from rfl, show Int.toNat (1 : Int) = 1 from rfl]
    have w1 : ((splitC 32 s).getD 0 default).length < 1000000 := splitAtLen (by omega)
    rw [split64 _ w1, Option.bind_some]
    have hn2 := splitC_len 64 ((splitC 32 s).getD 0 default)
    refine T_ask ⟨by omega, by omega⟩ ?_
    have w2 : ((splitC 64 ((splitC 32 s).getD 0 default)).getD 0 default).length < 1000000 := splitAtLen w1
    rw [split115 _ w2, Option.bind_some]
    have key : ∀ u, recOk u = true → s = textRec u → splitC 64 ((splitC 32 s).getD 0 default) = [numT u.Id ++ 115 :: numT u.Series, numT u.Made] ∧ splitC 115 ((splitC 64 ((splitC 32 s).getD 0 default)).getD 0 default) = [numT u.Id, numT u.Series] := by
      rintro u hu rfl
      have e : (splitC 32 (textRec u)).getD 0 default = hdT u := by rw [split_rec hu]; rfl
      rw [e, (split_hd hu).1]
      exact ⟨rfl, (split_hd hu).2⟩
    refine T_if (fun h1 => T_ret ⟨.inl rfl, ?_⟩) (fun h1 => ?_)
    · intro u hu e
      exfalso
      rw [(key u hu e).2, (key u hu e).1] at h1
      simp at h1
    · simp only [Bool.or_eq_false_iff, bne_eq_false_iff_eq] at h1
      refine T_ask ⟨by omega, by omega⟩ ?_
      rw [readS _ (splitAtLen w2), Option.bind_some]
      refine T_ask ⟨by omega, by omega⟩ ?_
      rw [readS _ (splitAtLen w2), Option.bind_some]
      refine T_ask ⟨by omega, by omega⟩ ?_
      rw [readS _ (splitAtLen w1), Option.bind_some]
      refine (evLoop s (by omega)).then ?_
      rintro _ (⟨out, rfl, g1, g2⟩ | ⟨rfl, g2⟩)
      · try dsimp only
        generalize hR : (⟨(rdS ((splitC 115 ((splitC 64 ((splitC 32 s).getD 0 default)).getD 0 default)).getD 0 default)).1, (rdS ((splitC 115 ((splitC 64 ((splitC 32 s).getD 0 default)).getD 0 default)).getD 1 default)).1, (rdS ((splitC 64 ((splitC 32 s).getD 0 default)).getD 1 default)).1, out⟩ : Record) = R
        have hE : R.Events.length < 1000000 := by rw [← hR]; simp only; omega
        have hu1 : ∀ u, recOk u = true → s = textRec u → R = u := by
          intro u hu e
          obtain ⟨b1, b2, b3, _⟩ := recOk_spec hu
          rw [← hR, (key u hu e).2, (key u hu e).1, g2 u hu e]
          show (⟨(rdS (numT u.Id)).1, (rdS (numT u.Series)).1, (rdS (numT u.Made)).1, u.Events⟩ : Record) = u
          rw [rdS_num (by omega) (by omega), rdS_num (by omega) (by omega), rdS_num (by omega) (by omega)]
        rw [recS R hE, Option.bind_some]
        cases h : recOk R
        · refine T_ret ⟨.inl rfl, ?_⟩
          intro u hu e
          rw [hu1 u hu e, hu] at h; cases h
        · rw [Bool.not_true, cond_false, recTextS _ h, Option.bind_some, Bool.false_or]
          refine T_if (fun hq => T_ret ⟨.inl rfl, ?_⟩) (fun hq => T_ret ⟨.inr ⟨rfl, h, ?_⟩, ?_⟩)
          · intro u hu e
            rw [hu1 u hu e, ← e] at hq
            simp at hq
          · simpa using hq
          · intro u hu e
            rw [hu1 u hu e]
      · exact T_ret ⟨.inl rfl, fun u hu e => absurd e (g2 u hu)⟩
end Go.Proofs.YthcmelnpcaijaaaDoor
