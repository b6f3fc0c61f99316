/-
  The plain law of cartons: filed anew, moved, merged, found. Plain.
-/
import Derived.Test.YtfebeomnlkfgoaaDt
import Derived.Test.YtfebeomnlkfgoaaEc
set_option linter.unusedSimpArgs false
set_option linter.unusedVariables false
namespace Go.Proofs.Ytfebeomnlkfgoaa
open Go.VS
def FindD (l : List Carton) (f : Int) : Int × Int × Int × Bool :=
  bif !(good l) || decide (idx l f < 0) then (0, 0, 0, false) else ((l.getD (idx l f).toNat default).Id, (l.getD (idx l f).toNat default).Room, (l.getD (idx l f).toNat default).Shelf, true)
theorem findDI (l : List Carton) (f : Int) (hl : Small l) : M.impl_FindFile l f = some (FindD l f) := by
  have hb := idx_bd (l := l) (f := f)
  unfold M.impl_FindFile FindD
  rw [withI l f hl, Option.bind_some, e_iAreCartons hl, Option.bind_some]
  cases hq : !(good l) || decide (idx l f < 0)
  · have h0 : 0 ≤ idx l f := by
      simp only [Bool.or_eq_false_iff, decide_eq_false_iff_not] at hq
      omega
    rw [cond_false, cond_false, asrt_pos ⟨h0, hb.2⟩, asrt_pos ⟨h0, hb.2⟩, asrt_pos ⟨h0, hb.2⟩]
  · rfl
theorem findDS (l : List Carton) (f : Int) (hl : Small l) : M.spec_FindFile l f = some (FindD l f) := by
  have hb := idx_bd (l := l) (f := f)
  unfold M.spec_FindFile FindD
  have e : firstAt (hasF f) l = idx l f := rfl
  rw [e_l18Holds hl, Option.bind_some, e_l18Good hl, Option.bind_some, e]
  cases hq : !(good l) || decide (idx l f < 0)
  · have h0 : 0 ≤ idx l f := by
      simp only [Bool.or_eq_false_iff, decide_eq_false_iff_not] at hq
      omega
    rw [cond_false, cond_false, asrt_pos ⟨h0, hb.2⟩, asrt_pos ⟨h0, hb.2⟩, asrt_pos ⟨h0, hb.2⟩]
  · rfl
theorem find_mem {m : List Carton} (hg : good m = true) {c : Carton} (hc : c ∈ m) {f : Int} (hf : f ∈ c.Files) : FindD m f = (c.Id, c.Room, c.Shelf, true) := by
  obtain ⟨k, hk, rfl⟩ := List.getElem_of_mem hc
  have hk2 : hasF f (m.getD k default) = true := by
    rw [getD_el hk]
    unfold hasF
    exact List.any_eq_true.2 ⟨f, hf, by simp⟩
  have hb := idx_bd (l := m) (f := f)
  have h0 : 0 ≤ idx m f := by
    rcases (by omega : idx m f = -1 ∨ 0 ≤ idx m f) with h | h
    · have := firstAt_take_none.1 h
      rw [List.any_eq_false] at this
      have h2 := this _ hc
      rw [getD_el hk] at hk2
      exact absurd hk2 h2
    · exact h
  have hit : hasF f (m.getD (idx m f).toNat default) = true := firstAt_hit (p := hasF f) h0
  have e : (idx m f).toNat = k := by
    rcases Nat.lt_trichotomy (idx m f).toNat k with h | h | h
    · rw [good_apart hg h hk hit] at hk2; cases hk2
    · exact h
    · rw [good_apart hg h (by omega) hk2] at hit; cases hit
  unfold FindD
  rw [hg, Bool.not_true, Bool.false_or, decide_eq_false (by omega), cond_false, e, getD_el hk]
theorem ref_found {l : List Carton} {f i : Int} (h : (RefD l f i).2 = true) : good (RefD l f i).1 = true ∧ (FindD (RefD l f i).1 f).1 = i ∧ (FindD (RefD l f i).1 f).2.2.2 = true := by
  unfold RefD at h ⊢
  cases hq : ((!(good l) || decide (idx l f < 0)) || decide (atC l i < 0)) || (idx l f == atC l i)
  · rw [hq, cond_false] at h
    rw [cond_false]
    have hq' := hq
    simp only [Bool.or_eq_false_iff, Bool.not_eq_false', decide_eq_false_iff_not, beq_eq_false_iff_ne, ne_eq] at hq'
    obtain ⟨⟨⟨_, g1⟩, g2⟩, g3⟩ := hq'
    have hb1 := idx_bd (l := l) (f := f)
    have hb2 := atC_bd (l := l) (i := i)
    cases hg : !(good (refC l f (idx l f).toNat (atC l i).toNat))
    · rw [cond_false]
      simp only [Bool.not_eq_false'] at hg
      have hit : ((l.getD (atC l i).toNat default).Id == i) = true := firstAt_hit (p := fun c : Carton => c.Id == i) (show 0 ≤ atC l i by omega)
      have hm : inF (l.getD (atC l i).toNat default) f ∈ refC l f (idx l f).toNat (atC l i).toNat := by
        have hlen : (atC l i).toNat < (refC l f (idx l f).toNat (atC l i).toNat).length := by unfold refC; rw [List.length_set, List.length_set]; omega
        have := getD_mem hlen
        unfold refC at this ⊢
        rwa [set_eq_getD (by rw [List.length_set]; omega)] at this
      have hF := find_mem hg hm (f := f) (show f ∈ sortL _ by rw [srt_mem]; simp)
      simp only
      rw [hF]
      exact ⟨hg, beq_iff_eq.1 hit, rfl⟩
    · rw [hg] at h; cases h
  · rw [hq] at h; cases h
theorem sum_ge : ∀ {l : List Int} {x : Int}, (∀ y ∈ l, 0 ≤ y) → x ∈ l → x ≤ l.sum
  | [], _, _, h => by cases h
  | y :: l, x, h0, h => by
    have hl : 0 ≤ l.sum := by
      clear h
      have h1 : ∀ z ∈ l, 0 ≤ z := fun z hz => h0 z (by simp [hz])
      clear h0
      induction l with
      | nil => simp
      | cons z l ih =>
        have := ih (fun w hw => h1 w (by simp [hw]))
        have := h1 z (by simp)
        simp only [List.sum_cons]
        omega
    rw [List.sum_cons]
    rcases List.mem_cons.1 h with rfl | h
    · omega
    · have := sum_ge (fun z hz => h0 z (by simp [hz])) h
      have := h0 y (by simp)
      omega
theorem taken_good {l : List Carton} (h : good l = true) (r s : Int) : taken l r s ≤ 100 := by
  have hT := good_thin h
  simp only [good, Bool.and_eq_true, decide_eq_true_eq, Bool.not_eq_true', List.any_eq_false, List.mem_range] at h
  have key : ∀ k, k ≤ l.length → taken (l.take k) r s ≤ 100 := by
    intro k
    induction k with
    | zero => intro _; simp [taken]
    | succ k ih =>
      intro hk
      have h1 := ih (by omega)
      have h2 : okAt l k = true := by simpa using h.2 k (by omega)
      simp only [okAt, Bool.and_eq_true, decide_eq_true_eq] at h2
      have h3 := h2.1.2
      rw [taken_succ (by omega)] at h3 ⊢
      unfold on at h3 ⊢
      by_cases hc : ((l.getD k default).Room == r && (l.getD k default).Shelf == s) = true
      · rw [if_pos hc]
        simp only [Bool.and_eq_true, beq_iff_eq] at hc
        rw [hc.1, hc.2] at h3
        simp only [beq_self_eq_true, Bool.and_self, if_true] at h3
        exact h3
      · rw [if_neg hc]; omega
  have := key l.length (Nat.le_refl _)
  rwa [List.take_length] at this
theorem taken_mem {l : List Carton} (h : good l = true) {c : Carton} (hc : c ∈ l) : 1 ≤ taken l c.Room c.Shelf := by
  have hP := good_P h
  obtain ⟨k, hk, rfl⟩ := List.getElem_of_mem hc
  have hg : goodOne l[k] = true := by have := hP.gd k hk; rwa [getD_el hk] at this
  have ht := (goodOne_spec hg).2.2.2.2.2
  have h1 : on l[k].Room l[k].Shelf l[k] ≤ taken l l[k].Room l[k].Shelf := by
    unfold taken
    refine sum_ge (fun y hy => ?_) (List.mem_map.2 ⟨l[k], hc, rfl⟩)
    obtain ⟨d, hd, rfl⟩ := List.mem_map.1 hy
    have := (good_thin h).2 d hd
    unfold on
    split <;> omega
  unfold on at h1
  simp only [beq_self_eq_true, Bool.and_self, if_true] at h1
  omega
theorem moved_free {l : List Carton} {i r s : Int} (h : (MoveD l i r s).2 = true) : (FreeD (MoveD l i r s).1 r s).2 = true ∧ 0 ≤ (FreeD (MoveD l i r s).1 r s).1 ∧ (FreeD (MoveD l i r s).1 r s).1 ≤ 99 := by
  unfold MoveD at h ⊢
  have hb := atC_bd (l := l) (i := i)
  cases hq : !(good l) || decide (atC l i < 0)
  · rw [hq, cond_false] at h
    rw [cond_false]
    have hq' := hq
    simp only [Bool.or_eq_false_iff, Bool.not_eq_false', decide_eq_false_iff_not] at hq'
    cases hg : !(good (movedC l i r s))
    · rw [cond_false]
      simp only [Bool.not_eq_false'] at hg
      have hm : putC (l.getD (atC l i).toNat default) r s ∈ movedC l i r s := by
        have hlen : (atC l i).toNat < (movedC l i r s).length := by unfold movedC; rw [List.length_set]; omega
        have := getD_mem hlen
        unfold movedC at this ⊢
        rwa [set_eq_getD (by omega)] at this
      obtain ⟨k, hk, hke⟩ := List.getElem_of_mem hm
      have hG : goodOne (putC (l.getD (atC l i).toNat default) r s) = true := by
        have := (good_P hg).gd k hk
        rwa [getD_el hk, hke] at this
      have g := goodOne_spec hG
      have h1 : 1 ≤ taken (movedC l i r s) r s := taken_mem hg hm
      have h2 := taken_good hg r s
      have e1 : inB r 1 9 = true := inB_true.2 g.2.1
      have e2 : inB s 1 30 = true := inB_true.2 g.2.2.1
      unfold FreeD
      simp only
      rw [hg, e1, e2, Bool.and_self, Bool.and_self, cond_true]
      exact ⟨rfl, by omega, by omega⟩
    · rw [hg] at h; cases h
  · rw [hq] at h; cases h
theorem mrg_found {l : List Carton} {a b : Int} (h : (MrgD l a b).2 = true) {i : Nat} (hi : i < l.length) {f : Int} (hf : f ∈ (l.getD i default).Files) :
    (FindD (MrgD l a b).1 f).2.2.2 = true ∧ (((l.getD i default).Id == a) || ((l.getD i default).Id == b)) = ((FindD (MrgD l a b).1 f).1 == a) := by
  unfold MrgD at h ⊢
  cases hq : ((!(good l) || decide (atC l a < 0)) || decide (atC l b < 0)) || (atC l a == atC l b)
  · obtain ⟨p, q, e1, e2, hp, hq2, hne, hgl, hlen, hF1, hF2, hpw1, hpw2, hno, ht1, ht2⟩ := mrg_case hq
    rw [hq, cond_false, e1, e2, Int.toNat_natCast, Int.toNat_natCast] at h
    rw [cond_false, e1, e2, Int.toNat_natCast, Int.toNat_natCast]
    have hP := good_P hgl
    cases hg : !(good (mrgC l p q))
    · rw [cond_false]
      simp only [Bool.not_eq_false'] at hg
      simp only
      have hita : ((l.getD p default).Id == a) = true := by
        have := firstAt_hit (l := l) (p := fun c : Carton => c.Id == a) (show 0 ≤ atC l a by omega)
        have e : firstAt (fun c : Carton => c.Id == a) l = (p : Int) := e1
        rwa [e, Int.toNat_natCast] at this
      have hitb : ((l.getD q default).Id == b) = true := by
        have := firstAt_hit (l := l) (p := fun c : Carton => c.Id == b) (show 0 ≤ atC l b by omega)
        have e : firstAt (fun c : Carton => c.Id == b) l = (q : Int) := e2
        rwa [e, Int.toNat_natCast] at this
      have hmem : ∀ j, j < l.length → j ≠ q → (l.set p (mrg (l.getD p default) (l.getD q default))).getD j default ∈ mrgC l p q := by
        intro j hj hjq
        have hjl : j < (l.set p (mrg (l.getD p default) (l.getD q default))).length := by rw [List.length_set]; exact hj
        unfold mrgC
        rw [List.mem_eraseIdx_iff_getElem]
        exact ⟨j, hjl, hjq, (getD_el hjl).symm⟩
      by_cases hip : i = p ∨ i = q
      · have hm := hmem p hp hne
        rw [set_eq_getD hp] at hm
        have hfm : f ∈ (mrg (l.getD p default) (l.getD q default)).Files := by
          show f ∈ sortL _
          rw [srt_mem, List.mem_append]
          rcases hip with e | e
          · subst e; exact .inl hf
          · subst e; exact .inr hf
        rw [find_mem hg hm hfm]
        refine ⟨rfl, ?_⟩
        show _ = ((l.getD p default).Id == a)
        rw [hita]
        rcases hip with e | e
        · subst e; rw [hita, Bool.true_or]
        · subst e; rw [hitb, Bool.or_true]
      · have h1 : i ≠ p := fun e => hip (.inl e)
        have h2 : i ≠ q := fun e => hip (.inr e)
        have hm := hmem i hi h2
        rw [set_ne_getD (Ne.symm h1)] at hm
        rw [find_mem hg hm hf]
        refine ⟨rfl, ?_⟩
        have uni : ∀ x y : Nat, x < l.length → y < l.length → x ≠ y → (l.getD x default).Id ≠ (l.getD y default).Id := by
          intro x y hx hy hxy
          rcases Nat.lt_or_gt_of_ne hxy with g | g
          · have := hP.up x y g hy; omega
          · have := hP.up y x g hx; omega
        have u1 := uni i p hi hp h1
        have u2 := uni i q hi hq2 h2
        rw [beq_iff_eq] at hita hitb
        rw [show ((l.getD i default).Id == b) = false by rw [beq_eq_false_iff_ne, ← hitb]; exact u2, Bool.or_false]
    · rw [hg] at h; cases h
  · rw [hq] at h; cases h
theorem drawFiled {code : List Int} {K : Nat} (hb : Bytes code) (l : List Carton) (hl : CtD l) (c : Cur) (hc : Good code K c) (hK : K < 100000) : T (M.spec_l1Cur_filed c l) (fun r => Good code (K + 100) r.2) := by
  have hl16 := hl.1
  unfold M.spec_l1Cur_filed
  refine T.then (Q := fun e => match e with | .inl c1 => Good code (K + 80) c1 | .inr r => Good code (K + 90) r.2) (T_iter (fun s => ∃ m : Nat, s.1 = (m : Int) ∧ m ≤ l.length ∧ Good code (K + m * 4) s.2) (fun s => l.length - s.1.toNat) _ ⟨0, rfl, by omega, hc.up (by omega)⟩ (by simp only; omega) ?_) ?_
  · rintro ⟨_, c0⟩ ⟨m, rfl, a1, a2⟩
    simp only at a2
    unfold M.spec_l1Cur_filed_l0
    dsimp only
    refine T_if (fun hq => ?_) (fun hq => T_ret (a2.up (by omega)))
    simp only [decide_eq_true_eq] at hq
    rw [Int.toNat_natCast]
    refine T_ask ⟨by omega, by omega⟩ ?_
    cases hp : decide (((l.getD m default).Files.length : Int) > 0)
    · rw [cond_false, Option.bind_some, Bool.false_and, cond_false, cond_false, wrap64_id (by omega) (by omega)]
      exact T_ret ⟨⟨m + 1, by simp only; omega, by omega, a2.up (by omega)⟩, by simp only; omega⟩
    · simp only [decide_eq_true_eq] at hp
      rw [cond_true]
      refine T_one hb a2 (by omega) ?_
      intro y c1 h1
      dsimp only
      rw [Bool.true_and, cond_true]
      refine T_if (fun _ => ?_) (fun _ => ?_)
      · refine T_ask ⟨by omega, by omega⟩ (T_pick hb h1 (by omega) ?_)
        intro x c2 _ hx h2
        have hx := hx (by omega)
        exact T_ask ⟨hx.1, hx.2⟩ (T_ret (h2.up (by omega)))
      · rw [wrap64_id (by omega) (by omega)]
        exact T_ret ⟨⟨m + 1, by simp only; omega, by omega, h1.up (by omega)⟩, by simp only; omega⟩
  · rintro e he
    cases e with
    | inl c1 =>
      refine T_among hb he (by omega) (by simp) ?_
      intro x c2 _ h2
      exact T_ret (h2.up (by omega))
    | inr r => exact T_ret (Good.up he (by omega))
theorem drawCid {code : List Int} {K : Nat} (hb : Bytes code) (l : List Carton) (hl : CtD l) (c : Cur) (hc : Good code K c) (hK : K < 100000) : T (M.spec_l1Cur_cartonId c l) (fun r => Good code (K + 10) r.2) := by
  have hl16 := hl.1
  unfold M.spec_l1Cur_cartonId
  cases hz : ((l.length : Int) == (0 : Int))
  · rw [beq_eq_false_iff_ne] at hz
    rw [cond_false]
    refine T_one hb hc (by omega) ?_
    intro y c1 h1
    dsimp only
    rw [Bool.false_or, cond_false]
    refine T_if (fun _ => ?_) (fun _ => ?_)
    · refine T_among hb h1 (by omega) (by simp) ?_
      intro x c2 _ h2
      exact T_ret (h2.up (by omega))
    · refine T_pick hb h1 (by omega) ?_
      intro x c2 _ hx h2
      have hx := hx (by omega)
      exact T_ask ⟨hx.1, hx.2⟩ (T_ret (h2.up (by omega)))
  · rw [cond_true, Option.bind_some, Bool.true_or, cond_true, cond_true]
    refine T_among hb hc (by omega) (by simp) ?_
    intro x c2 _ h2
    exact T_ret (h2.up (by omega))
theorem rIntsU (a : List Int) (hl : a.length < 1000000000) : M.laws_rInts a a = some true := by
  unfold M.laws_rInts
  rw [bne_self_eq_false, cond_false, iter_up (s := (0 : Int)) (e := .inl ()) (fun k => (k : Int)) a.length rfl (by omega)]
  · rfl
  · intro k hk
    unfold M.laws_rInts_l0
    simp (disch := first | omega | (intros; simp only [decide_eq_true_eq, decide_eq_false_iff_not, Bool.not_eq_true, Bool.not_eq_false, Bool.not_true, Bool.not_false] at *; omega)) only [cast_succ, asrt_pos, wrap64_id, Option.bind_some, cond_true, cond_false, decide_eq_true, decide_eq_false, Int.toNat_natCast, Bool.not_true, Bool.not_false, Bool.and_true, Bool.true_and, Bool.and_false, Bool.false_and, Bool.or_true, Bool.true_or, Bool.or_false, Bool.false_or, bne_self_eq_false]
  · unfold M.laws_rInts_l0
    simp (disch := first | omega | (intros; simp only [decide_eq_true_eq, decide_eq_false_iff_not, Bool.not_eq_true, Bool.not_eq_false, Bool.not_true, Bool.not_false] at *; omega)) only [cast_succ, asrt_pos, wrap64_id, Option.bind_some, cond_true, cond_false, decide_eq_true, decide_eq_false, Int.toNat_natCast, Bool.not_true, Bool.not_false, Bool.and_true, Bool.true_and, Bool.and_false, Bool.false_and, Bool.or_true, Bool.true_or, Bool.or_false, Bool.false_or]
theorem rCartonsU (l : List Carton) (hl : Small l) : M.laws_rCartons l l = some true := by
  have hl1 := hl.1
  unfold M.laws_rCartons
  rw [bne_self_eq_false, cond_false, iter_up (s := (0 : Int)) (step := M.laws_rCartons_l0 l l) (e := .inl ()) (fun k => (k : Int)) l.length rfl (by omega) (fun k hk => ?_) ?_]
  · rfl
  · unfold M.laws_rCartons_l0
    dsimp only
    rw [decide_eq_false (by omega)]
    rfl
  · have hf := hl.2 _ (getD_mem hk)
    unfold M.laws_rCartons_l0
    dsimp only
    rw [decide_eq_true (by omega), cond_true, Int.toNat_natCast]
    simp only [bne_self_eq_false, Bool.or_self]
    rw [asrt_pos ⟨by omega, by omega⟩, asrt_pos ⟨by omega, by omega⟩, asrt_pos (fun _ => ⟨by omega, by omega⟩), asrt_pos (fun _ => ⟨by omega, by omega⟩), asrt_pos (fun _ => ⟨by omega, by omega⟩), asrt_pos (fun _ => ⟨by omega, by omega⟩), asrt_pos (fun _ => ⟨by omega, by omega⟩), asrt_pos (fun _ => ⟨by omega, by omega⟩), asrt_pos (fun _ => ⟨by omega, by omega⟩), asrt_pos (fun _ => ⟨by omega, by omega⟩), cond_false, rIntsU _ (by omega), Option.bind_some, Bool.not_true, Bool.or_self, cond_false, wrap64_id (by omega) (by omega), cast_succ]
theorem cartLoop (u : List Carton) (a b : Int) (hu : Small u) : iterO (M.laws_FnCartons_l0 (u, a, b) (MrgD u a b)) (0 : Int) = some (.inl ()) := by
  have hu1 := hu.1
  cases hm : (MrgD u a b).2
  · refine iter_up (fun k => (k : Int)) 0 rfl (by omega) (fun k hk => absurd hk (Nat.not_lt_zero _)) ?_
    unfold M.laws_FnCartons_l0
    dsimp only
    rw [hm, Bool.and_false, cond_false]
  · have hR := MrgD_small (a := a) (b := b) hu
    refine iter_up (fun k => (k : Int)) u.length rfl (by omega) (fun i hi => ?_) ?_
    · have hf := hu.2 _ (getD_mem hi)
      unfold M.laws_FnCartons_l0
      dsimp only
      rw [hm, Bool.and_true, decide_eq_true (by omega), cond_true, iter_up (s := (0 : Int)) (step := M.laws_FnCartons_l1 (u, a, b) (MrgD u a b) (i : Int)) (e := .inl ()) (fun k => (k : Int)) (u.getD i default).Files.length rfl (by omega) (fun k hk => ?_) ?_, Option.bind_some]
      · dsimp only
        rw [wrap64_id (by omega) (by omega), cast_succ]
      · unfold M.laws_FnCartons_l1
        dsimp only
        rw [Int.toNat_natCast, asrt_pos ⟨by omega, by omega⟩, decide_eq_false (by omega), cond_false]
      · obtain ⟨g1, g2⟩ := mrg_found hm hi (getD_mem hk)
        unfold M.laws_FnCartons_l1
        dsimp only
        rw [Int.toNat_natCast, Int.toNat_natCast, asrt_pos ⟨by omega, by omega⟩, decide_eq_true (by omega), cond_true, asrt_pos ⟨by omega, by omega⟩, asrt_pos ⟨by omega, by omega⟩, findDI _ _ hR, Option.bind_some, asrt_pos (fun _ => ⟨by omega, by omega⟩), asrt_pos (fun _ _ => ⟨by omega, by omega⟩), g1, g2, beq_self_eq_true, Bool.not_true, Bool.or_self, cond_false, wrap64_id (by omega) (by omega), cast_succ]
    · unfold M.laws_FnCartons_l0
      dsimp only
      rw [decide_eq_false (by omega), Bool.false_and, cond_false]
theorem law_FnCartons (code : List Int) (h1 : code.length ≤ 9223372036854775807) (h2 : ∀ x, x ∈ code → 0 ≤ x ∧ x ≤ 255) : M.laws_FnCartons code = some true := by
  apply T.eq
  unfold M.laws_FnCartons M.laws_rBig
  rw [Option.bind_some]
  refine T_if (fun _ => T_ret rfl) (fun hq => ?_)
  simp only [decide_eq_false_iff_not] at hq
  have hb : Bytes code := ⟨by omega, h2⟩
  have d1 : T (M.spec_DrawRefileTo code) (fun r => CtD r.1) := by
    unfold M.spec_DrawRefileTo
    refine (drawCartons hb).then ?_
    rintro ⟨l, c1⟩ ⟨g1, g2⟩
    refine (drawFiled hb l g1 c1 g2 (by omega)).then ?_
    rintro ⟨x, c2⟩ h2
    refine (drawCid hb l g1 c2 h2 (by omega)).then ?_
    rintro ⟨y, c3⟩ _
    exact T_ret g1
  refine d1.then ?_
  rintro ⟨l, f, i⟩ hl
  simp only at hl
  have hB := hl.b
  dsimp only
  rw [refI l f i hB, Option.bind_some, refS l f i hB, Option.bind_some, beq_self_eq_true, Bool.not_true, cond_false, rCartonsU _ (RefD_small hB), Option.bind_some, Bool.not_true, Bool.or_self, cond_false]
  refine T.then (Q := fun e => e = .inl ()) ?_ ?_
  · refine T_if (fun ho => ?_) (fun _ => T_ret rfl)
    obtain ⟨r1, r2, r3⟩ := ref_found ho
    rw [findDI _ _ (RefD_small hB), Option.bind_some, r2, r3, bne_self_eq_false, Bool.not_true, Bool.or_self, cond_false, e_iAreCartons (RefD_small hB), Option.bind_some, r1, Bool.not_true, Bool.or_self, cond_false]
    exact T_ret rfl
  rintro _ rfl
  dsimp only
  have d2 : T (M.spec_DrawMoveCarton code) (fun r => CtD r.1) := by
    unfold M.spec_DrawMoveCarton
    refine (drawCartons hb).then ?_
    rintro ⟨l, c1⟩ ⟨g1, g2⟩
    refine (drawCid hb l g1 c1 g2 (by omega)).then ?_
    rintro ⟨y, c2⟩ h2
    refine T_some11 hb h2 (by omega) (by decide) (by decide) ?_
    intro x c3 h3
    refine T_some11 hb h3 (by omega) (by decide) (by decide) ?_
    intro z c4 _
    exact T_ret g1
  refine d2.then ?_
  rintro ⟨m, x, r, s⟩ hm
  simp only at hm
  have hM := hm.b
  dsimp only
  rw [moveI m x r s hM, Option.bind_some, moveS m x r s hM, Option.bind_some, beq_self_eq_true, Bool.not_true, cond_false, rCartonsU _ (MoveD_small hM), Option.bind_some, Bool.not_true, Bool.or_self, cond_false]
  refine T.then (Q := fun e => e = .inl ()) ?_ ?_
  · refine T_if (fun ho => ?_) (fun _ => T_ret rfl)
    obtain ⟨r1, r2, r3⟩ := moved_free ho
    rw [freeOnI _ r s (MoveD_small hM), Option.bind_some, r1, Bool.not_true, decide_eq_false (by omega), decide_eq_false (by omega), Bool.or_self, Bool.or_self, cond_false]
    exact T_ret rfl
  rintro _ rfl
  dsimp only
  have d3 : T (M.spec_DrawMergeCartons code) (fun r => CtD r.1) := by
    unfold M.spec_DrawMergeCartons
    refine (drawCartons hb).then ?_
    rintro ⟨l, c1⟩ ⟨g1, g2⟩
    refine (drawCid hb l g1 c1 g2 (by omega)).then ?_
    rintro ⟨x, c2⟩ h2
    refine (drawCid hb l g1 c2 h2 (by omega)).then ?_
    rintro ⟨y, c3⟩ _
    exact T_ret g1
  refine d3.then ?_
  rintro ⟨u, a, b⟩ hu
  simp only at hu
  have hU := hu.b
  dsimp only
  rw [mrgI u a b hU, Option.bind_some, mrgS u a b hU, Option.bind_some, beq_self_eq_true, Bool.not_true, cond_false, rCartonsU _ (MrgD_small hU), Option.bind_some, Bool.not_true, Bool.or_self, cond_false, cartLoop u a b hU, Option.bind_some]
  dsimp only
  have d4 : T (M.spec_DrawFindFile code) (fun r => CtD r.1) := by
    unfold M.spec_DrawFindFile
    refine (drawCartons hb).then ?_
    rintro ⟨l, c1⟩ ⟨g1, g2⟩
    refine (drawFiled hb l g1 c1 g2 (by omega)).then ?_
    rintro ⟨x, c2⟩ h2
    exact T_ret g1
  refine d4.then ?_
  rintro ⟨v, g⟩ hv
  simp only at hv
  have hV := hv.b
  dsimp only
  rw [findDI v g hV, Option.bind_some, findDS v g hV, Option.bind_some]
  exact T_ret (by simp)
end Go.Proofs.Ytfebeomnlkfgoaa
