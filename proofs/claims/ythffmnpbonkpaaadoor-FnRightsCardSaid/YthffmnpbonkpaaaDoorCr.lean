/-
  Rights taken and given, days without a clerk, standing in: the plain law of rights. Plain.
-/
import Derived.Test.YthffmnpbonkpaaaDoorCk
set_option linter.unusedSimpArgs false
set_option linter.unusedVariables false
namespace Go.Proofs.YthffmnpbonkpaaaDoor
open Go.VS

def notB (a b : Int) : Int := IntKind.i64.wrap (BitVec.ofInt IntKind.i64.bits a &&& ~~~BitVec.ofInt IntKind.i64.bits b).toNat
def isR (r : Int) : Bool := (((r == 1) || (r == 2)) || (r == 4)) || (r == 8)
theorem take_all : ∀ a b : Fin 16, isR (b.val : Int) = true → andB (a.val : Int) (b.val : Int) ≠ 0 → notB (a.val : Int) (b.val : Int) = (a.val : Int) - (b.val : Int) ∧ orB (notB (a.val : Int) (b.val : Int)) (b.val : Int) = (a.val : Int) := by decide +kernel
theorem isR_bd {r : Int} (h : isR r = true) : 1 ≤ r ∧ r ≤ 8 := by
  unfold isR at h
  simp only [Bool.or_eq_true, beq_iff_eq] at h
  omega
theorem take_id {a b : Int} (ha : 0 ≤ a ∧ a ≤ 15) (hb : isR b = true) (h : andB a b ≠ 0) : notB a b = a - b ∧ orB (notB a b) b = a := by
  have hb' := isR_bd hb
  have := take_all ⟨a.toNat, by omega⟩ ⟨b.toNat, by omega⟩
  simp only [Int.toNat_of_nonneg ha.1, Int.toNat_of_nonneg (show 0 ≤ b by omega)] at this
  exact this hb h

theorem rClerks_self (a : List Clerk) (hl : a.length < 1000000) : M.laws_rClerks a a = some true := by
  unfold M.laws_rClerks
  simp only [bne_self_eq_false, cond_false]
  rw [iter_up (s := 0) (step := M.laws_rClerks_l0 a a) (e := .inl ()) (fun k => (k : Int)) a.length rfl (by omega) (fun k hk => by
    unfold M.laws_rClerks_l0
    simp (disch := first | omega | (intros; simp only [decide_eq_true_eq, decide_eq_false_iff_not, Bool.not_eq_true, Bool.not_eq_false, Bool.not_true, Bool.not_false] at *; omega)) only [cast_succ, asrt_pos, wrap64_id, Option.bind_some, cond_true, cond_false, decide_eq_true, decide_eq_false, Int.toNat_natCast, Bool.not_true, Bool.not_false, Bool.and_true, Bool.true_and, Bool.and_false, Bool.false_and, Bool.or_true, Bool.true_or, Bool.or_false, Bool.false_or, beq_self_eq_true]) (by
    unfold M.laws_rClerks_l0
    simp (disch := first | omega | (intros; simp only [decide_eq_true_eq, decide_eq_false_iff_not, Bool.not_eq_true, Bool.not_eq_false, Bool.not_true, Bool.not_false] at *; omega)) only [cast_succ, asrt_pos, wrap64_id, Option.bind_some, cond_true, cond_false, decide_eq_true, decide_eq_false, Int.toNat_natCast, Bool.not_true, Bool.not_false, Bool.and_true, Bool.true_and, Bool.and_false, Bool.false_and, Bool.or_true, Bool.true_or, Bool.or_false, Bool.false_or])]
  rfl

/-! ### One clerk changed -/
def ChD (l : List Clerk) (i : Int) (g : Clerk → Clerk) : List Clerk × Bool :=
  bif clerksOk l && !decide (atC l i < 0) then (bif clerksOk (l.set (atC l i).toNat (g (l.getD (atC l i).toNat default))) then (l.set (atC l i).toNat (g (l.getD (atC l i).toNat default)), true) else ([], false)) else ([], false)

theorem setB {l : List Clerk} {k : Nat} {x : Clerk} (hl : ClB l) (hx : x.Name.length < 1000000) : ClB (l.set k x) := ⟨by rw [List.length_set]; exact hl.1, fun y hy => by
  rcases List.mem_or_eq_of_mem_set hy with h | h
  · exact hl.2 y h
  · subst h; exact hx⟩

theorem nmB {l : List Clerk} {k : Nat} (hl : ClB l) (hk : k < l.length) : (l.getD k default).Name.length < 1000000 := hl.2 _ (getD_mem hk)
theorem changedI (l : List Clerk) (i : Int) (g : Clerk → Clerk) (fm : Clerk → Option Clerk) (hf : ∀ x, fm x = some (g x)) (hg : ∀ x, (g x).Name = x.Name) (hl : ClB l) : M.impl_changed l i fm = some (ChD l i g) := by
  have := hl.1
  unfold M.impl_changed ChD M.slices_Clone_impl_Clerk_impl_Clerk
  simp only [atI l i hl.1, clerksI l hl, Option.bind_some]
  cases h1 : clerksOk l
  · rfl
  cases h2 : decide (atC l i < 0)
  · simp only [decide_eq_false_iff_not] at h2
    obtain ⟨q1, q2, q3⟩ := atC_spec h2
    simp only [Bool.not_true, Bool.or_self, cond_false, Bool.not_false, Bool.and_self, cond_true]
    rw [asrt_pos (by omega), Option.bind_some, asrt_pos ⟨by omega, q2⟩, hf, Option.bind_some, clerksI _ (setB hl (by rw [hg]; exact hl.2 _ (getD_mem q1))), Option.bind_some]
    cases clerksOk (l.set (atC l i).toNat (g (l.getD (atC l i).toNat default))) <;> rfl
  · rfl

theorem withS (l : List Clerk) (i : Int) (x : Clerk) (hl : ClB l) (hx : x.Name.length < 1000000) (hi : 0 ≤ i ∧ i < (l.length : Int)) : M.spec_l11With l i x = some (bif clerksOk (l.set i.toNat x) then (l.set i.toNat x, true) else ([], false)) := by
  have := hl.1
  unfold M.spec_l11With
  simp only [List.nil_append]
  rw [asrt_pos (by simp; omega), asrt_pos hi, clerksS _ (setB hl hx), Option.bind_some]
  cases clerksOk (l.set i.toNat x) <;> rfl

def setR (r : Int) (x : Clerk) : Clerk := ⟨x.Id, x.Name, r, x.From, x.Until, x.Stands⟩
def giveG (r : Int) (x : Clerk) : Clerk := setR (orB x.Rights r) x
def takeG (r : Int) (x : Clerk) : Clerk := setR (notB x.Rights r) x
def standG (s : Int) (x : Clerk) : Clerk := ⟨x.Id, x.Name, x.Rights, x.From, x.Until, s⟩

def GiveD (l : List Clerk) (i r : Int) : List Clerk × Bool := bif isR r then ChD l i (giveG r) else ([], false)
def TakeD (l : List Clerk) (i r : Int) : List Clerk × Bool := bif (isR r && !decide (atC l i < 0)) && !(andB (l.getD (atC l i).toNat default).Rights r == 0) then ChD l i (takeG r) else ([], false)

theorem giveI (l : List Clerk) (i r : Int) (hl : ClB l) : M.impl_GiveRight l i r = some (GiveD l i r) := by
  unfold M.impl_GiveRight GiveD M.impl_isRight
  rw [Option.bind_some, changedI l i (giveG r) (fun x0 => M.impl_GiveRight_1 x0 r) (fun x => rfl) (fun x => rfl) hl]
  unfold isR
  cases ((((r == (1 : Int)) || (r == (2 : Int))) || (r == (4 : Int))) || (r == (8 : Int))) <;> rfl
theorem giveS (l : List Clerk) (i r : Int) (hl : ClB l) : M.spec_GiveRight l i r = some (GiveD l i r) := by
  unfold M.spec_GiveRight GiveD ChD M.spec_l11Right isR
  simp only [atS l i hl.1, clerksS l hl, Option.bind_some, bif_some]
  cases h1 : clerksOk l
  · cases ((((r == (1 : Int)) || (r == (2 : Int))) || (r == (4 : Int))) || (r == (8 : Int))) <;> rfl
  cases h2 : decide (atC l i < 0)
  · simp only [decide_eq_false_iff_not] at h2
    obtain ⟨q1, q2, q3⟩ := atC_spec h2
    cases ((((r == (1 : Int)) || (r == (2 : Int))) || (r == (4 : Int))) || (r == (8 : Int)))
    · rfl
    · simp only [Bool.not_true, Bool.or_self, cond_false, Bool.not_false, Bool.and_self, cond_true]
      rw [asrt_pos ⟨by omega, q2⟩]
      have h := withS l (atC l i) (giveG r (l.getD (atC l i).toNat default)) hl (show (l.getD (atC l i).toNat default).Name.length < 1000000 from nmB hl q1) ⟨by omega, q2⟩
      unfold giveG setR orB at h ⊢
      rw [h, Option.bind_some]
  · cases ((((r == (1 : Int)) || (r == (2 : Int))) || (r == (4 : Int))) || (r == (8 : Int))) <;> rfl

theorem takeI (l : List Clerk) (i r : Int) (hl : ClB l) : M.impl_TakeRight l i r = some (TakeD l i r) := by
  unfold M.impl_TakeRight TakeD M.impl_isRight
  rw [atI l i hl.1, Option.bind_some, Option.bind_some, changedI l i (takeG r) (fun x0 => M.impl_TakeRight_1 x0 r) (fun x => rfl) (fun x => rfl) hl, asrt_pos (fun h => by
    simp only [Bool.or_eq_false_iff, decide_eq_false_iff_not] at h
    exact ⟨by omega, (atC_spec h.2).2.1⟩)]
  unfold isR andB
  cases ((((r == (1 : Int)) || (r == (2 : Int))) || (r == (4 : Int))) || (r == (8 : Int)))
  · rfl
  cases decide (atC l i < 0)
  · cases (IntKind.i64.wrap (BitVec.ofInt IntKind.i64.bits (l.getD (atC l i).toNat default).Rights &&& BitVec.ofInt IntKind.i64.bits r).toNat == 0) <;> rfl
  · rfl
theorem takeS (l : List Clerk) (i r : Int) (hl : ClB l) : M.spec_TakeRight l i r = some (TakeD l i r) := by
  unfold M.spec_TakeRight TakeD ChD M.spec_l11Right
  simp only [atS l i hl.1, clerksS l hl, Option.bind_some, bif_some]
  rw [asrt_pos (fun h => by
    simp only [Bool.or_eq_false_iff, decide_eq_false_iff_not] at h
    exact ⟨by omega, (atC_spec h.1.2).2.1⟩)]
  have e0 : ((((r == (1 : Int)) || (r == (2 : Int))) || (r == (4 : Int))) || (r == (8 : Int))) = isR r := rfl
  rw [e0]
  cases h1 : clerksOk l
  · cases (isR r && !decide (atC l i < 0)) && !(andB (l.getD (atC l i).toNat default).Rights r == 0) <;> rfl
  cases h2 : decide (atC l i < 0)
  · simp only [decide_eq_false_iff_not] at h2
    obtain ⟨q1, q2, q3⟩ := atC_spec h2
    cases h3 : isR r
    · rfl
    · have e1 : (IntKind.i64.wrap (BitVec.ofInt IntKind.i64.bits (l.getD (atC l i).toNat default).Rights &&& BitVec.ofInt IntKind.i64.bits r).toNat == 0) = (andB (l.getD (atC l i).toNat default).Rights r == 0) := rfl
      simp only [Bool.not_true, Bool.or_self, cond_false, Bool.not_false, Bool.and_self, cond_true, Bool.false_or, Bool.true_and, e1]
      cases h4 : (andB (l.getD (atC l i).toNat default).Rights r == 0)
      · have c := clerkOk_spec ((clerksOk_spec h1).2.1 _ q1)
        rw [beq_eq_false_iff_ne] at h4
        have h5 := (take_id c.2.1 h3 h4).1
        have hb := isR_bd h3
        simp only [cond_false, Bool.not_false, cond_true]
        rw [asrt_pos ⟨by omega, q2⟩, wrap64_id (by omega) (by omega)]
        have h := withS l (atC l i) (takeG r (l.getD (atC l i).toNat default)) hl (show (l.getD (atC l i).toNat default).Name.length < 1000000 from nmB hl q1) ⟨by omega, q2⟩
        unfold takeG setR at h ⊢
        rw [h5] at h ⊢
        rw [h, Option.bind_some]
      · rfl
  · cases isR r <;> rfl

theorem standI (l : List Clerk) (i s : Int) (hl : ClB l) : M.impl_StandFor l i s = some (ChD l i (standG s)) := by
  unfold M.impl_StandFor
  rw [changedI l i (standG s) (fun x0 => M.impl_StandFor_1 x0 s) (fun x => rfl) (fun x => rfl) hl, Option.bind_some]
theorem standS (l : List Clerk) (i s : Int) (hl : ClB l) : M.spec_StandFor l i s = some (ChD l i (standG s)) := by
  unfold M.spec_StandFor ChD
  simp only [atS l i hl.1, clerksS l hl, Option.bind_some]
  cases h1 : clerksOk l
  · rfl
  cases h2 : decide (atC l i < 0)
  · simp only [decide_eq_false_iff_not] at h2
    obtain ⟨q1, q2, q3⟩ := atC_spec h2
    simp only [Bool.not_true, Bool.or_self, cond_false, Bool.not_false, Bool.and_self, cond_true]
    rw [asrt_pos ⟨by omega, q2⟩]
    have h := withS l (atC l i) (standG s (l.getD (atC l i).toNat default)) hl (show (l.getD (atC l i).toNat default).Name.length < 1000000 from nmB hl q1) ⟨by omega, q2⟩
    unfold standG at h ⊢
    rw [h, Option.bind_some]
  · rfl

theorem ChD_ok {l : List Clerk} {i : Int} {g : Clerk → Clerk} (h : (ChD l i g).2 = true) : clerksOk l = true ∧ ¬ atC l i < 0 ∧ clerksOk (l.set (atC l i).toNat (g (l.getD (atC l i).toNat default))) = true ∧ (ChD l i g).1 = l.set (atC l i).toNat (g (l.getD (atC l i).toNat default)) := by
  unfold ChD at h ⊢
  cases h1 : clerksOk l && !decide (atC l i < 0)
  · rw [h1] at h; cases h
  · rw [h1] at h
    simp only [cond_true] at h ⊢
    cases h2 : clerksOk (l.set (atC l i).toNat (g (l.getD (atC l i).toNat default)))
    · rw [h2] at h; cases h
    · simp only [Bool.and_eq_true, Bool.not_eq_true', decide_eq_false_iff_not] at h1
      exact ⟨h1.1, h1.2, rfl, rfl⟩
theorem ChD_len {l : List Clerk} {i : Int} {g : Clerk → Clerk} (hl : l.length < 1000000) : (ChD l i g).1.length < 1000000 := by
  unfold ChD
  cases clerksOk l && !decide (atC l i < 0)
  · simp
  · simp only [cond_true]
    cases clerksOk (l.set (atC l i).toNat (g (l.getD (atC l i).toNat default)))
    · simp
    · simp only [cond_true, List.length_set]; exact hl

/-- The clerk that has been changed stands where it stood. -/
theorem at_set {l : List Clerk} {i : Int} {x : Clerk} (h : ¬ atC l i < 0) (hx : x.Id = i) (hok : clerksOk (l.set (atC l i).toNat x) = true) : atC (l.set (atC l i).toNat x) i = atC l i ∧ (l.set (atC l i).toNat x).getD (atC l i).toNat default = x := by
  obtain ⟨q1, q2, q3⟩ := atC_spec h
  have e : (l.set (atC l i).toNat x).getD (atC l i).toNat default = x := by simp [List.getD, q1]
  refine ⟨?_, e⟩
  have := at_own hok (k := (atC l i).toNat) (by rw [List.length_set]; exact q1)
  rw [e, hx] at this
  rw [this, Int.toNat_of_nonneg (by omega)]

theorem give_back {l : List Clerk} {i r : Int} (h : (TakeD l i r).2 = true) : GiveD (TakeD l i r).1 i r = (l, true) := by
  unfold TakeD at h ⊢
  cases h1 : (isR r && !decide (atC l i < 0)) && !(andB (l.getD (atC l i).toNat default).Rights r == 0)
  · rw [h1] at h; cases h
  rw [h1] at h
  simp only [cond_true] at h ⊢
  obtain ⟨c1, c2, c3, c4⟩ := ChD_ok h
  simp only [Bool.and_eq_true, Bool.not_eq_true', beq_eq_false_iff_ne, ne_eq, decide_eq_false_iff_not] at h1
  obtain ⟨⟨b1, b2⟩, b3⟩ := h1
  obtain ⟨q1, q2, q3⟩ := atC_spec c2
  have hc := clerkOk_spec ((clerksOk_spec c1).2.1 _ q1)
  rw [c4]
  obtain ⟨a1, a2⟩ := at_set (x := takeG r (l.getD (atC l i).toNat default)) c2 q3 c3
  have e2 : giveG r (takeG r (l.getD (atC l i).toNat default)) = l.getD (atC l i).toNat default := by
    unfold giveG takeG setR
    simp only
    rw [(take_id hc.2.1 b1 b3).2]
  have e3 : (l.set (atC l i).toNat (takeG r (l.getD (atC l i).toNat default))).set (atC l i).toNat (l.getD (atC l i).toNat default) = l := by
    rw [List.set_set]
    have : l.getD (atC l i).toNat default = l[(atC l i).toNat] := by simp [List.getD, q1]
    rw [this, List.set_getElem_self]
  unfold GiveD ChD
  rw [b1, a1, a2, c3, decide_eq_false c2, e2, e3, c1]
  rfl

/-! ### Days without a clerk -/
def noDay (l : List Clerk) (r a : Int) (k : Nat) : List Int := bif (((whoL l r (a + k)).length : Int) == 0) then [a + (k : Int)] else []
def daysL (l : List Clerk) (r a b : Int) : List Int := (List.range (b - a + 1).toNat).flatMap (noDay l r a)
def DaysD (l : List Clerk) (r a b : Int) : List Int × Bool := bif ((clerksOk l && inR r 1 15) && daysOk a b) && !decide (IntKind.i64.wrap (b - a) > 200) then (daysL l r a b, true) else ([], false)

theorem daysLoopI (l : List Clerk) (r a b : Int) (h : clerksOk l = true) (hd : 0 ≤ a ∧ a ≤ b ∧ b ≤ 20000) : iterO (M.impl_DaysWithout_l0 l r b) (([] : List Int), a) = some (daysL l r a b) := by
  have hlen : (List.range (b - a + 1).toNat).length = (b - a + 1).toNat := List.length_range
  have hget : ∀ k, k < (List.range (b - a + 1).toNat).length → (List.range (b - a + 1).toNat).getD k default = k := fun k hk => by simp [List.getD, List.getElem?_range (show k < (b - a + 1).toNat by omega)]
  rw [iter_coll (s := (([] : List Int), a)) (step := M.impl_DaysWithout_l0 l r b) (fun q k => (q, a + (k : Int))) (noDay l r a) id (List.range (b - a + 1).toNat) (by simp) (by omega) (fun k hk => by unfold noDay; exact if_len _ _) (fun q k hk hq => by
    rw [hget k hk]
    have h2 := whoI l r (a + k) h
    unfold M.impl_DaysWithout_l0 noDay
    dsimp only
    rw [decide_eq_true (show a + (k : Int) ≤ b by omega), h2, Option.bind_some, wrap64_id (n := a + (k : Int) + 1) (by omega) (by omega)]
    cases (((whoL l r (a + k)).length : Int) == 0)
    · simp only [cond_true, cond_false, Option.bind_some, List.append_nil, cast_succ, Int.add_assoc]
    · rw [cond_true, cond_true, asrt_pos (by rw [List.length_singleton]; omega)]
      rw [cast_succ, ← Int.add_assoc]
      rfl) (fun q hq => by
    unfold M.impl_DaysWithout_l0
    dsimp only
    rw [decide_eq_false (show ¬ a + ((List.range (b - a + 1).toNat).length : Int) ≤ b by omega)]
    rfl)]
  rfl
theorem daysLoopS (l : List Clerk) (r a b : Int) (h : clerksOk l = true) (hd : 0 ≤ a ∧ a ≤ b ∧ b ≤ 20000) : iterO (M.spec_DaysWithout_l0 l r b) (([] : List Int), a) = some (daysL l r a b) := by
  have hlen : (List.range (b - a + 1).toNat).length = (b - a + 1).toNat := List.length_range
  have hget : ∀ k, k < (List.range (b - a + 1).toNat).length → (List.range (b - a + 1).toNat).getD k default = k := fun k hk => by simp [List.getD, List.getElem?_range (show k < (b - a + 1).toNat by omega)]
  rw [iter_coll (s := (([] : List Int), a)) (step := M.spec_DaysWithout_l0 l r b) (fun q k => (q, a + (k : Int))) (noDay l r a) id (List.range (b - a + 1).toNat) (by simp) (by omega) (fun k hk => by unfold noDay; exact if_len _ _) (fun q k hk hq => by
    rw [hget k hk]
    have h2 := whoS l r (a + k) h
    unfold M.spec_DaysWithout_l0 noDay
    dsimp only
    rw [decide_eq_true (show a + (k : Int) ≤ b by omega), h2, Option.bind_some, wrap64_id (n := a + (k : Int) + 1) (by omega) (by omega)]
    cases (((whoL l r (a + k)).length : Int) == 0)
    · simp only [cond_true, cond_false, Option.bind_some, List.append_nil, cast_succ, Int.add_assoc]
    · rw [cond_true, cond_true, asrt_pos (by rw [List.length_singleton]; omega)]
      rw [cast_succ, ← Int.add_assoc]
      rfl) (fun q hq => by
    unfold M.spec_DaysWithout_l0
    dsimp only
    rw [decide_eq_false (show ¬ a + ((List.range (b - a + 1).toNat).length : Int) ≤ b by omega)]
    rfl)]
  rfl

theorem daysOk_spec {a b : Int} (h : daysOk a b = true) : 0 ≤ a ∧ a ≤ b ∧ b ≤ 20000 := by
  unfold daysOk at h
  simp only [Bool.and_eq_true, inR_true, decide_eq_true_eq] at h
  omega

theorem daysWI (l : List Clerk) (r a b : Int) (hl : ClB l) : M.impl_DaysWithout l r a b = some (DaysD l r a b) := by
  unfold M.impl_DaysWithout DaysD M.impl_isNeed
  simp only [clerksI l hl, withinI, daysI', Option.bind_some, bif_some]
  cases h : clerksOk l
  · rfl
  cases inR r 1 15
  · rfl
  cases hd : daysOk a b
  · rfl
  simp only [daysLoopI l r a b h (daysOk_spec hd), Option.bind_some]
  cases decide (IntKind.i64.wrap (b - a) > 200) <;> rfl
theorem daysWS (l : List Clerk) (r a b : Int) (hl : ClB l) : M.spec_DaysWithout l r a b = some (DaysD l r a b) := by
  unfold M.spec_DaysWithout DaysD M.spec_l11Sum
  simp only [clerksS l hl, l1InS, l2DayS, Option.bind_some, bif_some]
  cases h : clerksOk l
  · rfl
  cases inR r 1 15
  · rfl
  have e : daysOk a b = (inR b 0 20000 && inR a 0 b) := by
    unfold daysOk
    rw [Bool.eq_iff_iff]
    simp only [Bool.and_eq_true, inR_true, decide_eq_true_eq]
    omega
  rw [e]
  cases h1 : inR b 0 20000
  · rfl
  cases h2 : inR a 0 b
  · rfl
  have hd : daysOk a b = true := by rw [e, h1, h2]; rfl
  simp only [daysLoopS l r a b h (daysOk_spec hd), Option.bind_some]
  cases decide (IntKind.i64.wrap (b - a) > 200) <;> rfl

theorem flatMap_len {β γ : Type} (g : β → List γ) (l : List β) (h : ∀ x ∈ l, (g x).length ≤ 1) : (l.flatMap g).length ≤ l.length := by
  induction l with
  | nil => simp
  | cons x t ih =>
    simp only [List.flatMap_cons, List.length_append, List.length_cons]
    have h1 := h x (List.mem_cons_self ..)
    have h2 := ih (fun y hy => h y (List.mem_cons_of_mem _ hy))
    omega
theorem DaysD_ok {l : List Clerk} {r a b : Int} (h : (DaysD l r a b).2 = true) : clerksOk l = true ∧ inR r 1 15 = true ∧ (0 ≤ a ∧ a ≤ b ∧ b ≤ 20000) ∧ (DaysD l r a b).1 = daysL l r a b := by
  unfold DaysD at h ⊢
  cases h1 : ((clerksOk l && inR r 1 15) && daysOk a b) && !decide (IntKind.i64.wrap (b - a) > 200)
  · rw [h1] at h; cases h
  · simp only [Bool.and_eq_true] at h1
    exact ⟨h1.1.1.1, h1.1.1.2, daysOk_spec h1.1.2, rfl⟩
theorem daysL_len {l : List Clerk} {r a b : Int} (hd : 0 ≤ a ∧ a ≤ b ∧ b ≤ 20000) : (daysL l r a b).length < 1000000 := by
  unfold daysL
  have := flatMap_len (noDay l r a) (List.range (b - a + 1).toNat) (fun k _ => by unfold noDay; exact if_len _ _)
  rw [List.length_range] at this
  omega
theorem DaysD_len {l : List Clerk} {r a b : Int} : (DaysD l r a b).1.length < 1000000 := by
  cases h : (DaysD l r a b).2
  · unfold DaysD at h ⊢
    cases h1 : ((clerksOk l && inR r 1 15) && daysOk a b) && !decide (IntKind.i64.wrap (b - a) > 200)
    · simp
    · rw [h1] at h; cases h
  · obtain ⟨_, _, h3, h4⟩ := DaysD_ok h
    rw [h4]; exact daysL_len h3
theorem first_day {l : List Clerk} {r a b : Int} (hd : a ≤ b) : ((daysL l r a b).any fun y => y == a) = (((whoL l r a).length : Int) == 0) := by
  rw [Bool.eq_iff_iff, List.any_eq_true]
  constructor
  · rintro ⟨y, hy, e⟩
    obtain ⟨k, hk, hy⟩ := List.mem_flatMap.1 hy
    unfold noDay at hy
    cases hc : (((whoL l r (a + k)).length : Int) == 0)
    · rw [hc] at hy; cases hy
    · rw [hc] at hy
      simp only [cond_true, List.mem_singleton] at hy
      have e := eq_of_beq e
      have : k = 0 := by omega
      subst this
      simpa using hc
  · intro h
    refine ⟨a, List.mem_flatMap.2 ⟨0, List.mem_range.2 (by omega), ?_⟩, beq_self_eq_true _⟩
    unfold noDay
    rw [show a + ((0 : Nat) : Int) = a by omega, h]
    exact List.mem_singleton.2 rfl

/-! ### Draws -/
theorem drawAmongB {code : List Int} {k : Nat} {c : Cur} (hb : Bytes code) (h : Good code k c) (hk : k < 600000000) (l : List Int) (q : Int) (hq : 1 ≤ q ∧ q ≤ 100) (hl : (l.length : Int) = q + 2) {β : Type} {Q : β → Prop} {f : Int × Cur → Option β} (hf : ∀ x c', Good code (k + 4) c' → T (f (x, c')) Q) :
    T ((M.spec_l1Cur_pick c 24).bind fun y0 => asrt ((0 : Int) ≤ (0 : Int) ∧ (0 : Int) ≤ (IntKind.i64.wrap (q + (IntKind.i64.wrap (Int.tdiv y0.1 (11 : Int))))) ∧ (IntKind.i64.wrap (q + (IntKind.i64.wrap (Int.tdiv y0.1 (11 : Int))))) ≤ (l.length : Int)) <|
      (M.spec_l1Cur_among y0.2 (slc l (0 : Int) (IntKind.i64.wrap (q + (IntKind.i64.wrap (Int.tdiv y0.1 (11 : Int))))))).bind f) Q := by
  refine T_pick hb h (by omega) ?_
  intro x c1 _ hx h1
  have hx := hx (by omega)
  dsimp only
  have e1 : 0 ≤ Int.tdiv x 11 ∧ Int.tdiv x 11 ≤ 2 := by
    rw [Int.tdiv_eq_ediv_of_nonneg (by omega)]
    omega
  rw [wrap64_id (n := Int.tdiv x 11) (by omega) (by omega), wrap64_id (n := q + Int.tdiv x 11) (by omega) (by omega)]
  refine T_ask ⟨Int.le_refl _, by omega, by omega⟩ ?_
  refine T_among hb h1 (by omega) (slc_ne (by omega) (by omega)) ?_
  intro y c2 _ h2
  exact hf y c2 h2

theorem law_FnRights (code : List Int) (h1 : code.length ≤ 9223372036854775807) (h2 : ∀ x, x ∈ code → 0 ≤ x ∧ x ≤ 255) : M.laws_FnRights code = some true := by
  apply T.eq
  unfold M.laws_FnRights M.laws_rBig
  rw [Option.bind_some]
  refine T_if (fun _ => T_ret rfl) (fun hq => ?_)
  simp only [decide_eq_false_iff_not] at hq
  have hb : Bytes code := ⟨by omega, h2⟩
  have d1 : T (M.spec_DrawTakeRight code) (fun r => ClD r.1) := by
    unfold M.spec_DrawTakeRight M.spec_DrawGiveRight
    refine T_in ?_
    refine T.mono (Q := fun r => ClD r.1) ?_ (fun r hr => T_ret hr)
    refine (drawClerks hb good0c (by omega)).then ?_
    rintro ⟨l, c1⟩ ⟨g1, g2⟩
    refine (drawClerkId hb g2 (by omega) l).then ?_
    rintro ⟨i, c2⟩ g3
    exact drawAmongB hb g3 (by omega) _ 4 (by omega) rfl (fun x c' _ => T_ret g1)
  refine d1.then ?_
  rintro ⟨l, i, r⟩ hl
  have hB : ClB l := hl.b
  have hTl : (TakeD l i r).1.length < 1000000 := by
    unfold TakeD
    cases (isR r && !decide (atC l i < 0)) && !(andB (l.getD (atC l i).toNat default).Rights r == 0)
    · simp
    · exact ChD_len hB.1
  have hGl : (GiveD l i r).1.length < 1000000 := by
    unfold GiveD
    cases isR r
    · simp
    · exact ChD_len hB.1
  simp only [takeI l i r hB, takeS l i r hB, Option.bind_some, beq_self_eq_true, Bool.not_true, cond_false, rClerks_self _ hTl, Bool.or_self]
  refine T.then (Q := fun e => e = .inl ()) (T_if (fun hm => ?_) (fun _ => T_ret rfl)) ?_
  · have hB2 : ClB (TakeD l i r).1 := by
      unfold TakeD at hm ⊢
      cases h1 : (isR r && !decide (atC l i < 0)) && !(andB (l.getD (atC l i).toNat default).Rights r == 0)
      · rw [h1] at hm; cases hm
      rw [h1] at hm
      simp only [cond_true] at hm ⊢
      obtain ⟨c1, c2, c3, c4⟩ := ChD_ok hm
      rw [c4]
      exact setB hB (show (l.getD (atC l i).toNat default).Name.length < 1000000 from nmB hB (atC_spec c2).1)
    rw [giveI _ i r hB2, give_back hm, Option.bind_some]
    simp only [Bool.not_true, cond_false, rClerks_self l hB.1, Option.bind_some, Bool.or_self]
    exact T_ret rfl
  rintro _ rfl
  dsimp only
  simp only [giveI l i r hB, giveS l i r hB, Option.bind_some, beq_self_eq_true, Bool.not_true, cond_false, rClerks_self _ hGl, Bool.or_self, Bool.false_or]
  have hG : T (bif (GiveD l i r).2 then M.impl_AreClerks (GiveD l i r).1 else some default) (fun z => ((GiveD l i r).2 && !z) = false) := by
    cases hm : (GiveD l i r).2
    · exact T_ret rfl
    · unfold GiveD at hm ⊢
      cases hr : isR r
      · rw [hr] at hm; cases hm
      rw [hr] at hm
      simp only [cond_true] at hm ⊢
      obtain ⟨c1, c2, c3, c4⟩ := ChD_ok hm
      rw [c4, clerksI (l.set (atC l i).toNat (giveG r (l.getD (atC l i).toNat default))) (setB hB (show (l.getD (atC l i).toNat default).Name.length < 1000000 from nmB hB (atC_spec c2).1)), c3]
      exact T_ret rfl
  refine hG.then ?_
  intro z hz
  rw [hz]
  simp only [cond_false]
  have d2 : T (M.spec_DrawDaysWithout code) (fun r => ClD r.1) := by
    unfold M.spec_DrawDaysWithout
    refine (drawClerks hb good0c (by omega)).then ?_
    rintro ⟨l, c1⟩ ⟨g1, g2⟩
    refine (drawDay11 hb g2 (by omega)).then ?_
    rintro ⟨d, c2⟩ g3
    refine (drawRights hb g3 (by omega)).then ?_
    rintro ⟨r, c3⟩ g4
    exact drawAmongB hb g4 (by omega) _ 4 (by omega) rfl (fun x c' _ => T_ret g1)
  refine d2.then ?_
  rintro ⟨l, r, a, b⟩ hl
  have hB : ClB l := hl.b
  simp only [daysWI l r a b hB, daysWS l r a b hB, Option.bind_some, beq_self_eq_true, Bool.not_true, cond_false, rInts_self _ (DaysD_len (l := l) (r := r) (a := a) (b := b)), Bool.or_self]
  refine T.then (Q := fun e => e = .inl ()) (T_if (fun hm => ?_) (fun _ => T_ret rfl)) ?_
  · obtain ⟨c1, c2, c3, c4⟩ := DaysD_ok hm
    have hw : WhoD l r a = (whoL l r a, true) := by unfold WhoD; rw [c1, c2, inR_true.2 ⟨c3.1, by omega⟩]; rfl
    rw [whoDI l r a hB, hw, Option.bind_some, c4]
    simp only [Bool.not_true, cond_false, rHasP _ _ (daysL_len c3), Option.bind_some, first_day c3.2.1, beq_self_eq_true, Bool.or_self]
    exact T_ret rfl
  rintro _ rfl
  dsimp only
  have d3 : T (M.spec_DrawStandFor code) (fun r => ClD r.1) := by
    unfold M.spec_DrawStandFor
    refine (drawClerks hb good0c (by omega)).then ?_
    rintro ⟨l, c1⟩ ⟨g1, g2⟩
    refine (drawClerkId hb g2 (by omega) l).then ?_
    rintro ⟨i, c2⟩ g3
    refine T_one hb g3 (by omega) ?_
    intro x c3 g4
    dsimp only
    refine T_if (fun _ => T_ret g1) (fun _ => ?_)
    refine (drawClerkId hb g4 (by omega) l).then ?_
    rintro ⟨j, c4⟩ _
    exact T_ret g1
  refine d3.then ?_
  rintro ⟨u, x, o⟩ hl
  have hB : ClB u := hl.b
  simp only [standI u x o hB, standS u x o hB, Option.bind_some, beq_self_eq_true, Bool.not_true, cond_false, rClerks_self _ (ChD_len (l := u) (i := x) (g := standG o) hB.1), Bool.or_self]
  have hloop : iterO (M.laws_FnRights_l0 (u, x, o) (ChD u x (standG o))) (0 : Int) = some (.inl ()) := by
    by_cases hgo : ((ChD u x (standG o)).2 && (o == 0)) = true
    · simp only [Bool.and_eq_true, beq_iff_eq] at hgo
      obtain ⟨g1, rfl⟩ := hgo
      obtain ⟨c1, c2, c3, c4⟩ := ChD_ok g1
      obtain ⟨q1, q2, q3⟩ := atC_spec c2
      obtain ⟨a1, a2⟩ := at_set (x := standG 0 (u.getD (atC u x).toNat default)) c2 q3 c3
      have hsb := setB (k := (atC u x).toNat) (x := standG 0 (u.getD (atC u x).toNat default)) hB (show (u.getD (atC u x).toNat default).Name.length < 1000000 from nmB hB q1)
      have hc := clerkOk_spec ((clerksOk_spec c1).2.1 _ q1)
      have hu := hB.1
      refine iter_up (s := 0) (fun k => (k : Int)) u.length rfl (by omega) (fun k hk => ?_) ?_
      · unfold M.laws_FnRights_l0
        dsimp only
        rw [decide_eq_true (show (k : Int) < (u.length : Int) by omega), g1]
        simp only [Bool.and_self, BEq.rfl, cond_true, Int.toNat_natCast]
        rw [asrt_pos ⟨by omega, by omega⟩]
        cases he : ((u.getD k default).Id == x)
        · simp only [cond_false, Option.bind_some]
          rw [wrap64_id (by omega) (by omega)]
          rfl
        · have he' := eq_of_beq he
          have hk' : (atC u x).toNat = k := by
            have := at_own c1 hk
            rw [he'] at this
            omega
          have hon : OnD (u.set (atC u x).toNat (standG 0 (u.getD (atC u x).toNat default))) x (u.getD k default).From = ((u.getD k default).Rights, true) := by
            unfold OnD
            rw [c3, a1, decide_eq_false c2, a2]
            unfold sumOn standG
            rw [hk'] at hc ⊢
            simp only
            rw [inR_true.2 (show 0 ≤ (u.getD k default).From ∧ (u.getD k default).From ≤ 20000 by omega), inR_true.2 (show (u.getD k default).From ≤ (u.getD k default).From ∧ (u.getD k default).From ≤ (u.getD k default).Until by omega)]
            rfl
          simp only [cond_true]
          rw [asrt_pos ⟨by omega, by omega⟩, c4, onDI _ _ _ hsb, hon, Option.bind_some, asrt_pos (fun _ => ⟨by omega, by omega⟩)]
          simp only [Bool.not_true, bne_self_eq_false, Bool.or_self, cond_false, Option.bind_some]
          rw [wrap64_id (by omega) (by omega)]
          rfl
      · unfold M.laws_FnRights_l0
        simp (disch := first | omega | (intros; simp only [decide_eq_true_eq, decide_eq_false_iff_not, Bool.not_eq_true, Bool.not_eq_false, Bool.not_true, Bool.not_false] at *; omega)) only [cast_succ, asrt_pos, wrap64_id, Option.bind_some, cond_true, cond_false, decide_eq_true, decide_eq_false, Int.toNat_natCast, Bool.not_true, Bool.not_false, Bool.and_true, Bool.true_and, Bool.and_false, Bool.false_and, Bool.or_true, Bool.true_or, Bool.or_false, Bool.false_or]
    · simp only [Bool.not_eq_true] at hgo
      refine iter_up (s := 0) (fun k => (k : Int)) 0 rfl (by omega) (fun k hk => absurd hk (Nat.not_lt_zero _)) ?_
      unfold M.laws_FnRights_l0
      dsimp only
      rw [Bool.and_assoc, hgo, Bool.and_false]
      rfl
  rw [hloop, Option.bind_some]
  dsimp only
  have d4 : T (M.spec_DrawIsClerk code) (fun r => r.Name.length ≤ 11) := by
    unfold M.spec_DrawIsClerk
    refine T_among hb good0c (by omega) (by simp) ?_
    intro x c1 _ h1
    refine (drawClerk hb h1 (by omega) _).then ?_
    rintro ⟨y, c2⟩ ⟨g1, _⟩
    exact T_ret g1
  refine d4.then ?_
  intro y hy
  have hS : M.spec_IsClerk y = some (clerkOk y) := by unfold M.spec_IsClerk; rw [clerkS y (by omega)]; rfl
  rw [clerkI y (by omega), hS, Option.bind_some, Option.bind_some, beq_self_eq_true]
  exact T_ret rfl
end Go.Proofs.YthffmnpbonkpaaaDoor
