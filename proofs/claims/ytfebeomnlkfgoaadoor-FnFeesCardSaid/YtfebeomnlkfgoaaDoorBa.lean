/-
  Bills: fees, what is open, payments; the plain law of 'payments'. Plain.
-/
import Derived.Test.YtfebeomnlkfgoaaDoorTc
import Derived.Test.YtfebeomnlkfgoaaDoorHa
set_option linter.unusedSimpArgs false
set_option linter.unusedVariables false
namespace Go.Proofs.YtfebeomnlkfgoaaDoor
open Go.VS

theorem mul_bd {a b A B : Int} (h1 : 0 ≤ a) (h2 : a ≤ A) (h3 : 0 ≤ b) (h4 : b ≤ B) : 0 ≤ a * b ∧ a * b ≤ A * B :=
  ⟨Int.mul_nonneg h1 h3, Int.mul_le_mul h2 h4 h3 (by omega)⟩
theorem bif_max0 {x : Int} : (bif decide (x < 0) then (0 : Int) else x) = max x 0 := by
  by_cases h : x < 0
  · rw [decide_eq_true h, cond_true]; omega
  · rw [decide_eq_false h, cond_false]; omega
theorem bif_min {x y : Int} : (bif decide (y < x) then y else x) = min x y := by
  by_cases h : y < x
  · rw [decide_eq_true h, cond_true]; omega
  · rw [decide_eq_false h, cond_false]; omega
theorem mostS (a b : Int) : M.spec_l1Most a b = some (max a b) := by
  unfold M.spec_l1Most
  by_cases h : a > b
  · rw [decide_eq_true h, cond_true]; congr 1; omega
  · rw [decide_eq_false h, cond_false]; congr 1; omega
theorem leastS (a b : Int) : M.spec_l1Least a b = some (min a b) := by
  unfold M.spec_l1Least
  by_cases h : a < b
  · rw [decide_eq_true h, cond_true]; congr 1; omega
  · rw [decide_eq_false h, cond_false]; congr 1; omega

/-! ### Tariffs and bills -/
def tarOk (t : Tariff) : Bool := ((inR t.Search 0 10000 && inR t.Page 0 1000) && inR t.Free 0 500) && inR t.Limit 0 1000000
theorem tarI (t : Tariff) : M.impl_IsTariff t = some (tarOk t) := by
  unfold M.impl_IsTariff M.impl_isCents tarOk
  simp only [withinI, Option.bind_some]
  cases inR t.Search 0 10000 <;> cases inR t.Page 0 1000 <;> cases inR t.Free 0 500 <;> rfl
theorem tarS (t : Tariff) : M.spec_l14Tariff t = some (tarOk t) := by
  unfold M.spec_l14Tariff M.spec_l14Cents tarOk
  simp only [l1InS, Option.bind_some]
  cases inR t.Search 0 10000 <;> cases inR t.Page 0 1000 <;> cases inR t.Free 0 500 <;> rfl
theorem centsI (n : Int) : M.impl_isCents n = some (inR n 0 1000000) := rfl
theorem centsS (n : Int) : M.spec_l14Cents n = some (inR n 0 1000000) := rfl
theorem tarOk_spec {t : Tariff} (h : tarOk t = true) : (0 ≤ t.Search ∧ t.Search ≤ 10000) ∧ (0 ≤ t.Page ∧ t.Page ≤ 1000) ∧ (0 ≤ t.Free ∧ t.Free ≤ 500) ∧ (0 ≤ t.Limit ∧ t.Limit ≤ 1000000) := by
  unfold tarOk at h
  simp only [Bool.and_eq_true, inR_true] at h
  exact ⟨h.1.1.1, h.1.1.2, h.1.2, h.2⟩

def billOk (b : Bill) : Bool := ((inR b.Id 1 999 && inR b.Hours 0 200) && inR b.Pages 0 5000) && inR b.Paid 0 1000000
theorem billI (b : Bill) : M.impl_isBill b = some (billOk b) := by
  unfold M.impl_isBill M.impl_isCents billOk
  simp only [withinI, Option.bind_some]
  cases inR b.Id 1 999 <;> cases inR b.Hours 0 200 <;> cases inR b.Pages 0 5000 <;> rfl
theorem billS (b : Bill) : M.spec_l14Bill b = some (billOk b) := by
  unfold M.spec_l14Bill M.spec_l14Cents billOk
  simp only [l1InS, Option.bind_some]
  cases inR b.Id 1 999 <;> cases inR b.Hours 0 200 <;> cases inR b.Pages 0 5000 <;> rfl
theorem billOk_spec {b : Bill} (h : billOk b = true) : (1 ≤ b.Id ∧ b.Id ≤ 999) ∧ (0 ≤ b.Hours ∧ b.Hours ≤ 200) ∧ (0 ≤ b.Pages ∧ b.Pages ≤ 5000) ∧ (0 ≤ b.Paid ∧ b.Paid ≤ 1000000) := by
  unfold billOk at h
  simp only [Bool.and_eq_true, inR_true] at h
  exact ⟨h.1.1.1, h.1.1.2, h.1.2, h.2⟩

def billsOk (l : List Bill) : Bool := rise (fun b => !billOk b) (fun a b => decide (a.Id ≥ b.Id)) l && decide (l.length ≤ 10)
theorem billsI (l : List Bill) (hl : l.length < 1000000) : M.impl_AreBills l = some (billsOk l) := by
  unfold M.impl_AreBills
  rw [iter_rise (n := l.length) (bad := riseB (fun b => !billOk b) (fun a b => decide (a.Id ≥ b.Id)) l) (by omega) (fun k hk => by
    unfold M.impl_AreBills_l0 riseB
    simp (disch := first | omega | (intros; simp only [decide_eq_true_eq, decide_eq_false_iff_not, Bool.not_eq_true, Bool.not_eq_false, Bool.not_true, Bool.not_false] at *; omega)) only [cast_succ, asrt_pos, wrap64_id, Option.bind_some, cond_true, cond_false, decide_eq_true, decide_eq_false, Int.toNat_natCast, Bool.not_true, Bool.not_false, Bool.and_true, Bool.true_and, Bool.and_false, Bool.false_and, Bool.or_true, Bool.true_or, Bool.or_false, Bool.false_or, billI, toNat_pred, bif_some]) (by
    unfold M.impl_AreBills_l0
    simp (disch := first | omega | (intros; simp only [decide_eq_true_eq, decide_eq_false_iff_not, Bool.not_eq_true, Bool.not_eq_false, Bool.not_true, Bool.not_false] at *; omega)) only [cast_succ, asrt_pos, wrap64_id, Option.bind_some, cond_true, cond_false, decide_eq_true, decide_eq_false, Int.toNat_natCast, Bool.not_true, Bool.not_false, Bool.and_true, Bool.true_and, Bool.and_false, Bool.false_and, Bool.or_true, Bool.true_or, Bool.or_false, Bool.false_or])]
  unfold billsOk rise
  rw [show decide ((l.length : Int) ≤ 10) = decide (l.length ≤ 10) by simp; omega]
  cases (List.range l.length).any _ <;> rfl
theorem billsS (l : List Bill) (hl : l.length < 1000000) : M.spec_l14Good l = some (billsOk l) := by
  unfold M.spec_l14Good
  rw [iter_rise (n := l.length) (bad := riseB (fun b => !billOk b) (fun a b => decide (a.Id ≥ b.Id)) l) (by omega) (fun k hk => by
    unfold M.spec_l14Good_l0 riseB
    simp (disch := first | omega | (intros; simp only [decide_eq_true_eq, decide_eq_false_iff_not, Bool.not_eq_true, Bool.not_eq_false, Bool.not_true, Bool.not_false] at *; omega)) only [cast_succ, asrt_pos, wrap64_id, Option.bind_some, cond_true, cond_false, decide_eq_true, decide_eq_false, Int.toNat_natCast, Bool.not_true, Bool.not_false, Bool.and_true, Bool.true_and, Bool.and_false, Bool.false_and, Bool.or_true, Bool.true_or, Bool.or_false, Bool.false_or, billS, toNat_pred, bif_some]) (by
    unfold M.spec_l14Good_l0
    simp (disch := first | omega | (intros; simp only [decide_eq_true_eq, decide_eq_false_iff_not, Bool.not_eq_true, Bool.not_eq_false, Bool.not_true, Bool.not_false] at *; omega)) only [cast_succ, asrt_pos, wrap64_id, Option.bind_some, cond_true, cond_false, decide_eq_true, decide_eq_false, Int.toNat_natCast, Bool.not_true, Bool.not_false, Bool.and_true, Bool.true_and, Bool.and_false, Bool.false_and, Bool.or_true, Bool.true_or, Bool.or_false, Bool.false_or])]
  unfold billsOk rise
  rw [show decide ((l.length : Int) ≤ 10) = decide (l.length ≤ 10) by simp; omega]
  cases (List.range l.length).any _ <;> rfl
theorem billsOk_spec {l : List Bill} (h : billsOk l = true) : l.length ≤ 10 ∧ (∀ b ∈ l, billOk b = true) ∧ ∀ j k, j < k → k < l.length → (l.getD j default).Id < (l.getD k default).Id := by
  unfold billsOk at h
  simp only [Bool.and_eq_true, decide_eq_true_eq] at h
  exact ⟨h.2, fun x hx => by simpa using rise_all h.1 x hx, rise_key h.1 (·.Id) (fun a b hab => by simp only [decide_eq_false_iff_not] at hab; omega)⟩
theorem billsOk_id {l : List Bill} (h : billsOk l = true) {j k : Nat} (hj : j < l.length) (hk : k < l.length) (e : (l.getD j default).Id = (l.getD k default).Id) : j = k := by
  have g := (billsOk_spec h).2.2
  rcases Nat.lt_trichotomy j k with q | q | q
  · have := g j k q hk; omega
  · exact q
  · have := g k j q hj; omega
/-- Valid bills with the same ids. -/
theorem billsOk_of {l m : List Bill} (h : billsOk l = true) (hm : m.length = l.length) (hb : ∀ j, j < l.length → billOk (m.getD j default) = true ∧ (m.getD j default).Id = (l.getD j default).Id) : billsOk m = true := by
  obtain ⟨h1, h2, h3⟩ := billsOk_spec h
  unfold billsOk
  simp only [Bool.and_eq_true, decide_eq_true_eq]
  refine ⟨rise_iff.2 ⟨fun k hk => ?_, fun k h0 hk => ?_⟩, by omega⟩
  · rw [(hb k (by omega)).1]; rfl
  · have := h3 (k - 1) k (by omega) (by omega)
    rw [decide_eq_false_iff_not, (hb (k - 1) (by omega)).2, (hb k (by omega)).2]
    omega

/-! ### Fees -/
def rawFee (t : Tariff) (b : Bill) : Int := if b.Public = true then max (b.Pages - t.Free) 0 * t.Page else max (b.Pages - t.Free) 0 * t.Page + b.Hours * t.Search
def feeOf (t : Tariff) (b : Bill) : Int := if b.Poor = true then min (rawFee t b) t.Limit / 2 else min (rawFee t b) t.Limit

theorem fee_parts {t : Tariff} {b : Bill} (ht : tarOk t = true) (hb : billOk b = true) : (0 ≤ max (b.Pages - t.Free) 0 * t.Page ∧ max (b.Pages - t.Free) 0 * t.Page ≤ 5000000) ∧ (0 ≤ b.Hours * t.Search ∧ b.Hours * t.Search ≤ 2000000) := by
  obtain ⟨h1, h2, h3, h4⟩ := tarOk_spec ht
  obtain ⟨g1, g2, g3, g4⟩ := billOk_spec hb
  have m1 := mul_bd (a := max (b.Pages - t.Free) 0) (b := t.Page) (A := 5000) (B := 1000) (by omega) (by omega) h2.1 h2.2
  have m2 := mul_bd (a := b.Hours) (b := t.Search) (A := 200) (B := 10000) g2.1 g2.2 h1.1 h1.2
  exact ⟨⟨m1.1, by have := m1.2; omega⟩, ⟨m2.1, by have := m2.2; omega⟩⟩
theorem rawFee_bd {t : Tariff} {b : Bill} (ht : tarOk t = true) (hb : billOk b = true) : 0 ≤ rawFee t b ∧ rawFee t b ≤ 7000000 := by
  obtain ⟨h1, h2⟩ := fee_parts ht hb
  unfold rawFee
  split <;> omega
theorem feeOf_bd {t : Tariff} {b : Bill} (ht : tarOk t = true) (hb : billOk b = true) : 0 ≤ feeOf t b ∧ feeOf t b ≤ 1000000 := by
  have h1 := rawFee_bd ht hb
  have h2 := (tarOk_spec ht).2.2.2
  unfold feeOf
  split <;> omega

theorem feeI (t : Tariff) (b : Bill) (ht : tarOk t = true) (hb : billOk b = true) : M.impl_Tariff_fee t b = some (feeOf t b) := by
  obtain ⟨h1, h2, h3, h4⟩ := tarOk_spec ht
  obtain ⟨g1, g2, g3, g4⟩ := billOk_spec hb
  obtain ⟨p1, p2⟩ := fee_parts ht hb
  have p3 := rawFee_bd ht hb
  unfold M.impl_Tariff_fee
  have e : (bif !b.Public then some (IntKind.i64.wrap (IntKind.i64.wrap ((bif decide (IntKind.i64.wrap (b.Pages - t.Free) < 0) then (0 : Int) else IntKind.i64.wrap (b.Pages - t.Free)) * t.Page) + IntKind.i64.wrap (b.Hours * t.Search))) else some (IntKind.i64.wrap ((bif decide (IntKind.i64.wrap (b.Pages - t.Free) < 0) then (0 : Int) else IntKind.i64.wrap (b.Pages - t.Free)) * t.Page))) = some (rawFee t b) := by
    rw [wrap64_id (n := b.Pages - t.Free) (by omega) (by omega), bif_max0, wrap64_id (n := max (b.Pages - t.Free) 0 * t.Page) (by omega) (by omega), wrap64_id (n := b.Hours * t.Search) (by omega) (by omega), wrap64_id (n := max (b.Pages - t.Free) 0 * t.Page + b.Hours * t.Search) (by omega) (by omega)]
    unfold rawFee
    cases b.Public <;> rfl
  rw [e, Option.bind_some]
  dsimp only
  rw [bif_min, Int.tdiv_eq_ediv_of_nonneg (by omega), wrap64_id (by omega) (by omega)]
  unfold feeOf
  cases b.Poor <;> rfl

theorem feeS (t : Tariff) (b : Bill) (ht : tarOk t = true) (hb : billOk b = true) : M.spec_l14Fee t b = some (feeOf t b) := by
  obtain ⟨h1, h2, h3, h4⟩ := tarOk_spec ht
  obtain ⟨g1, g2, g3, g4⟩ := billOk_spec hb
  obtain ⟨p1, p2⟩ := fee_parts ht hb
  have p3 := rawFee_bd ht hb
  unfold M.spec_l14Fee
  rw [wrap64_id (n := b.Pages - t.Free) (by omega) (by omega), mostS, Option.bind_some, Int.max_comm 0]
  have e : (bif !b.Public then some (IntKind.i64.wrap (IntKind.i64.wrap (t.Page * max (b.Pages - t.Free) 0) + IntKind.i64.wrap (t.Search * b.Hours))) else some (IntKind.i64.wrap (t.Page * max (b.Pages - t.Free) 0))) = some (rawFee t b) := by
    rw [Int.mul_comm t.Page, Int.mul_comm t.Search, wrap64_id (n := max (b.Pages - t.Free) 0 * t.Page) (by omega) (by omega), wrap64_id (n := b.Hours * t.Search) (by omega) (by omega), wrap64_id (n := max (b.Pages - t.Free) 0 * t.Page + b.Hours * t.Search) (by omega) (by omega)]
    unfold rawFee
    cases b.Public <;> rfl
  rw [e, Option.bind_some]
  dsimp only
  rw [leastS, Option.bind_some, Int.tdiv_eq_ediv_of_nonneg (by omega), wrap64_id (by omega) (by omega)]
  unfold feeOf
  cases b.Poor <;> rfl

def openOf (t : Tariff) (b : Bill) : Int := max (feeOf t b - b.Paid) 0
theorem openOf_bd {t : Tariff} {b : Bill} (ht : tarOk t = true) (hb : billOk b = true) : 0 ≤ openOf t b ∧ openOf t b ≤ 1000000 := by
  have h1 := feeOf_bd ht hb
  have h2 := (billOk_spec hb).2.2.2
  unfold openOf; omega

/-! ### What is open -/
theorem flatMap_one' {β γ : Type} (f : β → γ) (l : List β) : l.flatMap (fun x => [f x]) = l.map f := by
  induction l with
  | nil => rfl
  | cons x t ih => simp only [List.flatMap_cons, ih, List.map_cons]; rfl
def OpenD (t : Tariff) (l : List Bill) : List Int × Bool := bif tarOk t && billsOk l then (l.map (openOf t), true) else ([], false)

theorem OpenD_len {t : Tariff} {l : List Bill} (hl : l.length < 1000000) : (OpenD t l).1.length < 1000000 := by
  unfold OpenD
  cases tarOk t && billsOk l
  · simp
  · simpa using hl

/-! ### What is paid too much -/
def overB (t : Tariff) (a : List Int × Int) (b : Bill) : List Int × Int := bif decide (b.Paid - feeOf t b > 0) then (a.1 ++ [b.Id], a.2 + (b.Paid - feeOf t b)) else a
def OverD (t : Tariff) (l : List Bill) : List Int × Int × Bool := bif tarOk t && billsOk l then ((l.foldl (overB t) ([], 0)).1, (l.foldl (overB t) ([], 0)).2, true) else ([], 0, false)

theorem overB_spec (t : Tariff) : ∀ (l : List Bill) (a : List Int × Int), (l.foldl (overB t) a).1 = a.1 ++ (l.filter fun b => decide (b.Paid - feeOf t b > 0)).map (·.Id) ∧ (0 ≤ a.2 → 0 ≤ (l.foldl (overB t) a).2)
  | [], a => ⟨by simp, fun h => h⟩
  | b :: l, a => by
    rw [List.foldl_cons, List.filter_cons]
    obtain ⟨h1, h2⟩ := overB_spec t l (overB t a b)
    rw [h1]
    unfold overB at *
    cases h : decide (b.Paid - feeOf t b > 0)
    · rw [h] at h2
      exact ⟨by simp, h2⟩
    · rw [h] at h2
      simp only [decide_eq_true_eq] at h
      refine ⟨by simp, fun h0 => h2 ?_⟩
      simp only [cond_true]; omega

theorem overLoop (t : Tariff) (l : List Bill) (ht : tarOk t = true) (hl : billsOk l = true) {step : List Int × Int × Int → Option ((List Int × Int × Int) ⊕ (List Int × Int))}
    (hs : ∀ (a : List Int × Int) (k : Nat), k < l.length → a.1.length ≤ k → 0 ≤ a.2 ∧ a.2 ≤ k * 1000000 → billOk (l.getD k default) = true → step (a.1, a.2, (k : Int)) = some (.inl ((overB t a (l.getD k default)).1, (overB t a (l.getD k default)).2, ((k + 1 : Nat) : Int))))
    (he : ∀ (a : List Int × Int), step (a.1, a.2, (l.length : Int)) = some (.inr (a.1, a.2))) : iterO step ([], 0, 0) = some ((l.foldl (overB t) ([], 0)).1, (l.foldl (overB t) ([], 0)).2) := by
  obtain ⟨g1, g2, g3⟩ := billsOk_spec hl
  exact iter_fold (s := (([] : List Int), (0 : Int), (0 : Int))) (step := step) (fun a k => (a.1, a.2, (k : Int))) (overB t) (fun a => (a.1, a.2)) l ([], 0) (fun a k => a.1.length ≤ k ∧ 0 ≤ a.2 ∧ a.2 ≤ k * 1000000) rfl (by omega) ⟨by simp, by simp, by simp⟩
    (fun a k hk hI => by
      have h3 := g2 _ (getD_mem hk)
      refine ⟨hs a k hk hI.1 hI.2 h3, ?_⟩
      have h5 := feeOf_bd ht h3
      have h6 := (billOk_spec h3).2.2.2
      unfold overB
      by_cases h : (l.getD k default).Paid - feeOf t (l.getD k default) > 0
      · rw [decide_eq_true h]
        simp only [cond_true, List.length_append, List.length_singleton]
        omega
      · rw [decide_eq_false h]
        simp only [cond_false]
        omega)
    (fun a _ => he a)

theorem OverD_len {t : Tariff} {l : List Bill} (hl : l.length < 1000000) : (OverD t l).1.length < 1000000 := by
  unfold OverD
  cases tarOk t && billsOk l
  · simp
  · simp only [cond_true, (overB_spec t l _).1, List.nil_append, List.length_map]
    exact Nat.lt_of_le_of_lt (List.length_filter_le _ _) hl

/-! ### Lists compared and summed -/
/-! ### Paying one bill -/
def payB (id cents : Int) (b : Bill) : Bill := bif b.Id == id then ⟨b.Id, b.Hours, b.Pages, b.Poor, b.Public, b.Paid + cents⟩ else b
def PayD (l : List Bill) (id cents : Int) : List Bill × Bool := bif ((billsOk l && inR cents 0 1000000) && l.any fun b => b.Id == id) && billsOk (l.map (payB id cents)) then (l.map (payB id cents), true) else ([], false)

theorem PayD_len {l : List Bill} {id cents : Int} (hl : l.length < 1000000) : (PayD l id cents).1.length < 1000000 := by
  unfold PayD
  cases _ && _
  · simp
  · simpa using hl

end Go.Proofs.YtfebeomnlkfgoaaDoor
