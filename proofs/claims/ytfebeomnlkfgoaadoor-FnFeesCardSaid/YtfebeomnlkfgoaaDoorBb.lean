/-
  Payments that are spread over bills; the plain law of 'payments'. Plain.
-/
import Derived.Test.YtfebeomnlkfgoaaDoorBa
set_option linter.unusedSimpArgs false
set_option linter.unusedVariables false
namespace Go.Proofs.YtfebeomnlkfgoaaDoor
open Go.VS

/-! ### An order by insertion -/
/-- Where x goes into P: behind all whose key is not greater. -/
def insPos (key : Int → Int) (P : List Int) (x : Int) : Nat → Nat
  | 0 => 0
  | k + 1 => if key (P.getD k default) > key x then insPos key P x k else k + 1
def insK (key : Int → Int) (P : List Int) (x : Int) : List Int := P.take (insPos key P x P.length) ++ x :: P.drop (insPos key P x P.length)
def ordN (key : Int → Int) : Nat → List Int
  | 0 => []
  | n + 1 => insK key (ordN key n) (n : Int)

theorem insPos_le {key : Int → Int} {P : List Int} {x : Int} : ∀ k, insPos key P x k ≤ k
  | 0 => Nat.le_refl _
  | k + 1 => by
    unfold insPos
    split
    · exact Nat.le_trans (insPos_le k) (by omega)
    · exact Nat.le_refl _
theorem insK_perm {key : Int → Int} {P : List Int} {x : Int} : List.Perm (insK key P x) (x :: P) := by
  unfold insK
  refine List.perm_middle.trans ?_
  rw [List.take_append_drop]
theorem ordN_perm {key : Int → Int} : ∀ n, List.Perm (ordN key n) ((List.range n).map fun i : Nat => (i : Int))
  | 0 => List.Perm.refl _
  | n + 1 => by
    rw [List.range_succ, List.map_append]
    exact insK_perm.trans (((ordN_perm n).cons _).trans (List.perm_append_singleton _ _).symm)
theorem ordN_len {key : Int → Int} {n : Nat} : (ordN key n).length = n := by
  have := (ordN_perm (key := key) n).length_eq
  simpa using this
theorem ordN_mem {key : Int → Int} {n : Nat} {e : Int} : e ∈ ordN key n ↔ 0 ≤ e ∧ e < (n : Int) := by
  rw [(ordN_perm n).mem_iff, List.mem_map]
  constructor
  · rintro ⟨k, hk, rfl⟩
    have := List.mem_range.1 hk
    omega
  · intro h
    exact ⟨e.toNat, List.mem_range.2 (by omega), by omega⟩
theorem ordN_nodup {key : Int → Int} {n : Nat} : (ordN key n).Nodup := by
  rw [(ordN_perm n).nodup_iff]
  unfold List.Nodup
  rw [List.pairwise_map]
  exact (List.nodup_range (n := n)).imp (fun h e => h (by omega))

theorem slc0 {β : Type} (l : List β) (k : Nat) : slc l 0 (k : Int) = l.take k := by simp [slc]
theorem slcN {β : Type} (l : List β) (k : Nat) : slc l (k : Int) (l.length : Int) = l.drop k := by simp [slc]

theorem swap_at {p x : Int} {B : List Int} : ∀ A : List Int, (A ++ p :: x :: B).getD A.length default = p ∧ (A ++ p :: x :: B).getD (A.length + 1) default = x ∧ ((A ++ p :: x :: B).set (A.length + 1) p).set A.length x = A ++ x :: p :: B
  | [] => ⟨rfl, rfl, rfl⟩
  | a :: A => by
    obtain ⟨h1, h2, h3⟩ := swap_at (p := p) (x := x) (B := B) A
    refine ⟨?_, ?_, ?_⟩
    · simp
    · simp
    · simp

def idxs (n : Nat) : List Int := (List.range n).map fun i : Nat => (i : Int)
theorem idxs_len {n : Nat} : (idxs n).length = n := by simp [idxs]
theorem idxs_drop {n k : Nat} (h : k < n) : (idxs n).drop k = (k : Int) :: (idxs n).drop (k + 1) := by
  rw [List.drop_eq_getElem_cons (by rw [idxs_len]; exact h)]
  simp [idxs]

/-! ### The order of the bills -/
def keyOf (t : Tariff) (l : List Bill) (e : Int) : Int := (l.map (openOf t)).getD e.toNat default
theorem keyOf_eq {t : Tariff} {l : List Bill} {e : Int} (h : 0 ≤ e ∧ e < (l.length : Int)) : keyOf t l e = openOf t (l.getD e.toNat default) := by
  have : e.toNat < l.length := by omega
  unfold keyOf
  simp [List.getD, this]

/-! ### Spreading -/
def payN (b : Bill) (n : Int) : Bill := ⟨b.Id, b.Hours, b.Pages, b.Poor, b.Public, b.Paid + n⟩
def spreadB (key : Int → Int) (a : Int × List Bill) (e : Int) : Int × List Bill := (a.1 - min a.1 (key e), a.2.set e.toNat (payN (a.2.getD e.toNat default) (min a.1 (key e))))
/-- What is done behind k payments. -/
def stN (key : Int → Int) (order : List Int) (c : Int) (l : List Bill) (k : Nat) : Int × List Bill := (order.take k).foldl (spreadB key) (c, l)

def sumI : List Int → Int
  | [] => 0
  | x :: t => x + sumI t
theorem foldl_sumI : ∀ (l : List Int) (a : Int), l.foldl (· + ·) a = a + sumI l
  | [], a => by simp [sumI]
  | x :: t, a => by rw [List.foldl_cons, foldl_sumI t, sumI]; omega
theorem sumI_set : ∀ (l : List Int) (k : Nat) (v : Int), k < l.length → sumI (l.set k v) = sumI l - l.getD k default + v
  | [], k, v, h => absurd h (Nat.not_lt_zero _)
  | x :: t, 0, v, _ => by simp [sumI]; omega
  | x :: t, k + 1, v, h => by
    have := sumI_set t k v (by simpa using h)
    simp only [List.set_cons_succ, sumI, List.getD_cons_succ]
    omega
theorem sumI_bd : ∀ (l : List Int), (∀ x ∈ l, 0 ≤ x ∧ x ≤ 1000000) → 0 ≤ sumI l ∧ sumI l ≤ l.length * 1000000
  | [], _ => by simp [sumI]
  | x :: t, h => by
    have h1 := h x (by simp)
    have h2 := sumI_bd t (fun y hy => h y (by simp [hy]))
    simp only [sumI, List.length_cons]
    omega
theorem sumI_zero : ∀ (l : List Int), (∀ x ∈ l, x = 0) → sumI l = 0
  | [], _ => rfl
  | x :: t, h => by
    have h1 := h x (by simp)
    have h2 := sumI_zero t (fun y hy => h y (by simp [hy]))
    simp only [sumI]; omega

structure Inv (t : Tariff) (l : List Bill) (c0 : Int) (done : List Int) (a : Int × List Bill) : Prop where
  len : a.2.length = l.length
  c : 0 ≤ a.1 ∧ a.1 ≤ c0
  ok : ∀ j, j < l.length → billOk (a.2.getD j default) = true ∧ (a.2.getD j default).Id = (l.getD j default).Id
  same : ∀ j, j < l.length → (j : Int) ∉ done → a.2.getD j default = l.getD j default
  zero : a.1 > 0 → ∀ j, j < l.length → (j : Int) ∈ done → openOf t (a.2.getD j default) = 0
  sum : sumI (l.map (openOf t)) - sumI (a.2.map (openOf t)) = c0 - a.1

theorem getD_set {β : Type} [Inhabited β] {l : List β} {k j : Nat} {v : β} (hk : k < l.length) : (l.set k v).getD j default = if k = j then v else l.getD j default := by
  simp only [List.getD, List.getElem?_set]
  by_cases e : k = j
  · subst e; simp [hk]
  · simp [e]

theorem Inv.step {t : Tariff} {l : List Bill} {c0 : Int} {done : List Int} {a : Int × List Bill} (ht : tarOk t = true) (hc0 : c0 ≤ 1000000) (h : Inv t l c0 done a) (e : Int) (he : 0 ≤ e ∧ e < (l.length : Int)) (hd : e ∉ done) :
    openOf t (a.2.getD e.toNat default) = keyOf t l e ∧ billOk (a.2.getD e.toNat default) = true ∧ (0 ≤ min a.1 (keyOf t l e) ∧ min a.1 (keyOf t l e) ≤ 1000000) ∧ Inv t l c0 (done ++ [e]) (spreadB (keyOf t l) a e) := by
  have hk : e.toNat < l.length := by omega
  have hee : ((e.toNat : Nat) : Int) = e := by omega
  have hs := h.same e.toNat hk (by rw [hee]; exact hd)
  obtain ⟨hok, hid⟩ := h.ok e.toNat hk
  have hkey : openOf t (a.2.getD e.toNat default) = keyOf t l e := by rw [hs, keyOf_eq he]
  have hob := openOf_bd ht hok
  have hfb := feeOf_bd ht hok
  have hpb := billOk_spec hok
  have hc := h.c
  refine ⟨hkey, hok, by omega, ?_⟩
  obtain ⟨n, hn⟩ : ∃ n, min a.1 (keyOf t l e) = n := ⟨_, rfl⟩
  obtain ⟨b, hbd⟩ : ∃ b, a.2.getD e.toNat default = b := ⟨_, rfl⟩
  rw [hbd] at hkey hok hid hob hfb hpb hs
  have hfee : feeOf t (payN b n) = feeOf t b := rfl
  have hopen : openOf t (payN b n) = openOf t b - n := by
    have e1 : openOf t (payN b n) = max (feeOf t b - (b.Paid + n)) 0 := rfl
    have e2 : openOf t b = max (feeOf t b - b.Paid) 0 := rfl
    omega
  have hbok : billOk (payN b n) = true := by
    have e2 : openOf t b = max (feeOf t b - b.Paid) 0 := rfl
    unfold billOk
    simp only [Bool.and_eq_true, inR_true]
    exact ⟨⟨⟨hpb.1, hpb.2.1⟩, hpb.2.2.1⟩, by show 0 ≤ b.Paid + n; omega, by show b.Paid + n ≤ 1000000; omega⟩
  have hka : e.toNat < a.2.length := by rw [h.len]; exact hk
  unfold spreadB
  rw [hn, hbd]
  refine ⟨by simpa using h.len, by simp only; omega, fun j hj => ?_, fun j hj hm => ?_, fun hpos j hj hm => ?_, ?_⟩
  · simp only
    rw [getD_set hka]
    by_cases q : e.toNat = j
    · rw [if_pos q]; subst q
      exact ⟨hbok, hid⟩
    · rw [if_neg q]; exact h.ok j hj
  · simp only
    rw [getD_set hka]
    have q : e.toNat ≠ j := by
      intro q
      apply hm
      rw [List.mem_append]
      right
      rw [List.mem_singleton]; omega
    rw [if_neg q]
    exact h.same j hj (fun q => hm (List.mem_append_left _ q))
  · simp only at hpos ⊢
    rw [getD_set hka]
    by_cases q : e.toNat = j
    · rw [if_pos q, hopen]; omega
    · rw [if_neg q]
      refine h.zero (by omega) j hj ?_
      rcases List.mem_append.1 hm with q2 | q2
      · exact q2
      · rw [List.mem_singleton] at q2; omega
  · simp only
    rw [List.map_set, sumI_set _ _ _ (by simpa using hka)]
    have e3 : (a.2.map (openOf t)).getD e.toNat default = openOf t b := by
      rw [← hbd]
      simp [List.getD, hka]
    have := h.sum
    rw [e3, hopen]
    omega

theorem stN_inv (t : Tariff) (l : List Bill) (c : Int) (ht : tarOk t = true) (hl : billsOk l = true) (hc : 0 ≤ c ∧ c ≤ 1000000) : ∀ k, k ≤ l.length → Inv t l c ((ordN (keyOf t l) l.length).take k) (stN (keyOf t l) (ordN (keyOf t l) l.length) c l k)
  | 0, _ => ⟨rfl, by simp only [stN, List.take_zero, List.foldl_nil]; omega, fun j hj => ⟨(billsOk_spec hl).2.1 _ (getD_mem hj), rfl⟩, fun j _ _ => rfl, fun _ j _ hm => by simp at hm, by simp only [stN, List.take_zero, List.foldl_nil]; omega⟩
  | k + 1, hk => by
    have hk' : k < (ordN (keyOf t l) l.length).length := by rw [ordN_len]; omega
    have ih := stN_inv t l c ht hl hc k (by omega)
    have hm := ordN_mem.1 (getD_mem hk')
    have hnd : (ordN (keyOf t l) l.length).getD k default ∉ (ordN (keyOf t l) l.length).take k := by
      have h := ordN_nodup (key := keyOf t l) (n := l.length)
      rw [← List.take_append_drop (k + 1) (ordN (keyOf t l) l.length), take_succ_getD hk'] at h
      have h2 := (List.nodup_append.1 h).1
      intro hin
      exact (List.nodup_append.1 h2).2.2 _ hin _ (List.mem_singleton.2 rfl) rfl
    have := (ih.step ht hc.2 _ hm hnd).2.2.2
    rw [take_succ_getD hk']
    unfold stN at this ⊢
    rw [foldl_take hk']
    exact this

theorem stN_succ (key : Int → Int) (order : List Int) (c : Int) (l : List Bill) {k : Nat} (hk : k < order.length) : stN key order c l (k + 1) = spreadB key (stN key order c l k) (order.getD k default) := by
  unfold stN
  rw [foldl_take hk]

theorem spreadLoop (t : Tariff) (l : List Bill) (c : Int) (ht : tarOk t = true) (hl : billsOk l = true) (hc : 0 ≤ c ∧ c ≤ 1000000) {step : Int × List Bill × Int → Option ((Int × List Bill × Int) ⊕ (Int × List Bill))}
    (hs : ∀ (a : Int × List Bill) (k : Nat) (e : Int), k < l.length → (ordN (keyOf t l) l.length).getD k default = e → (0 ≤ e ∧ e < (l.length : Int)) → a.2.length = l.length → openOf t (a.2.getD e.toNat default) = keyOf t l e → billOk (a.2.getD e.toNat default) = true → (0 ≤ min a.1 (keyOf t l e) ∧ min a.1 (keyOf t l e) ≤ 1000000) → (0 ≤ a.1 ∧ a.1 ≤ 1000000) →
      step (a.1, a.2, (k : Int)) = some (.inl ((spreadB (keyOf t l) a e).1, (spreadB (keyOf t l) a e).2, ((k + 1 : Nat) : Int))))
    (he : ∀ a : Int × List Bill, step (a.1, a.2, (l.length : Int)) = some (.inr (a.1, a.2))) :
    iterO step (c, l, 0) = some ((stN (keyOf t l) (ordN (keyOf t l) l.length) c l l.length).1, (stN (keyOf t l) (ordN (keyOf t l) l.length) c l l.length).2) := by
  have h10 := (billsOk_spec hl).1
  refine iter_up (s := (c, l, (0 : Int))) (step := step) (fun k => ((stN (keyOf t l) (ordN (keyOf t l) l.length) c l k).1, (stN (keyOf t l) (ordN (keyOf t l) l.length) c l k).2, (k : Int))) l.length rfl (by omega) (fun k hk => ?_) (he _)
  have hk' : k < (ordN (keyOf t l) l.length).length := by rw [ordN_len]; omega
  have ih := stN_inv t l c ht hl hc k (by omega)
  have hm := ordN_mem.1 (getD_mem hk')
  have hnd : (ordN (keyOf t l) l.length).getD k default ∉ (ordN (keyOf t l) l.length).take k := by
    have h := ordN_nodup (key := keyOf t l) (n := l.length)
    rw [← List.take_append_drop (k + 1) (ordN (keyOf t l) l.length), take_succ_getD hk'] at h
    have h2 := (List.nodup_append.1 h).1
    intro hin
    exact (List.nodup_append.1 h2).2.2 _ hin _ (List.mem_singleton.2 rfl) rfl
  obtain ⟨q1, q2, q3, _⟩ := ih.step ht hc.2 _ hm hnd
  have hcc := ih.c
  rw [hs _ k _ hk rfl hm ih.len q1 q2 q3 (by omega), stN_succ _ _ _ _ hk']

def SpreadD (t : Tariff) (l : List Bill) (c : Int) : List Bill × Int × Bool :=
  bif (tarOk t && billsOk l) && inR c 0 1000000 then ((stN (keyOf t l) (ordN (keyOf t l) l.length) c l l.length).2, (stN (keyOf t l) (ordN (keyOf t l) l.length) c l l.length).1, true) else ([], 0, false)

theorem SpreadD_len {t : Tariff} {l : List Bill} {c : Int} (hl : l.length < 1000000) : (SpreadD t l c).1.length < 1000000 := by
  unfold SpreadD
  cases h1 : tarOk t
  · simp
  cases h2 : billsOk l
  · simp
  cases h3 : inR c 0 1000000
  · simp
  have := (stN_inv t l c h1 h2 (inR_true.1 h3) l.length (Nat.le_refl _)).len
  simp only [Bool.and_self, cond_true]
  omega

/-! ### Draws -/
theorem drawTariff {code : List Int} {k : Nat} {c : Cur} (hb : Bytes code) (h : Good code k c) (hk : k < 700000000) : T (M.spec_l1Cur_tariff c) (fun r => Good code (k + 20) r.2) := by
  unfold M.spec_l1Cur_tariff
  repeat' (first
    | ((with_reducible (refine T_pick hb (by assumption) ?_ ?_)); omega; intro x_ c_ hx1_ hx2_ hc_; try dsimp only)
    | ((with_reducible (refine T_among hb (by assumption) ?_ ?_ ?_)); omega; simp; intro x_ c_ hx_ hc_; try dsimp only)
    | ((with_reducible (refine T_one hb (by assumption) ?_ ?_)); omega; intro x_ c_ hc_; try dsimp only)
    | ((with_reducible (refine T_next hb (by assumption) ?_ ?_)); omega; intro x_ c_ hx_ hc_; try dsimp only)
    | ((with_reducible (refine T_ask ?_ ?_)); (first | omega | (simp at *; omega) | (intros; simp at *; omega)))
    | (with_reducible (refine T_if (fun hq_ => ?_) (fun hq_ => ?_)))
    | ((with_reducible (refine T_ret ?_)); try dsimp only)
    | (with_reducible (refine T_in ?_)))
  all_goals exact Good.up (by assumption) (by omega)

theorem drawBill {code : List Int} {k : Nat} {c : Cur} (hb : Bytes code) (h : Good code k c) (hk : k < 700000000) (id_ : Int) : T (M.spec_l1Cur_bill c id_) (fun r => Good code (k + 20) r.2) := by
  unfold M.spec_l1Cur_bill
  repeat' (first
    | ((with_reducible (refine T_pick hb (by assumption) ?_ ?_)); omega; intro x_ c_ hx1_ hx2_ hc_; try dsimp only)
    | ((with_reducible (refine T_among hb (by assumption) ?_ ?_ ?_)); omega; simp; intro x_ c_ hx_ hc_; try dsimp only)
    | ((with_reducible (refine T_one hb (by assumption) ?_ ?_)); omega; intro x_ c_ hc_; try dsimp only)
    | ((with_reducible (refine T_next hb (by assumption) ?_ ?_)); omega; intro x_ c_ hx_ hc_; try dsimp only)
    | ((with_reducible (refine T_ask ?_ ?_)); (first | omega | (simp at *; omega) | (intros; simp at *; omega)))
    | (with_reducible (refine T_if (fun hq_ => ?_) (fun hq_ => ?_)))
    | ((with_reducible (refine T_ret ?_)); try dsimp only)
    | (with_reducible (refine T_in ?_)))
  all_goals exact Good.up (by assumption) (by omega)

theorem drawBills {code : List Int} {k : Nat} {c : Cur} (hb : Bytes code) (h : Good code k c) (hk : k < 600000000) : T (M.spec_l1Cur_bills c) (fun r => r.1.length ≤ 20 ∧ Good code (k + 400) r.2) := by
  unfold M.spec_l1Cur_bills
  refine T_pick hb h (by omega) ?_
  intro n c1 _ hn h1
  have hn := hn (by omega)
  try dsimp only
  refine T.then (Q := fun r => r.1.length ≤ 6 ∧ Good code (k + 250) r.2.2) (T_iter (fun s => 0 ≤ s.2.2.1 ∧ (s.1.length : Int) + s.2.2.1 ≤ 6 ∧ Good code (k + 250 - 30 * s.2.2.1.toNat) s.2.2.2) (fun s => s.2.2.1.toNat) _ ⟨hn.1, by simp only [List.length_nil]; omega, h1.up (by simp only; omega)⟩ (by (first | omega | (simp only; omega) | (dsimp only; omega) | (simp; omega))) ?_) ?_
  · rintro ⟨l, i, n, c2⟩ ⟨g1, g2, g3⟩
    simp only at g1 g2 g3
    unfold M.spec_l1Cur_bills_l0
    try dsimp only
    refine T_if (fun hq => ?_) (fun hq => T_ret ⟨by simp only; omega, g3.up (by omega)⟩)
    simp only [decide_eq_true_eq] at hq
    refine T_pick hb g3 (by omega) ?_
    intro x c3 _ _ h2
    refine T_pick hb h2 (by omega) ?_
    intro y c4 _ _ h3
    refine (drawBill hb h3 (by omega) _).then ?_
    rintro ⟨b, c5⟩ h4
    simp only at h4
    refine T_ask (by simp; omega) (T_ret ?_)
    simp only [List.length_append, List.length_cons, List.length_nil]
    rw [wrap64_id (n := n - 1) (by omega) (by omega)]
    exact ⟨⟨by omega, by omega, h4.up (by omega)⟩, by omega⟩
  · rintro ⟨l, i, c2⟩ ⟨h2, h3⟩
    simp only at h2 h3
    refine T_one hb h3 (by omega) ?_
    intro b c3 h4
    try dsimp only
    refine T_if (fun _ => ?_) (fun _ => T_ret ⟨by simp only; omega, h4.up (by omega)⟩)
    refine T.then (Q := fun r => r.1.length ≤ 12 ∧ Good code (k + 300) r.2) (T_iter (fun s => s.1.length ≤ 12 ∧ Good code (k + 260 + 2 * s.1.length) s.2.2) (fun s => 12 - s.1.length) _ ⟨by simp only; omega, h4.up (by omega)⟩ (by simp only; omega) ?_) (fun r hr => T_ret ⟨Nat.le_trans hr.1 (by omega), hr.2.up (by omega)⟩)
    rintro ⟨m, i2, c4⟩ ⟨g1, g2⟩
    simp only at g1 g2
    unfold M.spec_l1Cur_bills_l1
    try dsimp only
    refine T_pick hb g2 (by omega) ?_
    intro y c5 _ y2 y3
    have := y2 (by omega)
    try dsimp only
    rw [wrap64_id (n := 10 + y) (by omega) (by omega)]
    refine T_if (fun hq => ?_) (fun hq => T_ret ⟨g1, y3.up (by omega)⟩)
    simp only [decide_eq_true_eq] at hq
    refine T_ask (by simp; omega) (T_ret ?_)
    simp only [List.length_append, List.length_cons, List.length_nil]
    exact ⟨⟨by omega, y3.up (by omega)⟩, by omega⟩

theorem drawCents {code : List Int} {k : Nat} {c : Cur} (hb : Bytes code) (h : Good code k c) (hk : k < 700000000) : T (M.spec_l1Cur_cents14 c) (fun r => Good code (k + 4) r.2) := by
  unfold M.spec_l1Cur_cents14
  refine T_pick hb h (by omega) ?_
  intro x c1 _ hx h1
  have hx := hx (by omega)
  try dsimp only
  have e1 : Int.tdiv x 11 = x / 11 := Int.tdiv_eq_ediv_of_nonneg hx.1
  rw [e1, wrap64_id (n := x / 11) (by omega) (by omega), wrap64_id (by omega) (by omega)]
  refine T_ask ⟨by omega, by omega, by simp; omega⟩ ?_
  refine T_among hb h1 (by omega) ?_ ?_
  · intro e
    have := congrArg List.length e
    simp [slc] at this
    omega
  · intro y c2 _ h2
    exact T_ret h2

theorem good0b {code : List Int} : Good code 0 (⟨code, 0, 0⟩ : Cur) := ⟨rfl, Int.le_refl _, Int.le_refl _⟩

/-! ### The law -/
end Go.Proofs.YtfebeomnlkfgoaaDoor
