/-
  Cartons: lists to pull, loads of rooms, empty cartons, what is free. Plain.
-/
import Derived.Test.YtfebeomnlkfgoaaEa
set_option linter.unusedSimpArgs false
set_option linter.unusedVariables false
namespace Go.Proofs.Ytfebeomnlkfgoaa
open Go.VS

def atI (l : List Carton) (i : Int) : Carton := l.getD i.toNat default
structure PullS (l : List Carton) (files : List Int) (k : Nat) (I : List Int) : Prop where
  nd : I.Nodup
  mem : ∀ x, x ∈ I ↔ ∃ j, j < k ∧ idx l (files.getD j default) = x
  ok : ∀ j, j < k → 0 ≤ idx l (files.getD j default)
theorem PullS.bd {l : List Carton} {files : List Int} {k : Nat} {I : List Int} (h : PullS l files k I) : ∀ i ∈ I, 0 ≤ i ∧ i < (l.length : Int) := by
  intro i hi
  obtain ⟨j, hj, rfl⟩ := (h.mem i).1 hi
  exact ⟨h.ok j hj, idx_bd.2⟩
theorem PullS.nil {l : List Carton} {files : List Int} : PullS l files 0 [] := ⟨List.Pairwise.nil, fun x => by simp, fun j h => absurd h (Nat.not_lt_zero _)⟩
theorem PullS.step {l : List Carton} {files : List Int} {k : Nat} {I J : List Int} (h : PullS l files k I) (h0 : 0 ≤ idx l (files.getD k default)) (hn : J.Nodup) (hm : ∀ x, x ∈ J ↔ x = idx l (files.getD k default) ∨ x ∈ I) : PullS l files (k + 1) J := by
  refine ⟨hn, fun x => (hm x).trans ?_, fun j hj => ?_⟩
  · rw [h.mem]
    constructor
    · rintro (e | ⟨j, hj, e⟩)
      · exact ⟨k, by omega, e.symm⟩
      · exact ⟨j, by omega, e⟩
    · rintro ⟨j, hj, e⟩
      by_cases q : j = k
      · subst q; exact .inl e.symm
      · exact .inr ⟨j, by omega, e⟩
  · by_cases q : j = k
    · subst q; exact h0
    · exact h.ok j (by omega)

theorem id_inj {l : List Carton} (h : GoodP l) {i j : Int} (hi : 0 ≤ i ∧ i < (l.length : Int)) (hj : 0 ≤ j ∧ j < (l.length : Int)) (e : (atI l i).Id = (atI l j).Id) : i = j := by
  unfold atI at e
  rcases Nat.lt_trichotomy i.toNat j.toNat with q | q | q
  · have := h.up _ _ q (by omega); omega
  · omega
  · have := h.up _ _ q (by omega); omega
theorem any_ids {l : List Carton} (h : GoodP l) {I : List Int} (hI : ∀ i ∈ I, 0 ≤ i ∧ i < (l.length : Int)) {x : Int} (hx : 0 ≤ x ∧ x < (l.length : Int)) : ((I.map (atI l)).any fun c => c.Id == (atI l x).Id) = I.any fun y => y == x := by
  rw [Bool.eq_iff_iff, List.any_eq_true, List.any_eq_true]
  constructor
  · rintro ⟨c, hc, e⟩
    obtain ⟨i, hi, rfl⟩ := List.mem_map.1 hc
    exact ⟨i, hi, by rw [beq_iff_eq]; exact id_inj h (hI i hi) hx (eq_of_beq e)⟩
  · rintro ⟨y, hy, e⟩
    rw [beq_iff_eq] at e
    subst e
    exact ⟨_, List.mem_map.2 ⟨y, hy, rfl⟩, beq_self_eq_true _⟩
theorem mem_any {I : List Int} {x : Int} : (I.any fun y => y == x) = true ↔ x ∈ I := by
  rw [List.any_eq_true]
  constructor
  · rintro ⟨y, hy, e⟩; rw [beq_iff_eq] at e; exact e ▸ hy
  · intro h; exact ⟨x, h, beq_self_eq_true _⟩
theorem PullS.len {l : List Carton} {files : List Int} {k : Nat} {I : List Int} (h : PullS l files k I) : I.length ≤ l.length := by
  have key : ∀ (m : Nat) (J : List Int), J.Nodup → (∀ x ∈ J, 0 ≤ x ∧ x < (m : Int)) → J.length ≤ m := by
    intro m
    induction m with
    | zero =>
      intro J _ hJ
      cases J with
      | nil => simp
      | cons x t => have := hJ x (by simp); omega
    | succ m ih =>
      intro J hn hJ
      have h1 := ih (J.erase (m : Int)) (hn.erase _) (fun x hx => by
        have h2 := (hn.mem_erase_iff).1 hx
        have := hJ x h2.2
        omega)
      by_cases hm : (m : Int) ∈ J
      · rw [List.length_erase_of_mem hm] at h1; omega
      · rw [List.erase_of_not_mem hm] at h1; omega
  exact key _ _ h.nd h.bd

/-- What is left of a search that does not find. -/
def Miss (l : List Carton) (files : List Int) : Prop := ∃ j, j < files.length ∧ idx l (files.getD j default) < 0

/-! ### The order of a list to pull -/
def sel (l : List Carton) (I : List Int) (r s : Int) : List Int := I.filter fun i => ((atI l i).Room == r) && ((atI l i).Shelf == s)
def seg (l : List Carton) (I : List Int) (r s : Int) : List Int := (sel l I r s).map fun i => (atI l i).Id
def segs (l : List Carton) (I : List Int) (r : Int) (n : Nat) : List Int := (List.range n).flatMap fun s : Nat => seg l I r ((s : Int) + 1)
def outs (l : List Carton) (I : List Int) (n : Nat) : List Int := (List.range n).flatMap fun r : Nat => segs l I ((r : Int) + 1) 30
theorem seg_len {l : List Carton} {I : List Int} {r s : Int} : (seg l I r s).length ≤ I.length := by
  unfold seg sel
  rw [List.length_map]
  exact List.length_filter_le _ _
theorem segs_len {l : List Carton} {I : List Int} {r : Int} : ∀ n, (segs l I r n).length ≤ n * I.length
  | 0 => by simp [segs]
  | n + 1 => by
    have h1 := segs_len (l := l) (I := I) (r := r) n
    have h2 := seg_len (l := l) (I := I) (r := r) (s := (n : Int) + 1)
    unfold segs at h1 ⊢
    rw [List.range_succ, List.flatMap_append, List.length_append, Nat.succ_mul]
    simp only [List.flatMap_cons, List.flatMap_nil, List.append_nil]
    omega
theorem outs_len {l : List Carton} {I : List Int} : ∀ n, (outs l I n).length ≤ n * (30 * I.length)
  | 0 => by simp [outs]
  | n + 1 => by
    have h1 := outs_len (l := l) (I := I) n
    have h2 := segs_len (l := l) (I := I) (r := (n : Int) + 1) 30
    unfold outs at h1 ⊢
    rw [List.range_succ, List.flatMap_append, List.length_append, Nat.succ_mul]
    simp only [List.flatMap_cons, List.flatMap_nil, List.append_nil]
    omega
def keyL (l : List Carton) (i : Int) : Int := keyC (atI l i)
def outK (l : List Carton) (I : List Int) : List Int := (List.range 9).flatMap fun r : Nat => (List.range 30).flatMap fun s : Nat => (sel l I ((r : Int) + 1) ((s : Int) + 1)).map (keyL l)
theorem outs_key {l : List Carton} (hP : GoodP l) {I : List Int} (hI : ∀ i ∈ I, 0 ≤ i ∧ i < (l.length : Int)) : outs l I 9 = (outK l I).map (· % 100) := by
  unfold outs outK segs seg
  rw [List.map_flatMap]
  congr 1
  funext r
  rw [List.map_flatMap]
  congr 1
  funext s
  rw [List.map_map]
  refine List.map_congr_left fun i hi => ?_
  have := hI i (List.mem_filter.1 hi).1
  exact (key_id (hP.elt this.1 this.2)).symm
theorem outK_mem {l : List Carton} (hP : GoodP l) {I : List Int} (hI : ∀ i ∈ I, 0 ≤ i ∧ i < (l.length : Int)) {x : Int} : x ∈ outK l I ↔ ∃ i ∈ I, keyL l i = x := by
  unfold outK
  simp only [List.mem_flatMap, List.mem_range, List.mem_map]
  constructor
  · rintro ⟨r, _, s, _, i, hi, e⟩
    exact ⟨i, (List.mem_filter.1 hi).1, e⟩
  · rintro ⟨i, hi, e⟩
    have hb := hI i hi
    obtain ⟨_, h2, h3, _⟩ := goodOne_spec (hP.elt hb.1 hb.2)
    have h2 : 1 ≤ (atI l i).Room ∧ (atI l i).Room ≤ 9 := h2
    have h3 : 1 ≤ (atI l i).Shelf ∧ (atI l i).Shelf ≤ 30 := h3
    refine ⟨((atI l i).Room - 1).toNat, by omega, ((atI l i).Shelf - 1).toNat, by omega, i, List.mem_filter.2 ⟨hi, ?_⟩, e⟩
    rw [Bool.and_eq_true, beq_iff_eq, beq_iff_eq]
    omega
theorem outK_up {l : List Carton} (hP : GoodP l) {I : List Int} (hI : ∀ i ∈ I, 0 ≤ i ∧ i < (l.length : Int)) (hs : I.Pairwise (· < ·)) : (outK l I).Pairwise (· < ·) := by
  have val : ∀ (r s : Nat) (x : Int), x ∈ (sel l I ((r : Int) + 1) ((s : Int) + 1)).map (keyL l) → ((r : Int) + 1) * 10000 + ((s : Int) + 1) * 100 + 1 ≤ x ∧ x ≤ ((r : Int) + 1) * 10000 + ((s : Int) + 1) * 100 + 99 := by
    intro r s x hx
    obtain ⟨i, hi, rfl⟩ := List.mem_map.1 hx
    obtain ⟨h1, h2⟩ := List.mem_filter.1 hi
    have hb := hI i h1
    have h4 := (goodOne_spec (hP.elt hb.1 hb.2)).1
    have h4 : 1 ≤ (atI l i).Id ∧ (atI l i).Id ≤ 99 := h4
    rw [Bool.and_eq_true, beq_iff_eq, beq_iff_eq] at h2
    unfold keyL keyC
    rw [h2.1, h2.2]
    omega
  unfold outK
  rw [List.pairwise_flatMap]
  refine ⟨fun r hr => ?_, ?_⟩
  · rw [List.pairwise_flatMap]
    refine ⟨fun s hs2 => ?_, ?_⟩
    · rw [List.pairwise_map]
      refine List.Pairwise.imp_of_mem ?_ (hs.sublist List.filter_sublist)
      intro i j hi hj hij
      obtain ⟨i1, i2⟩ := List.mem_filter.1 hi
      obtain ⟨j1, j2⟩ := List.mem_filter.1 hj
      rw [Bool.and_eq_true, beq_iff_eq, beq_iff_eq] at i2 j2
      have bi := hI i i1
      have bj := hI j j1
      have := hP.up i.toNat j.toNat (by omega) (by omega)
      have : (atI l i).Id < (atI l j).Id := this
      unfold keyL keyC
      rw [i2.1, i2.2, j2.1, j2.2]
      omega
    · refine List.pairwise_lt_range.imp ?_
      intro a b hab x hx y hy
      have := val r a x hx
      have := val r b y hy
      omega
  · refine List.Pairwise.imp_of_mem ?_ List.pairwise_lt_range
    intro a b ha hb hab x hx y hy
    obtain ⟨s1, hs1, hx⟩ := List.mem_flatMap.1 hx
    obtain ⟨s2, hs2, hy⟩ := List.mem_flatMap.1 hy
    have := val a s1 x hx
    have := val b s2 y hy
    have := List.mem_range.1 hs1
    have := List.mem_range.1 hs2
    omega

theorem key_inj {l : List Carton} (hP : GoodP l) {i j : Int} (hi : 0 ≤ i ∧ i < (l.length : Int)) (hj : 0 ≤ j ∧ j < (l.length : Int)) (e : keyL l i = keyL l j) : i = j := by
  refine id_inj hP hi hj ?_
  have h1 := key_id (hP.elt hi.1 hi.2)
  have h2 := key_id (hP.elt hj.1 hj.2)
  unfold keyL atI at e
  unfold atI
  rw [← h1, ← h2, e]

/-- Both orders are one. -/
theorem order_same {l : List Carton} (hP : GoodP l) {files : List Int} {n : Nat} {I J : List Int} (hI : PullS l files n I) (hJ : PullS l files n J) (hs : J.Pairwise (· < ·)) : (srtC keyC (I.map (atI l))).map (·.Id) = outs l J 9 := by
  have hg : ∀ c ∈ srtC keyC (I.map (atI l)), goodOne c = true := by
    intro c hc
    obtain ⟨i, hi, rfl⟩ := List.mem_map.1 ((srtC_ok _ _).1.mem_iff.1 hc)
    exact hP.elt (hI.bd i hi).1 (hI.bd i hi).2
  have e1 : (srtC keyC (I.map (atI l))).map (·.Id) = ((srtC keyC (I.map (atI l))).map keyC).map (· % 100) := by
    rw [List.map_map]
    exact List.map_congr_left fun c hc => (key_id (hg c hc)).symm
  rw [e1, outs_key hP hJ.bd]
  congr 1
  have hperm : List.Perm ((srtC keyC (I.map (atI l))).map keyC) (I.map (keyL l)) := by
    have := (srtC_ok keyC (I.map (atI l))).1.map keyC
    rw [List.map_map] at this
    exact this
  have hnd : (I.map (keyL l)).Nodup := by
    unfold List.Nodup
    rw [List.pairwise_map]
    exact List.Pairwise.imp_of_mem (fun {a b} ha hb hab e => hab (key_inj hP (hI.bd a ha) (hI.bd b hb) e)) hI.nd
  have hup : ((srtC keyC (I.map (atI l))).map keyC).Pairwise (· < ·) := by
    have h1 : ((srtC keyC (I.map (atI l))).map keyC).Pairwise (· ≤ ·) := by
      rw [List.pairwise_map]; exact (srtC_ok _ _).2
    have h2 : ((srtC keyC (I.map (atI l))).map keyC).Pairwise (· ≠ ·) := hperm.nodup_iff.2 hnd
    exact (h1.and h2).imp fun h => by omega
  refine strict_ext hup (outK_up hP hJ.bd hs) fun y => ?_
  rw [hperm.mem_iff, outK_mem hP hJ.bd, List.mem_map]
  constructor
  · rintro ⟨i, hi, e⟩; exact ⟨i, (hJ.mem i).2 ((hI.mem i).1 hi), e⟩
  · rintro ⟨i, hi, e⟩; exact ⟨i, (hI.mem i).2 ((hJ.mem i).1 hi), e⟩

theorem file_rng {l : List Carton} (hP : GoodP l) {f : Int} (h : 0 ≤ idx l f) : 1 ≤ f ∧ f ≤ 999 := by
  have h1 : l.any (hasF f) = true := by
    have := firstAt_neg (p := hasF f) (l := l)
    unfold idx at h
    rw [decide_eq_false (by omega)] at this
    simpa using this.symm
  obtain ⟨g0, g1, g2, g3⟩ := firstAt_at h1
  have h5 := (goodOne_spec (hP.gd _ g1)).2.2.2.2.1
  rw [← ris_eq, Bool.and_eq_true, Bool.not_eq_true', List.any_eq_false] at h5
  unfold hasF at g3
  obtain ⟨x, hx, e⟩ := List.any_eq_true.1 g3
  rw [beq_iff_eq] at e
  have := h5.2 x hx
  rw [Bool.not_eq_true', Bool.not_eq_false, inB_true] at this
  omega

/-! ### Empty cartons, free shelves -/
def EmptyD (l : List Carton) : List Int × Bool := bif good l then ((l.filter fun c => (c.Files.length : Int) == 0).map (·.Id), true) else ([], false)
theorem EmptyD_len {l : List Carton} (hl : Small l) : (EmptyD l).1.length < 100000000 := by
  unfold EmptyD
  have h1 := List.length_filter_le (fun c : Carton => (c.Files.length : Int) == 0) l
  have := hl.1
  cases good l
  · simp
  · rw [cond_true]; simp only [List.length_map]; omega

def FreeD (l : List Carton) (r s : Int) : Int × Bool := bif good l && (inB r 1 9 && inB s 1 30) then (100 - taken l r s, true) else (0, false)
/-- The best shelf is the fullest of those that have room. -/
theorem bs_best (l : List Carton) (r t : Int) : ∀ k : Nat, (bs l r t k = 0 ∧ ∀ s : Nat, 1 ≤ s → s ≤ k → ¬ taken l r (s : Int) + t ≤ 100) ∨ (1 ≤ bs l r t k ∧ bs l r t k ≤ k ∧ taken l r (bs l r t k) + t ≤ 100 ∧ ∀ s : Nat, 1 ≤ s → s ≤ k → taken l r (s : Int) + t ≤ 100 → taken l r (s : Int) ≤ taken l r (bs l r t k))
  | 0 => .inl ⟨rfl, fun s h1 h2 => by omega⟩
  | k + 1 => by
    have ih := bs_best l r t k
    by_cases hc : taken l r (k + 1 : Nat) + t ≤ 100 ∧ (bs l r t k = 0 ∨ taken l r (k + 1 : Nat) > taken l r (bs l r t k))
    · have e : bs l r t (k + 1) = (k + 1 : Nat) := by rw [bs, if_pos hc]
      rw [e]
      refine .inr ⟨by omega, by omega, hc.1, fun s h1 h2 h3 => ?_⟩
      by_cases q : s = k + 1
      · subst q; exact Int.le_refl _
      · rcases ih with ⟨_, g⟩ | ⟨g1, _, _, g⟩
        · exact absurd h3 (g s h1 (by omega))
        · have := g s h1 (by omega) h3
          rcases hc.2 with z | z
          · omega
          · omega
    · have e : bs l r t (k + 1) = bs l r t k := by rw [bs, if_neg hc]
      rw [e]
      rcases ih with ⟨g0, g⟩ | ⟨g1, g2, g3, g⟩
      · refine .inl ⟨g0, fun s h1 h2 h3 => ?_⟩
        by_cases q : s = k + 1
        · subst q; exact hc ⟨h3, .inl g0⟩
        · exact g s h1 (by omega) h3
      · refine .inr ⟨g1, by omega, g3, fun s h1 h2 h3 => ?_⟩
        by_cases q : s = k + 1
        · subst q
          by_cases z : taken l r (k + 1 : Nat) > taken l r (bs l r t k)
          · exact absurd ⟨h3, .inr z⟩ hc
          · omega
        · exact g s h1 (by omega) h3

/-! ### Loads of rooms -/
def roomStep (r : Int) (a : Int × Int) (c : Carton) : Int × Int := bif c.Room == r then (a.1 + 1, a.2 + c.Thick) else a
def roomF (l : List Carton) (r : Int) : Int × Int := l.foldl (roomStep r) (0, 0)
def rowOf (l : List Carton) (r : Nat) : List (List Int) := bif decide ((roomF l ((r : Int) + 1)).1 > 0) then [[(r : Int) + 1, (roomF l ((r : Int) + 1)).1, (roomF l ((r : Int) + 1)).2]] else []
def rowsF (l : List Carton) (n : Nat) : List (List Int) := (List.range n).flatMap (rowOf l)
theorem roomStep_bd {r : Int} {a : Int × Int} {c : Carton} {k : Nat} (hc : 0 ≤ c.Thick ∧ c.Thick ≤ 40) (h : (0 ≤ a.1 ∧ a.1 ≤ (k : Int)) ∧ 0 ≤ a.2 ∧ a.2 ≤ 40 * (k : Int)) : (0 ≤ (roomStep r a c).1 ∧ (roomStep r a c).1 ≤ ((k + 1 : Nat) : Int)) ∧ 0 ≤ (roomStep r a c).2 ∧ (roomStep r a c).2 ≤ 40 * ((k + 1 : Nat) : Int) := by
  unfold roomStep
  cases c.Room == r
  · rw [cond_false]; omega
  · rw [cond_true]; simp only; omega
theorem roomF_bd {l : List Carton} {r : Int} (hT : Thin l) : 0 ≤ (roomF l r).1 ∧ (roomF l r).1 ≤ (l.length : Int) := by
  have key : ∀ (m : List Carton) (a : Int × Int) (k : Nat), (∀ c ∈ m, 0 ≤ c.Thick ∧ c.Thick ≤ 40) → ((0 ≤ a.1 ∧ a.1 ≤ (k : Int)) ∧ 0 ≤ a.2 ∧ a.2 ≤ 40 * (k : Int)) → 0 ≤ (m.foldl (roomStep r) a).1 ∧ (m.foldl (roomStep r) a).1 ≤ ((k + m.length : Nat) : Int) := by
    intro m
    induction m with
    | nil => intro a k _ h; exact h.1
    | cons c m ih =>
      intro a k hm h
      rw [List.foldl_cons]
      have := ih _ (k + 1) (fun c hc => hm c (by simp [hc])) (roomStep_bd (r := r) (hm c (by simp)) h)
      rw [List.length_cons]
      omega
  have := key l (0, 0) 0 hT.2 (by simp)
  rw [Nat.zero_add] at this
  exact this
theorem rowsF_len {l : List Carton} : ∀ n, (rowsF l n).length ≤ n
  | 0 => by simp [rowsF]
  | n + 1 => by
    have h1 := rowsF_len (l := l) n
    have h2 : (rowOf l n).length ≤ 1 := if_len _ _
    unfold rowsF at h1 ⊢
    rw [List.range_succ, List.flatMap_append, List.length_append]
    simp only [List.flatMap_cons, List.flatMap_nil, List.append_nil]
    omega
def LoadD (l : List Carton) : List (List Int) × Bool := bif good l then (rowsF l 9, true) else ([], false)
/-- Each carton is in one room. -/
def rc (r : Int) : List Carton → Int
  | [] => 0
  | c :: t => (if c.Room = r then 1 else 0) + rc r t
theorem roomF_rc {l : List Carton} {r : Int} : (roomF l r).1 = rc r l := by
  have key : ∀ (m : List Carton) (a : Int × Int), (m.foldl (roomStep r) a).1 = a.1 + rc r m := by
    intro m
    induction m with
    | nil => intro a; simp [rc]
    | cons c m ih =>
      intro a
      rw [List.foldl_cons, ih]
      rw [show rc r (c :: m) = (if c.Room = r then 1 else 0) + rc r m from rfl]
      unfold roomStep
      by_cases h : c.Room = r
      · rw [show (c.Room == r) = true by simp [h], cond_true, if_pos h]; simp only; omega
      · rw [show (c.Room == r) = false by simp [h], cond_false, if_neg h]; omega
  have := key l (0, 0)
  unfold roomF
  rw [this]
  simp
theorem rc_sum : ∀ (l : List Carton), (∀ c ∈ l, 1 ≤ c.Room ∧ c.Room ≤ 9) → rc 1 l + rc 2 l + rc 3 l + rc 4 l + rc 5 l + rc 6 l + rc 7 l + rc 8 l + rc 9 l = (l.length : Int)
  | [], _ => rfl
  | c :: t, h => by
    have ih := rc_sum t (fun x hx => h x (by simp [hx]))
    have hc := h c (by simp)
    simp only [rc, List.length_cons]
    rcases (by omega : c.Room = 1 ∨ c.Room = 2 ∨ c.Room = 3 ∨ c.Room = 4 ∨ c.Room = 5 ∨ c.Room = 6 ∨ c.Room = 7 ∨ c.Room = 8 ∨ c.Room = 9) with e | e | e | e | e | e | e | e | e <;> rw [e] <;> simp <;> omega
def cntR (a : Int) (row : List Int) : Int := a + row.getD 1 default
theorem rowOf_cnt {l : List Carton} {a : Int} {k : Nat} (hT : Thin l) : (rowOf l k).foldl cntR a = a + rc ((k : Int) + 1) l := by
  have hb := roomF_bd (r := (k : Int) + 1) hT
  rw [← roomF_rc]
  unfold rowOf
  cases h : decide ((roomF l ((k : Int) + 1)).1 > 0)
  · simp only [decide_eq_false_iff_not] at h
    rw [cond_false]
    show a = _
    omega
  · rfl
theorem rows_cnt {l : List Carton} (hT : Thin l) (hR : ∀ c ∈ l, 1 ≤ c.Room ∧ c.Room ≤ 9) : (rowsF l 9).foldl cntR 0 = (l.length : Int) := by
  rw [← rc_sum l hR]
  show ((List.range 9).flatMap (rowOf l)).foldl cntR 0 = _
  rw [show List.range 9 = [0, 1, 2, 3, 4, 5, 6, 7, 8] from rfl]
  simp only [List.flatMap_cons, List.flatMap_nil, List.append_nil, List.foldl_append, rowOf_cnt hT]
  simp only [Int.zero_add]
  rfl
end Go.Proofs.Ytfebeomnlkfgoaa
