/-
  Cartons: lists to pull, loads of rooms, empty cartons, what is free. Plain.
-/
import Derived.Test.YtfebeomnlkfgoaaEa
set_option linter.unusedSimpArgs false
set_option linter.unusedVariables false
namespace Go.Proofs.Ytfebeomnlkfgoaa
open Go.VS

def atI (l : List Carton) (i : Int) : Carton := l.getD i.toNat default
structure PullS (l : List Carton) (files : List Int) (k : Nat) (I : List Int) : Prop where
  nd : I.Nodup
  mem : ∀ x, x ∈ I ↔ ∃ j, j < k ∧ idx l (files.getD j default) = x
  ok : ∀ j, j < k → 0 ≤ idx l (files.getD j default)
theorem PullS.bd {l : List Carton} {files : List Int} {k : Nat} {I : List Int} (h : PullS l files k I) : ∀ i ∈ I, 0 ≤ i ∧ i < (l.length : Int) := by
  intro i hi
  obtain ⟨j, hj, rfl⟩ := (h.mem i).1 hi
  exact ⟨h.ok j hj, idx_bd.2⟩
theorem PullS.nil {l : List Carton} {files : List Int} : PullS l files 0 [] := ⟨List.Pairwise.nil, fun x => by simp, fun j h => absurd h (Nat.not_lt_zero _)⟩
theorem PullS.step {l : List Carton} {files : List Int} {k : Nat} {I J : List Int} (h : PullS l files k I) (h0 : 0 ≤ idx l (files.getD k default)) (hn : J.Nodup) (hm : ∀ x, x ∈ J ↔ x = idx l (files.getD k default) ∨ x ∈ I) : PullS l files (k + 1) J := by
  refine ⟨hn, fun x => (hm x).trans ?_, fun j hj => ?_⟩
  · rw [h.mem]
    constructor
    · rintro (e | ⟨j, hj, e⟩)
      · exact ⟨k, by omega, e.symm⟩
      · exact ⟨j, by omega, e⟩
    · rintro ⟨j, hj, e⟩
      by_cases q : j = k
      · subst q; exact .inl e.symm
      · exact .inr ⟨j, by omega, e⟩
  · by_cases q : j = k
    · subst q; exact h0
    · exact h.ok j (by omega)

theorem id_inj {l : List Carton} (h : GoodP l) {i j : Int} (hi : 0 ≤ i ∧ i < (l.length : Int)) (hj : 0 ≤ j ∧ j < (l.length : Int)) (e : (atI l i).Id = (atI l j).Id) : i = j := by
  unfold atI at e
  rcases Nat.lt_trichotomy i.toNat j.toNat with q | q | q
  · have := h.up _ _ q (by omega); omega
  · omega
  · have := h.up _ _ q (by omega); omega
theorem any_ids {l : List Carton} (h : GoodP l) {I : List Int} (hI : ∀ i ∈ I, 0 ≤ i ∧ i < (l.length : Int)) {x : Int} (hx : 0 ≤ x ∧ x < (l.length : Int)) : ((I.map (atI l)).any fun c => c.Id == (atI l x).Id) = I.any fun y => y == x := by
  rw [Bool.eq_iff_iff, List.any_eq_true, List.any_eq_true]
  constructor
  · rintro ⟨c, hc, e⟩
    obtain ⟨i, hi, rfl⟩ := List.mem_map.1 hc
    exact ⟨i, hi, by rw [beq_iff_eq]; exact id_inj h (hI i hi) hx (eq_of_beq e)⟩
  · rintro ⟨y, hy, e⟩
    rw [beq_iff_eq] at e
    subst e
    exact ⟨_, List.mem_map.2 ⟨y, hy, rfl⟩, beq_self_eq_true _⟩
theorem mem_any {I : List Int} {x : Int} : (I.any fun y => y == x) = true ↔ x ∈ I := by
  rw [List.any_eq_true]
  constructor
  · rintro ⟨y, hy, e⟩; rw [beq_iff_eq] at e; exact e ▸ hy
  · intro h; exact ⟨x, h, beq_self_eq_true _⟩
theorem PullS.len {l : List Carton} {files : List Int} {k : Nat} {I : List Int} (h : PullS l files k I) : I.length ≤ l.length := by
  have key : ∀ (m : Nat) (J : List Int), J.Nodup → (∀ x ∈ J, 0 ≤ x ∧ x < (m : Int)) → J.length ≤ m := by
    intro m
    induction m with
    | zero =>
      intro J _ hJ
      cases J with
      | nil => simp
      | cons x t => have := hJ x (by simp); omega
    | succ m ih =>
      intro J hn hJ
      have h1 := ih (J.erase (m : Int)) (hn.erase _) (fun x hx => by
        have h2 := (hn.mem_erase_iff).1 hx
        have := hJ x h2.2
        omega)
      by_cases hm : (m : Int) ∈ J
      · rw [List.length_erase_of_mem hm] at h1; omega
      · rw [List.erase_of_not_mem hm] at h1; omega
  exact key _ _ h.nd h.bd

/-- What is left of a search that does not find. -/
def Miss (l : List Carton) (files : List Int) : Prop := ∃ j, j < files.length ∧ idx l (files.getD j default) < 0

theorem pullLI (l : List Carton) (files : List Int) (hl : Small l) (hP : GoodP l) (hf : files.length ≤ 1000) : T (iterO (M.impl_PullList_l0 l files) (([] : List Carton), (0 : Int))) (fun e => match e with
    | .inl C => ∃ I, C = I.map (atI l) ∧ PullS l files files.length I
    | .inr r => r = ([], false) ∧ Miss l files) := by
  have hlen := hP.len
  refine T_iter (fun s => ∃ (k : Nat) (I : List Int), s = (I.map (atI l), (k : Int)) ∧ k ≤ files.length ∧ PullS l files k I) (fun s => files.length - s.2.toNat) _ ⟨0, [], rfl, by omega, PullS.nil⟩ (by simp only; omega) ?_
  rintro _ ⟨k, I, rfl, h1, h2⟩
  unfold M.impl_PullList_l0
  dsimp only
  refine T_if (fun hq => ?_) (fun hq => ?_)
  · simp only [decide_eq_true_eq] at hq
    have hk : k < files.length := by omega
    have hIl := h2.len
    refine T.then (Q := fun e => match e with
      | .inl C => ∃ I, C = I.map (atI l) ∧ PullS l files (k + 1) I
      | .inr r => r = ([], false) ∧ Miss l files) ?_ ?_
    · refine T_ask ⟨by omega, by omega⟩ ?_
      rw [Int.toNat_natCast, withI l _ hl, Option.bind_some]
      refine T_if (fun hn => ?_) (fun hn => ?_)
      · simp only [decide_eq_true_eq] at hn
        exact T_ret ⟨rfl, k, hk, hn⟩
      · simp only [decide_eq_false_iff_not] at hn
        have hx : 0 ≤ idx l (files.getD k default) ∧ idx l (files.getD k default) < (l.length : Int) := ⟨by omega, idx_bd.2⟩
        refine T_ask hx ?_
        rw [atCI _ _ (by rw [List.length_map]; omega), Option.bind_some, firstAt_neg, show l.getD (idx l (files.getD k default)).toNat default = atI l (idx l (files.getD k default)) from rfl, any_ids hP h2.bd hx]
        refine T_if (fun ha => ?_) (fun ha => ?_)
        · refine T_ask hx (T_ask (by simp; omega) (T_ret ⟨I ++ [idx l (files.getD k default)], by simp, h2.step hx.1 ?_ (fun x => by rw [List.mem_append, List.mem_singleton]; exact Or.comm)⟩))
          rw [Bool.not_eq_true'] at ha
          unfold List.Nodup
          rw [List.pairwise_append]
          refine ⟨h2.nd, by simp, fun a hA b hB e => ?_⟩
          rw [List.mem_singleton.1 hB] at e
          have : (I.any fun y => y == idx l (files.getD k default)) = true := mem_any.2 (e ▸ hA)
          rw [this] at ha
          cases ha
        · rw [Bool.not_eq_false'] at ha
          have hm := mem_any.1 ha
          refine T_ret ⟨I, rfl, h2.step hx.1 h2.nd (fun x => ⟨fun h => .inr h, fun h => ?_⟩)⟩
          rcases h with e | e
          · exact e ▸ hm
          · exact e
    · rintro (C | r)
      · rintro ⟨J, rfl, g⟩
        refine T_ret ?_
        simp only
        rw [wrap64_id (by omega) (by omega)]
        exact ⟨⟨k + 1, J, by rw [cast_succ], by omega, g⟩, by omega⟩
      · rintro ⟨g1, g2⟩
        exact T_ret ⟨g1, g2⟩
  · simp only [decide_eq_false_iff_not] at hq
    have : k = files.length := by omega
    subst this
    exact T_ret ⟨I, rfl, h2⟩

theorem pullLS (l : List Carton) (files : List Int) (hl : Small l) (hP : GoodP l) (hf : files.length ≤ 1000) : T (iterO (M.spec_PullList_l0 l files) (([] : List Int), (0 : Int))) (fun e => match e with
    | .inl I => I.Pairwise (· < ·) ∧ PullS l files files.length I
    | .inr r => r = ([], false) ∧ Miss l files) := by
  have hlen := hP.len
  refine T_iter (fun s => ∃ (k : Nat) (I : List Int), s = (I, (k : Int)) ∧ k ≤ files.length ∧ I.Pairwise (· < ·) ∧ PullS l files k I) (fun s => files.length - s.2.toNat) _ ⟨0, [], rfl, by omega, List.Pairwise.nil, PullS.nil⟩ (by simp only; omega) ?_
  rintro _ ⟨k, I, rfl, h1, h0, h2⟩
  unfold M.spec_PullList_l0
  dsimp only
  refine T_if (fun hq => ?_) (fun hq => ?_)
  · simp only [decide_eq_true_eq] at hq
    have hk : k < files.length := by omega
    have hIl := h2.len
    refine T.then (Q := fun e => match e with
      | .inl I => I.Pairwise (· < ·) ∧ PullS l files (k + 1) I
      | .inr r => r = ([], false) ∧ Miss l files) ?_ ?_
    · refine T_ask ⟨by omega, by omega⟩ ?_
      rw [Int.toNat_natCast, e_l18Holds hl, Option.bind_some, show firstAt (hasF (files.getD k default)) l = idx l (files.getD k default) from rfl]
      refine T_if (fun hn => ?_) (fun hn => ?_)
      · simp only [decide_eq_true_eq] at hn
        exact T_ret ⟨rfl, k, hk, hn⟩
      · simp only [decide_eq_false_iff_not] at hn
        have hx : 0 ≤ idx l (files.getD k default) ∧ idx l (files.getD k default) < (l.length : Int) := ⟨by omega, idx_bd.2⟩
        rw [e_l1Has (by omega), Option.bind_some]
        refine T_if (fun ha => ?_) (fun ha => ?_)
        · rw [Bool.not_eq_true'] at ha
          obtain ⟨J, e1, e2, e3, e4⟩ := putInt I (idx l (files.getD k default)) h0 (fun hm => by rw [mem_any.2 hm] at ha; cases ha) (by omega)
          rw [e1, Option.bind_some]
          exact T_ret ⟨e2, h2.step hx.1 (e2.imp fun h e => by omega) e3⟩
        · rw [Bool.not_eq_false'] at ha
          have hm := mem_any.1 ha
          refine T_ret ⟨h0, h2.step hx.1 h2.nd (fun x => ⟨fun h => .inr h, fun h => ?_⟩)⟩
          rcases h with e | e
          · exact e ▸ hm
          · exact e
    · rintro (J | r)
      · rintro ⟨g0, g⟩
        refine T_ret ?_
        simp only
        rw [wrap64_id (by omega) (by omega)]
        exact ⟨⟨k + 1, J, by rw [cast_succ], by omega, g0, g⟩, by omega⟩
      · rintro ⟨g1, g2⟩
        exact T_ret ⟨g1, g2⟩
  · simp only [decide_eq_false_iff_not] at hq
    have : k = files.length := by omega
    subst this
    exact T_ret ⟨h0, h2⟩

/-! ### The order of a list to pull -/
def sel (l : List Carton) (I : List Int) (r s : Int) : List Int := I.filter fun i => ((atI l i).Room == r) && ((atI l i).Shelf == s)
def seg (l : List Carton) (I : List Int) (r s : Int) : List Int := (sel l I r s).map fun i => (atI l i).Id
def segs (l : List Carton) (I : List Int) (r : Int) (n : Nat) : List Int := (List.range n).flatMap fun s : Nat => seg l I r ((s : Int) + 1)
def outs (l : List Carton) (I : List Int) (n : Nat) : List Int := (List.range n).flatMap fun r : Nat => segs l I ((r : Int) + 1) 30
theorem seg_len {l : List Carton} {I : List Int} {r s : Int} : (seg l I r s).length ≤ I.length := by
  unfold seg sel
  rw [List.length_map]
  exact List.length_filter_le _ _
theorem segs_len {l : List Carton} {I : List Int} {r : Int} : ∀ n, (segs l I r n).length ≤ n * I.length
  | 0 => by simp [segs]
  | n + 1 => by
    have h1 := segs_len (l := l) (I := I) (r := r) n
    have h2 := seg_len (l := l) (I := I) (r := r) (s := (n : Int) + 1)
    unfold segs at h1 ⊢
    rw [List.range_succ, List.flatMap_append, List.length_append, Nat.succ_mul]
    simp only [List.flatMap_cons, List.flatMap_nil, List.append_nil]
    omega
theorem outs_len {l : List Carton} {I : List Int} : ∀ n, (outs l I n).length ≤ n * (30 * I.length)
  | 0 => by simp [outs]
  | n + 1 => by
    have h1 := outs_len (l := l) (I := I) n
    have h2 := segs_len (l := l) (I := I) (r := (n : Int) + 1) 30
    unfold outs at h1 ⊢
    rw [List.range_succ, List.flatMap_append, List.length_append, Nat.succ_mul]
    simp only [List.flatMap_cons, List.flatMap_nil, List.append_nil]
    omega
theorem segS (l : List Carton) (I : List Int) (r s : Int) (hI : ∀ i ∈ I, 0 ≤ i ∧ i < (l.length : Int)) (hn : I.length ≤ 10) (out : List Int) (ho : out.length < 1000000) : iterO (M.spec_PullList_l3 l I r s) (out, (0 : Int)) = some (out ++ seg l I r s) := by
  rw [iter_fold (s := (out, (0 : Int))) (step := M.spec_PullList_l3 l I r s) (fun (a : List Int) (k : Nat) => (a, (k : Int))) (fun a i => a ++ (bif ((atI l i).Room == r) && ((atI l i).Shelf == s) then [(atI l i).Id] else [])) (fun a => a) I out (fun a k => a.length ≤ out.length + k) rfl (by omega) (by simp) (fun a k hk hI2 => ⟨?_, ?_⟩) (fun a hI2 => ?_), foldl_collect, flatMap_if]
  · rfl
  · have hb := hI _ (getD_mem hk)
    unfold M.spec_PullList_l3
    dsimp only
    rw [decide_eq_true (show (k : Int) < (I.length : Int) by omega), cond_true, asrt_pos ⟨by omega, by omega⟩, Int.toNat_natCast, asrt_pos hb, wrap64_id (by omega) (by omega), show l.getD (I.getD k default).toNat default = atI l (I.getD k default) from rfl]
    cases ((atI l (I.getD k default)).Room == r) && ((atI l (I.getD k default)).Shelf == s)
    · rw [cond_false, cond_false, List.append_nil]; rfl
    · rw [cond_true, cond_true, asrt_pos (by simp; omega)]; rfl
  · have := if_len (((atI l (I.getD k default)).Room == r) && ((atI l (I.getD k default)).Shelf == s)) (atI l (I.getD k default)).Id
    rw [List.length_append]; omega
  · unfold M.spec_PullList_l3
    dsimp only
    rw [decide_eq_false (by omega)]
    rfl
theorem segsS (l : List Carton) (I : List Int) (r : Int) (hI : ∀ i ∈ I, 0 ≤ i ∧ i < (l.length : Int)) (hn : I.length ≤ 10) (out : List Int) (ho : out.length < 100000) : iterO (M.spec_PullList_l2 l I r) (out, (1 : Int)) = some (out ++ segs l I r 30) := by
  refine iter_up (s := (out, (1 : Int))) (step := M.spec_PullList_l2 l I r) (fun k => (out ++ segs l I r k, ((k + 1 : Nat) : Int))) 30 (by simp [segs]) (by omega) (fun k hk => ?_) ?_
  · have := segs_len (l := l) (I := I) (r := r) k
    have h3 : k * I.length ≤ 300 := Nat.le_trans (Nat.mul_le_mul (Nat.le_of_lt hk) hn) (by omega)
    unfold M.spec_PullList_l2
    dsimp only
    rw [decide_eq_true (by omega), cond_true, segS l I r _ hI hn _ (by rw [List.length_append]; omega), Option.bind_some, wrap64_id (by omega) (by omega)]
    unfold segs
    rw [List.range_succ, List.flatMap_append, List.append_assoc]
    simp only [List.flatMap_cons, List.flatMap_nil, List.append_nil, cast_succ]
  · unfold M.spec_PullList_l2
    rfl
theorem outsS (l : List Carton) (I : List Int) (hI : ∀ i ∈ I, 0 ≤ i ∧ i < (l.length : Int)) (hn : I.length ≤ 10) : iterO (M.spec_PullList_l1 l I) (([] : List Int), (1 : Int)) = some (outs l I 9) := by
  refine iter_up (s := (([] : List Int), (1 : Int))) (step := M.spec_PullList_l1 l I) (fun k => (outs l I k, ((k + 1 : Nat) : Int))) 9 (by simp [outs]) (by omega) (fun k hk => ?_) ?_
  · have := outs_len (l := l) (I := I) k
    have h3 : k * (30 * I.length) ≤ 9 * 300 := Nat.mul_le_mul (Nat.le_of_lt hk) (by omega)
    unfold M.spec_PullList_l1
    dsimp only
    rw [decide_eq_true (by omega), cond_true, segsS l I _ hI hn _ (by omega), Option.bind_some, wrap64_id (by omega) (by omega)]
    unfold outs
    rw [List.range_succ, List.flatMap_append]
    simp only [List.flatMap_cons, List.flatMap_nil, List.append_nil, cast_succ]
  · unfold M.spec_PullList_l1
    rfl

def keyL (l : List Carton) (i : Int) : Int := keyC (atI l i)
def outK (l : List Carton) (I : List Int) : List Int := (List.range 9).flatMap fun r : Nat => (List.range 30).flatMap fun s : Nat => (sel l I ((r : Int) + 1) ((s : Int) + 1)).map (keyL l)
theorem outs_key {l : List Carton} (hP : GoodP l) {I : List Int} (hI : ∀ i ∈ I, 0 ≤ i ∧ i < (l.length : Int)) : outs l I 9 = (outK l I).map (· % 100) := by
  unfold outs outK segs seg
  rw [List.map_flatMap]
  congr 1
  funext r
  rw [List.map_flatMap]
  congr 1
  funext s
  rw [List.map_map]
  refine List.map_congr_left fun i hi => ?_
  have := hI i (List.mem_filter.1 hi).1
  exact (key_id (hP.elt this.1 this.2)).symm
theorem outK_mem {l : List Carton} (hP : GoodP l) {I : List Int} (hI : ∀ i ∈ I, 0 ≤ i ∧ i < (l.length : Int)) {x : Int} : x ∈ outK l I ↔ ∃ i ∈ I, keyL l i = x := by
  unfold outK
  simp only [List.mem_flatMap, List.mem_range, List.mem_map]
  constructor
  · rintro ⟨r, _, s, _, i, hi, e⟩
    exact ⟨i, (List.mem_filter.1 hi).1, e⟩
  · rintro ⟨i, hi, e⟩
    have hb := hI i hi
    obtain ⟨_, h2, h3, _⟩ := goodOne_spec (hP.elt hb.1 hb.2)
    have h2 : 1 ≤ (atI l i).Room ∧ (atI l i).Room ≤ 9 := h2
    have h3 : 1 ≤ (atI l i).Shelf ∧ (atI l i).Shelf ≤ 30 := h3
    refine ⟨((atI l i).Room - 1).toNat, by omega, ((atI l i).Shelf - 1).toNat, by omega, i, List.mem_filter.2 ⟨hi, ?_⟩, e⟩
    rw [Bool.and_eq_true, beq_iff_eq, beq_iff_eq]
    omega
theorem outK_up {l : List Carton} (hP : GoodP l) {I : List Int} (hI : ∀ i ∈ I, 0 ≤ i ∧ i < (l.length : Int)) (hs : I.Pairwise (· < ·)) : (outK l I).Pairwise (· < ·) := by
  have val : ∀ (r s : Nat) (x : Int), x ∈ (sel l I ((r : Int) + 1) ((s : Int) + 1)).map (keyL l) → ((r : Int) + 1) * 10000 + ((s : Int) + 1) * 100 + 1 ≤ x ∧ x ≤ ((r : Int) + 1) * 10000 + ((s : Int) + 1) * 100 + 99 := by
    intro r s x hx
    obtain ⟨i, hi, rfl⟩ := List.mem_map.1 hx
    obtain ⟨h1, h2⟩ := List.mem_filter.1 hi
    have hb := hI i h1
    have h4 := (goodOne_spec (hP.elt hb.1 hb.2)).1
    have h4 : 1 ≤ (atI l i).Id ∧ (atI l i).Id ≤ 99 := h4
    rw [Bool.and_eq_true, beq_iff_eq, beq_iff_eq] at h2
    unfold keyL keyC
    rw [h2.1, h2.2]
    omega
  unfold outK
  rw [List.pairwise_flatMap]
  refine ⟨fun r hr => ?_, ?_⟩
  · rw [List.pairwise_flatMap]
    refine ⟨fun s hs2 => ?_, ?_⟩
    · rw [List.pairwise_map]
      refine List.Pairwise.imp_of_mem ?_ (hs.sublist List.filter_sublist)
      intro i j hi hj hij
      obtain ⟨i1, i2⟩ := List.mem_filter.1 hi
      obtain ⟨j1, j2⟩ := List.mem_filter.1 hj
      rw [Bool.and_eq_true, beq_iff_eq, beq_iff_eq] at i2 j2
      have bi := hI i i1
      have bj := hI j j1
      have := hP.up i.toNat j.toNat (by omega) (by omega)
      have : (atI l i).Id < (atI l j).Id := this
      unfold keyL keyC
      rw [i2.1, i2.2, j2.1, j2.2]
      omega
    · refine List.pairwise_lt_range.imp ?_
      intro a b hab x hx y hy
      have := val r a x hx
      have := val r b y hy
      omega
  · refine List.Pairwise.imp_of_mem ?_ List.pairwise_lt_range
    intro a b ha hb hab x hx y hy
    obtain ⟨s1, hs1, hx⟩ := List.mem_flatMap.1 hx
    obtain ⟨s2, hs2, hy⟩ := List.mem_flatMap.1 hy
    have := val a s1 x hx
    have := val b s2 y hy
    have := List.mem_range.1 hs1
    have := List.mem_range.1 hs2
    omega

theorem key_inj {l : List Carton} (hP : GoodP l) {i j : Int} (hi : 0 ≤ i ∧ i < (l.length : Int)) (hj : 0 ≤ j ∧ j < (l.length : Int)) (e : keyL l i = keyL l j) : i = j := by
  refine id_inj hP hi hj ?_
  have h1 := key_id (hP.elt hi.1 hi.2)
  have h2 := key_id (hP.elt hj.1 hj.2)
  unfold keyL atI at e
  unfold atI
  rw [← h1, ← h2, e]

/-- Both orders are one. -/
theorem order_same {l : List Carton} (hP : GoodP l) {files : List Int} {n : Nat} {I J : List Int} (hI : PullS l files n I) (hJ : PullS l files n J) (hs : J.Pairwise (· < ·)) : (srtC keyC (I.map (atI l))).map (·.Id) = outs l J 9 := by
  have hg : ∀ c ∈ srtC keyC (I.map (atI l)), goodOne c = true := by
    intro c hc
    obtain ⟨i, hi, rfl⟩ := List.mem_map.1 ((srtC_ok _ _).1.mem_iff.1 hc)
    exact hP.elt (hI.bd i hi).1 (hI.bd i hi).2
  have e1 : (srtC keyC (I.map (atI l))).map (·.Id) = ((srtC keyC (I.map (atI l))).map keyC).map (· % 100) := by
    rw [List.map_map]
    exact List.map_congr_left fun c hc => (key_id (hg c hc)).symm
  rw [e1, outs_key hP hJ.bd]
  congr 1
  have hperm : List.Perm ((srtC keyC (I.map (atI l))).map keyC) (I.map (keyL l)) := by
    have := (srtC_ok keyC (I.map (atI l))).1.map keyC
    rw [List.map_map] at this
    exact this
  have hnd : (I.map (keyL l)).Nodup := by
    unfold List.Nodup
    rw [List.pairwise_map]
    exact List.Pairwise.imp_of_mem (fun {a b} ha hb hab e => hab (key_inj hP (hI.bd a ha) (hI.bd b hb) e)) hI.nd
  have hup : ((srtC keyC (I.map (atI l))).map keyC).Pairwise (· < ·) := by
    have h1 : ((srtC keyC (I.map (atI l))).map keyC).Pairwise (· ≤ ·) := by
      rw [List.pairwise_map]; exact (srtC_ok _ _).2
    have h2 : ((srtC keyC (I.map (atI l))).map keyC).Pairwise (· ≠ ·) := hperm.nodup_iff.2 hnd
    exact (h1.and h2).imp fun h => by omega
  refine strict_ext hup (outK_up hP hJ.bd hs) fun y => ?_
  rw [hperm.mem_iff, outK_mem hP hJ.bd, List.mem_map]
  constructor
  · rintro ⟨i, hi, e⟩; exact ⟨i, (hJ.mem i).2 ((hI.mem i).1 hi), e⟩
  · rintro ⟨i, hi, e⟩; exact ⟨i, (hI.mem i).2 ((hJ.mem i).1 hi), e⟩

theorem pullIds (l : List Carton) (hl : l.length < 1000000) : iterO (M.impl_PullList_l1 l) (([] : List Int), (0 : Int)) = some (l.map (·.Id)) := by
  rw [iter_coll (s := (([] : List Int), (0 : Int))) (step := M.impl_PullList_l1 l) (fun acc k => (acc, (k : Int))) (fun f => [f.Id]) (fun acc => acc) l rfl (by omega) (fun k hk => by simp) (fun acc k hk hI => ?_) (fun acc hI => ?_)]
  · congr 1
    induction l with
    | nil => rfl
    | cons x t ih => simp only [List.flatMap_cons, List.map_cons, ih (by simp at hl; omega)]; rfl
  · unfold M.impl_PullList_l1
    dsimp only
    rw [decide_eq_true (show (k : Int) < (l.length : Int) by omega), cond_true, asrt_pos ⟨by omega, by omega⟩, asrt_pos (by simp; omega), Int.toNat_natCast, wrap64_id (by omega) (by omega)]
    rfl
  · unfold M.impl_PullList_l1
    dsimp only
    rw [decide_eq_false (by omega)]
    rfl

theorem file_rng {l : List Carton} (hP : GoodP l) {f : Int} (h : 0 ≤ idx l f) : 1 ≤ f ∧ f ≤ 999 := by
  have h1 : l.any (hasF f) = true := by
    have := firstAt_neg (p := hasF f) (l := l)
    unfold idx at h
    rw [decide_eq_false (by omega)] at this
    simpa using this.symm
  obtain ⟨g0, g1, g2, g3⟩ := firstAt_at h1
  have h5 := (goodOne_spec (hP.gd _ g1)).2.2.2.2.1
  rw [← ris_eq, Bool.and_eq_true, Bool.not_eq_true', List.any_eq_false] at h5
  unfold hasF at g3
  obtain ⟨x, hx, e⟩ := List.any_eq_true.1 g3
  rw [beq_iff_eq] at e
  have := h5.2 x hx
  rw [Bool.not_eq_true', Bool.not_eq_false, inB_true] at this
  omega

/-- Both sides pull the same. -/
theorem pull_both (l : List Carton) (files : List Int) (hl : Small l) (hf : files.length ≤ 1000) : ∃ res : List Int × Bool, M.impl_PullList l files = some res ∧ M.spec_PullList l files = some res ∧ res.1.length < 1000000 ∧ (res.2 = true → good l = true ∧ ∀ j, j < files.length → 0 ≤ idx l (files.getD j default) ∧ (atI l (idx l (files.getD j default))).Id ∈ res.1) := by
  unfold M.impl_PullList M.spec_PullList
  rw [e_iAreCartons hl, Option.bind_some, e_l18Good hl, Option.bind_some]
  cases hg : good l
  · exact ⟨([], false), rfl, rfl, by simp, fun h => by cases h⟩
  have hP := good_P hg
  have hlen := hP.len
  rw [Bool.not_true, cond_false, cond_false, e_within, e_l1In, Option.bind_some, Option.bind_some, Bool.false_or]
  cases hb : inB (files.length : Int) 1 20
  · exact ⟨([], false), rfl, rfl, by simp, fun h => by cases h⟩
  rw [Bool.not_true, cond_false, cond_false, e_areRising (by omega), e_l1Rising (by omega), Option.bind_some, Option.bind_some, Bool.false_or]
  obtain ⟨e1, h1, h2⟩ := pullLI l files hl hP hf
  cases hr : risB files
  · have : ris2 files 1 999 = false := by rw [← ris_eq, hr]; rfl
    rw [this]
    exact ⟨([], false), rfl, rfl, by simp, fun h => by cases h⟩
  rw [Bool.not_true, cond_false, h1, Option.bind_some]
  cases hr2 : ris2 files 1 999
  · rw [Bool.not_false, Bool.or_true, cond_true]
    cases e1 with
    | inl C =>
      exfalso
      obtain ⟨I, _, hI⟩ := h2
      rw [← ris_eq, hr, Bool.true_and, Bool.not_eq_false'] at hr2
      obtain ⟨x, hx, hx2⟩ := List.any_eq_true.1 hr2
      obtain ⟨j, hj, rfl⟩ := List.getElem_of_mem hx
      have := file_rng hP (hI.ok j hj)
      rw [getD_el hj] at this
      rw [Bool.not_eq_true'] at hx2
      have h9 := inB_true.2 this
      rw [h9] at hx2
      cases hx2
    | inr r => exact ⟨([], false), by rw [h2.1], rfl, by simp, fun h => by cases h⟩
  rw [Bool.not_true, Bool.or_self, cond_false]
  obtain ⟨e2, h3, h4⟩ := pullLS l files hl hP hf
  rw [h3, Option.bind_some]
  cases e1 with
  | inl C =>
    obtain ⟨I, rfl, hI⟩ := h2
    cases e2 with
    | inl J =>
      obtain ⟨hs, hJ⟩ := h4
      have hIl := hI.len
      have hJl := hJ.len
      dsimp only
      rw [sortCI keyC _ (I.map (atI l)) (by rw [List.length_map]; omega) (fun a ha b hb2 => by
        obtain ⟨i, hi, rfl⟩ := List.mem_map.1 ha
        obtain ⟨j, hj, rfl⟩ := List.mem_map.1 hb2
        exact cmpKey _ _ (hP.elt (hI.bd i hi).1 (hI.bd i hi).2) (hP.elt (hI.bd j hj).1 (hI.bd j hj).2)), Option.bind_some, asrt_pos srtC_len, pullIds _ (by rw [srtC_len, List.length_map]; omega), Option.bind_some, outsS l J hJ.bd (by omega), Option.bind_some, order_same hP hI hJ hs]
      refine ⟨_, rfl, rfl, ?_, fun _ => ⟨rfl, fun j hj => ⟨hI.ok j hj, ?_⟩⟩⟩
      · have := outs_len (l := l) (I := J) 9
        simp only
        omega
      · simp only
        rw [← order_same hP hI hJ hs]
        refine List.mem_map.2 ⟨_, (srtC_ok _ _).1.mem_iff.2 (List.mem_map.2 ⟨_, (hI.mem _).2 ⟨j, hj, rfl⟩, rfl⟩), rfl⟩
    | inr r =>
      exfalso
      obtain ⟨_, j, hj, h5⟩ := h4
      have := hI.ok j hj
      omega
  | inr r =>
    cases e2 with
    | inl J =>
      exfalso
      obtain ⟨_, j, hj, h5⟩ := h2
      have := h4.2.ok j hj
      omega
    | inr r2 => exact ⟨([], false), by rw [h2.1], by rw [h4.1], by simp, fun h => by cases h⟩

/-! ### Empty cartons, free shelves -/
def EmptyD (l : List Carton) : List Int × Bool := bif good l then ((l.filter fun c => (c.Files.length : Int) == 0).map (·.Id), true) else ([], false)
theorem EmptyD_len {l : List Carton} (hl : Small l) : (EmptyD l).1.length < 100000000 := by
  unfold EmptyD
  have h1 := List.length_filter_le (fun c : Carton => (c.Files.length : Int) == 0) l
  have := hl.1
  cases good l
  · simp
  · rw [cond_true]; simp only [List.length_map]; omega

def FreeD (l : List Carton) (r s : Int) : Int × Bool := bif good l && (inB r 1 9 && inB s 1 30) then (100 - taken l r s, true) else (0, false)
/-- The best shelf is the fullest of those that have room. -/
theorem bs_best (l : List Carton) (r t : Int) : ∀ k : Nat, (bs l r t k = 0 ∧ ∀ s : Nat, 1 ≤ s → s ≤ k → ¬ taken l r (s : Int) + t ≤ 100) ∨ (1 ≤ bs l r t k ∧ bs l r t k ≤ k ∧ taken l r (bs l r t k) + t ≤ 100 ∧ ∀ s : Nat, 1 ≤ s → s ≤ k → taken l r (s : Int) + t ≤ 100 → taken l r (s : Int) ≤ taken l r (bs l r t k))
  | 0 => .inl ⟨rfl, fun s h1 h2 => by omega⟩
  | k + 1 => by
    have ih := bs_best l r t k
    by_cases hc : taken l r (k + 1 : Nat) + t ≤ 100 ∧ (bs l r t k = 0 ∨ taken l r (k + 1 : Nat) > taken l r (bs l r t k))
    · have e : bs l r t (k + 1) = (k + 1 : Nat) := by rw [bs, if_pos hc]
      rw [e]
      refine .inr ⟨by omega, by omega, hc.1, fun s h1 h2 h3 => ?_⟩
      by_cases q : s = k + 1
      · subst q; exact Int.le_refl _
      · rcases ih with ⟨_, g⟩ | ⟨g1, _, _, g⟩
        · exact absurd h3 (g s h1 (by omega))
        · have := g s h1 (by omega) h3
          rcases hc.2 with z | z
          · omega
          · omega
    · have e : bs l r t (k + 1) = bs l r t k := by rw [bs, if_neg hc]
      rw [e]
      rcases ih with ⟨g0, g⟩ | ⟨g1, g2, g3, g⟩
      · refine .inl ⟨g0, fun s h1 h2 h3 => ?_⟩
        by_cases q : s = k + 1
        · subst q; exact hc ⟨h3, .inl g0⟩
        · exact g s h1 (by omega) h3
      · refine .inr ⟨g1, by omega, g3, fun s h1 h2 h3 => ?_⟩
        by_cases q : s = k + 1
        · subst q
          by_cases z : taken l r (k + 1 : Nat) > taken l r (bs l r t k)
          · exact absurd ⟨h3, .inr z⟩ hc
          · omega
        · exact g s h1 (by omega) h3

/-! ### Loads of rooms -/
def roomStep (r : Int) (a : Int × Int) (c : Carton) : Int × Int := bif c.Room == r then (a.1 + 1, a.2 + c.Thick) else a
def roomF (l : List Carton) (r : Int) : Int × Int := l.foldl (roomStep r) (0, 0)
def rowOf (l : List Carton) (r : Nat) : List (List Int) := bif decide ((roomF l ((r : Int) + 1)).1 > 0) then [[(r : Int) + 1, (roomF l ((r : Int) + 1)).1, (roomF l ((r : Int) + 1)).2]] else []
def rowsF (l : List Carton) (n : Nat) : List (List Int) := (List.range n).flatMap (rowOf l)
theorem roomStep_bd {r : Int} {a : Int × Int} {c : Carton} {k : Nat} (hc : 0 ≤ c.Thick ∧ c.Thick ≤ 40) (h : (0 ≤ a.1 ∧ a.1 ≤ (k : Int)) ∧ 0 ≤ a.2 ∧ a.2 ≤ 40 * (k : Int)) : (0 ≤ (roomStep r a c).1 ∧ (roomStep r a c).1 ≤ ((k + 1 : Nat) : Int)) ∧ 0 ≤ (roomStep r a c).2 ∧ (roomStep r a c).2 ≤ 40 * ((k + 1 : Nat) : Int) := by
  unfold roomStep
  cases c.Room == r
  · rw [cond_false]; omega
  · rw [cond_true]; simp only; omega
theorem roomF_bd {l : List Carton} {r : Int} (hT : Thin l) : 0 ≤ (roomF l r).1 ∧ (roomF l r).1 ≤ (l.length : Int) := by
  have key : ∀ (m : List Carton) (a : Int × Int) (k : Nat), (∀ c ∈ m, 0 ≤ c.Thick ∧ c.Thick ≤ 40) → ((0 ≤ a.1 ∧ a.1 ≤ (k : Int)) ∧ 0 ≤ a.2 ∧ a.2 ≤ 40 * (k : Int)) → 0 ≤ (m.foldl (roomStep r) a).1 ∧ (m.foldl (roomStep r) a).1 ≤ ((k + m.length : Nat) : Int) := by
    intro m
    induction m with
    | nil => intro a k _ h; exact h.1
    | cons c m ih =>
      intro a k hm h
      rw [List.foldl_cons]
      have := ih _ (k + 1) (fun c hc => hm c (by simp [hc])) (roomStep_bd (r := r) (hm c (by simp)) h)
      rw [List.length_cons]
      omega
  have := key l (0, 0) 0 hT.2 (by simp)
  rw [Nat.zero_add] at this
  exact this
theorem rowsF_len {l : List Carton} : ∀ n, (rowsF l n).length ≤ n
  | 0 => by simp [rowsF]
  | n + 1 => by
    have h1 := rowsF_len (l := l) n
    have h2 : (rowOf l n).length ≤ 1 := if_len _ _
    unfold rowsF at h1 ⊢
    rw [List.range_succ, List.flatMap_append, List.length_append]
    simp only [List.flatMap_cons, List.flatMap_nil, List.append_nil]
    omega
def LoadD (l : List Carton) : List (List Int) × Bool := bif good l then (rowsF l 9, true) else ([], false)
/-- Each carton is in one room. -/
def rc (r : Int) : List Carton → Int
  | [] => 0
  | c :: t => (if c.Room = r then 1 else 0) + rc r t
theorem roomF_rc {l : List Carton} {r : Int} : (roomF l r).1 = rc r l := by
  have key : ∀ (m : List Carton) (a : Int × Int), (m.foldl (roomStep r) a).1 = a.1 + rc r m := by
    intro m
    induction m with
    | nil => intro a; simp [rc]
    | cons c m ih =>
      intro a
      rw [List.foldl_cons, ih]
      rw [show rc r (c :: m) = (if c.Room = r then 1 else 0) + rc r m from rfl]
      unfold roomStep
      by_cases h : c.Room = r
      · rw [show (c.Room == r) = true by simp [h], cond_true, if_pos h]; simp only; omega
      · rw [show (c.Room == r) = false by simp [h], cond_false, if_neg h]; omega
  have := key l (0, 0)
  unfold roomF
  rw [this]
  simp
theorem rc_sum : ∀ (l : List Carton), (∀ c ∈ l, 1 ≤ c.Room ∧ c.Room ≤ 9) → rc 1 l + rc 2 l + rc 3 l + rc 4 l + rc 5 l + rc 6 l + rc 7 l + rc 8 l + rc 9 l = (l.length : Int)
  | [], _ => rfl
  | c :: t, h => by
    have ih := rc_sum t (fun x hx => h x (by simp [hx]))
    have hc := h c (by simp)
    simp only [rc, List.length_cons]
    rcases (by omega : c.Room = 1 ∨ c.Room = 2 ∨ c.Room = 3 ∨ c.Room = 4 ∨ c.Room = 5 ∨ c.Room = 6 ∨ c.Room = 7 ∨ c.Room = 8 ∨ c.Room = 9) with e | e | e | e | e | e | e | e | e <;> rw [e] <;> simp <;> omega
def cntR (a : Int) (row : List Int) : Int := a + row.getD 1 default
theorem rowOf_cnt {l : List Carton} {a : Int} {k : Nat} (hT : Thin l) : (rowOf l k).foldl cntR a = a + rc ((k : Int) + 1) l := by
  have hb := roomF_bd (r := (k : Int) + 1) hT
  rw [← roomF_rc]
  unfold rowOf
  cases h : decide ((roomF l ((k : Int) + 1)).1 > 0)
  · simp only [decide_eq_false_iff_not] at h
    rw [cond_false]
    show a = _
    omega
  · rfl
theorem rows_cnt {l : List Carton} (hT : Thin l) (hR : ∀ c ∈ l, 1 ≤ c.Room ∧ c.Room ≤ 9) : (rowsF l 9).foldl cntR 0 = (l.length : Int) := by
  rw [← rc_sum l hR]
  show ((List.range 9).flatMap (rowOf l)).foldl cntR 0 = _
  rw [show List.range 9 = [0, 1, 2, 3, 4, 5, 6, 7, 8] from rfl]
  simp only [List.flatMap_cons, List.flatMap_nil, List.append_nil, List.foldl_append, rowOf_cnt hT]
  simp only [Int.zero_add]
  rfl
end Go.Proofs.Ytfebeomnlkfgoaa
