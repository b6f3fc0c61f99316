/-
  Functions as plain models (what is checked, what is computed), and the walk's rules on typed data. Over any program. No condition.
-/
import Derived.Test.YteocnbeefedbkaaVn
import Derived.Test.YteocnbeefedbkaaPa
set_option linter.unusedSimpArgs false
set_option linter.unusedVariables false
namespace Go.VS

/-! ### Models -/
/-- Goes on if p holds; else there is no answer. -/
def asrt {β : Type} (p : Prop) [Decidable p] (k : Option β) : Option β := if p then k else none

theorem asrt_some {β : Type} {p : Prop} [Decidable p] {k : Option β} {r : β} (h : asrt p k = some r) : p ∧ k = some r := by
  unfold asrt at h
  split at h
  · exact ⟨by assumption, h⟩
  · cases h

theorem asrt_pos {β : Type} {p : Prop} [Decidable p] {k : Option β} (h : p) : asrt p k = k := if_pos h

theorem bindO {β γ : Type} {x : Option β} {f : β → Option γ} {r : γ} (h : x.bind f = some r) : ∃ y, x = some y ∧ f y = some r := by
  cases x with
  | none => cases h
  | some y => exact ⟨y, rfl, h⟩

theorem cond_t {β : Type} {c : Bool} {x y : β} {r : β} (hc : c = true) (h : (bif c then x else y) = r) : x = r := by subst hc; exact h
theorem cond_f {β : Type} {c : Bool} {x y : β} {r : β} (hc : c = false) (h : (bif c then x else y) = r) : y = r := by subst hc; exact h

section
variable {S E : Type}

/-- A loop: a round hands back the next state (inl) or what is behind the loop (inr). -/
def loopO (step : S → Option (S ⊕ E)) : Nat → S → Option E
  | 0, _ => none
  | n + 1, s => match step s with
    | none => none
    | some (.inl s') => loopO step n s'
    | some (.inr e) => some e

theorem loop_head {step : S → Option (S ⊕ E)} {n : Nat} {s : S} {e : E} (h : loopO step n s = some e) :
    ∃ m y, n = m + 1 ∧ step s = some y ∧ (∀ s', y = .inl s' → loopO step m s' = some e) ∧ (∀ e', y = .inr e' → e' = e) := by
  cases n with
  | zero => cases h
  | succ m =>
    simp only [loopO] at h
    split at h
    · cases h
    · rename_i s' hs; exact ⟨m, _, rfl, hs, fun _ e1 => by cases e1; exact h, fun _ e1 => by cases e1⟩
    · rename_i e' hs
      cases h
      exact ⟨m, _, rfl, hs, (fun _ e1 => by cases e1), (fun _ e1 => by cases e1; rfl)⟩

/-- How many rounds at most. -/
def rounds : Nat := 1099511627776

def iterO (step : S → Option (S ⊕ E)) (s : S) : Option E := loopO step rounds s

theorem loopO_inv {step : S → Option (S ⊕ E)} (P : S → Prop) (μ : S → Nat) (Q : E → Prop)
    (h : ∀ s, P s → (∃ s', step s = some (.inl s') ∧ P s' ∧ μ s' < μ s) ∨ ∃ e, step s = some (.inr e) ∧ Q e) : ∀ (n : Nat) (s : S), P s → μ s < n → ∃ e, loopO step n s = some e ∧ Q e
  | 0, s, _, h1 => absurd h1 (Nat.not_lt_zero _)
  | n + 1, s, hp, h1 => by
    rcases h s hp with ⟨s', h2, h3, h4⟩ | ⟨e, h2, h3⟩
    · obtain ⟨e, h5, h6⟩ := loopO_inv P μ Q h n s' h3 (by omega)
      exact ⟨e, by simp only [loopO, h2, h5], h6⟩
    · exact ⟨e, by simp only [loopO, h2], h3⟩

/-- A loop that keeps P, with a measure. -/
theorem iterO_inv {step : S → Option (S ⊕ E)} (P : S → Prop) (μ : S → Nat) (Q : E → Prop) {s : S} (hp : P s) (hμ : μ s < 1099511627776)
    (h : ∀ s, P s → (∃ s', step s = some (.inl s') ∧ P s' ∧ μ s' < μ s) ∨ ∃ e, step s = some (.inr e) ∧ Q e) : ∃ e, iterO step s = some e ∧ Q e :=
  loopO_inv P μ Q h _ s hp hμ

theorem iterO_eq {step : S → Option (S ⊕ E)} (P : S → Prop) (μ : S → Nat) {e : E} {s : S} (hp : P s) (hμ : μ s < 1099511627776)
    (h : ∀ s, P s → (∃ s', step s = some (.inl s') ∧ P s' ∧ μ s' < μ s) ∨ step s = some (.inr e)) : iterO step s = some e := by
  obtain ⟨e', h1, rfl⟩ := iterO_inv P μ (fun e' => e' = e) hp hμ fun s hs => (h s hs).imp id fun h => ⟨e, h, rfl⟩
  exact h1
end

/-- The part of a list from a to b. -/
def slc {β : Type} (l : List β) (a b : Int) : List β := (l.take b.toNat).drop a.toNat

/-! ### Rules on typed data -/
abbrev encBool (b : Bool) : PV := .bool b
abbrev encStr (s : List UInt8) : PV := .str s
abbrev encU8 (n : Int) : PV := .int .u8 n
abbrev encU64 (n : Int) : PV := .int .u64 n
abbrev encL {β : Type} (ρ n : Nat) (f : β → PV) (l : List β) : PV := .vl ρ n (l.map f)
abbrev encPair (p : Int × Int) : PV := .agg [.int .i64 p.1, .int .i64 p.2]

theorem roL_map {β : Type} {f : β → PV} (h : ∀ x, (f x).ro = true) (l : List β) : PV.roL (l.map f) = true := by
  rw [roL_iff]; intro x hx; obtain ⟨y, _, rfl⟩ := List.mem_map.1 hx; exact h y

theorem noL_map {β : Type} {f : β → PV} {τ : Nat} (h : ∀ x, (f x).no τ = true) (l : List β) : PV.noL τ (l.map f) = true := by
  rw [noL_iff]; intro x hx; obtain ⟨y, _, rfl⟩ := List.mem_map.1 hx; exact h y

theorem vl_no {ρ τ n : Nat} {xs : List PV} (h : Nat.beq ρ τ = false) (h1 : PV.noL τ xs = true) : (PV.vl ρ n xs).no τ = true := by
  simp only [PV.no, h, h1]; rfl

theorem beq_succ_no (n : Nat) : Nat.beq n (n + 1) = false := by
  cases h : Nat.beq n (n + 1) with
  | false => rfl
  | true => have := Nat.eq_of_beq_eq_true h; omega

theorem getMapD {β : Type} [Inhabited β] {l : List β} {f : β → PV} {i : Nat} (h : i < l.length) : (l.map f)[i]? = some (f (l.getD i default)) := by
  simp [List.getD, h]

theorem setMap {β : Type} {l : List β} {f : β → PV} {i : Nat} {x : β} : (l.map f).set i (f x) = (l.set i x).map f := List.map_set.symm

theorem natLt {m : Int} {n : Nat} (h0 : 0 ≤ m) (h : m < (n : Int)) : m.toNat < n := by omega

section
variable {Φ : Ctx} {α : AEnv} {K : AEnv → Prop} {o : Oper} {β : Type} {f : β → PV} {l m : List β}

theorem V1.lenMap {d t : Nat} {c : Call} {x : Operand} {ρ n : Nat} (ho : o.op = .call c) (hc : c.callee = .builtin .len) (hca : c.args = #[x]) (hct : c.argTypes = #[t]) (hd : o.dst = some d)
    (hx : aeval α x = some (.vl ρ n (l.map f))) (ht : isSl Φ.P t = true) (hn : d < α.n) (hk : K (α.put d (.int .i64 (l.length : Nat)))) : V1 Φ o α K := by
  refine V1.lenVl ho hc hca hct hd hx ht hn ?_
  rw [List.length_map]; exact hk

theorem V1.sliceMap {d t e n : Nat} {x : Operand} {lo hi : Option Operand} {ρ : Nat} {a b : Int} (ho : o.op = .slice t x lo hi none) (hd : o.dst = some d)
    (ht : elemSz Φ.P t = some (e, n)) (hx : aeval α x = some (.vl ρ n (l.map f))) (hlo : Bnd α lo 0 a.toNat) (hhi : Bnd α hi l.length b.toNat) (h : 0 ≤ a ∧ a ≤ b ∧ b ≤ (l.length : Int)) (hn : d < α.n)
    (hk : K (α.put d (.vl ρ n ((slc l a b).map f)))) : V1 Φ o α K := by
  refine V1.sliceVl (l := a.toNat) (h := b.toNat) ho hd ht hx hlo (by rw [List.length_map]; exact hhi) (by omega) (by rw [List.length_map]; omega) hn ?_
  rw [← List.map_take, ← List.map_drop]; exact hk

theorem V1.sliceStrI {d t : Nat} {x : Operand} {lo hi : Option Operand} {s : List UInt8} {a b : Int} (ho : o.op = .slice t x lo hi none) (hd : o.dst = some d)
    (ht : isStr Φ.P t = true) (hx : aeval α x = some (.str s)) (hlo : Bnd α lo 0 a.toNat) (hhi : Bnd α hi s.length b.toNat) (h : 0 ≤ a ∧ a ≤ b ∧ b ≤ (s.length : Int)) (hn : d < α.n)
    (hk : K (α.put d (.str (slc s a b)))) : V1 Φ o α K :=
  V1.sliceStr (l := a.toNat) (h := b.toNat) ho hd ht hx hlo hhi (by omega) (by omega) hn hk

theorem V1.indexI [Inhabited β] {d t e n : Nat} {x i : Operand} {ρ : Nat} {k : IntKind} {j : Int} (ho : o.op = .indexAddr t x i) (hd : o.dst = some d)
    (ht : elemSz Φ.P t = some (e, n)) (hx : aeval α x = some (.vl ρ n (l.map f))) (hi : aeval α i = some (.int k j)) (h : 0 ≤ j ∧ j < (l.length : Int)) (hn : d < α.n)
    (hk : K (α.put d (.pin ρ (f (l.getD j.toNat default)) 0))) : V1 Φ o α K :=
  V1.indexMap ho hd ht hx hi h.1 (natLt h.1 h.2) hn hk

theorem V1.indexSr {d t e n : Nat} {x i : Operand} {b len : Nat} {k : IntKind} {j : Int} (ho : o.op = .indexAddr t x i) (hd : o.dst = some d)
    (ht : elemSz Φ.P t = some (e, n)) (hx : aeval α x = some (.sref b n 0 len)) (hi : aeval α i = some (.int k j)) (h : 0 ≤ j ∧ j < (len : Int)) (hn : d < α.n)
    (hk : K (α.put d (.ref b n j.toNat 0))) : V1 Φ o α K := by
  refine V1.indexSref ho hd ht hx hi h.1 (natLt h.1 h.2) hn ?_
  rw [Nat.zero_add]; exact hk

theorem V1.indexStrI {d t : Nat} {x i : Operand} {s : List UInt8} {k : IntKind} {j : Int} (ho : o.op = .index t x i) (hd : o.dst = some d)
    (ht : isStr Φ.P t = true) (hx : aeval α x = some (.str s)) (hi : aeval α i = some (.int k j)) (h : 0 ≤ j ∧ j < (s.length : Int)) (hn : d < α.n)
    (hk : K (α.put d (.int .u8 ((s.getD j.toNat 0).toNat : Int)))) : V1 Φ o α K := by
  have := natLt h.1 h.2
  refine V1.indexStr ho hd ht hx hi h.1 (c := s.getD j.toNat 0) (by simp [List.getD, this]) hn hk

theorem V1.appendMap {d t u e n : Nat} {c : Call} {sx xx : Operand} {b k : Nat} {p z : PV} (ho : o.op = .call c) (hc : c.callee = .builtin .append) (hca : c.args = #[sx, xx]) (hct : c.argTypes = #[t, u]) (hd : o.dst = some d)
    (ht : elemSz Φ.P t = some (e, n)) (hby : elemBy Φ.P t = true) (hz : zeroK Φ.P e = some (n, z)) (hs : aeval α sx = some (.sref b n 0 l.length)) (hb : α.H[k]? = some (b, ⟨n, l.map f⟩))
    (hx : aeval α xx = some p) (hsrc : SrcOf Φ.P α u n p (m.map f)) (hfit : (l.length : Int) + (m.length : Int) ≤ 2147483648) (hn : d < α.n)
    (hk : ∀ b', K ⟨α.n, (d, .sref b' n 0 (l ++ m).length) :: α.E, (b', ⟨n, (l ++ m).map f⟩) :: α.H.eraseIdx k⟩) : V1 Φ o α K := by
  refine V1.append (k := k) ho hc hca hct hd ht hby hz hs hb rfl (by simp) hx hsrc (by simp; omega) hn fun b' => ?_
  have := hk b'
  rw [List.map_append, List.length_append] at this
  rw [List.length_map]; exact this

theorem V1.appendNilMap {d t u e n : Nat} {c : Call} {sx xx : Operand} {p z : PV} (ho : o.op = .call c) (hc : c.callee = .builtin .append) (hca : c.args = #[sx, xx]) (hct : c.argTypes = #[t, u]) (hd : o.dst = some d)
    (ht : elemSz Φ.P t = some (e, n)) (hby : elemBy Φ.P t = true) (hz : zeroK Φ.P e = some (n, z)) (h0n : Nat.blt 0 n = true) (hs : aeval α sx = some .nils)
    (hx : aeval α xx = some p) (hsrc : SrcOf Φ.P α u n p (m.map f)) (h0 : Nat.blt 0 m.length = true) (hfit : (m.length : Int) ≤ 2147483648) (hn : d < α.n)
    (hk : ∀ b', K ⟨α.n, (d, .sref b' n 0 m.length) :: α.E, (b', ⟨n, m.map f⟩) :: α.H⟩) : V1 Φ o α K := by
  have h0 := ltb h0
  refine V1.appendNil ho hc hca hct hd ht hby hz h0n (.inl hs) hx hsrc (by simpa using h0) (by simp; omega) hn fun b' => ?_
  rw [List.length_map]; exact hk b'

theorem SrcOf.srMap {P : Program} {u n k b : Nat} (hb : α.H[k]? = some (b, ⟨n, m.map f⟩)) (hu : isSl P u = true) : SrcOf P α u n (.sref b n 0 m.length) (m.map f) :=
  SrcOf.srefAll hb rfl (by simp) hu

theorem V1.makeMap {d t e n : Nat} {lx cx : Operand} {z : β} {kl kc : IntKind} {a c : Int} (ho : o.op = .makeSlice t lx cx) (hd : o.dst = some d)
    (ht : elemSz Φ.P t = some (e, n)) (hby : elemBy Φ.P t = true) (hz : zeroK Φ.P e = some (n, f z)) (hl : aeval α lx = some (.int kl a)) (hc : aeval α cx = some (.int kc c)) (h : 0 ≤ a ∧ a ≤ c ∧ c ≤ 2147483648)
    (h3 : Nat.blt 0 n = true) (hn : d < α.n) (hk : ∀ b, K ⟨α.n, (d, .sref b n 0 (List.replicate a.toNat z).length) :: α.E, (b, ⟨n, (List.replicate a.toNat z).map f⟩) :: α.H⟩) : V1 Φ o α K := by
  refine V1.makeSlice ho hd ht hby hz hl hc h.1 h.2.1 h.2.2 h3 hn fun b => ?_
  have := hk b
  rw [List.map_replicate, List.length_replicate] at this
  exact this

/-- A store of a whole element. -/
theorem V1.storeMap [Inhabited β] {t n : Nat} {g : Bool} {ax vx : Operand} {b i k : Nat} {x : β} (ho : o.op = .store t ax vx) (hd : o.dst = none)
    (ht : tyk Φ.P t = some (g, n)) (ha : aeval α ax = some (.ref b n i 0)) (hb : α.H[k]? = some (b, ⟨n, l.map f⟩)) (hi : i < l.length) (hv : aeval α vx = some (f x))
    (hp : (f x).good n = true) (hk : K ⟨α.n, α.E, α.H.set k (b, ⟨n, (l.set i x).map f⟩)⟩) : V1 Φ o α K := by
  refine V1.storeRefAll (k := k) ho hd ht ha hv hb rfl (getMapD hi) hp ?_
  rw [setMap]; exact hk

/-- A store of a cell of an element. -/
theorem V1.storeMapCell [Inhabited β] {t n : Nat} {ax vx : Operand} {b i j k : Nat} {x : β} {p : PV} (ho : o.op = .store t ax vx) (hd : o.dst = none)
    (ht : tyk Φ.P t = some (false, 1)) (ha : aeval α ax = some (.ref b n i j)) (hb : α.H[k]? = some (b, ⟨n, l.map f⟩)) (hi : i < l.length) (hv : aeval α vx = some p)
    (hp : p.good 1 = true) (hp' : p.isAgg 1 = false) (hg : (f (l.getD i default)).good n = true) (hj : Nat.blt j n = true) (hx : (f (l.getD i default)).setCell j p = f x)
    (hk : K ⟨α.n, α.E, α.H.set k (b, ⟨n, (l.set i x).map f⟩)⟩) : V1 Φ o α K := by
  refine V1.storeRef (k := k) ho hd ht ha hv hb rfl (getMapD hi) hp hp' hg hj ?_
  rw [hx, setMap]; exact hk

theorem V1.loadMap [Inhabited β] {d t n m' : Nat} {x : Operand} {b i j k : Nat} {p : PV} (ho : o.op = .load t x) (hd : o.dst = some d)
    (ht : tyk Φ.P t = some (false, m')) (hx : aeval α x = some (.ref b n i j)) (hb : α.H[k]? = some (b, ⟨n, l.map f⟩)) (hi : i < l.length) (hp : (f (l.getD i default)).cellsL[j]? = some p) (hn : d < α.n)
    (hk : K (α.put d p)) : V1 Φ o α K :=
  V1.loadRef (k := k) ho hd ht hx hb rfl (getMapD hi) hp hn hk

theorem V1.loadMapAll [Inhabited β] {d t n m' : Nat} {x : Operand} {b i k : Nat} (ho : o.op = .load t x) (hd : o.dst = some d)
    (ht : tyk Φ.P t = some (true, m')) (hx : aeval α x = some (.ref b n i 0)) (hb : α.H[k]? = some (b, ⟨n, l.map f⟩)) (hi : i < l.length) (hp : (f (l.getD i default)).isAgg m' = true) (hn : d < α.n)
    (hk : K (α.put d (f (l.getD i default)))) : V1 Φ o α K :=
  V1.loadRefAll (k := k) ho hd ht hx hb rfl (getMapD hi) hp hn hk
end

/-! ### Freezing -/
def AllGet (E : List (Nat × PV)) (x : PV) : List Nat → Prop
  | [] => True
  | t :: ts => get E t = some x ∧ AllGet E x ts

theorem AllGet.get {E : List (Nat × PV)} {x : PV} : ∀ {ts : List Nat}, AllGet E x ts → ∀ t, t ∈ ts → Go.VS.get E t = some x
  | t :: ts, h, s, hs => by
    rcases List.mem_cons.1 hs with rfl | hs
    · exact h.1
    · exact AllGet.get h.2 s hs

theorem get_mapc {E : List (Nat × PV)} {y : PV} : ∀ {ts : List Nat} {s : Nat} {x : PV}, Go.VS.get (ts.map (fun t => (t, y)) ++ E) s = some x → (s ∈ ts ∧ x = y) ∨ Go.VS.get E s = some x
  | [], s, x, h => .inr h
  | t :: ts, s, x, h => by
    simp only [List.map_cons, List.cons_append, Go.VS.get] at h
    split at h
    · rename_i e; cases h; exact .inl ⟨by rw [Nat.eq_of_beq_eq_true e]; simp, rfl⟩
    · rcases get_mapc h with ⟨h1, h2⟩ | h1
      · exact .inl ⟨List.mem_cons_of_mem _ h1, h2⟩
      · exact .inr h1

section
variable {Φ : Ctx} {α : AEnv} {β : Type} {f : β → PV} {l : List β}

/-- An own slice is kept from now on; all slots that hold it. -/
theorem Keeps.freezeL (t : Nat) (ts : List Nat) (k ρ : Nat) {b n : Nat} (ht : AllGet α.E (.sref b n 0 l.length) (t :: ts)) (hb : α.H[k]? = some (b, ⟨n, l.map f⟩)) (hro : ∀ x, (f x).ro = true)
    (hρ : ρ = Φ.rn) (hI : ∀ c, Φ.I c → c ∈ (α.H.eraseIdx k).map Prod.fst) : Keeps Φ α ⟨α.n, (t :: ts).map (fun t => (t, .vl ρ n (l.map f))) ++ α.E, α.H.eraseIdx k⟩ := by
  rintro a w ⟨S, he⟩
  have h1 := Keeps.freezeAll (Φ := Φ) t k ρ ht.1 hb rfl (by simp) (roL_map hro l) (.inl hρ) hI a w ⟨S, he⟩
  obtain ⟨S', h1⟩ := h1
  refine ⟨S', { h1 with slots := fun s x hx => ?_ }⟩
  rcases get_mapc hx with ⟨h2, rfl⟩ | h2
  · -- the frozen view of the same value
    have h3 := ht.get s h2
    obtain ⟨v, h4, h5⟩ := he.slots s _ h3
    obtain ⟨v0, h6, h7⟩ := he.slots t _ ht.1
    obtain ⟨v1, h8, h9⟩ := h1.slots t (.vl ρ n (l.map f)) (by simp [Go.VS.get])
    rw [h6] at h8; cases h8
    -- v0 is frozen in S'; v stands for the same own slice
    refine ⟨v, h4, ?_⟩
    unfold Rep at h5 h7 h9
    obtain ⟨hn, us, hg, hr, h9⟩ := h9
    obtain ⟨_, h5⟩ := h5
    obtain ⟨_, h7⟩ := h7
    unfold Rep
    refine ⟨hn, us, hg, hr, ?_⟩
    have hlen : us.length = l.length := by rw [hr.length, List.length_map]
    rcases h5 with ⟨h0, ⟨a', rfl⟩, _⟩ | ⟨cap, c, rfl, hc, hblk, hz⟩
    · exact .inl ⟨List.eq_nil_of_length_eq_zero (by omega), a', 0, rfl⟩
    · rcases h7 with ⟨h0, ⟨a', rfl⟩, _⟩ | ⟨cap', c', rfl, hc', hblk', hz'⟩
      · exact .inl ⟨List.eq_nil_of_length_eq_zero (by omega), some ⟨b, 0 * n, none⟩, cap, by rw [h0]⟩
      · rcases h9 with ⟨rfl, a', cap'', h9⟩ | ⟨b', off, cap'', hS, h9, hcap, hcells⟩
        · simp at hlen
          exact .inl ⟨rfl, some ⟨b, 0 * n, none⟩, cap, by rw [← hlen]⟩
        · simp only [Value.slice.injEq, Option.some.injEq, Addr.mk.injEq] at h9
          obtain ⟨⟨rfl, rfl, _⟩, h10, rfl⟩ := h9
          exact .inr ⟨b, 0 * n, cap, hS, by rw [hlen], by omega, hcells⟩
  · -- as before
    have := h1.slots s x
    by_cases hst : s = t
    · subst hst
      have h3 := ht.1
      rw [h3] at h2; cases h2
      obtain ⟨v, h4, h5⟩ := he.slots s _ h3
      refine ⟨v, h4, ?_⟩
      unfold Rep at h5 ⊢
      obtain ⟨h50, h5⟩ := h5
      refine ⟨rfl, ?_⟩
      rcases h5 with h5 | ⟨cap, c, hv, hc, hblk, hz⟩
      · exact .inl h5
      · exact .inr ⟨cap, c, hv, hc, hblk, hz⟩
    · refine this ?_
      simp only [Go.VS.get]
      have : Nat.beq t s = false := by
        cases hb : Nat.beq t s with
        | true => exact absurd (Nat.eq_of_beq_eq_true hb).symm hst
        | false => rfl
      rw [this]; exact h2

/-- Nil slices are empty slices. -/
theorem Keeps.nilsL (t ρ n : Nat) (f : β → PV) (hn : Nat.blt 0 n = true) (ht : get α.E t = some .nils) : Keeps Φ α ⟨α.n, (t, .vl ρ n (([] : List β).map f)) :: α.E, α.H⟩ := Keeps.nils t ρ n (ltb hn) ht
end

theorem perm_erase {γ : Type} {H : List γ} {k : Nat} {p : γ} (h : H[k]? = some p) : List.Perm H (p :: H.eraseIdx k) := by
  obtain ⟨hk, he⟩ := List.getElem?_eq_some_iff.1 h
  have h1 : H = H.take k ++ p :: H.drop (k + 1) := by rw [← he, List.getElem_cons_drop, List.take_append_drop]
  rw [List.eraseIdx_eq_take_drop_succ]
  conv => lhs; rw [h1]
  exact List.perm_middle

section
variable {Φ : Ctx} {α : AEnv} {K : AEnv → Prop} {o : Oper}

/-- A call that turns one own block; further own blocks are lent. -/
theorem V1.callM {d f : Nat} {c : Call} {ps : List PV} (k τ : Nat) (Bw : List Nat) (qs : List PV) {p : Nat × Obj'} {rn : Nat} {R : PV → List (Nat × Obj') → Prop} (ho : o.op = .call c) (hc : c.callee = .value (.func f)) (hd : o.dst = some d) (hok : callOK Φ.P f = true)
    (hps : argsPV α c.args.toList = some ps) (hp : α.H[k]? = some p) (hl : Lends α τ Bw ps qs) (hbw : ∀ b, b ∈ Bw → b ∈ (α.H.eraseIdx k).map Prod.fst) (hF : Does Φ.P f qs [p] rn R) (hrn : rn = Φ.rn)
    (hno : Bw = [] ∨ (τ ≠ rn ∧ ∀ x H', R x H' → x.no τ = true ∧ ∀ b ob, (b, ob) ∈ H' → PV.noL τ ob.xs = true)) (hn : d < α.n) (hk : ∀ x H', R x H' → K ⟨α.n, (d, x) :: α.E, H' ++ α.H.eraseIdx k⟩) : V1 Φ o α K :=
  V1.callG hd hn (run_call ho hc hok hps) (perm_erase hp) hl hbw hF (.inl hrn) hno hk
end

theorem VO.weakenK {Φ : Ctx} {ops : Array Oper} {l : List Oper} {K : AEnv → Prop} {α α' : AEnv} (hw : Keeps Φ α α') (h : VO Φ ops l K α') : VO Φ ops l K α := fun a w he => h a w (hw a w he)
/-- An operation, and at once a weaker tree. -/
theorem V1.thenK {Φ : Ctx} {o : Oper} {K : AEnv → Prop} {α : AEnv} (h : V1 Φ o α (fun α1 => ∃ α2, Keeps Φ α1 α2 ∧ K α2)) : V1 Φ o α K :=
  fun a w he => Oper.wp_mono (fun _ _ ⟨_, ⟨_, k1, k2⟩, h2⟩ => ⟨_, k2, k1 _ _ h2⟩) (h a w he)
theorem V.weakenK {Φ : Ctx} {c : Code} {Q : Exit → AEnv → Prop} {α α' : AEnv} (hw : Keeps Φ α α') (h : V Φ c Q α') : V Φ c Q α := fun a w he => h a w (hw a w he)

theorem Lend.srMap {α : AEnv} {τ : Nat} {Bw : List Nat} {β : Type} {f : β → PV} {l : List β} (k : Nat) {b n : Nat} (hb : α.H[k]? = some (b, ⟨n, l.map f⟩)) (hro : ∀ x, (f x).ro = true) (hbw : b ∈ Bw) :
    Lend α τ Bw (.sref b n 0 l.length) (.vl τ n (l.map f)) := Lend.srefAll k hb rfl (by simp) (roL_map hro l) hbw

theorem iNil {H : List (Nat × Obj')} : ∀ c, c ∈ List.map Prod.fst ([] : List (Nat × Obj')) → c ∈ H.map Prod.fst := fun c h => by cases h
theorem iOne {H : List (Nat × Obj')} {b : Nat} {o o' : Obj'} (k : Nat) (h : H[k]? = some (b, o)) : ∀ c, c ∈ List.map Prod.fst [(b, o')] → c ∈ H.map Prod.fst := fun c hc => by
  simp only [List.map_cons, List.map_nil, List.mem_singleton] at hc
  subst hc
  exact List.mem_map.2 ⟨_, List.mem_of_getElem? h, rfl⟩

/-- Ways that meet again. -/
theorem V.cutT {Φ : Ctx} {x : Code} {Q : Exit → AEnv → Prop} {α : AEnv} {D : Type} (env : D → AEnv) (P : D → Prop) (h : V Φ x (thenV (fun α' => ∃ d, P d ∧ Keeps Φ α' (env d)) Q) α) (hM : ∀ d, P d → Q .normal (env d)) : V Φ x Q α := by
  intro a w he
  refine wpIn_mono (h a w he) ?_
  rintro e a' w' ⟨α', h1, h2⟩
  cases e with
  | normal =>
    obtain ⟨d, h3, h4⟩ := h1
    exact ⟨env d, hM d h3, h4 a' w' h2⟩
  | _ => exact ⟨α', h1, h2⟩

/-! ### A slice that is nil or an own one -/
def optS (n : Nat) (ob : Option Nat) (len : Nat) : PV := match ob with | none => .nils | some b => .sref b n 0 len
def optH (n : Nat) (ob : Option Nat) (xs : List PV) : List (Nat × Obj') := match ob with | none => [] | some b => [(b, ⟨n, xs⟩)]

section
variable {Φ : Ctx} {α : AEnv} {K : AEnv → Prop} {o : Oper} {β : Type} {f : β → PV} {l m : List β}

theorem Keeps.nilsE (t ρ n : Nat) (f : β → PV) (hl : l = []) (hn : Nat.blt 0 n = true) (ht : get α.E t = some .nils) : Keeps Φ α ⟨α.n, (t, .vl ρ n (l.map f)) :: α.E, α.H⟩ := by
  subst hl; exact Keeps.nils t ρ n (ltb hn) ht

theorem V1.appendNilE {d t u e n : Nat} {c : Call} {sx xx : Operand} {p z : PV} (hl : l = []) (ho : o.op = .call c) (hc : c.callee = .builtin .append) (hca : c.args = #[sx, xx]) (hct : c.argTypes = #[t, u]) (hd : o.dst = some d)
    (ht : elemSz Φ.P t = some (e, n)) (hby : elemBy Φ.P t = true) (hz : zeroK Φ.P e = some (n, z)) (h0n : Nat.blt 0 n = true) (hs : aeval α sx = some .nils)
    (hx : aeval α xx = some p) (hsrc : SrcOf Φ.P α u n p (m.map f)) (h0 : Nat.blt 0 m.length = true) (hfit : (l.length : Int) + (m.length : Int) ≤ 2147483648) (hn : d < α.n)
    (hk : ∀ b', K ⟨α.n, (d, .sref b' n 0 (l ++ m).length) :: α.E, (b', ⟨n, (l ++ m).map f⟩) :: α.H⟩) : V1 Φ o α K := by
  subst hl
  exact V1.appendNilMap ho hc hca hct hd ht hby hz h0n hs hx hsrc h0 (by simpa using hfit) hn hk
end

theorem bwNil {H : List (Nat × Obj')} : ∀ b, b ∈ ([] : List Nat) → b ∈ H.map Prod.fst := fun b h => by cases h
theorem bwCons {H : List (Nat × Obj')} {k b : Nat} {o : Obj'} {L : List Nat} (h : H[k]? = some (b, o)) (r : ∀ b, b ∈ L → b ∈ H.map Prod.fst) : ∀ c, c ∈ b :: L → c ∈ H.map Prod.fst := fun c hc => by
  rcases List.mem_cons.1 hc with rfl | hc
  · exact List.mem_map.2 ⟨_, List.mem_of_getElem? h, rfl⟩
  · exact r c hc

theorem someVl {ρ n : Nat} {xs ys : List PV} (h : xs = ys) : some (PV.vl ρ n xs) = some (.vl ρ n ys) := by rw [h]
theorem someSref {b n o l l' : Nat} (h : l = l') : some (PV.sref b n o l) = some (.sref b n o l') := by rw [h]
theorem sub1 {γ : Type} {H : List γ} {k : Nat} {p : γ} (h : H[k]? = some p) : List.Sublist [p] H := by
  rw [List.singleton_sublist]; exact List.mem_of_getElem? h
end Go.VS
