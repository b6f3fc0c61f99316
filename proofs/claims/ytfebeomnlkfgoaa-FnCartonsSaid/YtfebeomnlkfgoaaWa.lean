/-
  Functions as plain models (what is checked, what is computed), and the walk's rules on typed data. Over any program. No condition.
-/
import Derived.Test.YtfebeomnlkfgoaaVn
import Derived.Test.YtfebeomnlkfgoaaPa
set_option linter.unusedSimpArgs false
set_option linter.unusedVariables false
namespace Go.VS
def asrt {β : Type} (p : Prop) [Decidable p] (k : Option β) : Option β := if p then k else none
theorem asrt_some {β : Type} {p : Prop} [Decidable p] {k : Option β} {r : β} (h : asrt p k = some r) : p ∧ k = some r := by
  unfold asrt at h
  split at h
  · exact ⟨by assumption, h⟩
  · cases h
theorem asrt_pos {β : Type} {p : Prop} [Decidable p] {k : Option β} (h : p) : asrt p k = k := if_pos h
theorem bindO {β γ : Type} {x : Option β} {f : β → Option γ} {r : γ} (h : x.bind f = some r) : ∃ y, x = some y ∧ f y = some r := by
  cases x with
  | none => cases h
  | some y => exact ⟨y, rfl, h⟩
theorem cond_t {β : Type} {c : Bool} {x y : β} {r : β} (hc : c = true) (h : (bif c then x else y) = r) : x = r := by subst hc; exact h
theorem cond_f {β : Type} {c : Bool} {x y : β} {r : β} (hc : c = false) (h : (bif c then x else y) = r) : y = r := by subst hc; exact h
section
variable {S E : Type}
def loopO (step : S → Option (S ⊕ E)) : Nat → S → Option E
  | 0, _ => none
  | n + 1, s => match step s with
    | none => none
    | some (.inl s') => loopO step n s'
    | some (.inr e) => some e
theorem loop_head {step : S → Option (S ⊕ E)} {n : Nat} {s : S} {e : E} (h : loopO step n s = some e) :
    ∃ m y, n = m + 1 ∧ step s = some y ∧ (∀ s', y = .inl s' → loopO step m s' = some e) ∧ (∀ e', y = .inr e' → e' = e) := by
  cases n with
  | zero => cases h
  | succ m =>
    simp only [loopO] at h
    split at h
    · cases h
    · rename_i s' hs; exact ⟨m, _, rfl, hs, fun _ e1 => by cases e1; exact h, fun _ e1 => by cases e1⟩
    · rename_i e' hs
      cases h
      exact ⟨m, _, rfl, hs, (fun _ e1 => by cases e1), (fun _ e1 => by cases e1; rfl)⟩
def rounds : Nat := 1099511627776
def iterO (step : S → Option (S ⊕ E)) (s : S) : Option E := loopO step rounds s
theorem loopO_inv {step : S → Option (S ⊕ E)} (P : S → Prop) (μ : S → Nat) (Q : E → Prop)
    (h : ∀ s, P s → (∃ s', step s = some (.inl s') ∧ P s' ∧ μ s' < μ s) ∨ ∃ e, step s = some (.inr e) ∧ Q e) : ∀ (n : Nat) (s : S), P s → μ s < n → ∃ e, loopO step n s = some e ∧ Q e
  | 0, s, _, h1 => absurd h1 (Nat.not_lt_zero _)
  | n + 1, s, hp, h1 => by
    rcases h s hp with ⟨s', h2, h3, h4⟩ | ⟨e, h2, h3⟩
    · obtain ⟨e, h5, h6⟩ := loopO_inv P μ Q h n s' h3 (by omega)
      exact ⟨e, by simp only [loopO, h2, h5], h6⟩
    · exact ⟨e, by simp only [loopO, h2], h3⟩
end
def slc {β : Type} (l : List β) (a b : Int) : List β := (l.take b.toNat).drop a.toNat
abbrev encU8 (n : Int) : PV := .int .u8 n
theorem roL_map {β : Type} {f : β → PV} (h : ∀ x, (f x).ro = true) (l : List β) : PV.roL (l.map f) = true := by
  rw [roL_iff]; intro x hx; obtain ⟨y, _, rfl⟩ := List.mem_map.1 hx; exact h y
theorem noL_map {β : Type} {f : β → PV} {τ : Nat} (h : ∀ x, (f x).no τ = true) (l : List β) : PV.noL τ (l.map f) = true := by
  rw [noL_iff]; intro x hx; obtain ⟨y, _, rfl⟩ := List.mem_map.1 hx; exact h y
theorem getMapD {β : Type} [Inhabited β] {l : List β} {f : β → PV} {i : Nat} (h : i < l.length) : (l.map f)[i]? = some (f (l.getD i default)) := by
  simp [List.getD, h]
theorem setMap {β : Type} {l : List β} {f : β → PV} {i : Nat} {x : β} : (l.map f).set i (f x) = (l.set i x).map f := List.map_set.symm
theorem natLt {m : Int} {n : Nat} (h0 : 0 ≤ m) (h : m < (n : Int)) : m.toNat < n := by omega
section
variable {Φ : Ctx} {α : AEnv} {K : AEnv → Prop} {o : Oper} {β : Type} {f : β → PV} {l m : List β}
theorem V1.lenMap {d t : Nat} {c : Call} {x : Operand} {ρ n : Nat} (ho : o.op = .call c) (hc : c.callee = .builtin .len) (hca : c.args = #[x]) (hct : c.argTypes = #[t]) (hd : o.dst = some d)
    (hx : aeval α x = some (.vl ρ n (l.map f))) (ht : isSl Φ.P t = true) (hn : d < α.n) (hk : K (α.put d (.int .i64 (l.length : Nat)))) : V1 Φ o α K := by
  refine V1.lenVl ho hc hca hct hd hx ht hn ?_
  rw [List.length_map]; exact hk
theorem V1.sliceMap {d t e n : Nat} {x : Operand} {lo hi : Option Operand} {ρ : Nat} {a b : Int} (ho : o.op = .slice t x lo hi none) (hd : o.dst = some d)
    (ht : elemSz Φ.P t = some (e, n)) (hx : aeval α x = some (.vl ρ n (l.map f))) (hlo : Bnd α lo 0 a.toNat) (hhi : Bnd α hi l.length b.toNat) (h : 0 ≤ a ∧ a ≤ b ∧ b ≤ (l.length : Int)) (hn : d < α.n)
    (hk : K (α.put d (.vl ρ n ((slc l a b).map f)))) : V1 Φ o α K := by
  refine V1.sliceVl (l := a.toNat) (h := b.toNat) ho hd ht hx hlo (by rw [List.length_map]; exact hhi) (by omega) (by rw [List.length_map]; omega) hn ?_
  rw [← List.map_take, ← List.map_drop]; exact hk
theorem V1.indexI [Inhabited β] {d t e n : Nat} {x i : Operand} {ρ : Nat} {k : IntKind} {j : Int} (ho : o.op = .indexAddr t x i) (hd : o.dst = some d)
    (ht : elemSz Φ.P t = some (e, n)) (hx : aeval α x = some (.vl ρ n (l.map f))) (hi : aeval α i = some (.int k j)) (h : 0 ≤ j ∧ j < (l.length : Int)) (hn : d < α.n)
    (hk : K (α.put d (.pin ρ (f (l.getD j.toNat default)) 0))) : V1 Φ o α K :=
  V1.indexMap ho hd ht hx hi h.1 (natLt h.1 h.2) hn hk
theorem V1.indexSr {d t e n : Nat} {x i : Operand} {b len : Nat} {k : IntKind} {j : Int} (ho : o.op = .indexAddr t x i) (hd : o.dst = some d)
    (ht : elemSz Φ.P t = some (e, n)) (hx : aeval α x = some (.sref b n 0 len)) (hi : aeval α i = some (.int k j)) (h : 0 ≤ j ∧ j < (len : Int)) (hn : d < α.n)
    (hk : K (α.put d (.ref b n j.toNat 0))) : V1 Φ o α K := by
  refine V1.indexSref ho hd ht hx hi h.1 (natLt h.1 h.2) hn ?_
  rw [Nat.zero_add]; exact hk
theorem V1.appendMap {d t u e n : Nat} {c : Call} {sx xx : Operand} {b k : Nat} {p z : PV} (ho : o.op = .call c) (hc : c.callee = .builtin .append) (hca : c.args = #[sx, xx]) (hct : c.argTypes = #[t, u]) (hd : o.dst = some d)
    (ht : elemSz Φ.P t = some (e, n)) (hby : elemBy Φ.P t = true) (hz : zeroK Φ.P e = some (n, z)) (hs : aeval α sx = some (.sref b n 0 l.length)) (hb : α.H[k]? = some (b, ⟨n, l.map f⟩))
    (hx : aeval α xx = some p) (hsrc : SrcOf Φ.P α u n p (m.map f)) (hfit : (l.length : Int) + (m.length : Int) ≤ 2147483648) (hn : d < α.n)
    (hk : ∀ b', K ⟨α.n, (d, .sref b' n 0 (l ++ m).length) :: α.E, (b', ⟨n, (l ++ m).map f⟩) :: α.H.eraseIdx k⟩) : V1 Φ o α K := by
  refine V1.append (k := k) ho hc hca hct hd ht hby hz hs hb rfl (by simp) hx hsrc (by simp; omega) hn fun b' => ?_
  have := hk b'
  rw [List.map_append, List.length_append] at this
  rw [List.length_map]; exact this
theorem V1.appendNilMap {d t u e n : Nat} {c : Call} {sx xx : Operand} {p z : PV} (ho : o.op = .call c) (hc : c.callee = .builtin .append) (hca : c.args = #[sx, xx]) (hct : c.argTypes = #[t, u]) (hd : o.dst = some d)
    (ht : elemSz Φ.P t = some (e, n)) (hby : elemBy Φ.P t = true) (hz : zeroK Φ.P e = some (n, z)) (h0n : Nat.blt 0 n = true) (hs : aeval α sx = some .nils)
    (hx : aeval α xx = some p) (hsrc : SrcOf Φ.P α u n p (m.map f)) (h0 : Nat.blt 0 m.length = true) (hfit : (m.length : Int) ≤ 2147483648) (hn : d < α.n)
    (hk : ∀ b', K ⟨α.n, (d, .sref b' n 0 m.length) :: α.E, (b', ⟨n, m.map f⟩) :: α.H⟩) : V1 Φ o α K := by
  have h0 := ltb h0
  refine V1.appendNil ho hc hca hct hd ht hby hz h0n (.inl hs) hx hsrc (by simpa using h0) (by simp; omega) hn fun b' => ?_
  rw [List.length_map]; exact hk b'
theorem SrcOf.srMap {P : Program} {u n k b : Nat} (hb : α.H[k]? = some (b, ⟨n, m.map f⟩)) (hu : isSl P u = true) : SrcOf P α u n (.sref b n 0 m.length) (m.map f) :=
  SrcOf.srefAll hb rfl (by simp) hu
theorem V1.storeMap [Inhabited β] {t n : Nat} {g : Bool} {ax vx : Operand} {b i k : Nat} {x : β} (ho : o.op = .store t ax vx) (hd : o.dst = none)
    (ht : tyk Φ.P t = some (g, n)) (ha : aeval α ax = some (.ref b n i 0)) (hb : α.H[k]? = some (b, ⟨n, l.map f⟩)) (hi : i < l.length) (hv : aeval α vx = some (f x))
    (hp : (f x).good n = true) (hk : K ⟨α.n, α.E, α.H.set k (b, ⟨n, (l.set i x).map f⟩)⟩) : V1 Φ o α K := by
  refine V1.storeRefAll (k := k) ho hd ht ha hv hb rfl (getMapD hi) hp ?_
  rw [setMap]; exact hk
theorem V1.loadMap [Inhabited β] {d t n m' : Nat} {x : Operand} {b i j k : Nat} {p : PV} (ho : o.op = .load t x) (hd : o.dst = some d)
    (ht : tyk Φ.P t = some (false, m')) (hx : aeval α x = some (.ref b n i j)) (hb : α.H[k]? = some (b, ⟨n, l.map f⟩)) (hi : i < l.length) (hp : (f (l.getD i default)).cellsL[j]? = some p) (hn : d < α.n)
    (hk : K (α.put d p)) : V1 Φ o α K :=
  V1.loadRef (k := k) ho hd ht hx hb rfl (getMapD hi) hp hn hk
theorem V1.loadMapAll [Inhabited β] {d t n m' : Nat} {x : Operand} {b i k : Nat} (ho : o.op = .load t x) (hd : o.dst = some d)
    (ht : tyk Φ.P t = some (true, m')) (hx : aeval α x = some (.ref b n i 0)) (hb : α.H[k]? = some (b, ⟨n, l.map f⟩)) (hi : i < l.length) (hp : (f (l.getD i default)).isAgg m' = true) (hn : d < α.n)
    (hk : K (α.put d (f (l.getD i default)))) : V1 Φ o α K :=
  V1.loadRefAll (k := k) ho hd ht hx hb rfl (getMapD hi) hp hn hk
end
def AllGet (E : List (Nat × PV)) (x : PV) : List Nat → Prop
  | [] => True
  | t :: ts => get E t = some x ∧ AllGet E x ts
theorem AllGet.get {E : List (Nat × PV)} {x : PV} : ∀ {ts : List Nat}, AllGet E x ts → ∀ t, t ∈ ts → Go.VS.get E t = some x
  | t :: ts, h, s, hs => by
    rcases List.mem_cons.1 hs with rfl | hs
    · exact h.1
    · exact AllGet.get h.2 s hs
section
variable {Φ : Ctx} {α : AEnv} {β : Type} {f : β → PV} {l : List β}
end
theorem perm_erase {γ : Type} {H : List γ} {k : Nat} {p : γ} (h : H[k]? = some p) : List.Perm H (p :: H.eraseIdx k) := by
  obtain ⟨hk, he⟩ := List.getElem?_eq_some_iff.1 h
  have h1 : H = H.take k ++ p :: H.drop (k + 1) := by rw [← he, List.getElem_cons_drop, List.take_append_drop]
  rw [List.eraseIdx_eq_take_drop_succ]
  conv => lhs; rw [h1]
  exact List.perm_middle
section
variable {Φ : Ctx} {α : AEnv} {K : AEnv → Prop} {o : Oper}
theorem V1.callM {d f : Nat} {c : Call} {ps : List PV} (k τ : Nat) (Bw : List Nat) (qs : List PV) {p : Nat × Obj'} {rn : Nat} {R : PV → List (Nat × Obj') → Prop} (ho : o.op = .call c) (hc : c.callee = .value (.func f)) (hd : o.dst = some d) (hok : callOK Φ.P f = true)
    (hps : argsPV α c.args.toList = some ps) (hp : α.H[k]? = some p) (hl : Lends α τ Bw ps qs) (hbw : ∀ b, b ∈ Bw → b ∈ (α.H.eraseIdx k).map Prod.fst) (hF : Does Φ.P f qs [p] rn R) (hrn : rn = Φ.rn)
    (hno : Bw = [] ∨ (τ ≠ rn ∧ ∀ x H', R x H' → x.no τ = true ∧ ∀ b ob, (b, ob) ∈ H' → PV.noL τ ob.xs = true)) (hn : d < α.n) (hk : ∀ x H', R x H' → K ⟨α.n, (d, x) :: α.E, H' ++ α.H.eraseIdx k⟩) : V1 Φ o α K :=
  V1.callG hd hn (run_call ho hc hok hps) (perm_erase hp) hl hbw hF (.inl hrn) hno hk
end
theorem VO.weakenK {Φ : Ctx} {ops : Array Oper} {l : List Oper} {K : AEnv → Prop} {α α' : AEnv} (hw : Keeps Φ α α') (h : VO Φ ops l K α') : VO Φ ops l K α := fun a w he => h a w (hw a w he)
theorem V.weakenK {Φ : Ctx} {c : Code} {Q : Exit → AEnv → Prop} {α α' : AEnv} (hw : Keeps Φ α α') (h : V Φ c Q α') : V Φ c Q α := fun a w he => h a w (hw a w he)
theorem Lend.srMap {α : AEnv} {τ : Nat} {Bw : List Nat} {β : Type} {f : β → PV} {l : List β} (k : Nat) {b n : Nat} (hb : α.H[k]? = some (b, ⟨n, l.map f⟩)) (hro : ∀ x, (f x).ro = true) (hbw : b ∈ Bw) :
    Lend α τ Bw (.sref b n 0 l.length) (.vl τ n (l.map f)) := Lend.srefAll k hb rfl (by simp) (roL_map hro l) hbw
theorem iNil {H : List (Nat × Obj')} : ∀ c, c ∈ List.map Prod.fst ([] : List (Nat × Obj')) → c ∈ H.map Prod.fst := fun c h => by cases h
theorem iOne {H : List (Nat × Obj')} {b : Nat} {o o' : Obj'} (k : Nat) (h : H[k]? = some (b, o)) : ∀ c, c ∈ List.map Prod.fst [(b, o')] → c ∈ H.map Prod.fst := fun c hc => by
  simp only [List.map_cons, List.map_nil, List.mem_singleton] at hc
  subst hc
  exact List.mem_map.2 ⟨_, List.mem_of_getElem? h, rfl⟩
theorem V.cutT {Φ : Ctx} {x : Code} {Q : Exit → AEnv → Prop} {α : AEnv} {D : Type} (env : D → AEnv) (P : D → Prop) (h : V Φ x (thenV (fun α' => ∃ d, P d ∧ Keeps Φ α' (env d)) Q) α) (hM : ∀ d, P d → Q .normal (env d)) : V Φ x Q α := by
  intro a w he
  refine wp_mono (h a w he) ?_
  rintro e a' w' ⟨α', h1, h2⟩
  cases e with
  | normal =>
    obtain ⟨d, h3, h4⟩ := h1
    exact ⟨env d, hM d h3, h4 a' w' h2⟩
  | _ => exact ⟨α', h1, h2⟩
def optS (n : Nat) (ob : Option Nat) (len : Nat) : PV := match ob with | none => .nils | some b => .sref b n 0 len
def optH (n : Nat) (ob : Option Nat) (xs : List PV) : List (Nat × Obj') := match ob with | none => [] | some b => [(b, ⟨n, xs⟩)]
section
variable {Φ : Ctx} {α : AEnv} {K : AEnv → Prop} {o : Oper} {β : Type} {f : β → PV} {l m : List β}
theorem Keeps.nilsE (t ρ n : Nat) (f : β → PV) (hl : l = []) (hn : Nat.blt 0 n = true) (ht : get α.E t = some .nils) : Keeps Φ α ⟨α.n, (t, .vl ρ n (l.map f)) :: α.E, α.H⟩ := by
  subst hl; exact Keeps.nils t ρ n (ltb hn) ht
theorem V1.appendNilE {d t u e n : Nat} {c : Call} {sx xx : Operand} {p z : PV} (hl : l = []) (ho : o.op = .call c) (hc : c.callee = .builtin .append) (hca : c.args = #[sx, xx]) (hct : c.argTypes = #[t, u]) (hd : o.dst = some d)
    (ht : elemSz Φ.P t = some (e, n)) (hby : elemBy Φ.P t = true) (hz : zeroK Φ.P e = some (n, z)) (h0n : Nat.blt 0 n = true) (hs : aeval α sx = some .nils)
    (hx : aeval α xx = some p) (hsrc : SrcOf Φ.P α u n p (m.map f)) (h0 : Nat.blt 0 m.length = true) (hfit : (l.length : Int) + (m.length : Int) ≤ 2147483648) (hn : d < α.n)
    (hk : ∀ b', K ⟨α.n, (d, .sref b' n 0 (l ++ m).length) :: α.E, (b', ⟨n, (l ++ m).map f⟩) :: α.H⟩) : V1 Φ o α K := by
  subst hl
  exact V1.appendNilMap ho hc hca hct hd ht hby hz h0n hs hx hsrc h0 (by simpa using hfit) hn hk
end
theorem bwNil {H : List (Nat × Obj')} : ∀ b, b ∈ ([] : List Nat) → b ∈ H.map Prod.fst := fun b h => by cases h
theorem bwCons {H : List (Nat × Obj')} {k b : Nat} {o : Obj'} {L : List Nat} (h : H[k]? = some (b, o)) (r : ∀ b, b ∈ L → b ∈ H.map Prod.fst) : ∀ c, c ∈ b :: L → c ∈ H.map Prod.fst := fun c hc => by
  rcases List.mem_cons.1 hc with rfl | hc
  · exact List.mem_map.2 ⟨_, List.mem_of_getElem? h, rfl⟩
  · exact r c hc
theorem someSref {b n o l l' : Nat} (h : l = l') : some (PV.sref b n o l) = some (.sref b n o l') := by rw [h]
theorem sub1 {γ : Type} {H : List γ} {k : Nat} {p : γ} (h : H[k]? = some p) : List.Sublist [p] H := by
  rw [List.singleton_sublist]; exact List.mem_of_getElem? h
end Go.VS
