/-
  Weaker trees; slices that may be nil; freezing what boxes hold. Over any program. No condition.
-/
import Derived.Test.YteocnbeefedbkaaWa
set_option linter.unusedSimpArgs false
set_option linter.unusedVariables false
namespace Go.VS

/-! ### Weaker trees -/
def PV.Le (x y : PV) : Prop := ∀ (w : World) (S : Nat → Nat → Prop) (own : Bool) (v : Value), Rep w S own x v → Rep w S own y v
def PV.LeL (xs ys : List PV) : Prop := ∀ (w : World) (S : Nat → Nat → Prop) (own : Bool) (us : List Value), Reps w S own xs us → Reps w S own ys us

theorem PV.Le.same {x : PV} : PV.Le x x := fun _ _ _ _ h => h
theorem PV.LeL.nil : PV.LeL [] [] := fun _ _ _ _ h => h
theorem PV.LeL.cons {x y : PV} {xs ys : List PV} (h : PV.Le x y) (h' : PV.LeL xs ys) : PV.LeL (x :: xs) (y :: ys) := fun w S own us hr => by
  rw [Reps.cons_iff] at hr ⊢
  obtain ⟨u, us', e, h1, h2⟩ := hr
  exact ⟨u, us', e, h _ _ _ _ h1, h' _ _ _ _ h2⟩
theorem PV.Le.agg {xs ys : List PV} (h : PV.LeL xs ys) : PV.Le (.agg xs) (.agg ys) := fun w S own v hr => by
  unfold Rep at hr ⊢
  obtain ⟨us, h1, h2, h3⟩ := hr
  exact ⟨us, h1, h2, h _ _ _ _ h3⟩
theorem PV.Le.nils {β : Type} {f : β → PV} {l : List β} (ρ n : Nat) (hl : l = []) (hn : Nat.blt 0 n = true) : PV.Le .nils (.vl ρ n (l.map f)) := fun w S own v hr => by
  subst hl
  unfold Rep at hr ⊢
  exact ⟨ltb hn, [], by simp, by simp [Reps.nil_iff], .inl ⟨rfl, none, 0, hr⟩⟩
theorem PV.LeL.rep {x y : PV} (h : PV.Le x y) : ∀ k, PV.LeL (List.replicate k x) (List.replicate k y)
  | 0 => .nil
  | k + 1 => .cons h (PV.LeL.rep h k)

section
variable {Φ : Ctx} {α : AEnv}

theorem Keeps.le (t : Nat) {x : PV} (y : PV) (ht : get α.E t = some x) (h : PV.Le x y) : Keeps Φ α ⟨α.n, (t, y) :: α.E, α.H⟩ := by
  rintro a w ⟨S, he⟩
  refine ⟨S, { he with slots := fun s z hz => ?_ }⟩
  simp only [get] at hz
  split at hz
  · rename_i e
    have e := Nat.eq_of_beq_eq_true e
    subst e
    cases hz
    obtain ⟨v, h1, h2⟩ := he.slots t _ ht
    exact ⟨v, h1, h _ _ _ _ h2⟩
  · exact he.slots s z hz

theorem mem_set_of {γ : Type} {H : List γ} {k : Nat} {p q : γ} (h : q ∈ H.set k p) : q = p ∨ q ∈ H := by
  rcases List.mem_or_eq_of_mem_set h with h | h
  · exact .inr h
  · exact .inl h

theorem Keeps.leObj (k : Nat) {b n : Nat} {xs : List PV} (ys : List PV) (hb : α.H[k]? = some (b, ⟨n, xs⟩)) (h : PV.LeL xs ys) : Keeps Φ α ⟨α.n, α.E, α.H.set k (b, ⟨n, ys⟩)⟩ := by
  rintro a w ⟨S, he⟩
  refine ⟨S, { he with objs := fun c o hc => ?_, nodup := ?_ }⟩
  · rcases mem_set_of hc with hc | hc
    · cases hc
      obtain ⟨h1, h2, h3⟩ := he.objs b _ (List.mem_of_getElem? hb)
      refine ⟨?_, h2, h3⟩
      obtain ⟨hn, c, us, h4, h5, h6, h7, h8⟩ := h1
      exact ⟨hn, c, us, h4, h5, h6, h _ _ _ _ h7, h8⟩
    · exact he.objs c o hc
  · have := he.nodup
    rw [← set_keys (p := (b, ⟨n, ys⟩)) hb] at this
    exact this

theorem V1.makeMapLe {K : AEnv → Prop} {o : Oper} {β : Type} {f : β → PV} {d t e n : Nat} {lx cx : Operand} {z : β} {z' : PV} {kl kc : IntKind} {a c : Int} (ho : o.op = .makeSlice t lx cx) (hd : o.dst = some d)
    (ht : elemSz Φ.P t = some (e, n)) (hby : elemBy Φ.P t = true) (hz : zeroK Φ.P e = some (n, z')) (hle : PV.Le z' (f z)) (hl : aeval α lx = some (.int kl a)) (hc : aeval α cx = some (.int kc c)) (h : 0 ≤ a ∧ a ≤ c ∧ c ≤ 2147483648)
    (h3 : Nat.blt 0 n = true) (hn : d < α.n) (hk : ∀ b, K ⟨α.n, (d, .sref b n 0 (List.replicate a.toNat z).length) :: α.E, (b, ⟨n, (List.replicate a.toNat z).map f⟩) :: α.H⟩) : V1 Φ o α K := by
  have h1 : V1 Φ o α (fun α' => ∃ b, α' = ⟨α.n, (d, .sref b n 0 a.toNat) :: α.E, (b, ⟨n, List.replicate a.toNat z'⟩) :: α.H⟩) := V1.makeSlice ho hd ht hby hz hl hc h.1 h.2.1 h.2.2 h3 hn fun b => ⟨b, rfl⟩
  intro a0 w he
  refine Oper.wp_mono ?_ (h1 a0 w he)
  rintro a' w' ⟨α', ⟨b, rfl⟩, h2⟩
  refine ⟨_, hk b, ?_⟩
  have := Keeps.leObj (Φ := Φ) 0 (List.replicate a.toNat (f z)) (α := ⟨α.n, (d, .sref b n 0 a.toNat) :: α.E, (b, ⟨n, List.replicate a.toNat z'⟩) :: α.H⟩) rfl (PV.LeL.rep hle _) a' w' h2
  rw [List.map_replicate, List.length_replicate]
  exact this

theorem V1.buildSliceT {K : AEnv → Prop} {o : Oper} {β : Type} {f : β → PV} (l : List β) {d t e n len : Nat} {parts : Array (Nat × Operand)} {z : PV} {ps : List (Nat × PV)} (ho : o.op = .buildSlice t len parts) (hd : o.dst = some d)
    (ht : elemSz Φ.P t = some (e, n)) (hz : zeroK Φ.P e = some (n, z)) (hps : partsPV α parts.toList = some ps) (hidx : (ps.map Prod.fst) = List.range len) (hg : ps.all (fun x => x.2.good n) = true)
    (h0 : Nat.blt 0 n = true) (hsz : Nat.ble (len * n) 16777216 = true) (hxs : ps.map Prod.snd = l.map f) (hlen : len = l.length) (hn : d < α.n)
    (hk : ∀ b, K ⟨α.n, (d, .sref b n 0 l.length) :: α.E, (b, ⟨n, l.map f⟩) :: α.H⟩) : V1 Φ o α K := by
  refine V1.buildSlice ho hd ht hz hps hidx hg h0 hsz hn fun b => ?_
  rw [hxs, hlen]; exact hk b

theorem nbeq {a b : Nat} : (Nat.beq a b = false) = (a ≠ b) := by
  apply propext
  constructor
  · intro h e; subst e; simp at h
  · intro h
    cases hb : Nat.beq a b with
    | false => rfl
    | true => exact absurd (Nat.eq_of_beq_eq_true hb) h

theorem V1.lenNilsE {K : AEnv → Prop} {o : Oper} {β : Type} {l : List β} {d t : Nat} {c : Call} {x : Operand} (hl : l = []) (ho : o.op = .call c) (hc : c.callee = .builtin .len) (hca : c.args = #[x]) (hct : c.argTypes = #[t]) (hd : o.dst = some d)
    (hx : aeval α x = some .nils) (ht : isSl Φ.P t = true) (hn : d < α.n) (hk : K (α.put d (.int .i64 (l.length : Nat)))) : V1 Φ o α K := by
  subst hl; exact V1.lenNils ho hc hca hct hd hx ht hn hk

/-! ### Slices that are nil or own ones -/
theorem HeapSub {H H' : List (Nat × Obj')} (h : List.Sublist H' H) {a : Act} {w : World} {n : Nat} {E : List (Nat × PV)} (he : ER Φ ⟨n, E, H⟩ a w) : ER Φ ⟨n, E, H'⟩ a w := by
  obtain ⟨S, he⟩ := he
  exact ⟨S, he.keep (fun _ _ h => h) h⟩

theorem Keeps.optVl {β : Type} {f : β → PV} {l : List β} (t : Nat) (ts : List Nat) (ρ : Nat) {n : Nat} {ob : Option Nat} {H1 H2 : List (Nat × Obj')} (hob : ob = none → l = []) (hn : Nat.blt 0 n = true)
    (hH : α.H = H1 ++ (optH n ob (l.map f) ++ H2)) (ht : AllGet α.E (optS n ob l.length) (t :: ts)) (hro : ∀ x, (f x).ro = true)
    (hρ : ρ = Φ.rn) (hI : ∀ c, Φ.I c → c ∈ (H1 ++ H2).map Prod.fst) : Keeps Φ α ⟨α.n, (t :: ts).map (fun t => (t, .vl ρ n (l.map f))) ++ α.E, H1 ++ H2⟩ := by
  obtain ⟨N, E, H⟩ := α
  simp only at hH ht ⊢
  subst hH
  cases ob with
  | none =>
    have hl := hob rfl
    rintro a w ⟨S, he⟩
    refine ⟨S, { he with slots := fun s x hx => ?_, objs := he.objs, nodup := he.nodup }⟩
    rcases get_mapc hx with ⟨h2, rfl⟩ | h2
    · obtain ⟨v, h3, h4⟩ := he.slots s _ (ht.get s h2)
      exact ⟨v, h3, PV.Le.nils ρ n hl hn _ _ _ _ h4⟩
    · exact he.slots s x h2
  | some b =>
    have hk : (H1 ++ (optH n (some b) (l.map f) ++ H2))[H1.length]? = some (b, ⟨n, l.map f⟩) := by
      rw [List.getElem?_append_right (Nat.le_refl _)]; simp [optH]
    have he : (H1 ++ (optH n (some b) (l.map f) ++ H2)).eraseIdx H1.length = H1 ++ H2 := by
      rw [List.eraseIdx_append_of_length_le (Nat.le_refl _)]; simp [optH]
    have := Keeps.freezeL (Φ := Φ) (α := ⟨N, E, H1 ++ (optH n (some b) (l.map f) ++ H2)⟩) t ts H1.length ρ (b := b) (n := n) ht hk hro hρ (by simp only [he]; exact hI)
    simp only [he] at this
    exact this
end

theorem Keeps.optDrop {Φ : Ctx} {α : AEnv} {n : Nat} {ob : Option Nat} {xs : List PV} {H1 H2 : List (Nat × Obj')} (hH : α.H = H1 ++ (optH n ob xs ++ H2)) : Keeps Φ α ⟨α.n, α.E, H1 ++ H2⟩ := by
  obtain ⟨N, E, H⟩ := α
  simp only at hH ⊢
  subst hH
  intro a w he
  exact HeapSub (List.Sublist.append (List.Sublist.refl _) (List.sublist_append_right _ _)) he

theorem nilsNo {β : Type} {l : List β} {i : Int} (hl : l = []) (h : 0 ≤ i ∧ i < (l.length : Int)) : False := by subst hl; simp at h; omega

theorem optS_no {n len τ : Nat} {ob : Option Nat} : (optS n ob len).no τ = true := by cases ob <;> rfl
theorem optH_no {n τ : Nat} {ob : Option Nat} {xs : List PV} (h : PV.noL τ xs = true) : ∀ b o, (b, o) ∈ optH n ob xs → PV.noL τ o.xs = true := by
  intro b o hb
  cases ob with
  | none => cases hb
  | some c => simp [optH] at hb; rw [hb.2]; exact h

/-! ### Freezing an own slice wherever it is held -/
mutual
inductive Frz (b n len ρ : Nat) (xs : List PV) : PV → PV → Prop
  | same {x : PV} : Frz b n len ρ xs x x
  | here : Frz b n len ρ xs (.sref b n 0 len) (.vl ρ n xs)
  | agg {cs ds : List PV} : FrzL b n len ρ xs cs ds → Frz b n len ρ xs (.agg cs) (.agg ds)
  | mp {r c : Nat} {ks : List Int} {cs ds : List PV} : FrzL b n len ρ xs cs ds → Frz b n len ρ xs (.mp r c ks cs) (.mp r c ks ds)
inductive FrzL (b n len ρ : Nat) (xs : List PV) : List PV → List PV → Prop
  | nil : FrzL b n len ρ xs [] []
  | cons {x y : PV} {cs ds : List PV} : Frz b n len ρ xs x y → FrzL b n len ρ xs cs ds → FrzL b n len ρ xs (x :: cs) (y :: ds)
end

section
variable {w : World} {S S' : Nat → Nat → Prop} {b n len ρ : Nat} {xs : List PV}

mutual
theorem Frz.rep (hS : ∀ ρ b, S ρ b → S' ρ b) (hh : ∀ own v, Rep w S own (.sref b n 0 len) v → Rep w S' own (.vl ρ n xs) v) : ∀ {x y : PV}, Frz b n len ρ xs x y → ∀ {own : Bool} {v : Value}, Rep w S own x v → Rep w S' own y v
  | _, _, .same, _, _, h => h.grow hS
  | _, _, .here, _, _, h => hh _ _ h
  | _, _, .agg hl, _, _, h => by
    unfold Rep at h ⊢
    obtain ⟨us, h1, h2, h3⟩ := h
    exact ⟨us, h1, h2, FrzL.reps hS hh hl h3⟩
  | _, _, .mp hl, _, _, h => by
    unfold Rep at h ⊢
    obtain ⟨hb, hv, es, clock, h1, h2, h3⟩ := h
    exact ⟨hS _ _ hb, hv, es, clock, h1, h2, FrzL.reps hS hh hl h3⟩
theorem FrzL.reps (hS : ∀ ρ b, S ρ b → S' ρ b) (hh : ∀ own v, Rep w S own (.sref b n 0 len) v → Rep w S' own (.vl ρ n xs) v) : ∀ {cs ds : List PV}, FrzL b n len ρ xs cs ds → ∀ {own : Bool} {us : List Value}, Reps w S own cs us → Reps w S' own ds us
  | _, _, .nil, _, _, h => by rw [Reps.nil_iff] at h ⊢; exact h
  | _, _, .cons h1 h2, _, _, h => by
    rw [Reps.cons_iff] at h ⊢
    obtain ⟨u, us', e, h3, h4⟩ := h
    exact ⟨u, us', e, Frz.rep hS hh h1 h3, FrzL.reps hS hh h2 h4⟩
end
end

/-- Slots that are said anew. -/
def FrzE (b n len ρ : Nat) (xs : List PV) (E : List (Nat × PV)) : List (Nat × PV) → Prop
  | [] => True
  | (t, y) :: r => (∃ x, get E t = some x ∧ Frz b n len ρ xs x y) ∧ FrzE b n len ρ xs E r
/-- Own blocks that are said anew. -/
def FrzH (b n len ρ : Nat) (xs : List PV) : List (Nat × Obj') → List (Nat × Obj') → Prop
  | H, [] => H = []
  | H, (c, o') :: H' => ∃ o r, H = (c, o) :: r ∧ o.n = o'.n ∧ (o = o' ∨ FrzL b n len ρ xs o.xs o'.xs) ∧ FrzH b n len ρ xs r H'

theorem get_append' {D E : List (Nat × PV)} {s : Nat} {x : PV} (h : get (D ++ E) s = some x) : get D s = some x ∨ get E s = some x := by
  rw [get_append] at h
  split at h
  · left; rename_i h1; rw [h1]; exact h
  · exact .inr h

theorem FrzE.get {b n len ρ : Nat} {xs : List PV} {E : List (Nat × PV)} : ∀ {D : List (Nat × PV)}, FrzE b n len ρ xs E D → ∀ {s : Nat} {y : PV}, Go.VS.get D s = some y → ∃ x, Go.VS.get E s = some x ∧ Frz b n len ρ xs x y
  | (t, z) :: r, h, s, y, hy => by
    simp only [Go.VS.get] at hy
    split at hy
    · rename_i e; cases hy; rw [← Nat.eq_of_beq_eq_true e]; exact h.1
    · exact FrzE.get h.2 hy

theorem FrzH.keys {b n len ρ : Nat} {xs : List PV} : ∀ {H H' : List (Nat × Obj')}, FrzH b n len ρ xs H H' → H'.map Prod.fst = H.map Prod.fst
  | H, [], h => by simp only [FrzH] at h; subst h; rfl
  | H, (c, o') :: H', h => by obtain ⟨o, r, rfl, _, _, h⟩ := h; simp [FrzH.keys h]

theorem FrzH.mem {b n len ρ : Nat} {xs : List PV} : ∀ {H H' : List (Nat × Obj')}, FrzH b n len ρ xs H H' → ∀ c o', (c, o') ∈ H' → ∃ o, (c, o) ∈ H ∧ o.n = o'.n ∧ (o = o' ∨ FrzL b n len ρ xs o.xs o'.xs)
  | H, (d, p') :: H', h, c, o', hc => by
    obtain ⟨o, r, rfl, h1, h2, h3⟩ := h
    rcases List.mem_cons.1 hc with hc | hc
    · cases hc; exact ⟨o, by simp, h1, h2⟩
    · obtain ⟨q, h4, h5⟩ := FrzH.mem h3 c o' hc
      exact ⟨q, List.mem_cons_of_mem _ h4, h5⟩

theorem Keeps.freezeG {Φ : Ctx} {α : AEnv} {β : Type} {f : β → PV} {l : List β} (k ρ : Nat) (E1 : List (Nat × PV)) (H1 : List (Nat × Obj')) {b n : Nat} (hb : α.H[k]? = some (b, ⟨n, l.map f⟩)) (hro : ∀ x, (f x).ro = true)
    (hE : FrzE b n l.length ρ (l.map f) α.E E1) (hH : FrzH b n l.length ρ (l.map f) (α.H.eraseIdx k) H1) (hρ : ρ = Φ.rn) (hI : ∀ c, Φ.I c → c ∈ (α.H.eraseIdx k).map Prod.fst) : Keeps Φ α ⟨α.n, E1 ++ α.E, H1⟩ := by
  rintro a w ⟨S, he⟩
  obtain ⟨hob, hnS, hfr⟩ := he.objK hb
  have hlt := hob.lt
  have hsub : (α.H.eraseIdx k).Sublist α.H := List.eraseIdx_sublist _ _
  have hdiff : b ∉ (α.H.eraseIdx k).map Prod.fst := by
    intro hm
    have hnd := he.nodup
    obtain ⟨hkl, hke⟩ := List.getElem?_eq_some_iff.1 hb
    have hsplit : α.H = α.H.take k ++ (b, ⟨n, l.map f⟩) :: α.H.drop (k + 1) := by rw [← hke, List.getElem_cons_drop, List.take_append_drop]
    have hers : α.H.eraseIdx k = α.H.take k ++ α.H.drop (k + 1) := List.eraseIdx_eq_take_drop_succ _ _
    rw [hers] at hm
    rw [hsplit] at hnd
    simp only [List.map_append, List.map_cons, List.mem_append] at hm hnd
    rw [List.nodup_append] at hnd
    obtain ⟨_, h2, h3⟩ := hnd
    rcases hm with hm | hm
    · exact h3 b hm b (by simp) rfl
    · exact (List.nodup_cons.1 h2).1 hm
  have hnew : Φ.w0.heap.size ≤ b := hfr.resolve_right fun hi => hdiff (hI b hi)
  let S' : Nat → Nat → Prop := fun r c => S r c ∨ (r = ρ ∧ c = b)
  have hS : ∀ r c, S r c → S' r c := fun _ _ h => .inl h
  have hst : Env Φ S' ⟨α.n, α.E, α.H.eraseIdx k⟩ a w := by
    refine he.step (Ext.refl (fun _ => False) w) (fun _ _ h => h.elim) hS ?_ ?_ (he.nodup.sublist (hsub.map _))
    · rintro r c (h | ⟨rfl, rfl⟩)
      · exact .inl h
      · refine .inr ⟨.inl hρ, hnew, hlt, fun _ r' h => absurd h (hnS r'), fun _ r' h => ?_⟩
        rcases h with h | ⟨h, _⟩
        · exact absurd h (hnS r')
        · exact h
    · intro c o hc
      obtain ⟨q1, q2, q3⟩ := he.objs c o (hsub.subset hc)
      refine ⟨he.obj_step (Ext.refl (fun _ => False) w) (fun _ _ h => h.elim) hS (hsub.subset hc) id, ?_, q3⟩
      rintro r (h | ⟨_, rfl⟩)
      · exact q2 r h
      · exact hdiff (List.mem_map.2 ⟨(c, o), hc, rfl⟩)
  have hh : ∀ own v, Rep w S own (.sref b n 0 l.length) v → Rep w S' own (.vl ρ n (l.map f)) v := by
    intro own v hv
    have := Rep.srefVl (S' := S') (τ := ρ) (own := own) (off := 0) (len := l.length) he hb rfl (by simp) (roL_map hro l) hS (.inr ⟨rfl, rfl⟩) (v := v) (by
      unfold Rep at hv ⊢; exact ⟨rfl, hv.2⟩)
    have e : ((l.map f).drop 0).take l.length = l.map f := by rw [List.drop_zero, List.take_of_length_le (by simp)]
    simp only at this
    rw [e] at this
    exact this
  refine ⟨S', { hst with slots := fun s x hx => ?_, objs := fun c o' hc => ?_, nodup := ?_ }⟩
  · rcases get_append' hx with h1 | h1
    · obtain ⟨x0, h2, h3⟩ := hE.get h1
      obtain ⟨v, h4, h5⟩ := he.slots s x0 h2
      exact ⟨v, h4, h3.rep hS hh h5⟩
    · exact hst.slots s x h1
  · obtain ⟨o, h1, h2, h3⟩ := hH.mem c o' hc
    obtain ⟨q1, q2, q3⟩ := hst.objs c o h1
    refine ⟨?_, q2, q3⟩
    rcases h3 with rfl | h3
    · exact q1
    · obtain ⟨p1, p2⟩ := (he.objs c o (hsub.subset h1)).1
      obtain ⟨c0, us, p3, p4, p5, p6, p7⟩ := p2
      refine ⟨by rw [← h2]; exact p1, c0, us, p3, by rw [← h2]; exact p4, by rw [← h2]; exact p5, h3.reps hS hh p6, by rw [← h2]; exact p7⟩
  · rw [hH.keys]; exact hst.nodup
end Go.VS
