/-
  slices.Insert of one row at deep lists; stores into their rows. Over any program. No condition.
-/
import Derived.Test.YteocnbeefedbkaaDoorWt
set_option linter.unusedSimpArgs false
set_option linter.unusedVariables false
namespace Go.VS

def insM {β : Type} (s : List β) (i : Int) (v : List β) : Option (List β) := asrt ((0 : Int) ≤ i ∧ i ≤ (s.length : Int) ∧ (s.length : Int) ≤ 2147483647 ∧ v.length = 1) <| some (s.take i.toNat ++ v ++ s.drop i.toNat)

section
variable {T : Type} {m : Nat} {inn : T → List PV} {cell : PV → T → PV}

theorem Deep.ins {ts ts2 : List PV} {os os2 : List (Nat × Obj')} {xs xs2 : List T} (i : Nat) (h : Deep m inn ts os xs) (h2 : Deep m inn ts2 os2 xs2) : ∃ os', List.Perm (os ++ os2) os' ∧ Deep m inn (ts.take i ++ ts2 ++ ts.drop i) os' (xs.take i ++ xs2 ++ xs.drop i) := by
  obtain ⟨o1, o2, rfl, g1, g2⟩ := h.cut i
  refine ⟨(o1 ++ os2) ++ o2, ?_, Deep.append (Deep.append g1 h2) g2⟩
  rw [List.append_assoc, List.append_assoc]
  exact List.perm_append_comm.append_left o1

theorem deepC_ins {ts ts2 : List PV} {xs xs2 : List T} {i : Nat} (h : ts.length = xs.length) (h2 : ts2.length = xs2.length) : (deepC cell ts xs).take i ++ deepC cell ts2 xs2 ++ (deepC cell ts xs).drop i = deepC cell (ts.take i ++ ts2 ++ ts.drop i) (xs.take i ++ xs2 ++ xs.drop i) := by
  have h3 : (ts.take i).length = (xs.take i).length := by rw [List.length_take, List.length_take, h]
  unfold deepC
  rw [List.zipWith_append (by rw [List.length_append, List.length_append, h3, h2]), List.zipWith_append h3, List.take_zipWith, List.drop_zipWith]

variable {Φ : Ctx} {α : AEnv} {K : AEnv → Prop} {o : Oper} {n : Nat} {ts ts2 : List PV} {os os2 : List (Nat × Obj')} {xs xs2 r : List T}

/-- A call of slices.Insert at a deep list (nil or own): the new row has just been built, its block stands behind the others. -/
theorem V1.callIns {d f : Nat} {c : Call} {ps : List PV} {oq : Option Nat} {A A' : List (Nat × Obj')} {bv rn : Nat} {i : Int} (ho : o.op = .call c) (hc : c.callee = .value (.func f)) (hd : o.dst = some d) (hok : callOK Φ.P f = true)
    (hps : argsPV α c.args.toList = some ps) (eps : ps = [optS n oq xs.length, .int .i64 i, .sref bv n 0 xs2.length]) (hH : α.H = A ++ (os ++ os2)) (hA : List.Perm A (((bv, ⟨n, deepC cell ts2 xs2⟩) :: optH n oq (deepC cell ts xs)) ++ A')) (hoq : oq = none → xs = [])
    (hD : Deep m inn ts os xs) (hD2 : Deep m inn ts2 os2 xs2) (hr : insM xs i xs2 = some r)
    (hF : ∀ rL, insM (deepC cell ts xs) i (deepC cell ts2 xs2) = some rL → (oq = none → deepC cell ts xs = []) → Does Φ.P f [optS n oq (deepC cell ts xs).length, .int .i64 i, .sref bv n 0 (deepC cell ts2 xs2).length] ((bv, ⟨n, deepC cell ts2 xs2⟩) :: optH n oq (deepC cell ts xs)) rn (fun x H => ∃ ob0 : Nat, x = .sref ob0 n 0 rL.length ∧ H = [(ob0, ⟨n, rL⟩)])) (hrn : rn = Φ.rn) (hn : d < α.n)
    (hk : ∀ (ob0 : Nat) (ts' : List PV) (os' : List (Nat × Obj')), Deep m inn ts' os' r → K ⟨α.n, (d, .sref ob0 n 0 r.length) :: α.E, (ob0, ⟨n, deepC cell ts' r⟩) :: (A' ++ os')⟩) : V1 Φ o α K := by
  subst eps
  have hlen := hD.length
  have hlen2 := hD2.length
  have hl2 : (deepC cell ts xs).length = xs.length := deepC_length hD
  have hl3 : (deepC cell ts2 xs2).length = xs2.length := deepC_length hD2
  unfold insM at hr
  obtain ⟨⟨h1, h2, h3, h4⟩, hr⟩ := asrt_some hr
  cases hr
  obtain ⟨os', hp, hD'⟩ := hD.ins i.toNat hD2
  have hL : insM (deepC cell ts xs) i (deepC cell ts2 xs2) = some (deepC cell (ts.take i.toNat ++ ts2 ++ ts.drop i.toNat) (xs.take i.toNat ++ xs2 ++ xs.drop i.toNat)) := by
    unfold insM
    rw [asrt_pos ⟨h1, by rw [hl2]; exact h2, by rw [hl2]; exact h3, by rw [hl3]; exact h4⟩, deepC_ins hlen hlen2]
  have hF' := hF _ hL (fun e => by
    have := hoq e
    subst this
    exact List.length_eq_zero_iff.1 hl2)
  rw [hl2, hl3] at hF'
  have hlr : (deepC cell (ts.take i.toNat ++ ts2 ++ ts.drop i.toNat) (xs.take i.toNat ++ xs2 ++ xs.drop i.toNat)).length = (xs.take i.toNat ++ xs2 ++ xs.drop i.toNat).length := deepC_length hD'
  have hperm : List.Perm α.H (((bv, ⟨n, deepC cell ts2 xs2⟩) :: optH n oq (deepC cell ts xs)) ++ (A' ++ (os ++ os2))) := by
    rw [hH]
    have := hA.append_right (os ++ os2)
    rwa [List.append_assoc _ A' _] at this
  refine V1.permK (V1.callG (τ := 0) (Bw := []) hd hn (run_call ho hc hok hps) hperm (Lends.same _) (fun _ h => by cases h) hF' (.inl hrn) (.inl rfl) ?_)
  rintro _ _ ⟨ob0, rfl, rfl⟩
  refine ⟨_, hk ob0 _ os' hD', ?_⟩
  rw [hlr]
  exact Keeps.perm _ ((hp.append_left A').cons _)
end

/-- A row that is not empty, told apart. -/
theorem Deep.focusNE {T : Type} [Inhabited T] {m : Nat} {β : Type} {f : β → PV} {g : T → List β} {ts : List PV} {os : List (Nat × Obj')} {xs : List T} {J : Int} (i : Nat) (h : Deep m (fun x => List.map f (g x)) ts os xs) (hi : i < xs.length) (hJ : (0 : Int) ≤ J ∧ J < ((g (xs.getD i default)).length : Int)) :
    ∃ (b : Nat) (os1 os2 : List (Nat × Obj')), ts.getD i .nils = .sref b m 0 (g (xs.getD i default)).length ∧ os = os1 ++ ([(b, ⟨m, List.map f (g (xs.getD i default))⟩)] ++ os2) ∧
      ∀ x', (g x').length = (g (xs.getD i default)).length → Deep m (fun x => List.map f (g x)) ts (os1 ++ ([(b, ⟨m, List.map f (g x')⟩)] ++ os2)) (xs.set i x') := by
  obtain ⟨ob, os1, os2, h1, h2, h3, _, h5⟩ := h.focusM i hi
  cases ob with
  | none =>
    rw [h1 rfl] at hJ
    simp only [List.length_nil] at hJ
    omega
  | some b => exact ⟨b, os1, os2, h2, h3, h5⟩

theorem Keeps.holeFront {Φ : Ctx} {α : AEnv} {A os1 os2 : List (Nat × Obj')} {p : Nat × Obj'} (hA : α.H = A ++ (os1 ++ ([p] ++ os2))) : Keeps Φ α ⟨α.n, α.E, (p :: A) ++ (os1 ++ os2)⟩ := by
  refine Keeps.perm _ ?_
  rw [hA]
  have := List.perm_middle (l₁ := A ++ os1) (l₂ := os2) (a := p)
  simpa [List.append_assoc] using this

theorem Keeps.fillFront {Φ : Ctx} {α : AEnv} {A os1 os2 : List (Nat × Obj')} {p : Nat × Obj'} (hA : α.H = (p :: A) ++ (os1 ++ os2)) : Keeps Φ α ⟨α.n, α.E, A ++ (os1 ++ ([p] ++ os2))⟩ := by
  refine Keeps.perm _ ?_
  rw [hA]
  have := (List.perm_middle (l₁ := A ++ os1) (l₂ := os2) (a := p)).symm
  simpa [List.append_assoc] using this

/-- A deep list (nil or own) that is not turned any more: it reads as unchanging memory from now on. -/
theorem Keeps.frzDeepO {Φ : Ctx} {α : AEnv} {T : Type} {m n jj : Nat} {inn : T → List PV} {cell : PV → T → PV} (hC : CellOK n jj m inn cell) (t : Nat) {A os : List (Nat × Obj')} {ob : Option Nat} {ts : List PV} {xs : List T} {enc : T → PV} (hob : ob = none → xs = []) (hD : Deep m inn ts os xs) (hm : Nat.blt 0 m = true) (hn : Nat.blt 0 n = true) (hro : ∀ x, PV.roL (inn x) = true) (hx : ∀ x, cell (.vl Φ.rn m (inn x)) x = enc x)
    (hH : α.H = optH n ob (deepC cell ts xs) ++ (A ++ os)) (ht : get α.E t = some (optS n ob xs.length)) (hI : ∀ c, Φ.I c → c ∈ A.map Prod.fst) : Keeps Φ α ⟨α.n, (t, .vl Φ.rn n (xs.map enc)) :: α.E, A⟩ := by
  cases ob with
  | none =>
    obtain rfl := hob rfl
    obtain ⟨rfl, rfl⟩ := Deep.nil rfl hD
    have e : α.H = A := by rw [hH]; simp [optH]
    have := Keeps.nilsE (Φ := Φ) (α := α) (l := ([] : List T)) t Φ.rn n enc rfl hn ht
    rw [e] at this
    exact this
  | some b =>
    rintro a w ⟨S, he⟩
    have hH' : α.H = (b, ⟨n, deepC cell ts xs⟩) :: (A ++ os) := hH
    have h0 : α.H[0]? = some (b, ⟨n, deepC cell ts xs⟩) := by rw [hH']; rfl
    have hos : ∀ p, p ∈ os → p ∈ α.H := fun p hp => by rw [hH']; exact List.mem_cons_of_mem _ (List.mem_append_right _ hp)
    have hAm : ∀ p, p ∈ A → p ∈ α.H := fun p hp => by rw [hH']; exact List.mem_cons_of_mem _ (List.mem_append_left _ hp)
    have hnd := he.nodup
    rw [hH', List.map_cons, List.map_append, List.nodup_cons, List.nodup_append] at hnd
    obtain ⟨n1, n2, n3, n4⟩ := hnd
    rw [List.mem_append] at n1
    let Bw : List Nat := b :: os.map Prod.fst
    have hBw : ∀ c, c ∈ Bw → ∃ ob', (c, ob') ∈ α.H := by
      intro c hc
      rcases List.mem_cons.1 hc with rfl | hc
      · exact ⟨_, List.mem_of_getElem? h0⟩
      · obtain ⟨⟨c', ob'⟩, hm', rfl⟩ := List.mem_map.1 hc
        exact ⟨ob', hos _ hm'⟩
    have hBA : ∀ c, c ∈ Bw → c ∉ A.map Prod.fst := by
      intro c hc hA
      rcases List.mem_cons.1 hc with rfl | hc
      · exact n1 (.inl hA)
      · exact n4 c hA c hc rfl
    let S' : Nat → Nat → Prop := fun r c => S r c ∨ (r = Φ.rn ∧ c ∈ Bw)
    have hS : ∀ r c, S r c → S' r c := fun _ _ h => .inl h
    have hno : ∀ c, c ∈ Bw → ∀ r, ¬ S r c := fun c hc => let ⟨ob', h⟩ := hBw c hc; (he.objs c ob' h).2.1
    have hsub : A.Sublist α.H := by rw [hH']; exact ((List.sublist_append_left A os).cons _)
    have hst : Env Φ S' ⟨α.n, α.E, A⟩ a w := by
      refine he.step (Ext.refl (fun _ => False) w) (fun _ _ h => h.elim) hS ?_ ?_ (he.nodup.sublist (hsub.map _))
      · rintro r c (h | ⟨rfl, hc⟩)
        · exact .inl h
        · obtain ⟨ob', hmem⟩ := hBw c hc
          have h3 := he.objs c ob' hmem
          refine .inr ⟨.inl rfl, h3.2.2.resolve_right fun hi => hBA c hc (hI c hi), h3.1.lt, fun _ r' h => absurd h (hno c hc r'), fun _ r' h => ?_⟩
          rcases h with h | ⟨h, _⟩
          · exact absurd h (hno c hc r')
          · exact h
      · intro c ob' hmem
        have h3 := he.objs c ob' (hAm _ hmem)
        refine ⟨h3.1.ext (Ext.refl (fun _ => False) w) id hS fun ρ b' hb' => ⟨(he.bound ρ b' hb').1, id⟩, fun r => ?_, h3.2.2⟩
        rintro (h | ⟨_, hc⟩)
        · exact h3.2.1 r h
        · exact hBA c hc (List.mem_map.2 ⟨_, hmem, rfl⟩)
    have hl := Lend.deep (α := α) (τ := Φ.rn) (Bw := Bw) hC 0 hD hm hro h0 hos (.head _) (fun p hp => List.mem_cons_of_mem _ (List.mem_map.2 ⟨p, hp, rfl⟩))
    refine ⟨S', { hst with slots := fun s x hs => ?_ }⟩
    simp only [get] at hs
    split at hs
    · rename_i e0
      have e0 := Nat.eq_of_beq_eq_true e0
      subst e0
      cases hs
      obtain ⟨v, h1, h2⟩ := he.slots t _ ht
      refine ⟨v, h1, ?_⟩
      have h4 := hl Φ S a w v he h2
      rw [show (fun x => cell (.vl Φ.rn m (inn x)) x) = enc from funext hx] at h4
      exact h4
    · exact hst.slots s x hs
end Go.VS
