/-
  Own rows seen in part: slices of them, cleared parts, appending in place, cutting short. Over any program. No condition.
-/
import Derived.Test.YtjfpdbhjoofllaaWf
set_option linter.unusedSimpArgs false
set_option linter.unusedVariables false
namespace Go.VS
section
variable {Φ : Ctx} {α : AEnv} {K : AEnv → Prop} {o : Oper} {β : Type} {f : β → PV} {l m : List β}
theorem V1.sliceSw {d t e n : Nat} {x : Operand} {lo hi : Option Operand} {b off len : Nat} {a c : Int} (ho : o.op = .slice t x lo hi none) (hd : o.dst = some d)
    (ht : elemSz Φ.P t = some (e, n)) (hx : aeval α x = some (.sref b n off len)) (hlo : Bnd α lo 0 a.toNat) (hhi : Bnd α hi len c.toNat) (h : 0 ≤ a ∧ a ≤ c ∧ c ≤ (len : Int)) (hn : d < α.n)
    (hk : K (α.put d (.sref b n (off + a.toNat) (c.toNat - a.toNat)))) : V1 Φ o α K :=
  V1.sliceSref ho hd ht hx hlo hhi (by omega) (by omega) hn hk
theorem V1.indexSw {d t e n : Nat} {x i : Operand} {b off len : Nat} {k : IntKind} {j : Int} (ho : o.op = .indexAddr t x i) (hd : o.dst = some d)
    (ht : elemSz Φ.P t = some (e, n)) (hx : aeval α x = some (.sref b n off len)) (hi : aeval α i = some (.int k j)) (h : 0 ≤ j ∧ j < (len : Int)) (hn : d < α.n)
    (hk : K (α.put d (.ref b n (off + j.toNat) 0))) : V1 Φ o α K :=
  V1.indexSref ho hd ht hx hi h.1 (natLt h.1 h.2) hn hk
theorem run_sliceBoundsX {S : Nat → Nat → Prop} {a : Act} {w : World} (he : Env Φ S α a w) {lo : Option Operand} {hi : Operand} {len cap l : Nat} {kh : IntKind} {h : Int} {sl : Bool} (hlo : Bnd α lo 0 l) (hhi : aeval α hi = some (.int kh h)) (h0 : 0 ≤ h) (h1 : (l : Int) ≤ h) (h2 : h ≤ (cap : Int)) :
    (Instr.sliceBounds sl len cap (lo.map a.eval) (some (a.eval hi)) none).run Φ.P w = .ok (l, h.toNat, cap) w := by
  have b1 : ∀ (x : Operand) (k : IntKind) (m : Int) (y : Nat) (cd : BoundsCode), aeval α x = some (.int k m) → 0 ≤ m → m ≤ (y : Int) → (Instr.sliceBound (a.eval x) y cd).run Φ.P w = .ok m.toNat w := by
    intro x k m y cd hx h0 hy
    have e := he.eval hx
    unfold Rep at e
    have : 0 ≤ m ∧ m ≤ (y : Int) := ⟨h0, hy⟩
    simp [Instr.sliceBound, e, asIntOf, this]
  cases lo with
  | none =>
    have hl : l = 0 := hlo
    subst hl
    simp [Instr.sliceBounds, b1 hi kh h cap _ hhi h0 h2]
  | some y =>
    obtain ⟨k', m', q1', q2', rfl⟩ := hlo
    simp [Instr.sliceBounds, b1 hi kh h cap _ hhi h0 h2, b1 y k' m' h.toNat _ q1' q2' (by omega)]
theorem segLen {z : β} {off len : Nat} (h : off + len ≤ l.length) : l.length = (l.take off ++ List.replicate len z ++ l.drop (off + len)).length := by
  simp; omega
theorem seg_set_self {l : List β} {off : Nat} {z : β} : l.take off ++ List.replicate 0 z ++ l.drop (off + 0) = l := by simp
theorem V1.clearSw {t e n : Nat} {c : Call} {x : Operand} {b off len k : Nat} {z : β} {z' : PV} (ho : o.op = .call c) (hc : c.callee = .builtin .clear) (hca : c.args = #[x]) (hct : c.argTypes = #[t]) (hd : o.dst = none)
    (ht : elemSz Φ.P t = some (e, n)) (hz : zeroK Φ.P e = some (n, z')) (hle : PV.Le z' (f z)) (hx : aeval α x = some (.sref b n off len)) (hb : α.H[k]? = some (b, ⟨n, l.map f⟩)) (hfit : off + len ≤ l.length)
    (hk : K ⟨α.n, α.E, α.H.set k (b, ⟨n, (l.take off ++ List.replicate len z ++ l.drop (off + len)).map f⟩)⟩) : V1 Φ o α K := by
  intro a w ⟨S, he⟩
  obtain ⟨hu, i, hi, hsn⟩ := elemSz_spec ht
  obtain ⟨i', zv, q1, q2, q3, q4⟩ := zeroK_spec hz
  rw [hi] at q1
  cases q1
  have hxr := he.eval hx
  unfold Rep at hxr
  obtain ⟨hob, hnS, hfr⟩ := he.objK hb
  have hn0 : 0 < n := hob.1
  obtain ⟨cap, a0, hv, ha0⟩ : ∃ cap a0, a.eval x = .slice a0 len cap ∧ (len ≠ 0 → a0 = some ⟨b, off * n, none⟩) := by
    rcases hxr.2 with ⟨h0, ⟨a', hv⟩, _⟩ | ⟨cap, c', hv, _⟩
    · exact ⟨0, a', by rw [h0]; exact hv, fun h => absurd h0 h⟩
    · exact ⟨cap, _, hv, fun _ => rfl⟩
  obtain ⟨cal, cargs, cty⟩ := c
  simp only at hc hca hct
  subst hc hca hct
  by_cases h0 : len = 0
  · subst h0
    have hrun : (execOp a.eval o).run Φ.P w = .ok (.value (.tuple #[])) w := by
      cases a0 <;> simp [execOp, ho, resolve, invoke, builtin, Builtin.clear_, run_underlying hu, hv]
    unfold Oper.wp
    rw [hrun, Oper.upon_value, hd]
    refine ⟨_, hk, S, ?_⟩
    rw [seg_set_self]
    have : α.H.set k (b, ⟨n, l.map f⟩) = α.H := by
      apply List.ext_getElem?
      intro j
      rw [List.getElem?_set]
      split
      · rename_i e; subst e
        obtain ⟨h5, h6⟩ := List.getElem?_eq_some_iff.1 hb
        simp [h5, h6]
      · rfl
    rw [this]
    exact he
  · obtain ⟨w', h1, h2, h3⟩ := hob.storeMany hnS (P := Φ.P) (off := off) (ys := List.replicate len (f z)) (vs := List.replicate len zv) (by intro v hv; rw [List.eq_of_mem_replicate hv]; exact q3)
      (Reps.mk (by simp) fun j x u hx hu => by
        rw [List.eq_of_mem_replicate (List.mem_of_getElem? hx), List.eq_of_mem_replicate (List.mem_of_getElem? hu)]
        exact hle _ _ _ _ (q4 _ _ _)) (by simpa using hfit)
    simp only [List.length_replicate] at h3
    have hrun : (execOp a.eval o).run Φ.P w = .ok (.value (.tuple #[])) w' := by
      rw [ha0 h0] at hv
      have hzv : (zeroValue e).run Φ.P w = .ok zv w := by simp [zeroValue, typeInfo, program, Sem.run, Sem.bind, Bind.bind, Pure.pure, hi, q2]
      have h4 : (storeCells ⟨b, off * n, none⟩ (Builtin.zeroCells zv.cells len).toList).run Φ.P w = .ok () w' := by rw [zero_flat q3 hn0]; exact h1
      obtain ⟨len', rfl⟩ : ∃ q, len = q + 1 := ⟨len - 1, by omega⟩
      simp [execOp, ho, resolve, invoke, builtin, Builtin.clear_, run_underlying hu, hv, hzv, h4]
    unfold Oper.wp
    rw [hrun, Oper.upon_value, hd]
    refine ⟨_, hk, S, ?_⟩
    have := he.turned hb h2 h3
    simp only [List.map_append, List.map_take, List.map_replicate, List.map_drop]
    exact this
theorem Keeps.cut (t k q : Nat) {b n : Nat} (ht : get α.E t = some (.sref b n 0 q)) (hb : α.H[k]? = some (b, ⟨n, l.map f⟩)) (hq : q ≤ l.length) :
    Keeps Φ α ⟨α.n, (t, .sref b n 0 (l.take q).length) :: α.E, α.H.set k (b, ⟨n, (l.take q).map f⟩)⟩ := by
  rintro a w ⟨S, he⟩
  obtain ⟨hob, hnS, hfr⟩ := he.objK hb
  have hcut : ObjAt w S b ⟨n, (l.take q).map f⟩ := by
    obtain ⟨hn0, c, us, hblk, hl, hg, hr, hc⟩ := hob
    have hlen : us.length = l.length := by have := hr.length; simpa using this
    refine ⟨hn0, c, us.take q, hblk, ?_, fun u hu => hg u (List.mem_of_mem_take hu), ?_, fun i u hu j hj => ?_⟩
    · have h1 : (us.take q).length ≤ us.length := by simp; omega
      exact Nat.le_trans (Nat.mul_le_mul_right _ h1) hl
    · rw [List.map_take]; exact hr.take q
    · rw [List.getElem?_take] at hu
      split at hu
      · exact hc i u hu j hj
      · cases hu
  have h1 := he.turned (ob' := ⟨n, (l.take q).map f⟩) hb (Ext.refl _ w) hcut
  refine ⟨S, { h1 with slots := fun s x hx => ?_ }⟩
  have e : (l.take q).length = q := by rw [List.length_take]; omega
  rw [e] at hx
  simp only [get] at hx
  split at hx
  · rename_i e2
    have e2 := Nat.eq_of_beq_eq_true e2
    subst e2
    cases hx
    exact he.slots t _ ht
  · exact he.slots s x hx
end
theorem iterO_now {S E : Type} {step : S → Option (S ⊕ E)} {e : E} {s : S} (h : step s = some (.inr e)) : iterO step s = some e := by
  unfold iterO
  rw [show rounds = (rounds - 1) + 1 from by unfold rounds; omega]
  simp only [loopO, h]
theorem Keeps.optBack {Φ : Ctx} {α : AEnv} {n : Nat} {ob : Option Nat} {xs : List PV} {H1 H2 : List (Nat × Obj')} (hH : α.H = H1 ++ (optH n ob xs ++ H2)) : Keeps Φ α ⟨α.n, α.E, (H1 ++ H2) ++ optH n ob xs⟩ := by
  obtain ⟨N, E, H⟩ := α
  simp only at hH ⊢
  subst hH
  rintro a w ⟨S, he⟩
  have hp : List.Perm (H1 ++ (optH n ob xs ++ H2)) ((H1 ++ H2) ++ optH n ob xs) := by
    rw [List.append_assoc]
    exact List.Perm.append_left H1 List.perm_append_comm
  exact ⟨S, { he with objs := fun b o hb => he.objs b o (hp.mem_iff.2 hb), nodup := (hp.map _).nodup_iff.1 he.nodup }⟩
section
variable {Φ : Ctx} {α : AEnv} {K : AEnv → Prop} {o : Oper} {β : Type} {f : β → PV} {l m : List β}
theorem V1.callO {d g n : Nat} {c : Call} {ps : List PV} (τ : Nat) (Bw : List Nat) (qs : List PV) {ob : Option Nat} {xs : List PV} (H1 : List (Nat × Obj')) {rn : Nat} {R : PV → List (Nat × Obj') → Prop} (ho : o.op = .call c) (hc : c.callee = .value (.func g)) (hd : o.dst = some d) (hok : callOK Φ.P g = true)
    (hps : argsPV α c.args.toList = some ps) (hp : α.H = H1 ++ optH n ob xs) (hl : Lends α τ Bw ps qs) (hbw : ∀ b, b ∈ Bw → b ∈ H1.map Prod.fst) (hF : Does Φ.P g qs (optH n ob xs) rn R) (hrn : rn = Φ.rn)
    (hno : Bw = [] ∨ (τ ≠ rn ∧ ∀ x H', R x H' → x.no τ = true ∧ ∀ b ob, (b, ob) ∈ H' → PV.noL τ ob.xs = true)) (hn : d < α.n) (hk : ∀ x H', R x H' → K ⟨α.n, (d, x) :: α.E, H' ++ H1⟩) : V1 Φ o α K :=
  V1.callG hd hn (run_call ho hc hok hps) (by rw [hp]; exact List.perm_append_comm) hl hbw hF (.inl hrn) hno hk
theorem V1.appendOpt {d t u e n : Nat} {c : Call} {sx xx : Operand} {p z : PV} {ob : Option Nat} (H1 : List (Nat × Obj')) (hl : ob = none → l = []) (ho : o.op = .call c) (hc : c.callee = .builtin .append) (hca : c.args = #[sx, xx]) (hct : c.argTypes = #[t, u]) (hd : o.dst = some d)
    (ht : elemSz Φ.P t = some (e, n)) (hby : elemBy Φ.P t = true) (hz : zeroK Φ.P e = some (n, z)) (h0n : Nat.blt 0 n = true) (hs : aeval α sx = some (optS n ob l.length)) (hH : α.H = H1 ++ optH n ob (l.map f))
    (hx : aeval α xx = some p) (hsrc : SrcOf Φ.P α u n p (m.map f)) (h0 : Nat.blt 0 m.length = true) (hfit : (l.length : Int) + (m.length : Int) ≤ 2147483648) (hn : d < α.n)
    (hk : ∀ b', K ⟨α.n, (d, .sref b' n 0 (l ++ m).length) :: α.E, (b', ⟨n, (l ++ m).map f⟩) :: H1⟩) : V1 Φ o α K := by
  cases ob with
  | none =>
    have e1 : α.H = H1 := by rw [hH]; simp [optH]
    refine V1.appendNilE (l := l) (m := m) (f := f) (hl rfl) ho hc hca hct hd ht hby hz h0n hs hx hsrc h0 hfit hn fun b' => ?_
    rw [e1]; exact hk b'
  | some b =>
    have e1 : α.H[H1.length]? = some (b, ⟨n, l.map f⟩) := by rw [hH]; simp [optH]
    have e2 : α.H.eraseIdx H1.length = H1 := by rw [hH]; simp [optH, List.eraseIdx_append_of_length_le]
    refine V1.appendMap (k := H1.length) (l := l) (m := m) (f := f) ho hc hca hct hd ht hby hz hs e1 hx hsrc hfit hn fun b' => ?_
    rw [e2]; exact hk b'
end
theorem FrzH.same {b n len ρ : Nat} {xs : List PV} : ∀ {H : List (Nat × Obj')}, FrzH b n len ρ xs H H
  | [] => rfl
  | (c, o) :: H => ⟨o, H, rfl, rfl, .inl rfl, FrzH.same⟩
theorem Keeps.dropAt {Φ : Ctx} {α : AEnv} (k : Nat) {H' : List (Nat × Obj')} (h : α.H.eraseIdx k = H') : Keeps Φ α ⟨α.n, α.E, H'⟩ := by
  subst h
  intro a w he
  exact HeapSub (List.eraseIdx_sublist _ _) he
theorem V1.permK {Φ : Ctx} {α : AEnv} {K : AEnv → Prop} {o : Oper} (h : V1 Φ o α (fun α' => ∃ α'', K α'' ∧ Keeps Φ α' α'')) : V1 Φ o α K := by
  intro a w he
  refine Oper.wp_mono ?_ (h a w he)
  rintro a' w' ⟨α', ⟨α'', hk, hkeep⟩, he'⟩
  exact ⟨α'', hk, hkeep a' w' he'⟩
theorem Keeps.optFront {Φ : Ctx} {α : AEnv} {n : Nat} {ob : Option Nat} {xs : List PV} {H1 : List (Nat × Obj')} (hH : α.H = H1 ++ optH n ob xs) : Keeps Φ α ⟨α.n, α.E, optH n ob xs ++ H1⟩ := by
  obtain ⟨N, E, H⟩ := α
  simp only at hH ⊢
  subst hH
  rintro a w ⟨S, he⟩
  have hp : List.Perm (H1 ++ optH n ob xs) (optH n ob xs ++ H1) := List.perm_append_comm
  exact ⟨S, { he with objs := fun b o hb => he.objs b o (hp.mem_iff.2 hb), nodup := (hp.map _).nodup_iff.1 he.nodup }⟩
end Go.VS
