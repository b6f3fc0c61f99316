/-
  What slices.Insert needs: the capacity of own rows, slices behind a view's end, copying into own rows, appending zero elements, rows that do not overlap. Over any program. No condition.
-/
import Derived.Test.YtfebeomnlkfgoaaWg
import Derived.Lib.Overlaps
set_option linter.unusedSimpArgs false
set_option linter.unusedVariables false
namespace Go.VS
def CapIs (w : World) (b n cp : Nat) : Prop := ∃ c, Blk w b c ∧ cp * n = c.size
theorem CapIs.ext {I : Nat → Prop} {w w' : World} {b n cp : Nat} (h : CapIs w b n cp) (he : Ext I w w') : CapIs w' b n cp := by
  obtain ⟨c, h1, h2⟩ := h
  obtain ⟨c', h3, h4⟩ := he.shape b c h1
  exact ⟨c', h3, by rw [h4]; exact h2⟩
theorem CapIs.same {w : World} {b n cp : Nat} (h : CapIs w b n cp) {c : Array Value} (hc : Blk w b c) : cp * n = c.size := by
  obtain ⟨c0, ⟨T, fz, h1, _⟩, h2⟩ := h
  obtain ⟨T', fz', h3, _⟩ := hc
  rw [h1] at h3
  cases h3
  exact h2
section
variable {Φ : Ctx} {α : AEnv} {K : AEnv → Prop} {o : Oper} {β : Type} {f : β → PV} {l m : List β}
def SrcK (P : Program) (α : AEnv) (n : Nat) (p : PV) (dlen : Nat) (ys : List PV) : Prop :=
  ∀ (Φ : Ctx) (S : Nat → Nat → Prop) (a : Act) (w : World) (v : Value), Env Φ S α a w → Rep w S true p v →
    ∃ us : List Value, (∀ u ∈ us, Good n u) ∧ Reps w S true ys us ∧ ∃ L, Builtin.lenOf v = pure L ∧ Nat.min L dlen = us.length ∧ (Builtin.firstCells n us.length v).run P w = .ok (flatV us).toArray w
theorem SrcK.of {P : Program} {u n dlen : Nat} {p : PV} {ys : List PV} (h : SrcOf P α u n p ys) (hd : ys.length ≤ dlen) : SrcK P α n p dlen ys := by
  intro Φ S a w v he hr
  obtain ⟨us, h1, h2, h3, h4⟩ := h.2 Φ S a w v he hr
  have hl := h2.length
  exact ⟨us, h1, h2, _, h3, Nat.min_eq_left (by omega), h4 P w rfl⟩
theorem SrcK.sref {P : Program} {u n k b off len q dlen : Nat} {ob : Obj'} (hb : α.H[k]? = some (b, ob)) (hm : ob.n = n) (hfit : off + q ≤ ob.xs.length) (hu : isSl P u = true) (hq : Nat.min len dlen = q) (h0 : 0 < len) :
    SrcK P α n (.sref b n off len) dlen ((ob.xs.drop off).take q) := by
  intro Φ S a w v he hr
  unfold Rep at hr
  rcases hr.2 with ⟨e, _⟩ | ⟨cap, c', hv, hcap, hb', hz⟩
  · omega
  · have hql : q ≤ len := by rw [← hq]; exact Nat.min_le_left _ _
    have hr2 : Rep w S true (.sref b n off q) (.slice (some ⟨b, off * n, none⟩) q cap) := by
      unfold Rep
      exact ⟨rfl, .inr ⟨cap, c', rfl, by omega, hb', hz⟩⟩
    obtain ⟨us, h1, h2, h3, h4⟩ := (SrcOf.sref (P := P) (u := u) hb hm hfit hu).2 Φ S a w _ he hr2
    have hl := h2.length
    have hlq : us.length = q := by rw [hl]; simp; omega
    refine ⟨us, h1, h2, len, by rw [hv]; rfl, by rw [hlq]; exact hq, ?_⟩
    have h5 := h4 P w rfl
    rw [hv]
    exact h5
end
end Go.VS
