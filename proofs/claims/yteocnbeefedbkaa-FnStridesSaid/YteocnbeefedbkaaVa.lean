/-
  Values with the memory folded in: what a Go value in a world stands for, as a tree of plain data ('PV'); when a frame and a world show such trees ('EnvRel'). Over any program. No condition.
-/
import Derived.WalkKit
import Derived.Orders
namespace Go.VS

/-- A Go value with the memory that it reaches folded in. 'vl', 'pin': a slice, a pointer into memory that nobody changes (ρ: the name of the lot of blocks in which it lies; n: cells an element). 'ref', 'sref': a pointer, a slice into block b, whose content stands in the environment's own list. -/
inductive PV where
  | undef
  | bool (b : Bool)
  | int (k : IntKind) (n : Int)
  | str (s : List UInt8)
  | nils
  | emp
  | vl (ρ n : Nat) (xs : List PV)
  | pin (ρ : Nat) (x : PV) (j : Nat)
  | ref (b n i j : Nat)
  | sref (b n off len : Nat)
  | agg (cs : List PV)
  | tup (vs : List PV)
  | fn (f : FuncId) (cap : List PV)
  | val (v : Value)
  | mp (ρ b : Nat) (ks : List Int) (xs : List PV)
  deriving Inhabited

/-- May an own row carry the mark of a conversion behind its end? (Turned to True by bld.sh for the base of a law that makes bytes of a string.) -/
abbrev MarkOK : Prop := False

/-- Block b is a row of the cells c, none of them frozen. -/
def Blk (w : World) (b : Nat) (c : Array Value) : Prop := ∃ (T : TypeId) (fz : Nat × Nat), w.heap[b]? = some (.cells c T fz) ∧ (fz.2 ≤ fz.1 ∨ c.size ≤ fz.1 ∧ MarkOK)

/-- The cells of a value lie in block b from place o on. -/
def CellsAt (w : World) (b o : Nat) (cs : Array Value) : Prop := ∀ j, j < cs.size → w.cell? ⟨b, o + j, none⟩ = cs[j]?

/-- A value of n cells. -/
def Good (n : Nat) (u : Value) : Prop := u.cells.size = n ∧ ∀ (j : Nat) (c : Value), u.cells[j]? = some c → c.oneCell' = true

mutual
def Rep (w : World) (S : Nat → Nat → Prop) (own : Bool) : PV → Value → Prop
  | .undef, v => v = undef
  | .bool b, v => v = .bool b
  | .int k n, v => v = .int k n
  | .str s, v => v = .string ⟨s.toArray⟩
  | .nils, v => v = .slice none 0 0
  | .emp, v => ∃ a, v = .slice a 0 0
  | .vl ρ n xs, v => 0 < n ∧ ∃ us : List Value, (∀ u ∈ us, Good n u) ∧ Reps w S false xs us ∧
      ((us = [] ∧ ∃ a cap, v = .slice a 0 cap) ∨
       ∃ b off cap, S ρ b ∧ v = .slice (some ⟨b, off, none⟩) us.length cap ∧ us.length ≤ cap ∧ ∀ (i : Nat) (u : Value), us[i]? = some u → CellsAt w b (off + i * n) u.cells)
  | .pin ρ x j, v => ∃ u b off, S ρ b ∧ v = .pointer (some ⟨b, off + j, none⟩) ∧ CellsAt w b off u.cells ∧ Rep w S false x u
  | .ref b n i j, v => own = true ∧ v = .pointer (some ⟨b, i * n + j, none⟩)
  | .sref b n off len, v => own = true ∧ ((len = 0 ∧ (∃ a, v = .slice a 0 0) ∧ ∃ c, Blk w b c ∧ off * n = c.size) ∨ ∃ cap c, v = .slice (some ⟨b, off * n, none⟩) len cap ∧ len ≤ cap ∧ Blk w b c ∧ (off + cap) * n = c.size)
  | .agg cs, v => ∃ us : List Value, v = .agg us.toArray ∧ (∀ u ∈ us, u.oneCell' = true) ∧ Reps w S own cs us
  | .tup vs, v => ∃ us : List Value, v = .tuple us.toArray ∧ Reps w S own vs us
  | .fn f cap, v => ∃ us : List Value, v = .func (.func f) #[] us.toArray ∧ Reps w S own cap us
  | .val u, v => v = u
  | .mp ρ b ks xs, v => S ρ b ∧ v = .map (some b) ∧ ∃ (es : Array MapEntry) (clock : Nat), w.heap[b]? = some (.map es clock) ∧ es.toList.map MapEntry.key = ks.map (Value.int .i64) ∧ Reps w S own xs (es.toList.map MapEntry.val)
def Reps (w : World) (S : Nat → Nat → Prop) (own : Bool) : List PV → List Value → Prop
  | [], us => us = []
  | x :: xs, us => ∃ u us', us = u :: us' ∧ Rep w S own x u ∧ Reps w S own xs us'
end

/-- An own block: n cells an element, and the elements. -/
structure Obj' where
  n : Nat
  xs : List PV

/-- What the block of an own object holds. -/
def ObjAt (w : World) (S : Nat → Nat → Prop) (b : Nat) (o : Obj') : Prop :=
  0 < o.n ∧ ∃ (c : Array Value) (us : List Value), Blk w b c ∧ us.length * o.n ≤ c.size ∧
    (∀ u ∈ us, Good o.n u) ∧ Reps w S true o.xs us ∧ ∀ (i : Nat) (u : Value), us[i]? = some u → ∀ j, j < o.n → c[i * o.n + j]? = u.cells[j]?

/-- From w0 to w: new blocks; of the old ones none has turned but those of I, and these keep their size. -/
structure Ext (I : Nat → Prop) (w0 w : World) : Prop where
  os : w.os = w0.os
  tape : w.tape = w0.tape
  output : w.output = w0.output
  size : w0.heap.size ≤ w.heap.size
  block : ∀ k, k < w0.heap.size → ¬ I k → w.heap[k]? = w0.heap[k]?
  shape : ∀ (k : Nat) (c : Array Value), Blk w0 k c → ∃ c' : Array Value, Blk w k c' ∧ c'.size = c.size

theorem Ext.refl (I : Nat → Prop) (w : World) : Ext I w w := ⟨rfl, rfl, rfl, Nat.le_refl _, fun _ _ _ => rfl, fun _ c h => ⟨c, h, rfl⟩⟩

theorem Ext.trans {I J K : Nat → Prop} {a b c : World} (h : Ext I a b) (h' : Ext J b c) (hI : ∀ k, I k → K k) (hJ : ∀ k, k < a.heap.size → J k → K k) : Ext K a c :=
  ⟨h'.os.trans h.os, h'.tape.trans h.tape, h'.output.trans h.output, Nat.le_trans h.size h'.size,
   fun k hk hn => (h'.block k (Nat.lt_of_lt_of_le hk h.size) fun hj => hn (hJ k hk hj)).trans (h.block k hk fun hi => hn (hI k hi)),
   fun k c0 hc => by
    obtain ⟨c1, h1, e1⟩ := h.shape k c0 hc
    obtain ⟨c2, h2, e2⟩ := h'.shape k c1 h1
    exact ⟨c2, h2, e2.trans e1⟩⟩

theorem cell?_congr {w w' : World} {b : Nat} (h : w'.heap[b]? = w.heap[b]?) (o : Nat) : w'.cell? ⟨b, o, none⟩ = w.cell? ⟨b, o, none⟩ := by
  simp [World.cell?, h]

theorem CellsAt.congr {w w' : World} {b o : Nat} {cs : Array Value} (h : w'.heap[b]? = w.heap[b]?) (hc : CellsAt w b o cs) : CellsAt w' b o cs :=
  fun j hj => by rw [cell?_congr h]; exact hc j hj

section mono
variable {w w' : World} {S S' : Nat → Nat → Prop}

mutual
theorem Rep.mono {own own' : Bool} (hS : ∀ ρ b, S ρ b → S' ρ b) (hw : ∀ ρ b, S ρ b → w'.heap[b]? = w.heap[b]?) (ho : own = true → own' = true)
    (hsh : ∀ (k : Nat) (c : Array Value), Blk w k c → ∃ c' : Array Value, Blk w' k c' ∧ c'.size = c.size) :
    ∀ (x : PV) (v : Value), Rep w S own x v → Rep w' S' own' x v
  | .undef, _, h => by unfold Rep at *; exact h
  | .bool _, _, h => by unfold Rep at *; exact h
  | .int _ _, _, h => by unfold Rep at *; exact h
  | .str _, _, h => by unfold Rep at *; exact h
  | .nils, _, h => by unfold Rep at *; exact h
  | .emp, _, h => by unfold Rep at *; exact h
  | .vl ρ n xs, v, h => by
    unfold Rep at *
    obtain ⟨hn, us, h1, h2, h3⟩ := h
    refine ⟨hn, us, h1, Reps.mono hS hw (fun h => h) hsh xs us h2, ?_⟩
    rcases h3 with h3 | ⟨b, off, cap, hb, hv, hc⟩
    · exact .inl h3
    · exact .inr ⟨b, off, cap, hS _ _ hb, hv, hc.1, fun i u hu => (hc.2 i u hu).congr (hw _ _ hb)⟩
  | .pin ρ x j, v, h => by
    unfold Rep at *
    obtain ⟨u, b, off, hb, hv, hc, hr⟩ := h
    exact ⟨u, b, off, hS _ _ hb, hv, hc.congr (hw _ _ hb), Rep.mono hS hw (fun h => h) hsh x u hr⟩
  | .ref b n i j, v, h => by unfold Rep at *; exact ⟨ho h.1, h.2⟩
  | .sref b n off len, v, h => by
    unfold Rep at *
    obtain ⟨h0, ⟨h1, h2, c, hc, hz⟩ | ⟨cap, c, hv, hl, hc, hz⟩⟩ := h
    · obtain ⟨c', hc', e⟩ := hsh b c hc
      exact ⟨ho h0, .inl ⟨h1, h2, c', hc', by rw [e]; exact hz⟩⟩
    · obtain ⟨c', hc', e⟩ := hsh b c hc
      exact ⟨ho h0, .inr ⟨cap, c', hv, hl, hc', by rw [e]; exact hz⟩⟩
  | .agg cs, v, h => by
    unfold Rep at *
    obtain ⟨us, hv, hs, hr⟩ := h
    exact ⟨us, hv, hs, Reps.mono hS hw ho hsh cs us hr⟩
  | .tup vs, v, h => by
    unfold Rep at *
    obtain ⟨us, hv, hr⟩ := h
    exact ⟨us, hv, Reps.mono hS hw ho hsh vs us hr⟩
  | .fn f cap, v, h => by
    unfold Rep at *
    obtain ⟨us, hv, hr⟩ := h
    exact ⟨us, hv, Reps.mono hS hw ho hsh cap us hr⟩
  | .val u, v, h => by unfold Rep at *; exact h
  | .mp ρ b ks xs, v, h => by
    unfold Rep at *
    obtain ⟨hb, hv, es, clock, h1, h2, h3⟩ := h
    exact ⟨hS _ _ hb, hv, es, clock, (hw _ _ hb).trans h1, h2, Reps.mono hS hw ho hsh xs _ h3⟩
theorem Reps.mono {own own' : Bool} (hS : ∀ ρ b, S ρ b → S' ρ b) (hw : ∀ ρ b, S ρ b → w'.heap[b]? = w.heap[b]?) (ho : own = true → own' = true)
    (hsh : ∀ (k : Nat) (c : Array Value), Blk w k c → ∃ c' : Array Value, Blk w' k c' ∧ c'.size = c.size) :
    ∀ (xs : List PV) (us : List Value), Reps w S own xs us → Reps w' S' own' xs us
  | [], us, h => by unfold Reps at *; exact h
  | x :: xs, us, h => by
    unfold Reps at *
    obtain ⟨u, us', e, h1, h2⟩ := h
    exact ⟨u, us', e, Rep.mono hS hw ho hsh x u h1, Reps.mono hS hw ho hsh xs us' h2⟩
end
end mono

/-- A step of the world that turns no block of S keeps what a value stands for. -/
theorem Rep.ext {w w' : World} {S S' : Nat → Nat → Prop} {own : Bool} {I : Nat → Prop} {x : PV} {v : Value} (h : Rep w S own x v) (he : Ext I w w') (hS : ∀ ρ b, S ρ b → S' ρ b)
    (hI : ∀ ρ b, S ρ b → b < w.heap.size ∧ ¬ I b) : Rep w' S' own x v :=
  Rep.mono hS (fun ρ b hb => he.block b (hI ρ b hb).1 (hI ρ b hb).2) id he.shape x v h

theorem Reps.ext {w w' : World} {S S' : Nat → Nat → Prop} {own : Bool} {I : Nat → Prop} {x : List PV} {v : List Value} (h : Reps w S own x v) (he : Ext I w w') (hS : ∀ ρ b, S ρ b → S' ρ b)
    (hI : ∀ ρ b, S ρ b → b < w.heap.size ∧ ¬ I b) : Reps w' S' own x v :=
  Reps.mono hS (fun ρ b hb => he.block b (hI ρ b hb).1 (hI ρ b hb).2) id he.shape x v h

theorem Rep.grow {w : World} {S S' : Nat → Nat → Prop} {own : Bool} {x : PV} {v : Value} (h : Rep w S own x v) (hS : ∀ ρ b, S ρ b → S' ρ b) : Rep w S' own x v :=
  Rep.mono hS (fun _ _ _ => rfl) id (fun _ c h => ⟨c, h, rfl⟩) x v h

theorem Reps.grow {w : World} {S S' : Nat → Nat → Prop} {own : Bool} {x : List PV} {v : List Value} (h : Reps w S own x v) (hS : ∀ ρ b, S ρ b → S' ρ b) : Reps w S' own x v :=
  Reps.mono hS (fun _ _ _ => rfl) id (fun _ c h => ⟨c, h, rfl⟩) x v h

theorem Rep.own {w : World} {S : Nat → Nat → Prop} {own : Bool} {x : PV} {v : Value} (h : Rep w S false x v) : Rep w S own x v :=
  Rep.mono (fun _ _ h => h) (fun _ _ _ => rfl) (fun h => by cases h) (fun _ c h => ⟨c, h, rfl⟩) x v h

theorem Reps.own {w : World} {S : Nat → Nat → Prop} {own : Bool} {x : List PV} {v : List Value} (h : Reps w S false x v) : Reps w S own x v :=
  Reps.mono (fun _ _ h => h) (fun _ _ _ => rfl) (fun h => by cases h) (fun _ c h => ⟨c, h, rfl⟩) x v h

/-! ### Lists -/
section lists
variable {w : World} {S : Nat → Nat → Prop} {own : Bool}

theorem Reps.length : ∀ {xs : List PV} {us : List Value}, Reps w S own xs us → us.length = xs.length
  | [], us, h => by unfold Reps at h; simp [h]
  | x :: xs, us, h => by unfold Reps at h; obtain ⟨u, us', rfl, _, h2⟩ := h; simp [Reps.length h2]

theorem Reps.get : ∀ {xs : List PV} {us : List Value} {i : Nat} {x : PV}, Reps w S own xs us → xs[i]? = some x → ∃ u, us[i]? = some u ∧ Rep w S own x u
  | [], us, i, x, _, hx => by simp at hx
  | y :: xs, us, i, x, h, hx => by
    unfold Reps at h
    obtain ⟨u, us', rfl, h1, h2⟩ := h
    cases i with
    | zero => simp at hx; subst hx; exact ⟨u, by simp, h1⟩
    | succ i => simp at hx; obtain ⟨u', h3, h4⟩ := h2.get hx; exact ⟨u', by simpa using h3, h4⟩

theorem Reps.get' : ∀ {xs : List PV} {us : List Value} {i : Nat} {u : Value}, Reps w S own xs us → us[i]? = some u → ∃ x, xs[i]? = some x ∧ Rep w S own x u
  | [], us, i, u, h, hu => by unfold Reps at h; simp [h] at hu
  | y :: xs, us, i, u, h, hu => by
    unfold Reps at h
    obtain ⟨u0, us', rfl, h1, h2⟩ := h
    cases i with
    | zero => simp at hu; subst hu; exact ⟨y, by simp, h1⟩
    | succ i => simp at hu; obtain ⟨x', h3, h4⟩ := h2.get' hu; exact ⟨x', by simpa using h3, h4⟩

theorem Reps.mk : ∀ {xs : List PV} {us : List Value}, us.length = xs.length → (∀ (i : Nat) (x : PV) (u : Value), xs[i]? = some x → us[i]? = some u → Rep w S own x u) → Reps w S own xs us
  | [], us, hl, _ => by unfold Reps; simpa using hl
  | x :: xs, [], hl, _ => by simp at hl
  | x :: xs, u :: us, hl, h => by
    unfold Reps
    exact ⟨u, us, rfl, h 0 x u (by simp) (by simp), Reps.mk (by simpa using hl) fun i x' u' hx hu => h (i + 1) x' u' (by simpa using hx) (by simpa using hu)⟩

theorem Reps.append {xs ys : List PV} {us vs : List Value} (h : Reps w S own xs us) (h' : Reps w S own ys vs) : Reps w S own (xs ++ ys) (us ++ vs) := by
  have hl := h.length
  refine Reps.mk (by simp [hl, h'.length]) fun i x u hx hu => ?_
  by_cases hi : i < xs.length
  · rw [List.getElem?_append_left hi] at hx
    rw [List.getElem?_append_left (by omega)] at hu
    obtain ⟨u', h1, h2⟩ := h.get hx
    rw [hu] at h1; cases h1; exact h2
  · rw [List.getElem?_append_right (by omega)] at hx
    rw [List.getElem?_append_right (by omega)] at hu
    rw [hl] at hu
    obtain ⟨u', h1, h2⟩ := h'.get hx
    rw [hu] at h1; cases h1; exact h2

theorem Reps.drop {xs : List PV} {us : List Value} (h : Reps w S own xs us) (k : Nat) : Reps w S own (xs.drop k) (us.drop k) := by
  refine Reps.mk (by simp [h.length]) fun i x u hx hu => ?_
  rw [List.getElem?_drop] at hx hu
  obtain ⟨u', h1, h2⟩ := h.get hx
  rw [hu] at h1; cases h1; exact h2

theorem Reps.take {xs : List PV} {us : List Value} (h : Reps w S own xs us) (k : Nat) : Reps w S own (xs.take k) (us.take k) := by
  refine Reps.mk (by simp [h.length]) fun i x u hx hu => ?_
  rw [List.getElem?_take] at hx hu
  split at hx
  · rename_i hi
    rw [if_pos hi] at hu
    obtain ⟨u', h1, h2⟩ := h.get hx
    rw [hu] at h1; cases h1; exact h2
  · cases hx

theorem Reps.set {xs : List PV} {us : List Value} (h : Reps w S own xs us) (k : Nat) {x : PV} {u : Value} (hx : Rep w S own x u) : Reps w S own (xs.set k x) (us.set k u) := by
  refine Reps.mk (by simp [h.length]) fun i y v hy hv => ?_
  rw [List.getElem?_set] at hy hv
  by_cases hk : k = i
  · subst hk
    rw [if_pos rfl] at hy hv
    have hl := h.length
    by_cases hi : k < xs.length
    · rw [if_pos hi] at hy; rw [if_pos (by omega)] at hv; cases hy; cases hv; exact hx
    · rw [if_neg hi] at hy; cases hy
  · rw [if_neg hk] at hy hv
    obtain ⟨u', h1, h2⟩ := h.get hy
    rw [hv] at h1; cases h1; exact h2

theorem Reps.nil_iff {us : List Value} : Reps w S own [] us ↔ us = [] := by unfold Reps; rfl
theorem Reps.cons_iff {x : PV} {xs : List PV} {us : List Value} : Reps w S own (x :: xs) us ↔ ∃ u us', us = u :: us' ∧ Rep w S own x u ∧ Reps w S own xs us' := by
  conv => lhs; unfold Reps
end lists
end Go.VS
