/- models of the functions -/
import Derived.Test.YtfebeomnlkfgoaaWn
set_option linter.unusedSimpArgs false
set_option linter.unusedVariables false
set_option maxRecDepth 100000
namespace Go.Proofs.Ytfebeomnlkfgoaa
open Go.VS

structure Carton where
  Id : Int
  Shelf : Int
  Room : Int
  Files : List Int
  Thick : Int
  deriving Inhabited, DecidableEq

abbrev encCarton (ρ : Nat) (c : Carton) : PV := .agg [.int .i64 c.Id, .int .i64 c.Shelf, .int .i64 c.Room, .vl ρ 1 (List.map encInt c.Files), .int .i64 c.Thick]

abbrev cellCarton (t_ : PV) (c : Carton) : PV := .agg [.int .i64 c.Id, .int .i64 c.Shelf, .int .i64 c.Room, t_, .int .i64 c.Thick]

theorem cokCarton : CellOK 5 3 1 (fun c_ : Carton => List.map encInt c_.Files) cellCarton where
  good := fun t x h => rfl
  isl := fun t x h => rfl
  set := fun t t' x h h' => rfl
  no := fun τ t x h => by simp [PV.no, PV.noL, h]
  rep := fun w S S' own own' t t' x h => Rep.aggTo ((.cons (fun u hu => by unfold Rep at hu ⊢; exact hu) (.cons (fun u hu => by unfold Rep at hu ⊢; exact hu) (.cons (fun u hu => by unfold Rep at hu ⊢; exact hu) (.cons h (.cons (fun u hu => by unfold Rep at hu ⊢; exact hu) .nil))))))

def M.laws_szIntS (a : List Int) (left : Int) : Option Int :=
  bif (decide ((IntKind.i64.wrap (left - (a.length : Int))) < (0 : Int))) then (
    some (-1 : Int))
  else (
    some (IntKind.i64.wrap (left - (a.length : Int))))

def M.laws_szCarton (a : Carton) (left : Int) : Option Int :=
  (M.laws_szIntS a.Files left).bind fun y0 =>
  bif (decide (y0 < (0 : Int))) then (
    some (-1 : Int))
  else (
    some y0)

def M.laws_szCartonS_l0 (a : List Carton) : (Int × Int) → Option ((Int × Int) ⊕ ((Int) ⊕ (Int))) := fun st_ => match st_ with
| (left1, i) =>
  bif (decide (i < (a.length : Int))) then (
    asrt ((0 : Int) ≤ i ∧ i < (a.length : Int)) <|
    (M.laws_szCarton (a.getD (Int.toNat i) default) left1).bind fun y1 =>
    bif (decide (y1 < (0 : Int))) then (
      some (.inr (.inr (-1 : Int))))
    else (
      some (.inl (y1, (IntKind.i64.wrap (i + (1 : Int)))))))
  else (
    some (.inr (.inl left1)))

def M.laws_szCartonS (a : List Carton) (left : Int) : Option Int :=
  bif (decide ((IntKind.i64.wrap (left - (a.length : Int))) < (0 : Int))) then (
    some (-1 : Int))
  else (
    (iterO (M.laws_szCartonS_l0 a) ((IntKind.i64.wrap (left - (a.length : Int))), (0 : Int))).bind fun e => match e with
    | .inl left0 =>
      (some left0)
    | .inr r => some r)

def M.laws_toIntS_l0 (a : List Int) : (List Int × Int) → Option ((List Int × Int) ⊕ (List Int)) := fun st_ => match st_ with
| (out_0, i) =>
  bif (decide (i < (a.length : Int))) then (
    asrt ((0 : Int) ≤ i ∧ i < (a.length : Int)) <|
    asrt ((0 : Int) ≤ i ∧ i < (out_0.length : Int)) <|
    some (.inl ((out_0.set (Int.toNat i) (a.getD (Int.toNat i) default)), (IntKind.i64.wrap (i + (1 : Int))))))
  else (
    some (.inr out_0))

def M.laws_toIntS (a : List Int) : Option (List Int) :=
  asrt ((0 : Int) ≤ (a.length : Int) ∧ (a.length : Int) ≤ (a.length : Int) ∧ (a.length : Int) ≤ 2147483648) <|
  (iterO (M.laws_toIntS_l0 a) ((List.replicate (Int.toNat (a.length : Int)) (0 : Int)), (0 : Int))).bind fun e => match e with
  | out_ =>
    (some out_)

def M.laws_toCarton (a : Carton) : Option Carton :=
  (M.laws_toIntS a.Files).bind fun y0 =>
  some (⟨a.Id, a.Shelf, a.Room, y0, a.Thick⟩ : Carton)

def M.laws_toCartonS_l0 (a : List Carton) : (List Carton × Int) → Option ((List Carton × Int) ⊕ (List Carton)) := fun st_ => match st_ with
| (out_0, i) =>
  bif (decide (i < (a.length : Int))) then (
    asrt ((0 : Int) ≤ i ∧ i < (a.length : Int)) <|
    (M.laws_toCarton (a.getD (Int.toNat i) default)).bind fun y1 =>
    asrt ((0 : Int) ≤ i ∧ i < (out_0.length : Int)) <|
    some (.inl ((out_0.set (Int.toNat i) y1), (IntKind.i64.wrap (i + (1 : Int))))))
  else (
    some (.inr out_0))

def M.laws_toCartonS (a : List Carton) : Option (List Carton) :=
  asrt ((0 : Int) ≤ (a.length : Int) ∧ (a.length : Int) ≤ (a.length : Int) ∧ (a.length : Int) ≤ 2147483648) <|
  (iterO (M.laws_toCartonS_l0 a) ((List.replicate (Int.toNat (a.length : Int)) (⟨(0 : Int), (0 : Int), (0 : Int), ([] : List Int), (0 : Int)⟩ : Carton)), (0 : Int))).bind fun e => match e with
  | out_ =>
    (some out_)

def M.spec_l18Find_l0 (list : List Carton) (id_ : Int) : (Int) → Option ((Int) ⊕ ((Unit) ⊕ (Int))) := fun st_ => match st_ with
| i =>
  bif (decide (i < (list.length : Int))) then (
    asrt ((0 : Int) ≤ i ∧ i < (list.length : Int)) <|
    bif (((list.getD (Int.toNat i) default).Id) == id_) then (
      some (.inr (.inr i)))
    else (
      some (.inl (IntKind.i64.wrap (i + (1 : Int))))))
  else (
    some (.inr (.inl ())))

def M.spec_l18Find (list : List Carton) (id_ : Int) : Option Int :=
  (iterO (M.spec_l18Find_l0 list id_) (0 : Int)).bind fun e => match e with
  | .inl () =>
    (some (-1 : Int))
  | .inr r => some r

def M.spec_l1In (x : Int) (a : Int) (b_ : Int) : Option Bool :=
  some ((decide (x ≥ a)) && (decide (x ≤ b_)))

def M.spec_l18Place (room : Int) (shelf : Int) : Option Bool :=
  (M.spec_l1In room (1 : Int) (9 : Int)).bind fun y0 =>
  ((bif y0 then M.spec_l1In shelf (1 : Int) (30 : Int) else some default)).bind fun y1 =>
  some (y0 && y1)

def M.spec_l1Rising_l0 (l : List Int) (lo : Int) (hi : Int) : (Int) → Option ((Int) ⊕ ((Unit) ⊕ (Bool))) := fun st_ => match st_ with
| i =>
  bif (decide (i < (l.length : Int))) then (
    asrt ((0 : Int) ≤ i ∧ i < (l.length : Int)) <|
    (M.spec_l1In (l.getD (Int.toNat i) default) lo hi).bind fun y1 =>
    asrt ((!y1) = false → (decide (i > (0 : Int))) = true → ((0 : Int) ≤ (IntKind.i64.wrap (i - (1 : Int))) ∧ (IntKind.i64.wrap (i - (1 : Int))) < (l.length : Int))) <|
    asrt ((!y1) = false → (decide (i > (0 : Int))) = true → ((0 : Int) ≤ i ∧ i < (l.length : Int))) <|
    bif ((!y1) || ((decide (i > (0 : Int))) && (decide ((l.getD (Int.toNat (IntKind.i64.wrap (i - (1 : Int)))) default) ≥ (l.getD (Int.toNat i) default))))) then (
      some (.inr (.inr false)))
    else (
      some (.inl (IntKind.i64.wrap (i + (1 : Int))))))
  else (
    some (.inr (.inl ())))

def M.spec_l1Rising (l : List Int) (lo : Int) (hi : Int) : Option Bool :=
  (iterO (M.spec_l1Rising_l0 l lo hi) (0 : Int)).bind fun e => match e with
  | .inl () =>
    (some true)
  | .inr r => some r

def M.spec_l18One (x : Carton) : Option Bool :=
  (M.spec_l1In x.Id (1 : Int) (99 : Int)).bind fun y0 =>
  ((bif y0 then M.spec_l18Place x.Room x.Shelf else some default)).bind fun y1 =>
  ((bif ((y0 && y1) && (decide ((x.Files.length : Int) ≤ (12 : Int)))) then M.spec_l1Rising x.Files (1 : Int) (999 : Int) else some default)).bind fun y2 =>
  ((bif (((y0 && y1) && (decide ((x.Files.length : Int) ≤ (12 : Int)))) && y2) then M.spec_l1In x.Thick (1 : Int) (40 : Int) else some default)).bind fun y3 =>
  some ((((y0 && y1) && (decide ((x.Files.length : Int) ≤ (12 : Int)))) && y2) && y3)

def M.spec_l18Taken_l0 (list : List Carton) (room : Int) (shelf : Int) : (Int × Int) → Option ((Int × Int) ⊕ (Int)) := fun st_ => match st_ with
| (sum_0, i) =>
  bif (decide (i < (list.length : Int))) then (
    (((
      asrt ((0 : Int) ≤ i ∧ i < (list.length : Int)) <|
      asrt ((((list.getD (Int.toNat i) default).Room) == room) = true → ((0 : Int) ≤ i ∧ i < (list.length : Int))) <|
      bif ((((list.getD (Int.toNat i) default).Room) == room) && (((list.getD (Int.toNat i) default).Shelf) == shelf)) then (
        asrt ((0 : Int) ≤ i ∧ i < (list.length : Int)) <|
        some (IntKind.i64.wrap (sum_0 + ((list.getD (Int.toNat i) default).Thick))))
      else (
        some sum_0)) : Option Int)).bind fun e => match e with
    | sum_1 =>
      (some (.inl (sum_1, (IntKind.i64.wrap (i + (1 : Int)))))))
  else (
    some (.inr sum_0))

def M.spec_l18Taken (list : List Carton) (room : Int) (shelf : Int) : Option Int :=
  (iterO (M.spec_l18Taken_l0 list room shelf) ((0 : Int), (0 : Int))).bind fun e => match e with
  | sum_ =>
    (some sum_)

def M.spec_l1Has_l0 (l : List Int) (n : Int) : (Int) → Option ((Int) ⊕ ((Unit) ⊕ (Bool))) := fun st_ => match st_ with
| i =>
  bif (decide (i < (l.length : Int))) then (
    asrt ((0 : Int) ≤ i ∧ i < (l.length : Int)) <|
    bif ((l.getD (Int.toNat i) default) == n) then (
      some (.inr (.inr true)))
    else (
      some (.inl (IntKind.i64.wrap (i + (1 : Int))))))
  else (
    some (.inr (.inl ())))

def M.spec_l1Has (l : List Int) (n : Int) : Option Bool :=
  (iterO (M.spec_l1Has_l0 l n) (0 : Int)).bind fun e => match e with
  | .inl () =>
    (some false)
  | .inr r => some r

def M.spec_l18Holds_l0 (list : List Carton) (file : Int) : (Int) → Option ((Int) ⊕ ((Unit) ⊕ (Int))) := fun st_ => match st_ with
| i =>
  bif (decide (i < (list.length : Int))) then (
    asrt ((0 : Int) ≤ i ∧ i < (list.length : Int)) <|
    (M.spec_l1Has ((list.getD (Int.toNat i) default).Files) file).bind fun y1 =>
    bif y1 then (
      some (.inr (.inr i)))
    else (
      some (.inl (IntKind.i64.wrap (i + (1 : Int))))))
  else (
    some (.inr (.inl ())))

def M.spec_l18Holds (list : List Carton) (file : Int) : Option Int :=
  (iterO (M.spec_l18Holds_l0 list file) (0 : Int)).bind fun e => match e with
  | .inl () =>
    (some (-1 : Int))
  | .inr r => some r

def M.spec_l18Good_l1 (list : List Carton) (i : Int) : (Int) → Option ((Int) ⊕ ((Unit) ⊕ (Bool))) := fun st_ => match st_ with
| k =>
  bif (decide (k < (((list.getD (Int.toNat i) default).Files).length : Int))) then (
    asrt ((0 : Int) ≤ (0 : Int) ∧ (0 : Int) ≤ i ∧ i ≤ (list.length : Int)) <|
    asrt ((0 : Int) ≤ k ∧ k < (((list.getD (Int.toNat i) default).Files).length : Int)) <|
    (M.spec_l18Holds (slc list (0 : Int) i) (((list.getD (Int.toNat i) default).Files).getD (Int.toNat k) default)).bind fun y4 =>
    bif (decide (y4 ≥ (0 : Int))) then (
      some (.inr (.inr false)))
    else (
      some (.inl (IntKind.i64.wrap (k + (1 : Int))))))
  else (
    some (.inr (.inl ())))

def M.spec_l18Good_l0 (list : List Carton) : (Int) → Option ((Int) ⊕ ((Unit) ⊕ (Bool))) := fun st_ => match st_ with
| i =>
  bif ((decide (i < (list.length : Int))) && (decide (i ≤ (10 : Int)))) then (
    asrt ((0 : Int) ≤ i ∧ i < (list.length : Int)) <|
    (M.spec_l18One (list.getD (Int.toNat i) default)).bind fun y1 =>
    asrt ((!y1) = false → (decide (i > (0 : Int))) = true → ((0 : Int) ≤ (IntKind.i64.wrap (i - (1 : Int))) ∧ (IntKind.i64.wrap (i - (1 : Int))) < (list.length : Int))) <|
    asrt (((!y1) || ((decide (i > (0 : Int))) && (decide (((list.getD (Int.toNat (IntKind.i64.wrap (i - (1 : Int)))) default).Id) ≥ ((list.getD (Int.toNat i) default).Id))))) = false → ((0 : Int) ≤ (0 : Int) ∧ (0 : Int) ≤ (IntKind.i64.wrap (i + (1 : Int))) ∧ (IntKind.i64.wrap (i + (1 : Int))) ≤ (list.length : Int))) <|
    ((bif ((!y1) || ((decide (i > (0 : Int))) && (decide (((list.getD (Int.toNat (IntKind.i64.wrap (i - (1 : Int)))) default).Id) ≥ ((list.getD (Int.toNat i) default).Id))))) then some default else M.spec_l18Taken (slc list (0 : Int) (IntKind.i64.wrap (i + (1 : Int)))) ((list.getD (Int.toNat i) default).Room) ((list.getD (Int.toNat i) default).Shelf))).bind fun y2 =>
    bif (((!y1) || ((decide (i > (0 : Int))) && (decide (((list.getD (Int.toNat (IntKind.i64.wrap (i - (1 : Int)))) default).Id) ≥ ((list.getD (Int.toNat i) default).Id))))) || (decide (y2 > (100 : Int)))) then (
      some (.inr (.inr false)))
    else (
      (iterO (M.spec_l18Good_l1 list i) (0 : Int)).bind fun e => match e with
      | .inl () =>
        (some (.inl (IntKind.i64.wrap (i + (1 : Int)))))
      | .inr r => some (.inr (.inr r))))
  else (
    some (.inr (.inl ())))

def M.spec_l18Good (list : List Carton) : Option Bool :=
  (iterO (M.spec_l18Good_l0 list) (0 : Int)).bind fun e => match e with
  | .inl () =>
    (some (decide ((list.length : Int) ≤ (10 : Int))))
  | .inr r => some r

def M.spec_l1Own (l : List Int) : Option (List Int) :=
  asrt ((([] : List Int).length : Int) + (l.length : Int) ≤ 2147483648) <|
  some (([] : List Int) ++ l)

def M.spec_l18Own_l0 (list : List Carton) : (List Carton × Int) → Option ((List Carton × Int) ⊕ (List Carton)) := fun st_ => match st_ with
| (out_0, i) =>
  bif (decide (i < (list.length : Int))) then (
    asrt ((0 : Int) ≤ i ∧ i < (list.length : Int)) <|
    (M.spec_l1Own ((list.getD (Int.toNat i) default).Files)).bind fun y1 =>
    asrt ((out_0.length : Int) + (([(⟨(list.getD (Int.toNat i) default).Id, (list.getD (Int.toNat i) default).Shelf, (list.getD (Int.toNat i) default).Room, y1, (list.getD (Int.toNat i) default).Thick⟩ : Carton)] : List Carton).length : Int) ≤ 2147483648) <|
    some (.inl ((out_0 ++ ([(⟨(list.getD (Int.toNat i) default).Id, (list.getD (Int.toNat i) default).Shelf, (list.getD (Int.toNat i) default).Room, y1, (list.getD (Int.toNat i) default).Thick⟩ : Carton)] : List Carton)), (IntKind.i64.wrap (i + (1 : Int))))))
  else (
    some (.inr out_0))

def M.spec_l18Own (list : List Carton) : Option (List Carton) :=
  (iterO (M.spec_l18Own_l0 list) (([] : List Carton), (0 : Int))).bind fun e => match e with
  | out_ =>
    (some out_)

def M.spec_l1Put_l0 (l : List Int) (n : Int) : (Int) → Option ((Int) ⊕ (Int)) := fun st_ => match st_ with
| k0 =>
  asrt ((decide (k0 < (l.length : Int))) = true → ((0 : Int) ≤ k0 ∧ k0 < (l.length : Int))) <|
  bif ((decide (k0 < (l.length : Int))) && (decide ((l.getD (Int.toNat k0) default) < n))) then (
    some (.inl (IntKind.i64.wrap (k0 + (1 : Int)))))
  else (
    some (.inr k0))

def M.spec_l1Put (l : List Int) (n : Int) : Option (List Int) :=
  (iterO (M.spec_l1Put_l0 l n) (0 : Int)).bind fun e => match e with
  | k =>
    (asrt ((decide (k < (l.length : Int))) = true → ((0 : Int) ≤ k ∧ k < (l.length : Int))) <|
    bif ((decide (k < (l.length : Int))) && ((l.getD (Int.toNat k) default) == n)) then (
      some l)
    else (
      asrt ((0 : Int) ≤ (0 : Int) ∧ (0 : Int) ≤ k ∧ k ≤ (l.length : Int)) <|
      asrt ((([] : List Int).length : Int) + ((slc l (0 : Int) k).length : Int) ≤ 2147483648) <|
      asrt (((([] : List Int) ++ (slc l (0 : Int) k)).length : Int) + (([n] : List Int).length : Int) ≤ 2147483648) <|
      asrt ((0 : Int) ≤ k ∧ k ≤ (l.length : Int) ∧ (l.length : Int) ≤ (l.length : Int)) <|
      asrt ((((([] : List Int) ++ (slc l (0 : Int) k)) ++ ([n] : List Int)).length : Int) + ((slc l k (l.length : Int)).length : Int) ≤ 2147483648) <|
      (((
        some (((([] : List Int) ++ (slc l (0 : Int) k)) ++ ([n] : List Int)) ++ (slc l k (l.length : Int)))) : Option (List Int))).bind fun e => match e with
      | v =>
        (some v)))

def M.spec_MergeCartons_l1 (list : List Carton) (y1 : Int) : (Int × Carton) → Option ((Int × Carton) ⊕ (Carton)) := fun st_ => match st_ with
| (m_, x1) =>
  asrt ((0 : Int) ≤ y1 ∧ y1 < (list.length : Int)) <|
  bif (decide (m_ < (((list.getD (Int.toNat y1) default).Files).length : Int))) then (
    asrt ((0 : Int) ≤ y1 ∧ y1 < (list.length : Int)) <|
    asrt ((0 : Int) ≤ m_ ∧ m_ < (((list.getD (Int.toNat y1) default).Files).length : Int)) <|
    (M.spec_l1Put x1.Files (((list.getD (Int.toNat y1) default).Files).getD (Int.toNat m_) default)).bind fun y6 =>
    some (.inl ((IntKind.i64.wrap (m_ + (1 : Int))), (⟨x1.Id, x1.Shelf, x1.Room, y6, x1.Thick⟩ : Carton))))
  else (
    some (.inr x1))

def M.spec_MergeCartons_l0 (list : List Carton) (y0 : Int) (y1 : Int) (y3 : List Carton) : (List Carton × Int) → Option ((List Carton × Int) ⊕ (List Carton)) := fun st_ => match st_ with
| (out_0, n_) =>
  bif (decide (n_ < (y3.length : Int))) then (
    (((
      asrt ((0 : Int) ≤ n_ ∧ n_ < (y3.length : Int)) <|
      (((
        bif (n_ == y0) then (
          asrt ((0 : Int) ≤ y1 ∧ y1 < (list.length : Int)) <|
          (iterO (M.spec_MergeCartons_l1 list y1) ((0 : Int), (⟨(y3.getD (Int.toNat n_) default).Id, (y3.getD (Int.toNat n_) default).Shelf, (y3.getD (Int.toNat n_) default).Room, (y3.getD (Int.toNat n_) default).Files, (IntKind.i64.wrap (((y3.getD (Int.toNat n_) default).Thick) + ((list.getD (Int.toNat y1) default).Thick)))⟩ : Carton))).bind fun e => match e with
          | x0 =>
            (some x0))
        else (
          some (y3.getD (Int.toNat n_) default))) : Option Carton)).bind fun e => match e with
      | x =>
        (bif (n_ != y1) then (
          asrt ((out_0.length : Int) + (([x] : List Carton).length : Int) ≤ 2147483648) <|
          some (out_0 ++ ([x] : List Carton)))
        else (
          some out_0))) : Option (List Carton))).bind fun e => match e with
    | out_1 =>
      (some (.inl (out_1, (IntKind.i64.wrap (n_ + (1 : Int)))))))
  else (
    some (.inr out_0))

def M.spec_MergeCartons (list : List Carton) (a : Int) (b_ : Int) : Option (List Carton × Bool) :=
  (M.spec_l18Find list a).bind fun y0 =>
  (M.spec_l18Find list b_).bind fun y1 =>
  (M.spec_l18Good list).bind fun y2 =>
  bif ((((!y2) || (decide (y0 < (0 : Int)))) || (decide (y1 < (0 : Int)))) || (y0 == y1)) then (
    some (([] : List Carton), false))
  else (
    (M.spec_l18Own list).bind fun y3 =>
    (iterO (M.spec_MergeCartons_l0 list y0 y1 y3) (([] : List Carton), (0 : Int))).bind fun e => match e with
    | out_ =>
      ((M.spec_l18Good out_).bind fun y7 =>
      bif (!y7) then (
        some (([] : List Carton), false))
      else (
        some (out_, true))))

def M.impl_cartonAt_1 (x : Carton) (id_c : Int) : Option Bool :=
  some (x.Id == id_c)

def M.slices_IndexFunc_impl_Carton_impl_Carton_l0 (s : List Carton) (fm : Carton → Option Bool) : (Int) → Option ((Int) ⊕ ((Unit) ⊕ (Int))) := fun st_ => match st_ with
| v =>
  bif (decide (v < (s.length : Int))) then (
    asrt ((0 : Int) ≤ v ∧ v < (s.length : Int)) <|
    (fm (s.getD (Int.toNat v) default)).bind fun y1 =>
    bif y1 then (
      some (.inr (.inr v)))
    else (
      some (.inl (IntKind.i64.wrap (v + (1 : Int))))))
  else (
    some (.inr (.inl ())))

def M.slices_IndexFunc_impl_Carton_impl_Carton (s : List Carton) (fm : Carton → Option Bool) : Option Int :=
  (iterO (M.slices_IndexFunc_impl_Carton_impl_Carton_l0 s fm) (0 : Int)).bind fun e => match e with
  | .inl () =>
    (some (-1 : Int))
  | .inr r => some r

def M.impl_cartonAt (list : List Carton) (id_ : Int) : Option Int :=
  (M.slices_IndexFunc_impl_Carton_impl_Carton list (fun x0 => M.impl_cartonAt_1 x0 id_)).bind fun y0 =>
  some y0

def M.impl_within (n : Int) (low : Int) (high : Int) : Option Bool :=
  some ((decide (low ≤ n)) && (decide (n ≤ high)))

def M.impl_isId (id_ : Int) : Option Bool :=
  (M.impl_within id_ (1 : Int) (99 : Int)).bind fun y0 =>
  some y0

def M.impl_isShelf (shelf : Int) : Option Bool :=
  (M.impl_within shelf (1 : Int) (30 : Int)).bind fun y0 =>
  some y0

def M.impl_isRoom (room : Int) : Option Bool :=
  (M.impl_within room (1 : Int) (9 : Int)).bind fun y0 =>
  some y0

def M.impl_areRising_l0 (list : List Int) : (Int) → Option ((Int) ⊕ ((Unit) ⊕ (Bool))) := fun st_ => match st_ with
| i =>
  bif (decide (i < (list.length : Int))) then (
    asrt ((0 : Int) ≤ (IntKind.i64.wrap (i - (1 : Int))) ∧ (IntKind.i64.wrap (i - (1 : Int))) < (list.length : Int)) <|
    asrt ((0 : Int) ≤ i ∧ i < (list.length : Int)) <|
    bif (decide ((list.getD (Int.toNat (IntKind.i64.wrap (i - (1 : Int)))) default) ≥ (list.getD (Int.toNat i) default))) then (
      some (.inr (.inr false)))
    else (
      some (.inl (IntKind.i64.wrap (i + (1 : Int))))))
  else (
    some (.inr (.inl ())))

def M.impl_areRising (list : List Int) : Option Bool :=
  (iterO (M.impl_areRising_l0 list) (1 : Int)).bind fun e => match e with
  | .inl () =>
    (some true)
  | .inr r => some r

def M.slices_IndexFunc_int_int_l0 (s : List Int) (fm : Int → Option Bool) : (Int) → Option ((Int) ⊕ ((Unit) ⊕ (Int))) := fun st_ => match st_ with
| v =>
  bif (decide (v < (s.length : Int))) then (
    asrt ((0 : Int) ≤ v ∧ v < (s.length : Int)) <|
    (fm (s.getD (Int.toNat v) default)).bind fun y1 =>
    bif y1 then (
      some (.inr (.inr v)))
    else (
      some (.inl (IntKind.i64.wrap (v + (1 : Int))))))
  else (
    some (.inr (.inl ())))

def M.slices_IndexFunc_int_int (s : List Int) (fm : Int → Option Bool) : Option Int :=
  (iterO (M.slices_IndexFunc_int_int_l0 s fm) (0 : Int)).bind fun e => match e with
  | .inl () =>
    (some (-1 : Int))
  | .inr r => some r

def M.slices_ContainsFunc_int_int (s : List Int) (fm : Int → Option Bool) : Option Bool :=
  (M.slices_IndexFunc_int_int s fm).bind fun y0 =>
  some (decide (y0 ≥ (0 : Int)))

def M.impl_IsCarton_1 (id_ : Int) : Option Bool :=
  (M.impl_within id_ (1 : Int) (999 : Int)).bind fun y0 =>
  some (!y0)

def M.impl_IsCarton (x : Carton) : Option Bool :=
  (M.impl_isId x.Id).bind fun y0 =>
  ((bif y0 then M.impl_isShelf x.Shelf else some default)).bind fun y1 =>
  ((bif (y0 && y1) then M.impl_isRoom x.Room else some default)).bind fun y2 =>
  ((bif (((y0 && y1) && y2) && (decide ((x.Files.length : Int) ≤ (12 : Int)))) then M.impl_areRising x.Files else some default)).bind fun y3 =>
  ((bif ((((y0 && y1) && y2) && (decide ((x.Files.length : Int) ≤ (12 : Int)))) && y3) then M.slices_ContainsFunc_int_int x.Files (fun x0 => M.impl_IsCarton_1 x0) else some default)).bind fun y4 =>
  ((bif (((((y0 && y1) && y2) && (decide ((x.Files.length : Int) ≤ (12 : Int)))) && y3) && (!y4)) then M.impl_within x.Thick (1 : Int) (40 : Int) else some default)).bind fun y5 =>
  some ((((((y0 && y1) && y2) && (decide ((x.Files.length : Int) ≤ (12 : Int)))) && y3) && (!y4)) && y5)

def M.slices_Index_int_int_l0 (s : List Int) (v : Int) : (Int) → Option ((Int) ⊕ ((Unit) ⊕ (Int))) := fun st_ => match st_ with
| v0 =>
  bif (decide (v0 < (s.length : Int))) then (
    asrt ((0 : Int) ≤ v0 ∧ v0 < (s.length : Int)) <|
    bif (v == (s.getD (Int.toNat v0) default)) then (
      some (.inr (.inr v0)))
    else (
      some (.inl (IntKind.i64.wrap (v0 + (1 : Int))))))
  else (
    some (.inr (.inl ())))

def M.slices_Index_int_int (s : List Int) (v : Int) : Option Int :=
  (iterO (M.slices_Index_int_int_l0 s v) (0 : Int)).bind fun e => match e with
  | .inl () =>
    (some (-1 : Int))
  | .inr r => some r

def M.slices_Contains_int_int (s : List Int) (v : Int) : Option Bool :=
  (M.slices_Index_int_int s v).bind fun y0 =>
  some (decide (y0 ≥ (0 : Int)))

def M.impl_AreCartons_1 (id_ : Int) (y_c : Carton) : Option Bool :=
  (M.slices_Contains_int_int y_c.Files id_).bind fun y0 =>
  some y0

def M.impl_freeOn_l0 (list : List Carton) (room : Int) (shelf : Int) : (Int × Int) → Option ((Int × Int) ⊕ (Int)) := fun st_ => match st_ with
| (free0, v) =>
  bif (decide (v < (list.length : Int))) then (
    (((
      asrt ((0 : Int) ≤ v ∧ v < (list.length : Int)) <|
      bif ((((list.getD (Int.toNat v) default).Room) == room) && (((list.getD (Int.toNat v) default).Shelf) == shelf)) then (
        some (IntKind.i64.wrap (free0 - ((list.getD (Int.toNat v) default).Thick))))
      else (
        some free0)) : Option Int)).bind fun e => match e with
    | free1 =>
      (some (.inl (free1, (IntKind.i64.wrap (v + (1 : Int)))))))
  else (
    some (.inr free0))

def M.impl_freeOn (list : List Carton) (room : Int) (shelf : Int) : Option Int :=
  (iterO (M.impl_freeOn_l0 list room shelf) ((100 : Int), (0 : Int))).bind fun e => match e with
  | free =>
    (some free)

def M.impl_AreCartons_l1 (list : List Carton) (v : Int) : (Int) → Option ((Int) ⊕ ((Unit) ⊕ (Bool))) := fun st_ => match st_ with
| v0 =>
  bif (decide (v0 < ((slc list (0 : Int) v).length : Int))) then (
    asrt ((0 : Int) ≤ v0 ∧ v0 < ((slc list (0 : Int) v).length : Int)) <|
    (M.slices_ContainsFunc_int_int ((list.getD (Int.toNat v) default).Files) (fun x0 => M.impl_AreCartons_1 x0 ((slc list (0 : Int) v).getD (Int.toNat v0) default))).bind fun y3 =>
    bif y3 then (
      some (.inr (.inr false)))
    else (
      some (.inl (IntKind.i64.wrap (v0 + (1 : Int))))))
  else (
    some (.inr (.inl ())))

def M.impl_AreCartons_l0 (list : List Carton) : (Int) → Option ((Int) ⊕ ((Unit) ⊕ (Bool))) := fun st_ => match st_ with
| v =>
  bif (decide (v < (list.length : Int))) then (
    asrt ((0 : Int) ≤ v ∧ v < (list.length : Int)) <|
    (M.impl_IsCarton (list.getD (Int.toNat v) default)).bind fun y1 =>
    asrt ((!y1) = false → (decide (v > (0 : Int))) = true → ((0 : Int) ≤ (IntKind.i64.wrap (v - (1 : Int))) ∧ (IntKind.i64.wrap (v - (1 : Int))) < (list.length : Int))) <|
    bif ((!y1) || ((decide (v > (0 : Int))) && (decide (((list.getD (Int.toNat (IntKind.i64.wrap (v - (1 : Int)))) default).Id) ≥ ((list.getD (Int.toNat v) default).Id))))) then (
      some (.inr (.inr false)))
    else (
      asrt ((0 : Int) ≤ (0 : Int) ∧ (0 : Int) ≤ v ∧ v ≤ (list.length : Int)) <|
      (iterO (M.impl_AreCartons_l1 list v) (0 : Int)).bind fun e => match e with
      | .inl () =>
        (asrt ((0 : Int) ≤ (0 : Int) ∧ (0 : Int) ≤ (IntKind.i64.wrap (v + (1 : Int))) ∧ (IntKind.i64.wrap (v + (1 : Int))) ≤ (list.length : Int)) <|
        (M.impl_freeOn (slc list (0 : Int) (IntKind.i64.wrap (v + (1 : Int)))) ((list.getD (Int.toNat v) default).Room) ((list.getD (Int.toNat v) default).Shelf)).bind fun y4 =>
        bif (decide (y4 < (0 : Int))) then (
          some (.inr (.inr false)))
        else (
          some (.inl (IntKind.i64.wrap (v + (1 : Int))))))
      | .inr r => some (.inr (.inr r))))
  else (
    some (.inr (.inl ())))

def M.impl_AreCartons (list : List Carton) : Option Bool :=
  bif (decide ((list.length : Int) > (10 : Int))) then (
    some false)
  else (
    (iterO (M.impl_AreCartons_l0 list) (0 : Int)).bind fun e => match e with
    | .inl () =>
      (some true)
    | .inr r => some r)

def M.slices_Clone_impl_Carton_impl_Carton (s : List Carton) : Option (List Carton) := asrt ((s.length : Int) ≤ 2147483648) <| some s

def M.slices_Clone_int_int (s : List Int) : Option (List Int) := asrt ((s.length : Int) ≤ 2147483648) <| some s

def M.impl_copyCartons_l0 (y0 : List Carton) : (List Carton × Int) → Option ((List Carton × Int) ⊕ (List Carton)) := fun st_ => match st_ with
| (out_0, v) =>
  bif (decide (v < (y0.length : Int))) then (
    asrt ((0 : Int) ≤ v ∧ v < (out_0.length : Int)) <|
    (M.slices_Clone_int_int ((out_0.getD (Int.toNat v) default).Files)).bind fun y2 =>
    asrt ((0 : Int) ≤ v ∧ v < (out_0.length : Int)) <|
    some (.inl ((out_0.set (Int.toNat v) (⟨(out_0.getD (Int.toNat v) default).Id, (out_0.getD (Int.toNat v) default).Shelf, (out_0.getD (Int.toNat v) default).Room, y2, (out_0.getD (Int.toNat v) default).Thick⟩ : Carton)), (IntKind.i64.wrap (v + (1 : Int))))))
  else (
    some (.inr out_0))

def M.impl_copyCartons (list : List Carton) : Option (List Carton) :=
  (M.slices_Clone_impl_Carton_impl_Carton list).bind fun y0 =>
  (iterO (M.impl_copyCartons_l0 y0) (y0, (0 : Int))).bind fun e => match e with
  | out_ =>
    (some out_)

def M.slices_Sort_int_int (s : List Int) : Option (List Int) := asrt (s.length < 4611686018427387904) <| some (sortL s)

def M.slices_Delete_impl_Carton_impl_Carton (s : List Carton) (i : Int) (j_ : Int) : Option (List Carton) := delM (⟨(0 : Int), (0 : Int), (0 : Int), ([] : List Int), (0 : Int)⟩ : Carton) s i j_

def M.impl_MergeCartons (list : List Carton) (a : Int) (b_ : Int) : Option (List Carton × Bool) :=
  (M.impl_cartonAt list a).bind fun y0 =>
  (M.impl_cartonAt list b_).bind fun y1 =>
  (M.impl_AreCartons list).bind fun y2 =>
  bif ((((!y2) || (decide (y0 < (0 : Int)))) || (decide (y1 < (0 : Int)))) || (y0 == y1)) then (
    some (([] : List Carton), false))
  else (
    (M.impl_copyCartons list).bind fun y3 =>
    asrt ((0 : Int) ≤ y0 ∧ y0 < (y3.length : Int)) <|
    asrt ((0 : Int) ≤ y1 ∧ y1 < (y3.length : Int)) <|
    asrt (Int.toNat y1 ≠ Int.toNat y0) <|
    asrt ((0 : Int) ≤ y0 ∧ y0 < (y3.length : Int)) <|
    asrt ((0 : Int) ≤ y1 ∧ y1 < (y3.length : Int)) <|
    asrt ((((y3.getD (Int.toNat y0) default).Files).length : Int) + (((y3.getD (Int.toNat y1) default).Files).length : Int) ≤ 2147483648) <|
    asrt ((0 : Int) ≤ y0 ∧ y0 < (y3.length : Int)) <|
    (((
      some (y3.set (Int.toNat y0) (⟨(y3.getD (Int.toNat y0) default).Id, (y3.getD (Int.toNat y0) default).Shelf, (y3.getD (Int.toNat y0) default).Room, (((y3.getD (Int.toNat y0) default).Files) ++ ((y3.getD (Int.toNat y1) default).Files)), (y3.getD (Int.toNat y0) default).Thick⟩ : Carton))) : Option (List Carton))).bind fun e => match e with
    | out_ =>
      (asrt ((0 : Int) ≤ y0 ∧ y0 < (out_.length : Int)) <|
      (M.slices_Sort_int_int ((out_.getD (Int.toNat y0) default).Files)).bind fun y4 =>
      asrt (y4.length = ((out_.getD (Int.toNat y0) default).Files).length) <|
      asrt ((0 : Int) ≤ y0 ∧ y0 < ((out_.set (Int.toNat y0) (⟨(out_.getD (Int.toNat y0) default).Id, (out_.getD (Int.toNat y0) default).Shelf, (out_.getD (Int.toNat y0) default).Room, y4, (out_.getD (Int.toNat y0) default).Thick⟩ : Carton)).length : Int)) <|
      asrt ((0 : Int) ≤ y1 ∧ y1 < ((out_.set (Int.toNat y0) (⟨(out_.getD (Int.toNat y0) default).Id, (out_.getD (Int.toNat y0) default).Shelf, (out_.getD (Int.toNat y0) default).Room, y4, (out_.getD (Int.toNat y0) default).Thick⟩ : Carton)).length : Int)) <|
      asrt ((0 : Int) ≤ y0 ∧ y0 < ((out_.set (Int.toNat y0) (⟨(out_.getD (Int.toNat y0) default).Id, (out_.getD (Int.toNat y0) default).Shelf, (out_.getD (Int.toNat y0) default).Room, y4, (out_.getD (Int.toNat y0) default).Thick⟩ : Carton)).length : Int)) <|
      (M.slices_Delete_impl_Carton_impl_Carton ((out_.set (Int.toNat y0) (⟨(out_.getD (Int.toNat y0) default).Id, (out_.getD (Int.toNat y0) default).Shelf, (out_.getD (Int.toNat y0) default).Room, y4, (out_.getD (Int.toNat y0) default).Thick⟩ : Carton)).set (Int.toNat y0) (⟨((out_.set (Int.toNat y0) (⟨(out_.getD (Int.toNat y0) default).Id, (out_.getD (Int.toNat y0) default).Shelf, (out_.getD (Int.toNat y0) default).Room, y4, (out_.getD (Int.toNat y0) default).Thick⟩ : Carton)).getD (Int.toNat y0) default).Id, ((out_.set (Int.toNat y0) (⟨(out_.getD (Int.toNat y0) default).Id, (out_.getD (Int.toNat y0) default).Shelf, (out_.getD (Int.toNat y0) default).Room, y4, (out_.getD (Int.toNat y0) default).Thick⟩ : Carton)).getD (Int.toNat y0) default).Shelf, ((out_.set (Int.toNat y0) (⟨(out_.getD (Int.toNat y0) default).Id, (out_.getD (Int.toNat y0) default).Shelf, (out_.getD (Int.toNat y0) default).Room, y4, (out_.getD (Int.toNat y0) default).Thick⟩ : Carton)).getD (Int.toNat y0) default).Room, ((out_.set (Int.toNat y0) (⟨(out_.getD (Int.toNat y0) default).Id, (out_.getD (Int.toNat y0) default).Shelf, (out_.getD (Int.toNat y0) default).Room, y4, (out_.getD (Int.toNat y0) default).Thick⟩ : Carton)).getD (Int.toNat y0) default).Files, (IntKind.i64.wrap ((((out_.set (Int.toNat y0) (⟨(out_.getD (Int.toNat y0) default).Id, (out_.getD (Int.toNat y0) default).Shelf, (out_.getD (Int.toNat y0) default).Room, y4, (out_.getD (Int.toNat y0) default).Thick⟩ : Carton)).getD (Int.toNat y0) default).Thick) + (((out_.set (Int.toNat y0) (⟨(out_.getD (Int.toNat y0) default).Id, (out_.getD (Int.toNat y0) default).Shelf, (out_.getD (Int.toNat y0) default).Room, y4, (out_.getD (Int.toNat y0) default).Thick⟩ : Carton)).getD (Int.toNat y1) default).Thick)))⟩ : Carton)) y1 (IntKind.i64.wrap (y1 + (1 : Int)))).bind fun y5 =>
      (M.impl_AreCartons y5).bind fun y6 =>
      bif (!y6) then (
        some (([] : List Carton), false))
      else (
        some (y5, true))))

def M.laws_eqIntS_l0 (a : List Int) (b_ : List Int) : (Int) → Option ((Int) ⊕ ((Unit) ⊕ (Bool))) := fun st_ => match st_ with
| i =>
  bif (decide (i < (a.length : Int))) then (
    asrt ((0 : Int) ≤ i ∧ i < (a.length : Int)) <|
    asrt ((0 : Int) ≤ i ∧ i < (b_.length : Int)) <|
    bif ((a.getD (Int.toNat i) default) != (b_.getD (Int.toNat i) default)) then (
      some (.inr (.inr false)))
    else (
      some (.inl (IntKind.i64.wrap (i + (1 : Int))))))
  else (
    some (.inr (.inl ())))

def M.laws_eqIntS (a : List Int) (b_ : List Int) : Option Bool :=
  bif ((a.length : Int) != (b_.length : Int)) then (
    some false)
  else (
    (iterO (M.laws_eqIntS_l0 a b_) (0 : Int)).bind fun e => match e with
    | .inl () =>
      (some true)
    | .inr r => some r)

def M.laws_eqCarton (a : Carton) (b_ : Carton) : Option Bool :=
  bif (a.Id != b_.Id) then (
    some false)
  else (
    bif (a.Shelf != b_.Shelf) then (
      some false)
    else (
      bif (a.Room != b_.Room) then (
        some false)
      else (
        (M.laws_eqIntS a.Files b_.Files).bind fun y0 =>
        bif (!y0) then (
          some false)
        else (
          bif (a.Thick != b_.Thick) then (
            some false)
          else (
            some true)))))

def M.laws_eqCartonS_l0 (a : List Carton) (b_ : List Carton) : (Int) → Option ((Int) ⊕ ((Unit) ⊕ (Bool))) := fun st_ => match st_ with
| i =>
  bif (decide (i < (a.length : Int))) then (
    asrt ((0 : Int) ≤ i ∧ i < (a.length : Int)) <|
    asrt ((0 : Int) ≤ i ∧ i < (b_.length : Int)) <|
    (M.laws_eqCarton (a.getD (Int.toNat i) default) (b_.getD (Int.toNat i) default)).bind fun y1 =>
    bif (!y1) then (
      some (.inr (.inr false)))
    else (
      some (.inl (IntKind.i64.wrap (i + (1 : Int))))))
  else (
    some (.inr (.inl ())))

def M.laws_eqCartonS (a : List Carton) (b_ : List Carton) : Option Bool :=
  bif ((a.length : Int) != (b_.length : Int)) then (
    some false)
  else (
    (iterO (M.laws_eqCartonS_l0 a b_) (0 : Int)).bind fun e => match e with
    | .inl () =>
      (some true)
    | .inr r => some r)

def M.laws_markIntS_l0 : (List Int × Int × Int) → Option ((List Int × Int × Int) ⊕ (List Int × Int)) := fun st_ => match st_ with
| (a1, k1, i) =>
  bif (decide (i < (a1.length : Int))) then (
    asrt ((0 : Int) ≤ i ∧ i < (a1.length : Int)) <|
    some (.inl ((a1.set (Int.toNat i) k1), (IntKind.i64.wrap (k1 + (1 : Int))), (IntKind.i64.wrap (i + (1 : Int))))))
  else (
    some (.inr (a1, k1)))

def M.laws_markIntS (a : List Int) (k : Int) : Option (Int × List Int) :=
  (iterO (M.laws_markIntS_l0) (a, k, (0 : Int))).bind fun e => match e with
  | (a0, k0) =>
    (some (k0, a0))

def M.laws_markCartonS_l0 : (List Carton × Int × Int) → Option ((List Carton × Int × Int) ⊕ (List Carton × Int)) := fun st_ => match st_ with
| (a1, k1, i) =>
  bif (decide (i < (a1.length : Int))) then (
    asrt ((0 : Int) ≤ i ∧ i < (a1.length : Int)) <|
    asrt ((0 : Int) ≤ i ∧ i < ((a1.set (Int.toNat i) (⟨k1, (a1.getD (Int.toNat i) default).Shelf, (a1.getD (Int.toNat i) default).Room, (a1.getD (Int.toNat i) default).Files, (a1.getD (Int.toNat i) default).Thick⟩ : Carton)).length : Int)) <|
    asrt ((0 : Int) ≤ i ∧ i < ((a1.set (Int.toNat i) (⟨k1, (IntKind.i64.wrap (k1 + (1 : Int))), (a1.getD (Int.toNat i) default).Room, (a1.getD (Int.toNat i) default).Files, (a1.getD (Int.toNat i) default).Thick⟩ : Carton)).length : Int)) <|
    asrt ((0 : Int) ≤ i ∧ i < ((a1.set (Int.toNat i) (⟨k1, (IntKind.i64.wrap (k1 + (1 : Int))), (IntKind.i64.wrap ((IntKind.i64.wrap (k1 + (1 : Int))) + (1 : Int))), (a1.getD (Int.toNat i) default).Files, (a1.getD (Int.toNat i) default).Thick⟩ : Carton)).length : Int)) <|
    (M.laws_markIntS (((a1.set (Int.toNat i) (⟨k1, (IntKind.i64.wrap (k1 + (1 : Int))), (IntKind.i64.wrap ((IntKind.i64.wrap (k1 + (1 : Int))) + (1 : Int))), (a1.getD (Int.toNat i) default).Files, (a1.getD (Int.toNat i) default).Thick⟩ : Carton)).getD (Int.toNat i) default).Files) (IntKind.i64.wrap ((IntKind.i64.wrap ((IntKind.i64.wrap (k1 + (1 : Int))) + (1 : Int))) + (1 : Int)))).bind fun y1 =>
    asrt (y1.2.length = (((a1.set (Int.toNat i) (⟨k1, (IntKind.i64.wrap (k1 + (1 : Int))), (IntKind.i64.wrap ((IntKind.i64.wrap (k1 + (1 : Int))) + (1 : Int))), (a1.getD (Int.toNat i) default).Files, (a1.getD (Int.toNat i) default).Thick⟩ : Carton)).getD (Int.toNat i) default).Files).length) <|
    asrt ((0 : Int) ≤ i ∧ i < ((a1.set (Int.toNat i) (⟨k1, (IntKind.i64.wrap (k1 + (1 : Int))), (IntKind.i64.wrap ((IntKind.i64.wrap (k1 + (1 : Int))) + (1 : Int))), y1.2, (a1.getD (Int.toNat i) default).Thick⟩ : Carton)).length : Int)) <|
    some (.inl ((a1.set (Int.toNat i) (⟨k1, (IntKind.i64.wrap (k1 + (1 : Int))), (IntKind.i64.wrap ((IntKind.i64.wrap (k1 + (1 : Int))) + (1 : Int))), y1.2, y1.1⟩ : Carton)), (IntKind.i64.wrap (y1.1 + (1 : Int))), (IntKind.i64.wrap (i + (1 : Int))))))
  else (
    some (.inr (a1, k1)))

def M.laws_markCartonS (a : List Carton) (k : Int) : Option (Int × List Carton) :=
  (iterO (M.laws_markCartonS_l0) (a, k, (0 : Int))).bind fun e => match e with
  | (a0, k0) =>
    (some (k0, a0))

def M.laws_heldIntS_l0 (a : List Int) : (Int × Int) → Option ((Int × Int) ⊕ ((Int) ⊕ (Int))) := fun st_ => match st_ with
| (k1, i) =>
  bif (decide (i < (a.length : Int))) then (
    asrt ((0 : Int) ≤ i ∧ i < (a.length : Int)) <|
    bif ((a.getD (Int.toNat i) default) != k1) then (
      some (.inr (.inr (-1 : Int))))
    else (
      some (.inl ((IntKind.i64.wrap (k1 + (1 : Int))), (IntKind.i64.wrap (i + (1 : Int)))))))
  else (
    some (.inr (.inl k1)))

def M.laws_heldIntS (a : List Int) (k : Int) : Option Int :=
  (iterO (M.laws_heldIntS_l0 a) (k, (0 : Int))).bind fun e => match e with
  | .inl k0 =>
    (some k0)
  | .inr r => some r

def M.laws_heldCartonS_l0 (a : List Carton) : (Int × Int) → Option ((Int × Int) ⊕ ((Int) ⊕ (Int))) := fun st_ => match st_ with
| (k1, i) =>
  bif (decide (i < (a.length : Int))) then (
    asrt ((0 : Int) ≤ i ∧ i < (a.length : Int)) <|
    bif (((a.getD (Int.toNat i) default).Id) != k1) then (
      some (.inr (.inr (-1 : Int))))
    else (
      asrt ((0 : Int) ≤ i ∧ i < (a.length : Int)) <|
      bif (((a.getD (Int.toNat i) default).Shelf) != (IntKind.i64.wrap (k1 + (1 : Int)))) then (
        some (.inr (.inr (-1 : Int))))
      else (
        asrt ((0 : Int) ≤ i ∧ i < (a.length : Int)) <|
        bif (((a.getD (Int.toNat i) default).Room) != (IntKind.i64.wrap ((IntKind.i64.wrap (k1 + (1 : Int))) + (1 : Int)))) then (
          some (.inr (.inr (-1 : Int))))
        else (
          asrt ((0 : Int) ≤ i ∧ i < (a.length : Int)) <|
          (M.laws_heldIntS ((a.getD (Int.toNat i) default).Files) (IntKind.i64.wrap ((IntKind.i64.wrap ((IntKind.i64.wrap (k1 + (1 : Int))) + (1 : Int))) + (1 : Int)))).bind fun y1 =>
          bif (decide (y1 < (0 : Int))) then (
            some (.inr (.inr (-1 : Int))))
          else (
            asrt ((0 : Int) ≤ i ∧ i < (a.length : Int)) <|
            bif (((a.getD (Int.toNat i) default).Thick) != y1) then (
              some (.inr (.inr (-1 : Int))))
            else (
              some (.inl ((IntKind.i64.wrap (y1 + (1 : Int))), (IntKind.i64.wrap (i + (1 : Int)))))))))))
  else (
    some (.inr (.inl k1)))

def M.laws_heldCartonS (a : List Carton) (k : Int) : Option Int :=
  (iterO (M.laws_heldCartonS_l0 a) (k, (0 : Int))).bind fun e => match e with
  | .inl k0 =>
    (some k0)
  | .inr r => some r

def M.laws_FnExactMergeCartons (aList : List Carton) (aA : Int) (aB : Int) : Option Bool :=
  (M.laws_szCartonS aList (1048576 : Int)).bind fun y0 =>
  bif (decide (y0 < (0 : Int))) then (
    some true)
  else (
    (M.laws_toCartonS aList).bind fun y1 =>
    (M.spec_MergeCartons y1 aA aB).bind fun y2 =>
    (M.laws_toCartonS aList).bind fun y3 =>
    (M.impl_MergeCartons y3 aA aB).bind fun y4 =>
    (M.laws_eqCartonS y4.1 y2.1).bind fun y5 =>
    bif ((!y5) || (!(y4.2 == y2.2))) then (
      some false)
    else (
      (M.laws_toCartonS aList).bind fun y6 =>
      (M.laws_eqCartonS y3 y6).bind fun y7 =>
      bif (!y7) then (
        some false)
      else (
        (M.laws_markCartonS y3 (1 : Int)).bind fun y8 =>
        asrt (y8.2.length = y3.length) <|
        ((bif (decide (y8.1 < (0 : Int))) then some default else M.laws_eqCartonS y4.1 y2.1)).bind fun y9 =>
        bif (((decide (y8.1 < (0 : Int))) || (!y9)) || (!(y4.2 == y2.2))) then (
          some false)
        else (
          (M.laws_markCartonS y4.1 (1 : Int)).bind fun y10 =>
          asrt (y10.2.length = y4.1.length) <|
          (M.laws_heldCartonS y10.2 (1 : Int)).bind fun y11 =>
          bif (decide (y11 < (0 : Int))) then (
            some false)
          else (
            bif (y11 != y10.1) then (
              some false)
            else (
              (M.laws_toCartonS aList).bind fun y12 =>
              (M.impl_MergeCartons y12 aA aB).bind fun y13 =>
              (M.laws_eqCartonS y13.1 y2.1).bind fun y14 =>
              bif ((!y14) || (!(y13.2 == y2.2))) then (
                some false)
              else (
                (M.laws_heldCartonS y10.2 (1 : Int)).bind fun y15 =>
                bif (decide (y15 < (0 : Int))) then (
                  some false)
                else (
                  bif (y15 != y10.1) then (
                    some false)
                  else (
                    some true)))))))))
end Go.Proofs.Ytfebeomnlkfgoaa
