/- models of the functions -/
import Derived.Test.YtfebeomnlkfgoaaWl
set_option linter.unusedSimpArgs false
set_option linter.unusedVariables false
set_option maxRecDepth 100000
namespace Go.Proofs.Ytfebeomnlkfgoaa
open Go.VS

structure Carton where
  Id : Int
  Shelf : Int
  Room : Int
  Files : List Int
  Thick : Int
  deriving Inhabited, DecidableEq

abbrev encCarton (ρ : Nat) (c : Carton) : PV := .agg [.int .i64 c.Id, .int .i64 c.Shelf, .int .i64 c.Room, .vl ρ 1 (List.map encInt c.Files), .int .i64 c.Thick]

abbrev cellCarton (t_ : PV) (c : Carton) : PV := .agg [.int .i64 c.Id, .int .i64 c.Shelf, .int .i64 c.Room, t_, .int .i64 c.Thick]

theorem cokCarton : CellOK 5 3 1 (fun c_ : Carton => List.map encInt c_.Files) cellCarton where
  good := fun t x h => rfl
  isl := fun t x h => rfl
  set := fun t t' x h h' => rfl
  no := fun τ t x h => by simp [PV.no, PV.noL, h]
  rep := fun w S S' own own' t t' x h => Rep.aggTo ((.cons (fun u hu => by unfold Rep at hu ⊢; exact hu) (.cons (fun u hu => by unfold Rep at hu ⊢; exact hu) (.cons (fun u hu => by unfold Rep at hu ⊢; exact hu) (.cons h (.cons (fun u hu => by unfold Rep at hu ⊢; exact hu) .nil))))))

def M.laws_szIntS (a : List Int) (left : Int) : Option Int :=
  bif (decide ((IntKind.i64.wrap (left - (a.length : Int))) < (0 : Int))) then (
    some (-1 : Int))
  else (
    some (IntKind.i64.wrap (left - (a.length : Int))))

def M.laws_szCarton (a : Carton) (left : Int) : Option Int :=
  (M.laws_szIntS a.Files left).bind fun y0 =>
  bif (decide (y0 < (0 : Int))) then (
    some (-1 : Int))
  else (
    some y0)

def M.laws_szCartonS_l0 (a : List Carton) : (Int × Int) → Option ((Int × Int) ⊕ ((Int) ⊕ (Int))) := fun st_ => match st_ with
| (left1, i) =>
  bif (decide (i < (a.length : Int))) then (
    asrt ((0 : Int) ≤ i ∧ i < (a.length : Int)) <|
    (M.laws_szCarton (a.getD (Int.toNat i) default) left1).bind fun y1 =>
    bif (decide (y1 < (0 : Int))) then (
      some (.inr (.inr (-1 : Int))))
    else (
      some (.inl (y1, (IntKind.i64.wrap (i + (1 : Int)))))))
  else (
    some (.inr (.inl left1)))

def M.laws_szCartonS (a : List Carton) (left : Int) : Option Int :=
  bif (decide ((IntKind.i64.wrap (left - (a.length : Int))) < (0 : Int))) then (
    some (-1 : Int))
  else (
    (iterO (M.laws_szCartonS_l0 a) ((IntKind.i64.wrap (left - (a.length : Int))), (0 : Int))).bind fun e => match e with
    | .inl left0 =>
      (some left0)
    | .inr r => some r)

def M.laws_toIntS_l0 (a : List Int) : (List Int × Int) → Option ((List Int × Int) ⊕ (List Int)) := fun st_ => match st_ with
| (out_0, i) =>
  bif (decide (i < (a.length : Int))) then (
    asrt ((0 : Int) ≤ i ∧ i < (a.length : Int)) <|
    asrt ((0 : Int) ≤ i ∧ i < (out_0.length : Int)) <|
    some (.inl ((out_0.set (Int.toNat i) (a.getD (Int.toNat i) default)), (IntKind.i64.wrap (i + (1 : Int))))))
  else (
    some (.inr out_0))

def M.laws_toIntS (a : List Int) : Option (List Int) :=
  asrt ((0 : Int) ≤ (a.length : Int) ∧ (a.length : Int) ≤ (a.length : Int) ∧ (a.length : Int) ≤ 2147483648) <|
  (iterO (M.laws_toIntS_l0 a) ((List.replicate (Int.toNat (a.length : Int)) (0 : Int)), (0 : Int))).bind fun e => match e with
  | out_ =>
    (some out_)

def M.laws_toCarton (a : Carton) : Option Carton :=
  (M.laws_toIntS a.Files).bind fun y0 =>
  some (⟨a.Id, a.Shelf, a.Room, y0, a.Thick⟩ : Carton)

def M.laws_toCartonS_l0 (a : List Carton) : (List Carton × Int) → Option ((List Carton × Int) ⊕ (List Carton)) := fun st_ => match st_ with
| (out_0, i) =>
  bif (decide (i < (a.length : Int))) then (
    asrt ((0 : Int) ≤ i ∧ i < (a.length : Int)) <|
    (M.laws_toCarton (a.getD (Int.toNat i) default)).bind fun y1 =>
    asrt ((0 : Int) ≤ i ∧ i < (out_0.length : Int)) <|
    some (.inl ((out_0.set (Int.toNat i) y1), (IntKind.i64.wrap (i + (1 : Int))))))
  else (
    some (.inr out_0))

def M.laws_toCartonS (a : List Carton) : Option (List Carton) :=
  asrt ((0 : Int) ≤ (a.length : Int) ∧ (a.length : Int) ≤ (a.length : Int) ∧ (a.length : Int) ≤ 2147483648) <|
  (iterO (M.laws_toCartonS_l0 a) ((List.replicate (Int.toNat (a.length : Int)) (⟨(0 : Int), (0 : Int), (0 : Int), ([] : List Int), (0 : Int)⟩ : Carton)), (0 : Int))).bind fun e => match e with
  | out_ =>
    (some out_)

def M.spec_l1In (x : Int) (a : Int) (b_ : Int) : Option Bool :=
  some ((decide (x ≥ a)) && (decide (x ≤ b_)))

def M.spec_l18Place (room : Int) (shelf : Int) : Option Bool :=
  (M.spec_l1In room (1 : Int) (9 : Int)).bind fun y0 =>
  ((bif y0 then M.spec_l1In shelf (1 : Int) (30 : Int) else some default)).bind fun y1 =>
  some (y0 && y1)

def M.spec_l1Rising_l0 (l : List Int) (lo : Int) (hi : Int) : (Int) → Option ((Int) ⊕ ((Unit) ⊕ (Bool))) := fun st_ => match st_ with
| i =>
  bif (decide (i < (l.length : Int))) then (
    asrt ((0 : Int) ≤ i ∧ i < (l.length : Int)) <|
    (M.spec_l1In (l.getD (Int.toNat i) default) lo hi).bind fun y1 =>
    asrt ((!y1) = false → (decide (i > (0 : Int))) = true → ((0 : Int) ≤ (IntKind.i64.wrap (i - (1 : Int))) ∧ (IntKind.i64.wrap (i - (1 : Int))) < (l.length : Int))) <|
    asrt ((!y1) = false → (decide (i > (0 : Int))) = true → ((0 : Int) ≤ i ∧ i < (l.length : Int))) <|
    bif ((!y1) || ((decide (i > (0 : Int))) && (decide ((l.getD (Int.toNat (IntKind.i64.wrap (i - (1 : Int)))) default) ≥ (l.getD (Int.toNat i) default))))) then (
      some (.inr (.inr false)))
    else (
      some (.inl (IntKind.i64.wrap (i + (1 : Int))))))
  else (
    some (.inr (.inl ())))

def M.spec_l1Rising (l : List Int) (lo : Int) (hi : Int) : Option Bool :=
  (iterO (M.spec_l1Rising_l0 l lo hi) (0 : Int)).bind fun e => match e with
  | .inl () =>
    (some true)
  | .inr r => some r

def M.spec_l18One (x : Carton) : Option Bool :=
  (M.spec_l1In x.Id (1 : Int) (99 : Int)).bind fun y0 =>
  ((bif y0 then M.spec_l18Place x.Room x.Shelf else some default)).bind fun y1 =>
  ((bif ((y0 && y1) && (decide ((x.Files.length : Int) ≤ (12 : Int)))) then M.spec_l1Rising x.Files (1 : Int) (999 : Int) else some default)).bind fun y2 =>
  ((bif (((y0 && y1) && (decide ((x.Files.length : Int) ≤ (12 : Int)))) && y2) then M.spec_l1In x.Thick (1 : Int) (40 : Int) else some default)).bind fun y3 =>
  some ((((y0 && y1) && (decide ((x.Files.length : Int) ≤ (12 : Int)))) && y2) && y3)

def M.spec_l18Taken_l0 (list : List Carton) (room : Int) (shelf : Int) : (Int × Int) → Option ((Int × Int) ⊕ (Int)) := fun st_ => match st_ with
| (sum_0, i) =>
  bif (decide (i < (list.length : Int))) then (
    (((
      asrt ((0 : Int) ≤ i ∧ i < (list.length : Int)) <|
      asrt ((((list.getD (Int.toNat i) default).Room) == room) = true → ((0 : Int) ≤ i ∧ i < (list.length : Int))) <|
      bif ((((list.getD (Int.toNat i) default).Room) == room) && (((list.getD (Int.toNat i) default).Shelf) == shelf)) then (
        asrt ((0 : Int) ≤ i ∧ i < (list.length : Int)) <|
        some (IntKind.i64.wrap (sum_0 + ((list.getD (Int.toNat i) default).Thick))))
      else (
        some sum_0)) : Option Int)).bind fun e => match e with
    | sum_1 =>
      (some (.inl (sum_1, (IntKind.i64.wrap (i + (1 : Int)))))))
  else (
    some (.inr sum_0))

def M.spec_l18Taken (list : List Carton) (room : Int) (shelf : Int) : Option Int :=
  (iterO (M.spec_l18Taken_l0 list room shelf) ((0 : Int), (0 : Int))).bind fun e => match e with
  | sum_ =>
    (some sum_)

def M.spec_l1Has_l0 (l : List Int) (n : Int) : (Int) → Option ((Int) ⊕ ((Unit) ⊕ (Bool))) := fun st_ => match st_ with
| i =>
  bif (decide (i < (l.length : Int))) then (
    asrt ((0 : Int) ≤ i ∧ i < (l.length : Int)) <|
    bif ((l.getD (Int.toNat i) default) == n) then (
      some (.inr (.inr true)))
    else (
      some (.inl (IntKind.i64.wrap (i + (1 : Int))))))
  else (
    some (.inr (.inl ())))

def M.spec_l1Has (l : List Int) (n : Int) : Option Bool :=
  (iterO (M.spec_l1Has_l0 l n) (0 : Int)).bind fun e => match e with
  | .inl () =>
    (some false)
  | .inr r => some r

def M.spec_l18Holds_l0 (list : List Carton) (file : Int) : (Int) → Option ((Int) ⊕ ((Unit) ⊕ (Int))) := fun st_ => match st_ with
| i =>
  bif (decide (i < (list.length : Int))) then (
    asrt ((0 : Int) ≤ i ∧ i < (list.length : Int)) <|
    (M.spec_l1Has ((list.getD (Int.toNat i) default).Files) file).bind fun y1 =>
    bif y1 then (
      some (.inr (.inr i)))
    else (
      some (.inl (IntKind.i64.wrap (i + (1 : Int))))))
  else (
    some (.inr (.inl ())))

def M.spec_l18Holds (list : List Carton) (file : Int) : Option Int :=
  (iterO (M.spec_l18Holds_l0 list file) (0 : Int)).bind fun e => match e with
  | .inl () =>
    (some (-1 : Int))
  | .inr r => some r

def M.spec_l18Good_l1 (list : List Carton) (i : Int) : (Int) → Option ((Int) ⊕ ((Unit) ⊕ (Bool))) := fun st_ => match st_ with
| k =>
  bif (decide (k < (((list.getD (Int.toNat i) default).Files).length : Int))) then (
    asrt ((0 : Int) ≤ (0 : Int) ∧ (0 : Int) ≤ i ∧ i ≤ (list.length : Int)) <|
    asrt ((0 : Int) ≤ k ∧ k < (((list.getD (Int.toNat i) default).Files).length : Int)) <|
    (M.spec_l18Holds (slc list (0 : Int) i) (((list.getD (Int.toNat i) default).Files).getD (Int.toNat k) default)).bind fun y4 =>
    bif (decide (y4 ≥ (0 : Int))) then (
      some (.inr (.inr false)))
    else (
      some (.inl (IntKind.i64.wrap (k + (1 : Int))))))
  else (
    some (.inr (.inl ())))

def M.spec_l18Good_l0 (list : List Carton) : (Int) → Option ((Int) ⊕ ((Unit) ⊕ (Bool))) := fun st_ => match st_ with
| i =>
  bif ((decide (i < (list.length : Int))) && (decide (i ≤ (10 : Int)))) then (
    asrt ((0 : Int) ≤ i ∧ i < (list.length : Int)) <|
    (M.spec_l18One (list.getD (Int.toNat i) default)).bind fun y1 =>
    asrt ((!y1) = false → (decide (i > (0 : Int))) = true → ((0 : Int) ≤ (IntKind.i64.wrap (i - (1 : Int))) ∧ (IntKind.i64.wrap (i - (1 : Int))) < (list.length : Int))) <|
    asrt (((!y1) || ((decide (i > (0 : Int))) && (decide (((list.getD (Int.toNat (IntKind.i64.wrap (i - (1 : Int)))) default).Id) ≥ ((list.getD (Int.toNat i) default).Id))))) = false → ((0 : Int) ≤ (0 : Int) ∧ (0 : Int) ≤ (IntKind.i64.wrap (i + (1 : Int))) ∧ (IntKind.i64.wrap (i + (1 : Int))) ≤ (list.length : Int))) <|
    ((bif ((!y1) || ((decide (i > (0 : Int))) && (decide (((list.getD (Int.toNat (IntKind.i64.wrap (i - (1 : Int)))) default).Id) ≥ ((list.getD (Int.toNat i) default).Id))))) then some default else M.spec_l18Taken (slc list (0 : Int) (IntKind.i64.wrap (i + (1 : Int)))) ((list.getD (Int.toNat i) default).Room) ((list.getD (Int.toNat i) default).Shelf))).bind fun y2 =>
    bif (((!y1) || ((decide (i > (0 : Int))) && (decide (((list.getD (Int.toNat (IntKind.i64.wrap (i - (1 : Int)))) default).Id) ≥ ((list.getD (Int.toNat i) default).Id))))) || (decide (y2 > (100 : Int)))) then (
      some (.inr (.inr false)))
    else (
      (iterO (M.spec_l18Good_l1 list i) (0 : Int)).bind fun e => match e with
      | .inl () =>
        (some (.inl (IntKind.i64.wrap (i + (1 : Int)))))
      | .inr r => some (.inr (.inr r))))
  else (
    some (.inr (.inl ())))

def M.spec_l18Good (list : List Carton) : Option Bool :=
  (iterO (M.spec_l18Good_l0 list) (0 : Int)).bind fun e => match e with
  | .inl () =>
    (some (decide ((list.length : Int) ≤ (10 : Int))))
  | .inr r => some r

def M.spec_l1Put_l0 (l : List Int) (n : Int) : (Int) → Option ((Int) ⊕ (Int)) := fun st_ => match st_ with
| k0 =>
  asrt ((decide (k0 < (l.length : Int))) = true → ((0 : Int) ≤ k0 ∧ k0 < (l.length : Int))) <|
  bif ((decide (k0 < (l.length : Int))) && (decide ((l.getD (Int.toNat k0) default) < n))) then (
    some (.inl (IntKind.i64.wrap (k0 + (1 : Int)))))
  else (
    some (.inr k0))

def M.spec_l1Put (l : List Int) (n : Int) : Option (List Int) :=
  (iterO (M.spec_l1Put_l0 l n) (0 : Int)).bind fun e => match e with
  | k =>
    (asrt ((decide (k < (l.length : Int))) = true → ((0 : Int) ≤ k ∧ k < (l.length : Int))) <|
    bif ((decide (k < (l.length : Int))) && ((l.getD (Int.toNat k) default) == n)) then (
      some l)
    else (
      asrt ((0 : Int) ≤ (0 : Int) ∧ (0 : Int) ≤ k ∧ k ≤ (l.length : Int)) <|
      asrt ((([] : List Int).length : Int) + ((slc l (0 : Int) k).length : Int) ≤ 2147483648) <|
      asrt (((([] : List Int) ++ (slc l (0 : Int) k)).length : Int) + (([n] : List Int).length : Int) ≤ 2147483648) <|
      asrt ((0 : Int) ≤ k ∧ k ≤ (l.length : Int) ∧ (l.length : Int) ≤ (l.length : Int)) <|
      asrt ((((([] : List Int) ++ (slc l (0 : Int) k)) ++ ([n] : List Int)).length : Int) + ((slc l k (l.length : Int)).length : Int) ≤ 2147483648) <|
      (((
        some (((([] : List Int) ++ (slc l (0 : Int) k)) ++ ([n] : List Int)) ++ (slc l k (l.length : Int)))) : Option (List Int))).bind fun e => match e with
      | v =>
        (some v)))

def M.spec_PullList_l0 (list : List Carton) (files : List Int) : (List Int × Int) → Option ((List Int × Int) ⊕ ((List Int) ⊕ (List Int × Bool))) := fun st_ => match st_ with
| (some_0, i) =>
  bif (decide (i < (files.length : Int))) then (
    (((
      asrt ((0 : Int) ≤ i ∧ i < (files.length : Int)) <|
      (M.spec_l18Holds list (files.getD (Int.toNat i) default)).bind fun y4 =>
      bif (decide (y4 < (0 : Int))) then (
        some (.inr (([] : List Int), false)))
      else (
        (M.spec_l1Has some_0 y4).bind fun y5 =>
        bif (!y5) then (
          (M.spec_l1Put some_0 y4).bind fun y6 =>
          some (.inl y6))
        else (
          some (.inl some_0)))) : Option ((List Int) ⊕ (List Int × Bool)))).bind fun e => match e with
    | .inl some_1 =>
      (some (.inl (some_1, (IntKind.i64.wrap (i + (1 : Int))))))
    | .inr r => some (.inr (.inr r)))
  else (
    some (.inr (.inl some_0)))

def M.spec_PullList_l3 (list : List Carton) (some_ : List Int) (room : Int) (shelf : Int) : (List Int × Int) → Option ((List Int × Int) ⊕ (List Int)) := fun st_ => match st_ with
| (out_4, i0) =>
  bif (decide (i0 < (some_.length : Int))) then (
    (((
      asrt ((0 : Int) ≤ i0 ∧ i0 < (some_.length : Int)) <|
      asrt ((0 : Int) ≤ (some_.getD (Int.toNat i0) default) ∧ (some_.getD (Int.toNat i0) default) < (list.length : Int)) <|
      bif ((((list.getD (Int.toNat (some_.getD (Int.toNat i0) default)) default).Room) == room) && (((list.getD (Int.toNat (some_.getD (Int.toNat i0) default)) default).Shelf) == shelf)) then (
        asrt ((out_4.length : Int) + (([(list.getD (Int.toNat (some_.getD (Int.toNat i0) default)) default).Id] : List Int).length : Int) ≤ 2147483648) <|
        some (out_4 ++ ([(list.getD (Int.toNat (some_.getD (Int.toNat i0) default)) default).Id] : List Int)))
      else (
        some out_4)) : Option (List Int))).bind fun e => match e with
    | out_5 =>
      (some (.inl (out_5, (IntKind.i64.wrap (i0 + (1 : Int)))))))
  else (
    some (.inr out_4))

def M.spec_PullList_l2 (list : List Carton) (some_ : List Int) (room : Int) : (List Int × Int) → Option ((List Int × Int) ⊕ (List Int)) := fun st_ => match st_ with
| (out_2, shelf) =>
  bif (decide (shelf ≤ (30 : Int))) then (
    (iterO (M.spec_PullList_l3 list some_ room shelf) (out_2, (0 : Int))).bind fun e => match e with
    | out_3 =>
      (some (.inl (out_3, (IntKind.i64.wrap (shelf + (1 : Int)))))))
  else (
    some (.inr out_2))

def M.spec_PullList_l1 (list : List Carton) (some_ : List Int) : (List Int × Int) → Option ((List Int × Int) ⊕ (List Int)) := fun st_ => match st_ with
| (out_0, room) =>
  bif (decide (room ≤ (9 : Int))) then (
    (iterO (M.spec_PullList_l2 list some_ room) (out_0, (1 : Int))).bind fun e => match e with
    | out_1 =>
      (some (.inl (out_1, (IntKind.i64.wrap (room + (1 : Int)))))))
  else (
    some (.inr out_0))

def M.spec_PullList (list : List Carton) (files : List Int) : Option (List Int × Bool) :=
  (M.spec_l18Good list).bind fun y0 =>
  ((bif (!y0) then some default else M.spec_l1In (files.length : Int) (1 : Int) (20 : Int))).bind fun y1 =>
  ((bif ((!y0) || (!y1)) then some default else M.spec_l1Rising files (1 : Int) (999 : Int))).bind fun y2 =>
  bif (((!y0) || (!y1)) || (!y2)) then (
    some (([] : List Int), false))
  else (
    (iterO (M.spec_PullList_l0 list files) (([] : List Int), (0 : Int))).bind fun e => match e with
    | .inl some_ =>
      ((iterO (M.spec_PullList_l1 list some_) (([] : List Int), (1 : Int))).bind fun e => match e with
      | out_ =>
        (some (out_, true)))
    | .inr r => some r)

def M.impl_within (n : Int) (low : Int) (high : Int) : Option Bool :=
  some ((decide (low ≤ n)) && (decide (n ≤ high)))

def M.impl_isId (id_ : Int) : Option Bool :=
  (M.impl_within id_ (1 : Int) (99 : Int)).bind fun y0 =>
  some y0

def M.impl_isShelf (shelf : Int) : Option Bool :=
  (M.impl_within shelf (1 : Int) (30 : Int)).bind fun y0 =>
  some y0

def M.impl_isRoom (room : Int) : Option Bool :=
  (M.impl_within room (1 : Int) (9 : Int)).bind fun y0 =>
  some y0

def M.impl_areRising_l0 (list : List Int) : (Int) → Option ((Int) ⊕ ((Unit) ⊕ (Bool))) := fun st_ => match st_ with
| i =>
  bif (decide (i < (list.length : Int))) then (
    asrt ((0 : Int) ≤ (IntKind.i64.wrap (i - (1 : Int))) ∧ (IntKind.i64.wrap (i - (1 : Int))) < (list.length : Int)) <|
    asrt ((0 : Int) ≤ i ∧ i < (list.length : Int)) <|
    bif (decide ((list.getD (Int.toNat (IntKind.i64.wrap (i - (1 : Int)))) default) ≥ (list.getD (Int.toNat i) default))) then (
      some (.inr (.inr false)))
    else (
      some (.inl (IntKind.i64.wrap (i + (1 : Int))))))
  else (
    some (.inr (.inl ())))

def M.impl_areRising (list : List Int) : Option Bool :=
  (iterO (M.impl_areRising_l0 list) (1 : Int)).bind fun e => match e with
  | .inl () =>
    (some true)
  | .inr r => some r

def M.slices_IndexFunc_int_int_l0 (s : List Int) (fm : Int → Option Bool) : (Int) → Option ((Int) ⊕ ((Unit) ⊕ (Int))) := fun st_ => match st_ with
| v =>
  bif (decide (v < (s.length : Int))) then (
    asrt ((0 : Int) ≤ v ∧ v < (s.length : Int)) <|
    (fm (s.getD (Int.toNat v) default)).bind fun y1 =>
    bif y1 then (
      some (.inr (.inr v)))
    else (
      some (.inl (IntKind.i64.wrap (v + (1 : Int))))))
  else (
    some (.inr (.inl ())))

def M.slices_IndexFunc_int_int (s : List Int) (fm : Int → Option Bool) : Option Int :=
  (iterO (M.slices_IndexFunc_int_int_l0 s fm) (0 : Int)).bind fun e => match e with
  | .inl () =>
    (some (-1 : Int))
  | .inr r => some r

def M.slices_ContainsFunc_int_int (s : List Int) (fm : Int → Option Bool) : Option Bool :=
  (M.slices_IndexFunc_int_int s fm).bind fun y0 =>
  some (decide (y0 ≥ (0 : Int)))

def M.impl_IsCarton_1 (id_ : Int) : Option Bool :=
  (M.impl_within id_ (1 : Int) (999 : Int)).bind fun y0 =>
  some (!y0)

def M.impl_IsCarton (x : Carton) : Option Bool :=
  (M.impl_isId x.Id).bind fun y0 =>
  ((bif y0 then M.impl_isShelf x.Shelf else some default)).bind fun y1 =>
  ((bif (y0 && y1) then M.impl_isRoom x.Room else some default)).bind fun y2 =>
  ((bif (((y0 && y1) && y2) && (decide ((x.Files.length : Int) ≤ (12 : Int)))) then M.impl_areRising x.Files else some default)).bind fun y3 =>
  ((bif ((((y0 && y1) && y2) && (decide ((x.Files.length : Int) ≤ (12 : Int)))) && y3) then M.slices_ContainsFunc_int_int x.Files (fun x0 => M.impl_IsCarton_1 x0) else some default)).bind fun y4 =>
  ((bif (((((y0 && y1) && y2) && (decide ((x.Files.length : Int) ≤ (12 : Int)))) && y3) && (!y4)) then M.impl_within x.Thick (1 : Int) (40 : Int) else some default)).bind fun y5 =>
  some ((((((y0 && y1) && y2) && (decide ((x.Files.length : Int) ≤ (12 : Int)))) && y3) && (!y4)) && y5)

def M.slices_Index_int_int_l0 (s : List Int) (v : Int) : (Int) → Option ((Int) ⊕ ((Unit) ⊕ (Int))) := fun st_ => match st_ with
| v0 =>
  bif (decide (v0 < (s.length : Int))) then (
    asrt ((0 : Int) ≤ v0 ∧ v0 < (s.length : Int)) <|
    bif (v == (s.getD (Int.toNat v0) default)) then (
      some (.inr (.inr v0)))
    else (
      some (.inl (IntKind.i64.wrap (v0 + (1 : Int))))))
  else (
    some (.inr (.inl ())))

def M.slices_Index_int_int (s : List Int) (v : Int) : Option Int :=
  (iterO (M.slices_Index_int_int_l0 s v) (0 : Int)).bind fun e => match e with
  | .inl () =>
    (some (-1 : Int))
  | .inr r => some r

def M.slices_Contains_int_int (s : List Int) (v : Int) : Option Bool :=
  (M.slices_Index_int_int s v).bind fun y0 =>
  some (decide (y0 ≥ (0 : Int)))

def M.impl_AreCartons_1 (id_ : Int) (y_c : Carton) : Option Bool :=
  (M.slices_Contains_int_int y_c.Files id_).bind fun y0 =>
  some y0

def M.impl_freeOn_l0 (list : List Carton) (room : Int) (shelf : Int) : (Int × Int) → Option ((Int × Int) ⊕ (Int)) := fun st_ => match st_ with
| (free0, v) =>
  bif (decide (v < (list.length : Int))) then (
    (((
      asrt ((0 : Int) ≤ v ∧ v < (list.length : Int)) <|
      bif ((((list.getD (Int.toNat v) default).Room) == room) && (((list.getD (Int.toNat v) default).Shelf) == shelf)) then (
        some (IntKind.i64.wrap (free0 - ((list.getD (Int.toNat v) default).Thick))))
      else (
        some free0)) : Option Int)).bind fun e => match e with
    | free1 =>
      (some (.inl (free1, (IntKind.i64.wrap (v + (1 : Int)))))))
  else (
    some (.inr free0))

def M.impl_freeOn (list : List Carton) (room : Int) (shelf : Int) : Option Int :=
  (iterO (M.impl_freeOn_l0 list room shelf) ((100 : Int), (0 : Int))).bind fun e => match e with
  | free =>
    (some free)

def M.impl_AreCartons_l1 (list : List Carton) (v : Int) : (Int) → Option ((Int) ⊕ ((Unit) ⊕ (Bool))) := fun st_ => match st_ with
| v0 =>
  bif (decide (v0 < ((slc list (0 : Int) v).length : Int))) then (
    asrt ((0 : Int) ≤ v0 ∧ v0 < ((slc list (0 : Int) v).length : Int)) <|
    (M.slices_ContainsFunc_int_int ((list.getD (Int.toNat v) default).Files) (fun x0 => M.impl_AreCartons_1 x0 ((slc list (0 : Int) v).getD (Int.toNat v0) default))).bind fun y3 =>
    bif y3 then (
      some (.inr (.inr false)))
    else (
      some (.inl (IntKind.i64.wrap (v0 + (1 : Int))))))
  else (
    some (.inr (.inl ())))

def M.impl_AreCartons_l0 (list : List Carton) : (Int) → Option ((Int) ⊕ ((Unit) ⊕ (Bool))) := fun st_ => match st_ with
| v =>
  bif (decide (v < (list.length : Int))) then (
    asrt ((0 : Int) ≤ v ∧ v < (list.length : Int)) <|
    (M.impl_IsCarton (list.getD (Int.toNat v) default)).bind fun y1 =>
    asrt ((!y1) = false → (decide (v > (0 : Int))) = true → ((0 : Int) ≤ (IntKind.i64.wrap (v - (1 : Int))) ∧ (IntKind.i64.wrap (v - (1 : Int))) < (list.length : Int))) <|
    bif ((!y1) || ((decide (v > (0 : Int))) && (decide (((list.getD (Int.toNat (IntKind.i64.wrap (v - (1 : Int)))) default).Id) ≥ ((list.getD (Int.toNat v) default).Id))))) then (
      some (.inr (.inr false)))
    else (
      asrt ((0 : Int) ≤ (0 : Int) ∧ (0 : Int) ≤ v ∧ v ≤ (list.length : Int)) <|
      (iterO (M.impl_AreCartons_l1 list v) (0 : Int)).bind fun e => match e with
      | .inl () =>
        (asrt ((0 : Int) ≤ (0 : Int) ∧ (0 : Int) ≤ (IntKind.i64.wrap (v + (1 : Int))) ∧ (IntKind.i64.wrap (v + (1 : Int))) ≤ (list.length : Int)) <|
        (M.impl_freeOn (slc list (0 : Int) (IntKind.i64.wrap (v + (1 : Int)))) ((list.getD (Int.toNat v) default).Room) ((list.getD (Int.toNat v) default).Shelf)).bind fun y4 =>
        bif (decide (y4 < (0 : Int))) then (
          some (.inr (.inr false)))
        else (
          some (.inl (IntKind.i64.wrap (v + (1 : Int))))))
      | .inr r => some (.inr (.inr r))))
  else (
    some (.inr (.inl ())))

def M.impl_AreCartons (list : List Carton) : Option Bool :=
  bif (decide ((list.length : Int) > (10 : Int))) then (
    some false)
  else (
    (iterO (M.impl_AreCartons_l0 list) (0 : Int)).bind fun e => match e with
    | .inl () =>
      (some true)
    | .inr r => some r)

def M.impl_cartonWith_1 (x : Carton) (file : Int) : Option Bool :=
  (M.slices_Contains_int_int x.Files file).bind fun y0 =>
  some y0

def M.slices_IndexFunc_impl_Carton_impl_Carton_l0 (s : List Carton) (fm : Carton → Option Bool) : (Int) → Option ((Int) ⊕ ((Unit) ⊕ (Int))) := fun st_ => match st_ with
| v =>
  bif (decide (v < (s.length : Int))) then (
    asrt ((0 : Int) ≤ v ∧ v < (s.length : Int)) <|
    (fm (s.getD (Int.toNat v) default)).bind fun y1 =>
    bif y1 then (
      some (.inr (.inr v)))
    else (
      some (.inl (IntKind.i64.wrap (v + (1 : Int))))))
  else (
    some (.inr (.inl ())))

def M.slices_IndexFunc_impl_Carton_impl_Carton (s : List Carton) (fm : Carton → Option Bool) : Option Int :=
  (iterO (M.slices_IndexFunc_impl_Carton_impl_Carton_l0 s fm) (0 : Int)).bind fun e => match e with
  | .inl () =>
    (some (-1 : Int))
  | .inr r => some r

def M.impl_cartonWith (list : List Carton) (file : Int) : Option Int :=
  (M.slices_IndexFunc_impl_Carton_impl_Carton list (fun x0 => M.impl_cartonWith_1 x0 file)).bind fun y0 =>
  some y0

def M.impl_cartonAt_1 (x : Carton) (id_c : Int) : Option Bool :=
  some (x.Id == id_c)

def M.impl_cartonAt (list : List Carton) (id_ : Int) : Option Int :=
  (M.slices_IndexFunc_impl_Carton_impl_Carton list (fun x0 => M.impl_cartonAt_1 x0 id_)).bind fun y0 =>
  some y0

def M.math_bits_Len32 (x : Int) : Option Int :=
  (((
    bif (decide (x ≥ (65536 : Int))) then (
      some ((Int.fdiv x (2 ^ (min (Int.toNat (16 : Int)) IntKind.u32.bits))), (16 : Int)))
    else (
      some (x, (0 : Int)))) : Option (Int × Int))).bind fun e => match e with
  | (x0, n_) =>
    ((((
      bif (decide (x0 ≥ (256 : Int))) then (
        some ((Int.fdiv x0 (2 ^ (min (Int.toNat (8 : Int)) IntKind.u32.bits))), (IntKind.i64.wrap (n_ + (8 : Int)))))
      else (
        some (x0, n_))) : Option (Int × Int))).bind fun e => match e with
    | (x1, n_0) =>
      (asrt ((0 : Int) ≤ (IntKind.u8.wrap x1) ∧ (IntKind.u8.wrap x1) < (([0, 1, 2, 2, 3, 3, 3, 3, 4, 4, 4, 4, 4, 4, 4, 4, 5, 5, 5, 5, 5, 5, 5, 5, 5, 5, 5, 5, 5, 5, 5, 5, 6, 6, 6, 6, 6, 6, 6, 6, 6, 6, 6, 6, 6, 6, 6, 6, 6, 6, 6, 6, 6, 6, 6, 6, 6, 6, 6, 6, 6, 6, 6, 6, 7, 7, 7, 7, 7, 7, 7, 7, 7, 7, 7, 7, 7, 7, 7, 7, 7, 7, 7, 7, 7, 7, 7, 7, 7, 7, 7, 7, 7, 7, 7, 7, 7, 7, 7, 7, 7, 7, 7, 7, 7, 7, 7, 7, 7, 7, 7, 7, 7, 7, 7, 7, 7, 7, 7, 7, 7, 7, 7, 7, 7, 7, 7, 7, 8, 8, 8, 8, 8, 8, 8, 8, 8, 8, 8, 8, 8, 8, 8, 8, 8, 8, 8, 8, 8, 8, 8, 8, 8, 8, 8, 8, 8, 8, 8, 8, 8, 8, 8, 8, 8, 8, 8, 8, 8, 8, 8, 8, 8, 8, 8, 8, 8, 8, 8, 8, 8, 8, 8, 8, 8, 8, 8, 8, 8, 8, 8, 8, 8, 8, 8, 8, 8, 8, 8, 8, 8, 8, 8, 8, 8, 8, 8, 8, 8, 8, 8, 8, 8, 8, 8, 8, 8, 8, 8, 8, 8, 8, 8, 8, 8, 8, 8, 8, 8, 8, 8, 8, 8, 8, 8, 8, 8, 8, 8, 8, 8, 8, 8, 8, 8, 8, 8, 8, 8, 8, 8, 8, 8, 8, 8, 8] : List UInt8).length : Int)) <|
      some (IntKind.i64.wrap (n_0 + (IntKind.i64.wrap ((([0, 1, 2, 2, 3, 3, 3, 3, 4, 4, 4, 4, 4, 4, 4, 4, 5, 5, 5, 5, 5, 5, 5, 5, 5, 5, 5, 5, 5, 5, 5, 5, 6, 6, 6, 6, 6, 6, 6, 6, 6, 6, 6, 6, 6, 6, 6, 6, 6, 6, 6, 6, 6, 6, 6, 6, 6, 6, 6, 6, 6, 6, 6, 6, 7, 7, 7, 7, 7, 7, 7, 7, 7, 7, 7, 7, 7, 7, 7, 7, 7, 7, 7, 7, 7, 7, 7, 7, 7, 7, 7, 7, 7, 7, 7, 7, 7, 7, 7, 7, 7, 7, 7, 7, 7, 7, 7, 7, 7, 7, 7, 7, 7, 7, 7, 7, 7, 7, 7, 7, 7, 7, 7, 7, 7, 7, 7, 7, 8, 8, 8, 8, 8, 8, 8, 8, 8, 8, 8, 8, 8, 8, 8, 8, 8, 8, 8, 8, 8, 8, 8, 8, 8, 8, 8, 8, 8, 8, 8, 8, 8, 8, 8, 8, 8, 8, 8, 8, 8, 8, 8, 8, 8, 8, 8, 8, 8, 8, 8, 8, 8, 8, 8, 8, 8, 8, 8, 8, 8, 8, 8, 8, 8, 8, 8, 8, 8, 8, 8, 8, 8, 8, 8, 8, 8, 8, 8, 8, 8, 8, 8, 8, 8, 8, 8, 8, 8, 8, 8, 8, 8, 8, 8, 8, 8, 8, 8, 8, 8, 8, 8, 8, 8, 8, 8, 8, 8, 8, 8, 8, 8, 8, 8, 8, 8, 8, 8, 8, 8, 8, 8, 8, 8, 8, 8, 8] : List UInt8).getD (Int.toNat (IntKind.u8.wrap x1)) 0).toNat : Int))))))

def M.math_bits_Len64 (x : Int) : Option Int :=
  (((
    bif (decide (x ≥ (4294967296 : Int))) then (
      some ((Int.fdiv x (2 ^ (min (Int.toNat (32 : Int)) IntKind.u64.bits))), (32 : Int)))
    else (
      some (x, (0 : Int)))) : Option (Int × Int))).bind fun e => match e with
  | (x0, n_) =>
    ((((
      bif (decide (x0 ≥ (65536 : Int))) then (
        some ((Int.fdiv x0 (2 ^ (min (Int.toNat (16 : Int)) IntKind.u64.bits))), (IntKind.i64.wrap (n_ + (16 : Int)))))
      else (
        some (x0, n_))) : Option (Int × Int))).bind fun e => match e with
    | (x1, n_0) =>
      ((((
        bif (decide (x1 ≥ (256 : Int))) then (
          some ((Int.fdiv x1 (2 ^ (min (Int.toNat (8 : Int)) IntKind.u64.bits))), (IntKind.i64.wrap (n_0 + (8 : Int)))))
        else (
          some (x1, n_0))) : Option (Int × Int))).bind fun e => match e with
      | (x2, n_1) =>
        (asrt ((0 : Int) ≤ (IntKind.u8.wrap x2) ∧ (IntKind.u8.wrap x2) < (([0, 1, 2, 2, 3, 3, 3, 3, 4, 4, 4, 4, 4, 4, 4, 4, 5, 5, 5, 5, 5, 5, 5, 5, 5, 5, 5, 5, 5, 5, 5, 5, 6, 6, 6, 6, 6, 6, 6, 6, 6, 6, 6, 6, 6, 6, 6, 6, 6, 6, 6, 6, 6, 6, 6, 6, 6, 6, 6, 6, 6, 6, 6, 6, 7, 7, 7, 7, 7, 7, 7, 7, 7, 7, 7, 7, 7, 7, 7, 7, 7, 7, 7, 7, 7, 7, 7, 7, 7, 7, 7, 7, 7, 7, 7, 7, 7, 7, 7, 7, 7, 7, 7, 7, 7, 7, 7, 7, 7, 7, 7, 7, 7, 7, 7, 7, 7, 7, 7, 7, 7, 7, 7, 7, 7, 7, 7, 7, 8, 8, 8, 8, 8, 8, 8, 8, 8, 8, 8, 8, 8, 8, 8, 8, 8, 8, 8, 8, 8, 8, 8, 8, 8, 8, 8, 8, 8, 8, 8, 8, 8, 8, 8, 8, 8, 8, 8, 8, 8, 8, 8, 8, 8, 8, 8, 8, 8, 8, 8, 8, 8, 8, 8, 8, 8, 8, 8, 8, 8, 8, 8, 8, 8, 8, 8, 8, 8, 8, 8, 8, 8, 8, 8, 8, 8, 8, 8, 8, 8, 8, 8, 8, 8, 8, 8, 8, 8, 8, 8, 8, 8, 8, 8, 8, 8, 8, 8, 8, 8, 8, 8, 8, 8, 8, 8, 8, 8, 8, 8, 8, 8, 8, 8, 8, 8, 8, 8, 8, 8, 8, 8, 8, 8, 8, 8, 8] : List UInt8).length : Int)) <|
        some (IntKind.i64.wrap (n_1 + (IntKind.i64.wrap ((([0, 1, 2, 2, 3, 3, 3, 3, 4, 4, 4, 4, 4, 4, 4, 4, 5, 5, 5, 5, 5, 5, 5, 5, 5, 5, 5, 5, 5, 5, 5, 5, 6, 6, 6, 6, 6, 6, 6, 6, 6, 6, 6, 6, 6, 6, 6, 6, 6, 6, 6, 6, 6, 6, 6, 6, 6, 6, 6, 6, 6, 6, 6, 6, 7, 7, 7, 7, 7, 7, 7, 7, 7, 7, 7, 7, 7, 7, 7, 7, 7, 7, 7, 7, 7, 7, 7, 7, 7, 7, 7, 7, 7, 7, 7, 7, 7, 7, 7, 7, 7, 7, 7, 7, 7, 7, 7, 7, 7, 7, 7, 7, 7, 7, 7, 7, 7, 7, 7, 7, 7, 7, 7, 7, 7, 7, 7, 7, 8, 8, 8, 8, 8, 8, 8, 8, 8, 8, 8, 8, 8, 8, 8, 8, 8, 8, 8, 8, 8, 8, 8, 8, 8, 8, 8, 8, 8, 8, 8, 8, 8, 8, 8, 8, 8, 8, 8, 8, 8, 8, 8, 8, 8, 8, 8, 8, 8, 8, 8, 8, 8, 8, 8, 8, 8, 8, 8, 8, 8, 8, 8, 8, 8, 8, 8, 8, 8, 8, 8, 8, 8, 8, 8, 8, 8, 8, 8, 8, 8, 8, 8, 8, 8, 8, 8, 8, 8, 8, 8, 8, 8, 8, 8, 8, 8, 8, 8, 8, 8, 8, 8, 8, 8, 8, 8, 8, 8, 8, 8, 8, 8, 8, 8, 8, 8, 8, 8, 8, 8, 8, 8, 8, 8, 8, 8, 8] : List UInt8).getD (Int.toNat (IntKind.u8.wrap x2)) 0).toNat : Int)))))))

def M.math_bits_Len (x : Int) : Option Int :=
  bif false then (
    (M.math_bits_Len32 (IntKind.u32.wrap x)).bind fun y0 =>
    some y0)
  else (
    (M.math_bits_Len64 x).bind fun y1 =>
    some y1)

def M.slices_insertionSortCmpFunc_impl_Carton_l1 (a : Int) (fm : Carton → Carton → Option Int) : (List Carton × Int) → Option ((List Carton × Int) ⊕ (List Carton)) := fun st_ => match st_ with
| (data3, j_) =>
  asrt ((decide (j_ > a)) = true → ((0 : Int) ≤ j_ ∧ j_ < (data3.length : Int))) <|
  asrt ((decide (j_ > a)) = true → ((0 : Int) ≤ (IntKind.i64.wrap (j_ - (1 : Int))) ∧ (IntKind.i64.wrap (j_ - (1 : Int))) < (data3.length : Int))) <|
  ((bif (decide (j_ > a)) then fm (data3.getD (Int.toNat j_) default) (data3.getD (Int.toNat (IntKind.i64.wrap (j_ - (1 : Int)))) default) else some default)).bind fun y2 =>
  bif ((decide (j_ > a)) && (decide (y2 < (0 : Int)))) then (
    asrt ((0 : Int) ≤ (IntKind.i64.wrap (j_ - (1 : Int))) ∧ (IntKind.i64.wrap (j_ - (1 : Int))) < (data3.length : Int)) <|
    asrt ((0 : Int) ≤ j_ ∧ j_ < (data3.length : Int)) <|
    asrt ((0 : Int) ≤ j_ ∧ j_ < (data3.length : Int)) <|
    asrt ((0 : Int) ≤ (IntKind.i64.wrap (j_ - (1 : Int))) ∧ (IntKind.i64.wrap (j_ - (1 : Int))) < ((data3.set (Int.toNat j_) (data3.getD (Int.toNat (IntKind.i64.wrap (j_ - (1 : Int)))) default)).length : Int)) <|
    (((
      some ((data3.set (Int.toNat j_) (data3.getD (Int.toNat (IntKind.i64.wrap (j_ - (1 : Int)))) default)).set (Int.toNat (IntKind.i64.wrap (j_ - (1 : Int)))) (data3.getD (Int.toNat j_) default))) : Option (List Carton))).bind fun e => match e with
    | data4 =>
      (some (.inl (data4, (IntKind.i64.wrap (j_ - (1 : Int)))))))
  else (
    some (.inr data3))

def M.slices_insertionSortCmpFunc_impl_Carton_l0 (a : Int) (b_ : Int) (fm : Carton → Carton → Option Int) : (List Carton × Int) → Option ((List Carton × Int) ⊕ (List Carton)) := fun st_ => match st_ with
| (data1, i) =>
  bif (decide (i < b_)) then (
    (iterO (M.slices_insertionSortCmpFunc_impl_Carton_l1 a fm) (data1, i)).bind fun e => match e with
    | data2 =>
      (some (.inl (data2, (IntKind.i64.wrap (i + (1 : Int)))))))
  else (
    some (.inr data1))

def M.slices_insertionSortCmpFunc_impl_Carton (data : List Carton) (a : Int) (b_ : Int) (fm : Carton → Carton → Option Int) : Option (List Carton) :=
  (iterO (M.slices_insertionSortCmpFunc_impl_Carton_l0 a b_ fm) (data, (IntKind.i64.wrap (a + (1 : Int))))).bind fun e => match e with
  | data0 =>
    (some data0)

def M.slices_pdqsortCmpFunc_impl_Carton_l0 (data : List Carton) (fm : Carton → Carton → Option Int) : (Int × Int × Int × Bool × Bool) → Option ((Int × Int × Int × Bool × Bool) ⊕ (List Carton)) := fun st_ => match st_ with
| (a0, b_0, limit0, wasBalanced, wasPartitioned) =>
  asrt ((decide ((IntKind.i64.wrap (b_0 - a0)) ≤ (12 : Int))) = true) <|
  (M.slices_insertionSortCmpFunc_impl_Carton data a0 b_0 fm).bind fun y1 =>
  asrt (y1.length = data.length) <|
  some (.inr y1)

def M.slices_pdqsortCmpFunc_impl_Carton (data : List Carton) (a : Int) (b_ : Int) (limit : Int) (fm : Carton → Carton → Option Int) : Option (List Carton) :=
  (iterO (M.slices_pdqsortCmpFunc_impl_Carton_l0 data fm) (a, b_, limit, true, true)).bind fun e => match e with
  | r => some r

def M.slices_SortFunc_impl_Carton_impl_Carton (x : List Carton) (fm : Carton → Carton → Option Int) : Option (List Carton) :=
  (M.math_bits_Len (IntKind.u64.wrap (x.length : Int))).bind fun y0 =>
  (M.slices_pdqsortCmpFunc_impl_Carton x (0 : Int) (x.length : Int) y0 fm).bind fun y1 =>
  asrt (y1.length = x.length) <|
  some y1

def M.cmp_isNaN_int (x : Int) : Option Bool :=
  some (x != x)

def M.cmp_Compare_int (x : Int) (y : Int) : Option Int :=
  (M.cmp_isNaN_int x).bind fun y0 =>
  (M.cmp_isNaN_int y).bind fun y1 =>
  bif y0 then (
    bif y1 then (
      some (0 : Int))
    else (
      some (-1 : Int)))
  else (
    bif y1 then (
      some (1 : Int))
    else (
      bif (decide (x < y)) then (
        some (-1 : Int))
      else (
        bif (decide (x > y)) then (
          some (1 : Int))
        else (
          some (0 : Int)))))

def M.cmp_Or_int_l0 (vals : List Int) : (Int) → Option ((Int) ⊕ ((Unit) ⊕ (Int))) := fun st_ => match st_ with
| v =>
  bif (decide (v < (vals.length : Int))) then (
    asrt ((0 : Int) ≤ v ∧ v < (vals.length : Int)) <|
    bif ((vals.getD (Int.toNat v) default) != (0 : Int)) then (
      some (.inr (.inr (vals.getD (Int.toNat v) default))))
    else (
      some (.inl (IntKind.i64.wrap (v + (1 : Int))))))
  else (
    some (.inr (.inl ())))

def M.cmp_Or_int (vals : List Int) : Option Int :=
  (iterO (M.cmp_Or_int_l0 vals) (0 : Int)).bind fun e => match e with
  | .inl () =>
    (some (0 : Int))
  | .inr r => some r

def M.impl_PullList_1 (a : Carton) (b_ : Carton) : Option Int :=
  (M.cmp_Compare_int a.Room b_.Room).bind fun y0 =>
  (M.cmp_Compare_int a.Shelf b_.Shelf).bind fun y1 =>
  (M.cmp_Compare_int a.Id b_.Id).bind fun y2 =>
  (M.cmp_Or_int ([y0, y1, y2] : List Int)).bind fun y3 =>
  some y3

def M.impl_PullList_l0 (list : List Carton) (files : List Int) : (List Carton × Int) → Option ((List Carton × Int) ⊕ ((List Carton) ⊕ (List Int × Bool))) := fun st_ => match st_ with
| (cartons0, v) =>
  bif (decide (v < (files.length : Int))) then (
    (((
      asrt ((0 : Int) ≤ v ∧ v < (files.length : Int)) <|
      (M.impl_cartonWith list (files.getD (Int.toNat v) default)).bind fun y4 =>
      bif (decide (y4 < (0 : Int))) then (
        some (.inr (([] : List Int), false)))
      else (
        asrt ((0 : Int) ≤ y4 ∧ y4 < (list.length : Int)) <|
        (M.impl_cartonAt cartons0 ((list.getD (Int.toNat y4) default).Id)).bind fun y5 =>
        bif (decide (y5 < (0 : Int))) then (
          asrt ((0 : Int) ≤ y4 ∧ y4 < (list.length : Int)) <|
          asrt ((cartons0.length : Int) + (([(list.getD (Int.toNat y4) default)] : List Carton).length : Int) ≤ 2147483648) <|
          some (.inl (cartons0 ++ ([(list.getD (Int.toNat y4) default)] : List Carton))))
        else (
          some (.inl cartons0)))) : Option ((List Carton) ⊕ (List Int × Bool)))).bind fun e => match e with
    | .inl cartons1 =>
      (some (.inl (cartons1, (IntKind.i64.wrap (v + (1 : Int))))))
    | .inr r => some (.inr (.inr r)))
  else (
    some (.inr (.inl cartons0)))

def M.impl_PullList_l1 (y6 : List Carton) : (List Int × Int) → Option ((List Int × Int) ⊕ (List Int)) := fun st_ => match st_ with
| (ids0, v0) =>
  bif (decide (v0 < (y6.length : Int))) then (
    asrt ((0 : Int) ≤ v0 ∧ v0 < (y6.length : Int)) <|
    asrt ((ids0.length : Int) + (([(y6.getD (Int.toNat v0) default).Id] : List Int).length : Int) ≤ 2147483648) <|
    some (.inl ((ids0 ++ ([(y6.getD (Int.toNat v0) default).Id] : List Int)), (IntKind.i64.wrap (v0 + (1 : Int))))))
  else (
    some (.inr ids0))

def M.impl_PullList (list : List Carton) (files : List Int) : Option (List Int × Bool) :=
  (M.impl_AreCartons list).bind fun y0 =>
  ((bif (!y0) then some default else M.impl_within (files.length : Int) (1 : Int) (20 : Int))).bind fun y1 =>
  ((bif ((!y0) || (!y1)) then some default else M.impl_areRising files)).bind fun y2 =>
  bif (((!y0) || (!y1)) || (!y2)) then (
    some (([] : List Int), false))
  else (
    (iterO (M.impl_PullList_l0 list files) (([] : List Carton), (0 : Int))).bind fun e => match e with
    | .inl cartons =>
      ((M.slices_SortFunc_impl_Carton_impl_Carton cartons (fun x0 x1 => M.impl_PullList_1 x0 x1)).bind fun y6 =>
      asrt (y6.length = cartons.length) <|
      (iterO (M.impl_PullList_l1 y6) (([] : List Int), (0 : Int))).bind fun e => match e with
      | ids =>
        (some (ids, true)))
    | .inr r => some r)

def M.laws_eqIntS_l0 (a : List Int) (b_ : List Int) : (Int) → Option ((Int) ⊕ ((Unit) ⊕ (Bool))) := fun st_ => match st_ with
| i =>
  bif (decide (i < (a.length : Int))) then (
    asrt ((0 : Int) ≤ i ∧ i < (a.length : Int)) <|
    asrt ((0 : Int) ≤ i ∧ i < (b_.length : Int)) <|
    bif ((a.getD (Int.toNat i) default) != (b_.getD (Int.toNat i) default)) then (
      some (.inr (.inr false)))
    else (
      some (.inl (IntKind.i64.wrap (i + (1 : Int))))))
  else (
    some (.inr (.inl ())))

def M.laws_eqIntS (a : List Int) (b_ : List Int) : Option Bool :=
  bif ((a.length : Int) != (b_.length : Int)) then (
    some false)
  else (
    (iterO (M.laws_eqIntS_l0 a b_) (0 : Int)).bind fun e => match e with
    | .inl () =>
      (some true)
    | .inr r => some r)

def M.laws_eqCarton (a : Carton) (b_ : Carton) : Option Bool :=
  bif (a.Id != b_.Id) then (
    some false)
  else (
    bif (a.Shelf != b_.Shelf) then (
      some false)
    else (
      bif (a.Room != b_.Room) then (
        some false)
      else (
        (M.laws_eqIntS a.Files b_.Files).bind fun y0 =>
        bif (!y0) then (
          some false)
        else (
          bif (a.Thick != b_.Thick) then (
            some false)
          else (
            some true)))))

def M.laws_eqCartonS_l0 (a : List Carton) (b_ : List Carton) : (Int) → Option ((Int) ⊕ ((Unit) ⊕ (Bool))) := fun st_ => match st_ with
| i =>
  bif (decide (i < (a.length : Int))) then (
    asrt ((0 : Int) ≤ i ∧ i < (a.length : Int)) <|
    asrt ((0 : Int) ≤ i ∧ i < (b_.length : Int)) <|
    (M.laws_eqCarton (a.getD (Int.toNat i) default) (b_.getD (Int.toNat i) default)).bind fun y1 =>
    bif (!y1) then (
      some (.inr (.inr false)))
    else (
      some (.inl (IntKind.i64.wrap (i + (1 : Int))))))
  else (
    some (.inr (.inl ())))

def M.laws_eqCartonS (a : List Carton) (b_ : List Carton) : Option Bool :=
  bif ((a.length : Int) != (b_.length : Int)) then (
    some false)
  else (
    (iterO (M.laws_eqCartonS_l0 a b_) (0 : Int)).bind fun e => match e with
    | .inl () =>
      (some true)
    | .inr r => some r)

def M.laws_markIntS_l0 : (List Int × Int × Int) → Option ((List Int × Int × Int) ⊕ (List Int × Int)) := fun st_ => match st_ with
| (a1, k1, i) =>
  bif (decide (i < (a1.length : Int))) then (
    asrt ((0 : Int) ≤ i ∧ i < (a1.length : Int)) <|
    some (.inl ((a1.set (Int.toNat i) k1), (IntKind.i64.wrap (k1 + (1 : Int))), (IntKind.i64.wrap (i + (1 : Int))))))
  else (
    some (.inr (a1, k1)))

def M.laws_markIntS (a : List Int) (k : Int) : Option (Int × List Int) :=
  (iterO (M.laws_markIntS_l0) (a, k, (0 : Int))).bind fun e => match e with
  | (a0, k0) =>
    (some (k0, a0))

def M.laws_markCartonS_l0 : (List Carton × Int × Int) → Option ((List Carton × Int × Int) ⊕ (List Carton × Int)) := fun st_ => match st_ with
| (a1, k1, i) =>
  bif (decide (i < (a1.length : Int))) then (
    asrt ((0 : Int) ≤ i ∧ i < (a1.length : Int)) <|
    asrt ((0 : Int) ≤ i ∧ i < ((a1.set (Int.toNat i) (⟨k1, (a1.getD (Int.toNat i) default).Shelf, (a1.getD (Int.toNat i) default).Room, (a1.getD (Int.toNat i) default).Files, (a1.getD (Int.toNat i) default).Thick⟩ : Carton)).length : Int)) <|
    asrt ((0 : Int) ≤ i ∧ i < ((a1.set (Int.toNat i) (⟨k1, (IntKind.i64.wrap (k1 + (1 : Int))), (a1.getD (Int.toNat i) default).Room, (a1.getD (Int.toNat i) default).Files, (a1.getD (Int.toNat i) default).Thick⟩ : Carton)).length : Int)) <|
    asrt ((0 : Int) ≤ i ∧ i < ((a1.set (Int.toNat i) (⟨k1, (IntKind.i64.wrap (k1 + (1 : Int))), (IntKind.i64.wrap ((IntKind.i64.wrap (k1 + (1 : Int))) + (1 : Int))), (a1.getD (Int.toNat i) default).Files, (a1.getD (Int.toNat i) default).Thick⟩ : Carton)).length : Int)) <|
    (M.laws_markIntS (((a1.set (Int.toNat i) (⟨k1, (IntKind.i64.wrap (k1 + (1 : Int))), (IntKind.i64.wrap ((IntKind.i64.wrap (k1 + (1 : Int))) + (1 : Int))), (a1.getD (Int.toNat i) default).Files, (a1.getD (Int.toNat i) default).Thick⟩ : Carton)).getD (Int.toNat i) default).Files) (IntKind.i64.wrap ((IntKind.i64.wrap ((IntKind.i64.wrap (k1 + (1 : Int))) + (1 : Int))) + (1 : Int)))).bind fun y1 =>
    asrt (y1.2.length = (((a1.set (Int.toNat i) (⟨k1, (IntKind.i64.wrap (k1 + (1 : Int))), (IntKind.i64.wrap ((IntKind.i64.wrap (k1 + (1 : Int))) + (1 : Int))), (a1.getD (Int.toNat i) default).Files, (a1.getD (Int.toNat i) default).Thick⟩ : Carton)).getD (Int.toNat i) default).Files).length) <|
    asrt ((0 : Int) ≤ i ∧ i < ((a1.set (Int.toNat i) (⟨k1, (IntKind.i64.wrap (k1 + (1 : Int))), (IntKind.i64.wrap ((IntKind.i64.wrap (k1 + (1 : Int))) + (1 : Int))), y1.2, (a1.getD (Int.toNat i) default).Thick⟩ : Carton)).length : Int)) <|
    some (.inl ((a1.set (Int.toNat i) (⟨k1, (IntKind.i64.wrap (k1 + (1 : Int))), (IntKind.i64.wrap ((IntKind.i64.wrap (k1 + (1 : Int))) + (1 : Int))), y1.2, y1.1⟩ : Carton)), (IntKind.i64.wrap (y1.1 + (1 : Int))), (IntKind.i64.wrap (i + (1 : Int))))))
  else (
    some (.inr (a1, k1)))

def M.laws_markCartonS (a : List Carton) (k : Int) : Option (Int × List Carton) :=
  (iterO (M.laws_markCartonS_l0) (a, k, (0 : Int))).bind fun e => match e with
  | (a0, k0) =>
    (some (k0, a0))

def M.laws_heldIntS_l0 (a : List Int) : (Int × Int) → Option ((Int × Int) ⊕ ((Int) ⊕ (Int))) := fun st_ => match st_ with
| (k1, i) =>
  bif (decide (i < (a.length : Int))) then (
    asrt ((0 : Int) ≤ i ∧ i < (a.length : Int)) <|
    bif ((a.getD (Int.toNat i) default) != k1) then (
      some (.inr (.inr (-1 : Int))))
    else (
      some (.inl ((IntKind.i64.wrap (k1 + (1 : Int))), (IntKind.i64.wrap (i + (1 : Int)))))))
  else (
    some (.inr (.inl k1)))

def M.laws_heldIntS (a : List Int) (k : Int) : Option Int :=
  (iterO (M.laws_heldIntS_l0 a) (k, (0 : Int))).bind fun e => match e with
  | .inl k0 =>
    (some k0)
  | .inr r => some r

def M.laws_FnExactPullList (aList : List Carton) (aFiles : List Int) : Option Bool :=
  bif (decide ((aFiles.length : Int) > (1048576 : Int))) then (
    some true)
  else (
    (M.laws_szCartonS aList (1048576 : Int)).bind fun y0 =>
    bif (decide (y0 < (0 : Int))) then (
      some true)
    else (
      (M.laws_toCartonS aList).bind fun y1 =>
      (M.laws_toIntS aFiles).bind fun y2 =>
      (M.spec_PullList y1 y2).bind fun y3 =>
      (M.laws_toCartonS aList).bind fun y4 =>
      (M.laws_toIntS aFiles).bind fun y5 =>
      (M.impl_PullList y4 y5).bind fun y6 =>
      (M.laws_eqIntS y6.1 y3.1).bind fun y7 =>
      bif ((!y7) || (!(y6.2 == y3.2))) then (
        some false)
      else (
        (M.laws_toCartonS aList).bind fun y8 =>
        (M.laws_eqCartonS y4 y8).bind fun y9 =>
        bif (!y9) then (
          some false)
        else (
          (M.laws_toIntS aFiles).bind fun y10 =>
          (M.laws_eqIntS y5 y10).bind fun y11 =>
          bif (!y11) then (
            some false)
          else (
            (M.laws_markCartonS y4 (1 : Int)).bind fun y12 =>
            asrt (y12.2.length = y4.length) <|
            (M.laws_markIntS y5 y12.1).bind fun y13 =>
            asrt (y13.2.length = y5.length) <|
            ((bif (decide (y13.1 < (0 : Int))) then some default else M.laws_eqIntS y6.1 y3.1)).bind fun y14 =>
            bif (((decide (y13.1 < (0 : Int))) || (!y14)) || (!(y6.2 == y3.2))) then (
              some false)
            else (
              (M.laws_markIntS y6.1 (1 : Int)).bind fun y15 =>
              asrt (y15.2.length = y6.1.length) <|
              (M.laws_heldIntS y15.2 (1 : Int)).bind fun y16 =>
              bif (decide (y16 < (0 : Int))) then (
                some false)
              else (
                bif (y16 != y15.1) then (
                  some false)
                else (
                  (M.laws_toCartonS aList).bind fun y17 =>
                  (M.laws_toIntS aFiles).bind fun y18 =>
                  (M.impl_PullList y17 y18).bind fun y19 =>
                  (M.laws_eqIntS y19.1 y3.1).bind fun y20 =>
                  bif ((!y20) || (!(y19.2 == y3.2))) then (
                    some false)
                  else (
                    (M.laws_heldIntS y15.2 (1 : Int)).bind fun y21 =>
                    bif (decide (y21 < (0 : Int))) then (
                      some false)
                    else (
                      bif (y21 != y15.1) then (
                        some false)
                      else (
                        some true)))))))))))
end Go.Proofs.Ytfebeomnlkfgoaa
