/- models of the functions -/
import Derived.Test.YtjbgllhimnopaaaWe
set_option linter.unusedSimpArgs false
set_option linter.unusedVariables false
set_option maxRecDepth 100000
namespace Go.Proofs.Ytjbgllhimnopaaa
open Go.VS

structure Cur where
  Code : List Int
  At : Int
  Seed : Int
  deriving Inhabited, DecidableEq

abbrev encCur (ρ : Nat) (c : Cur) : PV := .agg [.vl ρ 1 (List.map encU8 c.Code), .int .i64 c.At, .int .u64 c.Seed]

structure Hold where
  Id : Int
  From : Int
  Until : Int
  Series : List Int
  First : Int
  Last : Int
  deriving Inhabited, DecidableEq

abbrev encHold (ρ : Nat) (c : Hold) : PV := .agg [.int .i64 c.Id, .int .i64 c.From, .int .i64 c.Until, .vl ρ 1 (List.map encInt c.Series), .int .i64 c.First, .int .i64 c.Last]

structure Event where
  Kind : Int
  Day : Int
  deriving Inhabited, DecidableEq

abbrev encEvent (c : Event) : PV := .agg [.int .i64 c.Kind, .int .i64 c.Day]

structure Record where
  Id : Int
  Series : Int
  Made : Int
  Events : List Event
  deriving Inhabited, DecidableEq

abbrev encRecord (ρ : Nat) (c : Record) : PV := .agg [.int .i64 c.Id, .int .i64 c.Series, .int .i64 c.Made, .vl ρ 2 (List.map encEvent c.Events)]

def M.laws_vBig (code : List Int) : Option Bool :=
  some (decide ((code.length : Int) > (65536 : Int)))

def M.spec_l1Cur_next (c : Cur) : Option (Int × Cur) :=
  (((
    bif (decide (c.At < (c.Code.length : Int))) then (
      asrt ((0 : Int) ≤ c.At ∧ c.At < (c.Code.length : Int)) <|
      some (IntKind.i64.wrap (c.Code.getD (Int.toNat c.At) default)))
    else (
      some (0 : Int))) : Option Int)).bind fun e => match e with
  | b_ =>
    (bif (decide ((IntKind.i64.wrap (c.At + (1 : Int))) ≤ (c.Code.length : Int))) then (
      some (b_, (⟨c.Code, (IntKind.i64.wrap (c.At + (1 : Int))), (IntKind.u64.wrap ((IntKind.u64.wrap ((IntKind.u64.wrap (c.Seed * (6364136223846793005 : Int))) + (IntKind.u64.wrap b_))) + (103535 : Int)))⟩ : Cur)))
    else (
      some ((IntKind.i64.wrap (IntKind.u64.wrap (BitVec.ofInt IntKind.u64.bits (Int.fdiv (IntKind.u64.wrap ((IntKind.u64.wrap ((IntKind.u64.wrap (c.Seed * (6364136223846793005 : Int))) + (IntKind.u64.wrap b_))) + (103535 : Int))) (2 ^ (min (Int.toNat (40 : Int)) IntKind.u64.bits))) &&& BitVec.ofInt IntKind.u64.bits (255 : Int)).toNat)), (⟨c.Code, (IntKind.i64.wrap (c.At + (1 : Int))), (IntKind.u64.wrap ((IntKind.u64.wrap ((IntKind.u64.wrap (c.Seed * (6364136223846793005 : Int))) + (IntKind.u64.wrap b_))) + (103535 : Int)))⟩ : Cur))))

def M.spec_l1Cur_pick (c : Cur) (n : Int) : Option (Int × Cur) :=
  bif (decide (n ≤ (1 : Int))) then (
    some ((0 : Int), c))
  else (
    (M.spec_l1Cur_next c).bind fun y0 =>
    (((
      bif (decide (n > (200 : Int))) then (
        (M.spec_l1Cur_next y0.2).bind fun y1 =>
        some ((IntKind.i64.wrap ((IntKind.i64.wrap (y0.1 * (256 : Int))) + y1.1)), y1.2))
      else (
        some (y0.1, y0.2))) : Option (Int × Cur))).bind fun e => match e with
    | (x, c_) =>
      (asrt (n ≠ 0) <|
      some ((Int.tmod x n), c_)))

def M.spec_l1Cur_one (c : Cur) (n : Int) : Option (Bool × Cur) :=
  (M.spec_l1Cur_pick c n).bind fun y0 =>
  some ((y0.1 == (0 : Int)), y0.2)

def M.spec_l1Cur_among (c : Cur) (list : List Int) : Option (Int × Cur) :=
  (M.spec_l1Cur_pick c (list.length : Int)).bind fun y0 =>
  asrt ((0 : Int) ≤ y0.1 ∧ y0.1 < (list.length : Int)) <|
  some ((list.getD (Int.toNat y0.1) default), y0.2)

def M.spec_l1Cur_holds_l0 : (List Hold × Int × Cur) → Option ((List Hold × Int × Cur) ⊕ (List Hold × Cur)) := fun st_ => match st_ with
| (list0, n_, c_0) =>
  bif (decide (n_ < (7 : Int))) then (
    (((
      (M.spec_l1Cur_one c_0 (2 : Int)).bind fun y1 =>
      bif y1.1 then (
        some (list0, y1.2))
      else (
        (M.spec_l1Cur_among y1.2 ([(0 : Int), (100 : Int), (400 : Int), (1000 : Int), (3000 : Int)] : List Int)).bind fun y2 =>
        (M.spec_l1Cur_among y2.2 ([(0 : Int), (0 : Int), (100 : Int), (450 : Int)] : List Int)).bind fun y3 =>
        (M.spec_l1Cur_among y3.2 ([(500 : Int), (3000 : Int), (20000 : Int)] : List Int)).bind fun y4 =>
        (((
          (M.spec_l1Cur_one y4.2 (3 : Int)).bind fun y5 =>
          bif (!y5.1) then (
            (M.spec_l1Cur_among y5.2 ([(1 : Int), (100 : Int), (600 : Int), (5000 : Int)] : List Int)).bind fun y6 =>
            (((
              some ((IntKind.i64.wrap (y2.1 + y6.1)), y6.2)) : Option (Int × Cur))).bind fun e => match e with
            | (h_Until_0, c_3) =>
              (some (h_Until_0, c_3)))
          else (
            some ((-1 : Int), y5.2))) : Option (Int × Cur))).bind fun e => match e with
        | (h_Until_, c_2) =>
          ((((
            (M.spec_l1Cur_one c_2 (2 : Int)).bind fun y7 =>
            bif y7.1 then (
              (M.spec_l1Cur_pick y7.2 (2 : Int)).bind fun y8 =>
              asrt ((0 : Int) ≤ y8.1 ∧ y8.1 ≤ (([(1 : Int), (3 : Int), (7 : Int)] : List Int).length : Int) ∧ (([(1 : Int), (3 : Int), (7 : Int)] : List Int).length : Int) ≤ (([(1 : Int), (3 : Int), (7 : Int)] : List Int).length : Int)) <|
              some ((slc ([(1 : Int), (3 : Int), (7 : Int)] : List Int) y8.1 (([(1 : Int), (3 : Int), (7 : Int)] : List Int).length : Int)), y8.2))
            else (
              some (([] : List Int), y7.2))) : Option (List Int × Cur))).bind fun e => match e with
          | (h_Series_, c_4) =>
            (asrt ((list0.length : Int) + (([(⟨(IntKind.i64.wrap ((6 : Int) * n_)), y2.1, h_Until_, h_Series_, y3.1, y4.1⟩ : Hold)] : List Hold).length : Int) ≤ 2147483648) <|
            some ((list0 ++ ([(⟨(IntKind.i64.wrap ((6 : Int) * n_)), y2.1, h_Until_, h_Series_, y3.1, y4.1⟩ : Hold)] : List Hold)), c_4))))) : Option (List Hold × Cur))).bind fun e => match e with
    | (list1, c_1) =>
      (some (.inl (list1, (IntKind.i64.wrap (n_ + (1 : Int))), c_1))))
  else (
    some (.inr (list0, c_0)))

def M.spec_l1Cur_holds_l1 : (List Hold × Cur) → Option ((List Hold × Cur) ⊕ (List Hold × Cur)) := fun st_ => match st_ with
| (list4, c_7) =>
  (M.spec_l1Cur_pick c_7 (2 : Int)).bind fun y15 =>
  bif (decide ((list4.length : Int) < (IntKind.i64.wrap ((8 : Int) + y15.1)))) then (
    asrt ((list4.length : Int) + (([(⟨(IntKind.i64.wrap ((50 : Int) + (list4.length : Int))), (0 : Int), (-1 : Int), ([] : List Int), (0 : Int), (0 : Int)⟩ : Hold)] : List Hold).length : Int) ≤ 2147483648) <|
    some (.inl ((list4 ++ ([(⟨(IntKind.i64.wrap ((50 : Int) + (list4.length : Int))), (0 : Int), (-1 : Int), ([] : List Int), (0 : Int), (0 : Int)⟩ : Hold)] : List Hold)), y15.2)))
  else (
    some (.inr (list4, y15.2)))

def M.spec_l1Cur_holds (c : Cur) : Option (List Hold × Cur) :=
  (iterO (M.spec_l1Cur_holds_l0) (([] : List Hold), (1 : Int), c)).bind fun e => match e with
  | (list, c_) =>
    ((M.spec_l1Cur_pick c_ (32 : Int)).bind fun y9 =>
    (((
      bif (y9.1 == (0 : Int)) then (
        (M.spec_l1Cur_among y9.2 ([(0 : Int), (6 : Int), (99 : Int), (100 : Int)] : List Int)).bind fun y10 =>
        (M.spec_l1Cur_among y10.2 ([(0 : Int), (20000 : Int), (20001 : Int)] : List Int)).bind fun y11 =>
        (M.spec_l1Cur_among y11.2 ([(-1 : Int), (0 : Int), (20001 : Int)] : List Int)).bind fun y12 =>
        (M.spec_l1Cur_among y12.2 ([(0 : Int), (20001 : Int)] : List Int)).bind fun y13 =>
        asrt ((list.length : Int) + (([(⟨y10.1, y11.1, y12.1, ([] : List Int), (0 : Int), y13.1⟩ : Hold)] : List Hold).length : Int) ≤ 2147483648) <|
        some ((list ++ ([(⟨y10.1, y11.1, y12.1, ([] : List Int), (0 : Int), y13.1⟩ : Hold)] : List Hold)), y13.2))
      else (
        bif (y9.1 == (1 : Int)) then (
          (iterO (M.spec_l1Cur_holds_l1) (list, y9.2)).bind fun e => match e with
          | (list3, c_6) =>
            (some (list3, c_6)))
        else (
          bif (y9.1 == (2 : Int)) then (
            (M.spec_l1Cur_pick y9.2 (2 : Int)).bind fun y16 =>
            asrt ((0 : Int) ≤ y16.1 ∧ y16.1 ≤ (([(1 : Int), (2 : Int), (3 : Int), (4 : Int), (5 : Int), (6 : Int)] : List Int).length : Int) ∧ (([(1 : Int), (2 : Int), (3 : Int), (4 : Int), (5 : Int), (6 : Int)] : List Int).length : Int) ≤ (([(1 : Int), (2 : Int), (3 : Int), (4 : Int), (5 : Int), (6 : Int)] : List Int).length : Int)) <|
            asrt ((list.length : Int) + (([(⟨(98 : Int), (0 : Int), (-1 : Int), (slc ([(1 : Int), (2 : Int), (3 : Int), (4 : Int), (5 : Int), (6 : Int)] : List Int) y16.1 (([(1 : Int), (2 : Int), (3 : Int), (4 : Int), (5 : Int), (6 : Int)] : List Int).length : Int)), (0 : Int), (9 : Int)⟩ : Hold)] : List Hold).length : Int) ≤ 2147483648) <|
            some ((list ++ ([(⟨(98 : Int), (0 : Int), (-1 : Int), (slc ([(1 : Int), (2 : Int), (3 : Int), (4 : Int), (5 : Int), (6 : Int)] : List Int) y16.1 (([(1 : Int), (2 : Int), (3 : Int), (4 : Int), (5 : Int), (6 : Int)] : List Int).length : Int)), (0 : Int), (9 : Int)⟩ : Hold)] : List Hold)), y16.2))
          else (
            some (list, y9.2))))) : Option (List Hold × Cur))).bind fun e => match e with
    | (list2, c_5) =>
      (some (list2, c_5)))

def M.spec_DrawReleaseHold (code : List Int) : Option (List Hold × Int × Int) :=
  (M.spec_l1Cur_holds (⟨code, (0 : Int), (0 : Int)⟩ : Cur)).bind fun y0 =>
  (M.spec_l1Cur_among y0.2 ([(0 : Int), (6 : Int), (12 : Int)] : List Int)).bind fun y1 =>
  (((
    ((bif (decide ((y0.1.length : Int) > (0 : Int))) then M.spec_l1Cur_one y1.2 (6 : Int) else some default)).bind fun y2 =>
    bif ((decide ((y0.1.length : Int) > (0 : Int))) && (!y2.1)) then (
      (M.spec_l1Cur_pick (bif (decide ((y0.1.length : Int) > (0 : Int))) then y2.2 else y1.2) (y0.1.length : Int)).bind fun y3 =>
      asrt ((0 : Int) ≤ y3.1 ∧ y3.1 < (y0.1.length : Int)) <|
      some ((y0.1.getD (Int.toNat y3.1) default).Id, y3.2))
    else (
      some (y1.1, (bif (decide ((y0.1.length : Int) > (0 : Int))) then y2.2 else y1.2)))) : Option (Int × Cur))).bind fun e => match e with
  | (id_, c_) =>
    ((M.spec_l1Cur_among c_ ([(0 : Int), (1 : Int), (401 : Int), (3001 : Int), (20000 : Int), (20001 : Int)] : List Int)).bind fun y4 =>
    some (y0.1, id_, y4.1))

def M.impl_ReleaseHold_1 (h_ : Hold) (id_c : Int) : Option Bool :=
  some (h_.Id == id_c)

def M.slices_IndexFunc_impl_Hold_impl_Hold_l0 (s : List Hold) (fm : Hold → Option Bool) : (Int) → Option ((Int) ⊕ ((Unit) ⊕ (Int))) := fun st_ => match st_ with
| v =>
  bif (decide (v < (s.length : Int))) then (
    asrt ((0 : Int) ≤ v ∧ v < (s.length : Int)) <|
    (fm (s.getD (Int.toNat v) default)).bind fun y1 =>
    bif y1 then (
      some (.inr (.inr v)))
    else (
      some (.inl (IntKind.i64.wrap (v + (1 : Int))))))
  else (
    some (.inr (.inl ())))

def M.slices_IndexFunc_impl_Hold_impl_Hold (s : List Hold) (fm : Hold → Option Bool) : Option Int :=
  (iterO (M.slices_IndexFunc_impl_Hold_impl_Hold_l0 s fm) (0 : Int)).bind fun e => match e with
  | .inl () =>
    (some (-1 : Int))
  | .inr r => some r

def M.impl_within (n : Int) (low : Int) (high : Int) : Option Bool :=
  some ((decide (low ≤ n)) && (decide (n ≤ high)))

def M.impl_isId (id_ : Int) : Option Bool :=
  (M.impl_within id_ (1 : Int) (99 : Int)).bind fun y0 =>
  some y0

def M.impl_isDay (day : Int) : Option Bool :=
  (M.impl_within day (0 : Int) (20000 : Int)).bind fun y0 =>
  some y0

def M.impl_areSeries_l0 (list : List Int) : (Int) → Option ((Int) ⊕ ((Unit) ⊕ (Bool))) := fun st_ => match st_ with
| v =>
  bif (decide (v < (list.length : Int))) then (
    asrt ((0 : Int) ≤ v ∧ v < (list.length : Int)) <|
    (M.impl_isId (list.getD (Int.toNat v) default)).bind fun y1 =>
    asrt ((!y1) = false → (decide (v > (0 : Int))) = true → ((0 : Int) ≤ (IntKind.i64.wrap (v - (1 : Int))) ∧ (IntKind.i64.wrap (v - (1 : Int))) < (list.length : Int))) <|
    bif ((!y1) || ((decide (v > (0 : Int))) && (decide ((list.getD (Int.toNat (IntKind.i64.wrap (v - (1 : Int)))) default) ≥ (list.getD (Int.toNat v) default))))) then (
      some (.inr (.inr false)))
    else (
      some (.inl (IntKind.i64.wrap (v + (1 : Int))))))
  else (
    some (.inr (.inl ())))

def M.impl_areSeries (list : List Int) (most : Int) : Option Bool :=
  (iterO (M.impl_areSeries_l0 list) (0 : Int)).bind fun e => match e with
  | .inl () =>
    (some (decide ((list.length : Int) ≤ most)))
  | .inr r => some r

def M.impl_areDays (from_ : Int) (to_ : Int) : Option Bool :=
  (M.impl_isDay from_).bind fun y0 =>
  ((bif y0 then M.impl_isDay to_ else some default)).bind fun y1 =>
  some ((y0 && y1) && (decide (from_ ≤ to_)))

def M.impl_isHold (h_ : Hold) : Option Bool :=
  (M.impl_isId h_.Id).bind fun y0 =>
  ((bif y0 then M.impl_isDay h_.From else some default)).bind fun y1 =>
  ((bif (y0 && y1) then (bif (h_.Until == (-1 : Int)) then some default else M.impl_within h_.Until (IntKind.i64.wrap (h_.From + (1 : Int))) (20000 : Int)) else some default)).bind fun y2 =>
  ((bif ((y0 && y1) && ((h_.Until == (-1 : Int)) || y2)) then M.impl_areSeries h_.Series (5 : Int) else some default)).bind fun y3 =>
  ((bif (((y0 && y1) && ((h_.Until == (-1 : Int)) || y2)) && y3) then M.impl_areDays h_.First h_.Last else some default)).bind fun y4 =>
  some ((((y0 && y1) && ((h_.Until == (-1 : Int)) || y2)) && y3) && y4)

def M.impl_AreHolds_l0 (list : List Hold) : (Int) → Option ((Int) ⊕ ((Unit) ⊕ (Bool))) := fun st_ => match st_ with
| v =>
  bif (decide (v < (list.length : Int))) then (
    asrt ((0 : Int) ≤ v ∧ v < (list.length : Int)) <|
    (M.impl_isHold (list.getD (Int.toNat v) default)).bind fun y1 =>
    asrt ((!y1) = false → (decide (v > (0 : Int))) = true → ((0 : Int) ≤ (IntKind.i64.wrap (v - (1 : Int))) ∧ (IntKind.i64.wrap (v - (1 : Int))) < (list.length : Int))) <|
    bif ((!y1) || ((decide (v > (0 : Int))) && (decide (((list.getD (Int.toNat (IntKind.i64.wrap (v - (1 : Int)))) default).Id) ≥ ((list.getD (Int.toNat v) default).Id))))) then (
      some (.inr (.inr false)))
    else (
      some (.inl (IntKind.i64.wrap (v + (1 : Int))))))
  else (
    some (.inr (.inl ())))

def M.impl_AreHolds (list : List Hold) : Option Bool :=
  (iterO (M.impl_AreHolds_l0 list) (0 : Int)).bind fun e => match e with
  | .inl () =>
    (some (decide ((list.length : Int) ≤ (8 : Int))))
  | .inr r => some r

def M.slices_Clone_impl_Hold_impl_Hold (s : List Hold) : Option (List Hold) := asrt ((s.length : Int) ≤ 2147483648) <| some s

def M.slices_Clone_int_int (s : List Int) : Option (List Int) := asrt ((s.length : Int) ≤ 2147483648) <| some s

def M.impl_copyHolds_l0 (y0 : List Hold) : (List Hold × Int) → Option ((List Hold × Int) ⊕ (List Hold)) := fun st_ => match st_ with
| (out_0, v) =>
  bif (decide (v < (y0.length : Int))) then (
    asrt ((0 : Int) ≤ v ∧ v < (out_0.length : Int)) <|
    (M.slices_Clone_int_int ((out_0.getD (Int.toNat v) default).Series)).bind fun y2 =>
    asrt ((0 : Int) ≤ v ∧ v < (out_0.length : Int)) <|
    some (.inl ((out_0.set (Int.toNat v) (⟨(out_0.getD (Int.toNat v) default).Id, (out_0.getD (Int.toNat v) default).From, (out_0.getD (Int.toNat v) default).Until, y2, (out_0.getD (Int.toNat v) default).First, (out_0.getD (Int.toNat v) default).Last⟩ : Hold)), (IntKind.i64.wrap (v + (1 : Int))))))
  else (
    some (.inr out_0))

def M.impl_copyHolds (list : List Hold) : Option (List Hold) :=
  (M.slices_Clone_impl_Hold_impl_Hold list).bind fun y0 =>
  (iterO (M.impl_copyHolds_l0 y0) (y0, (0 : Int))).bind fun e => match e with
  | out_ =>
    (some out_)

def M.impl_ReleaseHold (list : List Hold) (id_ : Int) (day : Int) : Option (List Hold × Bool) :=
  (M.slices_IndexFunc_impl_Hold_impl_Hold list (fun x0 => M.impl_ReleaseHold_1 x0 id_)).bind fun y0 =>
  (M.impl_AreHolds list).bind fun y1 =>
  asrt (((!y1) || (decide (y0 < (0 : Int)))) = false → ((0 : Int) ≤ y0 ∧ y0 < (list.length : Int))) <|
  ((bif (((!y1) || (decide (y0 < (0 : Int)))) || (decide (((list.getD (Int.toNat y0) default).Until) ≥ (0 : Int)))) then some default else M.impl_isDay day)).bind fun y2 =>
  bif ((((!y1) || (decide (y0 < (0 : Int)))) || (decide (((list.getD (Int.toNat y0) default).Until) ≥ (0 : Int)))) || (!y2)) then (
    some (([] : List Hold), false))
  else (
    (M.impl_copyHolds list).bind fun y3 =>
    asrt ((0 : Int) ≤ y0 ∧ y0 < (y3.length : Int)) <|
    (M.impl_AreHolds (y3.set (Int.toNat y0) (⟨(y3.getD (Int.toNat y0) default).Id, (y3.getD (Int.toNat y0) default).From, day, (y3.getD (Int.toNat y0) default).Series, (y3.getD (Int.toNat y0) default).First, (y3.getD (Int.toNat y0) default).Last⟩ : Hold))).bind fun y4 =>
    bif (!y4) then (
      some (([] : List Hold), false))
    else (
      some ((y3.set (Int.toNat y0) (⟨(y3.getD (Int.toNat y0) default).Id, (y3.getD (Int.toNat y0) default).From, day, (y3.getD (Int.toNat y0) default).Series, (y3.getD (Int.toNat y0) default).First, (y3.getD (Int.toNat y0) default).Last⟩ : Hold)), true)))

def M.spec_l1Own (l : List Int) : Option (List Int) :=
  asrt ((([] : List Int).length : Int) + (l.length : Int) ≤ 2147483648) <|
  some (([] : List Int) ++ l)

def M.spec_l9Own_l0 (list : List Hold) : (List Hold × Int) → Option ((List Hold × Int) ⊕ (List Hold)) := fun st_ => match st_ with
| (out_0, i) =>
  bif (decide (i < (list.length : Int))) then (
    asrt ((0 : Int) ≤ i ∧ i < (list.length : Int)) <|
    (M.spec_l1Own ((list.getD (Int.toNat i) default).Series)).bind fun y1 =>
    asrt ((out_0.length : Int) + (([(⟨(list.getD (Int.toNat i) default).Id, (list.getD (Int.toNat i) default).From, (list.getD (Int.toNat i) default).Until, y1, (list.getD (Int.toNat i) default).First, (list.getD (Int.toNat i) default).Last⟩ : Hold)] : List Hold).length : Int) ≤ 2147483648) <|
    some (.inl ((out_0 ++ ([(⟨(list.getD (Int.toNat i) default).Id, (list.getD (Int.toNat i) default).From, (list.getD (Int.toNat i) default).Until, y1, (list.getD (Int.toNat i) default).First, (list.getD (Int.toNat i) default).Last⟩ : Hold)] : List Hold)), (IntKind.i64.wrap (i + (1 : Int))))))
  else (
    some (.inr out_0))

def M.spec_l9Own (list : List Hold) : Option (List Hold) :=
  (iterO (M.spec_l9Own_l0 list) (([] : List Hold), (0 : Int))).bind fun e => match e with
  | out_ =>
    (some out_)

def M.spec_l1In (x : Int) (a : Int) (b_ : Int) : Option Bool :=
  some ((decide (x ≥ a)) && (decide (x ≤ b_)))

def M.spec_l2Day (d : Int) : Option Bool :=
  (M.spec_l1In d (0 : Int) (20000 : Int)).bind fun y0 =>
  some y0

def M.spec_l1Rising_l0 (l : List Int) (lo : Int) (hi : Int) : (Int) → Option ((Int) ⊕ ((Unit) ⊕ (Bool))) := fun st_ => match st_ with
| i =>
  bif (decide (i < (l.length : Int))) then (
    asrt ((0 : Int) ≤ i ∧ i < (l.length : Int)) <|
    (M.spec_l1In (l.getD (Int.toNat i) default) lo hi).bind fun y1 =>
    asrt ((!y1) = false → (decide (i > (0 : Int))) = true → ((0 : Int) ≤ (IntKind.i64.wrap (i - (1 : Int))) ∧ (IntKind.i64.wrap (i - (1 : Int))) < (l.length : Int))) <|
    asrt ((!y1) = false → (decide (i > (0 : Int))) = true → ((0 : Int) ≤ i ∧ i < (l.length : Int))) <|
    bif ((!y1) || ((decide (i > (0 : Int))) && (decide ((l.getD (Int.toNat (IntKind.i64.wrap (i - (1 : Int)))) default) ≥ (l.getD (Int.toNat i) default))))) then (
      some (.inr (.inr false)))
    else (
      some (.inl (IntKind.i64.wrap (i + (1 : Int))))))
  else (
    some (.inr (.inl ())))

def M.spec_l1Rising (l : List Int) (lo : Int) (hi : Int) : Option Bool :=
  (iterO (M.spec_l1Rising_l0 l lo hi) (0 : Int)).bind fun e => match e with
  | .inl () =>
    (some true)
  | .inr r => some r

def M.spec_l9One (h_ : Hold) : Option Bool :=
  (M.spec_l1In h_.Id (1 : Int) (99 : Int)).bind fun y0 =>
  ((bif (!y0) then some default else M.spec_l2Day h_.From)).bind fun y1 =>
  ((bif ((!y0) || (!y1)) then some default else (bif (h_.Until != (-1 : Int)) then M.spec_l1In h_.Until (IntKind.i64.wrap (h_.From + (1 : Int))) (20000 : Int) else some default))).bind fun y2 =>
  bif (((!y0) || (!y1)) || ((h_.Until != (-1 : Int)) && (!y2))) then (
    some false)
  else (
    ((bif (decide ((h_.Series.length : Int) ≤ (5 : Int))) then M.spec_l1Rising h_.Series (1 : Int) (99 : Int) else some default)).bind fun y3 =>
    ((bif ((decide ((h_.Series.length : Int) ≤ (5 : Int))) && y3) then M.spec_l2Day h_.First else some default)).bind fun y4 =>
    ((bif (((decide ((h_.Series.length : Int) ≤ (5 : Int))) && y3) && y4) then M.spec_l1In h_.Last h_.First (20000 : Int) else some default)).bind fun y5 =>
    some ((((decide ((h_.Series.length : Int) ≤ (5 : Int))) && y3) && y4) && y5))

def M.spec_l9Good_l0 (list : List Hold) : (Int) → Option ((Int) ⊕ ((Unit) ⊕ (Bool))) := fun st_ => match st_ with
| i =>
  bif (decide (i < (list.length : Int))) then (
    asrt ((0 : Int) ≤ i ∧ i < (list.length : Int)) <|
    (M.spec_l9One (list.getD (Int.toNat i) default)).bind fun y1 =>
    asrt ((!y1) = false → (decide (i > (0 : Int))) = true → ((0 : Int) ≤ (IntKind.i64.wrap (i - (1 : Int))) ∧ (IntKind.i64.wrap (i - (1 : Int))) < (list.length : Int))) <|
    asrt ((!y1) = false → (decide (i > (0 : Int))) = true → ((0 : Int) ≤ i ∧ i < (list.length : Int))) <|
    bif ((!y1) || ((decide (i > (0 : Int))) && (decide (((list.getD (Int.toNat (IntKind.i64.wrap (i - (1 : Int)))) default).Id) ≥ ((list.getD (Int.toNat i) default).Id))))) then (
      some (.inr (.inr false)))
    else (
      some (.inl (IntKind.i64.wrap (i + (1 : Int))))))
  else (
    some (.inr (.inl ())))

def M.spec_l9Good (list : List Hold) : Option Bool :=
  (iterO (M.spec_l9Good_l0 list) (0 : Int)).bind fun e => match e with
  | .inl () =>
    (some (decide ((list.length : Int) ≤ (8 : Int))))
  | .inr r => some r

def M.spec_ReleaseHold_l0 (list : List Hold) (id_ : Int) (day : Int) (y0 : List Hold) : (Int) → Option ((Int) ⊕ ((Unit) ⊕ (List Hold × Bool))) := fun st_ => match st_ with
| i =>
  bif (decide (i < (y0.length : Int))) then (
    asrt ((0 : Int) ≤ i ∧ i < (y0.length : Int)) <|
    asrt ((((y0.getD (Int.toNat i) default).Id) == id_) = true → ((0 : Int) ≤ i ∧ i < (y0.length : Int))) <|
    ((bif ((((y0.getD (Int.toNat i) default).Id) == id_) && (((y0.getD (Int.toNat i) default).Until) == (-1 : Int))) then M.spec_l9Good list else some default)).bind fun y2 =>
    asrt ((((((y0.getD (Int.toNat i) default).Id) == id_) && (((y0.getD (Int.toNat i) default).Until) == (-1 : Int))) && y2) = true → ((0 : Int) ≤ i ∧ i < (y0.length : Int))) <|
    ((bif (((((y0.getD (Int.toNat i) default).Id) == id_) && (((y0.getD (Int.toNat i) default).Until) == (-1 : Int))) && y2) then M.spec_l1In day (IntKind.i64.wrap (((y0.getD (Int.toNat i) default).From) + (1 : Int))) (20000 : Int) else some default)).bind fun y3 =>
    bif ((((((y0.getD (Int.toNat i) default).Id) == id_) && (((y0.getD (Int.toNat i) default).Until) == (-1 : Int))) && y2) && y3) then (
      asrt ((0 : Int) ≤ i ∧ i < (y0.length : Int)) <|
      some (.inr (.inr ((y0.set (Int.toNat i) (⟨(y0.getD (Int.toNat i) default).Id, (y0.getD (Int.toNat i) default).From, day, (y0.getD (Int.toNat i) default).Series, (y0.getD (Int.toNat i) default).First, (y0.getD (Int.toNat i) default).Last⟩ : Hold)), true))))
    else (
      some (.inl (IntKind.i64.wrap (i + (1 : Int))))))
  else (
    some (.inr (.inl ())))

def M.spec_ReleaseHold (list : List Hold) (id_ : Int) (day : Int) : Option (List Hold × Bool) :=
  (M.spec_l9Own list).bind fun y0 =>
  (iterO (M.spec_ReleaseHold_l0 list id_ day y0) (0 : Int)).bind fun e => match e with
  | .inl () =>
    (some (([] : List Hold), false))
  | .inr r => some r

def M.laws_vInts_l0 (a : List Int) (b_ : List Int) : (Int) → Option ((Int) ⊕ ((Unit) ⊕ (Bool))) := fun st_ => match st_ with
| i =>
  bif (decide (i < (a.length : Int))) then (
    asrt ((0 : Int) ≤ i ∧ i < (a.length : Int)) <|
    asrt ((0 : Int) ≤ i ∧ i < (b_.length : Int)) <|
    bif ((a.getD (Int.toNat i) default) != (b_.getD (Int.toNat i) default)) then (
      some (.inr (.inr false)))
    else (
      some (.inl (IntKind.i64.wrap (i + (1 : Int))))))
  else (
    some (.inr (.inl ())))

def M.laws_vInts (a : List Int) (b_ : List Int) : Option Bool :=
  bif ((a.length : Int) != (b_.length : Int)) then (
    some false)
  else (
    (iterO (M.laws_vInts_l0 a b_) (0 : Int)).bind fun e => match e with
    | .inl () =>
      (some true)
    | .inr r => some r)

def M.laws_vHolds_l0 (a : List Hold) (b_ : List Hold) : (Int) → Option ((Int) ⊕ ((Unit) ⊕ (Bool))) := fun st_ => match st_ with
| i =>
  bif (decide (i < (a.length : Int))) then (
    asrt ((0 : Int) ≤ i ∧ i < (a.length : Int)) <|
    asrt ((0 : Int) ≤ i ∧ i < (b_.length : Int)) <|
    asrt ((((a.getD (Int.toNat i) default).Id) != ((b_.getD (Int.toNat i) default).Id)) = false → ((0 : Int) ≤ i ∧ i < (a.length : Int))) <|
    asrt ((((a.getD (Int.toNat i) default).Id) != ((b_.getD (Int.toNat i) default).Id)) = false → ((0 : Int) ≤ i ∧ i < (b_.length : Int))) <|
    asrt (((((a.getD (Int.toNat i) default).Id) != ((b_.getD (Int.toNat i) default).Id)) || (((a.getD (Int.toNat i) default).From) != ((b_.getD (Int.toNat i) default).From))) = false → ((0 : Int) ≤ i ∧ i < (a.length : Int))) <|
    asrt (((((a.getD (Int.toNat i) default).Id) != ((b_.getD (Int.toNat i) default).Id)) || (((a.getD (Int.toNat i) default).From) != ((b_.getD (Int.toNat i) default).From))) = false → ((0 : Int) ≤ i ∧ i < (b_.length : Int))) <|
    asrt ((((((a.getD (Int.toNat i) default).Id) != ((b_.getD (Int.toNat i) default).Id)) || (((a.getD (Int.toNat i) default).From) != ((b_.getD (Int.toNat i) default).From))) || (((a.getD (Int.toNat i) default).Until) != ((b_.getD (Int.toNat i) default).Until))) = false → ((0 : Int) ≤ i ∧ i < (a.length : Int))) <|
    asrt ((((((a.getD (Int.toNat i) default).Id) != ((b_.getD (Int.toNat i) default).Id)) || (((a.getD (Int.toNat i) default).From) != ((b_.getD (Int.toNat i) default).From))) || (((a.getD (Int.toNat i) default).Until) != ((b_.getD (Int.toNat i) default).Until))) = false → ((0 : Int) ≤ i ∧ i < (b_.length : Int))) <|
    ((bif (((((a.getD (Int.toNat i) default).Id) != ((b_.getD (Int.toNat i) default).Id)) || (((a.getD (Int.toNat i) default).From) != ((b_.getD (Int.toNat i) default).From))) || (((a.getD (Int.toNat i) default).Until) != ((b_.getD (Int.toNat i) default).Until))) then some default else M.laws_vInts ((a.getD (Int.toNat i) default).Series) ((b_.getD (Int.toNat i) default).Series))).bind fun y1 =>
    asrt (((((((a.getD (Int.toNat i) default).Id) != ((b_.getD (Int.toNat i) default).Id)) || (((a.getD (Int.toNat i) default).From) != ((b_.getD (Int.toNat i) default).From))) || (((a.getD (Int.toNat i) default).Until) != ((b_.getD (Int.toNat i) default).Until))) || (!y1)) = false → ((0 : Int) ≤ i ∧ i < (a.length : Int))) <|
    asrt (((((((a.getD (Int.toNat i) default).Id) != ((b_.getD (Int.toNat i) default).Id)) || (((a.getD (Int.toNat i) default).From) != ((b_.getD (Int.toNat i) default).From))) || (((a.getD (Int.toNat i) default).Until) != ((b_.getD (Int.toNat i) default).Until))) || (!y1)) = false → ((0 : Int) ≤ i ∧ i < (b_.length : Int))) <|
    asrt ((((((((a.getD (Int.toNat i) default).Id) != ((b_.getD (Int.toNat i) default).Id)) || (((a.getD (Int.toNat i) default).From) != ((b_.getD (Int.toNat i) default).From))) || (((a.getD (Int.toNat i) default).Until) != ((b_.getD (Int.toNat i) default).Until))) || (!y1)) || (((a.getD (Int.toNat i) default).First) != ((b_.getD (Int.toNat i) default).First))) = false → ((0 : Int) ≤ i ∧ i < (a.length : Int))) <|
    asrt ((((((((a.getD (Int.toNat i) default).Id) != ((b_.getD (Int.toNat i) default).Id)) || (((a.getD (Int.toNat i) default).From) != ((b_.getD (Int.toNat i) default).From))) || (((a.getD (Int.toNat i) default).Until) != ((b_.getD (Int.toNat i) default).Until))) || (!y1)) || (((a.getD (Int.toNat i) default).First) != ((b_.getD (Int.toNat i) default).First))) = false → ((0 : Int) ≤ i ∧ i < (b_.length : Int))) <|
    bif ((((((((a.getD (Int.toNat i) default).Id) != ((b_.getD (Int.toNat i) default).Id)) || (((a.getD (Int.toNat i) default).From) != ((b_.getD (Int.toNat i) default).From))) || (((a.getD (Int.toNat i) default).Until) != ((b_.getD (Int.toNat i) default).Until))) || (!y1)) || (((a.getD (Int.toNat i) default).First) != ((b_.getD (Int.toNat i) default).First))) || (((a.getD (Int.toNat i) default).Last) != ((b_.getD (Int.toNat i) default).Last))) then (
      some (.inr (.inr false)))
    else (
      some (.inl (IntKind.i64.wrap (i + (1 : Int))))))
  else (
    some (.inr (.inl ())))

def M.laws_vHolds (a : List Hold) (b_ : List Hold) : Option Bool :=
  bif ((a.length : Int) != (b_.length : Int)) then (
    some false)
  else (
    (iterO (M.laws_vHolds_l0 a b_) (0 : Int)).bind fun e => match e with
    | .inl () =>
      (some true)
    | .inr r => some r)

def M.spec_l1Cur_record_l0 (y1 : Int × Cur) : (Int × List Event × Cur) → Option ((Int × List Event × Cur) ⊕ (List Event × Cur)) := fun st_ => match st_ with
| (k, r_Events0, c_0) =>
  bif (decide (k ≤ (6 : Int))) then (
    (((
      (M.spec_l1Cur_one c_0 (3 : Int)).bind fun y3 =>
      bif y3.1 then (
        (M.spec_l1Cur_among y3.2 ([(0 : Int), (1 : Int), (30 : Int), (365 : Int), (1000 : Int)] : List Int)).bind fun y4 =>
        asrt ((r_Events0.length : Int) + (([(⟨k, (IntKind.i64.wrap (y1.1 + y4.1))⟩ : Event)] : List Event).length : Int) ≤ 2147483648) <|
        (((
          some ((r_Events0 ++ ([(⟨k, (IntKind.i64.wrap (y1.1 + y4.1))⟩ : Event)] : List Event)), y4.2)) : Option (List Event × Cur))).bind fun e => match e with
        | (r_Events2, c_2) =>
          (some (r_Events2, c_2)))
      else (
        some (r_Events0, y3.2))) : Option (List Event × Cur))).bind fun e => match e with
    | (r_Events1, c_1) =>
      (some (.inl ((IntKind.i64.wrap (k + (1 : Int))), r_Events1, c_1))))
  else (
    some (.inr (r_Events0, c_0)))

def M.spec_l1Cur_record (c : Cur) (id_ : Int) : Option (Record × Cur) :=
  (M.spec_l1Cur_among c ([(1 : Int), (2 : Int), (3 : Int), (3 : Int), (7 : Int), (99 : Int)] : List Int)).bind fun y0 =>
  (M.spec_l1Cur_among y0.2 ([(0 : Int), (100 : Int), (100 : Int), (500 : Int), (3000 : Int)] : List Int)).bind fun y1 =>
  (iterO (M.spec_l1Cur_record_l0 y1) ((1 : Int), ([] : List Event), y1.2)).bind fun e => match e with
  | (r_Events, c_) =>
    ((M.spec_l1Cur_pick c_ (48 : Int)).bind fun y5 =>
    (((
      bif (y5.1 == (0 : Int)) then (
        (M.spec_l1Cur_among y5.2 ([(0 : Int), (100 : Int)] : List Int)).bind fun y6 =>
        some (y6.1, y1.1, r_Events, y6.2))
      else (
        bif (y5.1 == (1 : Int)) then (
          (M.spec_l1Cur_among y5.2 ([(-1 : Int), (20001 : Int), (19999 : Int)] : List Int)).bind fun y7 =>
          some (y0.1, y7.1, r_Events, y7.2))
        else (
          bif (y5.1 == (2 : Int)) then (
            (M.spec_l1Cur_among y5.2 ([(1 : Int), (9 : Int), (10 : Int)] : List Int)).bind fun y8 =>
            (M.spec_l1Cur_among y8.2 ([(0 : Int), (20000 : Int)] : List Int)).bind fun y9 =>
            asrt ((r_Events.length : Int) + (([(⟨y8.1, y9.1⟩ : Event)] : List Event).length : Int) ≤ 2147483648) <|
            (((
              some ((r_Events ++ ([(⟨y8.1, y9.1⟩ : Event)] : List Event)), y9.2)) : Option (List Event × Cur))).bind fun e => match e with
            | (r_Events4, o) =>
              (some (y0.1, y1.1, r_Events4, o)))
          else (
            some (y0.1, y1.1, r_Events, y5.2))))) : Option (Int × Int × List Event × Cur))).bind fun e => match e with
    | (r_Series, r_Made, r_Events3, c_3) =>
      (some ((⟨id_, r_Series, r_Made, r_Events3⟩ : Record), c_3)))

def M.spec_DrawIsRecord (code : List Int) : Option Record :=
  (M.spec_l1Cur_among (⟨code, (0 : Int), (0 : Int)⟩ : Cur) ([(1 : Int), (12 : Int), (999 : Int), (0 : Int), (1000 : Int)] : List Int)).bind fun y0 =>
  (M.spec_l1Cur_record y0.2 y0.1).bind fun y1 =>
  some y1.1

def M.impl_IsEvent (e_ : Event) : Option Bool :=
  (M.impl_within e_.Kind (1 : Int) (9 : Int)).bind fun y0 =>
  ((bif y0 then M.impl_isDay e_.Day else some default)).bind fun y1 =>
  some (y0 && y1)

def M.impl_IsRecord_l0 (r_ : Record) : (Int) → Option ((Int) ⊕ ((Unit) ⊕ (Bool))) := fun st_ => match st_ with
| v =>
  bif (decide (v < (r_.Events.length : Int))) then (
    asrt ((0 : Int) ≤ v ∧ v < (r_.Events.length : Int)) <|
    (M.impl_IsEvent (r_.Events.getD (Int.toNat v) default)).bind fun y4 =>
    asrt (((!y4) || (decide (((r_.Events.getD (Int.toNat v) default).Day) < r_.Made))) = false → (decide (v > (0 : Int))) = true → ((0 : Int) ≤ (IntKind.i64.wrap (v - (1 : Int))) ∧ (IntKind.i64.wrap (v - (1 : Int))) < (r_.Events.length : Int))) <|
    bif (((!y4) || (decide (((r_.Events.getD (Int.toNat v) default).Day) < r_.Made))) || ((decide (v > (0 : Int))) && (decide (((r_.Events.getD (Int.toNat (IntKind.i64.wrap (v - (1 : Int)))) default).Kind) ≥ ((r_.Events.getD (Int.toNat v) default).Kind))))) then (
      some (.inr (.inr false)))
    else (
      some (.inl (IntKind.i64.wrap (v + (1 : Int))))))
  else (
    some (.inr (.inl ())))

def M.impl_IsRecord (r_ : Record) : Option Bool :=
  (M.impl_within r_.Id (1 : Int) (999 : Int)).bind fun y0 =>
  ((bif (!y0) then some default else M.impl_isId r_.Series)).bind fun y1 =>
  ((bif ((!y0) || (!y1)) then some default else M.impl_isDay r_.Made)).bind fun y2 =>
  bif ((((!y0) || (!y1)) || (!y2)) || (decide ((r_.Events.length : Int) > (6 : Int)))) then (
    some false)
  else (
    (iterO (M.impl_IsRecord_l0 r_) (0 : Int)).bind fun e => match e with
    | .inl () =>
      (some true)
    | .inr r => some r)

def M.impl_areHeld (list : List Hold) (r_ : Record) (day : Int) : Option Bool :=
  (M.impl_AreHolds list).bind fun y0 =>
  ((bif y0 then M.impl_IsRecord r_ else some default)).bind fun y1 =>
  ((bif (y0 && y1) then M.impl_isDay day else some default)).bind fun y2 =>
  some ((y0 && y1) && y2)

def M.slices_Index_int_int_l0 (s : List Int) (v : Int) : (Int) → Option ((Int) ⊕ ((Unit) ⊕ (Int))) := fun st_ => match st_ with
| v0 =>
  bif (decide (v0 < (s.length : Int))) then (
    asrt ((0 : Int) ≤ v0 ∧ v0 < (s.length : Int)) <|
    bif (v == (s.getD (Int.toNat v0) default)) then (
      some (.inr (.inr v0)))
    else (
      some (.inl (IntKind.i64.wrap (v0 + (1 : Int))))))
  else (
    some (.inr (.inl ())))

def M.slices_Index_int_int (s : List Int) (v : Int) : Option Int :=
  (iterO (M.slices_Index_int_int_l0 s v) (0 : Int)).bind fun e => match e with
  | .inl () =>
    (some (-1 : Int))
  | .inr r => some r

def M.slices_Contains_int_int (s : List Int) (v : Int) : Option Bool :=
  (M.slices_Index_int_int s v).bind fun y0 =>
  some (decide (y0 ≥ (0 : Int)))

def M.impl_Hold_covers (h_ : Hold) (r_ : Record) (day : Int) : Option Bool :=
  ((bif ((decide (h_.From ≤ day)) && ((decide (h_.Until < (0 : Int))) || (decide (day < h_.Until)))) then M.impl_within r_.Made h_.First h_.Last else some default)).bind fun y0 =>
  ((bif (((decide (h_.From ≤ day)) && ((decide (h_.Until < (0 : Int))) || (decide (day < h_.Until)))) && y0) then (bif ((h_.Series.length : Int) == (0 : Int)) then some default else M.slices_Contains_int_int h_.Series r_.Series) else some default)).bind fun y1 =>
  some ((((decide (h_.From ≤ day)) && ((decide (h_.Until < (0 : Int))) || (decide (day < h_.Until)))) && y0) && (((h_.Series.length : Int) == (0 : Int)) || y1))

def M.impl_holdsOn_l0 (list : List Hold) (r_ : Record) (day : Int) : (List Int × Int) → Option ((List Int × Int) ⊕ (List Int)) := fun st_ => match st_ with
| (ids0, v) =>
  bif (decide (v < (list.length : Int))) then (
    (((
      asrt ((0 : Int) ≤ v ∧ v < (list.length : Int)) <|
      (M.impl_Hold_covers (list.getD (Int.toNat v) default) r_ day).bind fun y1 =>
      bif y1 then (
        asrt ((ids0.length : Int) + (([(list.getD (Int.toNat v) default).Id] : List Int).length : Int) ≤ 2147483648) <|
        some (ids0 ++ ([(list.getD (Int.toNat v) default).Id] : List Int)))
      else (
        some ids0)) : Option (List Int))).bind fun e => match e with
    | ids1 =>
      (some (.inl (ids1, (IntKind.i64.wrap (v + (1 : Int)))))))
  else (
    some (.inr ids0))

def M.impl_holdsOn (list : List Hold) (r_ : Record) (day : Int) : Option (List Int) :=
  (iterO (M.impl_holdsOn_l0 list r_ day) (([] : List Int), (0 : Int))).bind fun e => match e with
  | ids =>
    (some ids)

def M.impl_HoldsOn (list : List Hold) (r_ : Record) (day : Int) : Option (List Int × Bool) :=
  (M.impl_areHeld list r_ day).bind fun y0 =>
  bif (!y0) then (
    some (([] : List Int), false))
  else (
    (M.impl_holdsOn list r_ day).bind fun y1 =>
    some (y1, true))

def M.laws_vHas_l0 (l : List Int) (x : Int) : (Int) → Option ((Int) ⊕ ((Unit) ⊕ (Bool))) := fun st_ => match st_ with
| i =>
  bif (decide (i < (l.length : Int))) then (
    asrt ((0 : Int) ≤ i ∧ i < (l.length : Int)) <|
    bif ((l.getD (Int.toNat i) default) == x) then (
      some (.inr (.inr true)))
    else (
      some (.inl (IntKind.i64.wrap (i + (1 : Int))))))
  else (
    some (.inr (.inl ())))

def M.laws_vHas (l : List Int) (x : Int) : Option Bool :=
  (iterO (M.laws_vHas_l0 l x) (0 : Int)).bind fun e => match e with
  | .inl () =>
    (some false)
  | .inr r => some r

def M.laws_vWithin_l0 (a : List Int) (b_ : List Int) : (Int) → Option ((Int) ⊕ ((Unit) ⊕ (Bool))) := fun st_ => match st_ with
| i =>
  bif (decide (i < (a.length : Int))) then (
    asrt ((0 : Int) ≤ i ∧ i < (a.length : Int)) <|
    (M.laws_vHas b_ (a.getD (Int.toNat i) default)).bind fun y1 =>
    bif (!y1) then (
      some (.inr (.inr false)))
    else (
      some (.inl (IntKind.i64.wrap (i + (1 : Int))))))
  else (
    some (.inr (.inl ())))

def M.laws_vWithin (a : List Int) (b_ : List Int) : Option Bool :=
  (iterO (M.laws_vWithin_l0 a b_) (0 : Int)).bind fun e => match e with
  | .inl () =>
    (some true)
  | .inr r => some r

def M.spec_DrawMostHolds (code : List Int) : Option (List Hold × Record) :=
  (M.spec_l1Cur_holds (⟨code, (0 : Int), (0 : Int)⟩ : Cur)).bind fun y0 =>
  (M.spec_l1Cur_record y0.2 (12 : Int)).bind fun y1 =>
  some (y0.1, y1.1)

def M.impl_MostHolds_l0 (list : List Hold) (r_ : Record) : (Int × Int × Int) → Option ((Int × Int × Int) ⊕ (Int × Int)) := fun st_ => match st_ with
| (most0, first0, v) =>
  bif (decide (v < (20001 : Int))) then (
    (((
      (M.impl_holdsOn list r_ v).bind fun y2 =>
      bif (decide ((y2.length : Int) > most0)) then (
        some ((y2.length : Int), v))
      else (
        some (most0, first0))) : Option (Int × Int))).bind fun e => match e with
    | (most1, first1) =>
      (some (.inl (most1, first1, (IntKind.i64.wrap (v + (1 : Int)))))))
  else (
    some (.inr (most0, first0)))

def M.impl_MostHolds (list : List Hold) (r_ : Record) : Option (Int × Int × Bool) :=
  (M.impl_areHeld list r_ (0 : Int)).bind fun y0 =>
  bif (!y0) then (
    some ((0 : Int), (0 : Int), false))
  else (
    (iterO (M.impl_MostHolds_l0 list r_) ((0 : Int), (0 : Int), (0 : Int))).bind fun e => match e with
    | (most, first) =>
      (some (most, first, (decide (most > (0 : Int))))))

def M.spec_l2Event (e_ : Event) : Option Bool :=
  (M.spec_l1In e_.Kind (1 : Int) (9 : Int)).bind fun y0 =>
  ((bif y0 then M.spec_l2Day e_.Day else some default)).bind fun y1 =>
  some (y0 && y1)

def M.spec_l2Record_l0 (r_ : Record) : (Int) → Option ((Int) ⊕ ((Unit) ⊕ (Bool))) := fun st_ => match st_ with
| i =>
  bif (decide (i < (r_.Events.length : Int))) then (
    asrt ((0 : Int) ≤ i ∧ i < (r_.Events.length : Int)) <|
    (M.spec_l2Event (r_.Events.getD (Int.toNat i) default)).bind fun y1 =>
    asrt (((!y1) || (decide (((r_.Events.getD (Int.toNat i) default).Day) < r_.Made))) = false → (decide (i > (0 : Int))) = true → ((0 : Int) ≤ (IntKind.i64.wrap (i - (1 : Int))) ∧ (IntKind.i64.wrap (i - (1 : Int))) < (r_.Events.length : Int))) <|
    bif (((!y1) || (decide (((r_.Events.getD (Int.toNat i) default).Day) < r_.Made))) || ((decide (i > (0 : Int))) && (decide (((r_.Events.getD (Int.toNat (IntKind.i64.wrap (i - (1 : Int)))) default).Kind) ≥ ((r_.Events.getD (Int.toNat i) default).Kind))))) then (
      some (.inr (.inr false)))
    else (
      some (.inl (IntKind.i64.wrap (i + (1 : Int))))))
  else (
    some (.inr (.inl ())))

def M.spec_l2Record (r_ : Record) : Option Bool :=
  (iterO (M.spec_l2Record_l0 r_) (0 : Int)).bind fun e => match e with
  | .inl () =>
    ((M.spec_l1In r_.Id (1 : Int) (999 : Int)).bind fun y2 =>
    ((bif y2 then M.spec_l1In r_.Series (1 : Int) (99 : Int) else some default)).bind fun y3 =>
    ((bif (y2 && y3) then M.spec_l2Day r_.Made else some default)).bind fun y4 =>
    some (((y2 && y3) && y4) && (decide ((r_.Events.length : Int) ≤ (6 : Int)))))
  | .inr r => some r

def M.spec_l9Asked (list : List Hold) (r_ : Record) (day : Int) : Option Bool :=
  (M.spec_l9Good list).bind fun y0 =>
  ((bif y0 then M.spec_l2Record r_ else some default)).bind fun y1 =>
  ((bif (y0 && y1) then M.spec_l2Day day else some default)).bind fun y2 =>
  some ((y0 && y1) && y2)

def M.spec_l1Has_l0 (l : List Int) (n : Int) : (Int) → Option ((Int) ⊕ ((Unit) ⊕ (Bool))) := fun st_ => match st_ with
| i =>
  bif (decide (i < (l.length : Int))) then (
    asrt ((0 : Int) ≤ i ∧ i < (l.length : Int)) <|
    bif ((l.getD (Int.toNat i) default) == n) then (
      some (.inr (.inr true)))
    else (
      some (.inl (IntKind.i64.wrap (i + (1 : Int))))))
  else (
    some (.inr (.inl ())))

def M.spec_l1Has (l : List Int) (n : Int) : Option Bool :=
  (iterO (M.spec_l1Has_l0 l n) (0 : Int)).bind fun e => match e with
  | .inl () =>
    (some false)
  | .inr r => some r

def M.spec_l9Covers (h_ : Hold) (r_ : Record) (day : Int) : Option Bool :=
  ((bif ((decide (h_.From ≤ day)) && ((h_.Until == (-1 : Int)) || (decide (day < h_.Until)))) then (bif ((h_.Series.length : Int) == (0 : Int)) then some default else M.spec_l1Has h_.Series r_.Series) else some default)).bind fun y0 =>
  ((bif (((decide (h_.From ≤ day)) && ((h_.Until == (-1 : Int)) || (decide (day < h_.Until)))) && (((h_.Series.length : Int) == (0 : Int)) || y0)) then M.spec_l1In r_.Made h_.First h_.Last else some default)).bind fun y1 =>
  some ((((decide (h_.From ≤ day)) && ((h_.Until == (-1 : Int)) || (decide (day < h_.Until)))) && (((h_.Series.length : Int) == (0 : Int)) || y0)) && y1)

def M.spec_l9On_l0 (list : List Hold) (r_ : Record) (day : Int) : (List Int × Int) → Option ((List Int × Int) ⊕ (List Int)) := fun st_ => match st_ with
| (out_0, i) =>
  bif (decide (i < (list.length : Int))) then (
    (((
      asrt ((0 : Int) ≤ i ∧ i < (list.length : Int)) <|
      (M.spec_l9Covers (list.getD (Int.toNat i) default) r_ day).bind fun y1 =>
      bif y1 then (
        asrt ((0 : Int) ≤ i ∧ i < (list.length : Int)) <|
        asrt ((out_0.length : Int) + (([(list.getD (Int.toNat i) default).Id] : List Int).length : Int) ≤ 2147483648) <|
        some (out_0 ++ ([(list.getD (Int.toNat i) default).Id] : List Int)))
      else (
        some out_0)) : Option (List Int))).bind fun e => match e with
    | out_1 =>
      (some (.inl (out_1, (IntKind.i64.wrap (i + (1 : Int)))))))
  else (
    some (.inr out_0))

def M.spec_l9On (list : List Hold) (r_ : Record) (day : Int) : Option (List Int) :=
  (iterO (M.spec_l9On_l0 list r_ day) (([] : List Int), (0 : Int))).bind fun e => match e with
  | out_ =>
    (some out_)

def M.spec_MostHolds_l0 (list : List Hold) (r_ : Record) : (Int × Int × Int) → Option ((Int × Int × Int) ⊕ (Int × Int)) := fun st_ => match st_ with
| (most0, first0, i) =>
  bif (decide (i < (list.length : Int))) then (
    (((
      asrt ((0 : Int) ≤ i ∧ i < (list.length : Int)) <|
      (M.spec_l9On list r_ ((list.getD (Int.toNat i) default).From)).bind fun y2 =>
      bif ((decide ((y2.length : Int) > most0)) || ((((y2.length : Int) == most0) && (decide ((y2.length : Int) > (0 : Int)))) && (decide (((list.getD (Int.toNat i) default).From) < first0)))) then (
        some ((y2.length : Int), (list.getD (Int.toNat i) default).From))
      else (
        some (most0, first0))) : Option (Int × Int))).bind fun e => match e with
    | (most1, first1) =>
      (some (.inl (most1, first1, (IntKind.i64.wrap (i + (1 : Int)))))))
  else (
    some (.inr (most0, first0)))

def M.spec_MostHolds (list : List Hold) (r_ : Record) : Option (Int × Int × Bool) :=
  (M.spec_l9Asked list r_ (0 : Int)).bind fun y0 =>
  bif (!y0) then (
    some ((0 : Int), (0 : Int), false))
  else (
    (iterO (M.spec_MostHolds_l0 list r_) ((0 : Int), (0 : Int), (0 : Int))).bind fun e => match e with
    | (most, first) =>
      (some (most, first, (decide (most > (0 : Int))))))

def M.impl_HeldDays_l0 (list : List Hold) (r_ : Record) : (Int × Int) → Option ((Int × Int) ⊕ (Int)) := fun st_ => match st_ with
| (count0, v) =>
  bif (decide (v < (20001 : Int))) then (
    (((
      (M.impl_holdsOn list r_ v).bind fun y2 =>
      bif (decide ((y2.length : Int) > (0 : Int))) then (
        some (IntKind.i64.wrap (count0 + (1 : Int))))
      else (
        some count0)) : Option Int)).bind fun e => match e with
    | count1 =>
      (some (.inl (count1, (IntKind.i64.wrap (v + (1 : Int)))))))
  else (
    some (.inr count0))

def M.impl_HeldDays (list : List Hold) (r_ : Record) : Option (Int × Bool) :=
  (M.impl_areHeld list r_ (0 : Int)).bind fun y0 =>
  bif (!y0) then (
    some ((0 : Int), false))
  else (
    (iterO (M.impl_HeldDays_l0 list r_) ((0 : Int), (0 : Int))).bind fun e => match e with
    | count =>
      (some (count, true)))

def M.spec_l9Free_l1 (list : List Hold) (r_ : Record) : (Int × Int) → Option ((Int × Int) ⊕ ((Int) ⊕ (Int))) := fun st_ => match st_ with
| (day3, i) =>
  bif (decide (i < (list.length : Int))) then (
    (((
      asrt ((0 : Int) ≤ i ∧ i < (list.length : Int)) <|
      (M.spec_l9Covers (list.getD (Int.toNat i) default) r_ day3).bind fun y2 =>
      bif y2 then (
        asrt ((0 : Int) ≤ i ∧ i < (list.length : Int)) <|
        bif (((list.getD (Int.toNat i) default).Until) == (-1 : Int)) then (
          some (.inr (20001 : Int)))
        else (
          some (.inl ((list.getD (Int.toNat i) default).Until))))
      else (
        some (.inl day3))) : Option ((Int) ⊕ (Int)))).bind fun e => match e with
    | .inl day4 =>
      (some (.inl (day4, (IntKind.i64.wrap (i + (1 : Int))))))
    | .inr r => some (.inr (.inr r)))
  else (
    some (.inr (.inl day3)))

def M.spec_l9Free_l0 (list : List Hold) (r_ : Record) : (Int × Int) → Option ((Int × Int) ⊕ ((Int) ⊕ (Int))) := fun st_ => match st_ with
| (day1, n_) =>
  bif (decide (n_ ≤ (list.length : Int))) then (
    (iterO (M.spec_l9Free_l1 list r_) (day1, (0 : Int))).bind fun e => match e with
    | .inl day2 =>
      (some (.inl (day2, (IntKind.i64.wrap (n_ + (1 : Int))))))
    | .inr r => some (.inr (.inr r)))
  else (
    some (.inr (.inl day1)))

def M.spec_l9Free (list : List Hold) (r_ : Record) (day : Int) : Option Int :=
  (iterO (M.spec_l9Free_l0 list r_) (day, (0 : Int))).bind fun e => match e with
  | .inl day0 =>
    (some day0)
  | .inr r => some r

def M.spec_l1Least (a : Int) (b_ : Int) : Option Int :=
  bif (decide (a < b_)) then (
    some a)
  else (
    some b_)

def M.spec_HeldDays_l1 (list : List Hold) (r_ : Record) (y2 : Int) : (Int × Int) → Option ((Int × Int) ⊕ (Int)) := fun st_ => match st_ with
| (next0, i) =>
  bif (decide (i < (list.length : Int))) then (
    (((
      asrt ((0 : Int) ≤ i ∧ i < (list.length : Int)) <|
      asrt ((decide (((list.getD (Int.toNat i) default).From) > y2)) = true → ((0 : Int) ≤ i ∧ i < (list.length : Int))) <|
      asrt ((decide (((list.getD (Int.toNat i) default).From) > y2)) = true → ((0 : Int) ≤ i ∧ i < (list.length : Int))) <|
      ((bif (decide (((list.getD (Int.toNat i) default).From) > y2)) then M.spec_l9Covers (list.getD (Int.toNat i) default) r_ ((list.getD (Int.toNat i) default).From) else some default)).bind fun y4 =>
      bif ((decide (((list.getD (Int.toNat i) default).From) > y2)) && y4) then (
        asrt ((0 : Int) ≤ i ∧ i < (list.length : Int)) <|
        (M.spec_l1Least next0 ((list.getD (Int.toNat i) default).From)).bind fun y5 =>
        some y5)
      else (
        some next0)) : Option Int)).bind fun e => match e with
    | next1 =>
      (some (.inl (next1, (IntKind.i64.wrap (i + (1 : Int)))))))
  else (
    some (.inr next0))

def M.spec_HeldDays_l0 (list : List Hold) (r_ : Record) : (Int × Int) → Option ((Int × Int) ⊕ (Int)) := fun st_ => match st_ with
| (n_0, day) =>
  bif (decide (day ≤ (20000 : Int))) then (
    (M.spec_l9Free list r_ day).bind fun y2 =>
    (iterO (M.spec_HeldDays_l1 list r_ y2) ((20001 : Int), (0 : Int))).bind fun e => match e with
    | next =>
      (some (.inl ((IntKind.i64.wrap ((IntKind.i64.wrap (n_0 + y2)) - day)), next))))
  else (
    some (.inr n_0))

def M.spec_HeldDays (list : List Hold) (r_ : Record) : Option (Int × Bool) :=
  (M.spec_l9Asked list r_ (0 : Int)).bind fun y0 =>
  bif (!y0) then (
    some ((0 : Int), false))
  else (
    (iterO (M.spec_HeldDays_l0 list r_) ((0 : Int), (0 : Int))).bind fun e => match e with
    | n_ =>
      (some (n_, true)))

def M.spec_l1Cur_held_l0 : (List Record × Int × Cur) → Option ((List Record × Int × Cur) ⊕ (List Record × Cur)) := fun st_ => match st_ with
| (list0, n_, c_0) =>
  bif (decide (n_ < (8 : Int))) then (
    (((
      (M.spec_l1Cur_one c_0 (2 : Int)).bind fun y1 =>
      bif y1.1 then (
        (M.spec_l1Cur_record y1.2 (IntKind.i64.wrap ((11 : Int) * n_))).bind fun y2 =>
        asrt ((list0.length : Int) + (([y2.1] : List Record).length : Int) ≤ 2147483648) <|
        some ((list0 ++ ([y2.1] : List Record)), y2.2))
      else (
        some (list0, y1.2))) : Option (List Record × Cur))).bind fun e => match e with
    | (list1, c_1) =>
      (some (.inl (list1, (IntKind.i64.wrap (n_ + (1 : Int))), c_1))))
  else (
    some (.inr (list0, c_0)))

def M.spec_l1Cur_held_l1 : (List Record × Cur) → Option ((List Record × Cur) ⊕ (List Record × Cur)) := fun st_ => match st_ with
| (list4, c_4) =>
  (M.spec_l1Cur_pick c_4 (2 : Int)).bind fun y7 =>
  bif (decide ((list4.length : Int) < (IntKind.i64.wrap ((10 : Int) + y7.1)))) then (
    asrt ((list4.length : Int) + (([(⟨(IntKind.i64.wrap ((200 : Int) + (list4.length : Int))), (1 : Int), (0 : Int), ([] : List Event)⟩ : Record)] : List Record).length : Int) ≤ 2147483648) <|
    some (.inl ((list4 ++ ([(⟨(IntKind.i64.wrap ((200 : Int) + (list4.length : Int))), (1 : Int), (0 : Int), ([] : List Event)⟩ : Record)] : List Record)), y7.2)))
  else (
    some (.inr (list4, y7.2)))

def M.spec_l1Cur_held (c : Cur) : Option (List Record × Cur) :=
  (iterO (M.spec_l1Cur_held_l0) (([] : List Record), (1 : Int), c)).bind fun e => match e with
  | (list, c_) =>
    ((M.spec_l1Cur_pick c_ (32 : Int)).bind fun y3 =>
    (((
      bif (y3.1 == (0 : Int)) then (
        (M.spec_l1Cur_among y3.2 ([(0 : Int), (11 : Int), (999 : Int), (1000 : Int)] : List Int)).bind fun y4 =>
        (M.spec_l1Cur_record y4.2 y4.1).bind fun y5 =>
        asrt ((list.length : Int) + (([y5.1] : List Record).length : Int) ≤ 2147483648) <|
        some ((list ++ ([y5.1] : List Record)), y5.2))
      else (
        bif (y3.1 == (1 : Int)) then (
          (iterO (M.spec_l1Cur_held_l1) (list, y3.2)).bind fun e => match e with
          | (list3, c_3) =>
            (some (list3, c_3)))
        else (
          some (list, y3.2)))) : Option (List Record × Cur))).bind fun e => match e with
    | (list2, c_2) =>
      (some (list2, c_2)))

def M.spec_l1Cur_day (c : Cur) : Option (Int × Cur) :=
  (M.spec_l1Cur_among c ([(0 : Int), (10 : Int), (100 : Int), (150 : Int), (400 : Int), (1000 : Int), (3650 : Int), (19999 : Int), (20000 : Int), (20001 : Int), (-1 : Int), (365 : Int)] : List Int)).bind fun y0 =>
  some (y0.1, y0.2)

def M.spec_l1Cur_holdDay (c : Cur) (list : List Hold) : Option (Int × Cur) :=
  ((bif ((list.length : Int) == (0 : Int)) then some default else M.spec_l1Cur_one c (3 : Int))).bind fun y0 =>
  bif (((list.length : Int) == (0 : Int)) || y0.1) then (
    (M.spec_l1Cur_day (bif ((list.length : Int) == (0 : Int)) then c else y0.2)).bind fun y1 =>
    some (y1.1, y1.2))
  else (
    (M.spec_l1Cur_pick (bif ((list.length : Int) == (0 : Int)) then c else y0.2) (list.length : Int)).bind fun y2 =>
    asrt ((0 : Int) ≤ y2.1 ∧ y2.1 < (list.length : Int)) <|
    ((bif (decide (((list.getD (Int.toNat y2.1) default).Until) > (0 : Int))) then M.spec_l1Cur_one y2.2 (2 : Int) else some default)).bind fun y3 =>
    bif ((decide (((list.getD (Int.toNat y2.1) default).Until) > (0 : Int))) && y3.1) then (
      (M.spec_l1Cur_pick (bif (decide (((list.getD (Int.toNat y2.1) default).Until) > (0 : Int))) then y3.2 else y2.2) (2 : Int)).bind fun y4 =>
      some ((IntKind.i64.wrap (((list.getD (Int.toNat y2.1) default).Until) - y4.1)), y4.2))
    else (
      (M.spec_l1Cur_pick (bif (decide (((list.getD (Int.toNat y2.1) default).Until) > (0 : Int))) then y3.2 else y2.2) (2 : Int)).bind fun y5 =>
      some ((IntKind.i64.wrap (((list.getD (Int.toNat y2.1) default).From) - y5.1)), y5.2)))

def M.spec_DrawHeldOn (code : List Int) : Option (List Hold × List Record × Int) :=
  (M.spec_l1Cur_holds (⟨code, (0 : Int), (0 : Int)⟩ : Cur)).bind fun y0 =>
  (M.spec_l1Cur_held y0.2).bind fun y1 =>
  (M.spec_l1Cur_holdDay y1.2 y0.1).bind fun y2 =>
  some (y0.1, y1.1, y2.1)

def M.impl_AreRecords_l0 (list : List Record) : (Int) → Option ((Int) ⊕ ((Unit) ⊕ (Bool))) := fun st_ => match st_ with
| v =>
  bif (decide (v < (list.length : Int))) then (
    asrt ((0 : Int) ≤ v ∧ v < (list.length : Int)) <|
    (M.impl_IsRecord (list.getD (Int.toNat v) default)).bind fun y1 =>
    asrt ((!y1) = false → (decide (v > (0 : Int))) = true → ((0 : Int) ≤ (IntKind.i64.wrap (v - (1 : Int))) ∧ (IntKind.i64.wrap (v - (1 : Int))) < (list.length : Int))) <|
    bif ((!y1) || ((decide (v > (0 : Int))) && (decide (((list.getD (Int.toNat (IntKind.i64.wrap (v - (1 : Int)))) default).Id) ≥ ((list.getD (Int.toNat v) default).Id))))) then (
      some (.inr (.inr false)))
    else (
      some (.inl (IntKind.i64.wrap (v + (1 : Int))))))
  else (
    some (.inr (.inl ())))

def M.impl_AreRecords (list : List Record) : Option Bool :=
  (iterO (M.impl_AreRecords_l0 list) (0 : Int)).bind fun e => match e with
  | .inl () =>
    (some (decide ((list.length : Int) ≤ (10 : Int))))
  | .inr r => some r

def M.impl_HeldOn_l0 (list : List Hold) (records : List Record) (day : Int) : (List Int × Int) → Option ((List Int × Int) ⊕ (List Int)) := fun st_ => match st_ with
| (ids0, v) =>
  bif (decide (v < (records.length : Int))) then (
    (((
      asrt ((0 : Int) ≤ v ∧ v < (records.length : Int)) <|
      (M.impl_holdsOn list (records.getD (Int.toNat v) default) day).bind fun y4 =>
      bif (decide ((y4.length : Int) > (0 : Int))) then (
        asrt ((ids0.length : Int) + (([(records.getD (Int.toNat v) default).Id] : List Int).length : Int) ≤ 2147483648) <|
        some (ids0 ++ ([(records.getD (Int.toNat v) default).Id] : List Int)))
      else (
        some ids0)) : Option (List Int))).bind fun e => match e with
    | ids1 =>
      (some (.inl (ids1, (IntKind.i64.wrap (v + (1 : Int)))))))
  else (
    some (.inr ids0))

def M.impl_HeldOn (list : List Hold) (records : List Record) (day : Int) : Option (List Int × Bool) :=
  (M.impl_AreHolds list).bind fun y0 =>
  ((bif (!y0) then some default else M.impl_AreRecords records)).bind fun y1 =>
  ((bif ((!y0) || (!y1)) then some default else M.impl_isDay day)).bind fun y2 =>
  bif (((!y0) || (!y1)) || (!y2)) then (
    some (([] : List Int), false))
  else (
    (iterO (M.impl_HeldOn_l0 list records day) (([] : List Int), (0 : Int))).bind fun e => match e with
    | ids =>
      (some (ids, true)))

def M.spec_l2Records_l0 (list : List Record) : (Int) → Option ((Int) ⊕ ((Unit) ⊕ (Bool))) := fun st_ => match st_ with
| i =>
  bif (decide (i < (list.length : Int))) then (
    asrt ((0 : Int) ≤ i ∧ i < (list.length : Int)) <|
    (M.spec_l2Record (list.getD (Int.toNat i) default)).bind fun y1 =>
    asrt ((!y1) = false → (decide (i > (0 : Int))) = true → ((0 : Int) ≤ (IntKind.i64.wrap (i - (1 : Int))) ∧ (IntKind.i64.wrap (i - (1 : Int))) < (list.length : Int))) <|
    asrt ((!y1) = false → (decide (i > (0 : Int))) = true → ((0 : Int) ≤ i ∧ i < (list.length : Int))) <|
    bif ((!y1) || ((decide (i > (0 : Int))) && (decide (((list.getD (Int.toNat (IntKind.i64.wrap (i - (1 : Int)))) default).Id) ≥ ((list.getD (Int.toNat i) default).Id))))) then (
      some (.inr (.inr false)))
    else (
      some (.inl (IntKind.i64.wrap (i + (1 : Int))))))
  else (
    some (.inr (.inl ())))

def M.spec_l2Records (list : List Record) : Option Bool :=
  (iterO (M.spec_l2Records_l0 list) (0 : Int)).bind fun e => match e with
  | .inl () =>
    (some (decide ((list.length : Int) ≤ (10 : Int))))
  | .inr r => some r

def M.spec_HeldOn_l0 (list : List Hold) (records : List Record) (day : Int) : (List Int × Int) → Option ((List Int × Int) ⊕ (List Int)) := fun st_ => match st_ with
| (out_0, i) =>
  bif (decide (i < (records.length : Int))) then (
    (((
      asrt ((0 : Int) ≤ i ∧ i < (records.length : Int)) <|
      (M.spec_l9On list (records.getD (Int.toNat i) default) day).bind fun y4 =>
      bif (decide ((y4.length : Int) > (0 : Int))) then (
        asrt ((0 : Int) ≤ i ∧ i < (records.length : Int)) <|
        asrt ((out_0.length : Int) + (([(records.getD (Int.toNat i) default).Id] : List Int).length : Int) ≤ 2147483648) <|
        some (out_0 ++ ([(records.getD (Int.toNat i) default).Id] : List Int)))
      else (
        some out_0)) : Option (List Int))).bind fun e => match e with
    | out_1 =>
      (some (.inl (out_1, (IntKind.i64.wrap (i + (1 : Int)))))))
  else (
    some (.inr out_0))

def M.spec_HeldOn (list : List Hold) (records : List Record) (day : Int) : Option (List Int × Bool) :=
  (M.spec_l9Good list).bind fun y0 =>
  ((bif (!y0) then some default else M.spec_l2Records records)).bind fun y1 =>
  ((bif ((!y0) || (!y1)) then some default else M.spec_l2Day day)).bind fun y2 =>
  bif (((!y0) || (!y1)) || (!y2)) then (
    some (([] : List Int), false))
  else (
    (iterO (M.spec_HeldOn_l0 list records day) (([] : List Int), (0 : Int))).bind fun e => match e with
    | out_ =>
      (some (out_, true)))

def M.slices_Equal_int_int_l0 (s1 : List Int) (s2 : List Int) : (Int) → Option ((Int) ⊕ ((Unit) ⊕ (Bool))) := fun st_ => match st_ with
| v =>
  bif (decide (v < (s1.length : Int))) then (
    asrt ((0 : Int) ≤ v ∧ v < (s1.length : Int)) <|
    asrt ((0 : Int) ≤ v ∧ v < (s2.length : Int)) <|
    bif ((s1.getD (Int.toNat v) default) != (s2.getD (Int.toNat v) default)) then (
      some (.inr (.inr false)))
    else (
      some (.inl (IntKind.i64.wrap (v + (1 : Int))))))
  else (
    some (.inr (.inl ())))

def M.slices_Equal_int_int (s1 : List Int) (s2 : List Int) : Option Bool :=
  bif ((s1.length : Int) != (s2.length : Int)) then (
    some false)
  else (
    (iterO (M.slices_Equal_int_int_l0 s1 s2) (0 : Int)).bind fun e => match e with
    | .inl () =>
      (some true)
    | .inr r => some r)

def M.impl_NeededHolds_1 (r_ : Record) (list : List Hold) (day : Int) (h_c : Hold) : Option Bool :=
  (M.impl_holdsOn list r_ day).bind fun y0 =>
  (M.slices_Equal_int_int y0 ([h_c.Id] : List Int)).bind fun y1 =>
  some y1

def M.slices_IndexFunc_impl_Record_impl_Record_l0 (s : List Record) (fm : Record → Option Bool) : (Int) → Option ((Int) ⊕ ((Unit) ⊕ (Int))) := fun st_ => match st_ with
| v =>
  bif (decide (v < (s.length : Int))) then (
    asrt ((0 : Int) ≤ v ∧ v < (s.length : Int)) <|
    (fm (s.getD (Int.toNat v) default)).bind fun y1 =>
    bif y1 then (
      some (.inr (.inr v)))
    else (
      some (.inl (IntKind.i64.wrap (v + (1 : Int))))))
  else (
    some (.inr (.inl ())))

def M.slices_IndexFunc_impl_Record_impl_Record (s : List Record) (fm : Record → Option Bool) : Option Int :=
  (iterO (M.slices_IndexFunc_impl_Record_impl_Record_l0 s fm) (0 : Int)).bind fun e => match e with
  | .inl () =>
    (some (-1 : Int))
  | .inr r => some r

def M.slices_ContainsFunc_impl_Record_impl_Record (s : List Record) (fm : Record → Option Bool) : Option Bool :=
  (M.slices_IndexFunc_impl_Record_impl_Record s fm).bind fun y0 =>
  some (decide (y0 ≥ (0 : Int)))

def M.impl_NeededHolds_l0 (list : List Hold) (records : List Record) (day : Int) : (List Int × Int) → Option ((List Int × Int) ⊕ (List Int)) := fun st_ => match st_ with
| (ids0, v) =>
  bif (decide (v < (list.length : Int))) then (
    (((
      asrt ((0 : Int) ≤ v ∧ v < (list.length : Int)) <|
      (M.slices_ContainsFunc_impl_Record_impl_Record records (fun x0 => M.impl_NeededHolds_1 x0 list day (list.getD (Int.toNat v) default))).bind fun y4 =>
      bif y4 then (
        asrt ((ids0.length : Int) + (([(list.getD (Int.toNat v) default).Id] : List Int).length : Int) ≤ 2147483648) <|
        some (ids0 ++ ([(list.getD (Int.toNat v) default).Id] : List Int)))
      else (
        some ids0)) : Option (List Int))).bind fun e => match e with
    | ids1 =>
      (some (.inl (ids1, (IntKind.i64.wrap (v + (1 : Int)))))))
  else (
    some (.inr ids0))

def M.impl_NeededHolds (list : List Hold) (records : List Record) (day : Int) : Option (List Int × Bool) :=
  (M.impl_AreHolds list).bind fun y0 =>
  ((bif (!y0) then some default else M.impl_AreRecords records)).bind fun y1 =>
  ((bif ((!y0) || (!y1)) then some default else M.impl_isDay day)).bind fun y2 =>
  bif (((!y0) || (!y1)) || (!y2)) then (
    some (([] : List Int), false))
  else (
    (iterO (M.impl_NeededHolds_l0 list records day) (([] : List Int), (0 : Int))).bind fun e => match e with
    | ids =>
      (some (ids, true)))

def M.spec_l1Put_l0 (l : List Int) (n : Int) : (Int) → Option ((Int) ⊕ (Int)) := fun st_ => match st_ with
| k0 =>
  asrt ((decide (k0 < (l.length : Int))) = true → ((0 : Int) ≤ k0 ∧ k0 < (l.length : Int))) <|
  bif ((decide (k0 < (l.length : Int))) && (decide ((l.getD (Int.toNat k0) default) < n))) then (
    some (.inl (IntKind.i64.wrap (k0 + (1 : Int)))))
  else (
    some (.inr k0))

def M.spec_l1Put (l : List Int) (n : Int) : Option (List Int) :=
  (iterO (M.spec_l1Put_l0 l n) (0 : Int)).bind fun e => match e with
  | k =>
    (asrt ((decide (k < (l.length : Int))) = true → ((0 : Int) ≤ k ∧ k < (l.length : Int))) <|
    bif ((decide (k < (l.length : Int))) && ((l.getD (Int.toNat k) default) == n)) then (
      some l)
    else (
      asrt ((0 : Int) ≤ (0 : Int) ∧ (0 : Int) ≤ k ∧ k ≤ (l.length : Int)) <|
      asrt ((([] : List Int).length : Int) + ((slc l (0 : Int) k).length : Int) ≤ 2147483648) <|
      asrt (((([] : List Int) ++ (slc l (0 : Int) k)).length : Int) + (([n] : List Int).length : Int) ≤ 2147483648) <|
      asrt ((0 : Int) ≤ k ∧ k ≤ (l.length : Int) ∧ (l.length : Int) ≤ (l.length : Int)) <|
      asrt ((((([] : List Int) ++ (slc l (0 : Int) k)) ++ ([n] : List Int)).length : Int) + ((slc l k (l.length : Int)).length : Int) ≤ 2147483648) <|
      (((
        some (((([] : List Int) ++ (slc l (0 : Int) k)) ++ ([n] : List Int)) ++ (slc l k (l.length : Int)))) : Option (List Int))).bind fun e => match e with
      | v =>
        (some v)))

def M.spec_NeededHolds_l0 (list : List Hold) (records : List Record) (day : Int) : (List Int × Int) → Option ((List Int × Int) ⊕ (List Int)) := fun st_ => match st_ with
| (out_0, i) =>
  bif (decide (i < (records.length : Int))) then (
    (((
      asrt ((0 : Int) ≤ i ∧ i < (records.length : Int)) <|
      (M.spec_l9On list (records.getD (Int.toNat i) default) day).bind fun y4 =>
      asrt (((y4.length : Int) == (1 : Int)) = true → ((0 : Int) ≤ (0 : Int) ∧ (0 : Int) < (y4.length : Int))) <|
      ((bif ((y4.length : Int) == (1 : Int)) then M.spec_l1Has out_0 (y4.getD (Int.toNat (0 : Int)) default) else some default)).bind fun y5 =>
      bif (((y4.length : Int) == (1 : Int)) && (!y5)) then (
        asrt ((0 : Int) ≤ (0 : Int) ∧ (0 : Int) < (y4.length : Int)) <|
        (M.spec_l1Put out_0 (y4.getD (Int.toNat (0 : Int)) default)).bind fun y6 =>
        some y6)
      else (
        some out_0)) : Option (List Int))).bind fun e => match e with
    | out_1 =>
      (some (.inl (out_1, (IntKind.i64.wrap (i + (1 : Int)))))))
  else (
    some (.inr out_0))

def M.spec_NeededHolds (list : List Hold) (records : List Record) (day : Int) : Option (List Int × Bool) :=
  (M.spec_l9Good list).bind fun y0 =>
  ((bif (!y0) then some default else M.spec_l2Records records)).bind fun y1 =>
  ((bif ((!y0) || (!y1)) then some default else M.spec_l2Day day)).bind fun y2 =>
  bif (((!y0) || (!y1)) || (!y2)) then (
    some (([] : List Int), false))
  else (
    (iterO (M.spec_NeededHolds_l0 list records day) (([] : List Int), (0 : Int))).bind fun e => match e with
    | out_ =>
      (some (out_, true)))

def M.laws_FnReleases (code : List Int) : Option Bool :=
  (M.laws_vBig code).bind fun y0 =>
  bif y0 then (
    some true)
  else (
    (M.spec_DrawReleaseHold code).bind fun y1 =>
    (M.impl_ReleaseHold y1.1 y1.2.1 y1.2.2).bind fun y2 =>
    (M.spec_ReleaseHold y1.1 y1.2.1 y1.2.2).bind fun y3 =>
    ((bif (!(y2.2 == y3.2)) then some default else M.laws_vHolds y2.1 y3.1)).bind fun y4 =>
    bif ((!(y2.2 == y3.2)) || (!y4)) then (
      some false)
    else (
      (M.spec_DrawIsRecord code).bind fun y5 =>
      (((
        ((bif y2.2 then M.impl_IsRecord y5 else some default)).bind fun y6 =>
        bif (y2.2 && y6) then (
          (M.impl_HoldsOn y2.1 y5 y1.2.2).bind fun y7 =>
          (M.impl_HoldsOn y1.1 y5 y1.2.2).bind fun y8 =>
          ((bif ((!y7.2) || (!y8.2)) then some default else M.laws_vHas y7.1 y1.2.1)).bind fun y9 =>
          ((bif (((!y7.2) || (!y8.2)) || y9) then some default else M.laws_vWithin y7.1 y8.1)).bind fun y10 =>
          bif ((((!y7.2) || (!y8.2)) || y9) || (!y10)) then (
            some (.inr false))
          else (
            some (.inl ())))
        else (
          some (.inl ()))) : Option ((Unit) ⊕ (Bool)))).bind fun e => match e with
      | .inl () =>
        ((M.spec_DrawMostHolds code).bind fun y11 =>
        (M.impl_MostHolds y11.1 y11.2).bind fun y12 =>
        (M.spec_MostHolds y11.1 y11.2).bind fun y13 =>
        bif (((y12.1 != y13.1) || (y12.2.1 != y13.2.1)) || (!(y12.2.2 == y13.2.2))) then (
          some false)
        else (
          (M.impl_HeldDays y11.1 y11.2).bind fun y14 =>
          (M.spec_HeldDays y11.1 y11.2).bind fun y15 =>
          bif (((y14.1 != y15.1) || (!(y14.2 == y15.2))) || (y14.2 && (!((decide (y14.1 > (0 : Int))) == y12.2.2)))) then (
            some false)
          else (
            (((
              bif y12.2.2 then (
                (M.impl_HoldsOn y11.1 y11.2 y12.2.1).bind fun y16 =>
                bif ((!y16.2) || ((y16.1.length : Int) != y12.1)) then (
                  some (.inr false))
                else (
                  some (.inl ())))
              else (
                some (.inl ()))) : Option ((Unit) ⊕ (Bool)))).bind fun e => match e with
            | .inl () =>
              ((M.spec_DrawHeldOn code).bind fun y17 =>
              (M.impl_HeldOn y17.1 y17.2.1 y17.2.2).bind fun y18 =>
              (M.spec_HeldOn y17.1 y17.2.1 y17.2.2).bind fun y19 =>
              ((bif (!(y18.2 == y19.2)) then some default else M.laws_vInts y18.1 y19.1)).bind fun y20 =>
              bif ((!(y18.2 == y19.2)) || (!y20)) then (
                some false)
              else (
                (M.impl_NeededHolds y17.1 y17.2.1 y17.2.2).bind fun y21 =>
                (M.spec_NeededHolds y17.1 y17.2.1 y17.2.2).bind fun y22 =>
                ((bif ((!(y21.2 == y22.2)) || (!(y21.2 == y18.2))) then some default else M.laws_vInts y21.1 y22.1)).bind fun y23 =>
                bif ((((!(y21.2 == y22.2)) || (!(y21.2 == y18.2))) || (!y23)) || (decide ((y21.1.length : Int) > (y18.1.length : Int)))) then (
                  some false)
                else (
                  some true)))
            | .inr r => some r)))
      | .inr r => some r))
end Go.Proofs.Ytjbgllhimnopaaa
