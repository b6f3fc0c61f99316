/- models of the functions -/
import Derived.Test.YtfebeomnlkfgoaaDoorWn
set_option linter.unusedSimpArgs false
set_option linter.unusedVariables false
set_option maxRecDepth 100000
namespace Go.Proofs.YtfebeomnlkfgoaaDoor
open Go.VS

structure Cur where
  Code : List Int
  At : Int
  Seed : Int
  deriving Inhabited, DecidableEq

abbrev encCur (ρ : Nat) (c : Cur) : PV := .agg [.vl ρ 1 (List.map encU8 c.Code), .int .i64 c.At, .int .u64 c.Seed]

structure Tariff where
  Search : Int
  Page : Int
  Free : Int
  Limit : Int
  deriving Inhabited, DecidableEq

abbrev encTariff (c : Tariff) : PV := .agg [.int .i64 c.Search, .int .i64 c.Page, .int .i64 c.Free, .int .i64 c.Limit]

structure Bill where
  Id : Int
  Hours : Int
  Pages : Int
  Poor : Bool
  Public : Bool
  Paid : Int
  deriving Inhabited, DecidableEq

abbrev encBill (c : Bill) : PV := .agg [.int .i64 c.Id, .int .i64 c.Hours, .int .i64 c.Pages, .bool c.Poor, .bool c.Public, .int .i64 c.Paid]

def M.laws_rBig (code : List Int) : Option Bool :=
  some (decide ((code.length : Int) > (65536 : Int)))

def M.spec_l1Cur_next (c : Cur) : Option (Int × Cur) :=
  (((
    bif (decide (c.At < (c.Code.length : Int))) then (
      asrt ((0 : Int) ≤ c.At ∧ c.At < (c.Code.length : Int)) <|
      some (IntKind.i64.wrap (c.Code.getD (Int.toNat c.At) default)))
    else (
      some (0 : Int))) : Option Int)).bind fun e => match e with
  | b_ =>
    (bif (decide ((IntKind.i64.wrap (c.At + (1 : Int))) ≤ (c.Code.length : Int))) then (
      some (b_, (⟨c.Code, (IntKind.i64.wrap (c.At + (1 : Int))), (IntKind.u64.wrap ((IntKind.u64.wrap ((IntKind.u64.wrap (c.Seed * (6364136223846793005 : Int))) + (IntKind.u64.wrap b_))) + (103535 : Int)))⟩ : Cur)))
    else (
      some ((IntKind.i64.wrap (IntKind.u64.wrap (BitVec.ofInt IntKind.u64.bits (Int.fdiv (IntKind.u64.wrap ((IntKind.u64.wrap ((IntKind.u64.wrap (c.Seed * (6364136223846793005 : Int))) + (IntKind.u64.wrap b_))) + (103535 : Int))) (2 ^ (min (Int.toNat (40 : Int)) IntKind.u64.bits))) &&& BitVec.ofInt IntKind.u64.bits (255 : Int)).toNat)), (⟨c.Code, (IntKind.i64.wrap (c.At + (1 : Int))), (IntKind.u64.wrap ((IntKind.u64.wrap ((IntKind.u64.wrap (c.Seed * (6364136223846793005 : Int))) + (IntKind.u64.wrap b_))) + (103535 : Int)))⟩ : Cur))))

def M.spec_l1Cur_pick (c : Cur) (n : Int) : Option (Int × Cur) :=
  bif (decide (n ≤ (1 : Int))) then (
    some ((0 : Int), c))
  else (
    (M.spec_l1Cur_next c).bind fun y0 =>
    (((
      bif (decide (n > (200 : Int))) then (
        (M.spec_l1Cur_next y0.2).bind fun y1 =>
        some ((IntKind.i64.wrap ((IntKind.i64.wrap (y0.1 * (256 : Int))) + y1.1)), y1.2))
      else (
        some (y0.1, y0.2))) : Option (Int × Cur))).bind fun e => match e with
    | (x, c_) =>
      (asrt (n ≠ 0) <|
      some ((Int.tmod x n), c_)))

def M.spec_l1Cur_among (c : Cur) (list : List Int) : Option (Int × Cur) :=
  (M.spec_l1Cur_pick c (list.length : Int)).bind fun y0 =>
  asrt ((0 : Int) ≤ y0.1 ∧ y0.1 < (list.length : Int)) <|
  some ((list.getD (Int.toNat y0.1) default), y0.2)

def M.spec_l1Cur_tariff (c : Cur) : Option (Tariff × Cur) :=
  (M.spec_l1Cur_among c ([(0 : Int), (1500 : Int), (10000 : Int)] : List Int)).bind fun y0 =>
  (M.spec_l1Cur_among y0.2 ([(0 : Int), (7 : Int), (25 : Int), (1000 : Int)] : List Int)).bind fun y1 =>
  (M.spec_l1Cur_among y1.2 ([(0 : Int), (20 : Int), (500 : Int)] : List Int)).bind fun y2 =>
  (M.spec_l1Cur_among y2.2 ([(0 : Int), (5001 : Int), (60000 : Int), (1000000 : Int)] : List Int)).bind fun y3 =>
  (M.spec_l1Cur_pick y3.2 (60 : Int)).bind fun y4 =>
  (((
    bif (y4.1 == (0 : Int)) then (
      (M.spec_l1Cur_among y4.2 ([(-1 : Int), (10001 : Int)] : List Int)).bind fun y5 =>
      some (y5.2, (⟨y5.1, y1.1, y2.1, y3.1⟩ : Tariff)))
    else (
      bif (y4.1 == (1 : Int)) then (
        (M.spec_l1Cur_among y4.2 ([(-1 : Int), (1001 : Int)] : List Int)).bind fun y6 =>
        some (y6.2, (⟨y0.1, y6.1, y2.1, y3.1⟩ : Tariff)))
      else (
        bif (y4.1 == (2 : Int)) then (
          (M.spec_l1Cur_among y4.2 ([(-1 : Int), (501 : Int)] : List Int)).bind fun y7 =>
          some (y7.2, (⟨y0.1, y1.1, y7.1, y3.1⟩ : Tariff)))
        else (
          bif (y4.1 == (3 : Int)) then (
            (M.spec_l1Cur_among y4.2 ([(-1 : Int), (1000001 : Int)] : List Int)).bind fun y8 =>
            some (y8.2, (⟨y0.1, y1.1, y2.1, y8.1⟩ : Tariff)))
          else (
            some (y4.2, (⟨y0.1, y1.1, y2.1, y3.1⟩ : Tariff))))))) : Option (Cur × Tariff))).bind fun e => match e with
  | (c_, t_) =>
    (some (t_, c_))

def M.spec_l1Cur_one (c : Cur) (n : Int) : Option (Bool × Cur) :=
  (M.spec_l1Cur_pick c n).bind fun y0 =>
  some ((y0.1 == (0 : Int)), y0.2)

def M.spec_l1Cur_bill (c : Cur) (id_ : Int) : Option (Bill × Cur) :=
  (M.spec_l1Cur_among c ([(0 : Int), (1 : Int), (3 : Int), (200 : Int)] : List Int)).bind fun y0 =>
  (M.spec_l1Cur_among y0.2 ([(0 : Int), (20 : Int), (21 : Int), (33 : Int), (5000 : Int)] : List Int)).bind fun y1 =>
  (M.spec_l1Cur_one y1.2 (4 : Int)).bind fun y2 =>
  (M.spec_l1Cur_one y2.2 (4 : Int)).bind fun y3 =>
  (M.spec_l1Cur_among y3.2 ([(0 : Int), (0 : Int), (13 : Int), (1500 : Int), (5001 : Int), (1000000 : Int)] : List Int)).bind fun y4 =>
  (M.spec_l1Cur_pick y4.2 (70 : Int)).bind fun y5 =>
  (((
    bif (y5.1 == (0 : Int)) then (
      (M.spec_l1Cur_among y5.2 ([(0 : Int), (999 : Int), (1000 : Int)] : List Int)).bind fun y6 =>
      some (y6.2, (⟨y6.1, y0.1, y1.1, y2.1, y3.1, y4.1⟩ : Bill)))
    else (
      bif (y5.1 == (1 : Int)) then (
        (M.spec_l1Cur_among y5.2 ([(-1 : Int), (201 : Int)] : List Int)).bind fun y7 =>
        some (y7.2, (⟨id_, y7.1, y1.1, y2.1, y3.1, y4.1⟩ : Bill)))
      else (
        bif (y5.1 == (2 : Int)) then (
          (M.spec_l1Cur_among y5.2 ([(-1 : Int), (5001 : Int)] : List Int)).bind fun y8 =>
          some (y8.2, (⟨id_, y0.1, y8.1, y2.1, y3.1, y4.1⟩ : Bill)))
        else (
          bif (y5.1 == (3 : Int)) then (
            (M.spec_l1Cur_among y5.2 ([(-1 : Int), (1000001 : Int)] : List Int)).bind fun y9 =>
            some (y9.2, (⟨id_, y0.1, y1.1, y2.1, y3.1, y9.1⟩ : Bill)))
          else (
            some (y5.2, (⟨id_, y0.1, y1.1, y2.1, y3.1, y4.1⟩ : Bill))))))) : Option (Cur × Bill))).bind fun e => match e with
  | (c_, b_) =>
    (some (b_, c_))

def M.spec_DrawFeeOf (code : List Int) : Option (Tariff × Bill) :=
  (M.spec_l1Cur_tariff (⟨code, (0 : Int), (0 : Int)⟩ : Cur)).bind fun y0 =>
  (M.spec_l1Cur_bill y0.2 (5 : Int)).bind fun y1 =>
  some (y0.1, y1.1)

def M.impl_within (n : Int) (low : Int) (high : Int) : Option Bool :=
  some ((decide (low ≤ n)) && (decide (n ≤ high)))

def M.impl_isCents (cents : Int) : Option Bool :=
  (M.impl_within cents (0 : Int) (1000000 : Int)).bind fun y0 =>
  some y0

def M.impl_IsTariff (t : Tariff) : Option Bool :=
  (M.impl_within t.Search (0 : Int) (10000 : Int)).bind fun y0 =>
  ((bif y0 then M.impl_within t.Page (0 : Int) (1000 : Int) else some default)).bind fun y1 =>
  ((bif (y0 && y1) then M.impl_within t.Free (0 : Int) (500 : Int) else some default)).bind fun y2 =>
  ((bif ((y0 && y1) && y2) then M.impl_isCents t.Limit else some default)).bind fun y3 =>
  some (((y0 && y1) && y2) && y3)

def M.impl_isBill (b_ : Bill) : Option Bool :=
  (M.impl_within b_.Id (1 : Int) (999 : Int)).bind fun y0 =>
  ((bif y0 then M.impl_within b_.Hours (0 : Int) (200 : Int) else some default)).bind fun y1 =>
  ((bif (y0 && y1) then M.impl_within b_.Pages (0 : Int) (5000 : Int) else some default)).bind fun y2 =>
  ((bif ((y0 && y1) && y2) then M.impl_isCents b_.Paid else some default)).bind fun y3 =>
  some (((y0 && y1) && y2) && y3)

def M.impl_Tariff_fee (t : Tariff) (b_ : Bill) : Option Int :=
  (((
    bif (!b_.Public) then (
      some (IntKind.i64.wrap ((IntKind.i64.wrap ((bif decide ((IntKind.i64.wrap (b_.Pages - t.Free)) < (0 : Int)) then (0 : Int) else (IntKind.i64.wrap (b_.Pages - t.Free))) * t.Page)) + (IntKind.i64.wrap (b_.Hours * t.Search)))))
    else (
      some (IntKind.i64.wrap ((bif decide ((IntKind.i64.wrap (b_.Pages - t.Free)) < (0 : Int)) then (0 : Int) else (IntKind.i64.wrap (b_.Pages - t.Free))) * t.Page)))) : Option Int)).bind fun e => match e with
  | sum_ =>
    (bif b_.Poor then (
      some (IntKind.i64.wrap (Int.tdiv (bif decide (t.Limit < sum_) then t.Limit else sum_) (2 : Int))))
    else (
      some (bif decide (t.Limit < sum_) then t.Limit else sum_)))

def M.impl_FeeOf (t : Tariff) (b_ : Bill) : Option (Int × Bool) :=
  (M.impl_IsTariff t).bind fun y0 =>
  ((bif (!y0) then some default else M.impl_isBill b_)).bind fun y1 =>
  bif ((!y0) || (!y1)) then (
    some ((0 : Int), false))
  else (
    (M.impl_Tariff_fee t b_).bind fun y2 =>
    some (y2, true))

def M.spec_l1In (x : Int) (a : Int) (b_ : Int) : Option Bool :=
  some ((decide (x ≥ a)) && (decide (x ≤ b_)))

def M.spec_l14Cents (n : Int) : Option Bool :=
  (M.spec_l1In n (0 : Int) (1000000 : Int)).bind fun y0 =>
  some y0

def M.spec_l14Tariff (t : Tariff) : Option Bool :=
  (M.spec_l1In t.Search (0 : Int) (10000 : Int)).bind fun y0 =>
  ((bif y0 then M.spec_l1In t.Page (0 : Int) (1000 : Int) else some default)).bind fun y1 =>
  ((bif (y0 && y1) then M.spec_l1In t.Free (0 : Int) (500 : Int) else some default)).bind fun y2 =>
  ((bif ((y0 && y1) && y2) then M.spec_l14Cents t.Limit else some default)).bind fun y3 =>
  some (((y0 && y1) && y2) && y3)

def M.spec_l14Bill (b_ : Bill) : Option Bool :=
  (M.spec_l1In b_.Id (1 : Int) (999 : Int)).bind fun y0 =>
  ((bif y0 then M.spec_l1In b_.Hours (0 : Int) (200 : Int) else some default)).bind fun y1 =>
  ((bif (y0 && y1) then M.spec_l1In b_.Pages (0 : Int) (5000 : Int) else some default)).bind fun y2 =>
  ((bif ((y0 && y1) && y2) then M.spec_l14Cents b_.Paid else some default)).bind fun y3 =>
  some (((y0 && y1) && y2) && y3)

def M.spec_l1Most (a : Int) (b_ : Int) : Option Int :=
  bif (decide (a > b_)) then (
    some a)
  else (
    some b_)

def M.spec_l1Least (a : Int) (b_ : Int) : Option Int :=
  bif (decide (a < b_)) then (
    some a)
  else (
    some b_)

def M.spec_l14Fee (t : Tariff) (b_ : Bill) : Option Int :=
  (M.spec_l1Most (0 : Int) (IntKind.i64.wrap (b_.Pages - t.Free))).bind fun y0 =>
  (((
    bif (!b_.Public) then (
      some (IntKind.i64.wrap ((IntKind.i64.wrap (t.Page * y0)) + (IntKind.i64.wrap (t.Search * b_.Hours)))))
    else (
      some (IntKind.i64.wrap (t.Page * y0)))) : Option Int)).bind fun e => match e with
  | n_ =>
    ((M.spec_l1Least n_ t.Limit).bind fun y1 =>
    bif b_.Poor then (
      some (IntKind.i64.wrap (Int.tdiv y1 (2 : Int))))
    else (
      some y1))

def M.spec_FeeOf (t : Tariff) (b_ : Bill) : Option (Int × Bool) :=
  (M.spec_l14Tariff t).bind fun y0 =>
  ((bif (!y0) then some default else M.spec_l14Bill b_)).bind fun y1 =>
  bif ((!y0) || (!y1)) then (
    some ((0 : Int), false))
  else (
    (M.spec_l14Fee t b_).bind fun y2 =>
    some (y2, true))

def M.impl_AreBills_l0 (list : List Bill) : (Int) → Option ((Int) ⊕ ((Unit) ⊕ (Bool))) := fun st_ => match st_ with
| v =>
  bif (decide (v < (list.length : Int))) then (
    asrt ((0 : Int) ≤ v ∧ v < (list.length : Int)) <|
    (M.impl_isBill (list.getD (Int.toNat v) default)).bind fun y1 =>
    asrt ((!y1) = false → (decide (v > (0 : Int))) = true → ((0 : Int) ≤ (IntKind.i64.wrap (v - (1 : Int))) ∧ (IntKind.i64.wrap (v - (1 : Int))) < (list.length : Int))) <|
    bif ((!y1) || ((decide (v > (0 : Int))) && (decide (((list.getD (Int.toNat (IntKind.i64.wrap (v - (1 : Int)))) default).Id) ≥ ((list.getD (Int.toNat v) default).Id))))) then (
      some (.inr (.inr false)))
    else (
      some (.inl (IntKind.i64.wrap (v + (1 : Int))))))
  else (
    some (.inr (.inl ())))

def M.impl_AreBills (list : List Bill) : Option Bool :=
  (iterO (M.impl_AreBills_l0 list) (0 : Int)).bind fun e => match e with
  | .inl () =>
    (some (decide ((list.length : Int) ≤ (10 : Int))))
  | .inr r => some r

def M.spec_l1Cur_cents14 (c : Cur) : Option (Int × Cur) :=
  (M.spec_l1Cur_pick c (24 : Int)).bind fun y0 =>
  asrt ((0 : Int) ≤ (0 : Int) ∧ (0 : Int) ≤ (IntKind.i64.wrap ((6 : Int) + (IntKind.i64.wrap (Int.tdiv y0.1 (11 : Int))))) ∧ (IntKind.i64.wrap ((6 : Int) + (IntKind.i64.wrap (Int.tdiv y0.1 (11 : Int))))) ≤ (([(0 : Int), (1 : Int), (325 : Int), (4501 : Int), (60000 : Int), (1000000 : Int), (-1 : Int), (1000001 : Int)] : List Int).length : Int)) <|
  (M.spec_l1Cur_among y0.2 (slc ([(0 : Int), (1 : Int), (325 : Int), (4501 : Int), (60000 : Int), (1000000 : Int), (-1 : Int), (1000001 : Int)] : List Int) (0 : Int) (IntKind.i64.wrap ((6 : Int) + (IntKind.i64.wrap (Int.tdiv y0.1 (11 : Int))))))).bind fun y1 =>
  some (y1.1, y1.2)

def M.spec_DrawPagesFor (code : List Int) : Option (Tariff × Int × Int) :=
  (M.spec_l1Cur_tariff (⟨code, (0 : Int), (0 : Int)⟩ : Cur)).bind fun y0 =>
  (M.spec_l1Cur_pick y0.2 (24 : Int)).bind fun y1 =>
  asrt ((0 : Int) ≤ (0 : Int) ∧ (0 : Int) ≤ (IntKind.i64.wrap ((4 : Int) + (IntKind.i64.wrap (Int.tdiv y1.1 (11 : Int))))) ∧ (IntKind.i64.wrap ((4 : Int) + (IntKind.i64.wrap (Int.tdiv y1.1 (11 : Int))))) ≤ (([(0 : Int), (1 : Int), (3 : Int), (200 : Int), (-1 : Int), (201 : Int)] : List Int).length : Int)) <|
  (M.spec_l1Cur_among y1.2 (slc ([(0 : Int), (1 : Int), (3 : Int), (200 : Int), (-1 : Int), (201 : Int)] : List Int) (0 : Int) (IntKind.i64.wrap ((4 : Int) + (IntKind.i64.wrap (Int.tdiv y1.1 (11 : Int))))))).bind fun y2 =>
  (M.spec_l1Cur_cents14 y2.2).bind fun y3 =>
  some (y0.1, y2.1, y3.1)

def M.impl_PagesFor_l0 (t : Tariff) (hours : Int) (cents : Int) : (Int) → Option ((Int) ⊕ ((Unit) ⊕ (Int × Bool))) := fun st_ => match st_ with
| pages =>
  bif (decide (pages ≥ (0 : Int))) then (
    (M.impl_Tariff_fee t (⟨(0 : Int), hours, pages, false, false, (0 : Int)⟩ : Bill)).bind fun y4 =>
    bif (decide (y4 ≤ cents)) then (
      some (.inr (.inr (pages, true))))
    else (
      some (.inl (IntKind.i64.wrap (pages - (1 : Int))))))
  else (
    some (.inr (.inl ())))

def M.impl_PagesFor (t : Tariff) (hours : Int) (cents : Int) : Option (Int × Bool) :=
  (M.impl_IsTariff t).bind fun y0 =>
  ((bif (!y0) then some default else M.impl_within hours (0 : Int) (200 : Int))).bind fun y1 =>
  ((bif ((!y0) || (!y1)) then some default else M.impl_isCents cents)).bind fun y2 =>
  bif (((!y0) || (!y1)) || (!y2)) then (
    some ((0 : Int), false))
  else (
    (iterO (M.impl_PagesFor_l0 t hours cents) (5000 : Int)).bind fun e => match e with
    | .inl () =>
      (some ((0 : Int), false))
    | .inr r => some r)

def M.spec_PagesFor_l0 (t : Tariff) (hours : Int) (cents : Int) : (Int × Int) → Option ((Int × Int) ⊕ (Int)) := fun st_ => match st_ with
| (low0, high_) =>
  bif (decide (low0 < high_)) then (
    (((
      (M.spec_l14Fee t (⟨(0 : Int), hours, (IntKind.i64.wrap (Int.tdiv (IntKind.i64.wrap ((IntKind.i64.wrap (low0 + high_)) + (1 : Int))) (2 : Int))), false, false, (0 : Int)⟩ : Bill)).bind fun y5 =>
      bif (decide (y5 ≤ cents)) then (
        some ((IntKind.i64.wrap (Int.tdiv (IntKind.i64.wrap ((IntKind.i64.wrap (low0 + high_)) + (1 : Int))) (2 : Int))), high_))
      else (
        some (low0, (IntKind.i64.wrap ((IntKind.i64.wrap (Int.tdiv (IntKind.i64.wrap ((IntKind.i64.wrap (low0 + high_)) + (1 : Int))) (2 : Int))) - (1 : Int)))))) : Option (Int × Int))).bind fun e => match e with
    | (low1, high_0) =>
      (some (.inl (low1, high_0))))
  else (
    some (.inr low0))

def M.spec_PagesFor (t : Tariff) (hours : Int) (cents : Int) : Option (Int × Bool) :=
  (M.spec_l14Tariff t).bind fun y0 =>
  ((bif (!y0) then some default else M.spec_l1In hours (0 : Int) (200 : Int))).bind fun y1 =>
  ((bif ((!y0) || (!y1)) then some default else M.spec_l14Cents cents)).bind fun y2 =>
  ((bif (((!y0) || (!y1)) || (!y2)) then some default else M.spec_l14Fee t (⟨(0 : Int), hours, (0 : Int), false, false, (0 : Int)⟩ : Bill))).bind fun y3 =>
  bif ((((!y0) || (!y1)) || (!y2)) || (decide (y3 > cents))) then (
    some ((0 : Int), false))
  else (
    (iterO (M.spec_PagesFor_l0 t hours cents) ((0 : Int), (5000 : Int))).bind fun e => match e with
    | low =>
      (some (low, true)))

def M.spec_l1Cur_bills_l0 : (List Bill × Int × Int × Cur) → Option ((List Bill × Int × Int × Cur) ⊕ (List Bill × Int × Cur)) := fun st_ => match st_ with
| (out_0, id_0, n_, c_0) =>
  bif (decide (n_ > (0 : Int))) then (
    (M.spec_l1Cur_pick c_0 (3 : Int)).bind fun y2 =>
    (M.spec_l1Cur_pick y2.2 (80 : Int)).bind fun y3 =>
    (M.spec_l1Cur_bill y3.2 (IntKind.i64.wrap ((IntKind.i64.wrap ((IntKind.i64.wrap (id_0 + (1 : Int))) + y2.1)) - (IntKind.i64.wrap (Int.tdiv y3.1 (79 : Int)))))).bind fun y4 =>
    asrt ((out_0.length : Int) + (([y4.1] : List Bill).length : Int) ≤ 2147483648) <|
    some (.inl ((out_0 ++ ([y4.1] : List Bill)), (IntKind.i64.wrap ((IntKind.i64.wrap ((IntKind.i64.wrap (id_0 + (1 : Int))) + y2.1)) - (IntKind.i64.wrap (Int.tdiv y3.1 (79 : Int))))), (IntKind.i64.wrap (n_ - (1 : Int))), y4.2)))
  else (
    some (.inr (out_0, id_0, c_0)))

def M.spec_l1Cur_bills_l1 : (List Bill × Int × Cur) → Option ((List Bill × Int × Cur) ⊕ (List Bill × Cur)) := fun st_ => match st_ with
| (out_2, id_1, c_2) =>
  (M.spec_l1Cur_pick c_2 (2 : Int)).bind fun y7 =>
  bif (decide ((out_2.length : Int) < (IntKind.i64.wrap ((10 : Int) + y7.1)))) then (
    asrt ((out_2.length : Int) + (([(⟨(IntKind.i64.wrap (id_1 + (1 : Int))), (0 : Int), (30 : Int), false, false, (0 : Int)⟩ : Bill)] : List Bill).length : Int) ≤ 2147483648) <|
    some (.inl ((out_2 ++ ([(⟨(IntKind.i64.wrap (id_1 + (1 : Int))), (0 : Int), (30 : Int), false, false, (0 : Int)⟩ : Bill)] : List Bill)), (IntKind.i64.wrap (id_1 + (1 : Int))), y7.2)))
  else (
    some (.inr (out_2, y7.2)))

def M.spec_l1Cur_bills (c : Cur) : Option (List Bill × Cur) :=
  (M.spec_l1Cur_pick c (7 : Int)).bind fun y0 =>
  (iterO (M.spec_l1Cur_bills_l0) (([] : List Bill), (0 : Int), y0.1, y0.2)).bind fun e => match e with
  | (out_, id_, c_) =>
    ((M.spec_l1Cur_one c_ (24 : Int)).bind fun y5 =>
    bif y5.1 then (
      (iterO (M.spec_l1Cur_bills_l1) (out_, id_, y5.2)).bind fun e => match e with
      | (out_1, c_1) =>
        (some (out_1, c_1)))
    else (
      some (out_, y5.2)))

def M.spec_DrawCheaperTariff (code : List Int) : Option (Tariff × Tariff × List Bill) :=
  (M.spec_l1Cur_tariff (⟨code, (0 : Int), (0 : Int)⟩ : Cur)).bind fun y0 =>
  (M.spec_l1Cur_tariff y0.2).bind fun y1 =>
  (M.spec_l1Cur_bills y1.2).bind fun y2 =>
  some (y0.1, y1.1, y2.1)

def M.impl_CheaperTariff_l0 (a : Tariff) (b_ : Tariff) (list : List Bill) : (Int × Int) → Option ((Int × Int) ⊕ (Int)) := fun st_ => match st_ with
| (difference0, v) =>
  bif (decide (v < (list.length : Int))) then (
    asrt ((0 : Int) ≤ v ∧ v < (list.length : Int)) <|
    (M.impl_Tariff_fee a (list.getD (Int.toNat v) default)).bind fun y4 =>
    (M.impl_Tariff_fee b_ (list.getD (Int.toNat v) default)).bind fun y5 =>
    some (.inl ((IntKind.i64.wrap (difference0 + (IntKind.i64.wrap (y4 - y5)))), (IntKind.i64.wrap (v + (1 : Int))))))
  else (
    some (.inr difference0))

def M.impl_CheaperTariff (a : Tariff) (b_ : Tariff) (list : List Bill) : Option (Int × Bool) :=
  (M.impl_IsTariff a).bind fun y0 =>
  ((bif (!y0) then some default else M.impl_IsTariff b_)).bind fun y1 =>
  ((bif ((!y0) || (!y1)) then some default else M.impl_AreBills list)).bind fun y2 =>
  bif (((!y0) || (!y1)) || (!y2)) then (
    some ((0 : Int), false))
  else (
    (iterO (M.impl_CheaperTariff_l0 a b_ list) ((0 : Int), (0 : Int))).bind fun e => match e with
    | difference =>
      (bif (decide (difference < (0 : Int))) then (
        some ((1 : Int), true))
      else (
        bif (decide (difference > (0 : Int))) then (
          some ((2 : Int), true))
        else (
          some ((0 : Int), true)))))

def M.spec_l14Good_l0 (list : List Bill) : (Int) → Option ((Int) ⊕ ((Unit) ⊕ (Bool))) := fun st_ => match st_ with
| i =>
  bif (decide (i < (list.length : Int))) then (
    asrt ((0 : Int) ≤ i ∧ i < (list.length : Int)) <|
    (M.spec_l14Bill (list.getD (Int.toNat i) default)).bind fun y1 =>
    asrt ((!y1) = false → (decide (i > (0 : Int))) = true → ((0 : Int) ≤ (IntKind.i64.wrap (i - (1 : Int))) ∧ (IntKind.i64.wrap (i - (1 : Int))) < (list.length : Int))) <|
    asrt ((!y1) = false → (decide (i > (0 : Int))) = true → ((0 : Int) ≤ i ∧ i < (list.length : Int))) <|
    bif ((!y1) || ((decide (i > (0 : Int))) && (decide (((list.getD (Int.toNat (IntKind.i64.wrap (i - (1 : Int)))) default).Id) ≥ ((list.getD (Int.toNat i) default).Id))))) then (
      some (.inr (.inr false)))
    else (
      some (.inl (IntKind.i64.wrap (i + (1 : Int))))))
  else (
    some (.inr (.inl ())))

def M.spec_l14Good (list : List Bill) : Option Bool :=
  (iterO (M.spec_l14Good_l0 list) (0 : Int)).bind fun e => match e with
  | .inl () =>
    (some (decide ((list.length : Int) ≤ (10 : Int))))
  | .inr r => some r

def M.spec_CheaperTariff_l0 (a : Tariff) (b_ : Tariff) (list : List Bill) : (Int × Int × Int) → Option ((Int × Int × Int) ⊕ (Int × Int)) := fun st_ => match st_ with
| (x0, y_0, i) =>
  bif (decide (i < (list.length : Int))) then (
    asrt ((0 : Int) ≤ i ∧ i < (list.length : Int)) <|
    (M.spec_l14Fee a (list.getD (Int.toNat i) default)).bind fun y4 =>
    asrt ((0 : Int) ≤ i ∧ i < (list.length : Int)) <|
    (M.spec_l14Fee b_ (list.getD (Int.toNat i) default)).bind fun y5 =>
    some (.inl ((IntKind.i64.wrap (x0 + y4)), (IntKind.i64.wrap (y_0 + y5)), (IntKind.i64.wrap (i + (1 : Int))))))
  else (
    some (.inr (x0, y_0)))

def M.spec_CheaperTariff (a : Tariff) (b_ : Tariff) (list : List Bill) : Option (Int × Bool) :=
  (M.spec_l14Tariff a).bind fun y0 =>
  ((bif (!y0) then some default else M.spec_l14Tariff b_)).bind fun y1 =>
  ((bif ((!y0) || (!y1)) then some default else M.spec_l14Good list)).bind fun y2 =>
  bif (((!y0) || (!y1)) || (!y2)) then (
    some ((0 : Int), false))
  else (
    (iterO (M.spec_CheaperTariff_l0 a b_ list) ((0 : Int), (0 : Int), (0 : Int))).bind fun e => match e with
    | (x, y_) =>
      (bif (decide (x < y_)) then (
        some ((1 : Int), true))
      else (
        bif (decide (y_ < x)) then (
          some ((2 : Int), true))
        else (
          some ((0 : Int), true)))))

def M.spec_DrawBillText (code : List Int) : Option (Tariff × Bill) :=
  (M.spec_DrawFeeOf code).bind fun y0 =>
  some (y0.1, y0.2)

def M.strconv_Itoa (n : Int) : Option (List UInt8) := asrt (-9223372036854775808 ≤ n ∧ n ≤ 9223372036854775807) <| some (Go.Lib.itoa n)

def M.impl_decimal (n : Int) : Option (List UInt8) :=
  (M.strconv_Itoa n).bind fun y0 =>
  some y0

def M.impl_padded_l0 (width : Int) : (List UInt8) → Option ((List UInt8) ⊕ (List UInt8)) := fun st_ => match st_ with
| text0 =>
  bif (decide ((text0.length : Int) < width)) then (
    asrt (([48]).length + text0.length ≤ 9223372036854775807) <|
    some (.inl (([48]) ++ text0)))
  else (
    some (.inr text0))

def M.impl_padded (n : Int) (width : Int) : Option (List UInt8) :=
  (M.impl_decimal n).bind fun y0 =>
  (iterO (M.impl_padded_l0 width) y0).bind fun e => match e with
  | text =>
    (some text)

def M.impl_BillText (t : Tariff) (b_ : Bill) : Option (List UInt8 × Bool) :=
  (M.impl_IsTariff t).bind fun y0 =>
  ((bif (!y0) then some default else M.impl_isBill b_)).bind fun y1 =>
  bif ((!y0) || (!y1)) then (
    some ([], false))
  else (
    (M.impl_Tariff_fee t b_).bind fun y2 =>
    (M.impl_decimal b_.Id).bind fun y3 =>
    asrt (([98, 105, 108, 108, 32]).length + y3.length ≤ 9223372036854775807) <|
    asrt ((([98, 105, 108, 108, 32]) ++ y3).length + ([58, 32]).length ≤ 9223372036854775807) <|
    (M.impl_decimal (IntKind.i64.wrap (Int.tdiv y2 (100 : Int)))).bind fun y4 =>
    asrt (((([98, 105, 108, 108, 32]) ++ y3) ++ ([58, 32])).length + y4.length ≤ 9223372036854775807) <|
    asrt ((((([98, 105, 108, 108, 32]) ++ y3) ++ ([58, 32])) ++ y4).length + ([46]).length ≤ 9223372036854775807) <|
    (M.impl_padded (Int.tmod y2 (100 : Int)) (2 : Int)).bind fun y5 =>
    asrt (((((([98, 105, 108, 108, 32]) ++ y3) ++ ([58, 32])) ++ y4) ++ ([46])).length + y5.length ≤ 9223372036854775807) <|
    (M.impl_Tariff_fee t (⟨(0 : Int), b_.Hours, b_.Pages, false, false, (0 : Int)⟩ : Bill)).bind fun y6 =>
    bif (decide (y6 > y2)) then (
      asrt ((((((([98, 105, 108, 108, 32]) ++ y3) ++ ([58, 32])) ++ y4) ++ ([46])) ++ y5).length + ([32, 40, 114, 101, 100, 117, 99, 101, 100, 41]).length ≤ 9223372036854775807) <|
      some (((((((([98, 105, 108, 108, 32]) ++ y3) ++ ([58, 32])) ++ y4) ++ ([46])) ++ y5) ++ ([32, 40, 114, 101, 100, 117, 99, 101, 100, 41])), true))
    else (
      some ((((((([98, 105, 108, 108, 32]) ++ y3) ++ ([58, 32])) ++ y4) ++ ([46])) ++ y5), true)))

def M.spec_l1Num_s (rec_ : Int → Option (List UInt8)) (n : Int) : Option (List UInt8) :=
  bif (decide (n < (0 : Int))) then (
    (rec_ (IntKind.i64.wrap (0 - n))).bind fun y0 =>
    asrt (([45]).length + y0.length ≤ 9223372036854775807) <|
    some (([45]) ++ y0))
  else (
    bif (decide (n < (10 : Int))) then (
      asrt ((0 : Int) ≤ n ∧ n ≤ (IntKind.i64.wrap (n + (1 : Int))) ∧ (IntKind.i64.wrap (n + (1 : Int))) ≤ (([48, 49, 50, 51, 52, 53, 54, 55, 56, 57] : List UInt8).length : Int)) <|
      some (slc ([48, 49, 50, 51, 52, 53, 54, 55, 56, 57] : List UInt8) n (IntKind.i64.wrap (n + (1 : Int)))))
    else (
      (rec_ (IntKind.i64.wrap (Int.tdiv n (10 : Int)))).bind fun y1 =>
      asrt ((0 : Int) ≤ (Int.tmod n (10 : Int)) ∧ (Int.tmod n (10 : Int)) ≤ (IntKind.i64.wrap ((Int.tmod n (10 : Int)) + (1 : Int))) ∧ (IntKind.i64.wrap ((Int.tmod n (10 : Int)) + (1 : Int))) ≤ (([48, 49, 50, 51, 52, 53, 54, 55, 56, 57] : List UInt8).length : Int)) <|
      asrt (y1.length + (slc ([48, 49, 50, 51, 52, 53, 54, 55, 56, 57] : List UInt8) (Int.tmod n (10 : Int)) (IntKind.i64.wrap ((Int.tmod n (10 : Int)) + (1 : Int)))).length ≤ 9223372036854775807) <|
      some (y1 ++ (slc ([48, 49, 50, 51, 52, 53, 54, 55, 56, 57] : List UInt8) (Int.tmod n (10 : Int)) (IntKind.i64.wrap ((Int.tmod n (10 : Int)) + (1 : Int)))))))

def M.spec_l1Num_r : Nat → Int → Option (List UInt8)
  | 0 => fun _ => none
  | k_ + 1 => M.spec_l1Num_s (M.spec_l1Num_r k_)

def M.spec_l1Num (n : Int) : Option (List UInt8) := M.spec_l1Num_r rounds n

def M.spec_BillText (t : Tariff) (b_ : Bill) : Option (List UInt8 × Bool) :=
  (M.spec_l14Tariff t).bind fun y0 =>
  ((bif (!y0) then some default else M.spec_l14Bill b_)).bind fun y1 =>
  bif ((!y0) || (!y1)) then (
    some ([], false))
  else (
    (M.spec_l14Fee t b_).bind fun y2 =>
    (M.spec_l1Num b_.Id).bind fun y3 =>
    asrt (([98, 105, 108, 108, 32]).length + y3.length ≤ 9223372036854775807) <|
    asrt ((([98, 105, 108, 108, 32]) ++ y3).length + ([58, 32]).length ≤ 9223372036854775807) <|
    (M.spec_l1Num (IntKind.i64.wrap (Int.tdiv y2 (100 : Int)))).bind fun y4 =>
    asrt (((([98, 105, 108, 108, 32]) ++ y3) ++ ([58, 32])).length + y4.length ≤ 9223372036854775807) <|
    asrt ((((([98, 105, 108, 108, 32]) ++ y3) ++ ([58, 32])) ++ y4).length + ([46]).length ≤ 9223372036854775807) <|
    (M.spec_l1Num (Int.tmod (IntKind.i64.wrap (Int.tdiv y2 (10 : Int))) (10 : Int))).bind fun y5 =>
    asrt (((((([98, 105, 108, 108, 32]) ++ y3) ++ ([58, 32])) ++ y4) ++ ([46])).length + y5.length ≤ 9223372036854775807) <|
    (M.spec_l1Num (Int.tmod y2 (10 : Int))).bind fun y6 =>
    asrt ((((((([98, 105, 108, 108, 32]) ++ y3) ++ ([58, 32])) ++ y4) ++ ([46])) ++ y5).length + y6.length ≤ 9223372036854775807) <|
    (M.spec_l14Fee t (⟨(0 : Int), b_.Hours, b_.Pages, false, false, (0 : Int)⟩ : Bill)).bind fun y7 =>
    bif (decide (y7 > y2)) then (
      asrt (((((((([98, 105, 108, 108, 32]) ++ y3) ++ ([58, 32])) ++ y4) ++ ([46])) ++ y5) ++ y6).length + ([32, 40, 114, 101, 100, 117, 99, 101, 100, 41]).length ≤ 9223372036854775807) <|
      some ((((((((([98, 105, 108, 108, 32]) ++ y3) ++ ([58, 32])) ++ y4) ++ ([46])) ++ y5) ++ y6) ++ ([32, 40, 114, 101, 100, 117, 99, 101, 100, 41])), true))
    else (
      some (((((((([98, 105, 108, 108, 32]) ++ y3) ++ ([58, 32])) ++ y4) ++ ([46])) ++ y5) ++ y6), true)))

def M.laws_FnFees (code : List Int) : Option Bool :=
  (M.laws_rBig code).bind fun y0 =>
  bif y0 then (
    some true)
  else (
    (M.spec_DrawFeeOf code).bind fun y1 =>
    (M.impl_FeeOf y1.1 y1.2).bind fun y2 =>
    (M.spec_FeeOf y1.1 y1.2).bind fun y3 =>
    ((bif ((y2.1 != y3.1) || (!(y2.2 == y3.2))) then some default else M.impl_IsTariff y1.1)).bind fun y4 =>
    ((bif ((y2.1 != y3.1) || (!(y2.2 == y3.2))) then some default else (bif y4 then M.impl_AreBills ([y1.2] : List Bill) else some default))).bind fun y5 =>
    bif (((y2.1 != y3.1) || (!(y2.2 == y3.2))) || (!(y2.2 == (y4 && y5)))) then (
      some false)
    else (
      (((
        bif y2.2 then (
          (M.impl_FeeOf y1.1 (⟨(1 : Int), y1.2.Hours, y1.2.Pages, false, false, (0 : Int)⟩ : Bill)).bind fun y6 =>
          bif ((((!y6.2) || (decide (y2.1 > y6.1))) || (decide (y6.1 > y1.1.Limit))) || (decide (y2.1 < (0 : Int)))) then (
            some (.inr false))
          else (
            some (.inl ())))
        else (
          some (.inl ()))) : Option ((Unit) ⊕ (Bool)))).bind fun e => match e with
      | .inl () =>
        ((M.spec_DrawPagesFor code).bind fun y7 =>
        (M.impl_PagesFor y7.1 y7.2.1 y7.2.2).bind fun y8 =>
        (M.spec_PagesFor y7.1 y7.2.1 y7.2.2).bind fun y9 =>
        bif ((y8.1 != y9.1) || (!(y8.2 == y9.2))) then (
          some false)
        else (
          (((
            bif y8.2 then (
              (M.impl_FeeOf y7.1 (⟨(1 : Int), y7.2.1, y8.1, false, false, (0 : Int)⟩ : Bill)).bind fun y10 =>
              (M.impl_FeeOf y7.1 (⟨(1 : Int), y7.2.1, (IntKind.i64.wrap (y8.1 + (1 : Int))), false, false, (0 : Int)⟩ : Bill)).bind fun y11 =>
              bif (((!y10.2) || (decide (y10.1 > y7.2.2))) || (y11.2 && (decide (y11.1 ≤ y7.2.2)))) then (
                some (.inr false))
              else (
                some (.inl ())))
            else (
              some (.inl ()))) : Option ((Unit) ⊕ (Bool)))).bind fun e => match e with
          | .inl () =>
            ((M.spec_DrawCheaperTariff code).bind fun y12 =>
            (M.impl_CheaperTariff y12.1 y12.2.1 y12.2.2).bind fun y13 =>
            (M.impl_CheaperTariff y12.2.1 y12.1 y12.2.2).bind fun y14 =>
            (M.spec_CheaperTariff y12.1 y12.2.1 y12.2.2).bind fun y15 =>
            bif ((((y13.1 != y15.1) || (!(y13.2 == y15.2))) || (!(y14.2 == y13.2))) || (y13.2 && ((Int.tmod (IntKind.i64.wrap (y13.1 + y14.1)) (3 : Int)) != (0 : Int)))) then (
              some false)
            else (
              (M.spec_DrawBillText code).bind fun y16 =>
              (M.impl_BillText y16.1 y16.2).bind fun y17 =>
              (M.spec_BillText y16.1 y16.2).bind fun y18 =>
              some ((y17.1 == y18.1) && (y17.2 == y18.2))))
          | .inr r => some r))
      | .inr r => some r))
end Go.Proofs.YtfebeomnlkfgoaaDoor
