/- models of the functions -/
import Derived.Test.YthffmnpbonkpaaaWg
set_option linter.unusedSimpArgs false
set_option linter.unusedVariables false
set_option maxRecDepth 100000
namespace Go.Proofs.Ythffmnpbonkpaaa
open Go.VS

structure Cur where
  Code : List Int
  At : Int
  Seed : Int
  deriving Inhabited, DecidableEq

abbrev encCur (ρ : Nat) (c : Cur) : PV := .agg [.vl ρ 1 (List.map encU8 c.Code), .int .i64 c.At, .int .u64 c.Seed]

structure Tariff where
  Search : Int
  Page : Int
  Free : Int
  Limit : Int
  deriving Inhabited, DecidableEq

abbrev encTariff (c : Tariff) : PV := .agg [.int .i64 c.Search, .int .i64 c.Page, .int .i64 c.Free, .int .i64 c.Limit]

structure Bill where
  Id : Int
  Hours : Int
  Pages : Int
  Poor : Bool
  Public : Bool
  Paid : Int
  deriving Inhabited, DecidableEq

abbrev encBill (c : Bill) : PV := .agg [.int .i64 c.Id, .int .i64 c.Hours, .int .i64 c.Pages, .bool c.Poor, .bool c.Public, .int .i64 c.Paid]

def M.laws_rBig (code : List Int) : Option Bool :=
  some (decide ((code.length : Int) > (65536 : Int)))

def M.spec_l1Cur_next (c : Cur) : Option (Int × Cur) :=
  (((
    bif (decide (c.At < (c.Code.length : Int))) then (
      asrt ((0 : Int) ≤ c.At ∧ c.At < (c.Code.length : Int)) <|
      some (IntKind.i64.wrap (c.Code.getD (Int.toNat c.At) default)))
    else (
      some (0 : Int))) : Option Int)).bind fun e => match e with
  | b_ =>
    (bif (decide ((IntKind.i64.wrap (c.At + (1 : Int))) ≤ (c.Code.length : Int))) then (
      some (b_, (⟨c.Code, (IntKind.i64.wrap (c.At + (1 : Int))), (IntKind.u64.wrap ((IntKind.u64.wrap ((IntKind.u64.wrap (c.Seed * (6364136223846793005 : Int))) + (IntKind.u64.wrap b_))) + (103535 : Int)))⟩ : Cur)))
    else (
      some ((IntKind.i64.wrap (IntKind.u64.wrap (BitVec.ofInt IntKind.u64.bits (Int.fdiv (IntKind.u64.wrap ((IntKind.u64.wrap ((IntKind.u64.wrap (c.Seed * (6364136223846793005 : Int))) + (IntKind.u64.wrap b_))) + (103535 : Int))) (2 ^ (min (Int.toNat (40 : Int)) IntKind.u64.bits))) &&& BitVec.ofInt IntKind.u64.bits (255 : Int)).toNat)), (⟨c.Code, (IntKind.i64.wrap (c.At + (1 : Int))), (IntKind.u64.wrap ((IntKind.u64.wrap ((IntKind.u64.wrap (c.Seed * (6364136223846793005 : Int))) + (IntKind.u64.wrap b_))) + (103535 : Int)))⟩ : Cur))))

def M.spec_l1Cur_pick (c : Cur) (n : Int) : Option (Int × Cur) :=
  bif (decide (n ≤ (1 : Int))) then (
    some ((0 : Int), c))
  else (
    (M.spec_l1Cur_next c).bind fun y0 =>
    (((
      bif (decide (n > (200 : Int))) then (
        (M.spec_l1Cur_next y0.2).bind fun y1 =>
        some ((IntKind.i64.wrap ((IntKind.i64.wrap (y0.1 * (256 : Int))) + y1.1)), y1.2))
      else (
        some (y0.1, y0.2))) : Option (Int × Cur))).bind fun e => match e with
    | (x, c_) =>
      (asrt (n ≠ 0) <|
      some ((Int.tmod x n), c_)))

def M.spec_l1Cur_among (c : Cur) (list : List Int) : Option (Int × Cur) :=
  (M.spec_l1Cur_pick c (list.length : Int)).bind fun y0 =>
  asrt ((0 : Int) ≤ y0.1 ∧ y0.1 < (list.length : Int)) <|
  some ((list.getD (Int.toNat y0.1) default), y0.2)

def M.spec_l1Cur_tariff (c : Cur) : Option (Tariff × Cur) :=
  (M.spec_l1Cur_among c ([(0 : Int), (1500 : Int), (10000 : Int)] : List Int)).bind fun y0 =>
  (M.spec_l1Cur_among y0.2 ([(0 : Int), (7 : Int), (25 : Int), (1000 : Int)] : List Int)).bind fun y1 =>
  (M.spec_l1Cur_among y1.2 ([(0 : Int), (20 : Int), (500 : Int)] : List Int)).bind fun y2 =>
  (M.spec_l1Cur_among y2.2 ([(0 : Int), (5001 : Int), (60000 : Int), (1000000 : Int)] : List Int)).bind fun y3 =>
  (M.spec_l1Cur_pick y3.2 (60 : Int)).bind fun y4 =>
  (((
    bif (y4.1 == (0 : Int)) then (
      (M.spec_l1Cur_among y4.2 ([(-1 : Int), (10001 : Int)] : List Int)).bind fun y5 =>
      some (y5.2, (⟨y5.1, y1.1, y2.1, y3.1⟩ : Tariff)))
    else (
      bif (y4.1 == (1 : Int)) then (
        (M.spec_l1Cur_among y4.2 ([(-1 : Int), (1001 : Int)] : List Int)).bind fun y6 =>
        some (y6.2, (⟨y0.1, y6.1, y2.1, y3.1⟩ : Tariff)))
      else (
        bif (y4.1 == (2 : Int)) then (
          (M.spec_l1Cur_among y4.2 ([(-1 : Int), (501 : Int)] : List Int)).bind fun y7 =>
          some (y7.2, (⟨y0.1, y1.1, y7.1, y3.1⟩ : Tariff)))
        else (
          bif (y4.1 == (3 : Int)) then (
            (M.spec_l1Cur_among y4.2 ([(-1 : Int), (1000001 : Int)] : List Int)).bind fun y8 =>
            some (y8.2, (⟨y0.1, y1.1, y2.1, y8.1⟩ : Tariff)))
          else (
            some (y4.2, (⟨y0.1, y1.1, y2.1, y3.1⟩ : Tariff))))))) : Option (Cur × Tariff))).bind fun e => match e with
  | (c_, t_) =>
    (some (t_, c_))

def M.spec_l1Cur_one (c : Cur) (n : Int) : Option (Bool × Cur) :=
  (M.spec_l1Cur_pick c n).bind fun y0 =>
  some ((y0.1 == (0 : Int)), y0.2)

def M.spec_l1Cur_bill (c : Cur) (id_ : Int) : Option (Bill × Cur) :=
  (M.spec_l1Cur_among c ([(0 : Int), (1 : Int), (3 : Int), (200 : Int)] : List Int)).bind fun y0 =>
  (M.spec_l1Cur_among y0.2 ([(0 : Int), (20 : Int), (21 : Int), (33 : Int), (5000 : Int)] : List Int)).bind fun y1 =>
  (M.spec_l1Cur_one y1.2 (4 : Int)).bind fun y2 =>
  (M.spec_l1Cur_one y2.2 (4 : Int)).bind fun y3 =>
  (M.spec_l1Cur_among y3.2 ([(0 : Int), (0 : Int), (13 : Int), (1500 : Int), (5001 : Int), (1000000 : Int)] : List Int)).bind fun y4 =>
  (M.spec_l1Cur_pick y4.2 (70 : Int)).bind fun y5 =>
  (((
    bif (y5.1 == (0 : Int)) then (
      (M.spec_l1Cur_among y5.2 ([(0 : Int), (999 : Int), (1000 : Int)] : List Int)).bind fun y6 =>
      some (y6.2, (⟨y6.1, y0.1, y1.1, y2.1, y3.1, y4.1⟩ : Bill)))
    else (
      bif (y5.1 == (1 : Int)) then (
        (M.spec_l1Cur_among y5.2 ([(-1 : Int), (201 : Int)] : List Int)).bind fun y7 =>
        some (y7.2, (⟨id_, y7.1, y1.1, y2.1, y3.1, y4.1⟩ : Bill)))
      else (
        bif (y5.1 == (2 : Int)) then (
          (M.spec_l1Cur_among y5.2 ([(-1 : Int), (5001 : Int)] : List Int)).bind fun y8 =>
          some (y8.2, (⟨id_, y0.1, y8.1, y2.1, y3.1, y4.1⟩ : Bill)))
        else (
          bif (y5.1 == (3 : Int)) then (
            (M.spec_l1Cur_among y5.2 ([(-1 : Int), (1000001 : Int)] : List Int)).bind fun y9 =>
            some (y9.2, (⟨id_, y0.1, y1.1, y2.1, y3.1, y9.1⟩ : Bill)))
          else (
            some (y5.2, (⟨id_, y0.1, y1.1, y2.1, y3.1, y4.1⟩ : Bill))))))) : Option (Cur × Bill))).bind fun e => match e with
  | (c_, b_) =>
    (some (b_, c_))

def M.spec_l1Cur_bills_l0 : (List Bill × Int × Int × Cur) → Option ((List Bill × Int × Int × Cur) ⊕ (List Bill × Int × Cur)) := fun st_ => match st_ with
| (out_0, id_0, n_, c_0) =>
  bif (decide (n_ > (0 : Int))) then (
    (M.spec_l1Cur_pick c_0 (3 : Int)).bind fun y2 =>
    (M.spec_l1Cur_pick y2.2 (80 : Int)).bind fun y3 =>
    (M.spec_l1Cur_bill y3.2 (IntKind.i64.wrap ((IntKind.i64.wrap ((IntKind.i64.wrap (id_0 + (1 : Int))) + y2.1)) - (IntKind.i64.wrap (Int.tdiv y3.1 (79 : Int)))))).bind fun y4 =>
    asrt ((out_0.length : Int) + (([y4.1] : List Bill).length : Int) ≤ 2147483648) <|
    some (.inl ((out_0 ++ ([y4.1] : List Bill)), (IntKind.i64.wrap ((IntKind.i64.wrap ((IntKind.i64.wrap (id_0 + (1 : Int))) + y2.1)) - (IntKind.i64.wrap (Int.tdiv y3.1 (79 : Int))))), (IntKind.i64.wrap (n_ - (1 : Int))), y4.2)))
  else (
    some (.inr (out_0, id_0, c_0)))

def M.spec_l1Cur_bills_l1 : (List Bill × Int × Cur) → Option ((List Bill × Int × Cur) ⊕ (List Bill × Cur)) := fun st_ => match st_ with
| (out_2, id_1, c_2) =>
  (M.spec_l1Cur_pick c_2 (2 : Int)).bind fun y7 =>
  bif (decide ((out_2.length : Int) < (IntKind.i64.wrap ((10 : Int) + y7.1)))) then (
    asrt ((out_2.length : Int) + (([(⟨(IntKind.i64.wrap (id_1 + (1 : Int))), (0 : Int), (30 : Int), false, false, (0 : Int)⟩ : Bill)] : List Bill).length : Int) ≤ 2147483648) <|
    some (.inl ((out_2 ++ ([(⟨(IntKind.i64.wrap (id_1 + (1 : Int))), (0 : Int), (30 : Int), false, false, (0 : Int)⟩ : Bill)] : List Bill)), (IntKind.i64.wrap (id_1 + (1 : Int))), y7.2)))
  else (
    some (.inr (out_2, y7.2)))

def M.spec_l1Cur_bills (c : Cur) : Option (List Bill × Cur) :=
  (M.spec_l1Cur_pick c (7 : Int)).bind fun y0 =>
  (iterO (M.spec_l1Cur_bills_l0) (([] : List Bill), (0 : Int), y0.1, y0.2)).bind fun e => match e with
  | (out_, id_, c_) =>
    ((M.spec_l1Cur_one c_ (24 : Int)).bind fun y5 =>
    bif y5.1 then (
      (iterO (M.spec_l1Cur_bills_l1) (out_, id_, y5.2)).bind fun e => match e with
      | (out_1, c_1) =>
        (some (out_1, c_1)))
    else (
      some (out_, y5.2)))

def M.spec_l1Cur_cents14 (c : Cur) : Option (Int × Cur) :=
  (M.spec_l1Cur_pick c (24 : Int)).bind fun y0 =>
  asrt ((0 : Int) ≤ (0 : Int) ∧ (0 : Int) ≤ (IntKind.i64.wrap ((6 : Int) + (IntKind.i64.wrap (Int.tdiv y0.1 (11 : Int))))) ∧ (IntKind.i64.wrap ((6 : Int) + (IntKind.i64.wrap (Int.tdiv y0.1 (11 : Int))))) ≤ (([(0 : Int), (1 : Int), (325 : Int), (4501 : Int), (60000 : Int), (1000000 : Int), (-1 : Int), (1000001 : Int)] : List Int).length : Int)) <|
  (M.spec_l1Cur_among y0.2 (slc ([(0 : Int), (1 : Int), (325 : Int), (4501 : Int), (60000 : Int), (1000000 : Int), (-1 : Int), (1000001 : Int)] : List Int) (0 : Int) (IntKind.i64.wrap ((6 : Int) + (IntKind.i64.wrap (Int.tdiv y0.1 (11 : Int))))))).bind fun y1 =>
  some (y1.1, y1.2)

def M.spec_DrawSpreadPayment (code : List Int) : Option (Tariff × List Bill × Int) :=
  (M.spec_l1Cur_tariff (⟨code, (0 : Int), (0 : Int)⟩ : Cur)).bind fun y0 =>
  (M.spec_l1Cur_bills y0.2).bind fun y1 =>
  (M.spec_l1Cur_cents14 y1.2).bind fun y2 =>
  some (y0.1, y1.1, y2.1)

def M.impl_within (n : Int) (low : Int) (high : Int) : Option Bool :=
  some ((decide (low ≤ n)) && (decide (n ≤ high)))

def M.impl_isCents (cents : Int) : Option Bool :=
  (M.impl_within cents (0 : Int) (1000000 : Int)).bind fun y0 =>
  some y0

def M.impl_IsTariff (t : Tariff) : Option Bool :=
  (M.impl_within t.Search (0 : Int) (10000 : Int)).bind fun y0 =>
  ((bif y0 then M.impl_within t.Page (0 : Int) (1000 : Int) else some default)).bind fun y1 =>
  ((bif (y0 && y1) then M.impl_within t.Free (0 : Int) (500 : Int) else some default)).bind fun y2 =>
  ((bif ((y0 && y1) && y2) then M.impl_isCents t.Limit else some default)).bind fun y3 =>
  some (((y0 && y1) && y2) && y3)

def M.impl_isBill (b_ : Bill) : Option Bool :=
  (M.impl_within b_.Id (1 : Int) (999 : Int)).bind fun y0 =>
  ((bif y0 then M.impl_within b_.Hours (0 : Int) (200 : Int) else some default)).bind fun y1 =>
  ((bif (y0 && y1) then M.impl_within b_.Pages (0 : Int) (5000 : Int) else some default)).bind fun y2 =>
  ((bif ((y0 && y1) && y2) then M.impl_isCents b_.Paid else some default)).bind fun y3 =>
  some (((y0 && y1) && y2) && y3)

def M.impl_AreBills_l0 (list : List Bill) : (Int) → Option ((Int) ⊕ ((Unit) ⊕ (Bool))) := fun st_ => match st_ with
| v =>
  bif (decide (v < (list.length : Int))) then (
    asrt ((0 : Int) ≤ v ∧ v < (list.length : Int)) <|
    (M.impl_isBill (list.getD (Int.toNat v) default)).bind fun y1 =>
    asrt ((!y1) = false → (decide (v > (0 : Int))) = true → ((0 : Int) ≤ (IntKind.i64.wrap (v - (1 : Int))) ∧ (IntKind.i64.wrap (v - (1 : Int))) < (list.length : Int))) <|
    bif ((!y1) || ((decide (v > (0 : Int))) && (decide (((list.getD (Int.toNat (IntKind.i64.wrap (v - (1 : Int)))) default).Id) ≥ ((list.getD (Int.toNat v) default).Id))))) then (
      some (.inr (.inr false)))
    else (
      some (.inl (IntKind.i64.wrap (v + (1 : Int))))))
  else (
    some (.inr (.inl ())))

def M.impl_AreBills (list : List Bill) : Option Bool :=
  (iterO (M.impl_AreBills_l0 list) (0 : Int)).bind fun e => match e with
  | .inl () =>
    (some (decide ((list.length : Int) ≤ (10 : Int))))
  | .inr r => some r

def M.slices_Clone_impl_Bill_impl_Bill (s : List Bill) : Option (List Bill) := asrt ((s.length : Int) ≤ 2147483648) <| some s

def M.impl_Tariff_fee (t : Tariff) (b_ : Bill) : Option Int :=
  (((
    bif (!b_.Public) then (
      some (IntKind.i64.wrap ((IntKind.i64.wrap ((bif decide ((IntKind.i64.wrap (b_.Pages - t.Free)) < (0 : Int)) then (0 : Int) else (IntKind.i64.wrap (b_.Pages - t.Free))) * t.Page)) + (IntKind.i64.wrap (b_.Hours * t.Search)))))
    else (
      some (IntKind.i64.wrap ((bif decide ((IntKind.i64.wrap (b_.Pages - t.Free)) < (0 : Int)) then (0 : Int) else (IntKind.i64.wrap (b_.Pages - t.Free))) * t.Page)))) : Option Int)).bind fun e => match e with
  | sum_ =>
    (bif b_.Poor then (
      some (IntKind.i64.wrap (Int.tdiv (bif decide (t.Limit < sum_) then t.Limit else sum_) (2 : Int))))
    else (
      some (bif decide (t.Limit < sum_) then t.Limit else sum_)))

def M.impl_Tariff_open (t : Tariff) (b_ : Bill) : Option Int :=
  (M.impl_Tariff_fee t b_).bind fun y0 =>
  some (bif decide ((IntKind.i64.wrap (y0 - b_.Paid)) < (0 : Int)) then (0 : Int) else (IntKind.i64.wrap (y0 - b_.Paid)))

def M.cmp_isNaN_int (x : Int) : Option Bool :=
  some (x != x)

def M.cmp_Compare_int (x : Int) (y : Int) : Option Int :=
  (M.cmp_isNaN_int x).bind fun y0 =>
  (M.cmp_isNaN_int y).bind fun y1 =>
  bif y0 then (
    bif y1 then (
      some (0 : Int))
    else (
      some (-1 : Int)))
  else (
    bif y1 then (
      some (1 : Int))
    else (
      bif (decide (x < y)) then (
        some (-1 : Int))
      else (
        bif (decide (x > y)) then (
          some (1 : Int))
        else (
          some (0 : Int)))))

def M.impl_SpreadPayment_1 (a : Int) (b_ : Int) (t_c : Tariff) (list : List Bill) : Option Int :=
  asrt ((0 : Int) ≤ a ∧ a < (list.length : Int)) <|
  (M.impl_Tariff_open t_c (list.getD (Int.toNat a) default)).bind fun y0 =>
  asrt ((0 : Int) ≤ b_ ∧ b_ < (list.length : Int)) <|
  (M.impl_Tariff_open t_c (list.getD (Int.toNat b_) default)).bind fun y1 =>
  (M.cmp_Compare_int y0 y1).bind fun y2 =>
  some y2

def M.slices_insertionSortCmpFunc_int_l1 (a : Int) (fm : Int → Int → Option Int) : (List Int × Int) → Option ((List Int × Int) ⊕ (List Int)) := fun st_ => match st_ with
| (data3, j_) =>
  asrt ((decide (j_ > a)) = true → ((0 : Int) ≤ j_ ∧ j_ < (data3.length : Int))) <|
  asrt ((decide (j_ > a)) = true → ((0 : Int) ≤ (IntKind.i64.wrap (j_ - (1 : Int))) ∧ (IntKind.i64.wrap (j_ - (1 : Int))) < (data3.length : Int))) <|
  ((bif (decide (j_ > a)) then fm (data3.getD (Int.toNat j_) default) (data3.getD (Int.toNat (IntKind.i64.wrap (j_ - (1 : Int)))) default) else some default)).bind fun y2 =>
  bif ((decide (j_ > a)) && (decide (y2 < (0 : Int)))) then (
    asrt ((0 : Int) ≤ (IntKind.i64.wrap (j_ - (1 : Int))) ∧ (IntKind.i64.wrap (j_ - (1 : Int))) < (data3.length : Int)) <|
    asrt ((0 : Int) ≤ j_ ∧ j_ < (data3.length : Int)) <|
    asrt ((0 : Int) ≤ j_ ∧ j_ < (data3.length : Int)) <|
    asrt ((0 : Int) ≤ (IntKind.i64.wrap (j_ - (1 : Int))) ∧ (IntKind.i64.wrap (j_ - (1 : Int))) < ((data3.set (Int.toNat j_) (data3.getD (Int.toNat (IntKind.i64.wrap (j_ - (1 : Int)))) default)).length : Int)) <|
    (((
      some ((data3.set (Int.toNat j_) (data3.getD (Int.toNat (IntKind.i64.wrap (j_ - (1 : Int)))) default)).set (Int.toNat (IntKind.i64.wrap (j_ - (1 : Int)))) (data3.getD (Int.toNat j_) default))) : Option (List Int))).bind fun e => match e with
    | data4 =>
      (some (.inl (data4, (IntKind.i64.wrap (j_ - (1 : Int)))))))
  else (
    some (.inr data3))

def M.slices_insertionSortCmpFunc_int_l0 (a : Int) (b_ : Int) (fm : Int → Int → Option Int) : (List Int × Int) → Option ((List Int × Int) ⊕ (List Int)) := fun st_ => match st_ with
| (data1, i) =>
  bif (decide (i < b_)) then (
    (iterO (M.slices_insertionSortCmpFunc_int_l1 a fm) (data1, i)).bind fun e => match e with
    | data2 =>
      (some (.inl (data2, (IntKind.i64.wrap (i + (1 : Int)))))))
  else (
    some (.inr data1))

def M.slices_insertionSortCmpFunc_int (data : List Int) (a : Int) (b_ : Int) (fm : Int → Int → Option Int) : Option (List Int) :=
  (iterO (M.slices_insertionSortCmpFunc_int_l0 a b_ fm) (data, (IntKind.i64.wrap (a + (1 : Int))))).bind fun e => match e with
  | data0 =>
    (some data0)

def M.slices_stableCmpFunc_int_l0 (n : Int) : (Int × Int) → Option ((Int × Int) ⊕ (Int)) := fun st_ => match st_ with
| (a0, b_) =>
  asrt ((decide (b_ ≤ n)) = false) <|
  some (.inr a0)

def M.slices_stableCmpFunc_int_l1 (n : Int) : (Int) → Option ((Int) ⊕ (Unit)) := fun st_ => match st_ with
| blockSize =>
  asrt ((decide (blockSize < n)) = false) <|
  some (.inr ())

def M.slices_stableCmpFunc_int (data : List Int) (n : Int) (fm : Int → Int → Option Int) : Option (List Int) :=
  (iterO (M.slices_stableCmpFunc_int_l0 n) ((0 : Int), (20 : Int))).bind fun e => match e with
  | a =>
    ((M.slices_insertionSortCmpFunc_int data a n fm).bind fun y1 =>
    asrt (y1.length = data.length) <|
    (iterO (M.slices_stableCmpFunc_int_l1 n) (20 : Int)).bind fun e => match e with
    | () =>
      (some y1))

def M.slices_SortStableFunc_int_int (x : List Int) (fm : Int → Int → Option Int) : Option (List Int) :=
  (M.slices_stableCmpFunc_int x (x.length : Int) fm).bind fun y0 =>
  asrt (y0.length = x.length) <|
  some y0

def M.impl_SpreadPayment_l0 (list : List Bill) : (List Int × Int) → Option ((List Int × Int) ⊕ (List Int)) := fun st_ => match st_ with
| (order0, v) =>
  bif (decide (v < ((List.replicate (Int.toNat (list.length : Int)) (0 : Int)).length : Int))) then (
    asrt ((0 : Int) ≤ v ∧ v < (order0.length : Int)) <|
    some (.inl ((order0.set (Int.toNat v) v), (IntKind.i64.wrap (v + (1 : Int))))))
  else (
    some (.inr order0))

def M.impl_SpreadPayment_l1 (t : Tariff) (y5 : List Int) : (Int × List Bill × Int) → Option ((Int × List Bill × Int) ⊕ (Int × List Bill)) := fun st_ => match st_ with
| (cents1, out_0, v0) =>
  bif (decide (v0 < (y5.length : Int))) then (
    asrt ((0 : Int) ≤ v0 ∧ v0 < (y5.length : Int)) <|
    asrt ((0 : Int) ≤ (y5.getD (Int.toNat v0) default) ∧ (y5.getD (Int.toNat v0) default) < (out_0.length : Int)) <|
    (M.impl_Tariff_open t (out_0.getD (Int.toNat (y5.getD (Int.toNat v0) default)) default)).bind fun y7 =>
    asrt ((0 : Int) ≤ (y5.getD (Int.toNat v0) default) ∧ (y5.getD (Int.toNat v0) default) < (out_0.length : Int)) <|
    asrt ((0 : Int) ≤ (y5.getD (Int.toNat v0) default) ∧ (y5.getD (Int.toNat v0) default) < (out_0.length : Int)) <|
    some (.inl ((IntKind.i64.wrap (cents1 - (bif decide (cents1 < y7) then cents1 else y7))), (out_0.set (Int.toNat (y5.getD (Int.toNat v0) default)) (⟨(out_0.getD (Int.toNat (y5.getD (Int.toNat v0) default)) default).Id, (out_0.getD (Int.toNat (y5.getD (Int.toNat v0) default)) default).Hours, (out_0.getD (Int.toNat (y5.getD (Int.toNat v0) default)) default).Pages, (out_0.getD (Int.toNat (y5.getD (Int.toNat v0) default)) default).Poor, (out_0.getD (Int.toNat (y5.getD (Int.toNat v0) default)) default).Public, (IntKind.i64.wrap (((out_0.getD (Int.toNat (y5.getD (Int.toNat v0) default)) default).Paid) + (bif decide (cents1 < y7) then cents1 else y7)))⟩ : Bill)), (IntKind.i64.wrap (v0 + (1 : Int))))))
  else (
    some (.inr (cents1, out_0)))

def M.impl_SpreadPayment (t : Tariff) (list : List Bill) (cents : Int) : Option (List Bill × Int × Bool) :=
  (M.impl_IsTariff t).bind fun y0 =>
  ((bif (!y0) then some default else M.impl_AreBills list)).bind fun y1 =>
  ((bif ((!y0) || (!y1)) then some default else M.impl_isCents cents)).bind fun y2 =>
  bif (((!y0) || (!y1)) || (!y2)) then (
    some (([] : List Bill), (0 : Int), false))
  else (
    (M.slices_Clone_impl_Bill_impl_Bill list).bind fun y3 =>
    asrt ((0 : Int) ≤ (list.length : Int) ∧ (list.length : Int) ≤ (list.length : Int) ∧ (list.length : Int) ≤ 2147483648) <|
    (iterO (M.impl_SpreadPayment_l0 list) ((List.replicate (Int.toNat (list.length : Int)) (0 : Int)), (0 : Int))).bind fun e => match e with
    | order =>
      ((M.slices_SortStableFunc_int_int order (fun x0 x1 => M.impl_SpreadPayment_1 x0 x1 t list)).bind fun y5 =>
      asrt (y5.length = order.length) <|
      (iterO (M.impl_SpreadPayment_l1 t y5) (cents, y3, (0 : Int))).bind fun e => match e with
      | (cents0, out_) =>
        (some (out_, cents0, true))))

def M.spec_l1In (x : Int) (a : Int) (b_ : Int) : Option Bool :=
  some ((decide (x ≥ a)) && (decide (x ≤ b_)))

def M.spec_l14Cents (n : Int) : Option Bool :=
  (M.spec_l1In n (0 : Int) (1000000 : Int)).bind fun y0 =>
  some y0

def M.spec_l14Tariff (t : Tariff) : Option Bool :=
  (M.spec_l1In t.Search (0 : Int) (10000 : Int)).bind fun y0 =>
  ((bif y0 then M.spec_l1In t.Page (0 : Int) (1000 : Int) else some default)).bind fun y1 =>
  ((bif (y0 && y1) then M.spec_l1In t.Free (0 : Int) (500 : Int) else some default)).bind fun y2 =>
  ((bif ((y0 && y1) && y2) then M.spec_l14Cents t.Limit else some default)).bind fun y3 =>
  some (((y0 && y1) && y2) && y3)

def M.spec_l14Bill (b_ : Bill) : Option Bool :=
  (M.spec_l1In b_.Id (1 : Int) (999 : Int)).bind fun y0 =>
  ((bif y0 then M.spec_l1In b_.Hours (0 : Int) (200 : Int) else some default)).bind fun y1 =>
  ((bif (y0 && y1) then M.spec_l1In b_.Pages (0 : Int) (5000 : Int) else some default)).bind fun y2 =>
  ((bif ((y0 && y1) && y2) then M.spec_l14Cents b_.Paid else some default)).bind fun y3 =>
  some (((y0 && y1) && y2) && y3)

def M.spec_l14Good_l0 (list : List Bill) : (Int) → Option ((Int) ⊕ ((Unit) ⊕ (Bool))) := fun st_ => match st_ with
| i =>
  bif (decide (i < (list.length : Int))) then (
    asrt ((0 : Int) ≤ i ∧ i < (list.length : Int)) <|
    (M.spec_l14Bill (list.getD (Int.toNat i) default)).bind fun y1 =>
    asrt ((!y1) = false → (decide (i > (0 : Int))) = true → ((0 : Int) ≤ (IntKind.i64.wrap (i - (1 : Int))) ∧ (IntKind.i64.wrap (i - (1 : Int))) < (list.length : Int))) <|
    asrt ((!y1) = false → (decide (i > (0 : Int))) = true → ((0 : Int) ≤ i ∧ i < (list.length : Int))) <|
    bif ((!y1) || ((decide (i > (0 : Int))) && (decide (((list.getD (Int.toNat (IntKind.i64.wrap (i - (1 : Int)))) default).Id) ≥ ((list.getD (Int.toNat i) default).Id))))) then (
      some (.inr (.inr false)))
    else (
      some (.inl (IntKind.i64.wrap (i + (1 : Int))))))
  else (
    some (.inr (.inl ())))

def M.spec_l14Good (list : List Bill) : Option Bool :=
  (iterO (M.spec_l14Good_l0 list) (0 : Int)).bind fun e => match e with
  | .inl () =>
    (some (decide ((list.length : Int) ≤ (10 : Int))))
  | .inr r => some r

def M.spec_l1Most (a : Int) (b_ : Int) : Option Int :=
  bif (decide (a > b_)) then (
    some a)
  else (
    some b_)

def M.spec_l1Least (a : Int) (b_ : Int) : Option Int :=
  bif (decide (a < b_)) then (
    some a)
  else (
    some b_)

def M.spec_l14Fee (t : Tariff) (b_ : Bill) : Option Int :=
  (M.spec_l1Most (0 : Int) (IntKind.i64.wrap (b_.Pages - t.Free))).bind fun y0 =>
  (((
    bif (!b_.Public) then (
      some (IntKind.i64.wrap ((IntKind.i64.wrap (t.Page * y0)) + (IntKind.i64.wrap (t.Search * b_.Hours)))))
    else (
      some (IntKind.i64.wrap (t.Page * y0)))) : Option Int)).bind fun e => match e with
  | n_ =>
    ((M.spec_l1Least n_ t.Limit).bind fun y1 =>
    bif b_.Poor then (
      some (IntKind.i64.wrap (Int.tdiv y1 (2 : Int))))
    else (
      some y1))

def M.spec_OpenFees_l0 (t : Tariff) (list : List Bill) : (List Int × Int) → Option ((List Int × Int) ⊕ (List Int)) := fun st_ => match st_ with
| (out_0, i) =>
  bif (decide (i < (list.length : Int))) then (
    asrt ((0 : Int) ≤ i ∧ i < (list.length : Int)) <|
    (M.spec_l14Fee t (list.getD (Int.toNat i) default)).bind fun y3 =>
    asrt ((0 : Int) ≤ i ∧ i < (list.length : Int)) <|
    (M.spec_l1Most (0 : Int) (IntKind.i64.wrap (y3 - ((list.getD (Int.toNat i) default).Paid)))).bind fun y4 =>
    asrt ((out_0.length : Int) + (([y4] : List Int).length : Int) ≤ 2147483648) <|
    some (.inl ((out_0 ++ ([y4] : List Int)), (IntKind.i64.wrap (i + (1 : Int))))))
  else (
    some (.inr out_0))

def M.spec_OpenFees (t : Tariff) (list : List Bill) : Option (List Int × Bool) :=
  (M.spec_l14Tariff t).bind fun y0 =>
  ((bif (!y0) then some default else M.spec_l14Good list)).bind fun y1 =>
  bif ((!y0) || (!y1)) then (
    some (([] : List Int), false))
  else (
    (iterO (M.spec_OpenFees_l0 t list) (([] : List Int), (0 : Int))).bind fun e => match e with
    | out_ =>
      (some (out_, true)))

def M.spec_SpreadPayment_l1 (y0 : List Int × Bool) (order0 : List Int) (i : Int) : (Int) → Option ((Int) ⊕ (Int)) := fun st_ => match st_ with
| k0 =>
  asrt ((decide (k0 > (0 : Int))) = true → ((0 : Int) ≤ (IntKind.i64.wrap (k0 - (1 : Int))) ∧ (IntKind.i64.wrap (k0 - (1 : Int))) < (order0.length : Int))) <|
  asrt ((decide (k0 > (0 : Int))) = true → ((0 : Int) ≤ (order0.getD (Int.toNat (IntKind.i64.wrap (k0 - (1 : Int)))) default) ∧ (order0.getD (Int.toNat (IntKind.i64.wrap (k0 - (1 : Int)))) default) < (y0.1.length : Int))) <|
  asrt ((decide (k0 > (0 : Int))) = true → ((0 : Int) ≤ i ∧ i < (y0.1.length : Int))) <|
  bif ((decide (k0 > (0 : Int))) && (decide ((y0.1.getD (Int.toNat (order0.getD (Int.toNat (IntKind.i64.wrap (k0 - (1 : Int)))) default)) default) > (y0.1.getD (Int.toNat i) default)))) then (
    some (.inl (IntKind.i64.wrap (k0 - (1 : Int)))))
  else (
    some (.inr k0))

def M.spec_SpreadPayment_l0 (list : List Bill) (y0 : List Int × Bool) : (List Int × Int) → Option ((List Int × Int) ⊕ (List Int)) := fun st_ => match st_ with
| (order0, i) =>
  bif (decide (i < (list.length : Int))) then (
    (iterO (M.spec_SpreadPayment_l1 y0 order0 i) (order0.length : Int)).bind fun e => match e with
    | k =>
      (asrt ((0 : Int) ≤ (0 : Int) ∧ (0 : Int) ≤ k ∧ k ≤ (order0.length : Int)) <|
      asrt ((([] : List Int).length : Int) + ((slc order0 (0 : Int) k).length : Int) ≤ 2147483648) <|
      asrt (((([] : List Int) ++ (slc order0 (0 : Int) k)).length : Int) + (([i] : List Int).length : Int) ≤ 2147483648) <|
      asrt ((0 : Int) ≤ k ∧ k ≤ (order0.length : Int) ∧ (order0.length : Int) ≤ (order0.length : Int)) <|
      asrt ((((([] : List Int) ++ (slc order0 (0 : Int) k)) ++ ([i] : List Int)).length : Int) + ((slc order0 k (order0.length : Int)).length : Int) ≤ 2147483648) <|
      (((
        some (((([] : List Int) ++ (slc order0 (0 : Int) k)) ++ ([i] : List Int)) ++ (slc order0 k (order0.length : Int)))) : Option (List Int))).bind fun e => match e with
      | order1 =>
        (some (.inl (order1, (IntKind.i64.wrap (i + (1 : Int))))))))
  else (
    some (.inr order0))

def M.spec_SpreadPayment_l2 (y0 : List Int × Bool) (order : List Int) : (Int × List Bill × Int) → Option ((Int × List Bill × Int) ⊕ (Int × List Bill)) := fun st_ => match st_ with
| (cents1, out_0, k1) =>
  bif (decide (k1 < (order.length : Int))) then (
    asrt ((0 : Int) ≤ k1 ∧ k1 < (order.length : Int)) <|
    asrt ((0 : Int) ≤ (order.getD (Int.toNat k1) default) ∧ (order.getD (Int.toNat k1) default) < (out_0.length : Int)) <|
    asrt ((0 : Int) ≤ k1 ∧ k1 < (order.length : Int)) <|
    asrt ((0 : Int) ≤ (order.getD (Int.toNat k1) default) ∧ (order.getD (Int.toNat k1) default) < (y0.1.length : Int)) <|
    (M.spec_l1Least cents1 (y0.1.getD (Int.toNat (order.getD (Int.toNat k1) default)) default)).bind fun y5 =>
    asrt ((0 : Int) ≤ k1 ∧ k1 < (order.length : Int)) <|
    asrt ((0 : Int) ≤ (order.getD (Int.toNat k1) default) ∧ (order.getD (Int.toNat k1) default) < (out_0.length : Int)) <|
    some (.inl ((IntKind.i64.wrap (cents1 - y5)), (out_0.set (Int.toNat (order.getD (Int.toNat k1) default)) (⟨(out_0.getD (Int.toNat (order.getD (Int.toNat k1) default)) default).Id, (out_0.getD (Int.toNat (order.getD (Int.toNat k1) default)) default).Hours, (out_0.getD (Int.toNat (order.getD (Int.toNat k1) default)) default).Pages, (out_0.getD (Int.toNat (order.getD (Int.toNat k1) default)) default).Poor, (out_0.getD (Int.toNat (order.getD (Int.toNat k1) default)) default).Public, (IntKind.i64.wrap (((out_0.getD (Int.toNat (order.getD (Int.toNat k1) default)) default).Paid) + y5))⟩ : Bill)), (IntKind.i64.wrap (k1 + (1 : Int))))))
  else (
    some (.inr (cents1, out_0)))

def M.spec_SpreadPayment (t : Tariff) (list : List Bill) (cents : Int) : Option (List Bill × Int × Bool) :=
  (M.spec_OpenFees t list).bind fun y0 =>
  ((bif (!y0.2) then some default else M.spec_l14Cents cents)).bind fun y1 =>
  bif ((!y0.2) || (!y1)) then (
    some (([] : List Bill), (0 : Int), false))
  else (
    (iterO (M.spec_SpreadPayment_l0 list y0) (([] : List Int), (0 : Int))).bind fun e => match e with
    | order =>
      (asrt ((([] : List Bill).length : Int) + (list.length : Int) ≤ 2147483648) <|
      (iterO (M.spec_SpreadPayment_l2 y0 order) (cents, (([] : List Bill) ++ list), (0 : Int))).bind fun e => match e with
      | (cents0, out_) =>
        (some (out_, cents0, true))))

def M.laws_rBills_l0 (a : List Bill) (b_ : List Bill) : (Int) → Option ((Int) ⊕ ((Unit) ⊕ (Bool))) := fun st_ => match st_ with
| i =>
  bif (decide (i < (a.length : Int))) then (
    asrt ((0 : Int) ≤ i ∧ i < (a.length : Int)) <|
    asrt ((0 : Int) ≤ i ∧ i < (b_.length : Int)) <|
    bif (!((((a.getD (Int.toNat i) default).Id) == ((b_.getD (Int.toNat i) default).Id)) && ((((a.getD (Int.toNat i) default).Hours) == ((b_.getD (Int.toNat i) default).Hours)) && ((((a.getD (Int.toNat i) default).Pages) == ((b_.getD (Int.toNat i) default).Pages)) && ((((a.getD (Int.toNat i) default).Poor) == ((b_.getD (Int.toNat i) default).Poor)) && ((((a.getD (Int.toNat i) default).Public) == ((b_.getD (Int.toNat i) default).Public)) && ((((a.getD (Int.toNat i) default).Paid) == ((b_.getD (Int.toNat i) default).Paid)) && true))))))) then (
      some (.inr (.inr false)))
    else (
      some (.inl (IntKind.i64.wrap (i + (1 : Int))))))
  else (
    some (.inr (.inl ())))

def M.laws_rBills (a : List Bill) (b_ : List Bill) : Option Bool :=
  bif ((a.length : Int) != (b_.length : Int)) then (
    some false)
  else (
    (iterO (M.laws_rBills_l0 a b_) (0 : Int)).bind fun e => match e with
    | .inl () =>
      (some true)
    | .inr r => some r)

def M.impl_OpenFees_l0 (t : Tariff) (list : List Bill) : (List Int × Int) → Option ((List Int × Int) ⊕ (List Int)) := fun st_ => match st_ with
| (out_0, v) =>
  bif (decide (v < (list.length : Int))) then (
    asrt ((0 : Int) ≤ v ∧ v < (list.length : Int)) <|
    (M.impl_Tariff_open t (list.getD (Int.toNat v) default)).bind fun y3 =>
    asrt ((out_0.length : Int) + (([y3] : List Int).length : Int) ≤ 2147483648) <|
    some (.inl ((out_0 ++ ([y3] : List Int)), (IntKind.i64.wrap (v + (1 : Int))))))
  else (
    some (.inr out_0))

def M.impl_OpenFees (t : Tariff) (list : List Bill) : Option (List Int × Bool) :=
  (M.impl_IsTariff t).bind fun y0 =>
  ((bif (!y0) then some default else M.impl_AreBills list)).bind fun y1 =>
  bif ((!y0) || (!y1)) then (
    some (([] : List Int), false))
  else (
    (iterO (M.impl_OpenFees_l0 t list) (([] : List Int), (0 : Int))).bind fun e => match e with
    | out_ =>
      (some (out_, true)))

def M.laws_rSum_l0 (list : List Int) : (Int × Int) → Option ((Int × Int) ⊕ (Int)) := fun st_ => match st_ with
| (n_0, i) =>
  bif (decide (i < (list.length : Int))) then (
    asrt ((0 : Int) ≤ i ∧ i < (list.length : Int)) <|
    some (.inl ((IntKind.i64.wrap (n_0 + (list.getD (Int.toNat i) default))), (IntKind.i64.wrap (i + (1 : Int))))))
  else (
    some (.inr n_0))

def M.laws_rSum (list : List Int) : Option Int :=
  (iterO (M.laws_rSum_l0 list) ((0 : Int), (0 : Int))).bind fun e => match e with
  | n_ =>
    (some n_)

def M.spec_DrawOpenFees (code : List Int) : Option (Tariff × List Bill) :=
  (M.spec_l1Cur_tariff (⟨code, (0 : Int), (0 : Int)⟩ : Cur)).bind fun y0 =>
  (M.spec_l1Cur_bills y0.2).bind fun y1 =>
  some (y0.1, y1.1)

def M.laws_rInts_l0 (a : List Int) (b_ : List Int) : (Int) → Option ((Int) ⊕ ((Unit) ⊕ (Bool))) := fun st_ => match st_ with
| i =>
  bif (decide (i < (a.length : Int))) then (
    asrt ((0 : Int) ≤ i ∧ i < (a.length : Int)) <|
    asrt ((0 : Int) ≤ i ∧ i < (b_.length : Int)) <|
    bif ((a.getD (Int.toNat i) default) != (b_.getD (Int.toNat i) default)) then (
      some (.inr (.inr false)))
    else (
      some (.inl (IntKind.i64.wrap (i + (1 : Int))))))
  else (
    some (.inr (.inl ())))

def M.laws_rInts (a : List Int) (b_ : List Int) : Option Bool :=
  bif ((a.length : Int) != (b_.length : Int)) then (
    some false)
  else (
    (iterO (M.laws_rInts_l0 a b_) (0 : Int)).bind fun e => match e with
    | .inl () =>
      (some true)
    | .inr r => some r)

def M.impl_OverPaid_l0 (t : Tariff) (list : List Bill) : (List Int × Int × Int) → Option ((List Int × Int × Int) ⊕ (List Int × Int)) := fun st_ => match st_ with
| (ids0, sum_0, v) =>
  bif (decide (v < (list.length : Int))) then (
    (((
      asrt ((0 : Int) ≤ v ∧ v < (list.length : Int)) <|
      (M.impl_Tariff_fee t (list.getD (Int.toNat v) default)).bind fun y3 =>
      bif (decide ((IntKind.i64.wrap (((list.getD (Int.toNat v) default).Paid) - y3)) > (0 : Int))) then (
        asrt ((ids0.length : Int) + (([(list.getD (Int.toNat v) default).Id] : List Int).length : Int) ≤ 2147483648) <|
        some ((ids0 ++ ([(list.getD (Int.toNat v) default).Id] : List Int)), (IntKind.i64.wrap (sum_0 + (IntKind.i64.wrap (((list.getD (Int.toNat v) default).Paid) - y3))))))
      else (
        some (ids0, sum_0))) : Option (List Int × Int))).bind fun e => match e with
    | (ids1, sum_1) =>
      (some (.inl (ids1, sum_1, (IntKind.i64.wrap (v + (1 : Int)))))))
  else (
    some (.inr (ids0, sum_0)))

def M.impl_OverPaid (t : Tariff) (list : List Bill) : Option (List Int × Int × Bool) :=
  (M.impl_IsTariff t).bind fun y0 =>
  ((bif (!y0) then some default else M.impl_AreBills list)).bind fun y1 =>
  bif ((!y0) || (!y1)) then (
    some (([] : List Int), (0 : Int), false))
  else (
    (iterO (M.impl_OverPaid_l0 t list) (([] : List Int), (0 : Int), (0 : Int))).bind fun e => match e with
    | (ids, sum_) =>
      (some (ids, sum_, true)))

def M.spec_OverPaid_l0 (t : Tariff) (list : List Bill) : (List Int × Int × Int) → Option ((List Int × Int × Int) ⊕ (List Int × Int)) := fun st_ => match st_ with
| (out_0, sum_0, i) =>
  bif (decide (i < (list.length : Int))) then (
    (((
      asrt ((0 : Int) ≤ i ∧ i < (list.length : Int)) <|
      asrt ((0 : Int) ≤ i ∧ i < (list.length : Int)) <|
      (M.spec_l14Fee t (list.getD (Int.toNat i) default)).bind fun y3 =>
      bif (decide ((IntKind.i64.wrap (((list.getD (Int.toNat i) default).Paid) - y3)) > (0 : Int))) then (
        asrt ((0 : Int) ≤ i ∧ i < (list.length : Int)) <|
        asrt ((out_0.length : Int) + (([(list.getD (Int.toNat i) default).Id] : List Int).length : Int) ≤ 2147483648) <|
        some ((out_0 ++ ([(list.getD (Int.toNat i) default).Id] : List Int)), (IntKind.i64.wrap (sum_0 + (IntKind.i64.wrap (((list.getD (Int.toNat i) default).Paid) - y3))))))
      else (
        some (out_0, sum_0))) : Option (List Int × Int))).bind fun e => match e with
    | (out_1, sum_1) =>
      (some (.inl (out_1, sum_1, (IntKind.i64.wrap (i + (1 : Int)))))))
  else (
    some (.inr (out_0, sum_0)))

def M.spec_OverPaid (t : Tariff) (list : List Bill) : Option (List Int × Int × Bool) :=
  (M.spec_l14Tariff t).bind fun y0 =>
  ((bif (!y0) then some default else M.spec_l14Good list)).bind fun y1 =>
  bif ((!y0) || (!y1)) then (
    some (([] : List Int), (0 : Int), false))
  else (
    (iterO (M.spec_OverPaid_l0 t list) (([] : List Int), (0 : Int), (0 : Int))).bind fun e => match e with
    | (out_, sum_) =>
      (some (out_, sum_, true)))

def M.laws_rHas_l0 (list : List Int) (x : Int) : (Int) → Option ((Int) ⊕ ((Unit) ⊕ (Bool))) := fun st_ => match st_ with
| i =>
  bif (decide (i < (list.length : Int))) then (
    asrt ((0 : Int) ≤ i ∧ i < (list.length : Int)) <|
    bif ((list.getD (Int.toNat i) default) == x) then (
      some (.inr (.inr true)))
    else (
      some (.inl (IntKind.i64.wrap (i + (1 : Int))))))
  else (
    some (.inr (.inl ())))

def M.laws_rHas (list : List Int) (x : Int) : Option Bool :=
  (iterO (M.laws_rHas_l0 list x) (0 : Int)).bind fun e => match e with
  | .inl () =>
    (some false)
  | .inr r => some r

def M.spec_DrawPayBill (code : List Int) : Option (List Bill × Int × Int) :=
  (M.spec_l1Cur_bills (⟨code, (0 : Int), (0 : Int)⟩ : Cur)).bind fun y0 =>
  ((bif (decide ((y0.1.length : Int) > (0 : Int))) then M.spec_l1Cur_one y0.2 (8 : Int) else some default)).bind fun y1 =>
  bif ((decide ((y0.1.length : Int) > (0 : Int))) && (!y1.1)) then (
    (M.spec_l1Cur_pick (bif (decide ((y0.1.length : Int) > (0 : Int))) then y1.2 else y0.2) (y0.1.length : Int)).bind fun y2 =>
    asrt ((0 : Int) ≤ y2.1 ∧ y2.1 < (y0.1.length : Int)) <|
    (M.spec_l1Cur_cents14 y2.2).bind fun y3 =>
    some (y0.1, (y0.1.getD (Int.toNat y2.1) default).Id, y3.1))
  else (
    (M.spec_l1Cur_among (bif (decide ((y0.1.length : Int) > (0 : Int))) then y1.2 else y0.2) ([(0 : Int), (1 : Int), (500 : Int)] : List Int)).bind fun y4 =>
    (M.spec_l1Cur_cents14 y4.2).bind fun y5 =>
    some (y0.1, y4.1, y5.1))

def M.impl_PayBill_1 (b_ : Bill) (id_c : Int) : Option Bool :=
  some (b_.Id == id_c)

def M.slices_IndexFunc_impl_Bill_impl_Bill_l0 (s : List Bill) (fm : Bill → Option Bool) : (Int) → Option ((Int) ⊕ ((Unit) ⊕ (Int))) := fun st_ => match st_ with
| v =>
  bif (decide (v < (s.length : Int))) then (
    asrt ((0 : Int) ≤ v ∧ v < (s.length : Int)) <|
    (fm (s.getD (Int.toNat v) default)).bind fun y1 =>
    bif y1 then (
      some (.inr (.inr v)))
    else (
      some (.inl (IntKind.i64.wrap (v + (1 : Int))))))
  else (
    some (.inr (.inl ())))

def M.slices_IndexFunc_impl_Bill_impl_Bill (s : List Bill) (fm : Bill → Option Bool) : Option Int :=
  (iterO (M.slices_IndexFunc_impl_Bill_impl_Bill_l0 s fm) (0 : Int)).bind fun e => match e with
  | .inl () =>
    (some (-1 : Int))
  | .inr r => some r

def M.impl_PayBill (list : List Bill) (id_ : Int) (cents : Int) : Option (List Bill × Bool) :=
  (M.slices_IndexFunc_impl_Bill_impl_Bill list (fun x0 => M.impl_PayBill_1 x0 id_)).bind fun y0 =>
  (M.impl_AreBills list).bind fun y1 =>
  ((bif ((!y1) || (decide (y0 < (0 : Int)))) then some default else M.impl_isCents cents)).bind fun y2 =>
  bif (((!y1) || (decide (y0 < (0 : Int)))) || (!y2)) then (
    some (([] : List Bill), false))
  else (
    (M.slices_Clone_impl_Bill_impl_Bill list).bind fun y3 =>
    asrt ((0 : Int) ≤ y0 ∧ y0 < (y3.length : Int)) <|
    asrt ((0 : Int) ≤ y0 ∧ y0 < (y3.length : Int)) <|
    (M.impl_AreBills (y3.set (Int.toNat y0) (⟨(y3.getD (Int.toNat y0) default).Id, (y3.getD (Int.toNat y0) default).Hours, (y3.getD (Int.toNat y0) default).Pages, (y3.getD (Int.toNat y0) default).Poor, (y3.getD (Int.toNat y0) default).Public, (IntKind.i64.wrap (((y3.getD (Int.toNat y0) default).Paid) + cents))⟩ : Bill))).bind fun y4 =>
    bif (!y4) then (
      some (([] : List Bill), false))
    else (
      some ((y3.set (Int.toNat y0) (⟨(y3.getD (Int.toNat y0) default).Id, (y3.getD (Int.toNat y0) default).Hours, (y3.getD (Int.toNat y0) default).Pages, (y3.getD (Int.toNat y0) default).Poor, (y3.getD (Int.toNat y0) default).Public, (IntKind.i64.wrap (((y3.getD (Int.toNat y0) default).Paid) + cents))⟩ : Bill)), true)))

def M.spec_PayBill_l0 (id_ : Int) (cents : Int) : (List Bill × Bool × Int) → Option ((List Bill × Bool × Int) ⊕ (List Bill × Bool)) := fun st_ => match st_ with
| (out_0, found0, i) =>
  bif (decide (i < (out_0.length : Int))) then (
    (((
      asrt ((0 : Int) ≤ i ∧ i < (out_0.length : Int)) <|
      bif (((out_0.getD (Int.toNat i) default).Id) == id_) then (
        asrt ((0 : Int) ≤ i ∧ i < (out_0.length : Int)) <|
        some ((out_0.set (Int.toNat i) (⟨(out_0.getD (Int.toNat i) default).Id, (out_0.getD (Int.toNat i) default).Hours, (out_0.getD (Int.toNat i) default).Pages, (out_0.getD (Int.toNat i) default).Poor, (out_0.getD (Int.toNat i) default).Public, (IntKind.i64.wrap (((out_0.getD (Int.toNat i) default).Paid) + cents))⟩ : Bill)), true))
      else (
        some (out_0, found0))) : Option (List Bill × Bool))).bind fun e => match e with
    | (out_1, found1) =>
      (some (.inl (out_1, found1, (IntKind.i64.wrap (i + (1 : Int)))))))
  else (
    some (.inr (out_0, found0)))

def M.spec_PayBill (list : List Bill) (id_ : Int) (cents : Int) : Option (List Bill × Bool) :=
  (M.spec_l14Good list).bind fun y0 =>
  ((bif (!y0) then some default else M.spec_l14Cents cents)).bind fun y1 =>
  bif ((!y0) || (!y1)) then (
    some (([] : List Bill), false))
  else (
    asrt ((([] : List Bill).length : Int) + (list.length : Int) ≤ 2147483648) <|
    (iterO (M.spec_PayBill_l0 id_ cents) ((([] : List Bill) ++ list), false, (0 : Int))).bind fun e => match e with
    | (out_, found) =>
      (((bif (!found) then some default else M.spec_l14Good out_)).bind fun y3 =>
      bif ((!found) || (!y3)) then (
        some (([] : List Bill), false))
      else (
        some (out_, true))))

def M.laws_FnPayments_l0 (y11 : Tariff × List Bill) (y12 : List Int × Bool) (y15 : List Int × Int × Bool) : (Int) → Option ((Int) ⊕ ((Unit) ⊕ (Bool))) := fun st_ => match st_ with
| i =>
  bif ((decide (i < (y11.2.length : Int))) && y12.2) then (
    asrt ((0 : Int) ≤ i ∧ i < (y11.2.length : Int)) <|
    (M.laws_rHas y15.1 ((y11.2.getD (Int.toNat i) default).Id)).bind fun y19 =>
    asrt (y19 = true → ((0 : Int) ≤ i ∧ i < (y12.1.length : Int))) <|
    bif (y19 && ((y12.1.getD (Int.toNat i) default) != (0 : Int))) then (
      some (.inr (.inr false)))
    else (
      some (.inl (IntKind.i64.wrap (i + (1 : Int))))))
  else (
    some (.inr (.inl ())))

def M.laws_FnPayments (code : List Int) : Option Bool :=
  (M.laws_rBig code).bind fun y0 =>
  bif y0 then (
    some true)
  else (
    (M.spec_DrawSpreadPayment code).bind fun y1 =>
    (M.impl_SpreadPayment y1.1 y1.2.1 y1.2.2).bind fun y2 =>
    (M.spec_SpreadPayment y1.1 y1.2.1 y1.2.2).bind fun y3 =>
    ((bif ((!(y2.2.2 == y3.2.2)) || (y2.2.1 != y3.2.1)) then some default else M.laws_rBills y2.1 y3.1)).bind fun y4 =>
    bif (((!(y2.2.2 == y3.2.2)) || (y2.2.1 != y3.2.1)) || (!y4)) then (
      some false)
    else (
      (((
        bif y2.2.2 then (
          (M.impl_OpenFees y1.1 y1.2.1).bind fun y5 =>
          (M.impl_OpenFees y1.1 y2.1).bind fun y6 =>
          ((bif ((!y5.2) || (!y6.2)) then some default else M.laws_rSum y5.1)).bind fun y7 =>
          ((bif ((!y5.2) || (!y6.2)) then some default else M.laws_rSum y6.1)).bind fun y8 =>
          ((bif (((!y5.2) || (!y6.2)) || ((IntKind.i64.wrap (y7 - y8)) != (IntKind.i64.wrap (y1.2.2 - y2.2.1)))) then some default else (bif (decide (y2.2.1 > (0 : Int))) then M.laws_rSum y6.1 else some default))).bind fun y9 =>
          ((bif (((((!y5.2) || (!y6.2)) || ((IntKind.i64.wrap (y7 - y8)) != (IntKind.i64.wrap (y1.2.2 - y2.2.1)))) || ((decide (y2.2.1 > (0 : Int))) && (y9 != (0 : Int)))) || (decide (y2.2.1 < (0 : Int)))) then some default else M.impl_AreBills y2.1)).bind fun y10 =>
          bif ((((((!y5.2) || (!y6.2)) || ((IntKind.i64.wrap (y7 - y8)) != (IntKind.i64.wrap (y1.2.2 - y2.2.1)))) || ((decide (y2.2.1 > (0 : Int))) && (y9 != (0 : Int)))) || (decide (y2.2.1 < (0 : Int)))) || (!y10)) then (
            some (.inr false))
          else (
            some (.inl ())))
        else (
          some (.inl ()))) : Option ((Unit) ⊕ (Bool)))).bind fun e => match e with
      | .inl () =>
        ((M.spec_DrawOpenFees code).bind fun y11 =>
        (M.impl_OpenFees y11.1 y11.2).bind fun y12 =>
        (M.spec_OpenFees y11.1 y11.2).bind fun y13 =>
        ((bif (!(y12.2 == y13.2)) then some default else M.laws_rInts y12.1 y13.1)).bind fun y14 =>
        bif ((!(y12.2 == y13.2)) || (!y14)) then (
          some false)
        else (
          (M.impl_OverPaid y11.1 y11.2).bind fun y15 =>
          (M.spec_OverPaid y11.1 y11.2).bind fun y16 =>
          ((bif (((!(y15.2.2 == y16.2.2)) || (!(y15.2.2 == y12.2))) || (y15.2.1 != y16.2.1)) then some default else M.laws_rInts y15.1 y16.1)).bind fun y17 =>
          bif (((((!(y15.2.2 == y16.2.2)) || (!(y15.2.2 == y12.2))) || (y15.2.1 != y16.2.1)) || (!y17)) || (decide (y15.2.1 < (0 : Int)))) then (
            some false)
          else (
            (iterO (M.laws_FnPayments_l0 y11 y12 y15) (0 : Int)).bind fun e => match e with
            | .inl () =>
              ((M.spec_DrawPayBill code).bind fun y20 =>
              (M.impl_PayBill y20.1 y20.2.1 y20.2.2).bind fun y21 =>
              (M.spec_PayBill y20.1 y20.2.1 y20.2.2).bind fun y22 =>
              ((bif (y21.2 == y22.2) then M.laws_rBills y21.1 y22.1 else some default)).bind fun y23 =>
              some ((y21.2 == y22.2) && y23))
            | .inr r => some r)))
      | .inr r => some r))
end Go.Proofs.Ythffmnpbonkpaaa
