/- models of the functions -/
import Derived.Test.YthcmelnpcaijaaaGreatDoorWt
set_option linter.unusedSimpArgs false
set_option linter.unusedVariables false
set_option maxRecDepth 100000
namespace Go.Proofs.YthcmelnpcaijaaaGreatDoor
open Go.VS

structure Cur where
  Code : List Int
  At : Int
  Seed : Int
  deriving Inhabited, DecidableEq

abbrev encCur (ρ : Nat) (c : Cur) : PV := .agg [.vl ρ 1 (List.map encU8 c.Code), .int .i64 c.At, .int .u64 c.Seed]

structure Rule where
  Series : Int
  Event : Int
  Days : Int
  Act : Int
  deriving Inhabited, DecidableEq

abbrev encRule (c : Rule) : PV := .agg [.int .i64 c.Series, .int .i64 c.Event, .int .i64 c.Days, .int .i64 c.Act]

def M.laws_vBig (code : List Int) : Option Bool :=
  some (decide ((code.length : Int) > (65536 : Int)))

def M.spec_l1Cur_next (c : Cur) : Option (Int × Cur) :=
  (((
    bif (decide (c.At < (c.Code.length : Int))) then (
      asrt ((0 : Int) ≤ c.At ∧ c.At < (c.Code.length : Int)) <|
      some (IntKind.i64.wrap (c.Code.getD (Int.toNat c.At) default)))
    else (
      some (0 : Int))) : Option Int)).bind fun e => match e with
  | b_ =>
    (bif (decide ((IntKind.i64.wrap (c.At + (1 : Int))) ≤ (c.Code.length : Int))) then (
      some (b_, (⟨c.Code, (IntKind.i64.wrap (c.At + (1 : Int))), (IntKind.u64.wrap ((IntKind.u64.wrap ((IntKind.u64.wrap (c.Seed * (6364136223846793005 : Int))) + (IntKind.u64.wrap b_))) + (103535 : Int)))⟩ : Cur)))
    else (
      some ((IntKind.i64.wrap (IntKind.u64.wrap (BitVec.ofInt IntKind.u64.bits (Int.fdiv (IntKind.u64.wrap ((IntKind.u64.wrap ((IntKind.u64.wrap (c.Seed * (6364136223846793005 : Int))) + (IntKind.u64.wrap b_))) + (103535 : Int))) (2 ^ (min (Int.toNat (40 : Int)) IntKind.u64.bits))) &&& BitVec.ofInt IntKind.u64.bits (255 : Int)).toNat)), (⟨c.Code, (IntKind.i64.wrap (c.At + (1 : Int))), (IntKind.u64.wrap ((IntKind.u64.wrap ((IntKind.u64.wrap (c.Seed * (6364136223846793005 : Int))) + (IntKind.u64.wrap b_))) + (103535 : Int)))⟩ : Cur))))

def M.spec_l1Cur_pick (c : Cur) (n : Int) : Option (Int × Cur) :=
  bif (decide (n ≤ (1 : Int))) then (
    some ((0 : Int), c))
  else (
    (M.spec_l1Cur_next c).bind fun y0 =>
    (((
      bif (decide (n > (200 : Int))) then (
        (M.spec_l1Cur_next y0.2).bind fun y1 =>
        some ((IntKind.i64.wrap ((IntKind.i64.wrap (y0.1 * (256 : Int))) + y1.1)), y1.2))
      else (
        some (y0.1, y0.2))) : Option (Int × Cur))).bind fun e => match e with
    | (x, c_) =>
      (asrt (n ≠ 0) <|
      some ((Int.tmod x n), c_)))

def M.spec_l1Cur_among (c : Cur) (list : List Int) : Option (Int × Cur) :=
  (M.spec_l1Cur_pick c (list.length : Int)).bind fun y0 =>
  asrt ((0 : Int) ≤ y0.1 ∧ y0.1 < (list.length : Int)) <|
  some ((list.getD (Int.toNat y0.1) default), y0.2)

def M.spec_l1Cur_rule (c : Cur) : Option (Rule × Cur) :=
  (M.spec_l1Cur_among c ([(1 : Int), (2 : Int), (3 : Int), (3 : Int), (7 : Int), (99 : Int)] : List Int)).bind fun y0 =>
  (M.spec_l1Cur_among y0.2 ([(0 : Int), (0 : Int), (1 : Int), (2 : Int), (3 : Int), (9 : Int)] : List Int)).bind fun y1 =>
  (M.spec_l1Cur_among y1.2 ([(0 : Int), (30 : Int), (365 : Int), (400 : Int), (3650 : Int), (20000 : Int)] : List Int)).bind fun y2 =>
  (M.spec_l1Cur_pick y2.2 (3 : Int)).bind fun y3 =>
  (M.spec_l1Cur_pick y3.2 (48 : Int)).bind fun y4 =>
  (((
    bif (y4.1 == (0 : Int)) then (
      (M.spec_l1Cur_among y4.2 ([(0 : Int), (100 : Int)] : List Int)).bind fun y5 =>
      some (y5.2, (⟨y5.1, y1.1, y2.1, (IntKind.i64.wrap ((1 : Int) + y3.1))⟩ : Rule)))
    else (
      bif (y4.1 == (1 : Int)) then (
        (M.spec_l1Cur_among y4.2 ([(-1 : Int), (10 : Int)] : List Int)).bind fun y6 =>
        some (y6.2, (⟨y0.1, y6.1, y2.1, (IntKind.i64.wrap ((1 : Int) + y3.1))⟩ : Rule)))
      else (
        bif (y4.1 == (2 : Int)) then (
          (M.spec_l1Cur_among y4.2 ([(-1 : Int), (20001 : Int)] : List Int)).bind fun y7 =>
          some (y7.2, (⟨y0.1, y1.1, y7.1, (IntKind.i64.wrap ((1 : Int) + y3.1))⟩ : Rule)))
        else (
          bif (y4.1 == (3 : Int)) then (
            (M.spec_l1Cur_among y4.2 ([(0 : Int), (4 : Int)] : List Int)).bind fun y8 =>
            some (y8.2, (⟨y0.1, y1.1, y2.1, y8.1⟩ : Rule)))
          else (
            some (y4.2, (⟨y0.1, y1.1, y2.1, (IntKind.i64.wrap ((1 : Int) + y3.1))⟩ : Rule))))))) : Option (Cur × Rule))).bind fun e => match e with
  | (c_, r_) =>
    (some (r_, c_))

def M.spec_l1In (x : Int) (a : Int) (b_ : Int) : Option Bool :=
  some ((decide (x ≥ a)) && (decide (x ≤ b_)))

def M.spec_l4One (r_ : Rule) : Option Bool :=
  (M.spec_l1In r_.Series (1 : Int) (99 : Int)).bind fun y0 =>
  ((bif y0 then M.spec_l1In r_.Event (0 : Int) (9 : Int) else some default)).bind fun y1 =>
  ((bif (y0 && y1) then M.spec_l1In r_.Days (0 : Int) (20000 : Int) else some default)).bind fun y2 =>
  ((bif ((y0 && y1) && y2) then M.spec_l1In r_.Act (1 : Int) (3 : Int) else some default)).bind fun y3 =>
  some (((y0 && y1) && y2) && y3)

def M.spec_l4Before (a : Rule) (b_ : Rule) : Option Bool :=
  some ((decide (a.Series < b_.Series)) || ((a.Series == b_.Series) && (decide (a.Event < b_.Event))))

def M.spec_l4Good_l0 (list : List Rule) : (Int) → Option ((Int) ⊕ ((Unit) ⊕ (Bool))) := fun st_ => match st_ with
| i =>
  bif (decide (i < (list.length : Int))) then (
    asrt ((0 : Int) ≤ i ∧ i < (list.length : Int)) <|
    (M.spec_l4One (list.getD (Int.toNat i) default)).bind fun y1 =>
    asrt ((!y1) = false → (decide (i > (0 : Int))) = true → ((0 : Int) ≤ (IntKind.i64.wrap (i - (1 : Int))) ∧ (IntKind.i64.wrap (i - (1 : Int))) < (list.length : Int))) <|
    asrt ((!y1) = false → (decide (i > (0 : Int))) = true → ((0 : Int) ≤ i ∧ i < (list.length : Int))) <|
    ((bif (!y1) then some default else (bif (decide (i > (0 : Int))) then M.spec_l4Before (list.getD (Int.toNat (IntKind.i64.wrap (i - (1 : Int)))) default) (list.getD (Int.toNat i) default) else some default))).bind fun y2 =>
    bif ((!y1) || ((decide (i > (0 : Int))) && (!y2))) then (
      some (.inr (.inr false)))
    else (
      some (.inl (IntKind.i64.wrap (i + (1 : Int))))))
  else (
    some (.inr (.inl ())))

def M.spec_l4Good (list : List Rule) : Option Bool :=
  (iterO (M.spec_l4Good_l0 list) (0 : Int)).bind fun e => match e with
  | .inl () =>
    (some (decide ((list.length : Int) ≤ (8 : Int))))
  | .inr r => some r

def M.spec_l4Without_l0 (list : List Rule) (series : Int) (event : Int) : (List Rule × Int) → Option ((List Rule × Int) ⊕ (List Rule)) := fun st_ => match st_ with
| (out_0, i) =>
  bif (decide (i < (list.length : Int))) then (
    (((
      asrt ((0 : Int) ≤ i ∧ i < (list.length : Int)) <|
      asrt ((((list.getD (Int.toNat i) default).Series) != series) = false → ((0 : Int) ≤ i ∧ i < (list.length : Int))) <|
      bif ((((list.getD (Int.toNat i) default).Series) != series) || (((list.getD (Int.toNat i) default).Event) != event)) then (
        asrt ((0 : Int) ≤ i ∧ i < (list.length : Int)) <|
        asrt ((out_0.length : Int) + (([(list.getD (Int.toNat i) default)] : List Rule).length : Int) ≤ 2147483648) <|
        some (out_0 ++ ([(list.getD (Int.toNat i) default)] : List Rule)))
      else (
        some out_0)) : Option (List Rule))).bind fun e => match e with
    | out_1 =>
      (some (.inl (out_1, (IntKind.i64.wrap (i + (1 : Int)))))))
  else (
    some (.inr out_0))

def M.spec_l4Without (list : List Rule) (series : Int) (event : Int) : Option (List Rule) :=
  (iterO (M.spec_l4Without_l0 list series event) (([] : List Rule), (0 : Int))).bind fun e => match e with
  | out_ =>
    (some out_)

def M.spec_PutRule_l0 (r_ : Rule) (y2 : List Rule) : (Int) → Option ((Int) ⊕ (Int)) := fun st_ => match st_ with
| k0 =>
  asrt ((decide (k0 < (y2.length : Int))) = true → ((0 : Int) ≤ k0 ∧ k0 < (y2.length : Int))) <|
  ((bif (decide (k0 < (y2.length : Int))) then M.spec_l4Before (y2.getD (Int.toNat k0) default) r_ else some default)).bind fun y4 =>
  bif ((decide (k0 < (y2.length : Int))) && y4) then (
    some (.inl (IntKind.i64.wrap (k0 + (1 : Int)))))
  else (
    some (.inr k0))

def M.spec_PutRule (list : List Rule) (r_ : Rule) : Option (List Rule × Bool) :=
  (M.spec_l4Good list).bind fun y0 =>
  ((bif (!y0) then some default else M.spec_l4One r_)).bind fun y1 =>
  bif ((!y0) || (!y1)) then (
    some (([] : List Rule), false))
  else (
    (M.spec_l4Without list r_.Series r_.Event).bind fun y2 =>
    (iterO (M.spec_PutRule_l0 r_ y2) (0 : Int)).bind fun e => match e with
    | k =>
      (asrt ((0 : Int) ≤ (0 : Int) ∧ (0 : Int) ≤ k ∧ k ≤ (y2.length : Int)) <|
      asrt ((([] : List Rule).length : Int) + ((slc y2 (0 : Int) k).length : Int) ≤ 2147483648) <|
      asrt (((([] : List Rule) ++ (slc y2 (0 : Int) k)).length : Int) + (([r_] : List Rule).length : Int) ≤ 2147483648) <|
      asrt ((0 : Int) ≤ k ∧ k ≤ (y2.length : Int) ∧ (y2.length : Int) ≤ (y2.length : Int)) <|
      asrt ((((([] : List Rule) ++ (slc y2 (0 : Int) k)) ++ ([r_] : List Rule)).length : Int) + ((slc y2 k (y2.length : Int)).length : Int) ≤ 2147483648) <|
      (M.spec_l4Good (((([] : List Rule) ++ (slc y2 (0 : Int) k)) ++ ([r_] : List Rule)) ++ (slc y2 k (y2.length : Int)))).bind fun y5 =>
      bif (!y5) then (
        some (([] : List Rule), false))
      else (
        some ((((([] : List Rule) ++ (slc y2 (0 : Int) k)) ++ ([r_] : List Rule)) ++ (slc y2 k (y2.length : Int))), true))))

def M.spec_l1Cur_schedule_l0 : (List Rule × Int × Cur) → Option ((List Rule × Int × Cur) ⊕ (List Rule × Cur)) := fun st_ => match st_ with
| (list0, n_, c_0) =>
  bif (decide (n_ > (0 : Int))) then (
    (((
      (M.spec_l1Cur_rule c_0).bind fun y2 =>
      (M.spec_PutRule list0 y2.1).bind fun y3 =>
      bif y3.2 then (
        some (y3.1, y2.2))
      else (
        some (list0, y2.2))) : Option (List Rule × Cur))).bind fun e => match e with
    | (list1, c_1) =>
      (some (.inl (list1, (IntKind.i64.wrap (n_ - (1 : Int))), c_1))))
  else (
    some (.inr (list0, c_0)))

def M.spec_l1Cur_schedule_l1 : (List Rule × Cur) → Option ((List Rule × Cur) ⊕ (List Rule × Cur)) := fun st_ => match st_ with
| (list4, c_4) =>
  (M.spec_l1Cur_pick c_4 (2 : Int)).bind fun y7 =>
  bif (decide ((list4.length : Int) < (IntKind.i64.wrap ((8 : Int) + y7.1)))) then (
    asrt ((list4.length : Int) + (([(⟨(1 : Int), (list4.length : Int), (5 : Int), (3 : Int)⟩ : Rule)] : List Rule).length : Int) ≤ 2147483648) <|
    some (.inl ((list4 ++ ([(⟨(1 : Int), (list4.length : Int), (5 : Int), (3 : Int)⟩ : Rule)] : List Rule)), y7.2)))
  else (
    some (.inr (list4, y7.2)))

def M.spec_l1Cur_schedule (c : Cur) : Option (List Rule × Cur) :=
  (M.spec_l1Cur_pick c (7 : Int)).bind fun y0 =>
  (iterO (M.spec_l1Cur_schedule_l0) (([] : List Rule), y0.1, y0.2)).bind fun e => match e with
  | (list, c_) =>
    ((M.spec_l1Cur_pick c_ (32 : Int)).bind fun y4 =>
    (((
      bif (y4.1 == (0 : Int)) then (
        (M.spec_l1Cur_rule y4.2).bind fun y5 =>
        asrt ((list.length : Int) + (([y5.1] : List Rule).length : Int) ≤ 2147483648) <|
        some ((list ++ ([y5.1] : List Rule)), y5.2))
      else (
        bif (y4.1 == (1 : Int)) then (
          (iterO (M.spec_l1Cur_schedule_l1) (([] : List Rule), y4.2)).bind fun e => match e with
          | (list3, c_3) =>
            (some (list3, c_3)))
        else (
          some (list, y4.2)))) : Option (List Rule × Cur))).bind fun e => match e with
    | (list2, c_2) =>
      (some (list2, c_2)))

def M.spec_DrawIsSchedule (code : List Int) : Option (List Rule) :=
  (M.spec_l1Cur_schedule (⟨code, (0 : Int), (0 : Int)⟩ : Cur)).bind fun y0 =>
  some y0.1

def M.spec_DrawScheduleText (code : List Int) : Option (List Rule) :=
  (M.spec_DrawIsSchedule code).bind fun y0 =>
  some y0

def M.impl_within (n : Int) (low : Int) (high : Int) : Option Bool :=
  some ((decide (low ≤ n)) && (decide (n ≤ high)))

def M.impl_isId (id_ : Int) : Option Bool :=
  (M.impl_within id_ (1 : Int) (99 : Int)).bind fun y0 =>
  some y0

def M.impl_isAct (act : Int) : Option Bool :=
  (M.impl_within act (1 : Int) (3 : Int)).bind fun y0 =>
  some y0

def M.impl_IsRule (r_ : Rule) : Option Bool :=
  (M.impl_isId r_.Series).bind fun y0 =>
  ((bif y0 then M.impl_within r_.Event (0 : Int) (9 : Int) else some default)).bind fun y1 =>
  ((bif (y0 && y1) then M.impl_within r_.Days (0 : Int) (20000 : Int) else some default)).bind fun y2 =>
  ((bif ((y0 && y1) && y2) then M.impl_isAct r_.Act else some default)).bind fun y3 =>
  some (((y0 && y1) && y2) && y3)

def M.cmp_isNaN_int (x : Int) : Option Bool :=
  some (x != x)

def M.cmp_Compare_int (x : Int) (y : Int) : Option Int :=
  (M.cmp_isNaN_int x).bind fun y0 =>
  (M.cmp_isNaN_int y).bind fun y1 =>
  bif y0 then (
    bif y1 then (
      some (0 : Int))
    else (
      some (-1 : Int)))
  else (
    bif y1 then (
      some (1 : Int))
    else (
      bif (decide (x < y)) then (
        some (-1 : Int))
      else (
        bif (decide (x > y)) then (
          some (1 : Int))
        else (
          some (0 : Int)))))

def M.cmp_Or_int_l0 (vals : List Int) : (Int) → Option ((Int) ⊕ ((Unit) ⊕ (Int))) := fun st_ => match st_ with
| v =>
  bif (decide (v < (vals.length : Int))) then (
    asrt ((0 : Int) ≤ v ∧ v < (vals.length : Int)) <|
    bif ((vals.getD (Int.toNat v) default) != (0 : Int)) then (
      some (.inr (.inr (vals.getD (Int.toNat v) default))))
    else (
      some (.inl (IntKind.i64.wrap (v + (1 : Int))))))
  else (
    some (.inr (.inl ())))

def M.cmp_Or_int (vals : List Int) : Option Int :=
  (iterO (M.cmp_Or_int_l0 vals) (0 : Int)).bind fun e => match e with
  | .inl () =>
    (some (0 : Int))
  | .inr r => some r

def M.impl_compareRules (a : Rule) (b_ : Rule) : Option Int :=
  (M.cmp_Compare_int a.Series b_.Series).bind fun y0 =>
  (M.cmp_Compare_int a.Event b_.Event).bind fun y1 =>
  (M.cmp_Or_int ([y0, y1] : List Int)).bind fun y2 =>
  some y2

def M.impl_IsSchedule_l0 (list : List Rule) : (Int) → Option ((Int) ⊕ ((Unit) ⊕ (Bool))) := fun st_ => match st_ with
| v =>
  bif (decide (v < (list.length : Int))) then (
    asrt ((0 : Int) ≤ v ∧ v < (list.length : Int)) <|
    (M.impl_IsRule (list.getD (Int.toNat v) default)).bind fun y1 =>
    asrt ((!y1) = false → (decide (v > (0 : Int))) = true → ((0 : Int) ≤ (IntKind.i64.wrap (v - (1 : Int))) ∧ (IntKind.i64.wrap (v - (1 : Int))) < (list.length : Int))) <|
    ((bif (!y1) then some default else (bif (decide (v > (0 : Int))) then M.impl_compareRules (list.getD (Int.toNat (IntKind.i64.wrap (v - (1 : Int)))) default) (list.getD (Int.toNat v) default) else some default))).bind fun y2 =>
    bif ((!y1) || ((decide (v > (0 : Int))) && (decide (y2 ≥ (0 : Int))))) then (
      some (.inr (.inr false)))
    else (
      some (.inl (IntKind.i64.wrap (v + (1 : Int))))))
  else (
    some (.inr (.inl ())))

def M.impl_IsSchedule (list : List Rule) : Option Bool :=
  (iterO (M.impl_IsSchedule_l0 list) (0 : Int)).bind fun e => match e with
  | .inl () =>
    (some (decide ((list.length : Int) ≤ (8 : Int))))
  | .inr r => some r

def M.strconv_Itoa (n : Int) : Option (List UInt8) := asrt (-9223372036854775808 ≤ n ∧ n ≤ 9223372036854775807) <| some (Go.Lib.itoa n)

def M.impl_decimal (n : Int) : Option (List UInt8) :=
  (M.strconv_Itoa n).bind fun y0 =>
  some y0

def M.strings_Join (elems : List (List UInt8)) (sep : List UInt8) : Option (List UInt8) := asrt (elems.length ≤ 140737488355328 ∧ (Go.Lib.join elems sep).length ≤ 140737488355328) <| some (Go.Lib.join elems sep)

def M.impl_scheduleText_l0 (list : List Rule) : (List (List UInt8) × Int) → Option ((List (List UInt8) × Int) ⊕ (List (List UInt8))) := fun st_ => match st_ with
| (words0, v) =>
  bif (decide (v < (list.length : Int))) then (
    asrt ((0 : Int) ≤ v ∧ v < (list.length : Int)) <|
    (M.impl_decimal ((list.getD (Int.toNat v) default).Series)).bind fun y1 =>
    asrt (y1.length + ([46]).length ≤ 9223372036854775807) <|
    (M.impl_decimal ((list.getD (Int.toNat v) default).Event)).bind fun y2 =>
    asrt ((y1 ++ ([46])).length + y2.length ≤ 9223372036854775807) <|
    asrt (((y1 ++ ([46])) ++ y2).length + ([43]).length ≤ 9223372036854775807) <|
    (M.impl_decimal ((list.getD (Int.toNat v) default).Days)).bind fun y3 =>
    asrt ((((y1 ++ ([46])) ++ y2) ++ ([43])).length + y3.length ≤ 9223372036854775807) <|
    asrt ((0 : Int) ≤ (IntKind.i64.wrap (((list.getD (Int.toNat v) default).Act) - (1 : Int))) ∧ (IntKind.i64.wrap (((list.getD (Int.toNat v) default).Act) - (1 : Int))) ≤ ((list.getD (Int.toNat v) default).Act) ∧ ((list.getD (Int.toNat v) default).Act) ≤ (([107, 116, 100] : List UInt8).length : Int)) <|
    asrt (((((y1 ++ ([46])) ++ y2) ++ ([43])) ++ y3).length + (slc ([107, 116, 100] : List UInt8) (IntKind.i64.wrap (((list.getD (Int.toNat v) default).Act) - (1 : Int))) ((list.getD (Int.toNat v) default).Act)).length ≤ 9223372036854775807) <|
    asrt ((words0.length : Int) + (([(((((y1 ++ ([46])) ++ y2) ++ ([43])) ++ y3) ++ (slc ([107, 116, 100] : List UInt8) (IntKind.i64.wrap (((list.getD (Int.toNat v) default).Act) - (1 : Int))) ((list.getD (Int.toNat v) default).Act)))] : List (List UInt8)).length : Int) ≤ 2147483648) <|
    some (.inl ((words0 ++ ([(((((y1 ++ ([46])) ++ y2) ++ ([43])) ++ y3) ++ (slc ([107, 116, 100] : List UInt8) (IntKind.i64.wrap (((list.getD (Int.toNat v) default).Act) - (1 : Int))) ((list.getD (Int.toNat v) default).Act)))] : List (List UInt8))), (IntKind.i64.wrap (v + (1 : Int))))))
  else (
    some (.inr words0))

def M.impl_scheduleText (list : List Rule) : Option (List UInt8) :=
  (iterO (M.impl_scheduleText_l0 list) (([] : List (List UInt8)), (0 : Int))).bind fun e => match e with
  | words =>
    ((M.strings_Join words ([32])).bind fun y4 =>
    some y4)

def M.impl_ScheduleText (list : List Rule) : Option (List UInt8 × Bool) :=
  (M.impl_IsSchedule list).bind fun y0 =>
  bif (!y0) then (
    some ([], false))
  else (
    (M.impl_scheduleText list).bind fun y1 =>
    some (y1, true))

def M.strings_SplitSeq (s sep : List UInt8) : Option (List (List UInt8)) := asrt (sep.length = 1 ∧ s.length ≤ 2147483648) <| some (splitC (sep.getD 0 0) s)

def M.strings_Cut (s sep : List UInt8) : Option (List UInt8 × List UInt8 × Bool) := asrt (s.length < 4294967281) <| some (Go.Lib.cut s sep)

def M.strings_TrimRight (s cutset : List UInt8) : Option (List UInt8) := asrt (s.length ≤ 9223372036854775807 ∧ cutset.length < 4294967281 ∧ cutset.all (fun b => decide (b.toNat < 128)) = true) <| some (Go.Lib.trimRightS s cutset)

def M.strings_Trim (s cutset : List UInt8) : Option (List UInt8) := asrt (s.length ≤ 9223372036854775807 ∧ cutset.length < 4294967281 ∧ cutset.all (fun b => decide (b.toNat < 128)) = true) <| some (Go.Lib.trimS s cutset)

def M.impl_digitsOf_l0 (s : List UInt8) : (Int × Int) → Option ((Int × Int) ⊕ (Int)) := fun st_ => match st_ with
| (n_0, v) =>
  bif (decide (v < (s.length : Int))) then (
    asrt ((0 : Int) ≤ v ∧ v < (s.length : Int)) <|
    some (.inl ((IntKind.i64.wrap ((IntKind.i64.wrap (n_0 * (10 : Int))) + (IntKind.i64.wrap (IntKind.u8.wrap (((s.getD (Int.toNat v) 0).toNat : Int) - (48 : Int)))))), (IntKind.i64.wrap (v + (1 : Int))))))
  else (
    some (.inr n_0))

def M.impl_digitsOf (s : List UInt8) : Option Int :=
  ((bif ((s == ([])) || (decide ((s.length : Int) > (7 : Int)))) then some default else M.strings_Trim s ([48, 49, 50, 51, 52, 53, 54, 55, 56, 57]))).bind fun y0 =>
  bif (((s == ([])) || (decide ((s.length : Int) > (7 : Int)))) || (!(y0 == ([])))) then (
    some (-1 : Int))
  else (
    (iterO (M.impl_digitsOf_l0 s) ((0 : Int), (0 : Int))).bind fun e => match e with
    | n_ =>
      (some n_))

def M.strings_Index (s sub : List UInt8) : Option Int := asrt (s.length < 4294967281) <| some (Go.Lib.index s sub)

def M.impl_ParseSchedule_l0 : (List Rule) → (List UInt8) → Option (List Rule) := fun st_ y_ => match st_ with
| list_x =>
  (M.strings_Cut y_ ([46])).bind fun y1 =>
  (M.strings_Cut y1.2.1 ([43])).bind fun y2 =>
  (M.strings_TrimRight y2.2.1 ([107, 116, 100])).bind fun y3 =>
  (M.impl_digitsOf y1.1).bind fun y4 =>
  (M.impl_digitsOf y2.1).bind fun y5 =>
  (M.impl_digitsOf y3).bind fun y6 =>
  asrt ((0 : Int) ≤ (y3.length : Int) ∧ (y3.length : Int) ≤ (y2.2.1.length : Int) ∧ (y2.2.1.length : Int) ≤ (y2.2.1.length : Int)) <|
  (M.strings_Index ([107, 116, 100]) (slc y2.2.1 (y3.length : Int) (y2.2.1.length : Int))).bind fun y7 =>
  asrt ((list_x.length : Int) + (([(⟨y4, y5, y6, (IntKind.i64.wrap ((1 : Int) + y7))⟩ : Rule)] : List Rule).length : Int) ≤ 2147483648) <|
  some (list_x ++ ([(⟨y4, y5, y6, (IntKind.i64.wrap ((1 : Int) + y7))⟩ : Rule)] : List Rule))

def M.impl_ParseSchedule (s : List UInt8) : Option (List Rule × Bool) :=
  bif (s == ([])) then (
    some (([] : List Rule), true))
  else (
    (M.strings_SplitSeq s ([32])).bind fun y0 =>
    (foldO (M.impl_ParseSchedule_l0) y0 ([] : List Rule)).bind fun e => match e with
    | list_x =>
      ((M.impl_IsSchedule list_x).bind fun y8 =>
      ((bif (!y8) then some default else M.impl_scheduleText list_x)).bind fun y9 =>
      bif ((!y8) || (!(y9 == s))) then (
        some (([] : List Rule), false))
      else (
        some (list_x, true))))

def M.spec_l1Num_s (rec_ : Int → Option (List UInt8)) (n : Int) : Option (List UInt8) :=
  bif (decide (n < (0 : Int))) then (
    (rec_ (IntKind.i64.wrap (0 - n))).bind fun y0 =>
    asrt (([45]).length + y0.length ≤ 9223372036854775807) <|
    some (([45]) ++ y0))
  else (
    bif (decide (n < (10 : Int))) then (
      asrt ((0 : Int) ≤ n ∧ n ≤ (IntKind.i64.wrap (n + (1 : Int))) ∧ (IntKind.i64.wrap (n + (1 : Int))) ≤ (([48, 49, 50, 51, 52, 53, 54, 55, 56, 57] : List UInt8).length : Int)) <|
      some (slc ([48, 49, 50, 51, 52, 53, 54, 55, 56, 57] : List UInt8) n (IntKind.i64.wrap (n + (1 : Int)))))
    else (
      (rec_ (IntKind.i64.wrap (Int.tdiv n (10 : Int)))).bind fun y1 =>
      asrt ((0 : Int) ≤ (Int.tmod n (10 : Int)) ∧ (Int.tmod n (10 : Int)) ≤ (IntKind.i64.wrap ((Int.tmod n (10 : Int)) + (1 : Int))) ∧ (IntKind.i64.wrap ((Int.tmod n (10 : Int)) + (1 : Int))) ≤ (([48, 49, 50, 51, 52, 53, 54, 55, 56, 57] : List UInt8).length : Int)) <|
      asrt (y1.length + (slc ([48, 49, 50, 51, 52, 53, 54, 55, 56, 57] : List UInt8) (Int.tmod n (10 : Int)) (IntKind.i64.wrap ((Int.tmod n (10 : Int)) + (1 : Int)))).length ≤ 9223372036854775807) <|
      some (y1 ++ (slc ([48, 49, 50, 51, 52, 53, 54, 55, 56, 57] : List UInt8) (Int.tmod n (10 : Int)) (IntKind.i64.wrap ((Int.tmod n (10 : Int)) + (1 : Int)))))))

def M.spec_l1Num_r : Nat → Int → Option (List UInt8)
  | 0 => fun _ => none
  | k_ + 1 => M.spec_l1Num_s (M.spec_l1Num_r k_)

def M.spec_l1Num (n : Int) : Option (List UInt8) := M.spec_l1Num_r rounds n

def M.spec_l4Text_l0 (list : List Rule) : (List UInt8 × Int) → Option ((List UInt8 × Int) ⊕ (List UInt8)) := fun st_ => match st_ with
| (s0, i) =>
  bif (decide (i < (list.length : Int))) then (
    (((
      asrt ((0 : Int) ≤ i ∧ i < (list.length : Int)) <|
      (((
        bif (decide (i > (0 : Int))) then (
          asrt (s0.length + ([32]).length ≤ 9223372036854775807) <|
          some (s0 ++ ([32])))
        else (
          some s0)) : Option (List UInt8))).bind fun e => match e with
      | s2 =>
        ((M.spec_l1Num ((list.getD (Int.toNat i) default).Series)).bind fun y1 =>
        asrt (s2.length + y1.length ≤ 9223372036854775807) <|
        asrt ((s2 ++ y1).length + ([46]).length ≤ 9223372036854775807) <|
        (M.spec_l1Num ((list.getD (Int.toNat i) default).Event)).bind fun y2 =>
        asrt (((s2 ++ y1) ++ ([46])).length + y2.length ≤ 9223372036854775807) <|
        asrt ((((s2 ++ y1) ++ ([46])) ++ y2).length + ([43]).length ≤ 9223372036854775807) <|
        (M.spec_l1Num ((list.getD (Int.toNat i) default).Days)).bind fun y3 =>
        asrt (((((s2 ++ y1) ++ ([46])) ++ y2) ++ ([43])).length + y3.length ≤ 9223372036854775807) <|
        asrt ((0 : Int) ≤ ((list.getD (Int.toNat i) default).Act) ∧ ((list.getD (Int.toNat i) default).Act) < (([[], [107], [116], [100]] : List (List UInt8)).length : Int)) <|
        asrt ((((((s2 ++ y1) ++ ([46])) ++ y2) ++ ([43])) ++ y3).length + (([[], [107], [116], [100]] : List (List UInt8)).getD (Int.toNat ((list.getD (Int.toNat i) default).Act)) default).length ≤ 9223372036854775807) <|
        some ((((((s2 ++ y1) ++ ([46])) ++ y2) ++ ([43])) ++ y3) ++ (([[], [107], [116], [100]] : List (List UInt8)).getD (Int.toNat ((list.getD (Int.toNat i) default).Act)) default)))) : Option (List UInt8))).bind fun e => match e with
    | s1 =>
      (some (.inl (s1, (IntKind.i64.wrap (i + (1 : Int)))))))
  else (
    some (.inr s0))

def M.spec_l4Text (list : List Rule) : Option (List UInt8) :=
  (iterO (M.spec_l4Text_l0 list) ([], (0 : Int))).bind fun e => match e with
  | s =>
    (some s)

def M.spec_ScheduleText (list : List Rule) : Option (List UInt8 × Bool) :=
  (M.spec_l4Good list).bind fun y0 =>
  bif (!y0) then (
    some ([], false))
  else (
    (M.spec_l4Text list).bind fun y1 =>
    some (y1, true))

def M.laws_vRules_l0 (a : List Rule) (b_ : List Rule) : (Int) → Option ((Int) ⊕ ((Unit) ⊕ (Bool))) := fun st_ => match st_ with
| i =>
  bif (decide (i < (a.length : Int))) then (
    asrt ((0 : Int) ≤ i ∧ i < (a.length : Int)) <|
    asrt ((0 : Int) ≤ i ∧ i < (b_.length : Int)) <|
    bif (!((((a.getD (Int.toNat i) default).Series) == ((b_.getD (Int.toNat i) default).Series)) && ((((a.getD (Int.toNat i) default).Event) == ((b_.getD (Int.toNat i) default).Event)) && ((((a.getD (Int.toNat i) default).Days) == ((b_.getD (Int.toNat i) default).Days)) && ((((a.getD (Int.toNat i) default).Act) == ((b_.getD (Int.toNat i) default).Act)) && true))))) then (
      some (.inr (.inr false)))
    else (
      some (.inl (IntKind.i64.wrap (i + (1 : Int))))))
  else (
    some (.inr (.inl ())))

def M.laws_vRules (a : List Rule) (b_ : List Rule) : Option Bool :=
  bif ((a.length : Int) != (b_.length : Int)) then (
    some false)
  else (
    (iterO (M.laws_vRules_l0 a b_) (0 : Int)).bind fun e => match e with
    | .inl () =>
      (some true)
    | .inr r => some r)

def M.spec_l1Cur_one (c : Cur) (n : Int) : Option (Bool × Cur) :=
  (M.spec_l1Cur_pick c n).bind fun y0 =>
  some ((y0.1 == (0 : Int)), y0.2)

def M.spec_l1Cur_spoilt (c : Cur) (t : List UInt8) (with_ : List UInt8) : Option (List UInt8 × Cur) :=
  bif (t == ([])) then (
    asrt ((0 : Int) ≤ (0 : Int) ∧ (0 : Int) ≤ (1 : Int) ∧ (1 : Int) ≤ (with_.length : Int)) <|
    some ((slc with_ (0 : Int) (1 : Int)), c))
  else (
    (M.spec_l1Cur_pick c (t.length : Int)).bind fun y0 =>
    (M.spec_l1Cur_pick y0.2 (with_.length : Int)).bind fun y1 =>
    asrt ((0 : Int) ≤ y1.1 ∧ y1.1 ≤ (with_.length : Int) ∧ (with_.length : Int) ≤ (with_.length : Int)) <|
    asrt ((0 : Int) ≤ (0 : Int) ∧ (0 : Int) ≤ (1 : Int) ∧ (1 : Int) ≤ ((slc with_ y1.1 (with_.length : Int)).length : Int)) <|
    (M.spec_l1Cur_pick y1.2 (3 : Int)).bind fun y2 =>
    bif (y2.1 == (0 : Int)) then (
      asrt ((0 : Int) ≤ (0 : Int) ∧ (0 : Int) ≤ y0.1 ∧ y0.1 ≤ (t.length : Int)) <|
      asrt ((slc t (0 : Int) y0.1).length + (slc (slc with_ y1.1 (with_.length : Int)) (0 : Int) (1 : Int)).length ≤ 9223372036854775807) <|
      asrt ((0 : Int) ≤ y0.1 ∧ y0.1 ≤ (t.length : Int) ∧ (t.length : Int) ≤ (t.length : Int)) <|
      asrt (((slc t (0 : Int) y0.1) ++ (slc (slc with_ y1.1 (with_.length : Int)) (0 : Int) (1 : Int))).length + (slc t y0.1 (t.length : Int)).length ≤ 9223372036854775807) <|
      some ((((slc t (0 : Int) y0.1) ++ (slc (slc with_ y1.1 (with_.length : Int)) (0 : Int) (1 : Int))) ++ (slc t y0.1 (t.length : Int))), y2.2))
    else (
      bif (y2.1 == (1 : Int)) then (
        asrt ((0 : Int) ≤ (0 : Int) ∧ (0 : Int) ≤ y0.1 ∧ y0.1 ≤ (t.length : Int)) <|
        asrt ((slc t (0 : Int) y0.1).length + (slc (slc with_ y1.1 (with_.length : Int)) (0 : Int) (1 : Int)).length ≤ 9223372036854775807) <|
        asrt ((0 : Int) ≤ (IntKind.i64.wrap (y0.1 + (1 : Int))) ∧ (IntKind.i64.wrap (y0.1 + (1 : Int))) ≤ (t.length : Int) ∧ (t.length : Int) ≤ (t.length : Int)) <|
        asrt (((slc t (0 : Int) y0.1) ++ (slc (slc with_ y1.1 (with_.length : Int)) (0 : Int) (1 : Int))).length + (slc t (IntKind.i64.wrap (y0.1 + (1 : Int))) (t.length : Int)).length ≤ 9223372036854775807) <|
        some ((((slc t (0 : Int) y0.1) ++ (slc (slc with_ y1.1 (with_.length : Int)) (0 : Int) (1 : Int))) ++ (slc t (IntKind.i64.wrap (y0.1 + (1 : Int))) (t.length : Int))), y2.2))
      else (
        asrt ((0 : Int) ≤ (0 : Int) ∧ (0 : Int) ≤ y0.1 ∧ y0.1 ≤ (t.length : Int)) <|
        asrt ((0 : Int) ≤ (IntKind.i64.wrap (y0.1 + (1 : Int))) ∧ (IntKind.i64.wrap (y0.1 + (1 : Int))) ≤ (t.length : Int) ∧ (t.length : Int) ≤ (t.length : Int)) <|
        asrt ((slc t (0 : Int) y0.1).length + (slc t (IntKind.i64.wrap (y0.1 + (1 : Int))) (t.length : Int)).length ≤ 9223372036854775807) <|
        some (((slc t (0 : Int) y0.1) ++ (slc t (IntKind.i64.wrap (y0.1 + (1 : Int))) (t.length : Int))), y2.2))))

def M.spec_DrawParseSchedule (code : List Int) : Option (List UInt8) :=
  (((
    (M.spec_l1Cur_schedule (⟨code, (0 : Int), (0 : Int)⟩ : Cur)).bind fun y0 =>
    (M.spec_l4Good y0.1).bind fun y1 =>
    bif y1 then (
      (M.spec_l4Text y0.1).bind fun y2 =>
      some (y2, y0.2))
    else (
      some ([51, 46, 48, 43, 51, 54, 53, 48, 100, 32, 51, 46, 49, 43, 52, 48, 48, 116], y0.2))) : Option (List UInt8 × Cur))).bind fun e => match e with
  | (s, c_) =>
    ((M.spec_l1Cur_one c_ (4 : Int)).bind fun y3 =>
    bif y3.1 then (
      (M.spec_l1Cur_spoilt y3.2 s ([46, 43, 107, 116, 100, 32, 48, 49])).bind fun y4 =>
      some y4.1)
    else (
      some s))

def M.spec_l1Split_l0 (s : List UInt8) (b_ : Int) : (List (List UInt8) × Int × Int) → Option ((List (List UInt8) × Int × Int) ⊕ (List (List UInt8) × Int)) := fun st_ => match st_ with
| (out_0, from_0, i) =>
  bif (decide (i < (s.length : Int))) then (
    (((
      asrt ((0 : Int) ≤ i ∧ i < (s.length : Int)) <|
      bif (((s.getD (Int.toNat i) 0).toNat : Int) == b_) then (
        asrt ((0 : Int) ≤ from_0 ∧ from_0 ≤ i ∧ i ≤ (s.length : Int)) <|
        asrt ((out_0.length : Int) + (([(slc s from_0 i)] : List (List UInt8)).length : Int) ≤ 2147483648) <|
        some ((out_0 ++ ([(slc s from_0 i)] : List (List UInt8))), (IntKind.i64.wrap (i + (1 : Int)))))
      else (
        some (out_0, from_0))) : Option (List (List UInt8) × Int))).bind fun e => match e with
    | (out_1, from_1) =>
      (some (.inl (out_1, from_1, (IntKind.i64.wrap (i + (1 : Int)))))))
  else (
    some (.inr (out_0, from_0)))

def M.spec_l1Split (s : List UInt8) (b_ : Int) : Option (List (List UInt8)) :=
  (iterO (M.spec_l1Split_l0 s b_) (([] : List (List UInt8)), (0 : Int), (0 : Int))).bind fun e => match e with
  | (out_, from_) =>
    (asrt ((0 : Int) ≤ from_ ∧ from_ ≤ (s.length : Int) ∧ (s.length : Int) ≤ (s.length : Int)) <|
    asrt ((out_.length : Int) + (([(slc s from_ (s.length : Int))] : List (List UInt8)).length : Int) ≤ 2147483648) <|
    some (out_ ++ ([(slc s from_ (s.length : Int))] : List (List UInt8))))

def M.spec_l1Read_l0 (t_ : List UInt8) : (Int × Int) → Option ((Int × Int) ⊕ ((Int) ⊕ (Int × Bool))) := fun st_ => match st_ with
| (n_0, i) =>
  bif (decide (i < (t_.length : Int))) then (
    asrt ((0 : Int) ≤ i ∧ i < (t_.length : Int)) <|
    asrt ((decide (((t_.getD (Int.toNat i) 0).toNat : Int) < (48 : Int))) = false → ((0 : Int) ≤ i ∧ i < (t_.length : Int))) <|
    bif ((decide (((t_.getD (Int.toNat i) 0).toNat : Int) < (48 : Int))) || (decide (((t_.getD (Int.toNat i) 0).toNat : Int) > (57 : Int)))) then (
      some (.inr (.inr ((0 : Int), false))))
    else (
      asrt ((0 : Int) ≤ i ∧ i < (t_.length : Int)) <|
      some (.inl ((IntKind.i64.wrap ((IntKind.i64.wrap ((10 : Int) * n_0)) + (IntKind.i64.wrap (IntKind.u8.wrap (((t_.getD (Int.toNat i) 0).toNat : Int) - (48 : Int)))))), (IntKind.i64.wrap (i + (1 : Int)))))))
  else (
    some (.inr (.inl n_0)))

def M.spec_l1Read (s : List UInt8) : Option (Int × Bool) :=
  (((
    asrt ((decide ((s.length : Int) > (1 : Int))) = true → ((0 : Int) ≤ (0 : Int) ∧ (0 : Int) < (s.length : Int))) <|
    bif ((decide ((s.length : Int) > (1 : Int))) && (((s.getD (Int.toNat (0 : Int)) 0).toNat : Int) == (45 : Int))) then (
      asrt ((0 : Int) ≤ (1 : Int) ∧ (1 : Int) ≤ (s.length : Int) ∧ (s.length : Int) ≤ (s.length : Int)) <|
      some (slc s (1 : Int) (s.length : Int)))
    else (
      some s)) : Option (List UInt8))).bind fun e => match e with
  | t_ =>
    ((M.spec_l1In (t_.length : Int) (1 : Int) (6 : Int)).bind fun y0 =>
    bif (!y0) then (
      some ((0 : Int), false))
    else (
      (iterO (M.spec_l1Read_l0 t_) ((0 : Int), (0 : Int))).bind fun e => match e with
      | .inl n_ =>
        ((((
          bif (decide ((t_.length : Int) < (s.length : Int))) then (
            some (IntKind.i64.wrap (0 - n_)))
          else (
            some n_)) : Option Int)).bind fun e => match e with
        | n_1 =>
          ((M.spec_l1Num n_1).bind fun y2 =>
          bif (!(y2 == s)) then (
            some ((0 : Int), false))
          else (
            some (n_1, true))))
      | .inr r => some r))

def M.spec_l4Read (word : List UInt8) : Option Rule :=
  bif ((word.length : Int) == (0 : Int)) then (
    some (⟨(0 : Int), (0 : Int), (0 : Int), (0 : Int)⟩ : Rule))
  else (
    (((
      asrt ((0 : Int) ≤ (IntKind.i64.wrap ((word.length : Int) - (1 : Int))) ∧ (IntKind.i64.wrap ((word.length : Int) - (1 : Int))) < (word.length : Int)) <|
      (((
        bif (((word.getD (Int.toNat (IntKind.i64.wrap ((word.length : Int) - (1 : Int)))) 0).toNat : Int) == (107 : Int)) then (
          some (⟨(0 : Int), (0 : Int), (0 : Int), (1 : Int)⟩ : Rule))
        else (
          bif (((word.getD (Int.toNat (IntKind.i64.wrap ((word.length : Int) - (1 : Int)))) 0).toNat : Int) == (116 : Int)) then (
            some (⟨(0 : Int), (0 : Int), (0 : Int), (2 : Int)⟩ : Rule))
          else (
            bif (((word.getD (Int.toNat (IntKind.i64.wrap ((word.length : Int) - (1 : Int)))) 0).toNat : Int) == (100 : Int)) then (
              some (⟨(0 : Int), (0 : Int), (0 : Int), (3 : Int)⟩ : Rule))
            else (
              some (⟨(0 : Int), (0 : Int), (0 : Int), (0 : Int)⟩ : Rule))))) : Option Rule)).bind fun e => match e with
      | r_0 =>
        (some r_0)) : Option Rule)).bind fun e => match e with
    | r_ =>
      (asrt ((0 : Int) ≤ (0 : Int) ∧ (0 : Int) ≤ (IntKind.i64.wrap ((word.length : Int) - (1 : Int))) ∧ (IntKind.i64.wrap ((word.length : Int) - (1 : Int))) ≤ (word.length : Int)) <|
      (M.spec_l1Split (slc word (0 : Int) (IntKind.i64.wrap ((word.length : Int) - (1 : Int)))) (43 : Int)).bind fun y0 =>
      asrt ((0 : Int) ≤ (0 : Int) ∧ (0 : Int) < (y0.length : Int)) <|
      (M.spec_l1Split (y0.getD (Int.toNat (0 : Int)) default) (46 : Int)).bind fun y1 =>
      bif (((y0.length : Int) != (2 : Int)) || ((y1.length : Int) != (2 : Int))) then (
        some (⟨(0 : Int), (0 : Int), (0 : Int), (0 : Int)⟩ : Rule))
      else (
        asrt ((0 : Int) ≤ (0 : Int) ∧ (0 : Int) < (y1.length : Int)) <|
        (M.spec_l1Read (y1.getD (Int.toNat (0 : Int)) default)).bind fun y2 =>
        asrt ((0 : Int) ≤ (1 : Int) ∧ (1 : Int) < (y1.length : Int)) <|
        (M.spec_l1Read (y1.getD (Int.toNat (1 : Int)) default)).bind fun y3 =>
        asrt ((0 : Int) ≤ (1 : Int) ∧ (1 : Int) < (y0.length : Int)) <|
        (M.spec_l1Read (y0.getD (Int.toNat (1 : Int)) default)).bind fun y4 =>
        some (⟨y2.1, y3.1, y4.1, r_.Act⟩ : Rule))))

def M.spec_ParseSchedule_l0 (y0 : List (List UInt8)) : (List Rule × Int) → Option ((List Rule × Int) ⊕ (List Rule)) := fun st_ => match st_ with
| (out_0, i) =>
  bif ((decide (i < (y0.length : Int))) && (decide (i ≤ (8 : Int)))) then (
    asrt ((0 : Int) ≤ i ∧ i < (y0.length : Int)) <|
    (M.spec_l4Read (y0.getD (Int.toNat i) default)).bind fun y2 =>
    asrt ((out_0.length : Int) + (([y2] : List Rule).length : Int) ≤ 2147483648) <|
    some (.inl ((out_0 ++ ([y2] : List Rule)), (IntKind.i64.wrap (i + (1 : Int))))))
  else (
    some (.inr out_0))

def M.spec_ParseSchedule (s : List UInt8) : Option (List Rule × Bool) :=
  bif (s == ([])) then (
    some (([] : List Rule), true))
  else (
    (M.spec_l1Split s (32 : Int)).bind fun y0 =>
    (iterO (M.spec_ParseSchedule_l0 y0) (([] : List Rule), (0 : Int))).bind fun e => match e with
    | out_ =>
      ((M.spec_l4Good out_).bind fun y3 =>
      ((bif (!y3) then some default else M.spec_l4Text out_)).bind fun y4 =>
      bif ((!y3) || (!(y4 == s))) then (
        some (([] : List Rule), false))
      else (
        some (out_, true))))

def M.slices_Index_int_int_l0 (s : List Int) (v : Int) : (Int) → Option ((Int) ⊕ ((Unit) ⊕ (Int))) := fun st_ => match st_ with
| v0 =>
  bif (decide (v0 < (s.length : Int))) then (
    asrt ((0 : Int) ≤ v0 ∧ v0 < (s.length : Int)) <|
    bif (v == (s.getD (Int.toNat v0) default)) then (
      some (.inr (.inr v0)))
    else (
      some (.inl (IntKind.i64.wrap (v0 + (1 : Int))))))
  else (
    some (.inr (.inl ())))

def M.slices_Index_int_int (s : List Int) (v : Int) : Option Int :=
  (iterO (M.slices_Index_int_int_l0 s v) (0 : Int)).bind fun e => match e with
  | .inl () =>
    (some (-1 : Int))
  | .inr r => some r

def M.slices_Contains_int_int (s : List Int) (v : Int) : Option Bool :=
  (M.slices_Index_int_int s v).bind fun y0 =>
  some (decide (y0 ≥ (0 : Int)))

def M.impl_seriesIn_l0 (list : List Rule) : (List Int × Int) → Option ((List Int × Int) ⊕ (List Int)) := fun st_ => match st_ with
| (out_0, v) =>
  bif (decide (v < (list.length : Int))) then (
    (((
      asrt ((0 : Int) ≤ v ∧ v < (list.length : Int)) <|
      (M.slices_Contains_int_int out_0 ((list.getD (Int.toNat v) default).Series)).bind fun y1 =>
      bif (!y1) then (
        asrt ((out_0.length : Int) + (([(list.getD (Int.toNat v) default).Series] : List Int).length : Int) ≤ 2147483648) <|
        some (out_0 ++ ([(list.getD (Int.toNat v) default).Series] : List Int)))
      else (
        some out_0)) : Option (List Int))).bind fun e => match e with
    | out_1 =>
      (some (.inl (out_1, (IntKind.i64.wrap (v + (1 : Int)))))))
  else (
    some (.inr out_0))

def M.impl_seriesIn (list : List Rule) : Option (List Int) :=
  (iterO (M.impl_seriesIn_l0 list) (([] : List Int), (0 : Int))).bind fun e => match e with
  | out_ =>
    (some out_)

def M.impl_SeriesIn (list : List Rule) : Option (List Int × Bool) :=
  (M.impl_IsSchedule list).bind fun y0 =>
  bif (!y0) then (
    some (([] : List Int), false))
  else (
    (M.impl_seriesIn list).bind fun y1 =>
    some (y1, true))

def M.spec_l1Has_l0 (l : List Int) (n : Int) : (Int) → Option ((Int) ⊕ ((Unit) ⊕ (Bool))) := fun st_ => match st_ with
| i =>
  bif (decide (i < (l.length : Int))) then (
    asrt ((0 : Int) ≤ i ∧ i < (l.length : Int)) <|
    bif ((l.getD (Int.toNat i) default) == n) then (
      some (.inr (.inr true)))
    else (
      some (.inl (IntKind.i64.wrap (i + (1 : Int))))))
  else (
    some (.inr (.inl ())))

def M.spec_l1Has (l : List Int) (n : Int) : Option Bool :=
  (iterO (M.spec_l1Has_l0 l n) (0 : Int)).bind fun e => match e with
  | .inl () =>
    (some false)
  | .inr r => some r

def M.spec_SeriesIn_l0 (list : List Rule) : (List Int × Int) → Option ((List Int × Int) ⊕ (List Int)) := fun st_ => match st_ with
| (out_0, i) =>
  bif (decide (i < (list.length : Int))) then (
    (((
      asrt ((0 : Int) ≤ i ∧ i < (list.length : Int)) <|
      (M.spec_l1Has out_0 ((list.getD (Int.toNat i) default).Series)).bind fun y2 =>
      bif (!y2) then (
        asrt ((0 : Int) ≤ i ∧ i < (list.length : Int)) <|
        asrt ((out_0.length : Int) + (([(list.getD (Int.toNat i) default).Series] : List Int).length : Int) ≤ 2147483648) <|
        some (out_0 ++ ([(list.getD (Int.toNat i) default).Series] : List Int)))
      else (
        some out_0)) : Option (List Int))).bind fun e => match e with
    | out_1 =>
      (some (.inl (out_1, (IntKind.i64.wrap (i + (1 : Int)))))))
  else (
    some (.inr out_0))

def M.spec_SeriesIn (list : List Rule) : Option (List Int × Bool) :=
  (M.spec_l4Good list).bind fun y0 =>
  bif (!y0) then (
    some (([] : List Int), false))
  else (
    (iterO (M.spec_SeriesIn_l0 list) (([] : List Int), (0 : Int))).bind fun e => match e with
    | out_ =>
      (some (out_, true)))

def M.laws_vInts_l0 (a : List Int) (b_ : List Int) : (Int) → Option ((Int) ⊕ ((Unit) ⊕ (Bool))) := fun st_ => match st_ with
| i =>
  bif (decide (i < (a.length : Int))) then (
    asrt ((0 : Int) ≤ i ∧ i < (a.length : Int)) <|
    asrt ((0 : Int) ≤ i ∧ i < (b_.length : Int)) <|
    bif ((a.getD (Int.toNat i) default) != (b_.getD (Int.toNat i) default)) then (
      some (.inr (.inr false)))
    else (
      some (.inl (IntKind.i64.wrap (i + (1 : Int))))))
  else (
    some (.inr (.inl ())))

def M.laws_vInts (a : List Int) (b_ : List Int) : Option Bool :=
  bif ((a.length : Int) != (b_.length : Int)) then (
    some false)
  else (
    (iterO (M.laws_vInts_l0 a b_) (0 : Int)).bind fun e => match e with
    | .inl () =>
      (some true)
    | .inr r => some r)

def M.impl_rulesFor_l0 (list : List Rule) (series : Int) : (List Rule × Int) → Option ((List Rule × Int) ⊕ (List Rule)) := fun st_ => match st_ with
| (out_0, v) =>
  bif (decide (v < (list.length : Int))) then (
    (((
      asrt ((0 : Int) ≤ v ∧ v < (list.length : Int)) <|
      bif (((list.getD (Int.toNat v) default).Series) == series) then (
        asrt ((out_0.length : Int) + (([(list.getD (Int.toNat v) default)] : List Rule).length : Int) ≤ 2147483648) <|
        some (out_0 ++ ([(list.getD (Int.toNat v) default)] : List Rule)))
      else (
        some out_0)) : Option (List Rule))).bind fun e => match e with
    | out_1 =>
      (some (.inl (out_1, (IntKind.i64.wrap (v + (1 : Int)))))))
  else (
    some (.inr out_0))

def M.impl_rulesFor (list : List Rule) (series : Int) : Option (List Rule) :=
  (iterO (M.impl_rulesFor_l0 list series) (([] : List Rule), (0 : Int))).bind fun e => match e with
  | out_ =>
    (some out_)

def M.impl_RulesFor (list : List Rule) (series : Int) : Option (List Rule × Bool) :=
  (M.impl_IsSchedule list).bind fun y0 =>
  ((bif (!y0) then some default else M.impl_isId series)).bind fun y1 =>
  bif ((!y0) || (!y1)) then (
    some (([] : List Rule), false))
  else (
    (M.impl_rulesFor list series).bind fun y2 =>
    some (y2, true))

def M.spec_DrawRulesFor (code : List Int) : Option (List Rule × Int) :=
  (M.spec_l1Cur_schedule (⟨code, (0 : Int), (0 : Int)⟩ : Cur)).bind fun y0 =>
  (M.spec_l1Cur_among y0.2 ([(1 : Int), (2 : Int), (3 : Int), (3 : Int), (7 : Int), (99 : Int), (0 : Int), (100 : Int)] : List Int)).bind fun y1 =>
  some (y0.1, y1.1)

def M.spec_l4For_l0 (list : List Rule) (series : Int) : (List Rule × Int) → Option ((List Rule × Int) ⊕ (List Rule)) := fun st_ => match st_ with
| (out_0, i) =>
  bif (decide (i < (list.length : Int))) then (
    (((
      asrt ((0 : Int) ≤ i ∧ i < (list.length : Int)) <|
      bif (((list.getD (Int.toNat i) default).Series) == series) then (
        asrt ((0 : Int) ≤ i ∧ i < (list.length : Int)) <|
        asrt ((out_0.length : Int) + (([(list.getD (Int.toNat i) default)] : List Rule).length : Int) ≤ 2147483648) <|
        some (out_0 ++ ([(list.getD (Int.toNat i) default)] : List Rule)))
      else (
        some out_0)) : Option (List Rule))).bind fun e => match e with
    | out_1 =>
      (some (.inl (out_1, (IntKind.i64.wrap (i + (1 : Int)))))))
  else (
    some (.inr out_0))

def M.spec_l4For (list : List Rule) (series : Int) : Option (List Rule) :=
  (iterO (M.spec_l4For_l0 list series) (([] : List Rule), (0 : Int))).bind fun e => match e with
  | out_ =>
    (some out_)

def M.spec_RulesFor (list : List Rule) (series : Int) : Option (List Rule × Bool) :=
  (M.spec_l4Good list).bind fun y0 =>
  ((bif (!y0) then some default else M.spec_l1In series (1 : Int) (99 : Int))).bind fun y1 =>
  bif ((!y0) || (!y1)) then (
    some (([] : List Rule), false))
  else (
    (M.spec_l4For list series).bind fun y2 =>
    some (y2, true))

def M.laws_FnSchedules_l0 (y1 : List Rule) (y12 : List Int × Bool) : (Int × Int) → Option ((Int × Int) ⊕ ((Int) ⊕ (Bool))) := fun st_ => match st_ with
| (n_0, i) =>
  bif (decide (i < (y12.1.length : Int))) then (
    asrt ((0 : Int) ≤ i ∧ i < (y12.1.length : Int)) <|
    (M.impl_RulesFor y1 (y12.1.getD (Int.toNat i) default)).bind fun y16 =>
    bif ((!y16.2) || ((y16.1.length : Int) == (0 : Int))) then (
      some (.inr (.inr false)))
    else (
      some (.inl ((IntKind.i64.wrap (n_0 + (y16.1.length : Int))), (IntKind.i64.wrap (i + (1 : Int)))))))
  else (
    some (.inr (.inl n_0)))

def M.laws_FnSchedules (code : List Int) : Option Bool :=
  (M.laws_vBig code).bind fun y0 =>
  bif y0 then (
    some true)
  else (
    (M.spec_DrawScheduleText code).bind fun y1 =>
    (M.impl_ScheduleText y1).bind fun y2 =>
    (M.impl_ParseSchedule y2.1).bind fun y3 =>
    (M.spec_ScheduleText y1).bind fun y4 =>
    ((bif ((!(y2.1 == y4.1)) || (!(y2.2 == y4.2))) then some default else M.impl_IsSchedule y1)).bind fun y5 =>
    ((bif (((!(y2.1 == y4.1)) || (!(y2.2 == y4.2))) || (!(y2.2 == y5))) then some default else (bif y2.2 then (bif (!y3.2) then some default else M.laws_vRules y3.1 y1) else some default))).bind fun y6 =>
    bif ((((!(y2.1 == y4.1)) || (!(y2.2 == y4.2))) || (!(y2.2 == y5))) || (y2.2 && ((!y3.2) || (!y6)))) then (
      some false)
    else (
      (M.spec_DrawParseSchedule code).bind fun y7 =>
      (M.impl_ParseSchedule y7).bind fun y8 =>
      (M.impl_ScheduleText y8.1).bind fun y9 =>
      (M.spec_ParseSchedule y7).bind fun y10 =>
      ((bif (!(y8.2 == y10.2)) then some default else M.laws_vRules y8.1 y10.1)).bind fun y11 =>
      bif (((!(y8.2 == y10.2)) || (!y11)) || (y8.2 && ((!y9.2) || (!(y9.1 == y7))))) then (
        some false)
      else (
        (M.impl_SeriesIn y1).bind fun y12 =>
        (M.spec_SeriesIn y1).bind fun y13 =>
        ((bif ((!(y12.2 == y13.2)) || (!(y12.2 == y2.2))) then some default else M.laws_vInts y12.1 y13.1)).bind fun y14 =>
        bif (((!(y12.2 == y13.2)) || (!(y12.2 == y2.2))) || (!y14)) then (
          some false)
        else (
          (iterO (M.laws_FnSchedules_l0 y1 y12) ((0 : Int), (0 : Int))).bind fun e => match e with
          | .inl n_ =>
            (bif (y12.2 && (n_ != (y1.length : Int))) then (
              some false)
            else (
              (M.spec_DrawRulesFor code).bind fun y17 =>
              (M.impl_RulesFor y17.1 y17.2).bind fun y18 =>
              (M.spec_RulesFor y17.1 y17.2).bind fun y19 =>
              ((bif (y18.2 == y19.2) then M.laws_vRules y18.1 y19.1 else some default)).bind fun y20 =>
              some ((y18.2 == y19.2) && y20)))
          | .inr r => some r))))
end Go.Proofs.YthcmelnpcaijaaaGreatDoor
