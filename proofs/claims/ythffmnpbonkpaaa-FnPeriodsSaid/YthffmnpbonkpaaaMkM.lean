/- models of the functions -/
import Derived.Test.YthffmnpbonkpaaaWh
set_option linter.unusedSimpArgs false
set_option linter.unusedVariables false
set_option maxRecDepth 100000
namespace Go.Proofs.Ythffmnpbonkpaaa
open Go.VS

structure Cur where
  Code : List Int
  At : Int
  Seed : Int
  deriving Inhabited, DecidableEq

abbrev encCur (ρ : Nat) (c : Cur) : PV := .agg [.vl ρ 1 (List.map encU8 c.Code), .int .i64 c.At, .int .u64 c.Seed]

structure Event where
  Kind : Int
  Day : Int
  deriving Inhabited, DecidableEq

abbrev encEvent (c : Event) : PV := .agg [.int .i64 c.Kind, .int .i64 c.Day]

structure Record where
  Id : Int
  Series : Int
  Made : Int
  Events : List Event
  deriving Inhabited, DecidableEq

abbrev encRecord (ρ : Nat) (c : Record) : PV := .agg [.int .i64 c.Id, .int .i64 c.Series, .int .i64 c.Made, .vl ρ 2 (List.map encEvent c.Events)]

structure Rule where
  Series : Int
  Event : Int
  Days : Int
  Act : Int
  deriving Inhabited, DecidableEq

abbrev encRule (c : Rule) : PV := .agg [.int .i64 c.Series, .int .i64 c.Event, .int .i64 c.Days, .int .i64 c.Act]

def M.laws_vBig (code : List Int) : Option Bool :=
  some (decide ((code.length : Int) > (65536 : Int)))

def M.spec_l1Cur_next (c : Cur) : Option (Int × Cur) :=
  (((
    bif (decide (c.At < (c.Code.length : Int))) then (
      asrt ((0 : Int) ≤ c.At ∧ c.At < (c.Code.length : Int)) <|
      some (IntKind.i64.wrap (c.Code.getD (Int.toNat c.At) default)))
    else (
      some (0 : Int))) : Option Int)).bind fun e => match e with
  | b_ =>
    (bif (decide ((IntKind.i64.wrap (c.At + (1 : Int))) ≤ (c.Code.length : Int))) then (
      some (b_, (⟨c.Code, (IntKind.i64.wrap (c.At + (1 : Int))), (IntKind.u64.wrap ((IntKind.u64.wrap ((IntKind.u64.wrap (c.Seed * (6364136223846793005 : Int))) + (IntKind.u64.wrap b_))) + (103535 : Int)))⟩ : Cur)))
    else (
      some ((IntKind.i64.wrap (IntKind.u64.wrap (BitVec.ofInt IntKind.u64.bits (Int.fdiv (IntKind.u64.wrap ((IntKind.u64.wrap ((IntKind.u64.wrap (c.Seed * (6364136223846793005 : Int))) + (IntKind.u64.wrap b_))) + (103535 : Int))) (2 ^ (min (Int.toNat (40 : Int)) IntKind.u64.bits))) &&& BitVec.ofInt IntKind.u64.bits (255 : Int)).toNat)), (⟨c.Code, (IntKind.i64.wrap (c.At + (1 : Int))), (IntKind.u64.wrap ((IntKind.u64.wrap ((IntKind.u64.wrap (c.Seed * (6364136223846793005 : Int))) + (IntKind.u64.wrap b_))) + (103535 : Int)))⟩ : Cur))))

def M.spec_l1Cur_pick (c : Cur) (n : Int) : Option (Int × Cur) :=
  bif (decide (n ≤ (1 : Int))) then (
    some ((0 : Int), c))
  else (
    (M.spec_l1Cur_next c).bind fun y0 =>
    (((
      bif (decide (n > (200 : Int))) then (
        (M.spec_l1Cur_next y0.2).bind fun y1 =>
        some ((IntKind.i64.wrap ((IntKind.i64.wrap (y0.1 * (256 : Int))) + y1.1)), y1.2))
      else (
        some (y0.1, y0.2))) : Option (Int × Cur))).bind fun e => match e with
    | (x, c_) =>
      (asrt (n ≠ 0) <|
      some ((Int.tmod x n), c_)))

def M.spec_l1Cur_among (c : Cur) (list : List Int) : Option (Int × Cur) :=
  (M.spec_l1Cur_pick c (list.length : Int)).bind fun y0 =>
  asrt ((0 : Int) ≤ y0.1 ∧ y0.1 < (list.length : Int)) <|
  some ((list.getD (Int.toNat y0.1) default), y0.2)

def M.spec_l1Cur_one (c : Cur) (n : Int) : Option (Bool × Cur) :=
  (M.spec_l1Cur_pick c n).bind fun y0 =>
  some ((y0.1 == (0 : Int)), y0.2)

def M.spec_l1Cur_record_l0 (y1 : Int × Cur) : (Int × List Event × Cur) → Option ((Int × List Event × Cur) ⊕ (List Event × Cur)) := fun st_ => match st_ with
| (k, r_Events0, c_0) =>
  bif (decide (k ≤ (6 : Int))) then (
    (((
      (M.spec_l1Cur_one c_0 (3 : Int)).bind fun y3 =>
      bif y3.1 then (
        (M.spec_l1Cur_among y3.2 ([(0 : Int), (1 : Int), (30 : Int), (365 : Int), (1000 : Int)] : List Int)).bind fun y4 =>
        asrt ((r_Events0.length : Int) + (([(⟨k, (IntKind.i64.wrap (y1.1 + y4.1))⟩ : Event)] : List Event).length : Int) ≤ 2147483648) <|
        (((
          some ((r_Events0 ++ ([(⟨k, (IntKind.i64.wrap (y1.1 + y4.1))⟩ : Event)] : List Event)), y4.2)) : Option (List Event × Cur))).bind fun e => match e with
        | (r_Events2, c_2) =>
          (some (r_Events2, c_2)))
      else (
        some (r_Events0, y3.2))) : Option (List Event × Cur))).bind fun e => match e with
    | (r_Events1, c_1) =>
      (some (.inl ((IntKind.i64.wrap (k + (1 : Int))), r_Events1, c_1))))
  else (
    some (.inr (r_Events0, c_0)))

def M.spec_l1Cur_record (c : Cur) (id_ : Int) : Option (Record × Cur) :=
  (M.spec_l1Cur_among c ([(1 : Int), (2 : Int), (3 : Int), (3 : Int), (7 : Int), (99 : Int)] : List Int)).bind fun y0 =>
  (M.spec_l1Cur_among y0.2 ([(0 : Int), (100 : Int), (100 : Int), (500 : Int), (3000 : Int)] : List Int)).bind fun y1 =>
  (iterO (M.spec_l1Cur_record_l0 y1) ((1 : Int), ([] : List Event), y1.2)).bind fun e => match e with
  | (r_Events, c_) =>
    ((M.spec_l1Cur_pick c_ (48 : Int)).bind fun y5 =>
    (((
      bif (y5.1 == (0 : Int)) then (
        (M.spec_l1Cur_among y5.2 ([(0 : Int), (100 : Int)] : List Int)).bind fun y6 =>
        some (y6.1, y1.1, r_Events, y6.2))
      else (
        bif (y5.1 == (1 : Int)) then (
          (M.spec_l1Cur_among y5.2 ([(-1 : Int), (20001 : Int), (19999 : Int)] : List Int)).bind fun y7 =>
          some (y0.1, y7.1, r_Events, y7.2))
        else (
          bif (y5.1 == (2 : Int)) then (
            (M.spec_l1Cur_among y5.2 ([(1 : Int), (9 : Int), (10 : Int)] : List Int)).bind fun y8 =>
            (M.spec_l1Cur_among y8.2 ([(0 : Int), (20000 : Int)] : List Int)).bind fun y9 =>
            asrt ((r_Events.length : Int) + (([(⟨y8.1, y9.1⟩ : Event)] : List Event).length : Int) ≤ 2147483648) <|
            (((
              some ((r_Events ++ ([(⟨y8.1, y9.1⟩ : Event)] : List Event)), y9.2)) : Option (List Event × Cur))).bind fun e => match e with
            | (r_Events4, o) =>
              (some (y0.1, y1.1, r_Events4, o)))
          else (
            some (y0.1, y1.1, r_Events, y5.2))))) : Option (Int × Int × List Event × Cur))).bind fun e => match e with
    | (r_Series, r_Made, r_Events3, c_3) =>
      (some ((⟨id_, r_Series, r_Made, r_Events3⟩ : Record), c_3)))

def M.spec_l1Cur_rule (c : Cur) : Option (Rule × Cur) :=
  (M.spec_l1Cur_among c ([(1 : Int), (2 : Int), (3 : Int), (3 : Int), (7 : Int), (99 : Int)] : List Int)).bind fun y0 =>
  (M.spec_l1Cur_among y0.2 ([(0 : Int), (0 : Int), (1 : Int), (2 : Int), (3 : Int), (9 : Int)] : List Int)).bind fun y1 =>
  (M.spec_l1Cur_among y1.2 ([(0 : Int), (30 : Int), (365 : Int), (400 : Int), (3650 : Int), (20000 : Int)] : List Int)).bind fun y2 =>
  (M.spec_l1Cur_pick y2.2 (3 : Int)).bind fun y3 =>
  (M.spec_l1Cur_pick y3.2 (48 : Int)).bind fun y4 =>
  (((
    bif (y4.1 == (0 : Int)) then (
      (M.spec_l1Cur_among y4.2 ([(0 : Int), (100 : Int)] : List Int)).bind fun y5 =>
      some (y5.2, (⟨y5.1, y1.1, y2.1, (IntKind.i64.wrap ((1 : Int) + y3.1))⟩ : Rule)))
    else (
      bif (y4.1 == (1 : Int)) then (
        (M.spec_l1Cur_among y4.2 ([(-1 : Int), (10 : Int)] : List Int)).bind fun y6 =>
        some (y6.2, (⟨y0.1, y6.1, y2.1, (IntKind.i64.wrap ((1 : Int) + y3.1))⟩ : Rule)))
      else (
        bif (y4.1 == (2 : Int)) then (
          (M.spec_l1Cur_among y4.2 ([(-1 : Int), (20001 : Int)] : List Int)).bind fun y7 =>
          some (y7.2, (⟨y0.1, y1.1, y7.1, (IntKind.i64.wrap ((1 : Int) + y3.1))⟩ : Rule)))
        else (
          bif (y4.1 == (3 : Int)) then (
            (M.spec_l1Cur_among y4.2 ([(0 : Int), (4 : Int)] : List Int)).bind fun y8 =>
            some (y8.2, (⟨y0.1, y1.1, y2.1, y8.1⟩ : Rule)))
          else (
            some (y4.2, (⟨y0.1, y1.1, y2.1, (IntKind.i64.wrap ((1 : Int) + y3.1))⟩ : Rule))))))) : Option (Cur × Rule))).bind fun e => match e with
  | (c_, r_) =>
    (some (r_, c_))

def M.spec_l1In (x : Int) (a : Int) (b_ : Int) : Option Bool :=
  some ((decide (x ≥ a)) && (decide (x ≤ b_)))

def M.spec_l4One (r_ : Rule) : Option Bool :=
  (M.spec_l1In r_.Series (1 : Int) (99 : Int)).bind fun y0 =>
  ((bif y0 then M.spec_l1In r_.Event (0 : Int) (9 : Int) else some default)).bind fun y1 =>
  ((bif (y0 && y1) then M.spec_l1In r_.Days (0 : Int) (20000 : Int) else some default)).bind fun y2 =>
  ((bif ((y0 && y1) && y2) then M.spec_l1In r_.Act (1 : Int) (3 : Int) else some default)).bind fun y3 =>
  some (((y0 && y1) && y2) && y3)

def M.spec_l4Before (a : Rule) (b_ : Rule) : Option Bool :=
  some ((decide (a.Series < b_.Series)) || ((a.Series == b_.Series) && (decide (a.Event < b_.Event))))

def M.spec_l4Good_l0 (list : List Rule) : (Int) → Option ((Int) ⊕ ((Unit) ⊕ (Bool))) := fun st_ => match st_ with
| i =>
  bif (decide (i < (list.length : Int))) then (
    asrt ((0 : Int) ≤ i ∧ i < (list.length : Int)) <|
    (M.spec_l4One (list.getD (Int.toNat i) default)).bind fun y1 =>
    asrt ((!y1) = false → (decide (i > (0 : Int))) = true → ((0 : Int) ≤ (IntKind.i64.wrap (i - (1 : Int))) ∧ (IntKind.i64.wrap (i - (1 : Int))) < (list.length : Int))) <|
    asrt ((!y1) = false → (decide (i > (0 : Int))) = true → ((0 : Int) ≤ i ∧ i < (list.length : Int))) <|
    ((bif (!y1) then some default else (bif (decide (i > (0 : Int))) then M.spec_l4Before (list.getD (Int.toNat (IntKind.i64.wrap (i - (1 : Int)))) default) (list.getD (Int.toNat i) default) else some default))).bind fun y2 =>
    bif ((!y1) || ((decide (i > (0 : Int))) && (!y2))) then (
      some (.inr (.inr false)))
    else (
      some (.inl (IntKind.i64.wrap (i + (1 : Int))))))
  else (
    some (.inr (.inl ())))

def M.spec_l4Good (list : List Rule) : Option Bool :=
  (iterO (M.spec_l4Good_l0 list) (0 : Int)).bind fun e => match e with
  | .inl () =>
    (some (decide ((list.length : Int) ≤ (8 : Int))))
  | .inr r => some r

def M.spec_l4Without_l0 (list : List Rule) (series : Int) (event : Int) : (List Rule × Int) → Option ((List Rule × Int) ⊕ (List Rule)) := fun st_ => match st_ with
| (out_0, i) =>
  bif (decide (i < (list.length : Int))) then (
    (((
      asrt ((0 : Int) ≤ i ∧ i < (list.length : Int)) <|
      asrt ((((list.getD (Int.toNat i) default).Series) != series) = false → ((0 : Int) ≤ i ∧ i < (list.length : Int))) <|
      bif ((((list.getD (Int.toNat i) default).Series) != series) || (((list.getD (Int.toNat i) default).Event) != event)) then (
        asrt ((0 : Int) ≤ i ∧ i < (list.length : Int)) <|
        asrt ((out_0.length : Int) + (([(list.getD (Int.toNat i) default)] : List Rule).length : Int) ≤ 2147483648) <|
        some (out_0 ++ ([(list.getD (Int.toNat i) default)] : List Rule)))
      else (
        some out_0)) : Option (List Rule))).bind fun e => match e with
    | out_1 =>
      (some (.inl (out_1, (IntKind.i64.wrap (i + (1 : Int)))))))
  else (
    some (.inr out_0))

def M.spec_l4Without (list : List Rule) (series : Int) (event : Int) : Option (List Rule) :=
  (iterO (M.spec_l4Without_l0 list series event) (([] : List Rule), (0 : Int))).bind fun e => match e with
  | out_ =>
    (some out_)

def M.spec_PutRule_l0 (r_ : Rule) (y2 : List Rule) : (Int) → Option ((Int) ⊕ (Int)) := fun st_ => match st_ with
| k0 =>
  asrt ((decide (k0 < (y2.length : Int))) = true → ((0 : Int) ≤ k0 ∧ k0 < (y2.length : Int))) <|
  ((bif (decide (k0 < (y2.length : Int))) then M.spec_l4Before (y2.getD (Int.toNat k0) default) r_ else some default)).bind fun y4 =>
  bif ((decide (k0 < (y2.length : Int))) && y4) then (
    some (.inl (IntKind.i64.wrap (k0 + (1 : Int)))))
  else (
    some (.inr k0))

def M.spec_PutRule (list : List Rule) (r_ : Rule) : Option (List Rule × Bool) :=
  (M.spec_l4Good list).bind fun y0 =>
  ((bif (!y0) then some default else M.spec_l4One r_)).bind fun y1 =>
  bif ((!y0) || (!y1)) then (
    some (([] : List Rule), false))
  else (
    (M.spec_l4Without list r_.Series r_.Event).bind fun y2 =>
    (iterO (M.spec_PutRule_l0 r_ y2) (0 : Int)).bind fun e => match e with
    | k =>
      (asrt ((0 : Int) ≤ (0 : Int) ∧ (0 : Int) ≤ k ∧ k ≤ (y2.length : Int)) <|
      asrt ((([] : List Rule).length : Int) + ((slc y2 (0 : Int) k).length : Int) ≤ 2147483648) <|
      asrt (((([] : List Rule) ++ (slc y2 (0 : Int) k)).length : Int) + (([r_] : List Rule).length : Int) ≤ 2147483648) <|
      asrt ((0 : Int) ≤ k ∧ k ≤ (y2.length : Int) ∧ (y2.length : Int) ≤ (y2.length : Int)) <|
      asrt ((((([] : List Rule) ++ (slc y2 (0 : Int) k)) ++ ([r_] : List Rule)).length : Int) + ((slc y2 k (y2.length : Int)).length : Int) ≤ 2147483648) <|
      (((
        some (((([] : List Rule) ++ (slc y2 (0 : Int) k)) ++ ([r_] : List Rule)) ++ (slc y2 k (y2.length : Int)))) : Option (List Rule))).bind fun e => match e with
      | out_ =>
        ((M.spec_l4Good out_).bind fun y5 =>
        bif (!y5) then (
          some (([] : List Rule), false))
        else (
          some (out_, true)))))

def M.spec_l1Cur_schedule_l0 : (List Rule × Int × Cur) → Option ((List Rule × Int × Cur) ⊕ (List Rule × Cur)) := fun st_ => match st_ with
| (list0, n_, c_0) =>
  bif (decide (n_ > (0 : Int))) then (
    (((
      (M.spec_l1Cur_rule c_0).bind fun y2 =>
      (M.spec_PutRule list0 y2.1).bind fun y3 =>
      bif y3.2 then (
        some (y3.1, y2.2))
      else (
        some (list0, y2.2))) : Option (List Rule × Cur))).bind fun e => match e with
    | (list1, c_1) =>
      (some (.inl (list1, (IntKind.i64.wrap (n_ - (1 : Int))), c_1))))
  else (
    some (.inr (list0, c_0)))

def M.spec_l1Cur_schedule_l1 : (List Rule × Cur) → Option ((List Rule × Cur) ⊕ (List Rule × Cur)) := fun st_ => match st_ with
| (list4, c_4) =>
  (M.spec_l1Cur_pick c_4 (2 : Int)).bind fun y7 =>
  bif (decide ((list4.length : Int) < (IntKind.i64.wrap ((8 : Int) + y7.1)))) then (
    asrt ((list4.length : Int) + (([(⟨(1 : Int), (list4.length : Int), (5 : Int), (3 : Int)⟩ : Rule)] : List Rule).length : Int) ≤ 2147483648) <|
    some (.inl ((list4 ++ ([(⟨(1 : Int), (list4.length : Int), (5 : Int), (3 : Int)⟩ : Rule)] : List Rule)), y7.2)))
  else (
    some (.inr (list4, y7.2)))

def M.spec_l1Cur_schedule (c : Cur) : Option (List Rule × Cur) :=
  (M.spec_l1Cur_pick c (7 : Int)).bind fun y0 =>
  (iterO (M.spec_l1Cur_schedule_l0) (([] : List Rule), y0.1, y0.2)).bind fun e => match e with
  | (list, c_) =>
    ((M.spec_l1Cur_pick c_ (32 : Int)).bind fun y4 =>
    (((
      bif (y4.1 == (0 : Int)) then (
        (M.spec_l1Cur_rule y4.2).bind fun y5 =>
        asrt ((list.length : Int) + (([y5.1] : List Rule).length : Int) ≤ 2147483648) <|
        some ((list ++ ([y5.1] : List Rule)), y5.2))
      else (
        bif (y4.1 == (1 : Int)) then (
          (iterO (M.spec_l1Cur_schedule_l1) (([] : List Rule), y4.2)).bind fun e => match e with
          | (list3, c_3) =>
            (some (list3, c_3)))
        else (
          some (list, y4.2)))) : Option (List Rule × Cur))).bind fun e => match e with
    | (list2, c_2) =>
      (some (list2, c_2)))

def M.spec_l1Cur_suited_l0 (r_ : Record) : (List Rule × Int × Cur) → Option ((List Rule × Int × Cur) ⊕ (List Rule × Cur)) := fun st_ => match st_ with
| (list0, n_, c_0) =>
  ((bif (decide (n_ > (0 : Int))) then M.spec_l4Good list0 else some default)).bind fun y3 =>
  bif ((decide (n_ > (0 : Int))) && y3) then (
    (((
      (M.spec_l1Cur_among c_0 ([(0 : Int), (0 : Int), (1 : Int), (2 : Int), (3 : Int)] : List Int)).bind fun y4 =>
      (M.spec_l1Cur_among y4.2 ([(0 : Int), (30 : Int), (365 : Int), (1000 : Int)] : List Int)).bind fun y5 =>
      (M.spec_l1Cur_pick y5.2 (3 : Int)).bind fun y6 =>
      (((
        some y6.2) : Option Cur)).bind fun e => match e with
      | c_2 =>
        ((((
          ((bif (decide ((r_.Events.length : Int) > (0 : Int))) then M.spec_l1Cur_one c_2 (2 : Int) else some default)).bind fun y7 =>
          bif ((decide ((r_.Events.length : Int) > (0 : Int))) && y7.1) then (
            (M.spec_l1Cur_pick (bif (decide ((r_.Events.length : Int) > (0 : Int))) then y7.2 else c_2) (r_.Events.length : Int)).bind fun y8 =>
            asrt ((0 : Int) ≤ y8.1 ∧ y8.1 < (r_.Events.length : Int)) <|
            some (y8.2, (⟨r_.Series, (r_.Events.getD (Int.toNat y8.1) default).Kind, y5.1, (IntKind.i64.wrap ((1 : Int) + y6.1))⟩ : Rule)))
          else (
            some ((bif (decide ((r_.Events.length : Int) > (0 : Int))) then y7.2 else c_2), (⟨r_.Series, y4.1, y5.1, (IntKind.i64.wrap ((1 : Int) + y6.1))⟩ : Rule)))) : Option (Cur × Rule))).bind fun e => match e with
        | (c_3, rule) =>
          ((M.spec_PutRule list0 rule).bind fun y9 =>
          bif y9.2 then (
            some (y9.1, c_3))
          else (
            some (list0, c_3))))) : Option (List Rule × Cur))).bind fun e => match e with
    | (list1, c_1) =>
      (some (.inl (list1, (IntKind.i64.wrap (n_ - (1 : Int))), c_1))))
  else (
    some (.inr (list0, c_0)))

def M.spec_l1Cur_suited (c : Cur) (r_ : Record) : Option (List Rule × Cur) :=
  (M.spec_l1Cur_schedule c).bind fun y0 =>
  (M.spec_l1Cur_pick y0.2 (4 : Int)).bind fun y1 =>
  (iterO (M.spec_l1Cur_suited_l0 r_) (y0.1, y1.1, y1.2)).bind fun e => match e with
  | (list, c_) =>
    (some (list, c_))

def M.spec_DrawEndsOf (code : List Int) : Option (Record × List Rule) :=
  (M.spec_l1Cur_record (⟨code, (0 : Int), (0 : Int)⟩ : Cur) (12 : Int)).bind fun y0 =>
  (M.spec_l1Cur_suited y0.2 y0.1).bind fun y1 =>
  some (y0.1, y1.1)

def M.impl_within (n : Int) (low : Int) (high : Int) : Option Bool :=
  some ((decide (low ≤ n)) && (decide (n ≤ high)))

def M.impl_isId (id_ : Int) : Option Bool :=
  (M.impl_within id_ (1 : Int) (99 : Int)).bind fun y0 =>
  some y0

def M.impl_isDay (day : Int) : Option Bool :=
  (M.impl_within day (0 : Int) (20000 : Int)).bind fun y0 =>
  some y0

def M.impl_IsEvent (e_ : Event) : Option Bool :=
  (M.impl_within e_.Kind (1 : Int) (9 : Int)).bind fun y0 =>
  ((bif y0 then M.impl_isDay e_.Day else some default)).bind fun y1 =>
  some (y0 && y1)

def M.impl_IsRecord_l0 (r_ : Record) : (Int) → Option ((Int) ⊕ ((Unit) ⊕ (Bool))) := fun st_ => match st_ with
| v =>
  bif (decide (v < (r_.Events.length : Int))) then (
    asrt ((0 : Int) ≤ v ∧ v < (r_.Events.length : Int)) <|
    (M.impl_IsEvent (r_.Events.getD (Int.toNat v) default)).bind fun y4 =>
    asrt (((!y4) || (decide (((r_.Events.getD (Int.toNat v) default).Day) < r_.Made))) = false → (decide (v > (0 : Int))) = true → ((0 : Int) ≤ (IntKind.i64.wrap (v - (1 : Int))) ∧ (IntKind.i64.wrap (v - (1 : Int))) < (r_.Events.length : Int))) <|
    bif (((!y4) || (decide (((r_.Events.getD (Int.toNat v) default).Day) < r_.Made))) || ((decide (v > (0 : Int))) && (decide (((r_.Events.getD (Int.toNat (IntKind.i64.wrap (v - (1 : Int)))) default).Kind) ≥ ((r_.Events.getD (Int.toNat v) default).Kind))))) then (
      some (.inr (.inr false)))
    else (
      some (.inl (IntKind.i64.wrap (v + (1 : Int))))))
  else (
    some (.inr (.inl ())))

def M.impl_IsRecord (r_ : Record) : Option Bool :=
  (M.impl_within r_.Id (1 : Int) (999 : Int)).bind fun y0 =>
  ((bif (!y0) then some default else M.impl_isId r_.Series)).bind fun y1 =>
  ((bif ((!y0) || (!y1)) then some default else M.impl_isDay r_.Made)).bind fun y2 =>
  bif ((((!y0) || (!y1)) || (!y2)) || (decide ((r_.Events.length : Int) > (6 : Int)))) then (
    some false)
  else (
    (iterO (M.impl_IsRecord_l0 r_) (0 : Int)).bind fun e => match e with
    | .inl () =>
      (some true)
    | .inr r => some r)

def M.impl_isAct (act : Int) : Option Bool :=
  (M.impl_within act (1 : Int) (3 : Int)).bind fun y0 =>
  some y0

def M.impl_IsRule (r_ : Rule) : Option Bool :=
  (M.impl_isId r_.Series).bind fun y0 =>
  ((bif y0 then M.impl_within r_.Event (0 : Int) (9 : Int) else some default)).bind fun y1 =>
  ((bif (y0 && y1) then M.impl_within r_.Days (0 : Int) (20000 : Int) else some default)).bind fun y2 =>
  ((bif ((y0 && y1) && y2) then M.impl_isAct r_.Act else some default)).bind fun y3 =>
  some (((y0 && y1) && y2) && y3)

def M.cmp_isNaN_int (x : Int) : Option Bool :=
  some (x != x)

def M.cmp_Compare_int (x : Int) (y : Int) : Option Int :=
  (M.cmp_isNaN_int x).bind fun y0 =>
  (M.cmp_isNaN_int y).bind fun y1 =>
  bif y0 then (
    bif y1 then (
      some (0 : Int))
    else (
      some (-1 : Int)))
  else (
    bif y1 then (
      some (1 : Int))
    else (
      bif (decide (x < y)) then (
        some (-1 : Int))
      else (
        bif (decide (x > y)) then (
          some (1 : Int))
        else (
          some (0 : Int)))))

def M.cmp_Or_int_l0 (vals : List Int) : (Int) → Option ((Int) ⊕ ((Unit) ⊕ (Int))) := fun st_ => match st_ with
| v =>
  bif (decide (v < (vals.length : Int))) then (
    asrt ((0 : Int) ≤ v ∧ v < (vals.length : Int)) <|
    bif ((vals.getD (Int.toNat v) default) != (0 : Int)) then (
      some (.inr (.inr (vals.getD (Int.toNat v) default))))
    else (
      some (.inl (IntKind.i64.wrap (v + (1 : Int))))))
  else (
    some (.inr (.inl ())))

def M.cmp_Or_int (vals : List Int) : Option Int :=
  (iterO (M.cmp_Or_int_l0 vals) (0 : Int)).bind fun e => match e with
  | .inl () =>
    (some (0 : Int))
  | .inr r => some r

def M.impl_compareRules (a : Rule) (b_ : Rule) : Option Int :=
  (M.cmp_Compare_int a.Series b_.Series).bind fun y0 =>
  (M.cmp_Compare_int a.Event b_.Event).bind fun y1 =>
  (M.cmp_Or_int ([y0, y1] : List Int)).bind fun y2 =>
  some y2

def M.impl_IsSchedule_l0 (list : List Rule) : (Int) → Option ((Int) ⊕ ((Unit) ⊕ (Bool))) := fun st_ => match st_ with
| v =>
  bif (decide (v < (list.length : Int))) then (
    asrt ((0 : Int) ≤ v ∧ v < (list.length : Int)) <|
    (M.impl_IsRule (list.getD (Int.toNat v) default)).bind fun y1 =>
    asrt ((!y1) = false → (decide (v > (0 : Int))) = true → ((0 : Int) ≤ (IntKind.i64.wrap (v - (1 : Int))) ∧ (IntKind.i64.wrap (v - (1 : Int))) < (list.length : Int))) <|
    ((bif (!y1) then some default else (bif (decide (v > (0 : Int))) then M.impl_compareRules (list.getD (Int.toNat (IntKind.i64.wrap (v - (1 : Int)))) default) (list.getD (Int.toNat v) default) else some default))).bind fun y2 =>
    bif ((!y1) || ((decide (v > (0 : Int))) && (decide (y2 ≥ (0 : Int))))) then (
      some (.inr (.inr false)))
    else (
      some (.inl (IntKind.i64.wrap (v + (1 : Int))))))
  else (
    some (.inr (.inl ())))

def M.impl_IsSchedule (list : List Rule) : Option Bool :=
  (iterO (M.impl_IsSchedule_l0 list) (0 : Int)).bind fun e => match e with
  | .inl () =>
    (some (decide ((list.length : Int) ≤ (8 : Int))))
  | .inr r => some r

def M.impl_areBoth (r_ : Record) (schedule : List Rule) : Option Bool :=
  (M.impl_IsRecord r_).bind fun y0 =>
  ((bif y0 then M.impl_IsSchedule schedule else some default)).bind fun y1 =>
  some (y0 && y1)

def M.impl_rulesFor_l0 (list : List Rule) (series : Int) : (List Rule × Int) → Option ((List Rule × Int) ⊕ (List Rule)) := fun st_ => match st_ with
| (out_0, v) =>
  bif (decide (v < (list.length : Int))) then (
    (((
      asrt ((0 : Int) ≤ v ∧ v < (list.length : Int)) <|
      bif (((list.getD (Int.toNat v) default).Series) == series) then (
        asrt ((out_0.length : Int) + (([(list.getD (Int.toNat v) default)] : List Rule).length : Int) ≤ 2147483648) <|
        some (out_0 ++ ([(list.getD (Int.toNat v) default)] : List Rule)))
      else (
        some out_0)) : Option (List Rule))).bind fun e => match e with
    | out_1 =>
      (some (.inl (out_1, (IntKind.i64.wrap (v + (1 : Int)))))))
  else (
    some (.inr out_0))

def M.impl_rulesFor (list : List Rule) (series : Int) : Option (List Rule) :=
  (iterO (M.impl_rulesFor_l0 list series) (([] : List Rule), (0 : Int))).bind fun e => match e with
  | out_ =>
    (some out_)

def M.impl_eventAt_1 (e_ : Event) (kind : Int) : Option Bool :=
  some (e_.Kind == kind)

def M.slices_IndexFunc_impl_Event_impl_Event_l0 (s : List Event) (fm : Event → Option Bool) : (Int) → Option ((Int) ⊕ ((Unit) ⊕ (Int))) := fun st_ => match st_ with
| v =>
  bif (decide (v < (s.length : Int))) then (
    asrt ((0 : Int) ≤ v ∧ v < (s.length : Int)) <|
    (fm (s.getD (Int.toNat v) default)).bind fun y1 =>
    bif y1 then (
      some (.inr (.inr v)))
    else (
      some (.inl (IntKind.i64.wrap (v + (1 : Int))))))
  else (
    some (.inr (.inl ())))

def M.slices_IndexFunc_impl_Event_impl_Event (s : List Event) (fm : Event → Option Bool) : Option Int :=
  (iterO (M.slices_IndexFunc_impl_Event_impl_Event_l0 s fm) (0 : Int)).bind fun e => match e with
  | .inl () =>
    (some (-1 : Int))
  | .inr r => some r

def M.impl_eventAt (r_ : Record) (kind : Int) : Option Int :=
  (M.slices_IndexFunc_impl_Event_impl_Event r_.Events (fun x0 => M.impl_eventAt_1 x0 kind)).bind fun y0 =>
  some y0

def M.impl_dayOf (r_ : Record) (kind : Int) : Option (Int × Bool) :=
  bif (kind == (0 : Int)) then (
    some (r_.Made, true))
  else (
    (M.impl_eventAt r_ kind).bind fun y0 =>
    bif (decide (y0 < (0 : Int))) then (
      some ((0 : Int), false))
    else (
      asrt ((0 : Int) ≤ y0 ∧ y0 < (r_.Events.length : Int)) <|
      some ((r_.Events.getD (Int.toNat y0) default).Day, true)))

def M.impl_endOf (r_ : Record) (rule : Rule) : Option Int :=
  (M.impl_dayOf r_ rule.Event).bind fun y0 =>
  bif (!y0.2) then (
    some (-1 : Int))
  else (
    some (IntKind.i64.wrap (y0.1 + rule.Days)))

def M.impl_EndsOf_l0 (r_ : Record) (y1 : List Rule) : (List Int × Int) → Option ((List Int × Int) ⊕ (List Int)) := fun st_ => match st_ with
| (ends0, v) =>
  bif (decide (v < (y1.length : Int))) then (
    asrt ((0 : Int) ≤ v ∧ v < (y1.length : Int)) <|
    (M.impl_endOf r_ (y1.getD (Int.toNat v) default)).bind fun y3 =>
    asrt ((ends0.length : Int) + (([y3] : List Int).length : Int) ≤ 2147483648) <|
    some (.inl ((ends0 ++ ([y3] : List Int)), (IntKind.i64.wrap (v + (1 : Int))))))
  else (
    some (.inr ends0))

def M.impl_EndsOf (r_ : Record) (schedule : List Rule) : Option (List Int × Bool) :=
  (M.impl_areBoth r_ schedule).bind fun y0 =>
  bif (!y0) then (
    some (([] : List Int), false))
  else (
    (M.impl_rulesFor schedule r_.Series).bind fun y1 =>
    (iterO (M.impl_EndsOf_l0 r_ y1) (([] : List Int), (0 : Int))).bind fun e => match e with
    | ends =>
      (some (ends, true)))

def M.spec_l2Day (d : Int) : Option Bool :=
  (M.spec_l1In d (0 : Int) (20000 : Int)).bind fun y0 =>
  some y0

def M.spec_l2Event (e_ : Event) : Option Bool :=
  (M.spec_l1In e_.Kind (1 : Int) (9 : Int)).bind fun y0 =>
  ((bif y0 then M.spec_l2Day e_.Day else some default)).bind fun y1 =>
  some (y0 && y1)

def M.spec_l2Record_l0 (r_ : Record) : (Int) → Option ((Int) ⊕ ((Unit) ⊕ (Bool))) := fun st_ => match st_ with
| i =>
  bif (decide (i < (r_.Events.length : Int))) then (
    asrt ((0 : Int) ≤ i ∧ i < (r_.Events.length : Int)) <|
    (M.spec_l2Event (r_.Events.getD (Int.toNat i) default)).bind fun y1 =>
    asrt (((!y1) || (decide (((r_.Events.getD (Int.toNat i) default).Day) < r_.Made))) = false → (decide (i > (0 : Int))) = true → ((0 : Int) ≤ (IntKind.i64.wrap (i - (1 : Int))) ∧ (IntKind.i64.wrap (i - (1 : Int))) < (r_.Events.length : Int))) <|
    bif (((!y1) || (decide (((r_.Events.getD (Int.toNat i) default).Day) < r_.Made))) || ((decide (i > (0 : Int))) && (decide (((r_.Events.getD (Int.toNat (IntKind.i64.wrap (i - (1 : Int)))) default).Kind) ≥ ((r_.Events.getD (Int.toNat i) default).Kind))))) then (
      some (.inr (.inr false)))
    else (
      some (.inl (IntKind.i64.wrap (i + (1 : Int))))))
  else (
    some (.inr (.inl ())))

def M.spec_l2Record (r_ : Record) : Option Bool :=
  (iterO (M.spec_l2Record_l0 r_) (0 : Int)).bind fun e => match e with
  | .inl () =>
    ((M.spec_l1In r_.Id (1 : Int) (999 : Int)).bind fun y2 =>
    ((bif y2 then M.spec_l1In r_.Series (1 : Int) (99 : Int) else some default)).bind fun y3 =>
    ((bif (y2 && y3) then M.spec_l2Day r_.Made else some default)).bind fun y4 =>
    some (((y2 && y3) && y4) && (decide ((r_.Events.length : Int) ≤ (6 : Int)))))
  | .inr r => some r

def M.spec_l6Asked (r_ : Record) (schedule : List Rule) : Option Bool :=
  (M.spec_l2Record r_).bind fun y0 =>
  ((bif y0 then M.spec_l4Good schedule else some default)).bind fun y1 =>
  some (y0 && y1)

def M.spec_l4For_l0 (list : List Rule) (series : Int) : (List Rule × Int) → Option ((List Rule × Int) ⊕ (List Rule)) := fun st_ => match st_ with
| (out_0, i) =>
  bif (decide (i < (list.length : Int))) then (
    (((
      asrt ((0 : Int) ≤ i ∧ i < (list.length : Int)) <|
      bif (((list.getD (Int.toNat i) default).Series) == series) then (
        asrt ((0 : Int) ≤ i ∧ i < (list.length : Int)) <|
        asrt ((out_0.length : Int) + (([(list.getD (Int.toNat i) default)] : List Rule).length : Int) ≤ 2147483648) <|
        some (out_0 ++ ([(list.getD (Int.toNat i) default)] : List Rule)))
      else (
        some out_0)) : Option (List Rule))).bind fun e => match e with
    | out_1 =>
      (some (.inl (out_1, (IntKind.i64.wrap (i + (1 : Int)))))))
  else (
    some (.inr out_0))

def M.spec_l4For (list : List Rule) (series : Int) : Option (List Rule) :=
  (iterO (M.spec_l4For_l0 list series) (([] : List Rule), (0 : Int))).bind fun e => match e with
  | out_ =>
    (some out_)

def M.spec_l2DayOf_l0 (r_ : Record) (kind : Int) : (Int) → Option ((Int) ⊕ ((Unit) ⊕ (Int))) := fun st_ => match st_ with
| i =>
  bif (decide (i < (r_.Events.length : Int))) then (
    asrt ((0 : Int) ≤ i ∧ i < (r_.Events.length : Int)) <|
    bif (((r_.Events.getD (Int.toNat i) default).Kind) == kind) then (
      asrt ((0 : Int) ≤ i ∧ i < (r_.Events.length : Int)) <|
      some (.inr (.inr ((r_.Events.getD (Int.toNat i) default).Day))))
    else (
      some (.inl (IntKind.i64.wrap (i + (1 : Int))))))
  else (
    some (.inr (.inl ())))

def M.spec_l2DayOf (r_ : Record) (kind : Int) : Option Int :=
  bif (kind == (0 : Int)) then (
    some r_.Made)
  else (
    (iterO (M.spec_l2DayOf_l0 r_ kind) (0 : Int)).bind fun e => match e with
    | .inl () =>
      (some (-1 : Int))
    | .inr r => some r)

def M.spec_l6End (r_ : Record) (rule : Rule) : Option Int :=
  (M.spec_l2DayOf r_ rule.Event).bind fun y0 =>
  bif (decide (y0 < (0 : Int))) then (
    some (-1 : Int))
  else (
    some (IntKind.i64.wrap (y0 + rule.Days)))

def M.spec_EndsOf_l0 (r_ : Record) (y1 : List Rule) : (List Int × Int) → Option ((List Int × Int) ⊕ (List Int)) := fun st_ => match st_ with
| (out_0, i) =>
  bif (decide (i < (y1.length : Int))) then (
    asrt ((0 : Int) ≤ i ∧ i < (y1.length : Int)) <|
    (M.spec_l6End r_ (y1.getD (Int.toNat i) default)).bind fun y3 =>
    asrt ((out_0.length : Int) + (([y3] : List Int).length : Int) ≤ 2147483648) <|
    some (.inl ((out_0 ++ ([y3] : List Int)), (IntKind.i64.wrap (i + (1 : Int))))))
  else (
    some (.inr out_0))

def M.spec_EndsOf (r_ : Record) (schedule : List Rule) : Option (List Int × Bool) :=
  (M.spec_l6Asked r_ schedule).bind fun y0 =>
  bif (!y0) then (
    some (([] : List Int), false))
  else (
    (M.spec_l4For schedule r_.Series).bind fun y1 =>
    (iterO (M.spec_EndsOf_l0 r_ y1) (([] : List Int), (0 : Int))).bind fun e => match e with
    | out_ =>
      (some (out_, true)))

def M.laws_vInts_l0 (a : List Int) (b_ : List Int) : (Int) → Option ((Int) ⊕ ((Unit) ⊕ (Bool))) := fun st_ => match st_ with
| i =>
  bif (decide (i < (a.length : Int))) then (
    asrt ((0 : Int) ≤ i ∧ i < (a.length : Int)) <|
    asrt ((0 : Int) ≤ i ∧ i < (b_.length : Int)) <|
    bif ((a.getD (Int.toNat i) default) != (b_.getD (Int.toNat i) default)) then (
      some (.inr (.inr false)))
    else (
      some (.inl (IntKind.i64.wrap (i + (1 : Int))))))
  else (
    some (.inr (.inl ())))

def M.laws_vInts (a : List Int) (b_ : List Int) : Option Bool :=
  bif ((a.length : Int) != (b_.length : Int)) then (
    some false)
  else (
    (iterO (M.laws_vInts_l0 a b_) (0 : Int)).bind fun e => match e with
    | .inl () =>
      (some true)
    | .inr r => some r)

def M.impl_deciding_l0 (r_ : Record) (y0 : List Rule) : (Int × Int × Rule) → Option ((Int × Int × Rule) ⊕ ((Int × Rule) ⊕ (Rule × Int × Bool))) := fun st_ => match st_ with
| (due0, v, best0) =>
  bif (decide (v < (y0.length : Int))) then (
    (((
      asrt ((0 : Int) ≤ v ∧ v < (y0.length : Int)) <|
      (M.impl_endOf r_ (y0.getD (Int.toNat v) default)).bind fun y2 =>
      bif (decide (y2 < (0 : Int))) then (
        some (.inr ((⟨(0 : Int), (0 : Int), (0 : Int), (0 : Int)⟩ : Rule), (0 : Int), false)))
      else (
        bif ((decide (y2 > due0)) || ((y2 == due0) && (decide (((y0.getD (Int.toNat v) default).Act) < best0.Act)))) then (
          some (.inl (y2, (y0.getD (Int.toNat v) default))))
        else (
          some (.inl (due0, best0))))) : Option ((Int × Rule) ⊕ (Rule × Int × Bool)))).bind fun e => match e with
    | .inl (due1, best1) =>
      (some (.inl (due1, (IntKind.i64.wrap (v + (1 : Int))), best1)))
    | .inr r => some (.inr (.inr r)))
  else (
    some (.inr (.inl (due0, best0))))

def M.impl_deciding (r_ : Record) (schedule : List Rule) : Option (Rule × Int × Bool) :=
  (M.impl_rulesFor schedule r_.Series).bind fun y0 =>
  (iterO (M.impl_deciding_l0 r_ y0) ((-1 : Int), (0 : Int), (⟨(0 : Int), (0 : Int), (0 : Int), (0 : Int)⟩ : Rule))).bind fun e => match e with
  | .inl (due, best) =>
    (some (best, (bif decide (due < (0 : Int)) then (0 : Int) else due), (decide (due ≥ (0 : Int)))))
  | .inr r => some r

def M.impl_DueDay (r_ : Record) (schedule : List Rule) : Option (Int × Bool) :=
  (M.impl_areBoth r_ schedule).bind fun y0 =>
  bif (!y0) then (
    some ((0 : Int), false))
  else (
    (M.impl_deciding r_ schedule).bind fun y1 =>
    some (y1.2.1, y1.2.2))

def M.spec_l6Deciding_l0 (r_ : Record) (y0 : List Rule) : (Int × Int × Rule) → Option ((Int × Int × Rule) ⊕ ((Int × Rule) ⊕ (Rule × Int))) := fun st_ => match st_ with
| (due0, i, best0) =>
  bif (decide (i < (y0.length : Int))) then (
    (((
      asrt ((0 : Int) ≤ i ∧ i < (y0.length : Int)) <|
      (M.spec_l6End r_ (y0.getD (Int.toNat i) default)).bind fun y2 =>
      bif (decide (y2 < (0 : Int))) then (
        some (.inr ((⟨(0 : Int), (0 : Int), (0 : Int), (0 : Int)⟩ : Rule), (-1 : Int))))
      else (
        asrt ((decide (y2 > due0)) = false → (y2 == due0) = true → ((0 : Int) ≤ i ∧ i < (y0.length : Int))) <|
        bif ((decide (y2 > due0)) || ((y2 == due0) && (decide (((y0.getD (Int.toNat i) default).Act) < best0.Act)))) then (
          asrt ((0 : Int) ≤ i ∧ i < (y0.length : Int)) <|
          some (.inl (y2, (y0.getD (Int.toNat i) default))))
        else (
          some (.inl (due0, best0))))) : Option ((Int × Rule) ⊕ (Rule × Int)))).bind fun e => match e with
    | .inl (due1, best1) =>
      (some (.inl (due1, (IntKind.i64.wrap (i + (1 : Int))), best1)))
    | .inr r => some (.inr (.inr r)))
  else (
    some (.inr (.inl (due0, best0))))

def M.spec_l6Deciding (r_ : Record) (schedule : List Rule) : Option (Rule × Int) :=
  (M.spec_l4For schedule r_.Series).bind fun y0 =>
  (iterO (M.spec_l6Deciding_l0 r_ y0) ((-1 : Int), (0 : Int), (⟨(0 : Int), (0 : Int), (0 : Int), (0 : Int)⟩ : Rule))).bind fun e => match e with
  | .inl (due, best) =>
    (some (best, due))
  | .inr r => some r

def M.spec_DueDay (r_ : Record) (schedule : List Rule) : Option (Int × Bool) :=
  (M.spec_l6Asked r_ schedule).bind fun y0 =>
  bif (!y0) then (
    some ((0 : Int), false))
  else (
    (M.spec_l6Deciding r_ schedule).bind fun y1 =>
    bif (decide (y1.2 < (0 : Int))) then (
      some ((0 : Int), false))
    else (
      some (y1.2, true)))

def M.impl_WaitsFor_l0 (r_ : Record) (y1 : List Rule) : (List Int × Int) → Option ((List Int × Int) ⊕ (List Int)) := fun st_ => match st_ with
| (events0, v) =>
  bif (decide (v < (y1.length : Int))) then (
    (((
      asrt ((0 : Int) ≤ v ∧ v < (y1.length : Int)) <|
      (M.impl_endOf r_ (y1.getD (Int.toNat v) default)).bind fun y3 =>
      bif (decide (y3 < (0 : Int))) then (
        asrt ((events0.length : Int) + (([(y1.getD (Int.toNat v) default).Event] : List Int).length : Int) ≤ 2147483648) <|
        some (events0 ++ ([(y1.getD (Int.toNat v) default).Event] : List Int)))
      else (
        some events0)) : Option (List Int))).bind fun e => match e with
    | events1 =>
      (some (.inl (events1, (IntKind.i64.wrap (v + (1 : Int)))))))
  else (
    some (.inr events0))

def M.impl_WaitsFor (r_ : Record) (schedule : List Rule) : Option (List Int × Bool) :=
  (M.impl_areBoth r_ schedule).bind fun y0 =>
  bif (!y0) then (
    some (([] : List Int), false))
  else (
    (M.impl_rulesFor schedule r_.Series).bind fun y1 =>
    (iterO (M.impl_WaitsFor_l0 r_ y1) (([] : List Int), (0 : Int))).bind fun e => match e with
    | events =>
      (some (events, true)))

def M.spec_WaitsFor_l0 (r_ : Record) (y1 : List Rule) : (List Int × Int) → Option ((List Int × Int) ⊕ (List Int)) := fun st_ => match st_ with
| (out_0, i) =>
  bif (decide (i < (y1.length : Int))) then (
    (((
      asrt ((0 : Int) ≤ i ∧ i < (y1.length : Int)) <|
      (M.spec_l6End r_ (y1.getD (Int.toNat i) default)).bind fun y3 =>
      bif (decide (y3 < (0 : Int))) then (
        asrt ((0 : Int) ≤ i ∧ i < (y1.length : Int)) <|
        asrt ((out_0.length : Int) + (([(y1.getD (Int.toNat i) default).Event] : List Int).length : Int) ≤ 2147483648) <|
        some (out_0 ++ ([(y1.getD (Int.toNat i) default).Event] : List Int)))
      else (
        some out_0)) : Option (List Int))).bind fun e => match e with
    | out_1 =>
      (some (.inl (out_1, (IntKind.i64.wrap (i + (1 : Int)))))))
  else (
    some (.inr out_0))

def M.spec_WaitsFor (r_ : Record) (schedule : List Rule) : Option (List Int × Bool) :=
  (M.spec_l6Asked r_ schedule).bind fun y0 =>
  bif (!y0) then (
    some (([] : List Int), false))
  else (
    (M.spec_l4For schedule r_.Series).bind fun y1 =>
    (iterO (M.spec_WaitsFor_l0 r_ y1) (([] : List Int), (0 : Int))).bind fun e => match e with
    | out_ =>
      (some (out_, true)))

def M.impl_DecidingRule (r_ : Record) (schedule : List Rule) : Option (Rule × Bool) :=
  (M.impl_areBoth r_ schedule).bind fun y0 =>
  bif (!y0) then (
    some ((⟨(0 : Int), (0 : Int), (0 : Int), (0 : Int)⟩ : Rule), false))
  else (
    (M.impl_deciding r_ schedule).bind fun y1 =>
    some (y1.1, y1.2.2))

def M.spec_DecidingRule (r_ : Record) (schedule : List Rule) : Option (Rule × Bool) :=
  (M.spec_l6Asked r_ schedule).bind fun y0 =>
  bif (!y0) then (
    some ((⟨(0 : Int), (0 : Int), (0 : Int), (0 : Int)⟩ : Rule), false))
  else (
    (M.spec_l6Deciding r_ schedule).bind fun y1 =>
    some (y1.1, (decide (y1.2 ≥ (0 : Int)))))

def M.impl_DayOf (r_ : Record) (kind : Int) : Option (Int × Bool) :=
  (M.impl_IsRecord r_).bind fun y0 =>
  bif (!y0) then (
    some ((0 : Int), false))
  else (
    (M.impl_dayOf r_ kind).bind fun y1 =>
    some (y1.1, y1.2))

def M.laws_vHas_l0 (l : List Int) (x : Int) : (Int) → Option ((Int) ⊕ ((Unit) ⊕ (Bool))) := fun st_ => match st_ with
| i =>
  bif (decide (i < (l.length : Int))) then (
    asrt ((0 : Int) ≤ i ∧ i < (l.length : Int)) <|
    bif ((l.getD (Int.toNat i) default) == x) then (
      some (.inr (.inr true)))
    else (
      some (.inl (IntKind.i64.wrap (i + (1 : Int))))))
  else (
    some (.inr (.inl ())))

def M.laws_vHas (l : List Int) (x : Int) : Option Bool :=
  (iterO (M.laws_vHas_l0 l x) (0 : Int)).bind fun e => match e with
  | .inl () =>
    (some false)
  | .inr r => some r

def M.spec_l1Cur_event (c : Cur) (from_ : Int) : Option (Event × Cur) :=
  (M.spec_l1Cur_pick c (5 : Int)).bind fun y0 =>
  (M.spec_l1Cur_among y0.2 ([(0 : Int), (1 : Int), (30 : Int), (365 : Int), (400 : Int), (1000 : Int)] : List Int)).bind fun y1 =>
  (M.spec_l1Cur_pick y1.2 (48 : Int)).bind fun y2 =>
  (((
    bif (y2.1 == (0 : Int)) then (
      (M.spec_l1Cur_among y2.2 ([(0 : Int), (9 : Int), (10 : Int)] : List Int)).bind fun y3 =>
      some (y3.2, (⟨y3.1, (IntKind.i64.wrap (from_ + y1.1))⟩ : Event)))
    else (
      bif (y2.1 == (1 : Int)) then (
        (M.spec_l1Cur_among y2.2 ([(-1 : Int), (0 : Int), (20001 : Int)] : List Int)).bind fun y4 =>
        some (y4.2, (⟨(IntKind.i64.wrap ((1 : Int) + y0.1)), y4.1⟩ : Event)))
      else (
        some (y2.2, (⟨(IntKind.i64.wrap ((1 : Int) + y0.1)), (IntKind.i64.wrap (from_ + y1.1))⟩ : Event))))) : Option (Cur × Event))).bind fun e => match e with
  | (c_, e_) =>
    (some (e_, c_))

def M.spec_DrawDueAfter (code : List Int) : Option (Record × List Rule × Event) :=
  (M.spec_l1Cur_record (⟨code, (0 : Int), (0 : Int)⟩ : Cur) (12 : Int)).bind fun y0 =>
  (M.spec_l1Cur_suited y0.2 y0.1).bind fun y1 =>
  (M.spec_l1Cur_event y1.2 y0.1.Made).bind fun y2 =>
  some (y0.1, y1.1, y2.1)

def M.slices_Clone_impl_Event_impl_Event (s : List Event) : Option (List Event) := asrt ((s.length : Int) ≤ 2147483648) <| some s

def M.slices_Insert_impl_Event_impl_Event (s : List Event) (i : Int) (v : List Event) : Option (List Event) := asrt ((0 : Int) ≤ i ∧ i ≤ (s.length : Int) ∧ (s.length : Int) ≤ 2147483647 ∧ v.length = 1) <| some (s.take i.toNat ++ v ++ s.drop i.toNat)

def M.impl_AddEvent_l0 (r_ : Record) (e_ : Event) : (Int) → Option ((Int) ⊕ (Int)) := fun st_ => match st_ with
| at_0 =>
  asrt ((decide (at_0 < (r_.Events.length : Int))) = true → ((0 : Int) ≤ at_0 ∧ at_0 < (r_.Events.length : Int))) <|
  bif ((decide (at_0 < (r_.Events.length : Int))) && (decide (((r_.Events.getD (Int.toNat at_0) default).Kind) < e_.Kind))) then (
    some (.inl (IntKind.i64.wrap (at_0 + (1 : Int)))))
  else (
    some (.inr at_0))

def M.impl_AddEvent (r_ : Record) (e_ : Event) : Option (Record × Bool) :=
  (M.impl_IsRecord r_).bind fun y0 =>
  ((bif (!y0) then some default else M.impl_IsEvent e_)).bind fun y1 =>
  bif ((!y0) || (!y1)) then (
    some ((⟨(0 : Int), (0 : Int), (0 : Int), ([] : List Event)⟩ : Record), false))
  else (
    (iterO (M.impl_AddEvent_l0 r_ e_) (0 : Int)).bind fun e => match e with
    | at_ =>
      ((M.slices_Clone_impl_Event_impl_Event r_.Events).bind fun y3 =>
      (M.slices_Insert_impl_Event_impl_Event y3 at_ ([e_] : List Event)).bind fun y4 =>
      (((
        some (⟨r_.Id, r_.Series, r_.Made, y4⟩ : Record)) : Option Record)).bind fun e => match e with
      | out_ =>
        ((M.impl_IsRecord out_).bind fun y5 =>
        bif (!y5) then (
          some ((⟨(0 : Int), (0 : Int), (0 : Int), ([] : List Event)⟩ : Record), false))
        else (
          some (out_, true)))))

def M.impl_DueAfter (r_ : Record) (schedule : List Rule) (e_ : Event) : Option (Int × Bool) :=
  (M.impl_AddEvent r_ e_).bind fun y0 =>
  bif (!y0.2) then (
    some ((0 : Int), false))
  else (
    (M.impl_DueDay y0.1 schedule).bind fun y1 =>
    some (y1.1, y1.2))

def M.spec_AddEvent_l0 (r_ : Record) (e_ : Event) : (Int) → Option ((Int) ⊕ (Int)) := fun st_ => match st_ with
| i0 =>
  asrt ((decide (i0 < (r_.Events.length : Int))) = true → ((0 : Int) ≤ i0 ∧ i0 < (r_.Events.length : Int))) <|
  bif ((decide (i0 < (r_.Events.length : Int))) && (decide (((r_.Events.getD (Int.toNat i0) default).Kind) < e_.Kind))) then (
    some (.inl (IntKind.i64.wrap (i0 + (1 : Int)))))
  else (
    some (.inr i0))

def M.spec_AddEvent (r_ : Record) (e_ : Event) : Option (Record × Bool) :=
  (M.spec_l2Record r_).bind fun y0 =>
  ((bif (!y0) then some default else M.spec_l2Event e_)).bind fun y1 =>
  ((bif ((!y0) || (!y1)) then some default else M.spec_l2DayOf r_ e_.Kind)).bind fun y2 =>
  bif (((!y0) || (!y1)) || (decide (y2 ≥ (0 : Int)))) then (
    some ((⟨(0 : Int), (0 : Int), (0 : Int), ([] : List Event)⟩ : Record), false))
  else (
    (iterO (M.spec_AddEvent_l0 r_ e_) (0 : Int)).bind fun e => match e with
    | i =>
      (asrt ((0 : Int) ≤ (0 : Int) ∧ (0 : Int) ≤ i ∧ i ≤ (r_.Events.length : Int)) <|
      asrt ((([] : List Event).length : Int) + ((slc r_.Events (0 : Int) i).length : Int) ≤ 2147483648) <|
      asrt (((([] : List Event) ++ (slc r_.Events (0 : Int) i)).length : Int) + (([e_] : List Event).length : Int) ≤ 2147483648) <|
      asrt ((0 : Int) ≤ i ∧ i ≤ (r_.Events.length : Int) ∧ (r_.Events.length : Int) ≤ (r_.Events.length : Int)) <|
      asrt ((((([] : List Event) ++ (slc r_.Events (0 : Int) i)) ++ ([e_] : List Event)).length : Int) + ((slc r_.Events i (r_.Events.length : Int)).length : Int) ≤ 2147483648) <|
      (((
        some ()) : Option Unit)).bind fun e => match e with
      | () =>
        ((M.spec_l2Record (⟨r_.Id, r_.Series, r_.Made, (((([] : List Event) ++ (slc r_.Events (0 : Int) i)) ++ ([e_] : List Event)) ++ (slc r_.Events i (r_.Events.length : Int)))⟩ : Record)).bind fun y4 =>
        bif (!y4) then (
          some ((⟨(0 : Int), (0 : Int), (0 : Int), ([] : List Event)⟩ : Record), false))
        else (
          some ((⟨r_.Id, r_.Series, r_.Made, (((([] : List Event) ++ (slc r_.Events (0 : Int) i)) ++ ([e_] : List Event)) ++ (slc r_.Events i (r_.Events.length : Int)))⟩ : Record), true)))))

def M.spec_DueAfter (r_ : Record) (schedule : List Rule) (e_ : Event) : Option (Int × Bool) :=
  (M.spec_AddEvent r_ e_).bind fun y0 =>
  ((bif (!y0.2) then some default else M.spec_l4Good schedule)).bind fun y1 =>
  bif ((!y0.2) || (!y1)) then (
    some ((0 : Int), false))
  else (
    (M.spec_l6Deciding y0.1 schedule).bind fun y2 =>
    bif (decide (y2.2 < (0 : Int))) then (
      some ((0 : Int), false))
    else (
      some (y2.2, true)))

def M.laws_FnPeriods_l0 (y2 : List Int × Bool) (y5 : Int × Bool) : (Int) → Option ((Int) ⊕ ((Unit) ⊕ (Bool))) := fun st_ => match st_ with
| i =>
  bif (decide (i < (y2.1.length : Int))) then (
    asrt ((0 : Int) ≤ i ∧ i < (y2.1.length : Int)) <|
    bif (decide ((y2.1.getD (Int.toNat i) default) > y5.1)) then (
      some (.inr (.inr false)))
    else (
      some (.inl (IntKind.i64.wrap (i + (1 : Int))))))
  else (
    some (.inr (.inl ())))

def M.laws_FnPeriods (code : List Int) : Option Bool :=
  (M.laws_vBig code).bind fun y0 =>
  bif y0 then (
    some true)
  else (
    (M.spec_DrawEndsOf code).bind fun y1 =>
    (M.impl_EndsOf y1.1 y1.2).bind fun y2 =>
    (M.spec_EndsOf y1.1 y1.2).bind fun y3 =>
    ((bif (!(y2.2 == y3.2)) then some default else M.laws_vInts y2.1 y3.1)).bind fun y4 =>
    bif ((!(y2.2 == y3.2)) || (!y4)) then (
      some false)
    else (
      (M.impl_DueDay y1.1 y1.2).bind fun y5 =>
      (M.spec_DueDay y1.1 y1.2).bind fun y6 =>
      bif ((y5.1 != y6.1) || (!(y5.2 == y6.2))) then (
        some false)
      else (
        (M.impl_WaitsFor y1.1 y1.2).bind fun y7 =>
        (M.spec_WaitsFor y1.1 y1.2).bind fun y8 =>
        ((bif ((!(y7.2 == y8.2)) || (!(y7.2 == y2.2))) then some default else M.laws_vInts y7.1 y8.1)).bind fun y9 =>
        bif ((((!(y7.2 == y8.2)) || (!(y7.2 == y2.2))) || (!y9)) || (!(y5.2 == ((y2.2 && (decide ((y2.1.length : Int) > (0 : Int)))) && ((y7.1.length : Int) == (0 : Int)))))) then (
          some false)
        else (
          (M.impl_DecidingRule y1.1 y1.2).bind fun y10 =>
          (M.spec_DecidingRule y1.1 y1.2).bind fun y11 =>
          bif (((!((y10.1.Series == y11.1.Series) && ((y10.1.Event == y11.1.Event) && ((y10.1.Days == y11.1.Days) && ((y10.1.Act == y11.1.Act) && true))))) || (!(y10.2 == y11.2))) || (!(y10.2 == y5.2))) then (
            some false)
          else (
            (((
              bif y5.2 then (
                (M.impl_DayOf y1.1 y10.1.Event).bind fun y12 =>
                (M.laws_vHas y2.1 y5.1).bind fun y13 =>
                bif ((((!y13) || (!y12.2)) || ((IntKind.i64.wrap (y12.1 + y10.1.Days)) != y5.1)) || (y10.1.Series != y1.1.Series)) then (
                  some (.inr false))
                else (
                  (iterO (M.laws_FnPeriods_l0 y2 y5) (0 : Int)).bind fun e => match e with
                  | .inl () =>
                    (some (.inl ()))
                  | .inr r => some (.inr r)))
              else (
                some (.inl ()))) : Option ((Unit) ⊕ (Bool)))).bind fun e => match e with
            | .inl () =>
              ((M.spec_DrawDueAfter code).bind fun y15 =>
              (M.impl_DueAfter y15.1 y15.2.1 y15.2.2).bind fun y16 =>
              (M.spec_DueAfter y15.1 y15.2.1 y15.2.2).bind fun y17 =>
              bif ((y16.1 != y17.1) || (!(y16.2 == y17.2))) then (
                some false)
              else (
                bif y16.2 then (
                  (M.impl_DueDay y15.1 y15.2.1).bind fun y18 =>
                  bif (y18.2 && (decide (y16.1 < y18.1))) then (
                    some false)
                  else (
                    some true))
                else (
                  some true)))
            | .inr r => some r)))))
end Go.Proofs.Ythffmnpbonkpaaa
