/- models of the functions -/
import Derived.Test.YtjfpdbhjoofllaaWk
set_option linter.unusedSimpArgs false
set_option linter.unusedVariables false
set_option maxRecDepth 100000
namespace Go.Proofs.Ytjfpdbhjoofllaa
open Go.VS

structure Cur where
  Code : List Int
  At : Int
  Seed : Int
  deriving Inhabited, DecidableEq

abbrev encCur (ρ : Nat) (c : Cur) : PV := .agg [.vl ρ 1 (List.map encU8 c.Code), .int .i64 c.At, .int .u64 c.Seed]

structure Event where
  Kind : Int
  Day : Int
  deriving Inhabited, DecidableEq

abbrev encEvent (c : Event) : PV := .agg [.int .i64 c.Kind, .int .i64 c.Day]

structure Record where
  Id : Int
  Series : Int
  Made : Int
  Events : List Event
  deriving Inhabited, DecidableEq

abbrev encRecord (ρ : Nat) (c : Record) : PV := .agg [.int .i64 c.Id, .int .i64 c.Series, .int .i64 c.Made, .vl ρ 2 (List.map encEvent c.Events)]

structure Rule where
  Series : Int
  Event : Int
  Days : Int
  Act : Int
  deriving Inhabited, DecidableEq

abbrev encRule (c : Rule) : PV := .agg [.int .i64 c.Series, .int .i64 c.Event, .int .i64 c.Days, .int .i64 c.Act]

structure Version where
  From : Int
  Rules : List Rule
  deriving Inhabited, DecidableEq

abbrev encVersion (ρ : Nat) (c : Version) : PV := .agg [.int .i64 c.From, .vl ρ 4 (List.map encRule c.Rules)]

def M.laws_vBig (code : List Int) : Option Bool :=
  some (decide ((code.length : Int) > (65536 : Int)))

def M.spec_l1Cur_next (c : Cur) : Option (Int × Cur) :=
  (((
    bif (decide (c.At < (c.Code.length : Int))) then (
      asrt ((0 : Int) ≤ c.At ∧ c.At < (c.Code.length : Int)) <|
      some (IntKind.i64.wrap (c.Code.getD (Int.toNat c.At) default)))
    else (
      some (0 : Int))) : Option Int)).bind fun e => match e with
  | b_ =>
    (bif (decide ((IntKind.i64.wrap (c.At + (1 : Int))) ≤ (c.Code.length : Int))) then (
      some (b_, (⟨c.Code, (IntKind.i64.wrap (c.At + (1 : Int))), (IntKind.u64.wrap ((IntKind.u64.wrap ((IntKind.u64.wrap (c.Seed * (6364136223846793005 : Int))) + (IntKind.u64.wrap b_))) + (103535 : Int)))⟩ : Cur)))
    else (
      some ((IntKind.i64.wrap (IntKind.u64.wrap (BitVec.ofInt IntKind.u64.bits (Int.fdiv (IntKind.u64.wrap ((IntKind.u64.wrap ((IntKind.u64.wrap (c.Seed * (6364136223846793005 : Int))) + (IntKind.u64.wrap b_))) + (103535 : Int))) (2 ^ (min (Int.toNat (40 : Int)) IntKind.u64.bits))) &&& BitVec.ofInt IntKind.u64.bits (255 : Int)).toNat)), (⟨c.Code, (IntKind.i64.wrap (c.At + (1 : Int))), (IntKind.u64.wrap ((IntKind.u64.wrap ((IntKind.u64.wrap (c.Seed * (6364136223846793005 : Int))) + (IntKind.u64.wrap b_))) + (103535 : Int)))⟩ : Cur))))

def M.spec_l1Cur_pick (c : Cur) (n : Int) : Option (Int × Cur) :=
  bif (decide (n ≤ (1 : Int))) then (
    some ((0 : Int), c))
  else (
    (M.spec_l1Cur_next c).bind fun y0 =>
    (((
      bif (decide (n > (200 : Int))) then (
        (M.spec_l1Cur_next y0.2).bind fun y1 =>
        some ((IntKind.i64.wrap ((IntKind.i64.wrap (y0.1 * (256 : Int))) + y1.1)), y1.2))
      else (
        some (y0.1, y0.2))) : Option (Int × Cur))).bind fun e => match e with
    | (x, c_) =>
      (asrt (n ≠ 0) <|
      some ((Int.tmod x n), c_)))

def M.spec_l1Cur_among (c : Cur) (list : List Int) : Option (Int × Cur) :=
  (M.spec_l1Cur_pick c (list.length : Int)).bind fun y0 =>
  asrt ((0 : Int) ≤ y0.1 ∧ y0.1 < (list.length : Int)) <|
  some ((list.getD (Int.toNat y0.1) default), y0.2)

def M.spec_l1Cur_one (c : Cur) (n : Int) : Option (Bool × Cur) :=
  (M.spec_l1Cur_pick c n).bind fun y0 =>
  some ((y0.1 == (0 : Int)), y0.2)

def M.spec_l1Cur_record_l0 (y1 : Int × Cur) : (Int × List Event × Cur) → Option ((Int × List Event × Cur) ⊕ (List Event × Cur)) := fun st_ => match st_ with
| (k, r_Events0, c_0) =>
  bif (decide (k ≤ (6 : Int))) then (
    (((
      (M.spec_l1Cur_one c_0 (3 : Int)).bind fun y3 =>
      bif y3.1 then (
        (M.spec_l1Cur_among y3.2 ([(0 : Int), (1 : Int), (30 : Int), (365 : Int), (1000 : Int)] : List Int)).bind fun y4 =>
        asrt ((r_Events0.length : Int) + (([(⟨k, (IntKind.i64.wrap (y1.1 + y4.1))⟩ : Event)] : List Event).length : Int) ≤ 2147483648) <|
        (((
          some ((r_Events0 ++ ([(⟨k, (IntKind.i64.wrap (y1.1 + y4.1))⟩ : Event)] : List Event)), y4.2)) : Option (List Event × Cur))).bind fun e => match e with
        | (r_Events2, c_2) =>
          (some (r_Events2, c_2)))
      else (
        some (r_Events0, y3.2))) : Option (List Event × Cur))).bind fun e => match e with
    | (r_Events1, c_1) =>
      (some (.inl ((IntKind.i64.wrap (k + (1 : Int))), r_Events1, c_1))))
  else (
    some (.inr (r_Events0, c_0)))

def M.spec_l1Cur_record (c : Cur) (id_ : Int) : Option (Record × Cur) :=
  (M.spec_l1Cur_among c ([(1 : Int), (2 : Int), (3 : Int), (3 : Int), (7 : Int), (99 : Int)] : List Int)).bind fun y0 =>
  (M.spec_l1Cur_among y0.2 ([(0 : Int), (100 : Int), (100 : Int), (500 : Int), (3000 : Int)] : List Int)).bind fun y1 =>
  (iterO (M.spec_l1Cur_record_l0 y1) ((1 : Int), ([] : List Event), y1.2)).bind fun e => match e with
  | (r_Events, c_) =>
    ((M.spec_l1Cur_pick c_ (48 : Int)).bind fun y5 =>
    (((
      bif (y5.1 == (0 : Int)) then (
        (M.spec_l1Cur_among y5.2 ([(0 : Int), (100 : Int)] : List Int)).bind fun y6 =>
        some (y6.1, y1.1, r_Events, y6.2))
      else (
        bif (y5.1 == (1 : Int)) then (
          (M.spec_l1Cur_among y5.2 ([(-1 : Int), (20001 : Int), (19999 : Int)] : List Int)).bind fun y7 =>
          some (y0.1, y7.1, r_Events, y7.2))
        else (
          bif (y5.1 == (2 : Int)) then (
            (M.spec_l1Cur_among y5.2 ([(1 : Int), (9 : Int), (10 : Int)] : List Int)).bind fun y8 =>
            (M.spec_l1Cur_among y8.2 ([(0 : Int), (20000 : Int)] : List Int)).bind fun y9 =>
            asrt ((r_Events.length : Int) + (([(⟨y8.1, y9.1⟩ : Event)] : List Event).length : Int) ≤ 2147483648) <|
            (((
              some ((r_Events ++ ([(⟨y8.1, y9.1⟩ : Event)] : List Event)), y9.2)) : Option (List Event × Cur))).bind fun e => match e with
            | (r_Events4, o) =>
              (some (y0.1, y1.1, r_Events4, o)))
          else (
            some (y0.1, y1.1, r_Events, y5.2))))) : Option (Int × Int × List Event × Cur))).bind fun e => match e with
    | (r_Series, r_Made, r_Events3, c_3) =>
      (some ((⟨id_, r_Series, r_Made, r_Events3⟩ : Record), c_3)))

def M.spec_l1Cur_rule (c : Cur) : Option (Rule × Cur) :=
  (M.spec_l1Cur_among c ([(1 : Int), (2 : Int), (3 : Int), (3 : Int), (7 : Int), (99 : Int)] : List Int)).bind fun y0 =>
  (M.spec_l1Cur_among y0.2 ([(0 : Int), (0 : Int), (1 : Int), (2 : Int), (3 : Int), (9 : Int)] : List Int)).bind fun y1 =>
  (M.spec_l1Cur_among y1.2 ([(0 : Int), (30 : Int), (365 : Int), (400 : Int), (3650 : Int), (20000 : Int)] : List Int)).bind fun y2 =>
  (M.spec_l1Cur_pick y2.2 (3 : Int)).bind fun y3 =>
  (M.spec_l1Cur_pick y3.2 (48 : Int)).bind fun y4 =>
  (((
    bif (y4.1 == (0 : Int)) then (
      (M.spec_l1Cur_among y4.2 ([(0 : Int), (100 : Int)] : List Int)).bind fun y5 =>
      some (y5.2, (⟨y5.1, y1.1, y2.1, (IntKind.i64.wrap ((1 : Int) + y3.1))⟩ : Rule)))
    else (
      bif (y4.1 == (1 : Int)) then (
        (M.spec_l1Cur_among y4.2 ([(-1 : Int), (10 : Int)] : List Int)).bind fun y6 =>
        some (y6.2, (⟨y0.1, y6.1, y2.1, (IntKind.i64.wrap ((1 : Int) + y3.1))⟩ : Rule)))
      else (
        bif (y4.1 == (2 : Int)) then (
          (M.spec_l1Cur_among y4.2 ([(-1 : Int), (20001 : Int)] : List Int)).bind fun y7 =>
          some (y7.2, (⟨y0.1, y1.1, y7.1, (IntKind.i64.wrap ((1 : Int) + y3.1))⟩ : Rule)))
        else (
          bif (y4.1 == (3 : Int)) then (
            (M.spec_l1Cur_among y4.2 ([(0 : Int), (4 : Int)] : List Int)).bind fun y8 =>
            some (y8.2, (⟨y0.1, y1.1, y2.1, y8.1⟩ : Rule)))
          else (
            some (y4.2, (⟨y0.1, y1.1, y2.1, (IntKind.i64.wrap ((1 : Int) + y3.1))⟩ : Rule))))))) : Option (Cur × Rule))).bind fun e => match e with
  | (c_, r_) =>
    (some (r_, c_))

def M.spec_l1In (x : Int) (a : Int) (b_ : Int) : Option Bool :=
  some ((decide (x ≥ a)) && (decide (x ≤ b_)))

def M.spec_l4One (r_ : Rule) : Option Bool :=
  (M.spec_l1In r_.Series (1 : Int) (99 : Int)).bind fun y0 =>
  ((bif y0 then M.spec_l1In r_.Event (0 : Int) (9 : Int) else some default)).bind fun y1 =>
  ((bif (y0 && y1) then M.spec_l1In r_.Days (0 : Int) (20000 : Int) else some default)).bind fun y2 =>
  ((bif ((y0 && y1) && y2) then M.spec_l1In r_.Act (1 : Int) (3 : Int) else some default)).bind fun y3 =>
  some (((y0 && y1) && y2) && y3)

def M.spec_l4Before (a : Rule) (b_ : Rule) : Option Bool :=
  some ((decide (a.Series < b_.Series)) || ((a.Series == b_.Series) && (decide (a.Event < b_.Event))))

def M.spec_l4Good_l0 (list : List Rule) : (Int) → Option ((Int) ⊕ ((Unit) ⊕ (Bool))) := fun st_ => match st_ with
| i =>
  bif (decide (i < (list.length : Int))) then (
    asrt ((0 : Int) ≤ i ∧ i < (list.length : Int)) <|
    (M.spec_l4One (list.getD (Int.toNat i) default)).bind fun y1 =>
    asrt ((!y1) = false → (decide (i > (0 : Int))) = true → ((0 : Int) ≤ (IntKind.i64.wrap (i - (1 : Int))) ∧ (IntKind.i64.wrap (i - (1 : Int))) < (list.length : Int))) <|
    asrt ((!y1) = false → (decide (i > (0 : Int))) = true → ((0 : Int) ≤ i ∧ i < (list.length : Int))) <|
    ((bif (!y1) then some default else (bif (decide (i > (0 : Int))) then M.spec_l4Before (list.getD (Int.toNat (IntKind.i64.wrap (i - (1 : Int)))) default) (list.getD (Int.toNat i) default) else some default))).bind fun y2 =>
    bif ((!y1) || ((decide (i > (0 : Int))) && (!y2))) then (
      some (.inr (.inr false)))
    else (
      some (.inl (IntKind.i64.wrap (i + (1 : Int))))))
  else (
    some (.inr (.inl ())))

def M.spec_l4Good (list : List Rule) : Option Bool :=
  (iterO (M.spec_l4Good_l0 list) (0 : Int)).bind fun e => match e with
  | .inl () =>
    (some (decide ((list.length : Int) ≤ (8 : Int))))
  | .inr r => some r

def M.spec_l4Without_l0 (list : List Rule) (series : Int) (event : Int) : (List Rule × Int) → Option ((List Rule × Int) ⊕ (List Rule)) := fun st_ => match st_ with
| (out_0, i) =>
  bif (decide (i < (list.length : Int))) then (
    (((
      asrt ((0 : Int) ≤ i ∧ i < (list.length : Int)) <|
      asrt ((((list.getD (Int.toNat i) default).Series) != series) = false → ((0 : Int) ≤ i ∧ i < (list.length : Int))) <|
      bif ((((list.getD (Int.toNat i) default).Series) != series) || (((list.getD (Int.toNat i) default).Event) != event)) then (
        asrt ((0 : Int) ≤ i ∧ i < (list.length : Int)) <|
        asrt ((out_0.length : Int) + (([(list.getD (Int.toNat i) default)] : List Rule).length : Int) ≤ 2147483648) <|
        some (out_0 ++ ([(list.getD (Int.toNat i) default)] : List Rule)))
      else (
        some out_0)) : Option (List Rule))).bind fun e => match e with
    | out_1 =>
      (some (.inl (out_1, (IntKind.i64.wrap (i + (1 : Int)))))))
  else (
    some (.inr out_0))

def M.spec_l4Without (list : List Rule) (series : Int) (event : Int) : Option (List Rule) :=
  (iterO (M.spec_l4Without_l0 list series event) (([] : List Rule), (0 : Int))).bind fun e => match e with
  | out_ =>
    (some out_)

def M.spec_PutRule_l0 (r_ : Rule) (y2 : List Rule) : (Int) → Option ((Int) ⊕ (Int)) := fun st_ => match st_ with
| k0 =>
  asrt ((decide (k0 < (y2.length : Int))) = true → ((0 : Int) ≤ k0 ∧ k0 < (y2.length : Int))) <|
  ((bif (decide (k0 < (y2.length : Int))) then M.spec_l4Before (y2.getD (Int.toNat k0) default) r_ else some default)).bind fun y4 =>
  bif ((decide (k0 < (y2.length : Int))) && y4) then (
    some (.inl (IntKind.i64.wrap (k0 + (1 : Int)))))
  else (
    some (.inr k0))

def M.spec_PutRule (list : List Rule) (r_ : Rule) : Option (List Rule × Bool) :=
  (M.spec_l4Good list).bind fun y0 =>
  ((bif (!y0) then some default else M.spec_l4One r_)).bind fun y1 =>
  bif ((!y0) || (!y1)) then (
    some (([] : List Rule), false))
  else (
    (M.spec_l4Without list r_.Series r_.Event).bind fun y2 =>
    (iterO (M.spec_PutRule_l0 r_ y2) (0 : Int)).bind fun e => match e with
    | k =>
      (asrt ((0 : Int) ≤ (0 : Int) ∧ (0 : Int) ≤ k ∧ k ≤ (y2.length : Int)) <|
      asrt ((([] : List Rule).length : Int) + ((slc y2 (0 : Int) k).length : Int) ≤ 2147483648) <|
      asrt (((([] : List Rule) ++ (slc y2 (0 : Int) k)).length : Int) + (([r_] : List Rule).length : Int) ≤ 2147483648) <|
      asrt ((0 : Int) ≤ k ∧ k ≤ (y2.length : Int) ∧ (y2.length : Int) ≤ (y2.length : Int)) <|
      asrt ((((([] : List Rule) ++ (slc y2 (0 : Int) k)) ++ ([r_] : List Rule)).length : Int) + ((slc y2 k (y2.length : Int)).length : Int) ≤ 2147483648) <|
      (((
        some (((([] : List Rule) ++ (slc y2 (0 : Int) k)) ++ ([r_] : List Rule)) ++ (slc y2 k (y2.length : Int)))) : Option (List Rule))).bind fun e => match e with
      | out_ =>
        ((M.spec_l4Good out_).bind fun y5 =>
        bif (!y5) then (
          some (([] : List Rule), false))
        else (
          some (out_, true)))))

def M.spec_l1Cur_schedule_l0 : (List Rule × Int × Cur) → Option ((List Rule × Int × Cur) ⊕ (List Rule × Cur)) := fun st_ => match st_ with
| (list0, n_, c_0) =>
  bif (decide (n_ > (0 : Int))) then (
    (((
      (M.spec_l1Cur_rule c_0).bind fun y2 =>
      (M.spec_PutRule list0 y2.1).bind fun y3 =>
      bif y3.2 then (
        some (y3.1, y2.2))
      else (
        some (list0, y2.2))) : Option (List Rule × Cur))).bind fun e => match e with
    | (list1, c_1) =>
      (some (.inl (list1, (IntKind.i64.wrap (n_ - (1 : Int))), c_1))))
  else (
    some (.inr (list0, c_0)))

def M.spec_l1Cur_schedule_l1 : (List Rule × Cur) → Option ((List Rule × Cur) ⊕ (List Rule × Cur)) := fun st_ => match st_ with
| (list4, c_4) =>
  (M.spec_l1Cur_pick c_4 (2 : Int)).bind fun y7 =>
  bif (decide ((list4.length : Int) < (IntKind.i64.wrap ((8 : Int) + y7.1)))) then (
    asrt ((list4.length : Int) + (([(⟨(1 : Int), (list4.length : Int), (5 : Int), (3 : Int)⟩ : Rule)] : List Rule).length : Int) ≤ 2147483648) <|
    some (.inl ((list4 ++ ([(⟨(1 : Int), (list4.length : Int), (5 : Int), (3 : Int)⟩ : Rule)] : List Rule)), y7.2)))
  else (
    some (.inr (list4, y7.2)))

def M.spec_l1Cur_schedule (c : Cur) : Option (List Rule × Cur) :=
  (M.spec_l1Cur_pick c (7 : Int)).bind fun y0 =>
  (iterO (M.spec_l1Cur_schedule_l0) (([] : List Rule), y0.1, y0.2)).bind fun e => match e with
  | (list, c_) =>
    ((M.spec_l1Cur_pick c_ (32 : Int)).bind fun y4 =>
    (((
      bif (y4.1 == (0 : Int)) then (
        (M.spec_l1Cur_rule y4.2).bind fun y5 =>
        asrt ((list.length : Int) + (([y5.1] : List Rule).length : Int) ≤ 2147483648) <|
        some ((list ++ ([y5.1] : List Rule)), y5.2))
      else (
        bif (y4.1 == (1 : Int)) then (
          (iterO (M.spec_l1Cur_schedule_l1) (([] : List Rule), y4.2)).bind fun e => match e with
          | (list3, c_3) =>
            (some (list3, c_3)))
        else (
          some (list, y4.2)))) : Option (List Rule × Cur))).bind fun e => match e with
    | (list2, c_2) =>
      (some (list2, c_2)))

def M.spec_l1Cur_suited_l0 (r_ : Record) : (List Rule × Int × Cur) → Option ((List Rule × Int × Cur) ⊕ (List Rule × Cur)) := fun st_ => match st_ with
| (list0, n_, c_0) =>
  ((bif (decide (n_ > (0 : Int))) then M.spec_l4Good list0 else some default)).bind fun y3 =>
  bif ((decide (n_ > (0 : Int))) && y3) then (
    (((
      (M.spec_l1Cur_among c_0 ([(0 : Int), (0 : Int), (1 : Int), (2 : Int), (3 : Int)] : List Int)).bind fun y4 =>
      (M.spec_l1Cur_among y4.2 ([(0 : Int), (30 : Int), (365 : Int), (1000 : Int)] : List Int)).bind fun y5 =>
      (M.spec_l1Cur_pick y5.2 (3 : Int)).bind fun y6 =>
      (((
        some y6.2) : Option Cur)).bind fun e => match e with
      | c_2 =>
        ((((
          ((bif (decide ((r_.Events.length : Int) > (0 : Int))) then M.spec_l1Cur_one c_2 (2 : Int) else some default)).bind fun y7 =>
          bif ((decide ((r_.Events.length : Int) > (0 : Int))) && y7.1) then (
            (M.spec_l1Cur_pick (bif (decide ((r_.Events.length : Int) > (0 : Int))) then y7.2 else c_2) (r_.Events.length : Int)).bind fun y8 =>
            asrt ((0 : Int) ≤ y8.1 ∧ y8.1 < (r_.Events.length : Int)) <|
            some (y8.2, (⟨r_.Series, (r_.Events.getD (Int.toNat y8.1) default).Kind, y5.1, (IntKind.i64.wrap ((1 : Int) + y6.1))⟩ : Rule)))
          else (
            some ((bif (decide ((r_.Events.length : Int) > (0 : Int))) then y7.2 else c_2), (⟨r_.Series, y4.1, y5.1, (IntKind.i64.wrap ((1 : Int) + y6.1))⟩ : Rule)))) : Option (Cur × Rule))).bind fun e => match e with
        | (c_3, rule) =>
          ((M.spec_PutRule list0 rule).bind fun y9 =>
          bif y9.2 then (
            some (y9.1, c_3))
          else (
            some (list0, c_3))))) : Option (List Rule × Cur))).bind fun e => match e with
    | (list1, c_1) =>
      (some (.inl (list1, (IntKind.i64.wrap (n_ - (1 : Int))), c_1))))
  else (
    some (.inr (list0, c_0)))

def M.spec_l1Cur_suited (c : Cur) (r_ : Record) : Option (List Rule × Cur) :=
  (M.spec_l1Cur_schedule c).bind fun y0 =>
  (M.spec_l1Cur_pick y0.2 (4 : Int)).bind fun y1 =>
  (iterO (M.spec_l1Cur_suited_l0 r_) (y0.1, y1.1, y1.2)).bind fun e => match e with
  | (list, c_) =>
    (some (list, c_))

def M.spec_l1Cur_versions_l0 (r_ : Record) : (List Version × Int × Int × Cur) → Option ((List Version × Int × Int × Cur) ⊕ (List Version × Cur)) := fun st_ => match st_ with
| (list0, from_, n_, c_0) =>
  bif (decide (n_ > (0 : Int))) then (
    (((
      (M.spec_l1Cur_suited c_0 r_).bind fun y3 =>
      (((
        ((bif (decide ((list0.length : Int) > (0 : Int))) then M.spec_l1Cur_one y3.2 (3 : Int) else some default)).bind fun y4 =>
        bif ((decide ((list0.length : Int) > (0 : Int))) && y4.1) then (
          asrt ((0 : Int) ≤ (IntKind.i64.wrap ((list0.length : Int) - (1 : Int))) ∧ (IntKind.i64.wrap ((list0.length : Int) - (1 : Int))) < (list0.length : Int)) <|
          asrt ((([] : List Rule).length : Int) + (((list0.getD (Int.toNat (IntKind.i64.wrap ((list0.length : Int) - (1 : Int)))) default).Rules).length : Int) ≤ 2147483648) <|
          some ((([] : List Rule) ++ ((list0.getD (Int.toNat (IntKind.i64.wrap ((list0.length : Int) - (1 : Int)))) default).Rules)), (bif (decide ((list0.length : Int) > (0 : Int))) then y4.2 else y3.2)))
        else (
          some (y3.1, (bif (decide ((list0.length : Int) > (0 : Int))) then y4.2 else y3.2)))) : Option (List Rule × Cur))).bind fun e => match e with
      | (v_Rules, c_2) =>
        (asrt ((list0.length : Int) + (([(⟨from_, v_Rules⟩ : Version)] : List Version).length : Int) ≤ 2147483648) <|
        (M.spec_l1Cur_among c_2 ([(1 : Int), (100 : Int), (365 : Int), (2000 : Int)] : List Int)).bind fun y5 =>
        some ((list0 ++ ([(⟨from_, v_Rules⟩ : Version)] : List Version)), (IntKind.i64.wrap (from_ + y5.1)), y5.2))) : Option (List Version × Int × Cur))).bind fun e => match e with
    | (list1, from_0, c_1) =>
      (some (.inl (list1, from_0, (IntKind.i64.wrap (n_ - (1 : Int))), c_1))))
  else (
    some (.inr (list0, c_0)))

def M.spec_l1Cur_versions_l1 : (List Version × Cur) → Option ((List Version × Cur) ⊕ (List Version × Cur)) := fun st_ => match st_ with
| (list4, c_5) =>
  (M.spec_l1Cur_pick c_5 (2 : Int)).bind fun y9 =>
  bif (decide ((list4.length : Int) < (IntKind.i64.wrap ((5 : Int) + y9.1)))) then (
    asrt ((list4.length : Int) + (([(⟨(IntKind.i64.wrap ((9000 : Int) + (list4.length : Int))), ([] : List Rule)⟩ : Version)] : List Version).length : Int) ≤ 2147483648) <|
    some (.inl ((list4 ++ ([(⟨(IntKind.i64.wrap ((9000 : Int) + (list4.length : Int))), ([] : List Rule)⟩ : Version)] : List Version)), y9.2)))
  else (
    some (.inr (list4, y9.2)))

def M.spec_l1Cur_versions (c : Cur) (r_ : Record) : Option (List Version × Cur) :=
  (M.spec_l1Cur_among c ([(0 : Int), (0 : Int), (100 : Int), (500 : Int)] : List Int)).bind fun y0 =>
  (M.spec_l1Cur_pick y0.2 (4 : Int)).bind fun y1 =>
  (iterO (M.spec_l1Cur_versions_l0 r_) (([] : List Version), y0.1, y1.1, y1.2)).bind fun e => match e with
  | (list, c_) =>
    ((M.spec_l1Cur_pick c_ (32 : Int)).bind fun y6 =>
    (((
      bif (y6.1 == (0 : Int)) then (
        (M.spec_l1Cur_among y6.2 ([(0 : Int), (20000 : Int), (20001 : Int)] : List Int)).bind fun y7 =>
        asrt ((list.length : Int) + (([(⟨y7.1, ([] : List Rule)⟩ : Version)] : List Version).length : Int) ≤ 2147483648) <|
        some ((list ++ ([(⟨y7.1, ([] : List Rule)⟩ : Version)] : List Version)), y7.2))
      else (
        bif (y6.1 == (1 : Int)) then (
          (iterO (M.spec_l1Cur_versions_l1) (list, y6.2)).bind fun e => match e with
          | (list3, c_4) =>
            (some (list3, c_4)))
        else (
          some (list, y6.2)))) : Option (List Version × Cur))).bind fun e => match e with
    | (list2, c_3) =>
      (some (list2, c_3)))

def M.spec_l1Cur_day (c : Cur) : Option (Int × Cur) :=
  (M.spec_l1Cur_among c ([(0 : Int), (10 : Int), (100 : Int), (150 : Int), (400 : Int), (1000 : Int), (3650 : Int), (19999 : Int), (20000 : Int), (20001 : Int), (-1 : Int), (365 : Int)] : List Int)).bind fun y0 =>
  some (y0.1, y0.2)

def M.spec_DrawPutVersion (code : List Int) : Option (List Version × Version) :=
  (M.spec_l1Cur_record (⟨code, (0 : Int), (0 : Int)⟩ : Cur) (12 : Int)).bind fun y0 =>
  (M.spec_l1Cur_versions y0.2 y0.1).bind fun y1 =>
  (M.spec_l1Cur_day y1.2).bind fun y2 =>
  (M.spec_l1Cur_suited y2.2 y0.1).bind fun y3 =>
  (((
    some y3.2) : Option Cur)).bind fun e => match e with
  | c_ =>
    ((((
      ((bif (decide ((y1.1.length : Int) > (0 : Int))) then M.spec_l1Cur_one c_ (3 : Int) else some default)).bind fun y4 =>
      bif ((decide ((y1.1.length : Int) > (0 : Int))) && y4.1) then (
        (M.spec_l1Cur_pick (bif (decide ((y1.1.length : Int) > (0 : Int))) then y4.2 else c_) (y1.1.length : Int)).bind fun y5 =>
        asrt ((0 : Int) ≤ y5.1 ∧ y5.1 < (y1.1.length : Int)) <|
        some (y5.2, (⟨(y1.1.getD (Int.toNat y5.1) default).From, y3.1⟩ : Version)))
      else (
        some ((bif (decide ((y1.1.length : Int) > (0 : Int))) then y4.2 else c_), (⟨y2.1, y3.1⟩ : Version)))) : Option (Cur × Version))).bind fun e => match e with
    | (c_0, v) =>
      (some (y1.1, v)))

def M.impl_within (n : Int) (low : Int) (high : Int) : Option Bool :=
  some ((decide (low ≤ n)) && (decide (n ≤ high)))

def M.impl_isDay (day : Int) : Option Bool :=
  (M.impl_within day (0 : Int) (20000 : Int)).bind fun y0 =>
  some y0

def M.impl_isId (id_ : Int) : Option Bool :=
  (M.impl_within id_ (1 : Int) (99 : Int)).bind fun y0 =>
  some y0

def M.impl_isAct (act : Int) : Option Bool :=
  (M.impl_within act (1 : Int) (3 : Int)).bind fun y0 =>
  some y0

def M.impl_IsRule (r_ : Rule) : Option Bool :=
  (M.impl_isId r_.Series).bind fun y0 =>
  ((bif y0 then M.impl_within r_.Event (0 : Int) (9 : Int) else some default)).bind fun y1 =>
  ((bif (y0 && y1) then M.impl_within r_.Days (0 : Int) (20000 : Int) else some default)).bind fun y2 =>
  ((bif ((y0 && y1) && y2) then M.impl_isAct r_.Act else some default)).bind fun y3 =>
  some (((y0 && y1) && y2) && y3)

def M.cmp_isNaN_int (x : Int) : Option Bool :=
  some (x != x)

def M.cmp_Compare_int (x : Int) (y : Int) : Option Int :=
  (M.cmp_isNaN_int x).bind fun y0 =>
  (M.cmp_isNaN_int y).bind fun y1 =>
  bif y0 then (
    bif y1 then (
      some (0 : Int))
    else (
      some (-1 : Int)))
  else (
    bif y1 then (
      some (1 : Int))
    else (
      bif (decide (x < y)) then (
        some (-1 : Int))
      else (
        bif (decide (x > y)) then (
          some (1 : Int))
        else (
          some (0 : Int)))))

def M.cmp_Or_int_l0 (vals : List Int) : (Int) → Option ((Int) ⊕ ((Unit) ⊕ (Int))) := fun st_ => match st_ with
| v =>
  bif (decide (v < (vals.length : Int))) then (
    asrt ((0 : Int) ≤ v ∧ v < (vals.length : Int)) <|
    bif ((vals.getD (Int.toNat v) default) != (0 : Int)) then (
      some (.inr (.inr (vals.getD (Int.toNat v) default))))
    else (
      some (.inl (IntKind.i64.wrap (v + (1 : Int))))))
  else (
    some (.inr (.inl ())))

def M.cmp_Or_int (vals : List Int) : Option Int :=
  (iterO (M.cmp_Or_int_l0 vals) (0 : Int)).bind fun e => match e with
  | .inl () =>
    (some (0 : Int))
  | .inr r => some r

def M.impl_compareRules (a : Rule) (b_ : Rule) : Option Int :=
  (M.cmp_Compare_int a.Series b_.Series).bind fun y0 =>
  (M.cmp_Compare_int a.Event b_.Event).bind fun y1 =>
  (M.cmp_Or_int ([y0, y1] : List Int)).bind fun y2 =>
  some y2

def M.impl_IsSchedule_l0 (list : List Rule) : (Int) → Option ((Int) ⊕ ((Unit) ⊕ (Bool))) := fun st_ => match st_ with
| v =>
  bif (decide (v < (list.length : Int))) then (
    asrt ((0 : Int) ≤ v ∧ v < (list.length : Int)) <|
    (M.impl_IsRule (list.getD (Int.toNat v) default)).bind fun y1 =>
    asrt ((!y1) = false → (decide (v > (0 : Int))) = true → ((0 : Int) ≤ (IntKind.i64.wrap (v - (1 : Int))) ∧ (IntKind.i64.wrap (v - (1 : Int))) < (list.length : Int))) <|
    ((bif (!y1) then some default else (bif (decide (v > (0 : Int))) then M.impl_compareRules (list.getD (Int.toNat (IntKind.i64.wrap (v - (1 : Int)))) default) (list.getD (Int.toNat v) default) else some default))).bind fun y2 =>
    bif ((!y1) || ((decide (v > (0 : Int))) && (decide (y2 ≥ (0 : Int))))) then (
      some (.inr (.inr false)))
    else (
      some (.inl (IntKind.i64.wrap (v + (1 : Int))))))
  else (
    some (.inr (.inl ())))

def M.impl_IsSchedule (list : List Rule) : Option Bool :=
  (iterO (M.impl_IsSchedule_l0 list) (0 : Int)).bind fun e => match e with
  | .inl () =>
    (some (decide ((list.length : Int) ≤ (8 : Int))))
  | .inr r => some r

def M.impl_AreVersions_l0 (list : List Version) : (Int) → Option ((Int) ⊕ ((Unit) ⊕ (Bool))) := fun st_ => match st_ with
| v =>
  bif (decide (v < (list.length : Int))) then (
    asrt ((0 : Int) ≤ v ∧ v < (list.length : Int)) <|
    (M.impl_isDay ((list.getD (Int.toNat v) default).From)).bind fun y1 =>
    ((bif (!y1) then some default else M.impl_IsSchedule ((list.getD (Int.toNat v) default).Rules))).bind fun y2 =>
    asrt (((!y1) || (!y2)) = false → (decide (v > (0 : Int))) = true → ((0 : Int) ≤ (IntKind.i64.wrap (v - (1 : Int))) ∧ (IntKind.i64.wrap (v - (1 : Int))) < (list.length : Int))) <|
    bif (((!y1) || (!y2)) || ((decide (v > (0 : Int))) && (decide (((list.getD (Int.toNat (IntKind.i64.wrap (v - (1 : Int)))) default).From) ≥ ((list.getD (Int.toNat v) default).From))))) then (
      some (.inr (.inr false)))
    else (
      some (.inl (IntKind.i64.wrap (v + (1 : Int))))))
  else (
    some (.inr (.inl ())))

def M.impl_AreVersions (list : List Version) : Option Bool :=
  (iterO (M.impl_AreVersions_l0 list) (0 : Int)).bind fun e => match e with
  | .inl () =>
    (some (decide ((list.length : Int) ≤ (5 : Int))))
  | .inr r => some r

def M.slices_Clone_impl_Version_impl_Version (s : List Version) : Option (List Version) := asrt ((s.length : Int) ≤ 2147483648) <| some s

def M.slices_Clone_impl_Rule_impl_Rule (s : List Rule) : Option (List Rule) := asrt ((s.length : Int) ≤ 2147483648) <| some s

def M.impl_copyVersions_l0 (y0 : List Version) : (List Version × Int) → Option ((List Version × Int) ⊕ (List Version)) := fun st_ => match st_ with
| (out_0, v) =>
  bif (decide (v < (y0.length : Int))) then (
    asrt ((0 : Int) ≤ v ∧ v < (out_0.length : Int)) <|
    (M.slices_Clone_impl_Rule_impl_Rule ((out_0.getD (Int.toNat v) default).Rules)).bind fun y2 =>
    asrt ((0 : Int) ≤ v ∧ v < (out_0.length : Int)) <|
    some (.inl ((out_0.set (Int.toNat v) (⟨(out_0.getD (Int.toNat v) default).From, y2⟩ : Version)), (IntKind.i64.wrap (v + (1 : Int))))))
  else (
    some (.inr out_0))

def M.impl_copyVersions (list : List Version) : Option (List Version) :=
  (M.slices_Clone_impl_Version_impl_Version list).bind fun y0 =>
  (iterO (M.impl_copyVersions_l0 y0) (y0, (0 : Int))).bind fun e => match e with
  | out_ =>
    (some out_)

def M.slices_BinarySearchFunc_impl_Version_impl_Version_impl_Version_l0 (x : List Version) (target : Version) (fm : Version → Version → Option Int) : (Int × Int) → Option ((Int × Int) ⊕ (Int)) := fun st_ => match st_ with
| (i0, j_) =>
  bif (decide (i0 < j_)) then (
    (((
      asrt ((0 : Int) ≤ (IntKind.i64.wrap (Int.fdiv (IntKind.u64.wrap (IntKind.i64.wrap (i0 + j_))) (2 ^ (min (Int.toNat (1 : Int)) IntKind.u64.bits)))) ∧ (IntKind.i64.wrap (Int.fdiv (IntKind.u64.wrap (IntKind.i64.wrap (i0 + j_))) (2 ^ (min (Int.toNat (1 : Int)) IntKind.u64.bits)))) < (x.length : Int)) <|
      (fm (x.getD (Int.toNat (IntKind.i64.wrap (Int.fdiv (IntKind.u64.wrap (IntKind.i64.wrap (i0 + j_))) (2 ^ (min (Int.toNat (1 : Int)) IntKind.u64.bits))))) default) target).bind fun y1 =>
      bif (decide (y1 < (0 : Int))) then (
        some ((IntKind.i64.wrap ((IntKind.i64.wrap (Int.fdiv (IntKind.u64.wrap (IntKind.i64.wrap (i0 + j_))) (2 ^ (min (Int.toNat (1 : Int)) IntKind.u64.bits)))) + (1 : Int))), j_))
      else (
        some (i0, (IntKind.i64.wrap (Int.fdiv (IntKind.u64.wrap (IntKind.i64.wrap (i0 + j_))) (2 ^ (min (Int.toNat (1 : Int)) IntKind.u64.bits))))))) : Option (Int × Int))).bind fun e => match e with
    | (i1, j_0) =>
      (some (.inl (i1, j_0))))
  else (
    some (.inr i0))

def M.slices_BinarySearchFunc_impl_Version_impl_Version_impl_Version (x : List Version) (target : Version) (fm : Version → Version → Option Int) : Option (Int × Bool) :=
  (iterO (M.slices_BinarySearchFunc_impl_Version_impl_Version_impl_Version_l0 x target fm) ((0 : Int), (x.length : Int))).bind fun e => match e with
  | i =>
    (asrt ((decide (i < (x.length : Int))) = true → ((0 : Int) ≤ i ∧ i < (x.length : Int))) <|
    ((bif (decide (i < (x.length : Int))) then fm (x.getD (Int.toNat i) default) target else some default)).bind fun y2 =>
    some (i, ((decide (i < (x.length : Int))) && (y2 == (0 : Int)))))

def M.impl_PutVersion_1 (a : Version) (b_ : Version) : Option Int :=
  (M.cmp_Compare_int a.From b_.From).bind fun y0 =>
  some y0

def M.slices_Insert_impl_Version_impl_Version (s : List Version) (i : Int) (v : List Version) : Option (List Version) := asrt ((0 : Int) ≤ i ∧ i ≤ (s.length : Int) ∧ (s.length : Int) ≤ 2147483647 ∧ v.length = 1) <| some (s.take i.toNat ++ v ++ s.drop i.toNat)

def M.impl_PutVersion (list : List Version) (v : Version) : Option (List Version × Bool) :=
  (M.impl_AreVersions list).bind fun y0 =>
  bif (!y0) then (
    some (([] : List Version), false))
  else (
    (M.impl_copyVersions list).bind fun y1 =>
    (M.slices_Clone_impl_Rule_impl_Rule v.Rules).bind fun y2 =>
    (M.slices_BinarySearchFunc_impl_Version_impl_Version_impl_Version y1 (⟨v.From, y2⟩ : Version) (fun x0 x1 => M.impl_PutVersion_1 x0 x1)).bind fun y3 =>
    (((
      bif y3.2 then (
        asrt ((0 : Int) ≤ y3.1 ∧ y3.1 < (y1.length : Int)) <|
        some (y1.set (Int.toNat y3.1) (⟨v.From, y2⟩ : Version)))
      else (
        (M.slices_Insert_impl_Version_impl_Version y1 y3.1 ([(⟨v.From, y2⟩ : Version)] : List Version)).bind fun y4 =>
        some y4)) : Option (List Version))).bind fun e => match e with
    | out_ =>
      ((M.impl_AreVersions out_).bind fun y5 =>
      bif (!y5) then (
        some (([] : List Version), false))
      else (
        some (out_, true))))

def M.spec_l2Day (d : Int) : Option Bool :=
  (M.spec_l1In d (0 : Int) (20000 : Int)).bind fun y0 =>
  some y0

def M.spec_l8Good_l0 (list : List Version) : (Int) → Option ((Int) ⊕ ((Unit) ⊕ (Bool))) := fun st_ => match st_ with
| i =>
  bif (decide (i < (list.length : Int))) then (
    asrt ((0 : Int) ≤ i ∧ i < (list.length : Int)) <|
    (M.spec_l2Day ((list.getD (Int.toNat i) default).From)).bind fun y1 =>
    asrt ((!y1) = false → ((0 : Int) ≤ i ∧ i < (list.length : Int))) <|
    ((bif (!y1) then some default else M.spec_l4Good ((list.getD (Int.toNat i) default).Rules))).bind fun y2 =>
    asrt (((!y1) || (!y2)) = false → (decide (i > (0 : Int))) = true → ((0 : Int) ≤ (IntKind.i64.wrap (i - (1 : Int))) ∧ (IntKind.i64.wrap (i - (1 : Int))) < (list.length : Int))) <|
    asrt (((!y1) || (!y2)) = false → (decide (i > (0 : Int))) = true → ((0 : Int) ≤ i ∧ i < (list.length : Int))) <|
    bif (((!y1) || (!y2)) || ((decide (i > (0 : Int))) && (decide (((list.getD (Int.toNat (IntKind.i64.wrap (i - (1 : Int)))) default).From) ≥ ((list.getD (Int.toNat i) default).From))))) then (
      some (.inr (.inr false)))
    else (
      some (.inl (IntKind.i64.wrap (i + (1 : Int))))))
  else (
    some (.inr (.inl ())))

def M.spec_l8Good (list : List Version) : Option Bool :=
  (iterO (M.spec_l8Good_l0 list) (0 : Int)).bind fun e => match e with
  | .inl () =>
    (some (decide ((list.length : Int) ≤ (5 : Int))))
  | .inr r => some r

def M.spec_l8Own (v : Version) : Option Version :=
  asrt ((([] : List Rule).length : Int) + (v.Rules.length : Int) ≤ 2147483648) <|
  some (⟨v.From, (([] : List Rule) ++ v.Rules)⟩ : Version)

def M.spec_PutVersion_l0 (list : List Version) (v : Version) : (List Version × Int) → Option ((List Version × Int) ⊕ (List Version)) := fun st_ => match st_ with
| (out_0, i) =>
  bif (decide (i < (list.length : Int))) then (
    (((
      asrt ((0 : Int) ≤ i ∧ i < (list.length : Int)) <|
      bif (decide (((list.getD (Int.toNat i) default).From) < v.From)) then (
        asrt ((0 : Int) ≤ i ∧ i < (list.length : Int)) <|
        (M.spec_l8Own (list.getD (Int.toNat i) default)).bind fun y3 =>
        asrt ((out_0.length : Int) + (([y3] : List Version).length : Int) ≤ 2147483648) <|
        some (out_0 ++ ([y3] : List Version)))
      else (
        some out_0)) : Option (List Version))).bind fun e => match e with
    | out_1 =>
      (some (.inl (out_1, (IntKind.i64.wrap (i + (1 : Int)))))))
  else (
    some (.inr out_0))

def M.spec_PutVersion_l1 (list : List Version) (v : Version) : (List Version × Int) → Option ((List Version × Int) ⊕ (List Version)) := fun st_ => match st_ with
| (out_3, i0) =>
  bif (decide (i0 < (list.length : Int))) then (
    (((
      asrt ((0 : Int) ≤ i0 ∧ i0 < (list.length : Int)) <|
      bif (decide (((list.getD (Int.toNat i0) default).From) > v.From)) then (
        asrt ((0 : Int) ≤ i0 ∧ i0 < (list.length : Int)) <|
        (M.spec_l8Own (list.getD (Int.toNat i0) default)).bind fun y6 =>
        asrt ((out_3.length : Int) + (([y6] : List Version).length : Int) ≤ 2147483648) <|
        some (out_3 ++ ([y6] : List Version)))
      else (
        some out_3)) : Option (List Version))).bind fun e => match e with
    | out_4 =>
      (some (.inl (out_4, (IntKind.i64.wrap (i0 + (1 : Int)))))))
  else (
    some (.inr out_3))

def M.spec_PutVersion (list : List Version) (v : Version) : Option (List Version × Bool) :=
  (M.spec_l8Good list).bind fun y0 =>
  ((bif (!y0) then some default else M.spec_l8Good ([v] : List Version))).bind fun y1 =>
  bif ((!y0) || (!y1)) then (
    some (([] : List Version), false))
  else (
    (iterO (M.spec_PutVersion_l0 list v) (([] : List Version), (0 : Int))).bind fun e => match e with
    | out_ =>
      ((M.spec_l8Own v).bind fun y4 =>
      asrt ((out_.length : Int) + (([y4] : List Version).length : Int) ≤ 2147483648) <|
      (iterO (M.spec_PutVersion_l1 list v) ((out_ ++ ([y4] : List Version)), (0 : Int))).bind fun e => match e with
      | out_2 =>
        ((M.spec_l8Good out_2).bind fun y7 =>
        bif (!y7) then (
          some (([] : List Version), false))
        else (
          some (out_2, true)))))

def M.laws_vRules_l0 (a : List Rule) (b_ : List Rule) : (Int) → Option ((Int) ⊕ ((Unit) ⊕ (Bool))) := fun st_ => match st_ with
| i =>
  bif (decide (i < (a.length : Int))) then (
    asrt ((0 : Int) ≤ i ∧ i < (a.length : Int)) <|
    asrt ((0 : Int) ≤ i ∧ i < (b_.length : Int)) <|
    bif (!((((a.getD (Int.toNat i) default).Series) == ((b_.getD (Int.toNat i) default).Series)) && ((((a.getD (Int.toNat i) default).Event) == ((b_.getD (Int.toNat i) default).Event)) && ((((a.getD (Int.toNat i) default).Days) == ((b_.getD (Int.toNat i) default).Days)) && ((((a.getD (Int.toNat i) default).Act) == ((b_.getD (Int.toNat i) default).Act)) && true))))) then (
      some (.inr (.inr false)))
    else (
      some (.inl (IntKind.i64.wrap (i + (1 : Int))))))
  else (
    some (.inr (.inl ())))

def M.laws_vRules (a : List Rule) (b_ : List Rule) : Option Bool :=
  bif ((a.length : Int) != (b_.length : Int)) then (
    some false)
  else (
    (iterO (M.laws_vRules_l0 a b_) (0 : Int)).bind fun e => match e with
    | .inl () =>
      (some true)
    | .inr r => some r)

def M.laws_vVersions_l0 (a : List Version) (b_ : List Version) : (Int) → Option ((Int) ⊕ ((Unit) ⊕ (Bool))) := fun st_ => match st_ with
| i =>
  bif (decide (i < (a.length : Int))) then (
    asrt ((0 : Int) ≤ i ∧ i < (a.length : Int)) <|
    asrt ((0 : Int) ≤ i ∧ i < (b_.length : Int)) <|
    asrt ((((a.getD (Int.toNat i) default).From) != ((b_.getD (Int.toNat i) default).From)) = false → ((0 : Int) ≤ i ∧ i < (a.length : Int))) <|
    asrt ((((a.getD (Int.toNat i) default).From) != ((b_.getD (Int.toNat i) default).From)) = false → ((0 : Int) ≤ i ∧ i < (b_.length : Int))) <|
    ((bif (((a.getD (Int.toNat i) default).From) != ((b_.getD (Int.toNat i) default).From)) then some default else M.laws_vRules ((a.getD (Int.toNat i) default).Rules) ((b_.getD (Int.toNat i) default).Rules))).bind fun y1 =>
    bif ((((a.getD (Int.toNat i) default).From) != ((b_.getD (Int.toNat i) default).From)) || (!y1)) then (
      some (.inr (.inr false)))
    else (
      some (.inl (IntKind.i64.wrap (i + (1 : Int))))))
  else (
    some (.inr (.inl ())))

def M.laws_vVersions (a : List Version) (b_ : List Version) : Option Bool :=
  bif ((a.length : Int) != (b_.length : Int)) then (
    some false)
  else (
    (iterO (M.laws_vVersions_l0 a b_) (0 : Int)).bind fun e => match e with
    | .inl () =>
      (some true)
    | .inr r => some r)

def M.impl_versionOn_l0 (list : List Version) (day : Int) : (Int × Int) → Option ((Int × Int) ⊕ (Int)) := fun st_ => match st_ with
| (at_0, v) =>
  bif (decide (v < (list.length : Int))) then (
    (((
      asrt ((0 : Int) ≤ v ∧ v < (list.length : Int)) <|
      bif (decide (((list.getD (Int.toNat v) default).From) ≤ day)) then (
        some v)
      else (
        some at_0)) : Option Int)).bind fun e => match e with
    | at_1 =>
      (some (.inl (at_1, (IntKind.i64.wrap (v + (1 : Int)))))))
  else (
    some (.inr at_0))

def M.impl_versionOn (list : List Version) (day : Int) : Option Int :=
  (iterO (M.impl_versionOn_l0 list day) ((-1 : Int), (0 : Int))).bind fun e => match e with
  | at_ =>
    (some at_)

def M.impl_VersionOn (list : List Version) (day : Int) : Option (Int × Bool) :=
  (M.impl_AreVersions list).bind fun y0 =>
  ((bif (!y0) then some default else M.impl_isDay day)).bind fun y1 =>
  ((bif ((!y0) || (!y1)) then some default else M.impl_versionOn list day)).bind fun y2 =>
  bif (((!y0) || (!y1)) || (decide (y2 < (0 : Int)))) then (
    some ((0 : Int), false))
  else (
    (M.impl_versionOn list day).bind fun y3 =>
    some (y3, true))

def M.slices_Index_int_int_l0 (s : List Int) (v : Int) : (Int) → Option ((Int) ⊕ ((Unit) ⊕ (Int))) := fun st_ => match st_ with
| v0 =>
  bif (decide (v0 < (s.length : Int))) then (
    asrt ((0 : Int) ≤ v0 ∧ v0 < (s.length : Int)) <|
    bif (v == (s.getD (Int.toNat v0) default)) then (
      some (.inr (.inr v0)))
    else (
      some (.inl (IntKind.i64.wrap (v0 + (1 : Int))))))
  else (
    some (.inr (.inl ())))

def M.slices_Index_int_int (s : List Int) (v : Int) : Option Int :=
  (iterO (M.slices_Index_int_int_l0 s v) (0 : Int)).bind fun e => match e with
  | .inl () =>
    (some (-1 : Int))
  | .inr r => some r

def M.slices_Contains_int_int (s : List Int) (v : Int) : Option Bool :=
  (M.slices_Index_int_int s v).bind fun y0 =>
  some (decide (y0 ≥ (0 : Int)))

def M.impl_seriesIn_l0 (list : List Rule) : (List Int × Int) → Option ((List Int × Int) ⊕ (List Int)) := fun st_ => match st_ with
| (out_0, v) =>
  bif (decide (v < (list.length : Int))) then (
    (((
      asrt ((0 : Int) ≤ v ∧ v < (list.length : Int)) <|
      (M.slices_Contains_int_int out_0 ((list.getD (Int.toNat v) default).Series)).bind fun y1 =>
      bif (!y1) then (
        asrt ((out_0.length : Int) + (([(list.getD (Int.toNat v) default).Series] : List Int).length : Int) ≤ 2147483648) <|
        some (out_0 ++ ([(list.getD (Int.toNat v) default).Series] : List Int)))
      else (
        some out_0)) : Option (List Int))).bind fun e => match e with
    | out_1 =>
      (some (.inl (out_1, (IntKind.i64.wrap (v + (1 : Int)))))))
  else (
    some (.inr out_0))

def M.impl_seriesIn (list : List Rule) : Option (List Int) :=
  (iterO (M.impl_seriesIn_l0 list) (([] : List Int), (0 : Int))).bind fun e => match e with
  | out_ =>
    (some out_)

def M.slices_Sort_int_int (s : List Int) : Option (List Int) := asrt (s.length < 4611686018427387904) <| some (sortL s)

def M.slices_Compact_int_int_l1 (s : List Int) (k : Int) : (List Int × Int × Int) → Option ((List Int × Int × Int) ⊕ (List Int × Int)) := fun st_ => match st_ with
| (s1, k1, k2) =>
  bif (decide (k2 < (((Int.toNat (((List.length s) : Nat) : Int) - Int.toNat k) : Nat) : Int))) then (
    (((
      asrt ((0 : Int) ≤ k2 ∧ k2 < (((Int.toNat (((List.length s) : Nat) : Int) - Int.toNat k) : Nat) : Int)) <|
      asrt (((0 + Int.toNat k) + Int.toNat k2) < s1.length) <|
      asrt ((0 : Int) ≤ (IntKind.i64.wrap (k2 - (1 : Int))) ∧ (IntKind.i64.wrap (k2 - (1 : Int))) < (((Int.toNat (((List.length s) : Nat) : Int) - Int.toNat k) : Nat) : Int)) <|
      asrt (((0 + Int.toNat k) + Int.toNat (IntKind.i64.wrap (k2 - (1 : Int)))) < s1.length) <|
      bif ((s1.getD ((0 + Int.toNat k) + Int.toNat k2) default) != (s1.getD ((0 + Int.toNat k) + Int.toNat (IntKind.i64.wrap (k2 - (1 : Int)))) default)) then (
        asrt ((0 : Int) ≤ k2 ∧ k2 < (((Int.toNat (((List.length s) : Nat) : Int) - Int.toNat k) : Nat) : Int)) <|
        asrt (((0 + Int.toNat k) + Int.toNat k2) < s1.length) <|
        asrt ((0 : Int) ≤ k1 ∧ k1 < (s1.length : Int)) <|
        some ((s1.set (Int.toNat k1) (s1.getD ((0 + Int.toNat k) + Int.toNat k2) default)), (IntKind.i64.wrap (k1 + (1 : Int)))))
      else (
        some (s1, k1))) : Option (List Int × Int))).bind fun e => match e with
    | (s2, k3) =>
      (some (.inl (s2, k3, (IntKind.i64.wrap (k2 + (1 : Int)))))))
  else (
    some (.inr (s1, k1)))

def M.slices_Compact_int_int_l0 (s : List Int) : (Int) → Option ((Int) ⊕ ((Unit) ⊕ (List Int))) := fun st_ => match st_ with
| k =>
  bif (decide (k < (s.length : Int))) then (
    asrt ((0 : Int) ≤ k ∧ k < (s.length : Int)) <|
    asrt ((0 : Int) ≤ (IntKind.i64.wrap (k - (1 : Int))) ∧ (IntKind.i64.wrap (k - (1 : Int))) < (s.length : Int)) <|
    bif ((s.getD (Int.toNat k) default) == (s.getD (Int.toNat (IntKind.i64.wrap (k - (1 : Int)))) default)) then (
      asrt ((0 : Int) ≤ k ∧ k ≤ (((List.length s) : Nat) : Int) ∧ (((List.length s) : Nat) : Int) ≤ (((List.length s) : Nat) : Int)) <|
      (iterO (M.slices_Compact_int_int_l1 s k) (s, k, (1 : Int))).bind fun e => match e with
      | (s0, k0) =>
        (asrt ((0 : Int) ≤ k0 ∧ k0 ≤ (((List.length s0) : Nat) : Int) ∧ (((List.length s0) : Nat) : Int) ≤ (((List.length s0) : Nat) : Int)) <|
        asrt ((0 + Int.toNat k0) + (Int.toNat (((List.length s0) : Nat) : Int) - Int.toNat k0) ≤ s0.length) <|
        asrt ((0 : Int) ≤ (0 : Int) ∧ (0 : Int) ≤ k0 ∧ k0 ≤ ((List.take (0 + Int.toNat k0) s0 ++ List.replicate (Int.toNat (((List.length s0) : Nat) : Int) - Int.toNat k0) (0 : Int) ++ List.drop ((0 + Int.toNat k0) + (Int.toNat (((List.length s0) : Nat) : Int) - Int.toNat k0)) s0).length : Int)) <|
        asrt ((Int.toNat k0 - Int.toNat (0 : Int)) ≤ (List.take (0 + Int.toNat k0) s0 ++ List.replicate (Int.toNat (((List.length s0) : Nat) : Int) - Int.toNat k0) (0 : Int) ++ List.drop ((0 + Int.toNat k0) + (Int.toNat (((List.length s0) : Nat) : Int) - Int.toNat k0)) s0).length) <|
        some (.inr (.inr (List.take (Int.toNat k0 - Int.toNat (0 : Int)) (List.take (0 + Int.toNat k0) s0 ++ List.replicate (Int.toNat (((List.length s0) : Nat) : Int) - Int.toNat k0) (0 : Int) ++ List.drop ((0 + Int.toNat k0) + (Int.toNat (((List.length s0) : Nat) : Int) - Int.toNat k0)) s0))))))
    else (
      some (.inl (IntKind.i64.wrap (k + (1 : Int))))))
  else (
    some (.inr (.inl ())))

def M.slices_Compact_int_int (s : List Int) : Option (List Int) :=
  bif (decide ((s.length : Int) < (2 : Int))) then (
    some s)
  else (
    (iterO (M.slices_Compact_int_int_l0 s) (1 : Int)).bind fun e => match e with
    | .inl () =>
      (some s)
    | .inr r => some r)

def M.impl_rulesFor_l0 (list : List Rule) (series : Int) : (List Rule × Int) → Option ((List Rule × Int) ⊕ (List Rule)) := fun st_ => match st_ with
| (out_0, v) =>
  bif (decide (v < (list.length : Int))) then (
    (((
      asrt ((0 : Int) ≤ v ∧ v < (list.length : Int)) <|
      bif (((list.getD (Int.toNat v) default).Series) == series) then (
        asrt ((out_0.length : Int) + (([(list.getD (Int.toNat v) default)] : List Rule).length : Int) ≤ 2147483648) <|
        some (out_0 ++ ([(list.getD (Int.toNat v) default)] : List Rule)))
      else (
        some out_0)) : Option (List Rule))).bind fun e => match e with
    | out_1 =>
      (some (.inl (out_1, (IntKind.i64.wrap (v + (1 : Int)))))))
  else (
    some (.inr out_0))

def M.impl_rulesFor (list : List Rule) (series : Int) : Option (List Rule) :=
  (iterO (M.impl_rulesFor_l0 list series) (([] : List Rule), (0 : Int))).bind fun e => match e with
  | out_ =>
    (some out_)

def M.slices_Equal_impl_Rule_impl_Rule_l0 (s1 : List Rule) (s2 : List Rule) : (Int) → Option ((Int) ⊕ ((Unit) ⊕ (Bool))) := fun st_ => match st_ with
| v =>
  bif (decide (v < (s1.length : Int))) then (
    asrt ((0 : Int) ≤ v ∧ v < (s1.length : Int)) <|
    asrt ((0 : Int) ≤ v ∧ v < (s2.length : Int)) <|
    bif (!((((s1.getD (Int.toNat v) default).Series) == ((s2.getD (Int.toNat v) default).Series)) && ((((s1.getD (Int.toNat v) default).Event) == ((s2.getD (Int.toNat v) default).Event)) && ((((s1.getD (Int.toNat v) default).Days) == ((s2.getD (Int.toNat v) default).Days)) && ((((s1.getD (Int.toNat v) default).Act) == ((s2.getD (Int.toNat v) default).Act)) && true))))) then (
      some (.inr (.inr false)))
    else (
      some (.inl (IntKind.i64.wrap (v + (1 : Int))))))
  else (
    some (.inr (.inl ())))

def M.slices_Equal_impl_Rule_impl_Rule (s1 : List Rule) (s2 : List Rule) : Option Bool :=
  bif ((s1.length : Int) != (s2.length : Int)) then (
    some false)
  else (
    (iterO (M.slices_Equal_impl_Rule_impl_Rule_l0 s1 s2) (0 : Int)).bind fun e => match e with
    | .inl () =>
      (some true)
    | .inr r => some r)

def M.impl_ChangedSeries_1 (series : Int) (before : List Rule) (own : List Rule) : Option Bool :=
  (M.impl_rulesFor before series).bind fun y0 =>
  (M.impl_rulesFor own series).bind fun y1 =>
  (M.slices_Equal_impl_Rule_impl_Rule y0 y1).bind fun y2 =>
  some y2

def M.slices_IndexFunc_int_int_l0 (s : List Int) (fm : Int → Option Bool) : (Int) → Option ((Int) ⊕ ((Unit) ⊕ (Int))) := fun st_ => match st_ with
| v =>
  bif (decide (v < (s.length : Int))) then (
    asrt ((0 : Int) ≤ v ∧ v < (s.length : Int)) <|
    (fm (s.getD (Int.toNat v) default)).bind fun y1 =>
    bif y1 then (
      some (.inr (.inr v)))
    else (
      some (.inl (IntKind.i64.wrap (v + (1 : Int))))))
  else (
    some (.inr (.inl ())))

def M.slices_IndexFunc_int_int (s : List Int) (fm : Int → Option Bool) : Option Int :=
  (iterO (M.slices_IndexFunc_int_int_l0 s fm) (0 : Int)).bind fun e => match e with
  | .inl () =>
    (some (-1 : Int))
  | .inr r => some r

def M.slices_DeleteFunc_int_int_l0 (fm : Int → Option Bool) : (List Int × Int × Int) → Option ((List Int × Int × Int) ⊕ (List Int × Int)) := fun st_ => match st_ with
| (s1, i0, j_) =>
  bif (decide (j_ < (s1.length : Int))) then (
    (((
      asrt ((0 : Int) ≤ j_ ∧ j_ < (s1.length : Int)) <|
      (fm (s1.getD (Int.toNat j_) default)).bind fun y2 =>
      bif (!y2) then (
        asrt ((0 : Int) ≤ i0 ∧ i0 < (s1.length : Int)) <|
        some ((s1.set (Int.toNat i0) (s1.getD (Int.toNat j_) default)), (IntKind.i64.wrap (i0 + (1 : Int)))))
      else (
        some (s1, i0))) : Option (List Int × Int))).bind fun e => match e with
    | (s2, i1) =>
      (some (.inl (s2, i1, (IntKind.i64.wrap (j_ + (1 : Int)))))))
  else (
    some (.inr (s1, i0)))

def M.slices_DeleteFunc_int_int (s : List Int) (fm : Int → Option Bool) : Option (List Int) :=
  (M.slices_IndexFunc_int_int s fm).bind fun y0 =>
  bif (y0 == (-1 : Int)) then (
    some s)
  else (
    (iterO (M.slices_DeleteFunc_int_int_l0 fm) (s, y0, (IntKind.i64.wrap (y0 + (1 : Int))))).bind fun e => match e with
    | (s0, i) =>
      (asrt ((0 : Int) ≤ i ∧ i ≤ (((List.length s0) : Nat) : Int) ∧ (((List.length s0) : Nat) : Int) ≤ (((List.length s0) : Nat) : Int)) <|
      asrt ((0 + Int.toNat i) + (Int.toNat (((List.length s0) : Nat) : Int) - Int.toNat i) ≤ s0.length) <|
      asrt ((0 : Int) ≤ (0 : Int) ∧ (0 : Int) ≤ i ∧ i ≤ ((List.take (0 + Int.toNat i) s0 ++ List.replicate (Int.toNat (((List.length s0) : Nat) : Int) - Int.toNat i) (0 : Int) ++ List.drop ((0 + Int.toNat i) + (Int.toNat (((List.length s0) : Nat) : Int) - Int.toNat i)) s0).length : Int)) <|
      asrt ((Int.toNat i - Int.toNat (0 : Int)) ≤ (List.take (0 + Int.toNat i) s0 ++ List.replicate (Int.toNat (((List.length s0) : Nat) : Int) - Int.toNat i) (0 : Int) ++ List.drop ((0 + Int.toNat i) + (Int.toNat (((List.length s0) : Nat) : Int) - Int.toNat i)) s0).length) <|
      some (List.take (Int.toNat i - Int.toNat (0 : Int)) (List.take (0 + Int.toNat i) s0 ++ List.replicate (Int.toNat (((List.length s0) : Nat) : Int) - Int.toNat i) (0 : Int) ++ List.drop ((0 + Int.toNat i) + (Int.toNat (((List.length s0) : Nat) : Int) - Int.toNat i)) s0))))

def M.impl_ChangedSeries (list : List Version) (version : Int) : Option (List Int × Bool) :=
  (M.impl_AreVersions list).bind fun y0 =>
  ((bif (!y0) then some default else M.impl_within version (1 : Int) (IntKind.i64.wrap ((list.length : Int) - (1 : Int))))).bind fun y1 =>
  bif ((!y0) || (!y1)) then (
    some (([] : List Int), false))
  else (
    asrt ((0 : Int) ≤ (IntKind.i64.wrap (version - (1 : Int))) ∧ (IntKind.i64.wrap (version - (1 : Int))) < (list.length : Int)) <|
    asrt ((0 : Int) ≤ version ∧ version < (list.length : Int)) <|
    (((
      some ()) : Option Unit)).bind fun e => match e with
    | () =>
      ((M.impl_seriesIn ((list.getD (Int.toNat (IntKind.i64.wrap (version - (1 : Int)))) default).Rules)).bind fun y2 =>
      (M.impl_seriesIn ((list.getD (Int.toNat version) default).Rules)).bind fun y3 =>
      asrt ((y2.length : Int) + (y3.length : Int) ≤ 2147483648) <|
      (M.slices_Sort_int_int (y2 ++ y3)).bind fun y4 =>
      asrt (y4.length = (y2 ++ y3).length) <|
      (M.slices_Compact_int_int y4).bind fun y5 =>
      (M.slices_DeleteFunc_int_int y5 (fun x0 => M.impl_ChangedSeries_1 x0 ((list.getD (Int.toNat (IntKind.i64.wrap (version - (1 : Int)))) default).Rules) ((list.getD (Int.toNat version) default).Rules))).bind fun y6 =>
      some (y6, true)))

def M.impl_RulesFor (list : List Rule) (series : Int) : Option (List Rule × Bool) :=
  (M.impl_IsSchedule list).bind fun y0 =>
  ((bif (!y0) then some default else M.impl_isId series)).bind fun y1 =>
  bif ((!y0) || (!y1)) then (
    some (([] : List Rule), false))
  else (
    (M.impl_rulesFor list series).bind fun y2 =>
    some (y2, true))

def M.spec_l2Event (e_ : Event) : Option Bool :=
  (M.spec_l1In e_.Kind (1 : Int) (9 : Int)).bind fun y0 =>
  ((bif y0 then M.spec_l2Day e_.Day else some default)).bind fun y1 =>
  some (y0 && y1)

def M.spec_l2Record_l0 (r_ : Record) : (Int) → Option ((Int) ⊕ ((Unit) ⊕ (Bool))) := fun st_ => match st_ with
| i =>
  bif (decide (i < (r_.Events.length : Int))) then (
    asrt ((0 : Int) ≤ i ∧ i < (r_.Events.length : Int)) <|
    (M.spec_l2Event (r_.Events.getD (Int.toNat i) default)).bind fun y1 =>
    asrt (((!y1) || (decide (((r_.Events.getD (Int.toNat i) default).Day) < r_.Made))) = false → (decide (i > (0 : Int))) = true → ((0 : Int) ≤ (IntKind.i64.wrap (i - (1 : Int))) ∧ (IntKind.i64.wrap (i - (1 : Int))) < (r_.Events.length : Int))) <|
    bif (((!y1) || (decide (((r_.Events.getD (Int.toNat i) default).Day) < r_.Made))) || ((decide (i > (0 : Int))) && (decide (((r_.Events.getD (Int.toNat (IntKind.i64.wrap (i - (1 : Int)))) default).Kind) ≥ ((r_.Events.getD (Int.toNat i) default).Kind))))) then (
      some (.inr (.inr false)))
    else (
      some (.inl (IntKind.i64.wrap (i + (1 : Int))))))
  else (
    some (.inr (.inl ())))

def M.spec_l2Record (r_ : Record) : Option Bool :=
  (iterO (M.spec_l2Record_l0 r_) (0 : Int)).bind fun e => match e with
  | .inl () =>
    ((M.spec_l1In r_.Id (1 : Int) (999 : Int)).bind fun y2 =>
    ((bif y2 then M.spec_l1In r_.Series (1 : Int) (99 : Int) else some default)).bind fun y3 =>
    ((bif (y2 && y3) then M.spec_l2Day r_.Made else some default)).bind fun y4 =>
    some (((y2 && y3) && y4) && (decide ((r_.Events.length : Int) ≤ (6 : Int)))))
  | .inr r => some r

def M.spec_l8Asked (list : List Version) (r_ : Record) (day : Int) : Option Bool :=
  (M.spec_l8Good list).bind fun y0 =>
  ((bif y0 then M.spec_l2Record r_ else some default)).bind fun y1 =>
  ((bif (y0 && y1) then M.spec_l2Day day else some default)).bind fun y2 =>
  some ((y0 && y1) && y2)

def M.spec_l4For_l0 (list : List Rule) (series : Int) : (List Rule × Int) → Option ((List Rule × Int) ⊕ (List Rule)) := fun st_ => match st_ with
| (out_0, i) =>
  bif (decide (i < (list.length : Int))) then (
    (((
      asrt ((0 : Int) ≤ i ∧ i < (list.length : Int)) <|
      bif (((list.getD (Int.toNat i) default).Series) == series) then (
        asrt ((0 : Int) ≤ i ∧ i < (list.length : Int)) <|
        asrt ((out_0.length : Int) + (([(list.getD (Int.toNat i) default)] : List Rule).length : Int) ≤ 2147483648) <|
        some (out_0 ++ ([(list.getD (Int.toNat i) default)] : List Rule)))
      else (
        some out_0)) : Option (List Rule))).bind fun e => match e with
    | out_1 =>
      (some (.inl (out_1, (IntKind.i64.wrap (i + (1 : Int)))))))
  else (
    some (.inr out_0))

def M.spec_l4For (list : List Rule) (series : Int) : Option (List Rule) :=
  (iterO (M.spec_l4For_l0 list series) (([] : List Rule), (0 : Int))).bind fun e => match e with
  | out_ =>
    (some out_)

def M.spec_l2DayOf_l0 (r_ : Record) (kind : Int) : (Int) → Option ((Int) ⊕ ((Unit) ⊕ (Int))) := fun st_ => match st_ with
| i =>
  bif (decide (i < (r_.Events.length : Int))) then (
    asrt ((0 : Int) ≤ i ∧ i < (r_.Events.length : Int)) <|
    bif (((r_.Events.getD (Int.toNat i) default).Kind) == kind) then (
      asrt ((0 : Int) ≤ i ∧ i < (r_.Events.length : Int)) <|
      some (.inr (.inr ((r_.Events.getD (Int.toNat i) default).Day))))
    else (
      some (.inl (IntKind.i64.wrap (i + (1 : Int))))))
  else (
    some (.inr (.inl ())))

def M.spec_l2DayOf (r_ : Record) (kind : Int) : Option Int :=
  bif (kind == (0 : Int)) then (
    some r_.Made)
  else (
    (iterO (M.spec_l2DayOf_l0 r_ kind) (0 : Int)).bind fun e => match e with
    | .inl () =>
      (some (-1 : Int))
    | .inr r => some r)

def M.spec_l6End (r_ : Record) (rule : Rule) : Option Int :=
  (M.spec_l2DayOf r_ rule.Event).bind fun y0 =>
  bif (decide (y0 < (0 : Int))) then (
    some (-1 : Int))
  else (
    some (IntKind.i64.wrap (y0 + rule.Days)))

def M.spec_l6Deciding_l0 (r_ : Record) (y0 : List Rule) : (Int × Int × Rule) → Option ((Int × Int × Rule) ⊕ ((Int × Rule) ⊕ (Rule × Int))) := fun st_ => match st_ with
| (due0, i, best0) =>
  bif (decide (i < (y0.length : Int))) then (
    (((
      asrt ((0 : Int) ≤ i ∧ i < (y0.length : Int)) <|
      (M.spec_l6End r_ (y0.getD (Int.toNat i) default)).bind fun y2 =>
      bif (decide (y2 < (0 : Int))) then (
        some (.inr ((⟨(0 : Int), (0 : Int), (0 : Int), (0 : Int)⟩ : Rule), (-1 : Int))))
      else (
        asrt ((decide (y2 > due0)) = false → (y2 == due0) = true → ((0 : Int) ≤ i ∧ i < (y0.length : Int))) <|
        bif ((decide (y2 > due0)) || ((y2 == due0) && (decide (((y0.getD (Int.toNat i) default).Act) < best0.Act)))) then (
          asrt ((0 : Int) ≤ i ∧ i < (y0.length : Int)) <|
          some (.inl (y2, (y0.getD (Int.toNat i) default))))
        else (
          some (.inl (due0, best0))))) : Option ((Int × Rule) ⊕ (Rule × Int)))).bind fun e => match e with
    | .inl (due1, best1) =>
      (some (.inl (due1, (IntKind.i64.wrap (i + (1 : Int))), best1)))
    | .inr r => some (.inr (.inr r)))
  else (
    some (.inr (.inl (due0, best0))))

def M.spec_l6Deciding (r_ : Record) (schedule : List Rule) : Option (Rule × Int) :=
  (M.spec_l4For schedule r_.Series).bind fun y0 =>
  (iterO (M.spec_l6Deciding_l0 r_ y0) ((-1 : Int), (0 : Int), (⟨(0 : Int), (0 : Int), (0 : Int), (0 : Int)⟩ : Rule))).bind fun e => match e with
  | .inl (due, best) =>
    (some (best, due))
  | .inr r => some r

def M.spec_l1Most (a : Int) (b_ : Int) : Option Int :=
  bif (decide (a > b_)) then (
    some a)
  else (
    some b_)

def M.spec_FirstDueDay_l0 (list : List Version) (r_ : Record) : (Int) → Option ((Int) ⊕ ((Unit) ⊕ (Int × Bool))) := fun st_ => match st_ with
| i =>
  bif (decide (i < (list.length : Int))) then (
    (((
      (((
        bif (decide ((IntKind.i64.wrap (i + (1 : Int))) < (list.length : Int))) then (
          asrt ((0 : Int) ≤ (IntKind.i64.wrap (i + (1 : Int))) ∧ (IntKind.i64.wrap (i + (1 : Int))) < (list.length : Int)) <|
          some (IntKind.i64.wrap (((list.getD (Int.toNat (IntKind.i64.wrap (i + (1 : Int)))) default).From) - (1 : Int))))
        else (
          some (20000 : Int))) : Option Int)).bind fun e => match e with
      | last =>
        (asrt ((0 : Int) ≤ i ∧ i < (list.length : Int)) <|
        (M.spec_l6Deciding r_ ((list.getD (Int.toNat i) default).Rules)).bind fun y2 =>
        bif ((decide (y2.2 ≥ (0 : Int))) && (decide (y2.2 ≤ last))) then (
          asrt ((0 : Int) ≤ i ∧ i < (list.length : Int)) <|
          (M.spec_l1Most y2.2 ((list.getD (Int.toNat i) default).From)).bind fun y3 =>
          some (.inr (y3, true)))
        else (
          some (.inl ())))) : Option ((Unit) ⊕ (Int × Bool)))).bind fun e => match e with
    | .inl () =>
      (some (.inl (IntKind.i64.wrap (i + (1 : Int)))))
    | .inr r => some (.inr (.inr r)))
  else (
    some (.inr (.inl ())))

def M.spec_FirstDueDay (list : List Version) (r_ : Record) : Option (Int × Bool) :=
  (M.spec_l8Asked list r_ (0 : Int)).bind fun y0 =>
  bif (!y0) then (
    some ((0 : Int), false))
  else (
    (iterO (M.spec_FirstDueDay_l0 list r_) (0 : Int)).bind fun e => match e with
    | .inl () =>
      (some ((0 : Int), false))
    | .inr r => some r)

def M.spec_l1Cur_dayNear (c : Cur) (list : List Version) (r_ : Record) : Option (Int × Cur) :=
  (M.spec_FirstDueDay list r_).bind fun y0 =>
  ((bif y0.2 then M.spec_l1Cur_one c (2 : Int) else some default)).bind fun y1 =>
  bif (y0.2 && y1.1) then (
    (M.spec_l1Cur_pick (bif y0.2 then y1.2 else c) (2 : Int)).bind fun y2 =>
    some ((IntKind.i64.wrap (y0.1 - y2.1)), y2.2))
  else (
    ((bif (decide ((list.length : Int) > (0 : Int))) then M.spec_l1Cur_one (bif y0.2 then y1.2 else c) (2 : Int) else some default)).bind fun y3 =>
    bif ((decide ((list.length : Int) > (0 : Int))) && y3.1) then (
      (M.spec_l1Cur_pick (bif (decide ((list.length : Int) > (0 : Int))) then y3.2 else (bif y0.2 then y1.2 else c)) (list.length : Int)).bind fun y4 =>
      asrt ((0 : Int) ≤ y4.1 ∧ y4.1 < (list.length : Int)) <|
      (M.spec_l1Cur_pick y4.2 (2 : Int)).bind fun y5 =>
      some ((IntKind.i64.wrap (((list.getD (Int.toNat y4.1) default).From) - y5.1)), y5.2))
    else (
      (M.spec_l1Cur_day (bif (decide ((list.length : Int) > (0 : Int))) then y3.2 else (bif y0.2 then y1.2 else c))).bind fun y6 =>
      some (y6.1, y6.2)))

def M.spec_DrawVersionOn (code : List Int) : Option (List Version × Int) :=
  (M.spec_l1Cur_record (⟨code, (0 : Int), (0 : Int)⟩ : Cur) (12 : Int)).bind fun y0 =>
  (M.spec_l1Cur_versions y0.2 y0.1).bind fun y1 =>
  (M.spec_l1Cur_dayNear y1.2 y1.1 y0.1).bind fun y2 =>
  some (y1.1, y2.1)

def M.spec_l8On_l0 (list : List Version) (day : Int) : (Int × Int) → Option ((Int × Int) ⊕ (Int)) := fun st_ => match st_ with
| (at_0, i) =>
  bif (decide (i < (list.length : Int))) then (
    (((
      asrt ((0 : Int) ≤ i ∧ i < (list.length : Int)) <|
      bif (decide (((list.getD (Int.toNat i) default).From) ≤ day)) then (
        some i)
      else (
        some at_0)) : Option Int)).bind fun e => match e with
    | at_1 =>
      (some (.inl (at_1, (IntKind.i64.wrap (i + (1 : Int)))))))
  else (
    some (.inr at_0))

def M.spec_l8On (list : List Version) (day : Int) : Option Int :=
  (iterO (M.spec_l8On_l0 list day) ((-1 : Int), (0 : Int))).bind fun e => match e with
  | at_ =>
    (some at_)

def M.spec_VersionOn (list : List Version) (day : Int) : Option (Int × Bool) :=
  (M.spec_l8Good list).bind fun y0 =>
  ((bif (!y0) then some default else M.spec_l2Day day)).bind fun y1 =>
  ((bif ((!y0) || (!y1)) then some default else M.spec_l8On list day)).bind fun y2 =>
  bif (((!y0) || (!y1)) || (decide (y2 < (0 : Int)))) then (
    some ((0 : Int), false))
  else (
    (M.spec_l8On list day).bind fun y3 =>
    some (y3, true))

def M.spec_DrawChangedSeries (code : List Int) : Option (List Version × Int) :=
  (M.spec_l1Cur_record (⟨code, (0 : Int), (0 : Int)⟩ : Cur) (12 : Int)).bind fun y0 =>
  (M.spec_l1Cur_versions y0.2 y0.1).bind fun y1 =>
  (M.spec_l1Cur_pick y1.2 (IntKind.i64.wrap ((y1.1.length : Int) + (1 : Int)))).bind fun y2 =>
  (M.spec_l1Cur_pick y2.2 (9 : Int)).bind fun y3 =>
  some (y1.1, (IntKind.i64.wrap (y2.1 - (IntKind.i64.wrap (Int.tdiv y3.1 (8 : Int))))))

def M.spec_l8Same_l0 (a : List Rule) (b_ : List Rule) : (Int) → Option ((Int) ⊕ ((Unit) ⊕ (Bool))) := fun st_ => match st_ with
| i =>
  bif (decide (i < (a.length : Int))) then (
    asrt ((0 : Int) ≤ i ∧ i < (a.length : Int)) <|
    asrt ((0 : Int) ≤ i ∧ i < (b_.length : Int)) <|
    bif (!((((a.getD (Int.toNat i) default).Series) == ((b_.getD (Int.toNat i) default).Series)) && ((((a.getD (Int.toNat i) default).Event) == ((b_.getD (Int.toNat i) default).Event)) && ((((a.getD (Int.toNat i) default).Days) == ((b_.getD (Int.toNat i) default).Days)) && ((((a.getD (Int.toNat i) default).Act) == ((b_.getD (Int.toNat i) default).Act)) && true))))) then (
      some (.inr (.inr false)))
    else (
      some (.inl (IntKind.i64.wrap (i + (1 : Int))))))
  else (
    some (.inr (.inl ())))

def M.spec_l8Same (a : List Rule) (b_ : List Rule) : Option Bool :=
  bif ((a.length : Int) != (b_.length : Int)) then (
    some false)
  else (
    (iterO (M.spec_l8Same_l0 a b_) (0 : Int)).bind fun e => match e with
    | .inl () =>
      (some true)
    | .inr r => some r)

def M.spec_ChangedSeries_l0 (list : List Version) (version : Int) : (List Int × Int) → Option ((List Int × Int) ⊕ (List Int)) := fun st_ => match st_ with
| (out_0, series) =>
  bif (decide (series ≤ (99 : Int))) then (
    (((
      asrt ((0 : Int) ≤ (IntKind.i64.wrap (version - (1 : Int))) ∧ (IntKind.i64.wrap (version - (1 : Int))) < (list.length : Int)) <|
      (M.spec_l4For ((list.getD (Int.toNat (IntKind.i64.wrap (version - (1 : Int)))) default).Rules) series).bind fun y3 =>
      asrt ((0 : Int) ≤ version ∧ version < (list.length : Int)) <|
      (M.spec_l4For ((list.getD (Int.toNat version) default).Rules) series).bind fun y4 =>
      (M.spec_l8Same y3 y4).bind fun y5 =>
      bif (!y5) then (
        asrt ((out_0.length : Int) + (([series] : List Int).length : Int) ≤ 2147483648) <|
        some (out_0 ++ ([series] : List Int)))
      else (
        some out_0)) : Option (List Int))).bind fun e => match e with
    | out_1 =>
      (some (.inl (out_1, (IntKind.i64.wrap (series + (1 : Int)))))))
  else (
    some (.inr out_0))

def M.spec_ChangedSeries (list : List Version) (version : Int) : Option (List Int × Bool) :=
  (M.spec_l8Good list).bind fun y0 =>
  ((bif (!y0) then some default else M.spec_l1In version (1 : Int) (IntKind.i64.wrap ((list.length : Int) - (1 : Int))))).bind fun y1 =>
  bif ((!y0) || (!y1)) then (
    some (([] : List Int), false))
  else (
    (iterO (M.spec_ChangedSeries_l0 list version) (([] : List Int), (1 : Int))).bind fun e => match e with
    | out_ =>
      (some (out_, true)))

def M.laws_vInts_l0 (a : List Int) (b_ : List Int) : (Int) → Option ((Int) ⊕ ((Unit) ⊕ (Bool))) := fun st_ => match st_ with
| i =>
  bif (decide (i < (a.length : Int))) then (
    asrt ((0 : Int) ≤ i ∧ i < (a.length : Int)) <|
    asrt ((0 : Int) ≤ i ∧ i < (b_.length : Int)) <|
    bif ((a.getD (Int.toNat i) default) != (b_.getD (Int.toNat i) default)) then (
      some (.inr (.inr false)))
    else (
      some (.inl (IntKind.i64.wrap (i + (1 : Int))))))
  else (
    some (.inr (.inl ())))

def M.laws_vInts (a : List Int) (b_ : List Int) : Option Bool :=
  bif ((a.length : Int) != (b_.length : Int)) then (
    some false)
  else (
    (iterO (M.laws_vInts_l0 a b_) (0 : Int)).bind fun e => match e with
    | .inl () =>
      (some true)
    | .inr r => some r)

def M.laws_FnVersionLists_l0 (y2 : List Version × Bool) (y5 : Int × Bool) (y8 : List Int × Bool) : (Int) → Option ((Int) ⊕ ((Unit) ⊕ (Bool))) := fun st_ => match st_ with
| i =>
  bif (decide (i < (y8.1.length : Int))) then (
    asrt ((0 : Int) ≤ (IntKind.i64.wrap (y5.1 - (1 : Int))) ∧ (IntKind.i64.wrap (y5.1 - (1 : Int))) < (y2.1.length : Int)) <|
    asrt ((0 : Int) ≤ i ∧ i < (y8.1.length : Int)) <|
    (M.impl_RulesFor ((y2.1.getD (Int.toNat (IntKind.i64.wrap (y5.1 - (1 : Int)))) default).Rules) (y8.1.getD (Int.toNat i) default)).bind fun y10 =>
    asrt ((0 : Int) ≤ y5.1 ∧ y5.1 < (y2.1.length : Int)) <|
    asrt ((0 : Int) ≤ i ∧ i < (y8.1.length : Int)) <|
    (M.impl_RulesFor ((y2.1.getD (Int.toNat y5.1) default).Rules) (y8.1.getD (Int.toNat i) default)).bind fun y11 =>
    ((bif ((!y10.2) || (!y11.2)) then some default else M.laws_vRules y10.1 y11.1)).bind fun y12 =>
    bif (((!y10.2) || (!y11.2)) || y12) then (
      some (.inr (.inr false)))
    else (
      some (.inl (IntKind.i64.wrap (i + (1 : Int))))))
  else (
    some (.inr (.inl ())))

def M.laws_FnVersionLists (code : List Int) : Option Bool :=
  (M.laws_vBig code).bind fun y0 =>
  bif y0 then (
    some true)
  else (
    (M.spec_DrawPutVersion code).bind fun y1 =>
    (M.impl_PutVersion y1.1 y1.2).bind fun y2 =>
    (M.spec_PutVersion y1.1 y1.2).bind fun y3 =>
    ((bif (!(y2.2 == y3.2)) then some default else M.laws_vVersions y2.1 y3.1)).bind fun y4 =>
    bif ((!(y2.2 == y3.2)) || (!y4)) then (
      some false)
    else (
      (((
        bif y2.2 then (
          (M.impl_VersionOn y2.1 y1.2.From).bind fun y5 =>
          asrt ((((!y5.2) || (decide (y5.1 < (0 : Int)))) || (decide (y5.1 ≥ (y2.1.length : Int)))) = false → ((0 : Int) ≤ y5.1 ∧ y5.1 < (y2.1.length : Int))) <|
          asrt (((((!y5.2) || (decide (y5.1 < (0 : Int)))) || (decide (y5.1 ≥ (y2.1.length : Int)))) || (((y2.1.getD (Int.toNat y5.1) default).From) != y1.2.From)) = false → ((0 : Int) ≤ y5.1 ∧ y5.1 < (y2.1.length : Int))) <|
          ((bif ((((!y5.2) || (decide (y5.1 < (0 : Int)))) || (decide (y5.1 ≥ (y2.1.length : Int)))) || (((y2.1.getD (Int.toNat y5.1) default).From) != y1.2.From)) then some default else M.laws_vRules ((y2.1.getD (Int.toNat y5.1) default).Rules) y1.2.Rules)).bind fun y6 =>
          ((bif (((((!y5.2) || (decide (y5.1 < (0 : Int)))) || (decide (y5.1 ≥ (y2.1.length : Int)))) || (((y2.1.getD (Int.toNat y5.1) default).From) != y1.2.From)) || (!y6)) then some default else M.impl_AreVersions y2.1)).bind fun y7 =>
          bif ((((((!y5.2) || (decide (y5.1 < (0 : Int)))) || (decide (y5.1 ≥ (y2.1.length : Int)))) || (((y2.1.getD (Int.toNat y5.1) default).From) != y1.2.From)) || (!y6)) || (!y7)) then (
            some (.inr false))
          else (
            bif (decide (y5.1 > (0 : Int))) then (
              (M.impl_ChangedSeries y2.1 y5.1).bind fun y8 =>
              (iterO (M.laws_FnVersionLists_l0 y2 y5 y8) (0 : Int)).bind fun e => match e with
              | .inl () =>
                (bif (!y8.2) then (
                  some (.inr false))
                else (
                  some (.inl ())))
              | .inr r => some (.inr r))
            else (
              some (.inl ()))))
        else (
          some (.inl ()))) : Option ((Unit) ⊕ (Bool)))).bind fun e => match e with
      | .inl () =>
        ((M.spec_DrawVersionOn code).bind fun y13 =>
        (M.impl_VersionOn y13.1 y13.2).bind fun y14 =>
        (M.spec_VersionOn y13.1 y13.2).bind fun y15 =>
        bif ((y14.1 != y15.1) || (!(y14.2 == y15.2))) then (
          some false)
        else (
          (M.spec_DrawChangedSeries code).bind fun y16 =>
          (M.impl_ChangedSeries y16.1 y16.2).bind fun y17 =>
          (M.spec_ChangedSeries y16.1 y16.2).bind fun y18 =>
          ((bif (y17.2 == y18.2) then M.laws_vInts y17.1 y18.1 else some default)).bind fun y19 =>
          some ((y17.2 == y18.2) && y19)))
      | .inr r => some r))
end Go.Proofs.Ytjfpdbhjoofllaa
