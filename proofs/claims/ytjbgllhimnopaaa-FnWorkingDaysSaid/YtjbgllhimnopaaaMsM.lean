/- models of the functions -/
import Derived.Test.YtjbgllhimnopaaaWe
set_option linter.unusedSimpArgs false
set_option linter.unusedVariables false
set_option maxRecDepth 100000
namespace Go.Proofs.Ytjbgllhimnopaaa
open Go.VS

structure Cur where
  Code : List Int
  At : Int
  Seed : Int
  deriving Inhabited, DecidableEq

abbrev encCur (ρ : Nat) (c : Cur) : PV := .agg [.vl ρ 1 (List.map encU8 c.Code), .int .i64 c.At, .int .u64 c.Seed]

structure Request where
  Id : Int
  Came : Int
  Working : Int
  Extended : Int
  Stops : List (Int × Int)
  deriving Inhabited, DecidableEq

abbrev encRequest (ρ : Nat) (c : Request) : PV := .agg [.int .i64 c.Id, .int .i64 c.Came, .int .i64 c.Working, .int .i64 c.Extended, .vl ρ 2 (List.map encPair c.Stops)]

structure Hold where
  Id : Int
  From : Int
  Until : Int
  Series : List Int
  First : Int
  Last : Int
  deriving Inhabited, DecidableEq

abbrev encHold (ρ : Nat) (c : Hold) : PV := .agg [.int .i64 c.Id, .int .i64 c.From, .int .i64 c.Until, .vl ρ 1 (List.map encInt c.Series), .int .i64 c.First, .int .i64 c.Last]

structure Event where
  Kind : Int
  Day : Int
  deriving Inhabited, DecidableEq

abbrev encEvent (c : Event) : PV := .agg [.int .i64 c.Kind, .int .i64 c.Day]

structure Record where
  Id : Int
  Series : Int
  Made : Int
  Events : List Event
  deriving Inhabited, DecidableEq

abbrev encRecord (ρ : Nat) (c : Record) : PV := .agg [.int .i64 c.Id, .int .i64 c.Series, .int .i64 c.Made, .vl ρ 2 (List.map encEvent c.Events)]

structure Rule where
  Series : Int
  Event : Int
  Days : Int
  Act : Int
  deriving Inhabited, DecidableEq

abbrev encRule (c : Rule) : PV := .agg [.int .i64 c.Series, .int .i64 c.Event, .int .i64 c.Days, .int .i64 c.Act]

structure Hand where
  Record : Int
  From : Int
  To : Int
  Day : Int
  Sum : Int
  Seal : Bool
  deriving Inhabited, DecidableEq

abbrev encHand (c : Hand) : PV := .agg [.int .i64 c.Record, .int .i64 c.From, .int .i64 c.To, .int .i64 c.Day, .int .i64 c.Sum, .bool c.Seal]

def M.laws_vBig (code : List Int) : Option Bool :=
  some (decide ((code.length : Int) > (65536 : Int)))

def M.spec_l1Cur_next (c : Cur) : Option (Int × Cur) :=
  (((
    bif (decide (c.At < (c.Code.length : Int))) then (
      asrt ((0 : Int) ≤ c.At ∧ c.At < (c.Code.length : Int)) <|
      some (IntKind.i64.wrap (c.Code.getD (Int.toNat c.At) default)))
    else (
      some (0 : Int))) : Option Int)).bind fun e => match e with
  | b_ =>
    (bif (decide ((IntKind.i64.wrap (c.At + (1 : Int))) ≤ (c.Code.length : Int))) then (
      some (b_, (⟨c.Code, (IntKind.i64.wrap (c.At + (1 : Int))), (IntKind.u64.wrap ((IntKind.u64.wrap ((IntKind.u64.wrap (c.Seed * (6364136223846793005 : Int))) + (IntKind.u64.wrap b_))) + (103535 : Int)))⟩ : Cur)))
    else (
      some ((IntKind.i64.wrap (IntKind.u64.wrap (BitVec.ofInt IntKind.u64.bits (Int.fdiv (IntKind.u64.wrap ((IntKind.u64.wrap ((IntKind.u64.wrap (c.Seed * (6364136223846793005 : Int))) + (IntKind.u64.wrap b_))) + (103535 : Int))) (2 ^ (min (Int.toNat (40 : Int)) IntKind.u64.bits))) &&& BitVec.ofInt IntKind.u64.bits (255 : Int)).toNat)), (⟨c.Code, (IntKind.i64.wrap (c.At + (1 : Int))), (IntKind.u64.wrap ((IntKind.u64.wrap ((IntKind.u64.wrap (c.Seed * (6364136223846793005 : Int))) + (IntKind.u64.wrap b_))) + (103535 : Int)))⟩ : Cur))))

def M.spec_l1Cur_pick (c : Cur) (n : Int) : Option (Int × Cur) :=
  bif (decide (n ≤ (1 : Int))) then (
    some ((0 : Int), c))
  else (
    (M.spec_l1Cur_next c).bind fun y0 =>
    (((
      bif (decide (n > (200 : Int))) then (
        (M.spec_l1Cur_next y0.2).bind fun y1 =>
        some ((IntKind.i64.wrap ((IntKind.i64.wrap (y0.1 * (256 : Int))) + y1.1)), y1.2))
      else (
        some (y0.1, y0.2))) : Option (Int × Cur))).bind fun e => match e with
    | (x, c_) =>
      (asrt (n ≠ 0) <|
      some ((Int.tmod x n), c_)))

def M.spec_l1Cur_among (c : Cur) (list : List Int) : Option (Int × Cur) :=
  (M.spec_l1Cur_pick c (list.length : Int)).bind fun y0 =>
  asrt ((0 : Int) ≤ y0.1 ∧ y0.1 < (list.length : Int)) <|
  some ((list.getD (Int.toNat y0.1) default), y0.2)

def M.spec_l1Cur_request_l0 : (Int × Int × (List (Int × Int)) × Cur) → Option ((Int × Int × (List (Int × Int)) × Cur) ⊕ (Int × (List (Int × Int)) × Cur)) := fun st_ => match st_ with
| (at_0, n_, r_Stops0, c_0) =>
  bif (decide (n_ > (0 : Int))) then (
    (M.spec_l1Cur_among c_0 ([(0 : Int), (1 : Int), (5 : Int), (12 : Int)] : List Int)).bind fun y5 =>
    (M.spec_l1Cur_among y5.2 ([(0 : Int), (1 : Int), (3 : Int), (10 : Int)] : List Int)).bind fun y6 =>
    asrt ((r_Stops0.length : Int) + (([((IntKind.i64.wrap (at_0 + y5.1)), (IntKind.i64.wrap ((IntKind.i64.wrap (at_0 + y5.1)) + y6.1)))] : List (Int × Int)).length : Int) ≤ 2147483648) <|
    some (.inl ((IntKind.i64.wrap ((IntKind.i64.wrap ((IntKind.i64.wrap (at_0 + y5.1)) + y6.1)) + (1 : Int))), (IntKind.i64.wrap (n_ - (1 : Int))), (r_Stops0 ++ ([((IntKind.i64.wrap (at_0 + y5.1)), (IntKind.i64.wrap ((IntKind.i64.wrap (at_0 + y5.1)) + y6.1)))] : List (Int × Int))), y6.2)))
  else (
    some (.inr (at_0, r_Stops0, c_0)))

def M.spec_l1Cur_request (c : Cur) (id_ : Int) : Option (Request × Cur) :=
  (M.spec_l1Cur_among c ([(0 : Int), (4 : Int), (5 : Int), (6 : Int), (100 : Int), (1000 : Int), (19900 : Int)] : List Int)).bind fun y0 =>
  (M.spec_l1Cur_among y0.2 ([(1 : Int), (5 : Int), (20 : Int), (20 : Int), (60 : Int)] : List Int)).bind fun y1 =>
  (M.spec_l1Cur_among y1.2 ([(0 : Int), (0 : Int), (10 : Int), (40 : Int)] : List Int)).bind fun y2 =>
  (M.spec_l1Cur_pick y2.2 (3 : Int)).bind fun y3 =>
  (iterO (M.spec_l1Cur_request_l0) ((IntKind.i64.wrap (y0.1 + (1 : Int))), y3.1, ([] : List (Int × Int)), y3.2)).bind fun e => match e with
  | (at_, r_Stops, c_) =>
    ((M.spec_l1Cur_pick c_ (40 : Int)).bind fun y7 =>
    (((
      bif (y7.1 == (0 : Int)) then (
        (M.spec_l1Cur_among y7.2 ([(0 : Int), (61 : Int)] : List Int)).bind fun y8 =>
        some (y0.1, y8.1, y2.1, r_Stops, y8.2))
      else (
        bif (y7.1 == (1 : Int)) then (
          (M.spec_l1Cur_among y7.2 ([(-1 : Int), (41 : Int)] : List Int)).bind fun y9 =>
          some (y0.1, y1.1, y9.1, r_Stops, y9.2))
        else (
          bif (y7.1 == (2 : Int)) then (
            (M.spec_l1Cur_among y7.2 ([(0 : Int), at_, (19990 : Int)] : List Int)).bind fun y10 =>
            (M.spec_l1Cur_among y10.2 ([(0 : Int), at_, (20001 : Int)] : List Int)).bind fun y11 =>
            asrt ((r_Stops.length : Int) + (([(y10.1, y11.1)] : List (Int × Int)).length : Int) ≤ 2147483648) <|
            (((
              some ((r_Stops ++ ([(y10.1, y11.1)] : List (Int × Int))), y11.2)) : Option ((List (Int × Int)) × Cur))).bind fun e => match e with
            | (r_Stops2, o) =>
              (some (y0.1, y1.1, y2.1, r_Stops2, o)))
          else (
            bif (y7.1 == (3 : Int)) then (
              (M.spec_l1Cur_among y7.2 ([(-1 : Int), (20000 : Int), (20001 : Int)] : List Int)).bind fun y12 =>
              some (y12.1, y1.1, y2.1, r_Stops, y12.2))
            else (
              some (y0.1, y1.1, y2.1, r_Stops, y7.2)))))) : Option (Int × Int × Int × (List (Int × Int)) × Cur))).bind fun e => match e with
    | (r_Came, r_Working, r_Extended, r_Stops1, c_1) =>
      (some ((⟨id_, r_Came, r_Working, r_Extended, r_Stops1⟩ : Request), c_1)))

def M.spec_DrawStopClock (code : List Int) : Option (Request × Int × Int) :=
  (M.spec_l1Cur_request (⟨code, (0 : Int), (0 : Int)⟩ : Cur) (9 : Int)).bind fun y0 =>
  (M.spec_l1Cur_among y0.2 ([(1 : Int), (10 : Int), (40 : Int), (60 : Int)] : List Int)).bind fun y1 =>
  (M.spec_l1Cur_among y1.2 ([(0 : Int), (5 : Int), (20 : Int), (-1 : Int)] : List Int)).bind fun y2 =>
  some (y0.1, (IntKind.i64.wrap (y0.1.Came + y1.1)), (IntKind.i64.wrap ((IntKind.i64.wrap (y0.1.Came + y1.1)) + y2.1)))

def M.impl_within (n : Int) (low : Int) (high : Int) : Option Bool :=
  some ((decide (low ≤ n)) && (decide (n ≤ high)))

def M.impl_isId (id_ : Int) : Option Bool :=
  (M.impl_within id_ (1 : Int) (99 : Int)).bind fun y0 =>
  some y0

def M.impl_isDay (day : Int) : Option Bool :=
  (M.impl_within day (0 : Int) (20000 : Int)).bind fun y0 =>
  some y0

def M.impl_areDays (from_ : Int) (to_ : Int) : Option Bool :=
  (M.impl_isDay from_).bind fun y0 =>
  ((bif y0 then M.impl_isDay to_ else some default)).bind fun y1 =>
  some ((y0 && y1) && (decide (from_ ≤ to_)))

def M.impl_IsRequest_l0 (r_ : Request) : (Int × Int) → Option ((Int × Int) ⊕ ((Unit) ⊕ (Bool))) := fun st_ => match st_ with
| (before, v) =>
  bif (decide (v < (r_.Stops.length : Int))) then (
    asrt ((0 : Int) ≤ v ∧ v < (r_.Stops.length : Int)) <|
    ((bif (decide (((r_.Stops.getD (Int.toNat v) default).1) ≤ before)) then some default else M.impl_areDays ((r_.Stops.getD (Int.toNat v) default).1) ((r_.Stops.getD (Int.toNat v) default).2))).bind fun y5 =>
    bif ((decide (((r_.Stops.getD (Int.toNat v) default).1) ≤ before)) || (!y5)) then (
      some (.inr (.inr false)))
    else (
      some (.inl ((r_.Stops.getD (Int.toNat v) default).2, (IntKind.i64.wrap (v + (1 : Int)))))))
  else (
    some (.inr (.inl ())))

def M.impl_IsRequest (r_ : Request) : Option Bool :=
  (M.impl_isId r_.Id).bind fun y0 =>
  ((bif (!y0) then some default else M.impl_isDay r_.Came)).bind fun y1 =>
  ((bif ((!y0) || (!y1)) then some default else M.impl_within r_.Working (1 : Int) (60 : Int))).bind fun y2 =>
  ((bif (((!y0) || (!y1)) || (!y2)) then some default else M.impl_within r_.Extended (0 : Int) (40 : Int))).bind fun y3 =>
  bif (((((!y0) || (!y1)) || (!y2)) || (!y3)) || (decide ((r_.Stops.length : Int) > (4 : Int)))) then (
    some false)
  else (
    (iterO (M.impl_IsRequest_l0 r_) (r_.Came, (0 : Int))).bind fun e => match e with
    | .inl () =>
      (some true)
    | .inr r => some r)

def M.slices_Clone_2_int_2_int (s : List (Int × Int)) : Option (List (Int × Int)) := asrt ((s.length : Int) ≤ 2147483648) <| some s

def M.spec_l13Own (r_ : Request) : Option Request :=
  asrt ((([] : List (Int × Int)).length : Int) + (r_.Stops.length : Int) ≤ 2147483648) <|
  some (⟨r_.Id, r_.Came, r_.Working, r_.Extended, (([] : List (Int × Int)) ++ r_.Stops)⟩ : Request)

def M.spec_l1In (x : Int) (a : Int) (b_ : Int) : Option Bool :=
  some ((decide (x ≥ a)) && (decide (x ≤ b_)))

def M.spec_l2Day (d : Int) : Option Bool :=
  (M.spec_l1In d (0 : Int) (20000 : Int)).bind fun y0 =>
  some y0

def M.spec_l13Good_l0 (r_ : Request) : (Int × Int) → Option ((Int × Int) ⊕ ((Unit) ⊕ (Bool))) := fun st_ => match st_ with
| (last, i) =>
  bif (decide (i < (r_.Stops.length : Int))) then (
    asrt ((0 : Int) ≤ i ∧ i < (r_.Stops.length : Int)) <|
    asrt ((0 : Int) ≤ i ∧ i < (r_.Stops.length : Int)) <|
    bif (((decide (((r_.Stops.getD (Int.toNat i) default).1) ≤ last)) || (decide (((r_.Stops.getD (Int.toNat i) default).2) < ((r_.Stops.getD (Int.toNat i) default).1)))) || (decide (((r_.Stops.getD (Int.toNat i) default).2) > (20000 : Int)))) then (
      some (.inr (.inr false)))
    else (
      some (.inl ((r_.Stops.getD (Int.toNat i) default).2, (IntKind.i64.wrap (i + (1 : Int)))))))
  else (
    some (.inr (.inl ())))

def M.spec_l13Good (r_ : Request) : Option Bool :=
  (M.spec_l1In r_.Id (1 : Int) (99 : Int)).bind fun y0 =>
  ((bif (!y0) then some default else M.spec_l2Day r_.Came)).bind fun y1 =>
  ((bif ((!y0) || (!y1)) then some default else M.spec_l1In r_.Working (1 : Int) (60 : Int))).bind fun y2 =>
  ((bif (((!y0) || (!y1)) || (!y2)) then some default else M.spec_l1In r_.Extended (0 : Int) (40 : Int))).bind fun y3 =>
  bif (((((!y0) || (!y1)) || (!y2)) || (!y3)) || (decide ((r_.Stops.length : Int) > (4 : Int)))) then (
    some false)
  else (
    (iterO (M.spec_l13Good_l0 r_) (r_.Came, (0 : Int))).bind fun e => match e with
    | .inl () =>
      (some true)
    | .inr r => some r)

def M.laws_vPairs_l0 (a : List (Int × Int)) (b_ : List (Int × Int)) : (Int) → Option ((Int) ⊕ ((Unit) ⊕ (Bool))) := fun st_ => match st_ with
| i =>
  bif (decide (i < (a.length : Int))) then (
    asrt ((0 : Int) ≤ i ∧ i < (a.length : Int)) <|
    asrt ((0 : Int) ≤ i ∧ i < (b_.length : Int)) <|
    bif (!((((a.getD (Int.toNat i) default).1) == ((b_.getD (Int.toNat i) default).1)) && (((a.getD (Int.toNat i) default).2) == ((b_.getD (Int.toNat i) default).2)))) then (
      some (.inr (.inr false)))
    else (
      some (.inl (IntKind.i64.wrap (i + (1 : Int))))))
  else (
    some (.inr (.inl ())))

def M.laws_vPairs (a : List (Int × Int)) (b_ : List (Int × Int)) : Option Bool :=
  bif ((a.length : Int) != (b_.length : Int)) then (
    some false)
  else (
    (iterO (M.laws_vPairs_l0 a b_) (0 : Int)).bind fun e => match e with
    | .inl () =>
      (some true)
    | .inr r => some r)

def M.laws_vRequest (a : Request) (b_ : Request) : Option Bool :=
  ((bif ((((a.Id == b_.Id) && (a.Came == b_.Came)) && (a.Working == b_.Working)) && (a.Extended == b_.Extended)) then M.laws_vPairs a.Stops b_.Stops else some default)).bind fun y0 =>
  some (((((a.Id == b_.Id) && (a.Came == b_.Came)) && (a.Working == b_.Working)) && (a.Extended == b_.Extended)) && y0)

def M.spec_IsRequest (r_ : Request) : Option Bool :=
  (M.spec_l13Good r_).bind fun y0 =>
  some y0

def M.impl_isWorkingDay (day : Int) : Option Bool :=
  some (decide ((Int.tmod day (7 : Int)) < (5 : Int)))

def M.impl_Request_counts_1 (s : Int × Int) (day : Int) : Option Bool :=
  (M.impl_within day s.1 s.2).bind fun y0 =>
  some y0

def M.slices_IndexFunc_2_int_2_int_l0 (s : List (Int × Int)) (fm : (Int × Int) → Option Bool) : (Int) → Option ((Int) ⊕ ((Unit) ⊕ (Int))) := fun st_ => match st_ with
| v =>
  bif (decide (v < (s.length : Int))) then (
    asrt ((0 : Int) ≤ v ∧ v < (s.length : Int)) <|
    (fm (s.getD (Int.toNat v) default)).bind fun y1 =>
    bif y1 then (
      some (.inr (.inr v)))
    else (
      some (.inl (IntKind.i64.wrap (v + (1 : Int))))))
  else (
    some (.inr (.inl ())))

def M.slices_IndexFunc_2_int_2_int (s : List (Int × Int)) (fm : (Int × Int) → Option Bool) : Option Int :=
  (iterO (M.slices_IndexFunc_2_int_2_int_l0 s fm) (0 : Int)).bind fun e => match e with
  | .inl () =>
    (some (-1 : Int))
  | .inr r => some r

def M.slices_ContainsFunc_2_int_2_int (s : List (Int × Int)) (fm : (Int × Int) → Option Bool) : Option Bool :=
  (M.slices_IndexFunc_2_int_2_int s fm).bind fun y0 =>
  some (decide (y0 ≥ (0 : Int)))

def M.impl_Request_counts (r_ : Request) (day : Int) : Option Bool :=
  (M.impl_isWorkingDay day).bind fun y0 =>
  ((bif y0 then M.slices_ContainsFunc_2_int_2_int r_.Stops (fun x0 => M.impl_Request_counts_1 x0 day) else some default)).bind fun y1 =>
  some (y0 && (!y1))

def M.impl_Request_due_l0 (r_ : Request) : (Int × Int) → Option ((Int × Int) ⊕ ((Unit) ⊕ (Int × Bool))) := fun st_ => match st_ with
| (left, day) =>
  bif (decide (day ≤ (20000 : Int))) then (
    (((
      (((
        (M.impl_Request_counts r_ day).bind fun y1 =>
        bif y1 then (
          some (IntKind.i64.wrap (left - (1 : Int))))
        else (
          some left)) : Option Int)).bind fun e => match e with
      | left1 =>
        (bif (left1 == (0 : Int)) then (
          some (.inr (day, true)))
        else (
          some (.inl left1)))) : Option ((Int) ⊕ (Int × Bool)))).bind fun e => match e with
    | .inl left0 =>
      (some (.inl (left0, (IntKind.i64.wrap (day + (1 : Int))))))
    | .inr r => some (.inr (.inr r)))
  else (
    some (.inr (.inl ())))

def M.impl_Request_due (r_ : Request) : Option (Int × Bool) :=
  (iterO (M.impl_Request_due_l0 r_) ((IntKind.i64.wrap (r_.Working + r_.Extended)), (IntKind.i64.wrap (r_.Came + (1 : Int))))).bind fun e => match e with
  | .inl () =>
    (some ((0 : Int), false))
  | .inr r => some r

def M.impl_RequestDue (r_ : Request) : Option (Int × Bool) :=
  (M.impl_IsRequest r_).bind fun y0 =>
  bif (!y0) then (
    some ((0 : Int), false))
  else (
    (M.impl_Request_due r_).bind fun y1 =>
    some (y1.1, y1.2))

def M.spec_DrawExtendRequest (code : List Int) : Option (Request × Int) :=
  (M.spec_l1Cur_request (⟨code, (0 : Int), (0 : Int)⟩ : Cur) (9 : Int)).bind fun y0 =>
  (M.spec_l1Cur_among y0.2 ([(1 : Int), (5 : Int), (10 : Int), (40 : Int), (0 : Int), (41 : Int)] : List Int)).bind fun y1 =>
  some (y0.1, y1.1)

def M.impl_ExtendRequest (r_ : Request) (n : Int) : Option (Request × Bool) :=
  (M.impl_IsRequest r_).bind fun y0 =>
  ((bif (!y0) then some default else M.impl_within n (1 : Int) (IntKind.i64.wrap ((40 : Int) - r_.Extended)))).bind fun y1 =>
  bif ((!y0) || (!y1)) then (
    some ((⟨(0 : Int), (0 : Int), (0 : Int), (0 : Int), ([] : List (Int × Int))⟩ : Request), false))
  else (
    (M.slices_Clone_2_int_2_int r_.Stops).bind fun y2 =>
    some ((⟨r_.Id, r_.Came, r_.Working, (IntKind.i64.wrap (r_.Extended + n)), y2⟩ : Request), true))

def M.spec_ExtendRequest (r_ : Request) (n : Int) : Option (Request × Bool) :=
  (M.spec_l13Own r_).bind fun y0 =>
  (M.spec_l13Good r_).bind fun y1 =>
  ((bif (!y1) then some default else M.spec_l1In n (1 : Int) (40 : Int))).bind fun y2 =>
  bif ((!y1) || (!y2)) then (
    some ((⟨(0 : Int), (0 : Int), (0 : Int), (0 : Int), ([] : List (Int × Int))⟩ : Request), false))
  else (
    (M.spec_l13Good (⟨y0.Id, y0.Came, y0.Working, (IntKind.i64.wrap (r_.Extended + n)), y0.Stops⟩ : Request)).bind fun y3 =>
    bif (!y3) then (
      some ((⟨(0 : Int), (0 : Int), (0 : Int), (0 : Int), ([] : List (Int × Int))⟩ : Request), false))
    else (
      some ((⟨y0.Id, y0.Came, y0.Working, (IntKind.i64.wrap (r_.Extended + n)), y0.Stops⟩ : Request), true)))

def M.spec_DrawDaysLeftFor (code : List Int) : Option (Request × Int) :=
  (M.spec_l1Cur_request (⟨code, (0 : Int), (0 : Int)⟩ : Cur) (9 : Int)).bind fun y0 =>
  (M.spec_l1Cur_among y0.2 ([(0 : Int), (1 : Int), (3 : Int), (10 : Int), (30 : Int), (100 : Int), (-1 : Int)] : List Int)).bind fun y1 =>
  some (y0.1, (IntKind.i64.wrap (y0.1.Came + y1.1)))

def M.impl_DaysLeftFor_l0 (r_ : Request) (y0 : Int × Bool) : (Int × Int) → Option ((Int × Int) ⊕ (Int)) := fun st_ => match st_ with
| (count0, d) =>
  bif (decide (d ≤ y0.1)) then (
    (((
      (M.impl_Request_counts r_ d).bind fun y3 =>
      bif y3 then (
        some (IntKind.i64.wrap (count0 + (1 : Int))))
      else (
        some count0)) : Option Int)).bind fun e => match e with
    | count1 =>
      (some (.inl (count1, (IntKind.i64.wrap (d + (1 : Int)))))))
  else (
    some (.inr count0))

def M.impl_DaysLeftFor (r_ : Request) (day : Int) : Option (Int × Bool) :=
  (M.impl_RequestDue r_).bind fun y0 =>
  ((bif (!y0.2) then some default else M.impl_areDays r_.Came day)).bind fun y1 =>
  bif ((!y0.2) || (!y1)) then (
    some ((0 : Int), false))
  else (
    (iterO (M.impl_DaysLeftFor_l0 r_ y0) ((0 : Int), (IntKind.i64.wrap (day + (1 : Int))))).bind fun e => match e with
    | count =>
      (some (count, true)))

def M.spec_l13Works (day : Int) : Option Bool :=
  some (decide ((Int.tmod day (7 : Int)) < (5 : Int)))

def M.spec_l13Counts_l0 (r_ : Request) (day : Int) : (Int) → Option ((Int) ⊕ ((Unit) ⊕ (Bool))) := fun st_ => match st_ with
| i =>
  bif (decide (i < (r_.Stops.length : Int))) then (
    asrt ((0 : Int) ≤ i ∧ i < (r_.Stops.length : Int)) <|
    asrt ((0 : Int) ≤ i ∧ i < (r_.Stops.length : Int)) <|
    (M.spec_l1In day ((r_.Stops.getD (Int.toNat i) default).1) ((r_.Stops.getD (Int.toNat i) default).2)).bind fun y1 =>
    bif y1 then (
      some (.inr (.inr false)))
    else (
      some (.inl (IntKind.i64.wrap (i + (1 : Int))))))
  else (
    some (.inr (.inl ())))

def M.spec_l13Counts (r_ : Request) (day : Int) : Option Bool :=
  (iterO (M.spec_l13Counts_l0 r_ day) (0 : Int)).bind fun e => match e with
  | .inl () =>
    ((M.spec_l13Works day).bind fun y2 =>
    some y2)
  | .inr r => some r

def M.spec_l13Due_l0 (r_ : Request) : (Int × Int) → Option ((Int × Int) ⊕ (Int)) := fun st_ => match st_ with
| (day0, n_) =>
  bif (decide (n_ > (0 : Int))) then (
    (((
      (M.spec_l13Counts r_ (IntKind.i64.wrap (day0 + (1 : Int)))).bind fun y1 =>
      bif y1 then (
        some ((IntKind.i64.wrap (day0 + (1 : Int))), (IntKind.i64.wrap (n_ - (1 : Int)))))
      else (
        some ((IntKind.i64.wrap (day0 + (1 : Int))), n_))) : Option (Int × Int))).bind fun e => match e with
    | (day1, n_0) =>
      (some (.inl (day1, n_0))))
  else (
    some (.inr day0))

def M.spec_l13Due (r_ : Request) : Option Int :=
  (iterO (M.spec_l13Due_l0 r_) (r_.Came, (IntKind.i64.wrap (r_.Working + r_.Extended)))).bind fun e => match e with
  | day =>
    (some day)

def M.spec_DaysLeftFor_l0 (r_ : Request) : (Int × Int) → Option ((Int × Int) ⊕ (Int)) := fun st_ => match st_ with
| (n_0, k) =>
  (M.spec_l13Due r_).bind fun y4 =>
  bif (decide (k ≤ y4)) then (
    (((
      (M.spec_l13Counts r_ k).bind fun y5 =>
      bif y5 then (
        some (IntKind.i64.wrap (n_0 + (1 : Int))))
      else (
        some n_0)) : Option Int)).bind fun e => match e with
    | n_1 =>
      (some (.inl (n_1, (IntKind.i64.wrap (k + (1 : Int)))))))
  else (
    some (.inr n_0))

def M.spec_DaysLeftFor (r_ : Request) (day : Int) : Option (Int × Bool) :=
  (M.spec_l13Good r_).bind fun y0 =>
  ((bif (!y0) then some default else M.spec_l2Day day)).bind fun y1 =>
  ((bif (((!y0) || (!y1)) || (decide (day < r_.Came))) then some default else M.spec_l13Due r_)).bind fun y2 =>
  bif ((((!y0) || (!y1)) || (decide (day < r_.Came))) || (decide (y2 > (20000 : Int)))) then (
    some ((0 : Int), false))
  else (
    (iterO (M.spec_DaysLeftFor_l0 r_) ((0 : Int), (IntKind.i64.wrap (day + (1 : Int))))).bind fun e => match e with
    | n_ =>
      (some (n_, true)))

def M.spec_DrawIsRequest (code : List Int) : Option Request :=
  (M.spec_l1Cur_among (⟨code, (0 : Int), (0 : Int)⟩ : Cur) ([(1 : Int), (9 : Int), (99 : Int), (0 : Int), (100 : Int)] : List Int)).bind fun y0 =>
  (M.spec_l1Cur_request y0.2 y0.1).bind fun y1 =>
  some y1.1

def M.spec_DrawRequestDue (code : List Int) : Option Request :=
  (M.spec_DrawIsRequest code).bind fun y0 =>
  some y0

def M.spec_RequestDue (r_ : Request) : Option (Int × Bool) :=
  (M.spec_l13Good r_).bind fun y0 =>
  ((bif (!y0) then some default else M.spec_l13Due r_)).bind fun y1 =>
  bif ((!y0) || (decide (y1 > (20000 : Int)))) then (
    some ((0 : Int), false))
  else (
    (M.spec_l13Due r_).bind fun y2 =>
    some (y2, true))

def M.impl_IsWorkingDay (day : Int) : Option (Bool × Bool) :=
  (M.impl_isDay day).bind fun y0 =>
  bif (!y0) then (
    some (false, false))
  else (
    (M.impl_isWorkingDay day).bind fun y1 =>
    some (y1, true))

def M.spec_DrawAddWorkingDays (code : List Int) : Option (Int × Int) :=
  (M.spec_l1Cur_among (⟨code, (0 : Int), (0 : Int)⟩ : Cur) ([(0 : Int), (4 : Int), (5 : Int), (6 : Int), (100 : Int), (19900 : Int), (20000 : Int), (-1 : Int)] : List Int)).bind fun y0 =>
  (M.spec_l1Cur_among y0.2 ([(1 : Int), (2 : Int), (5 : Int), (20 : Int), (500 : Int), (0 : Int), (501 : Int)] : List Int)).bind fun y1 =>
  some (y0.1, y1.1)

def M.impl_AddWorkingDays (day : Int) (n : Int) : Option (Int × Bool) :=
  (M.impl_isDay day).bind fun y0 =>
  ((bif (!y0) then some default else M.impl_within n (1 : Int) (500 : Int))).bind fun y1 =>
  bif ((!y0) || (!y1)) then (
    some ((0 : Int), false))
  else (
    (M.impl_Request_due (⟨(0 : Int), day, n, (0 : Int), ([] : List (Int × Int))⟩ : Request)).bind fun y2 =>
    some (y2.1, y2.2))

def M.spec_AddWorkingDays_l0 : (Int × Int) → Option ((Int × Int) ⊕ (Int)) := fun st_ => match st_ with
| (day1, n_) =>
  bif (decide (n_ > (0 : Int))) then (
    (((
      (M.spec_l13Works (IntKind.i64.wrap (day1 + (1 : Int)))).bind fun y3 =>
      bif y3 then (
        some ((IntKind.i64.wrap (day1 + (1 : Int))), (IntKind.i64.wrap (n_ - (1 : Int)))))
      else (
        some ((IntKind.i64.wrap (day1 + (1 : Int))), n_))) : Option (Int × Int))).bind fun e => match e with
    | (day2, n_0) =>
      (some (.inl (day2, n_0))))
  else (
    some (.inr day1))

def M.spec_AddWorkingDays (day : Int) (n : Int) : Option (Int × Bool) :=
  (M.spec_l2Day day).bind fun y0 =>
  ((bif (!y0) then some default else M.spec_l1In n (1 : Int) (500 : Int))).bind fun y1 =>
  bif ((!y0) || (!y1)) then (
    some ((0 : Int), false))
  else (
    (iterO (M.spec_AddWorkingDays_l0) (day, n)).bind fun e => match e with
    | day0 =>
      (bif (decide (day0 > (20000 : Int))) then (
        some ((0 : Int), false))
      else (
        some (day0, true))))

def M.impl_WorkingDays_l0 (to_ : Int) : (Int × Int) → Option ((Int × Int) ⊕ (Int)) := fun st_ => match st_ with
| (count0, day) =>
  bif (decide (day ≤ to_)) then (
    (((
      (M.impl_isWorkingDay day).bind fun y2 =>
      bif y2 then (
        some (IntKind.i64.wrap (count0 + (1 : Int))))
      else (
        some count0)) : Option Int)).bind fun e => match e with
    | count1 =>
      (some (.inl (count1, (IntKind.i64.wrap (day + (1 : Int)))))))
  else (
    some (.inr count0))

def M.impl_WorkingDays (from_ : Int) (to_ : Int) : Option (Int × Bool) :=
  (M.impl_areDays from_ to_).bind fun y0 =>
  bif (!y0) then (
    some ((0 : Int), false))
  else (
    (iterO (M.impl_WorkingDays_l0 to_) ((0 : Int), from_)).bind fun e => match e with
    | count =>
      (some (count, true)))

def M.spec_DrawWorkingDays (code : List Int) : Option (Int × Int) :=
  (M.spec_l1Cur_among (⟨code, (0 : Int), (0 : Int)⟩ : Cur) ([(0 : Int), (4 : Int), (5 : Int), (6 : Int), (100 : Int), (20000 : Int), (-1 : Int)] : List Int)).bind fun y0 =>
  (M.spec_l1Cur_among y0.2 ([(0 : Int), (1 : Int), (6 : Int), (7 : Int), (30 : Int), (365 : Int), (-1 : Int)] : List Int)).bind fun y1 =>
  some (y0.1, (IntKind.i64.wrap (y0.1 + y1.1)))

def M.spec_WorkingDays_l0 (to_ : Int) : (Int × Int) → Option ((Int × Int) ⊕ (Int)) := fun st_ => match st_ with
| (n_0, day) =>
  bif (decide (day ≤ to_)) then (
    (((
      (M.spec_l13Works day).bind fun y3 =>
      bif y3 then (
        some (IntKind.i64.wrap (n_0 + (1 : Int))))
      else (
        some n_0)) : Option Int)).bind fun e => match e with
    | n_1 =>
      (some (.inl (n_1, (IntKind.i64.wrap (day + (1 : Int)))))))
  else (
    some (.inr n_0))

def M.spec_WorkingDays (from_ : Int) (to_ : Int) : Option (Int × Bool) :=
  (M.spec_l2Day from_).bind fun y0 =>
  ((bif (!y0) then some default else M.spec_l2Day to_)).bind fun y1 =>
  bif (((!y0) || (!y1)) || (decide (from_ > to_))) then (
    some ((0 : Int), false))
  else (
    (iterO (M.spec_WorkingDays_l0 to_) ((0 : Int), from_)).bind fun e => match e with
    | n_ =>
      (some (n_, true)))

def M.spec_DrawIsWorkingDay (code : List Int) : Option Int :=
  (M.spec_l1Cur_among (⟨code, (0 : Int), (0 : Int)⟩ : Cur) ([(0 : Int), (4 : Int), (5 : Int), (6 : Int), (7 : Int), (20000 : Int), (20001 : Int), (-1 : Int)] : List Int)).bind fun y0 =>
  some y0.1

def M.spec_IsWorkingDay (day : Int) : Option (Bool × Bool) :=
  (M.spec_l2Day day).bind fun y0 =>
  bif (!y0) then (
    some (false, false))
  else (
    (M.spec_l13Works day).bind fun y1 =>
    some (y1, true))

def M.spec_l1Cur_one (c : Cur) (n : Int) : Option (Bool × Cur) :=
  (M.spec_l1Cur_pick c n).bind fun y0 =>
  some ((y0.1 == (0 : Int)), y0.2)

def M.spec_l1Cur_requests_l0 : (List Request × Int × Cur) → Option ((List Request × Int × Cur) ⊕ (List Request × Cur)) := fun st_ => match st_ with
| (list0, n_, c_0) =>
  bif (decide (n_ < (6 : Int))) then (
    (((
      (M.spec_l1Cur_one c_0 (2 : Int)).bind fun y1 =>
      bif y1.1 then (
        (M.spec_l1Cur_request y1.2 (IntKind.i64.wrap ((8 : Int) * n_))).bind fun y2 =>
        asrt ((list0.length : Int) + (([y2.1] : List Request).length : Int) ≤ 2147483648) <|
        some ((list0 ++ ([y2.1] : List Request)), y2.2))
      else (
        some (list0, y1.2))) : Option (List Request × Cur))).bind fun e => match e with
    | (list1, c_1) =>
      (some (.inl (list1, (IntKind.i64.wrap (n_ + (1 : Int))), c_1))))
  else (
    some (.inr (list0, c_0)))

def M.spec_l1Cur_requests_l1 : (List Request × Cur) → Option ((List Request × Cur) ⊕ (List Request × Cur)) := fun st_ => match st_ with
| (list4, c_4) =>
  (M.spec_l1Cur_pick c_4 (2 : Int)).bind fun y7 =>
  bif (decide ((list4.length : Int) < (IntKind.i64.wrap ((8 : Int) + y7.1)))) then (
    asrt ((list4.length : Int) + (([(⟨(IntKind.i64.wrap ((60 : Int) + (list4.length : Int))), (3 : Int), (5 : Int), (0 : Int), ([] : List (Int × Int))⟩ : Request)] : List Request).length : Int) ≤ 2147483648) <|
    some (.inl ((list4 ++ ([(⟨(IntKind.i64.wrap ((60 : Int) + (list4.length : Int))), (3 : Int), (5 : Int), (0 : Int), ([] : List (Int × Int))⟩ : Request)] : List Request)), y7.2)))
  else (
    some (.inr (list4, y7.2)))

def M.spec_l1Cur_requests (c : Cur) : Option (List Request × Cur) :=
  (iterO (M.spec_l1Cur_requests_l0) (([] : List Request), (1 : Int), c)).bind fun e => match e with
  | (list, c_) =>
    ((M.spec_l1Cur_pick c_ (32 : Int)).bind fun y3 =>
    (((
      bif (y3.1 == (0 : Int)) then (
        (M.spec_l1Cur_among y3.2 ([(0 : Int), (8 : Int), (99 : Int), (100 : Int)] : List Int)).bind fun y4 =>
        (M.spec_l1Cur_request y4.2 y4.1).bind fun y5 =>
        asrt ((list.length : Int) + (([y5.1] : List Request).length : Int) ≤ 2147483648) <|
        some ((list ++ ([y5.1] : List Request)), y5.2))
      else (
        bif (y3.1 == (1 : Int)) then (
          (iterO (M.spec_l1Cur_requests_l1) (list, y3.2)).bind fun e => match e with
          | (list3, c_3) =>
            (some (list3, c_3)))
        else (
          some (list, y3.2)))) : Option (List Request × Cur))).bind fun e => match e with
    | (list2, c_2) =>
      (some (list2, c_2)))

def M.spec_DrawFirstRequest (code : List Int) : Option (List Request) :=
  (M.spec_l1Cur_requests (⟨code, (0 : Int), (0 : Int)⟩ : Cur)).bind fun y0 =>
  some y0.1

def M.impl_dueDays_l0 (list : List Request) : (List Int × Int) → Option ((List Int × Int) ⊕ ((List Int) ⊕ (List Int × Bool))) := fun st_ => match st_ with
| (days0, v) =>
  bif (decide (v < (list.length : Int))) then (
    asrt ((0 : Int) ≤ v ∧ v < (list.length : Int)) <|
    (M.impl_RequestDue (list.getD (Int.toNat v) default)).bind fun y1 =>
    asrt ((!y1.2) = false → (decide (v > (0 : Int))) = true → ((0 : Int) ≤ (IntKind.i64.wrap (v - (1 : Int))) ∧ (IntKind.i64.wrap (v - (1 : Int))) < (list.length : Int))) <|
    bif ((!y1.2) || ((decide (v > (0 : Int))) && (decide (((list.getD (Int.toNat (IntKind.i64.wrap (v - (1 : Int)))) default).Id) ≥ ((list.getD (Int.toNat v) default).Id))))) then (
      some (.inr (.inr (([] : List Int), false))))
    else (
      asrt ((days0.length : Int) + (([y1.1] : List Int).length : Int) ≤ 2147483648) <|
      some (.inl ((days0 ++ ([y1.1] : List Int)), (IntKind.i64.wrap (v + (1 : Int)))))))
  else (
    some (.inr (.inl days0)))

def M.impl_dueDays (list : List Request) : Option (List Int × Bool) :=
  bif (decide ((list.length : Int) > (8 : Int))) then (
    some (([] : List Int), false))
  else (
    (iterO (M.impl_dueDays_l0 list) (([] : List Int), (0 : Int))).bind fun e => match e with
    | .inl days =>
      (some (days, true))
    | .inr r => some r)

def M.slices_Min_int_int_l0 (x : List Int) : (Int × Int) → Option ((Int × Int) ⊕ (Int)) := fun st_ => match st_ with
| (m_0, i) =>
  bif (decide (i < (x.length : Int))) then (
    asrt ((0 : Int) ≤ i ∧ i < (x.length : Int)) <|
    some (.inl ((bif decide ((x.getD (Int.toNat i) default) < m_0) then (x.getD (Int.toNat i) default) else m_0), (IntKind.i64.wrap (i + (1 : Int))))))
  else (
    some (.inr m_0))

def M.slices_Min_int_int (x : List Int) : Option Int :=
  (((
    bif (decide ((x.length : Int) < (1 : Int))) then (
      none)
    else (
      some ())) : Option Unit)).bind fun e => match e with
  | () =>
    (asrt ((0 : Int) ≤ (0 : Int) ∧ (0 : Int) < (x.length : Int)) <|
    (iterO (M.slices_Min_int_int_l0 x) ((x.getD (Int.toNat (0 : Int)) default), (1 : Int))).bind fun e => match e with
    | m_ =>
      (some m_))

def M.slices_Index_int_int_l0 (s : List Int) (v : Int) : (Int) → Option ((Int) ⊕ ((Unit) ⊕ (Int))) := fun st_ => match st_ with
| v0 =>
  bif (decide (v0 < (s.length : Int))) then (
    asrt ((0 : Int) ≤ v0 ∧ v0 < (s.length : Int)) <|
    bif (v == (s.getD (Int.toNat v0) default)) then (
      some (.inr (.inr v0)))
    else (
      some (.inl (IntKind.i64.wrap (v0 + (1 : Int))))))
  else (
    some (.inr (.inl ())))

def M.slices_Index_int_int (s : List Int) (v : Int) : Option Int :=
  (iterO (M.slices_Index_int_int_l0 s v) (0 : Int)).bind fun e => match e with
  | .inl () =>
    (some (-1 : Int))
  | .inr r => some r

def M.impl_FirstRequest (list : List Request) : Option (Int × Int × Bool) :=
  (M.impl_dueDays list).bind fun y0 =>
  bif ((!y0.2) || ((list.length : Int) == (0 : Int))) then (
    some ((0 : Int), (0 : Int), false))
  else (
    (M.slices_Min_int_int y0.1).bind fun y1 =>
    (M.slices_Index_int_int y0.1 y1).bind fun y2 =>
    asrt ((0 : Int) ≤ y2 ∧ y2 < (list.length : Int)) <|
    some ((list.getD (Int.toNat y2) default).Id, y1, true))

def M.spec_l13List_l0 (list : List Request) : (Int) → Option ((Int) ⊕ ((Unit) ⊕ (Bool))) := fun st_ => match st_ with
| i =>
  bif (decide (i < (list.length : Int))) then (
    asrt ((0 : Int) ≤ i ∧ i < (list.length : Int)) <|
    (M.spec_l13Good (list.getD (Int.toNat i) default)).bind fun y1 =>
    asrt ((!y1) = false → ((0 : Int) ≤ i ∧ i < (list.length : Int))) <|
    ((bif (!y1) then some default else M.spec_l13Due (list.getD (Int.toNat i) default))).bind fun y2 =>
    asrt (((!y1) || (decide (y2 > (20000 : Int)))) = false → (decide (i > (0 : Int))) = true → ((0 : Int) ≤ (IntKind.i64.wrap (i - (1 : Int))) ∧ (IntKind.i64.wrap (i - (1 : Int))) < (list.length : Int))) <|
    asrt (((!y1) || (decide (y2 > (20000 : Int)))) = false → (decide (i > (0 : Int))) = true → ((0 : Int) ≤ i ∧ i < (list.length : Int))) <|
    bif (((!y1) || (decide (y2 > (20000 : Int)))) || ((decide (i > (0 : Int))) && (decide (((list.getD (Int.toNat (IntKind.i64.wrap (i - (1 : Int)))) default).Id) ≥ ((list.getD (Int.toNat i) default).Id))))) then (
      some (.inr (.inr false)))
    else (
      some (.inl (IntKind.i64.wrap (i + (1 : Int))))))
  else (
    some (.inr (.inl ())))

def M.spec_l13List (list : List Request) : Option Bool :=
  (iterO (M.spec_l13List_l0 list) (0 : Int)).bind fun e => match e with
  | .inl () =>
    (some (decide ((list.length : Int) ≤ (8 : Int))))
  | .inr r => some r

def M.spec_FirstRequest_l0 (list : List Request) : (Int × Int) → Option ((Int × Int) ⊕ (Int)) := fun st_ => match st_ with
| (best0, i) =>
  bif (decide (i < (list.length : Int))) then (
    (((
      asrt ((0 : Int) ≤ i ∧ i < (list.length : Int)) <|
      (M.spec_l13Due (list.getD (Int.toNat i) default)).bind fun y2 =>
      asrt ((0 : Int) ≤ best0 ∧ best0 < (list.length : Int)) <|
      (M.spec_l13Due (list.getD (Int.toNat best0) default)).bind fun y3 =>
      bif (decide (y2 < y3)) then (
        some i)
      else (
        some best0)) : Option Int)).bind fun e => match e with
    | best1 =>
      (some (.inl (best1, (IntKind.i64.wrap (i + (1 : Int)))))))
  else (
    some (.inr best0))

def M.spec_FirstRequest (list : List Request) : Option (Int × Int × Bool) :=
  (M.spec_l13List list).bind fun y0 =>
  bif ((!y0) || ((list.length : Int) == (0 : Int))) then (
    some ((0 : Int), (0 : Int), false))
  else (
    (iterO (M.spec_FirstRequest_l0 list) ((0 : Int), (1 : Int))).bind fun e => match e with
    | best =>
      (asrt ((0 : Int) ≤ best ∧ best < (list.length : Int)) <|
      asrt ((0 : Int) ≤ best ∧ best < (list.length : Int)) <|
      (M.spec_l13Due (list.getD (Int.toNat best) default)).bind fun y4 =>
      some ((list.getD (Int.toNat best) default).Id, y4, true)))

def M.impl_OverdueOn_l0 (list : List Request) (day : Int) (y0 : List Int × Bool) : (List Int × Int) → Option ((List Int × Int) ⊕ (List Int)) := fun st_ => match st_ with
| (ids0, v) =>
  bif (decide (v < (y0.1.length : Int))) then (
    (((
      asrt ((0 : Int) ≤ v ∧ v < (y0.1.length : Int)) <|
      bif (decide ((y0.1.getD (Int.toNat v) default) < day)) then (
        asrt ((0 : Int) ≤ v ∧ v < (list.length : Int)) <|
        asrt ((ids0.length : Int) + (([(list.getD (Int.toNat v) default).Id] : List Int).length : Int) ≤ 2147483648) <|
        some (ids0 ++ ([(list.getD (Int.toNat v) default).Id] : List Int)))
      else (
        some ids0)) : Option (List Int))).bind fun e => match e with
    | ids1 =>
      (some (.inl (ids1, (IntKind.i64.wrap (v + (1 : Int)))))))
  else (
    some (.inr ids0))

def M.impl_OverdueOn (list : List Request) (day : Int) : Option (List Int × Bool) :=
  (M.impl_dueDays list).bind fun y0 =>
  ((bif (!y0.2) then some default else M.impl_isDay day)).bind fun y1 =>
  bif ((!y0.2) || (!y1)) then (
    some (([] : List Int), false))
  else (
    (iterO (M.impl_OverdueOn_l0 list day y0) (([] : List Int), (0 : Int))).bind fun e => match e with
    | ids =>
      (some (ids, true)))

def M.spec_l1Cur_day (c : Cur) : Option (Int × Cur) :=
  (M.spec_l1Cur_among c ([(0 : Int), (10 : Int), (100 : Int), (150 : Int), (400 : Int), (1000 : Int), (3650 : Int), (19999 : Int), (20000 : Int), (20001 : Int), (-1 : Int), (365 : Int)] : List Int)).bind fun y0 =>
  some (y0.1, y0.2)

def M.spec_DrawOverdueOn (code : List Int) : Option (List Request × Int) :=
  (M.spec_l1Cur_requests (⟨code, (0 : Int), (0 : Int)⟩ : Cur)).bind fun y0 =>
  (((
    ((bif (decide ((y0.1.length : Int) > (0 : Int))) then M.spec_l1Cur_one y0.2 (2 : Int) else some default)).bind fun y1 =>
    bif ((decide ((y0.1.length : Int) > (0 : Int))) && y1.1) then (
      (M.spec_l1Cur_pick (bif (decide ((y0.1.length : Int) > (0 : Int))) then y1.2 else y0.2) (y0.1.length : Int)).bind fun y2 =>
      asrt ((0 : Int) ≤ y2.1 ∧ y2.1 < (y0.1.length : Int)) <|
      (M.spec_RequestDue (y0.1.getD (Int.toNat y2.1) default)).bind fun y3 =>
      bif y3.2 then (
        (M.spec_l1Cur_pick y2.2 (2 : Int)).bind fun y4 =>
        some (.inr (y0.1, (IntKind.i64.wrap (y3.1 + y4.1)))))
      else (
        some (.inl y2.2)))
    else (
      some (.inl (bif (decide ((y0.1.length : Int) > (0 : Int))) then y1.2 else y0.2)))) : Option ((Cur) ⊕ (List Request × Int)))).bind fun e => match e with
  | .inl c_ =>
    ((M.spec_l1Cur_day c_).bind fun y5 =>
    some (y0.1, y5.1))
  | .inr r => some r

def M.spec_OverdueOn_l0 (list : List Request) (day : Int) : (List Int × Int) → Option ((List Int × Int) ⊕ (List Int)) := fun st_ => match st_ with
| (out_0, i) =>
  bif (decide (i < (list.length : Int))) then (
    (((
      asrt ((0 : Int) ≤ i ∧ i < (list.length : Int)) <|
      (M.spec_l13Due (list.getD (Int.toNat i) default)).bind fun y3 =>
      bif (decide (y3 < day)) then (
        asrt ((0 : Int) ≤ i ∧ i < (list.length : Int)) <|
        asrt ((out_0.length : Int) + (([(list.getD (Int.toNat i) default).Id] : List Int).length : Int) ≤ 2147483648) <|
        some (out_0 ++ ([(list.getD (Int.toNat i) default).Id] : List Int)))
      else (
        some out_0)) : Option (List Int))).bind fun e => match e with
    | out_1 =>
      (some (.inl (out_1, (IntKind.i64.wrap (i + (1 : Int)))))))
  else (
    some (.inr out_0))

def M.spec_OverdueOn (list : List Request) (day : Int) : Option (List Int × Bool) :=
  (M.spec_l13List list).bind fun y0 =>
  ((bif (!y0) then some default else M.spec_l2Day day)).bind fun y1 =>
  bif ((!y0) || (!y1)) then (
    some (([] : List Int), false))
  else (
    (iterO (M.spec_OverdueOn_l0 list day) (([] : List Int), (0 : Int))).bind fun e => match e with
    | out_ =>
      (some (out_, true)))

def M.laws_vInts_l0 (a : List Int) (b_ : List Int) : (Int) → Option ((Int) ⊕ ((Unit) ⊕ (Bool))) := fun st_ => match st_ with
| i =>
  bif (decide (i < (a.length : Int))) then (
    asrt ((0 : Int) ≤ i ∧ i < (a.length : Int)) <|
    asrt ((0 : Int) ≤ i ∧ i < (b_.length : Int)) <|
    bif ((a.getD (Int.toNat i) default) != (b_.getD (Int.toNat i) default)) then (
      some (.inr (.inr false)))
    else (
      some (.inl (IntKind.i64.wrap (i + (1 : Int))))))
  else (
    some (.inr (.inl ())))

def M.laws_vInts (a : List Int) (b_ : List Int) : Option Bool :=
  bif ((a.length : Int) != (b_.length : Int)) then (
    some false)
  else (
    (iterO (M.laws_vInts_l0 a b_) (0 : Int)).bind fun e => match e with
    | .inl () =>
      (some true)
    | .inr r => some r)

def M.laws_FnWorkingDays (code : List Int) : Option Bool :=
  (M.laws_vBig code).bind fun y0 =>
  bif y0 then (
    some true)
  else (
    (M.spec_DrawAddWorkingDays code).bind fun y1 =>
    (M.impl_AddWorkingDays y1.1 y1.2).bind fun y2 =>
    (M.spec_AddWorkingDays y1.1 y1.2).bind fun y3 =>
    bif ((y2.1 != y3.1) || (!(y2.2 == y3.2))) then (
      some false)
    else (
      (((
        bif y2.2 then (
          (M.impl_WorkingDays (IntKind.i64.wrap (y1.1 + (1 : Int))) y2.1).bind fun y4 =>
          (M.impl_IsWorkingDay y2.1).bind fun y5 =>
          bif ((((!y4.2) || (y4.1 != y1.2)) || (!y5.2)) || (!y5.1)) then (
            some (.inr false))
          else (
            some (.inl ())))
        else (
          some (.inl ()))) : Option ((Unit) ⊕ (Bool)))).bind fun e => match e with
      | .inl () =>
        ((M.spec_DrawWorkingDays code).bind fun y6 =>
        (M.impl_WorkingDays y6.1 y6.2).bind fun y7 =>
        (M.spec_WorkingDays y6.1 y6.2).bind fun y8 =>
        bif ((y7.1 != y8.1) || (!(y7.2 == y8.2))) then (
          some false)
        else (
          (M.spec_DrawIsWorkingDay code).bind fun y9 =>
          (M.impl_IsWorkingDay y9).bind fun y10 =>
          (M.spec_IsWorkingDay y9).bind fun y11 =>
          bif ((!(y10.1 == y11.1)) || (!(y10.2 == y11.2))) then (
            some false)
          else (
            (M.spec_DrawFirstRequest code).bind fun y12 =>
            (M.impl_FirstRequest y12).bind fun y13 =>
            (M.spec_FirstRequest y12).bind fun y14 =>
            bif (((y13.1 != y14.1) || (y13.2.1 != y14.2.1)) || (!(y13.2.2 == y14.2.2))) then (
              some false)
            else (
              (((
                bif y13.2.2 then (
                  (M.impl_OverdueOn y12 y13.2.1).bind fun y15 =>
                  bif ((!y15.2) || ((y15.1.length : Int) != (0 : Int))) then (
                    some (.inr false))
                  else (
                    some (.inl ())))
                else (
                  some (.inl ()))) : Option ((Unit) ⊕ (Bool)))).bind fun e => match e with
              | .inl () =>
                ((M.spec_DrawOverdueOn code).bind fun y16 =>
                (M.impl_OverdueOn y16.1 y16.2).bind fun y17 =>
                (M.spec_OverdueOn y16.1 y16.2).bind fun y18 =>
                ((bif (y17.2 == y18.2) then M.laws_vInts y17.1 y18.1 else some default)).bind fun y19 =>
                some ((y17.2 == y18.2) && y19))
              | .inr r => some r))))
      | .inr r => some r))

def M.spec_l1Cur_record_l0 (y1 : Int × Cur) : (Int × List Event × Cur) → Option ((Int × List Event × Cur) ⊕ (List Event × Cur)) := fun st_ => match st_ with
| (k, r_Events0, c_0) =>
  bif (decide (k ≤ (6 : Int))) then (
    (((
      (M.spec_l1Cur_one c_0 (3 : Int)).bind fun y3 =>
      bif y3.1 then (
        (M.spec_l1Cur_among y3.2 ([(0 : Int), (1 : Int), (30 : Int), (365 : Int), (1000 : Int)] : List Int)).bind fun y4 =>
        asrt ((r_Events0.length : Int) + (([(⟨k, (IntKind.i64.wrap (y1.1 + y4.1))⟩ : Event)] : List Event).length : Int) ≤ 2147483648) <|
        (((
          some ((r_Events0 ++ ([(⟨k, (IntKind.i64.wrap (y1.1 + y4.1))⟩ : Event)] : List Event)), y4.2)) : Option (List Event × Cur))).bind fun e => match e with
        | (r_Events2, c_2) =>
          (some (r_Events2, c_2)))
      else (
        some (r_Events0, y3.2))) : Option (List Event × Cur))).bind fun e => match e with
    | (r_Events1, c_1) =>
      (some (.inl ((IntKind.i64.wrap (k + (1 : Int))), r_Events1, c_1))))
  else (
    some (.inr (r_Events0, c_0)))

def M.spec_l1Cur_record (c : Cur) (id_ : Int) : Option (Record × Cur) :=
  (M.spec_l1Cur_among c ([(1 : Int), (2 : Int), (3 : Int), (3 : Int), (7 : Int), (99 : Int)] : List Int)).bind fun y0 =>
  (M.spec_l1Cur_among y0.2 ([(0 : Int), (100 : Int), (100 : Int), (500 : Int), (3000 : Int)] : List Int)).bind fun y1 =>
  (iterO (M.spec_l1Cur_record_l0 y1) ((1 : Int), ([] : List Event), y1.2)).bind fun e => match e with
  | (r_Events, c_) =>
    ((M.spec_l1Cur_pick c_ (48 : Int)).bind fun y5 =>
    (((
      bif (y5.1 == (0 : Int)) then (
        (M.spec_l1Cur_among y5.2 ([(0 : Int), (100 : Int)] : List Int)).bind fun y6 =>
        some (y6.1, y1.1, r_Events, y6.2))
      else (
        bif (y5.1 == (1 : Int)) then (
          (M.spec_l1Cur_among y5.2 ([(-1 : Int), (20001 : Int), (19999 : Int)] : List Int)).bind fun y7 =>
          some (y0.1, y7.1, r_Events, y7.2))
        else (
          bif (y5.1 == (2 : Int)) then (
            (M.spec_l1Cur_among y5.2 ([(1 : Int), (9 : Int), (10 : Int)] : List Int)).bind fun y8 =>
            (M.spec_l1Cur_among y8.2 ([(0 : Int), (20000 : Int)] : List Int)).bind fun y9 =>
            asrt ((r_Events.length : Int) + (([(⟨y8.1, y9.1⟩ : Event)] : List Event).length : Int) ≤ 2147483648) <|
            (((
              some ((r_Events ++ ([(⟨y8.1, y9.1⟩ : Event)] : List Event)), y9.2)) : Option (List Event × Cur))).bind fun e => match e with
            | (r_Events4, o) =>
              (some (y0.1, y1.1, r_Events4, o)))
          else (
            some (y0.1, y1.1, r_Events, y5.2))))) : Option (Int × Int × List Event × Cur))).bind fun e => match e with
    | (r_Series, r_Made, r_Events3, c_3) =>
      (some ((⟨id_, r_Series, r_Made, r_Events3⟩ : Record), c_3)))

def M.spec_l1Cur_rule (c : Cur) : Option (Rule × Cur) :=
  (M.spec_l1Cur_among c ([(1 : Int), (2 : Int), (3 : Int), (3 : Int), (7 : Int), (99 : Int)] : List Int)).bind fun y0 =>
  (M.spec_l1Cur_among y0.2 ([(0 : Int), (0 : Int), (1 : Int), (2 : Int), (3 : Int), (9 : Int)] : List Int)).bind fun y1 =>
  (M.spec_l1Cur_among y1.2 ([(0 : Int), (30 : Int), (365 : Int), (400 : Int), (3650 : Int), (20000 : Int)] : List Int)).bind fun y2 =>
  (M.spec_l1Cur_pick y2.2 (3 : Int)).bind fun y3 =>
  (M.spec_l1Cur_pick y3.2 (48 : Int)).bind fun y4 =>
  (((
    bif (y4.1 == (0 : Int)) then (
      (M.spec_l1Cur_among y4.2 ([(0 : Int), (100 : Int)] : List Int)).bind fun y5 =>
      some (y5.2, (⟨y5.1, y1.1, y2.1, (IntKind.i64.wrap ((1 : Int) + y3.1))⟩ : Rule)))
    else (
      bif (y4.1 == (1 : Int)) then (
        (M.spec_l1Cur_among y4.2 ([(-1 : Int), (10 : Int)] : List Int)).bind fun y6 =>
        some (y6.2, (⟨y0.1, y6.1, y2.1, (IntKind.i64.wrap ((1 : Int) + y3.1))⟩ : Rule)))
      else (
        bif (y4.1 == (2 : Int)) then (
          (M.spec_l1Cur_among y4.2 ([(-1 : Int), (20001 : Int)] : List Int)).bind fun y7 =>
          some (y7.2, (⟨y0.1, y1.1, y7.1, (IntKind.i64.wrap ((1 : Int) + y3.1))⟩ : Rule)))
        else (
          bif (y4.1 == (3 : Int)) then (
            (M.spec_l1Cur_among y4.2 ([(0 : Int), (4 : Int)] : List Int)).bind fun y8 =>
            some (y8.2, (⟨y0.1, y1.1, y2.1, y8.1⟩ : Rule)))
          else (
            some (y4.2, (⟨y0.1, y1.1, y2.1, (IntKind.i64.wrap ((1 : Int) + y3.1))⟩ : Rule))))))) : Option (Cur × Rule))).bind fun e => match e with
  | (c_, r_) =>
    (some (r_, c_))

def M.spec_l4One (r_ : Rule) : Option Bool :=
  (M.spec_l1In r_.Series (1 : Int) (99 : Int)).bind fun y0 =>
  ((bif y0 then M.spec_l1In r_.Event (0 : Int) (9 : Int) else some default)).bind fun y1 =>
  ((bif (y0 && y1) then M.spec_l1In r_.Days (0 : Int) (20000 : Int) else some default)).bind fun y2 =>
  ((bif ((y0 && y1) && y2) then M.spec_l1In r_.Act (1 : Int) (3 : Int) else some default)).bind fun y3 =>
  some (((y0 && y1) && y2) && y3)

def M.spec_l4Before (a : Rule) (b_ : Rule) : Option Bool :=
  some ((decide (a.Series < b_.Series)) || ((a.Series == b_.Series) && (decide (a.Event < b_.Event))))

def M.spec_l4Good_l0 (list : List Rule) : (Int) → Option ((Int) ⊕ ((Unit) ⊕ (Bool))) := fun st_ => match st_ with
| i =>
  bif (decide (i < (list.length : Int))) then (
    asrt ((0 : Int) ≤ i ∧ i < (list.length : Int)) <|
    (M.spec_l4One (list.getD (Int.toNat i) default)).bind fun y1 =>
    asrt ((!y1) = false → (decide (i > (0 : Int))) = true → ((0 : Int) ≤ (IntKind.i64.wrap (i - (1 : Int))) ∧ (IntKind.i64.wrap (i - (1 : Int))) < (list.length : Int))) <|
    asrt ((!y1) = false → (decide (i > (0 : Int))) = true → ((0 : Int) ≤ i ∧ i < (list.length : Int))) <|
    ((bif (!y1) then some default else (bif (decide (i > (0 : Int))) then M.spec_l4Before (list.getD (Int.toNat (IntKind.i64.wrap (i - (1 : Int)))) default) (list.getD (Int.toNat i) default) else some default))).bind fun y2 =>
    bif ((!y1) || ((decide (i > (0 : Int))) && (!y2))) then (
      some (.inr (.inr false)))
    else (
      some (.inl (IntKind.i64.wrap (i + (1 : Int))))))
  else (
    some (.inr (.inl ())))

def M.spec_l4Good (list : List Rule) : Option Bool :=
  (iterO (M.spec_l4Good_l0 list) (0 : Int)).bind fun e => match e with
  | .inl () =>
    (some (decide ((list.length : Int) ≤ (8 : Int))))
  | .inr r => some r

def M.spec_l4Without_l0 (list : List Rule) (series : Int) (event : Int) : (List Rule × Int) → Option ((List Rule × Int) ⊕ (List Rule)) := fun st_ => match st_ with
| (out_0, i) =>
  bif (decide (i < (list.length : Int))) then (
    (((
      asrt ((0 : Int) ≤ i ∧ i < (list.length : Int)) <|
      asrt ((((list.getD (Int.toNat i) default).Series) != series) = false → ((0 : Int) ≤ i ∧ i < (list.length : Int))) <|
      bif ((((list.getD (Int.toNat i) default).Series) != series) || (((list.getD (Int.toNat i) default).Event) != event)) then (
        asrt ((0 : Int) ≤ i ∧ i < (list.length : Int)) <|
        asrt ((out_0.length : Int) + (([(list.getD (Int.toNat i) default)] : List Rule).length : Int) ≤ 2147483648) <|
        some (out_0 ++ ([(list.getD (Int.toNat i) default)] : List Rule)))
      else (
        some out_0)) : Option (List Rule))).bind fun e => match e with
    | out_1 =>
      (some (.inl (out_1, (IntKind.i64.wrap (i + (1 : Int)))))))
  else (
    some (.inr out_0))

def M.spec_l4Without (list : List Rule) (series : Int) (event : Int) : Option (List Rule) :=
  (iterO (M.spec_l4Without_l0 list series event) (([] : List Rule), (0 : Int))).bind fun e => match e with
  | out_ =>
    (some out_)

def M.spec_PutRule_l0 (r_ : Rule) (y2 : List Rule) : (Int) → Option ((Int) ⊕ (Int)) := fun st_ => match st_ with
| k0 =>
  asrt ((decide (k0 < (y2.length : Int))) = true → ((0 : Int) ≤ k0 ∧ k0 < (y2.length : Int))) <|
  ((bif (decide (k0 < (y2.length : Int))) then M.spec_l4Before (y2.getD (Int.toNat k0) default) r_ else some default)).bind fun y4 =>
  bif ((decide (k0 < (y2.length : Int))) && y4) then (
    some (.inl (IntKind.i64.wrap (k0 + (1 : Int)))))
  else (
    some (.inr k0))

def M.spec_PutRule (list : List Rule) (r_ : Rule) : Option (List Rule × Bool) :=
  (M.spec_l4Good list).bind fun y0 =>
  ((bif (!y0) then some default else M.spec_l4One r_)).bind fun y1 =>
  bif ((!y0) || (!y1)) then (
    some (([] : List Rule), false))
  else (
    (M.spec_l4Without list r_.Series r_.Event).bind fun y2 =>
    (iterO (M.spec_PutRule_l0 r_ y2) (0 : Int)).bind fun e => match e with
    | k =>
      (asrt ((0 : Int) ≤ (0 : Int) ∧ (0 : Int) ≤ k ∧ k ≤ (y2.length : Int)) <|
      asrt ((([] : List Rule).length : Int) + ((slc y2 (0 : Int) k).length : Int) ≤ 2147483648) <|
      asrt (((([] : List Rule) ++ (slc y2 (0 : Int) k)).length : Int) + (([r_] : List Rule).length : Int) ≤ 2147483648) <|
      asrt ((0 : Int) ≤ k ∧ k ≤ (y2.length : Int) ∧ (y2.length : Int) ≤ (y2.length : Int)) <|
      asrt ((((([] : List Rule) ++ (slc y2 (0 : Int) k)) ++ ([r_] : List Rule)).length : Int) + ((slc y2 k (y2.length : Int)).length : Int) ≤ 2147483648) <|
      (((
        some (((([] : List Rule) ++ (slc y2 (0 : Int) k)) ++ ([r_] : List Rule)) ++ (slc y2 k (y2.length : Int)))) : Option (List Rule))).bind fun e => match e with
      | out_ =>
        ((M.spec_l4Good out_).bind fun y5 =>
        bif (!y5) then (
          some (([] : List Rule), false))
        else (
          some (out_, true)))))

def M.spec_l1Cur_schedule_l0 : (List Rule × Int × Cur) → Option ((List Rule × Int × Cur) ⊕ (List Rule × Cur)) := fun st_ => match st_ with
| (list0, n_, c_0) =>
  bif (decide (n_ > (0 : Int))) then (
    (((
      (M.spec_l1Cur_rule c_0).bind fun y2 =>
      (M.spec_PutRule list0 y2.1).bind fun y3 =>
      bif y3.2 then (
        some (y3.1, y2.2))
      else (
        some (list0, y2.2))) : Option (List Rule × Cur))).bind fun e => match e with
    | (list1, c_1) =>
      (some (.inl (list1, (IntKind.i64.wrap (n_ - (1 : Int))), c_1))))
  else (
    some (.inr (list0, c_0)))

def M.spec_l1Cur_schedule_l1 : (List Rule × Cur) → Option ((List Rule × Cur) ⊕ (List Rule × Cur)) := fun st_ => match st_ with
| (list4, c_4) =>
  (M.spec_l1Cur_pick c_4 (2 : Int)).bind fun y7 =>
  bif (decide ((list4.length : Int) < (IntKind.i64.wrap ((8 : Int) + y7.1)))) then (
    asrt ((list4.length : Int) + (([(⟨(1 : Int), (list4.length : Int), (5 : Int), (3 : Int)⟩ : Rule)] : List Rule).length : Int) ≤ 2147483648) <|
    some (.inl ((list4 ++ ([(⟨(1 : Int), (list4.length : Int), (5 : Int), (3 : Int)⟩ : Rule)] : List Rule)), y7.2)))
  else (
    some (.inr (list4, y7.2)))

def M.spec_l1Cur_schedule (c : Cur) : Option (List Rule × Cur) :=
  (M.spec_l1Cur_pick c (7 : Int)).bind fun y0 =>
  (iterO (M.spec_l1Cur_schedule_l0) (([] : List Rule), y0.1, y0.2)).bind fun e => match e with
  | (list, c_) =>
    ((M.spec_l1Cur_pick c_ (32 : Int)).bind fun y4 =>
    (((
      bif (y4.1 == (0 : Int)) then (
        (M.spec_l1Cur_rule y4.2).bind fun y5 =>
        asrt ((list.length : Int) + (([y5.1] : List Rule).length : Int) ≤ 2147483648) <|
        some ((list ++ ([y5.1] : List Rule)), y5.2))
      else (
        bif (y4.1 == (1 : Int)) then (
          (iterO (M.spec_l1Cur_schedule_l1) (([] : List Rule), y4.2)).bind fun e => match e with
          | (list3, c_3) =>
            (some (list3, c_3)))
        else (
          some (list, y4.2)))) : Option (List Rule × Cur))).bind fun e => match e with
    | (list2, c_2) =>
      (some (list2, c_2)))

def M.spec_l1Cur_suited_l0 (r_ : Record) : (List Rule × Int × Cur) → Option ((List Rule × Int × Cur) ⊕ (List Rule × Cur)) := fun st_ => match st_ with
| (list0, n_, c_0) =>
  ((bif (decide (n_ > (0 : Int))) then M.spec_l4Good list0 else some default)).bind fun y3 =>
  bif ((decide (n_ > (0 : Int))) && y3) then (
    (((
      (M.spec_l1Cur_among c_0 ([(0 : Int), (0 : Int), (1 : Int), (2 : Int), (3 : Int)] : List Int)).bind fun y4 =>
      (M.spec_l1Cur_among y4.2 ([(0 : Int), (30 : Int), (365 : Int), (1000 : Int)] : List Int)).bind fun y5 =>
      (M.spec_l1Cur_pick y5.2 (3 : Int)).bind fun y6 =>
      (((
        some y6.2) : Option Cur)).bind fun e => match e with
      | c_2 =>
        ((((
          ((bif (decide ((r_.Events.length : Int) > (0 : Int))) then M.spec_l1Cur_one c_2 (2 : Int) else some default)).bind fun y7 =>
          bif ((decide ((r_.Events.length : Int) > (0 : Int))) && y7.1) then (
            (M.spec_l1Cur_pick (bif (decide ((r_.Events.length : Int) > (0 : Int))) then y7.2 else c_2) (r_.Events.length : Int)).bind fun y8 =>
            asrt ((0 : Int) ≤ y8.1 ∧ y8.1 < (r_.Events.length : Int)) <|
            some (y8.2, (⟨r_.Series, (r_.Events.getD (Int.toNat y8.1) default).Kind, y5.1, (IntKind.i64.wrap ((1 : Int) + y6.1))⟩ : Rule)))
          else (
            some ((bif (decide ((r_.Events.length : Int) > (0 : Int))) then y7.2 else c_2), (⟨r_.Series, y4.1, y5.1, (IntKind.i64.wrap ((1 : Int) + y6.1))⟩ : Rule)))) : Option (Cur × Rule))).bind fun e => match e with
        | (c_3, rule) =>
          ((M.spec_PutRule list0 rule).bind fun y9 =>
          bif y9.2 then (
            some (y9.1, c_3))
          else (
            some (list0, c_3))))) : Option (List Rule × Cur))).bind fun e => match e with
    | (list1, c_1) =>
      (some (.inl (list1, (IntKind.i64.wrap (n_ - (1 : Int))), c_1))))
  else (
    some (.inr (list0, c_0)))

def M.spec_l1Cur_suited (c : Cur) (r_ : Record) : Option (List Rule × Cur) :=
  (M.spec_l1Cur_schedule c).bind fun y0 =>
  (M.spec_l1Cur_pick y0.2 (4 : Int)).bind fun y1 =>
  (iterO (M.spec_l1Cur_suited_l0 r_) (y0.1, y1.1, y1.2)).bind fun e => match e with
  | (list, c_) =>
    (some (list, c_))

def M.spec_l1Rising_l0 (l : List Int) (lo : Int) (hi : Int) : (Int) → Option ((Int) ⊕ ((Unit) ⊕ (Bool))) := fun st_ => match st_ with
| i =>
  bif (decide (i < (l.length : Int))) then (
    asrt ((0 : Int) ≤ i ∧ i < (l.length : Int)) <|
    (M.spec_l1In (l.getD (Int.toNat i) default) lo hi).bind fun y1 =>
    asrt ((!y1) = false → (decide (i > (0 : Int))) = true → ((0 : Int) ≤ (IntKind.i64.wrap (i - (1 : Int))) ∧ (IntKind.i64.wrap (i - (1 : Int))) < (l.length : Int))) <|
    asrt ((!y1) = false → (decide (i > (0 : Int))) = true → ((0 : Int) ≤ i ∧ i < (l.length : Int))) <|
    bif ((!y1) || ((decide (i > (0 : Int))) && (decide ((l.getD (Int.toNat (IntKind.i64.wrap (i - (1 : Int)))) default) ≥ (l.getD (Int.toNat i) default))))) then (
      some (.inr (.inr false)))
    else (
      some (.inl (IntKind.i64.wrap (i + (1 : Int))))))
  else (
    some (.inr (.inl ())))

def M.spec_l1Rising (l : List Int) (lo : Int) (hi : Int) : Option Bool :=
  (iterO (M.spec_l1Rising_l0 l lo hi) (0 : Int)).bind fun e => match e with
  | .inl () =>
    (some true)
  | .inr r => some r

def M.spec_l9One (h : Hold) : Option Bool :=
  (M.spec_l1In h.Id (1 : Int) (99 : Int)).bind fun y0 =>
  ((bif (!y0) then some default else M.spec_l2Day h.From)).bind fun y1 =>
  ((bif ((!y0) || (!y1)) then some default else (bif (h.Until != (-1 : Int)) then M.spec_l1In h.Until (IntKind.i64.wrap (h.From + (1 : Int))) (20000 : Int) else some default))).bind fun y2 =>
  bif (((!y0) || (!y1)) || ((h.Until != (-1 : Int)) && (!y2))) then (
    some false)
  else (
    ((bif (decide ((h.Series.length : Int) ≤ (5 : Int))) then M.spec_l1Rising h.Series (1 : Int) (99 : Int) else some default)).bind fun y3 =>
    ((bif ((decide ((h.Series.length : Int) ≤ (5 : Int))) && y3) then M.spec_l2Day h.First else some default)).bind fun y4 =>
    ((bif (((decide ((h.Series.length : Int) ≤ (5 : Int))) && y3) && y4) then M.spec_l1In h.Last h.First (20000 : Int) else some default)).bind fun y5 =>
    some ((((decide ((h.Series.length : Int) ≤ (5 : Int))) && y3) && y4) && y5))

def M.spec_l9Good_l0 (list : List Hold) : (Int) → Option ((Int) ⊕ ((Unit) ⊕ (Bool))) := fun st_ => match st_ with
| i =>
  bif (decide (i < (list.length : Int))) then (
    asrt ((0 : Int) ≤ i ∧ i < (list.length : Int)) <|
    (M.spec_l9One (list.getD (Int.toNat i) default)).bind fun y1 =>
    asrt ((!y1) = false → (decide (i > (0 : Int))) = true → ((0 : Int) ≤ (IntKind.i64.wrap (i - (1 : Int))) ∧ (IntKind.i64.wrap (i - (1 : Int))) < (list.length : Int))) <|
    asrt ((!y1) = false → (decide (i > (0 : Int))) = true → ((0 : Int) ≤ i ∧ i < (list.length : Int))) <|
    bif ((!y1) || ((decide (i > (0 : Int))) && (decide (((list.getD (Int.toNat (IntKind.i64.wrap (i - (1 : Int)))) default).Id) ≥ ((list.getD (Int.toNat i) default).Id))))) then (
      some (.inr (.inr false)))
    else (
      some (.inl (IntKind.i64.wrap (i + (1 : Int))))))
  else (
    some (.inr (.inl ())))

def M.spec_l9Good (list : List Hold) : Option Bool :=
  (iterO (M.spec_l9Good_l0 list) (0 : Int)).bind fun e => match e with
  | .inl () =>
    (some (decide ((list.length : Int) ≤ (8 : Int))))
  | .inr r => some r

def M.spec_l2Event (e_ : Event) : Option Bool :=
  (M.spec_l1In e_.Kind (1 : Int) (9 : Int)).bind fun y0 =>
  ((bif y0 then M.spec_l2Day e_.Day else some default)).bind fun y1 =>
  some (y0 && y1)

def M.spec_l2Record_l0 (r_ : Record) : (Int) → Option ((Int) ⊕ ((Unit) ⊕ (Bool))) := fun st_ => match st_ with
| i =>
  bif (decide (i < (r_.Events.length : Int))) then (
    asrt ((0 : Int) ≤ i ∧ i < (r_.Events.length : Int)) <|
    (M.spec_l2Event (r_.Events.getD (Int.toNat i) default)).bind fun y1 =>
    asrt (((!y1) || (decide (((r_.Events.getD (Int.toNat i) default).Day) < r_.Made))) = false → (decide (i > (0 : Int))) = true → ((0 : Int) ≤ (IntKind.i64.wrap (i - (1 : Int))) ∧ (IntKind.i64.wrap (i - (1 : Int))) < (r_.Events.length : Int))) <|
    bif (((!y1) || (decide (((r_.Events.getD (Int.toNat i) default).Day) < r_.Made))) || ((decide (i > (0 : Int))) && (decide (((r_.Events.getD (Int.toNat (IntKind.i64.wrap (i - (1 : Int)))) default).Kind) ≥ ((r_.Events.getD (Int.toNat i) default).Kind))))) then (
      some (.inr (.inr false)))
    else (
      some (.inl (IntKind.i64.wrap (i + (1 : Int))))))
  else (
    some (.inr (.inl ())))

def M.spec_l2Record (r_ : Record) : Option Bool :=
  (iterO (M.spec_l2Record_l0 r_) (0 : Int)).bind fun e => match e with
  | .inl () =>
    ((M.spec_l1In r_.Id (1 : Int) (999 : Int)).bind fun y2 =>
    ((bif y2 then M.spec_l1In r_.Series (1 : Int) (99 : Int) else some default)).bind fun y3 =>
    ((bif (y2 && y3) then M.spec_l2Day r_.Made else some default)).bind fun y4 =>
    some (((y2 && y3) && y4) && (decide ((r_.Events.length : Int) ≤ (6 : Int)))))
  | .inr r => some r

def M.spec_l9Asked (list : List Hold) (r_ : Record) (day : Int) : Option Bool :=
  (M.spec_l9Good list).bind fun y0 =>
  ((bif y0 then M.spec_l2Record r_ else some default)).bind fun y1 =>
  ((bif (y0 && y1) then M.spec_l2Day day else some default)).bind fun y2 =>
  some ((y0 && y1) && y2)

def M.spec_l4For_l0 (list : List Rule) (series : Int) : (List Rule × Int) → Option ((List Rule × Int) ⊕ (List Rule)) := fun st_ => match st_ with
| (out_0, i) =>
  bif (decide (i < (list.length : Int))) then (
    (((
      asrt ((0 : Int) ≤ i ∧ i < (list.length : Int)) <|
      bif (((list.getD (Int.toNat i) default).Series) == series) then (
        asrt ((0 : Int) ≤ i ∧ i < (list.length : Int)) <|
        asrt ((out_0.length : Int) + (([(list.getD (Int.toNat i) default)] : List Rule).length : Int) ≤ 2147483648) <|
        some (out_0 ++ ([(list.getD (Int.toNat i) default)] : List Rule)))
      else (
        some out_0)) : Option (List Rule))).bind fun e => match e with
    | out_1 =>
      (some (.inl (out_1, (IntKind.i64.wrap (i + (1 : Int)))))))
  else (
    some (.inr out_0))

def M.spec_l4For (list : List Rule) (series : Int) : Option (List Rule) :=
  (iterO (M.spec_l4For_l0 list series) (([] : List Rule), (0 : Int))).bind fun e => match e with
  | out_ =>
    (some out_)

def M.spec_l2DayOf_l0 (r_ : Record) (kind : Int) : (Int) → Option ((Int) ⊕ ((Unit) ⊕ (Int))) := fun st_ => match st_ with
| i =>
  bif (decide (i < (r_.Events.length : Int))) then (
    asrt ((0 : Int) ≤ i ∧ i < (r_.Events.length : Int)) <|
    bif (((r_.Events.getD (Int.toNat i) default).Kind) == kind) then (
      asrt ((0 : Int) ≤ i ∧ i < (r_.Events.length : Int)) <|
      some (.inr (.inr ((r_.Events.getD (Int.toNat i) default).Day))))
    else (
      some (.inl (IntKind.i64.wrap (i + (1 : Int))))))
  else (
    some (.inr (.inl ())))

def M.spec_l2DayOf (r_ : Record) (kind : Int) : Option Int :=
  bif (kind == (0 : Int)) then (
    some r_.Made)
  else (
    (iterO (M.spec_l2DayOf_l0 r_ kind) (0 : Int)).bind fun e => match e with
    | .inl () =>
      (some (-1 : Int))
    | .inr r => some r)

def M.spec_l6End (r_ : Record) (rule : Rule) : Option Int :=
  (M.spec_l2DayOf r_ rule.Event).bind fun y0 =>
  bif (decide (y0 < (0 : Int))) then (
    some (-1 : Int))
  else (
    some (IntKind.i64.wrap (y0 + rule.Days)))

def M.spec_l6Deciding_l0 (r_ : Record) (y0 : List Rule) : (Int × Int × Rule) → Option ((Int × Int × Rule) ⊕ ((Int × Rule) ⊕ (Rule × Int))) := fun st_ => match st_ with
| (due0, i, best0) =>
  bif (decide (i < (y0.length : Int))) then (
    (((
      asrt ((0 : Int) ≤ i ∧ i < (y0.length : Int)) <|
      (M.spec_l6End r_ (y0.getD (Int.toNat i) default)).bind fun y2 =>
      bif (decide (y2 < (0 : Int))) then (
        some (.inr ((⟨(0 : Int), (0 : Int), (0 : Int), (0 : Int)⟩ : Rule), (-1 : Int))))
      else (
        asrt ((decide (y2 > due0)) = false → (y2 == due0) = true → ((0 : Int) ≤ i ∧ i < (y0.length : Int))) <|
        bif ((decide (y2 > due0)) || ((y2 == due0) && (decide (((y0.getD (Int.toNat i) default).Act) < best0.Act)))) then (
          asrt ((0 : Int) ≤ i ∧ i < (y0.length : Int)) <|
          some (.inl (y2, (y0.getD (Int.toNat i) default))))
        else (
          some (.inl (due0, best0))))) : Option ((Int × Rule) ⊕ (Rule × Int)))).bind fun e => match e with
    | .inl (due1, best1) =>
      (some (.inl (due1, (IntKind.i64.wrap (i + (1 : Int))), best1)))
    | .inr r => some (.inr (.inr r)))
  else (
    some (.inr (.inl (due0, best0))))

def M.spec_l6Deciding (r_ : Record) (schedule : List Rule) : Option (Rule × Int) :=
  (M.spec_l4For schedule r_.Series).bind fun y0 =>
  (iterO (M.spec_l6Deciding_l0 r_ y0) ((-1 : Int), (0 : Int), (⟨(0 : Int), (0 : Int), (0 : Int), (0 : Int)⟩ : Rule))).bind fun e => match e with
  | .inl (due, best) =>
    (some (best, due))
  | .inr r => some r

def M.spec_l1Has_l0 (l : List Int) (n : Int) : (Int) → Option ((Int) ⊕ ((Unit) ⊕ (Bool))) := fun st_ => match st_ with
| i =>
  bif (decide (i < (l.length : Int))) then (
    asrt ((0 : Int) ≤ i ∧ i < (l.length : Int)) <|
    bif ((l.getD (Int.toNat i) default) == n) then (
      some (.inr (.inr true)))
    else (
      some (.inl (IntKind.i64.wrap (i + (1 : Int))))))
  else (
    some (.inr (.inl ())))

def M.spec_l1Has (l : List Int) (n : Int) : Option Bool :=
  (iterO (M.spec_l1Has_l0 l n) (0 : Int)).bind fun e => match e with
  | .inl () =>
    (some false)
  | .inr r => some r

def M.spec_l9Covers (h : Hold) (r_ : Record) (day : Int) : Option Bool :=
  ((bif ((decide (h.From ≤ day)) && ((h.Until == (-1 : Int)) || (decide (day < h.Until)))) then (bif ((h.Series.length : Int) == (0 : Int)) then some default else M.spec_l1Has h.Series r_.Series) else some default)).bind fun y0 =>
  ((bif (((decide (h.From ≤ day)) && ((h.Until == (-1 : Int)) || (decide (day < h.Until)))) && (((h.Series.length : Int) == (0 : Int)) || y0)) then M.spec_l1In r_.Made h.First h.Last else some default)).bind fun y1 =>
  some ((((decide (h.From ≤ day)) && ((h.Until == (-1 : Int)) || (decide (day < h.Until)))) && (((h.Series.length : Int) == (0 : Int)) || y0)) && y1)

def M.spec_l9Free_l1 (list : List Hold) (r_ : Record) : (Int × Int) → Option ((Int × Int) ⊕ ((Int) ⊕ (Int))) := fun st_ => match st_ with
| (day3, i) =>
  bif (decide (i < (list.length : Int))) then (
    (((
      asrt ((0 : Int) ≤ i ∧ i < (list.length : Int)) <|
      (M.spec_l9Covers (list.getD (Int.toNat i) default) r_ day3).bind fun y2 =>
      bif y2 then (
        asrt ((0 : Int) ≤ i ∧ i < (list.length : Int)) <|
        bif (((list.getD (Int.toNat i) default).Until) == (-1 : Int)) then (
          some (.inr (20001 : Int)))
        else (
          some (.inl ((list.getD (Int.toNat i) default).Until))))
      else (
        some (.inl day3))) : Option ((Int) ⊕ (Int)))).bind fun e => match e with
    | .inl day4 =>
      (some (.inl (day4, (IntKind.i64.wrap (i + (1 : Int))))))
    | .inr r => some (.inr (.inr r)))
  else (
    some (.inr (.inl day3)))

def M.spec_l9Free_l0 (list : List Hold) (r_ : Record) : (Int × Int) → Option ((Int × Int) ⊕ ((Int) ⊕ (Int))) := fun st_ => match st_ with
| (day1, n_) =>
  bif (decide (n_ ≤ (list.length : Int))) then (
    (iterO (M.spec_l9Free_l1 list r_) (day1, (0 : Int))).bind fun e => match e with
    | .inl day2 =>
      (some (.inl (day2, (IntKind.i64.wrap (n_ + (1 : Int))))))
    | .inr r => some (.inr (.inr r)))
  else (
    some (.inr (.inl day1)))

def M.spec_l9Free (list : List Hold) (r_ : Record) (day : Int) : Option Int :=
  (iterO (M.spec_l9Free_l0 list r_) (day, (0 : Int))).bind fun e => match e with
  | .inl day0 =>
    (some day0)
  | .inr r => some r

def M.spec_FirstDestruction (list : List Hold) (r_ : Record) (schedule : List Rule) : Option (Int × Bool) :=
  (M.spec_l9Asked list r_ (0 : Int)).bind fun y0 =>
  ((bif (!y0) then some default else M.spec_l4Good schedule)).bind fun y1 =>
  bif ((!y0) || (!y1)) then (
    some ((0 : Int), false))
  else (
    (M.spec_l6Deciding r_ schedule).bind fun y2 =>
    ((bif ((y2.1.Act != (3 : Int)) || (decide (y2.2 > (20000 : Int)))) then some default else M.spec_l9Free list r_ y2.2)).bind fun y3 =>
    bif (((y2.1.Act != (3 : Int)) || (decide (y2.2 > (20000 : Int)))) || (decide (y3 > (20000 : Int)))) then (
      some ((0 : Int), false))
    else (
      (M.spec_l9Free list r_ y2.2).bind fun y4 =>
      some (y4, true)))

def M.spec_l1Cur_holdDay (c : Cur) (list : List Hold) : Option (Int × Cur) :=
  ((bif ((list.length : Int) == (0 : Int)) then some default else M.spec_l1Cur_one c (3 : Int))).bind fun y0 =>
  bif (((list.length : Int) == (0 : Int)) || y0.1) then (
    (M.spec_l1Cur_day (bif ((list.length : Int) == (0 : Int)) then c else y0.2)).bind fun y1 =>
    some (y1.1, y1.2))
  else (
    (M.spec_l1Cur_pick (bif ((list.length : Int) == (0 : Int)) then c else y0.2) (list.length : Int)).bind fun y2 =>
    asrt ((0 : Int) ≤ y2.1 ∧ y2.1 < (list.length : Int)) <|
    ((bif (decide (((list.getD (Int.toNat y2.1) default).Until) > (0 : Int))) then M.spec_l1Cur_one y2.2 (2 : Int) else some default)).bind fun y3 =>
    bif ((decide (((list.getD (Int.toNat y2.1) default).Until) > (0 : Int))) && y3.1) then (
      (M.spec_l1Cur_pick (bif (decide (((list.getD (Int.toNat y2.1) default).Until) > (0 : Int))) then y3.2 else y2.2) (2 : Int)).bind fun y4 =>
      some ((IntKind.i64.wrap (((list.getD (Int.toNat y2.1) default).Until) - y4.1)), y4.2))
    else (
      (M.spec_l1Cur_pick (bif (decide (((list.getD (Int.toNat y2.1) default).Until) > (0 : Int))) then y3.2 else y2.2) (2 : Int)).bind fun y5 =>
      some ((IntKind.i64.wrap (((list.getD (Int.toNat y2.1) default).From) - y5.1)), y5.2)))

def M.impl_areSeries_l0 (list : List Int) : (Int) → Option ((Int) ⊕ ((Unit) ⊕ (Bool))) := fun st_ => match st_ with
| v =>
  bif (decide (v < (list.length : Int))) then (
    asrt ((0 : Int) ≤ v ∧ v < (list.length : Int)) <|
    (M.impl_isId (list.getD (Int.toNat v) default)).bind fun y1 =>
    asrt ((!y1) = false → (decide (v > (0 : Int))) = true → ((0 : Int) ≤ (IntKind.i64.wrap (v - (1 : Int))) ∧ (IntKind.i64.wrap (v - (1 : Int))) < (list.length : Int))) <|
    bif ((!y1) || ((decide (v > (0 : Int))) && (decide ((list.getD (Int.toNat (IntKind.i64.wrap (v - (1 : Int)))) default) ≥ (list.getD (Int.toNat v) default))))) then (
      some (.inr (.inr false)))
    else (
      some (.inl (IntKind.i64.wrap (v + (1 : Int))))))
  else (
    some (.inr (.inl ())))

def M.impl_areSeries (list : List Int) (most : Int) : Option Bool :=
  (iterO (M.impl_areSeries_l0 list) (0 : Int)).bind fun e => match e with
  | .inl () =>
    (some (decide ((list.length : Int) ≤ most)))
  | .inr r => some r

def M.impl_isHold (h : Hold) : Option Bool :=
  (M.impl_isId h.Id).bind fun y0 =>
  ((bif y0 then M.impl_isDay h.From else some default)).bind fun y1 =>
  ((bif (y0 && y1) then (bif (h.Until == (-1 : Int)) then some default else M.impl_within h.Until (IntKind.i64.wrap (h.From + (1 : Int))) (20000 : Int)) else some default)).bind fun y2 =>
  ((bif ((y0 && y1) && ((h.Until == (-1 : Int)) || y2)) then M.impl_areSeries h.Series (5 : Int) else some default)).bind fun y3 =>
  ((bif (((y0 && y1) && ((h.Until == (-1 : Int)) || y2)) && y3) then M.impl_areDays h.First h.Last else some default)).bind fun y4 =>
  some ((((y0 && y1) && ((h.Until == (-1 : Int)) || y2)) && y3) && y4)

def M.impl_AreHolds_l0 (list : List Hold) : (Int) → Option ((Int) ⊕ ((Unit) ⊕ (Bool))) := fun st_ => match st_ with
| v =>
  bif (decide (v < (list.length : Int))) then (
    asrt ((0 : Int) ≤ v ∧ v < (list.length : Int)) <|
    (M.impl_isHold (list.getD (Int.toNat v) default)).bind fun y1 =>
    asrt ((!y1) = false → (decide (v > (0 : Int))) = true → ((0 : Int) ≤ (IntKind.i64.wrap (v - (1 : Int))) ∧ (IntKind.i64.wrap (v - (1 : Int))) < (list.length : Int))) <|
    bif ((!y1) || ((decide (v > (0 : Int))) && (decide (((list.getD (Int.toNat (IntKind.i64.wrap (v - (1 : Int)))) default).Id) ≥ ((list.getD (Int.toNat v) default).Id))))) then (
      some (.inr (.inr false)))
    else (
      some (.inl (IntKind.i64.wrap (v + (1 : Int))))))
  else (
    some (.inr (.inl ())))

def M.impl_AreHolds (list : List Hold) : Option Bool :=
  (iterO (M.impl_AreHolds_l0 list) (0 : Int)).bind fun e => match e with
  | .inl () =>
    (some (decide ((list.length : Int) ≤ (8 : Int))))
  | .inr r => some r

def M.impl_IsEvent (e_ : Event) : Option Bool :=
  (M.impl_within e_.Kind (1 : Int) (9 : Int)).bind fun y0 =>
  ((bif y0 then M.impl_isDay e_.Day else some default)).bind fun y1 =>
  some (y0 && y1)

def M.impl_IsRecord_l0 (r_ : Record) : (Int) → Option ((Int) ⊕ ((Unit) ⊕ (Bool))) := fun st_ => match st_ with
| v =>
  bif (decide (v < (r_.Events.length : Int))) then (
    asrt ((0 : Int) ≤ v ∧ v < (r_.Events.length : Int)) <|
    (M.impl_IsEvent (r_.Events.getD (Int.toNat v) default)).bind fun y4 =>
    asrt (((!y4) || (decide (((r_.Events.getD (Int.toNat v) default).Day) < r_.Made))) = false → (decide (v > (0 : Int))) = true → ((0 : Int) ≤ (IntKind.i64.wrap (v - (1 : Int))) ∧ (IntKind.i64.wrap (v - (1 : Int))) < (r_.Events.length : Int))) <|
    bif (((!y4) || (decide (((r_.Events.getD (Int.toNat v) default).Day) < r_.Made))) || ((decide (v > (0 : Int))) && (decide (((r_.Events.getD (Int.toNat (IntKind.i64.wrap (v - (1 : Int)))) default).Kind) ≥ ((r_.Events.getD (Int.toNat v) default).Kind))))) then (
      some (.inr (.inr false)))
    else (
      some (.inl (IntKind.i64.wrap (v + (1 : Int))))))
  else (
    some (.inr (.inl ())))

def M.impl_IsRecord (r_ : Record) : Option Bool :=
  (M.impl_within r_.Id (1 : Int) (999 : Int)).bind fun y0 =>
  ((bif (!y0) then some default else M.impl_isId r_.Series)).bind fun y1 =>
  ((bif ((!y0) || (!y1)) then some default else M.impl_isDay r_.Made)).bind fun y2 =>
  bif ((((!y0) || (!y1)) || (!y2)) || (decide ((r_.Events.length : Int) > (6 : Int)))) then (
    some false)
  else (
    (iterO (M.impl_IsRecord_l0 r_) (0 : Int)).bind fun e => match e with
    | .inl () =>
      (some true)
    | .inr r => some r)

def M.impl_areHeld (list : List Hold) (r_ : Record) (day : Int) : Option Bool :=
  (M.impl_AreHolds list).bind fun y0 =>
  ((bif y0 then M.impl_IsRecord r_ else some default)).bind fun y1 =>
  ((bif (y0 && y1) then M.impl_isDay day else some default)).bind fun y2 =>
  some ((y0 && y1) && y2)

def M.impl_isAct (act : Int) : Option Bool :=
  (M.impl_within act (1 : Int) (3 : Int)).bind fun y0 =>
  some y0

def M.impl_IsRule (r_ : Rule) : Option Bool :=
  (M.impl_isId r_.Series).bind fun y0 =>
  ((bif y0 then M.impl_within r_.Event (0 : Int) (9 : Int) else some default)).bind fun y1 =>
  ((bif (y0 && y1) then M.impl_within r_.Days (0 : Int) (20000 : Int) else some default)).bind fun y2 =>
  ((bif ((y0 && y1) && y2) then M.impl_isAct r_.Act else some default)).bind fun y3 =>
  some (((y0 && y1) && y2) && y3)

def M.cmp_isNaN_int (x : Int) : Option Bool :=
  some (x != x)

def M.cmp_Compare_int (x : Int) (y : Int) : Option Int :=
  (M.cmp_isNaN_int x).bind fun y0 =>
  (M.cmp_isNaN_int y).bind fun y1 =>
  bif y0 then (
    bif y1 then (
      some (0 : Int))
    else (
      some (-1 : Int)))
  else (
    bif y1 then (
      some (1 : Int))
    else (
      bif (decide (x < y)) then (
        some (-1 : Int))
      else (
        bif (decide (x > y)) then (
          some (1 : Int))
        else (
          some (0 : Int)))))

def M.cmp_Or_int_l0 (vals : List Int) : (Int) → Option ((Int) ⊕ ((Unit) ⊕ (Int))) := fun st_ => match st_ with
| v =>
  bif (decide (v < (vals.length : Int))) then (
    asrt ((0 : Int) ≤ v ∧ v < (vals.length : Int)) <|
    bif ((vals.getD (Int.toNat v) default) != (0 : Int)) then (
      some (.inr (.inr (vals.getD (Int.toNat v) default))))
    else (
      some (.inl (IntKind.i64.wrap (v + (1 : Int))))))
  else (
    some (.inr (.inl ())))

def M.cmp_Or_int (vals : List Int) : Option Int :=
  (iterO (M.cmp_Or_int_l0 vals) (0 : Int)).bind fun e => match e with
  | .inl () =>
    (some (0 : Int))
  | .inr r => some r

def M.impl_compareRules (a : Rule) (b_ : Rule) : Option Int :=
  (M.cmp_Compare_int a.Series b_.Series).bind fun y0 =>
  (M.cmp_Compare_int a.Event b_.Event).bind fun y1 =>
  (M.cmp_Or_int ([y0, y1] : List Int)).bind fun y2 =>
  some y2

def M.impl_IsSchedule_l0 (list : List Rule) : (Int) → Option ((Int) ⊕ ((Unit) ⊕ (Bool))) := fun st_ => match st_ with
| v =>
  bif (decide (v < (list.length : Int))) then (
    asrt ((0 : Int) ≤ v ∧ v < (list.length : Int)) <|
    (M.impl_IsRule (list.getD (Int.toNat v) default)).bind fun y1 =>
    asrt ((!y1) = false → (decide (v > (0 : Int))) = true → ((0 : Int) ≤ (IntKind.i64.wrap (v - (1 : Int))) ∧ (IntKind.i64.wrap (v - (1 : Int))) < (list.length : Int))) <|
    ((bif (!y1) then some default else (bif (decide (v > (0 : Int))) then M.impl_compareRules (list.getD (Int.toNat (IntKind.i64.wrap (v - (1 : Int)))) default) (list.getD (Int.toNat v) default) else some default))).bind fun y2 =>
    bif ((!y1) || ((decide (v > (0 : Int))) && (decide (y2 ≥ (0 : Int))))) then (
      some (.inr (.inr false)))
    else (
      some (.inl (IntKind.i64.wrap (v + (1 : Int))))))
  else (
    some (.inr (.inl ())))

def M.impl_IsSchedule (list : List Rule) : Option Bool :=
  (iterO (M.impl_IsSchedule_l0 list) (0 : Int)).bind fun e => match e with
  | .inl () =>
    (some (decide ((list.length : Int) ≤ (8 : Int))))
  | .inr r => some r

def M.impl_rulesFor_l0 (list : List Rule) (series : Int) : (List Rule × Int) → Option ((List Rule × Int) ⊕ (List Rule)) := fun st_ => match st_ with
| (out_0, v) =>
  bif (decide (v < (list.length : Int))) then (
    (((
      asrt ((0 : Int) ≤ v ∧ v < (list.length : Int)) <|
      bif (((list.getD (Int.toNat v) default).Series) == series) then (
        asrt ((out_0.length : Int) + (([(list.getD (Int.toNat v) default)] : List Rule).length : Int) ≤ 2147483648) <|
        some (out_0 ++ ([(list.getD (Int.toNat v) default)] : List Rule)))
      else (
        some out_0)) : Option (List Rule))).bind fun e => match e with
    | out_1 =>
      (some (.inl (out_1, (IntKind.i64.wrap (v + (1 : Int)))))))
  else (
    some (.inr out_0))

def M.impl_rulesFor (list : List Rule) (series : Int) : Option (List Rule) :=
  (iterO (M.impl_rulesFor_l0 list series) (([] : List Rule), (0 : Int))).bind fun e => match e with
  | out_ =>
    (some out_)

def M.impl_eventAt_1 (e_ : Event) (kind : Int) : Option Bool :=
  some (e_.Kind == kind)

def M.slices_IndexFunc_impl_Event_impl_Event_l0 (s : List Event) (fm : Event → Option Bool) : (Int) → Option ((Int) ⊕ ((Unit) ⊕ (Int))) := fun st_ => match st_ with
| v =>
  bif (decide (v < (s.length : Int))) then (
    asrt ((0 : Int) ≤ v ∧ v < (s.length : Int)) <|
    (fm (s.getD (Int.toNat v) default)).bind fun y1 =>
    bif y1 then (
      some (.inr (.inr v)))
    else (
      some (.inl (IntKind.i64.wrap (v + (1 : Int))))))
  else (
    some (.inr (.inl ())))

def M.slices_IndexFunc_impl_Event_impl_Event (s : List Event) (fm : Event → Option Bool) : Option Int :=
  (iterO (M.slices_IndexFunc_impl_Event_impl_Event_l0 s fm) (0 : Int)).bind fun e => match e with
  | .inl () =>
    (some (-1 : Int))
  | .inr r => some r

def M.impl_eventAt (r_ : Record) (kind : Int) : Option Int :=
  (M.slices_IndexFunc_impl_Event_impl_Event r_.Events (fun x0 => M.impl_eventAt_1 x0 kind)).bind fun y0 =>
  some y0

def M.impl_dayOf (r_ : Record) (kind : Int) : Option (Int × Bool) :=
  bif (kind == (0 : Int)) then (
    some (r_.Made, true))
  else (
    (M.impl_eventAt r_ kind).bind fun y0 =>
    bif (decide (y0 < (0 : Int))) then (
      some ((0 : Int), false))
    else (
      asrt ((0 : Int) ≤ y0 ∧ y0 < (r_.Events.length : Int)) <|
      some ((r_.Events.getD (Int.toNat y0) default).Day, true)))

def M.impl_endOf (r_ : Record) (rule : Rule) : Option Int :=
  (M.impl_dayOf r_ rule.Event).bind fun y0 =>
  bif (!y0.2) then (
    some (-1 : Int))
  else (
    some (IntKind.i64.wrap (y0.1 + rule.Days)))

def M.impl_deciding_l0 (r_ : Record) (y0 : List Rule) : (Int × Int × Rule) → Option ((Int × Int × Rule) ⊕ ((Int × Rule) ⊕ (Rule × Int × Bool))) := fun st_ => match st_ with
| (due0, v, best0) =>
  bif (decide (v < (y0.length : Int))) then (
    (((
      asrt ((0 : Int) ≤ v ∧ v < (y0.length : Int)) <|
      (M.impl_endOf r_ (y0.getD (Int.toNat v) default)).bind fun y2 =>
      bif (decide (y2 < (0 : Int))) then (
        some (.inr ((⟨(0 : Int), (0 : Int), (0 : Int), (0 : Int)⟩ : Rule), (0 : Int), false)))
      else (
        bif ((decide (y2 > due0)) || ((y2 == due0) && (decide (((y0.getD (Int.toNat v) default).Act) < best0.Act)))) then (
          some (.inl (y2, (y0.getD (Int.toNat v) default))))
        else (
          some (.inl (due0, best0))))) : Option ((Int × Rule) ⊕ (Rule × Int × Bool)))).bind fun e => match e with
    | .inl (due1, best1) =>
      (some (.inl (due1, (IntKind.i64.wrap (v + (1 : Int))), best1)))
    | .inr r => some (.inr (.inr r)))
  else (
    some (.inr (.inl (due0, best0))))

def M.impl_deciding (r_ : Record) (schedule : List Rule) : Option (Rule × Int × Bool) :=
  (M.impl_rulesFor schedule r_.Series).bind fun y0 =>
  (iterO (M.impl_deciding_l0 r_ y0) ((-1 : Int), (0 : Int), (⟨(0 : Int), (0 : Int), (0 : Int), (0 : Int)⟩ : Rule))).bind fun e => match e with
  | .inl (due, best) =>
    (some (best, (bif decide (due < (0 : Int)) then (0 : Int) else due), (decide (due ≥ (0 : Int)))))
  | .inr r => some r

def M.slices_Contains_int_int (s : List Int) (v : Int) : Option Bool :=
  (M.slices_Index_int_int s v).bind fun y0 =>
  some (decide (y0 ≥ (0 : Int)))

def M.impl_Hold_covers (h : Hold) (r_ : Record) (day : Int) : Option Bool :=
  ((bif ((decide (h.From ≤ day)) && ((decide (h.Until < (0 : Int))) || (decide (day < h.Until)))) then M.impl_within r_.Made h.First h.Last else some default)).bind fun y0 =>
  ((bif (((decide (h.From ≤ day)) && ((decide (h.Until < (0 : Int))) || (decide (day < h.Until)))) && y0) then (bif ((h.Series.length : Int) == (0 : Int)) then some default else M.slices_Contains_int_int h.Series r_.Series) else some default)).bind fun y1 =>
  some ((((decide (h.From ≤ day)) && ((decide (h.Until < (0 : Int))) || (decide (day < h.Until)))) && y0) && (((h.Series.length : Int) == (0 : Int)) || y1))

def M.impl_holdsOn_l0 (list : List Hold) (r_ : Record) (day : Int) : (List Int × Int) → Option ((List Int × Int) ⊕ (List Int)) := fun st_ => match st_ with
| (ids0, v) =>
  bif (decide (v < (list.length : Int))) then (
    (((
      asrt ((0 : Int) ≤ v ∧ v < (list.length : Int)) <|
      (M.impl_Hold_covers (list.getD (Int.toNat v) default) r_ day).bind fun y1 =>
      bif y1 then (
        asrt ((ids0.length : Int) + (([(list.getD (Int.toNat v) default).Id] : List Int).length : Int) ≤ 2147483648) <|
        some (ids0 ++ ([(list.getD (Int.toNat v) default).Id] : List Int)))
      else (
        some ids0)) : Option (List Int))).bind fun e => match e with
    | ids1 =>
      (some (.inl (ids1, (IntKind.i64.wrap (v + (1 : Int)))))))
  else (
    some (.inr ids0))

def M.impl_holdsOn (list : List Hold) (r_ : Record) (day : Int) : Option (List Int) :=
  (iterO (M.impl_holdsOn_l0 list r_ day) (([] : List Int), (0 : Int))).bind fun e => match e with
  | ids =>
    (some ids)

def M.impl_MayDestroy (list : List Hold) (r_ : Record) (schedule : List Rule) (day : Int) : Option (Bool × Bool) :=
  (M.impl_areHeld list r_ day).bind fun y0 =>
  ((bif (!y0) then some default else M.impl_IsSchedule schedule)).bind fun y1 =>
  bif ((!y0) || (!y1)) then (
    some (false, false))
  else (
    (M.impl_deciding r_ schedule).bind fun y2 =>
    ((bif ((y2.2.2 && (decide (y2.2.1 ≤ day))) && (y2.1.Act == (3 : Int))) then M.impl_holdsOn list r_ day else some default)).bind fun y3 =>
    some ((((y2.2.2 && (decide (y2.2.1 ≤ day))) && (y2.1.Act == (3 : Int))) && ((y3.length : Int) == (0 : Int))), true))

def M.spec_l6Due (r_ : Record) (schedule : List Rule) (day : Int) : Option Bool :=
  (M.spec_l6Deciding r_ schedule).bind fun y0 =>
  (M.spec_l1In y0.2 (0 : Int) day).bind fun y1 =>
  some y1

def M.spec_l9On_l0 (list : List Hold) (r_ : Record) (day : Int) : (List Int × Int) → Option ((List Int × Int) ⊕ (List Int)) := fun st_ => match st_ with
| (out_0, i) =>
  bif (decide (i < (list.length : Int))) then (
    (((
      asrt ((0 : Int) ≤ i ∧ i < (list.length : Int)) <|
      (M.spec_l9Covers (list.getD (Int.toNat i) default) r_ day).bind fun y1 =>
      bif y1 then (
        asrt ((0 : Int) ≤ i ∧ i < (list.length : Int)) <|
        asrt ((out_0.length : Int) + (([(list.getD (Int.toNat i) default).Id] : List Int).length : Int) ≤ 2147483648) <|
        some (out_0 ++ ([(list.getD (Int.toNat i) default).Id] : List Int)))
      else (
        some out_0)) : Option (List Int))).bind fun e => match e with
    | out_1 =>
      (some (.inl (out_1, (IntKind.i64.wrap (i + (1 : Int)))))))
  else (
    some (.inr out_0))

def M.spec_l9On (list : List Hold) (r_ : Record) (day : Int) : Option (List Int) :=
  (iterO (M.spec_l9On_l0 list r_ day) (([] : List Int), (0 : Int))).bind fun e => match e with
  | out_ =>
    (some out_)

def M.spec_MayDestroy (list : List Hold) (r_ : Record) (schedule : List Rule) (day : Int) : Option (Bool × Bool) :=
  (M.spec_l9Asked list r_ day).bind fun y0 =>
  ((bif (!y0) then some default else M.spec_l4Good schedule)).bind fun y1 =>
  bif ((!y0) || (!y1)) then (
    some (false, false))
  else (
    (M.spec_l6Deciding r_ schedule).bind fun y2 =>
    ((bif (y2.1.Act == (3 : Int)) then M.spec_l6Due r_ schedule day else some default)).bind fun y3 =>
    ((bif ((y2.1.Act == (3 : Int)) && y3) then M.spec_l9On list r_ day else some default)).bind fun y4 =>
    some ((((y2.1.Act == (3 : Int)) && y3) && ((y4.length : Int) == (0 : Int))), true))

def M.spec_AreHolds (list : List Hold) : Option Bool :=
  (M.spec_l9Good list).bind fun y0 =>
  some y0

def M.impl_HoldsOn (list : List Hold) (r_ : Record) (day : Int) : Option (List Int × Bool) :=
  (M.impl_areHeld list r_ day).bind fun y0 =>
  bif (!y0) then (
    some (([] : List Int), false))
  else (
    (M.impl_holdsOn list r_ day).bind fun y1 =>
    some (y1, true))

def M.impl_areBoth (r_ : Record) (schedule : List Rule) : Option Bool :=
  (M.impl_IsRecord r_).bind fun y0 =>
  ((bif y0 then M.impl_IsSchedule schedule else some default)).bind fun y1 =>
  some (y0 && y1)

def M.impl_IsDue (r_ : Record) (schedule : List Rule) (day : Int) : Option (Bool × Bool) :=
  (M.impl_areBoth r_ schedule).bind fun y0 =>
  ((bif (!y0) then some default else M.impl_isDay day)).bind fun y1 =>
  bif ((!y0) || (!y1)) then (
    some (false, false))
  else (
    (M.impl_deciding r_ schedule).bind fun y2 =>
    some ((y2.2.2 && (decide (y2.2.1 ≤ day))), true))

def M.impl_freeDay_l0 (list : List Hold) (r_ : Record) : (Int) → Option ((Int) ⊕ ((Unit) ⊕ (Int × Bool))) := fun st_ => match st_ with
| day0 =>
  bif (decide (day0 ≤ (20000 : Int))) then (
    (M.impl_holdsOn list r_ day0).bind fun y1 =>
    bif ((y1.length : Int) == (0 : Int)) then (
      some (.inr (.inr (day0, true))))
    else (
      some (.inl (IntKind.i64.wrap (day0 + (1 : Int))))))
  else (
    some (.inr (.inl ())))

def M.impl_freeDay (list : List Hold) (r_ : Record) (day : Int) : Option (Int × Bool) :=
  (iterO (M.impl_freeDay_l0 list r_) day).bind fun e => match e with
  | .inl () =>
    (some ((0 : Int), false))
  | .inr r => some r

def M.impl_FirstDestruction (list : List Hold) (r_ : Record) (schedule : List Rule) : Option (Int × Bool) :=
  (M.impl_areHeld list r_ (0 : Int)).bind fun y0 =>
  ((bif (!y0) then some default else M.impl_IsSchedule schedule)).bind fun y1 =>
  bif ((!y0) || (!y1)) then (
    some ((0 : Int), false))
  else (
    (M.impl_deciding r_ schedule).bind fun y2 =>
    bif ((!y2.2.2) || (y2.1.Act != (3 : Int))) then (
      some ((0 : Int), false))
    else (
      (M.impl_freeDay list r_ y2.2.1).bind fun y3 =>
      some (y3.1, y3.2)))

def M.impl_FreeDay (list : List Hold) (r_ : Record) (day : Int) : Option (Int × Bool) :=
  (M.impl_areHeld list r_ day).bind fun y0 =>
  bif (!y0) then (
    some ((0 : Int), false))
  else (
    (M.impl_freeDay list r_ day).bind fun y1 =>
    some (y1.1, y1.2))

def M.spec_FreeDay (list : List Hold) (r_ : Record) (day : Int) : Option (Int × Bool) :=
  (M.spec_l9Asked list r_ day).bind fun y0 =>
  ((bif (!y0) then some default else M.spec_l9Free list r_ day)).bind fun y1 =>
  bif ((!y0) || (decide (y1 > (20000 : Int)))) then (
    some ((0 : Int), false))
  else (
    (M.spec_l9Free list r_ day).bind fun y2 =>
    some (y2, true))

def M.spec_HoldsOn (list : List Hold) (r_ : Record) (day : Int) : Option (List Int × Bool) :=
  (M.spec_l9Asked list r_ day).bind fun y0 =>
  bif (!y0) then (
    some (([] : List Int), false))
  else (
    (M.spec_l9On list r_ day).bind fun y1 =>
    some (y1, true))

def M.impl_ReleaseHold_1 (h : Hold) (id_c : Int) : Option Bool :=
  some (h.Id == id_c)

def M.slices_IndexFunc_impl_Hold_impl_Hold_l0 (s : List Hold) (fm : Hold → Option Bool) : (Int) → Option ((Int) ⊕ ((Unit) ⊕ (Int))) := fun st_ => match st_ with
| v =>
  bif (decide (v < (s.length : Int))) then (
    asrt ((0 : Int) ≤ v ∧ v < (s.length : Int)) <|
    (fm (s.getD (Int.toNat v) default)).bind fun y1 =>
    bif y1 then (
      some (.inr (.inr v)))
    else (
      some (.inl (IntKind.i64.wrap (v + (1 : Int))))))
  else (
    some (.inr (.inl ())))

def M.slices_IndexFunc_impl_Hold_impl_Hold (s : List Hold) (fm : Hold → Option Bool) : Option Int :=
  (iterO (M.slices_IndexFunc_impl_Hold_impl_Hold_l0 s fm) (0 : Int)).bind fun e => match e with
  | .inl () =>
    (some (-1 : Int))
  | .inr r => some r

def M.slices_Clone_impl_Hold_impl_Hold (s : List Hold) : Option (List Hold) := asrt ((s.length : Int) ≤ 2147483648) <| some s

def M.slices_Clone_int_int (s : List Int) : Option (List Int) := asrt ((s.length : Int) ≤ 2147483648) <| some s

def M.impl_copyHolds_l0 (y0 : List Hold) : (List Hold × Int) → Option ((List Hold × Int) ⊕ (List Hold)) := fun st_ => match st_ with
| (out_0, v) =>
  bif (decide (v < (y0.length : Int))) then (
    asrt ((0 : Int) ≤ v ∧ v < (out_0.length : Int)) <|
    (M.slices_Clone_int_int ((out_0.getD (Int.toNat v) default).Series)).bind fun y2 =>
    asrt ((0 : Int) ≤ v ∧ v < (out_0.length : Int)) <|
    some (.inl ((out_0.set (Int.toNat v) (⟨(out_0.getD (Int.toNat v) default).Id, (out_0.getD (Int.toNat v) default).From, (out_0.getD (Int.toNat v) default).Until, y2, (out_0.getD (Int.toNat v) default).First, (out_0.getD (Int.toNat v) default).Last⟩ : Hold)), (IntKind.i64.wrap (v + (1 : Int))))))
  else (
    some (.inr out_0))

def M.impl_copyHolds (list : List Hold) : Option (List Hold) :=
  (M.slices_Clone_impl_Hold_impl_Hold list).bind fun y0 =>
  (iterO (M.impl_copyHolds_l0 y0) (y0, (0 : Int))).bind fun e => match e with
  | out_ =>
    (some out_)

def M.impl_ReleaseHold (list : List Hold) (id_ : Int) (day : Int) : Option (List Hold × Bool) :=
  (M.slices_IndexFunc_impl_Hold_impl_Hold list (fun x0 => M.impl_ReleaseHold_1 x0 id_)).bind fun y0 =>
  (M.impl_AreHolds list).bind fun y1 =>
  asrt (((!y1) || (decide (y0 < (0 : Int)))) = false → ((0 : Int) ≤ y0 ∧ y0 < (list.length : Int))) <|
  ((bif (((!y1) || (decide (y0 < (0 : Int)))) || (decide (((list.getD (Int.toNat y0) default).Until) ≥ (0 : Int)))) then some default else M.impl_isDay day)).bind fun y2 =>
  bif ((((!y1) || (decide (y0 < (0 : Int)))) || (decide (((list.getD (Int.toNat y0) default).Until) ≥ (0 : Int)))) || (!y2)) then (
    some (([] : List Hold), false))
  else (
    (M.impl_copyHolds list).bind fun y3 =>
    asrt ((0 : Int) ≤ y0 ∧ y0 < (y3.length : Int)) <|
    (M.impl_AreHolds (y3.set (Int.toNat y0) (⟨(y3.getD (Int.toNat y0) default).Id, (y3.getD (Int.toNat y0) default).From, day, (y3.getD (Int.toNat y0) default).Series, (y3.getD (Int.toNat y0) default).First, (y3.getD (Int.toNat y0) default).Last⟩ : Hold))).bind fun y4 =>
    bif (!y4) then (
      some (([] : List Hold), false))
    else (
      some ((y3.set (Int.toNat y0) (⟨(y3.getD (Int.toNat y0) default).Id, (y3.getD (Int.toNat y0) default).From, day, (y3.getD (Int.toNat y0) default).Series, (y3.getD (Int.toNat y0) default).First, (y3.getD (Int.toNat y0) default).Last⟩ : Hold)), true)))

def M.spec_l1Own (l : List Int) : Option (List Int) :=
  asrt ((([] : List Int).length : Int) + (l.length : Int) ≤ 2147483648) <|
  some (([] : List Int) ++ l)

def M.spec_l9Own_l0 (list : List Hold) : (List Hold × Int) → Option ((List Hold × Int) ⊕ (List Hold)) := fun st_ => match st_ with
| (out_0, i) =>
  bif (decide (i < (list.length : Int))) then (
    asrt ((0 : Int) ≤ i ∧ i < (list.length : Int)) <|
    (M.spec_l1Own ((list.getD (Int.toNat i) default).Series)).bind fun y1 =>
    asrt ((out_0.length : Int) + (([(⟨(list.getD (Int.toNat i) default).Id, (list.getD (Int.toNat i) default).From, (list.getD (Int.toNat i) default).Until, y1, (list.getD (Int.toNat i) default).First, (list.getD (Int.toNat i) default).Last⟩ : Hold)] : List Hold).length : Int) ≤ 2147483648) <|
    some (.inl ((out_0 ++ ([(⟨(list.getD (Int.toNat i) default).Id, (list.getD (Int.toNat i) default).From, (list.getD (Int.toNat i) default).Until, y1, (list.getD (Int.toNat i) default).First, (list.getD (Int.toNat i) default).Last⟩ : Hold)] : List Hold)), (IntKind.i64.wrap (i + (1 : Int))))))
  else (
    some (.inr out_0))

def M.spec_l9Own (list : List Hold) : Option (List Hold) :=
  (iterO (M.spec_l9Own_l0 list) (([] : List Hold), (0 : Int))).bind fun e => match e with
  | out_ =>
    (some out_)

def M.laws_vHolds_l0 (a : List Hold) (b_ : List Hold) : (Int) → Option ((Int) ⊕ ((Unit) ⊕ (Bool))) := fun st_ => match st_ with
| i =>
  bif (decide (i < (a.length : Int))) then (
    asrt ((0 : Int) ≤ i ∧ i < (a.length : Int)) <|
    asrt ((0 : Int) ≤ i ∧ i < (b_.length : Int)) <|
    asrt ((((a.getD (Int.toNat i) default).Id) != ((b_.getD (Int.toNat i) default).Id)) = false → ((0 : Int) ≤ i ∧ i < (a.length : Int))) <|
    asrt ((((a.getD (Int.toNat i) default).Id) != ((b_.getD (Int.toNat i) default).Id)) = false → ((0 : Int) ≤ i ∧ i < (b_.length : Int))) <|
    asrt (((((a.getD (Int.toNat i) default).Id) != ((b_.getD (Int.toNat i) default).Id)) || (((a.getD (Int.toNat i) default).From) != ((b_.getD (Int.toNat i) default).From))) = false → ((0 : Int) ≤ i ∧ i < (a.length : Int))) <|
    asrt (((((a.getD (Int.toNat i) default).Id) != ((b_.getD (Int.toNat i) default).Id)) || (((a.getD (Int.toNat i) default).From) != ((b_.getD (Int.toNat i) default).From))) = false → ((0 : Int) ≤ i ∧ i < (b_.length : Int))) <|
    asrt ((((((a.getD (Int.toNat i) default).Id) != ((b_.getD (Int.toNat i) default).Id)) || (((a.getD (Int.toNat i) default).From) != ((b_.getD (Int.toNat i) default).From))) || (((a.getD (Int.toNat i) default).Until) != ((b_.getD (Int.toNat i) default).Until))) = false → ((0 : Int) ≤ i ∧ i < (a.length : Int))) <|
    asrt ((((((a.getD (Int.toNat i) default).Id) != ((b_.getD (Int.toNat i) default).Id)) || (((a.getD (Int.toNat i) default).From) != ((b_.getD (Int.toNat i) default).From))) || (((a.getD (Int.toNat i) default).Until) != ((b_.getD (Int.toNat i) default).Until))) = false → ((0 : Int) ≤ i ∧ i < (b_.length : Int))) <|
    ((bif (((((a.getD (Int.toNat i) default).Id) != ((b_.getD (Int.toNat i) default).Id)) || (((a.getD (Int.toNat i) default).From) != ((b_.getD (Int.toNat i) default).From))) || (((a.getD (Int.toNat i) default).Until) != ((b_.getD (Int.toNat i) default).Until))) then some default else M.laws_vInts ((a.getD (Int.toNat i) default).Series) ((b_.getD (Int.toNat i) default).Series))).bind fun y1 =>
    asrt (((((((a.getD (Int.toNat i) default).Id) != ((b_.getD (Int.toNat i) default).Id)) || (((a.getD (Int.toNat i) default).From) != ((b_.getD (Int.toNat i) default).From))) || (((a.getD (Int.toNat i) default).Until) != ((b_.getD (Int.toNat i) default).Until))) || (!y1)) = false → ((0 : Int) ≤ i ∧ i < (a.length : Int))) <|
    asrt (((((((a.getD (Int.toNat i) default).Id) != ((b_.getD (Int.toNat i) default).Id)) || (((a.getD (Int.toNat i) default).From) != ((b_.getD (Int.toNat i) default).From))) || (((a.getD (Int.toNat i) default).Until) != ((b_.getD (Int.toNat i) default).Until))) || (!y1)) = false → ((0 : Int) ≤ i ∧ i < (b_.length : Int))) <|
    asrt ((((((((a.getD (Int.toNat i) default).Id) != ((b_.getD (Int.toNat i) default).Id)) || (((a.getD (Int.toNat i) default).From) != ((b_.getD (Int.toNat i) default).From))) || (((a.getD (Int.toNat i) default).Until) != ((b_.getD (Int.toNat i) default).Until))) || (!y1)) || (((a.getD (Int.toNat i) default).First) != ((b_.getD (Int.toNat i) default).First))) = false → ((0 : Int) ≤ i ∧ i < (a.length : Int))) <|
    asrt ((((((((a.getD (Int.toNat i) default).Id) != ((b_.getD (Int.toNat i) default).Id)) || (((a.getD (Int.toNat i) default).From) != ((b_.getD (Int.toNat i) default).From))) || (((a.getD (Int.toNat i) default).Until) != ((b_.getD (Int.toNat i) default).Until))) || (!y1)) || (((a.getD (Int.toNat i) default).First) != ((b_.getD (Int.toNat i) default).First))) = false → ((0 : Int) ≤ i ∧ i < (b_.length : Int))) <|
    bif ((((((((a.getD (Int.toNat i) default).Id) != ((b_.getD (Int.toNat i) default).Id)) || (((a.getD (Int.toNat i) default).From) != ((b_.getD (Int.toNat i) default).From))) || (((a.getD (Int.toNat i) default).Until) != ((b_.getD (Int.toNat i) default).Until))) || (!y1)) || (((a.getD (Int.toNat i) default).First) != ((b_.getD (Int.toNat i) default).First))) || (((a.getD (Int.toNat i) default).Last) != ((b_.getD (Int.toNat i) default).Last))) then (
      some (.inr (.inr false)))
    else (
      some (.inl (IntKind.i64.wrap (i + (1 : Int))))))
  else (
    some (.inr (.inl ())))

def M.laws_vHolds (a : List Hold) (b_ : List Hold) : Option Bool :=
  bif ((a.length : Int) != (b_.length : Int)) then (
    some false)
  else (
    (iterO (M.laws_vHolds_l0 a b_) (0 : Int)).bind fun e => match e with
    | .inl () =>
      (some true)
    | .inr r => some r)

def M.spec_DrawIsRecord (code : List Int) : Option Record :=
  (M.spec_l1Cur_among (⟨code, (0 : Int), (0 : Int)⟩ : Cur) ([(1 : Int), (12 : Int), (999 : Int), (0 : Int), (1000 : Int)] : List Int)).bind fun y0 =>
  (M.spec_l1Cur_record y0.2 y0.1).bind fun y1 =>
  some y1.1

def M.laws_vHas_l0 (l : List Int) (x : Int) : (Int) → Option ((Int) ⊕ ((Unit) ⊕ (Bool))) := fun st_ => match st_ with
| i =>
  bif (decide (i < (l.length : Int))) then (
    asrt ((0 : Int) ≤ i ∧ i < (l.length : Int)) <|
    bif ((l.getD (Int.toNat i) default) == x) then (
      some (.inr (.inr true)))
    else (
      some (.inl (IntKind.i64.wrap (i + (1 : Int))))))
  else (
    some (.inr (.inl ())))

def M.laws_vHas (l : List Int) (x : Int) : Option Bool :=
  (iterO (M.laws_vHas_l0 l x) (0 : Int)).bind fun e => match e with
  | .inl () =>
    (some false)
  | .inr r => some r

def M.laws_vWithin_l0 (a : List Int) (b_ : List Int) : (Int) → Option ((Int) ⊕ ((Unit) ⊕ (Bool))) := fun st_ => match st_ with
| i =>
  bif (decide (i < (a.length : Int))) then (
    asrt ((0 : Int) ≤ i ∧ i < (a.length : Int)) <|
    (M.laws_vHas b_ (a.getD (Int.toNat i) default)).bind fun y1 =>
    bif (!y1) then (
      some (.inr (.inr false)))
    else (
      some (.inl (IntKind.i64.wrap (i + (1 : Int))))))
  else (
    some (.inr (.inl ())))

def M.laws_vWithin (a : List Int) (b_ : List Int) : Option Bool :=
  (iterO (M.laws_vWithin_l0 a b_) (0 : Int)).bind fun e => match e with
  | .inl () =>
    (some true)
  | .inr r => some r

def M.impl_MostHolds_l0 (list : List Hold) (r_ : Record) : (Int × Int × Int) → Option ((Int × Int × Int) ⊕ (Int × Int)) := fun st_ => match st_ with
| (most0, first0, v) =>
  bif (decide (v < (20001 : Int))) then (
    (((
      (M.impl_holdsOn list r_ v).bind fun y2 =>
      bif (decide ((y2.length : Int) > most0)) then (
        some ((y2.length : Int), v))
      else (
        some (most0, first0))) : Option (Int × Int))).bind fun e => match e with
    | (most1, first1) =>
      (some (.inl (most1, first1, (IntKind.i64.wrap (v + (1 : Int)))))))
  else (
    some (.inr (most0, first0)))

def M.impl_MostHolds (list : List Hold) (r_ : Record) : Option (Int × Int × Bool) :=
  (M.impl_areHeld list r_ (0 : Int)).bind fun y0 =>
  bif (!y0) then (
    some ((0 : Int), (0 : Int), false))
  else (
    (iterO (M.impl_MostHolds_l0 list r_) ((0 : Int), (0 : Int), (0 : Int))).bind fun e => match e with
    | (most, first) =>
      (some (most, first, (decide (most > (0 : Int))))))

def M.spec_MostHolds_l0 (list : List Hold) (r_ : Record) : (Int × Int × Int) → Option ((Int × Int × Int) ⊕ (Int × Int)) := fun st_ => match st_ with
| (most0, first0, i) =>
  bif (decide (i < (list.length : Int))) then (
    (((
      asrt ((0 : Int) ≤ i ∧ i < (list.length : Int)) <|
      (M.spec_l9On list r_ ((list.getD (Int.toNat i) default).From)).bind fun y2 =>
      bif ((decide ((y2.length : Int) > most0)) || ((((y2.length : Int) == most0) && (decide ((y2.length : Int) > (0 : Int)))) && (decide (((list.getD (Int.toNat i) default).From) < first0)))) then (
        some ((y2.length : Int), (list.getD (Int.toNat i) default).From))
      else (
        some (most0, first0))) : Option (Int × Int))).bind fun e => match e with
    | (most1, first1) =>
      (some (.inl (most1, first1, (IntKind.i64.wrap (i + (1 : Int)))))))
  else (
    some (.inr (most0, first0)))

def M.spec_MostHolds (list : List Hold) (r_ : Record) : Option (Int × Int × Bool) :=
  (M.spec_l9Asked list r_ (0 : Int)).bind fun y0 =>
  bif (!y0) then (
    some ((0 : Int), (0 : Int), false))
  else (
    (iterO (M.spec_MostHolds_l0 list r_) ((0 : Int), (0 : Int), (0 : Int))).bind fun e => match e with
    | (most, first) =>
      (some (most, first, (decide (most > (0 : Int))))))

def M.impl_HeldDays_l0 (list : List Hold) (r_ : Record) : (Int × Int) → Option ((Int × Int) ⊕ (Int)) := fun st_ => match st_ with
| (count0, v) =>
  bif (decide (v < (20001 : Int))) then (
    (((
      (M.impl_holdsOn list r_ v).bind fun y2 =>
      bif (decide ((y2.length : Int) > (0 : Int))) then (
        some (IntKind.i64.wrap (count0 + (1 : Int))))
      else (
        some count0)) : Option Int)).bind fun e => match e with
    | count1 =>
      (some (.inl (count1, (IntKind.i64.wrap (v + (1 : Int)))))))
  else (
    some (.inr count0))

def M.impl_HeldDays (list : List Hold) (r_ : Record) : Option (Int × Bool) :=
  (M.impl_areHeld list r_ (0 : Int)).bind fun y0 =>
  bif (!y0) then (
    some ((0 : Int), false))
  else (
    (iterO (M.impl_HeldDays_l0 list r_) ((0 : Int), (0 : Int))).bind fun e => match e with
    | count =>
      (some (count, true)))

def M.spec_l1Least (a : Int) (b_ : Int) : Option Int :=
  bif (decide (a < b_)) then (
    some a)
  else (
    some b_)

def M.spec_HeldDays_l1 (list : List Hold) (r_ : Record) (y2 : Int) : (Int × Int) → Option ((Int × Int) ⊕ (Int)) := fun st_ => match st_ with
| (next0, i) =>
  bif (decide (i < (list.length : Int))) then (
    (((
      asrt ((0 : Int) ≤ i ∧ i < (list.length : Int)) <|
      asrt ((decide (((list.getD (Int.toNat i) default).From) > y2)) = true → ((0 : Int) ≤ i ∧ i < (list.length : Int))) <|
      asrt ((decide (((list.getD (Int.toNat i) default).From) > y2)) = true → ((0 : Int) ≤ i ∧ i < (list.length : Int))) <|
      ((bif (decide (((list.getD (Int.toNat i) default).From) > y2)) then M.spec_l9Covers (list.getD (Int.toNat i) default) r_ ((list.getD (Int.toNat i) default).From) else some default)).bind fun y4 =>
      bif ((decide (((list.getD (Int.toNat i) default).From) > y2)) && y4) then (
        asrt ((0 : Int) ≤ i ∧ i < (list.length : Int)) <|
        (M.spec_l1Least next0 ((list.getD (Int.toNat i) default).From)).bind fun y5 =>
        some y5)
      else (
        some next0)) : Option Int)).bind fun e => match e with
    | next1 =>
      (some (.inl (next1, (IntKind.i64.wrap (i + (1 : Int)))))))
  else (
    some (.inr next0))

def M.spec_HeldDays_l0 (list : List Hold) (r_ : Record) : (Int × Int) → Option ((Int × Int) ⊕ (Int)) := fun st_ => match st_ with
| (n_0, day) =>
  bif (decide (day ≤ (20000 : Int))) then (
    (M.spec_l9Free list r_ day).bind fun y2 =>
    (iterO (M.spec_HeldDays_l1 list r_ y2) ((20001 : Int), (0 : Int))).bind fun e => match e with
    | next =>
      (some (.inl ((IntKind.i64.wrap ((IntKind.i64.wrap (n_0 + y2)) - day)), next))))
  else (
    some (.inr n_0))

def M.spec_HeldDays (list : List Hold) (r_ : Record) : Option (Int × Bool) :=
  (M.spec_l9Asked list r_ (0 : Int)).bind fun y0 =>
  bif (!y0) then (
    some ((0 : Int), false))
  else (
    (iterO (M.spec_HeldDays_l0 list r_) ((0 : Int), (0 : Int))).bind fun e => match e with
    | n_ =>
      (some (n_, true)))

def M.spec_l1Cur_held_l0 : (List Record × Int × Cur) → Option ((List Record × Int × Cur) ⊕ (List Record × Cur)) := fun st_ => match st_ with
| (list0, n_, c_0) =>
  bif (decide (n_ < (8 : Int))) then (
    (((
      (M.spec_l1Cur_one c_0 (2 : Int)).bind fun y1 =>
      bif y1.1 then (
        (M.spec_l1Cur_record y1.2 (IntKind.i64.wrap ((11 : Int) * n_))).bind fun y2 =>
        asrt ((list0.length : Int) + (([y2.1] : List Record).length : Int) ≤ 2147483648) <|
        some ((list0 ++ ([y2.1] : List Record)), y2.2))
      else (
        some (list0, y1.2))) : Option (List Record × Cur))).bind fun e => match e with
    | (list1, c_1) =>
      (some (.inl (list1, (IntKind.i64.wrap (n_ + (1 : Int))), c_1))))
  else (
    some (.inr (list0, c_0)))

def M.spec_l1Cur_held_l1 : (List Record × Cur) → Option ((List Record × Cur) ⊕ (List Record × Cur)) := fun st_ => match st_ with
| (list4, c_4) =>
  (M.spec_l1Cur_pick c_4 (2 : Int)).bind fun y7 =>
  bif (decide ((list4.length : Int) < (IntKind.i64.wrap ((10 : Int) + y7.1)))) then (
    asrt ((list4.length : Int) + (([(⟨(IntKind.i64.wrap ((200 : Int) + (list4.length : Int))), (1 : Int), (0 : Int), ([] : List Event)⟩ : Record)] : List Record).length : Int) ≤ 2147483648) <|
    some (.inl ((list4 ++ ([(⟨(IntKind.i64.wrap ((200 : Int) + (list4.length : Int))), (1 : Int), (0 : Int), ([] : List Event)⟩ : Record)] : List Record)), y7.2)))
  else (
    some (.inr (list4, y7.2)))

def M.spec_l1Cur_held (c : Cur) : Option (List Record × Cur) :=
  (iterO (M.spec_l1Cur_held_l0) (([] : List Record), (1 : Int), c)).bind fun e => match e with
  | (list, c_) =>
    ((M.spec_l1Cur_pick c_ (32 : Int)).bind fun y3 =>
    (((
      bif (y3.1 == (0 : Int)) then (
        (M.spec_l1Cur_among y3.2 ([(0 : Int), (11 : Int), (999 : Int), (1000 : Int)] : List Int)).bind fun y4 =>
        (M.spec_l1Cur_record y4.2 y4.1).bind fun y5 =>
        asrt ((list.length : Int) + (([y5.1] : List Record).length : Int) ≤ 2147483648) <|
        some ((list ++ ([y5.1] : List Record)), y5.2))
      else (
        bif (y3.1 == (1 : Int)) then (
          (iterO (M.spec_l1Cur_held_l1) (list, y3.2)).bind fun e => match e with
          | (list3, c_3) =>
            (some (list3, c_3)))
        else (
          some (list, y3.2)))) : Option (List Record × Cur))).bind fun e => match e with
    | (list2, c_2) =>
      (some (list2, c_2)))

def M.impl_AreRecords_l0 (list : List Record) : (Int) → Option ((Int) ⊕ ((Unit) ⊕ (Bool))) := fun st_ => match st_ with
| v =>
  bif (decide (v < (list.length : Int))) then (
    asrt ((0 : Int) ≤ v ∧ v < (list.length : Int)) <|
    (M.impl_IsRecord (list.getD (Int.toNat v) default)).bind fun y1 =>
    asrt ((!y1) = false → (decide (v > (0 : Int))) = true → ((0 : Int) ≤ (IntKind.i64.wrap (v - (1 : Int))) ∧ (IntKind.i64.wrap (v - (1 : Int))) < (list.length : Int))) <|
    bif ((!y1) || ((decide (v > (0 : Int))) && (decide (((list.getD (Int.toNat (IntKind.i64.wrap (v - (1 : Int)))) default).Id) ≥ ((list.getD (Int.toNat v) default).Id))))) then (
      some (.inr (.inr false)))
    else (
      some (.inl (IntKind.i64.wrap (v + (1 : Int))))))
  else (
    some (.inr (.inl ())))

def M.impl_AreRecords (list : List Record) : Option Bool :=
  (iterO (M.impl_AreRecords_l0 list) (0 : Int)).bind fun e => match e with
  | .inl () =>
    (some (decide ((list.length : Int) ≤ (10 : Int))))
  | .inr r => some r

def M.impl_HeldOn_l0 (list : List Hold) (records : List Record) (day : Int) : (List Int × Int) → Option ((List Int × Int) ⊕ (List Int)) := fun st_ => match st_ with
| (ids0, v) =>
  bif (decide (v < (records.length : Int))) then (
    (((
      asrt ((0 : Int) ≤ v ∧ v < (records.length : Int)) <|
      (M.impl_holdsOn list (records.getD (Int.toNat v) default) day).bind fun y4 =>
      bif (decide ((y4.length : Int) > (0 : Int))) then (
        asrt ((ids0.length : Int) + (([(records.getD (Int.toNat v) default).Id] : List Int).length : Int) ≤ 2147483648) <|
        some (ids0 ++ ([(records.getD (Int.toNat v) default).Id] : List Int)))
      else (
        some ids0)) : Option (List Int))).bind fun e => match e with
    | ids1 =>
      (some (.inl (ids1, (IntKind.i64.wrap (v + (1 : Int)))))))
  else (
    some (.inr ids0))

def M.impl_HeldOn (list : List Hold) (records : List Record) (day : Int) : Option (List Int × Bool) :=
  (M.impl_AreHolds list).bind fun y0 =>
  ((bif (!y0) then some default else M.impl_AreRecords records)).bind fun y1 =>
  ((bif ((!y0) || (!y1)) then some default else M.impl_isDay day)).bind fun y2 =>
  bif (((!y0) || (!y1)) || (!y2)) then (
    some (([] : List Int), false))
  else (
    (iterO (M.impl_HeldOn_l0 list records day) (([] : List Int), (0 : Int))).bind fun e => match e with
    | ids =>
      (some (ids, true)))

def M.spec_l2Records_l0 (list : List Record) : (Int) → Option ((Int) ⊕ ((Unit) ⊕ (Bool))) := fun st_ => match st_ with
| i =>
  bif (decide (i < (list.length : Int))) then (
    asrt ((0 : Int) ≤ i ∧ i < (list.length : Int)) <|
    (M.spec_l2Record (list.getD (Int.toNat i) default)).bind fun y1 =>
    asrt ((!y1) = false → (decide (i > (0 : Int))) = true → ((0 : Int) ≤ (IntKind.i64.wrap (i - (1 : Int))) ∧ (IntKind.i64.wrap (i - (1 : Int))) < (list.length : Int))) <|
    asrt ((!y1) = false → (decide (i > (0 : Int))) = true → ((0 : Int) ≤ i ∧ i < (list.length : Int))) <|
    bif ((!y1) || ((decide (i > (0 : Int))) && (decide (((list.getD (Int.toNat (IntKind.i64.wrap (i - (1 : Int)))) default).Id) ≥ ((list.getD (Int.toNat i) default).Id))))) then (
      some (.inr (.inr false)))
    else (
      some (.inl (IntKind.i64.wrap (i + (1 : Int))))))
  else (
    some (.inr (.inl ())))

def M.spec_l2Records (list : List Record) : Option Bool :=
  (iterO (M.spec_l2Records_l0 list) (0 : Int)).bind fun e => match e with
  | .inl () =>
    (some (decide ((list.length : Int) ≤ (10 : Int))))
  | .inr r => some r

def M.spec_HeldOn_l0 (list : List Hold) (records : List Record) (day : Int) : (List Int × Int) → Option ((List Int × Int) ⊕ (List Int)) := fun st_ => match st_ with
| (out_0, i) =>
  bif (decide (i < (records.length : Int))) then (
    (((
      asrt ((0 : Int) ≤ i ∧ i < (records.length : Int)) <|
      (M.spec_l9On list (records.getD (Int.toNat i) default) day).bind fun y4 =>
      bif (decide ((y4.length : Int) > (0 : Int))) then (
        asrt ((0 : Int) ≤ i ∧ i < (records.length : Int)) <|
        asrt ((out_0.length : Int) + (([(records.getD (Int.toNat i) default).Id] : List Int).length : Int) ≤ 2147483648) <|
        some (out_0 ++ ([(records.getD (Int.toNat i) default).Id] : List Int)))
      else (
        some out_0)) : Option (List Int))).bind fun e => match e with
    | out_1 =>
      (some (.inl (out_1, (IntKind.i64.wrap (i + (1 : Int)))))))
  else (
    some (.inr out_0))

def M.spec_HeldOn (list : List Hold) (records : List Record) (day : Int) : Option (List Int × Bool) :=
  (M.spec_l9Good list).bind fun y0 =>
  ((bif (!y0) then some default else M.spec_l2Records records)).bind fun y1 =>
  ((bif ((!y0) || (!y1)) then some default else M.spec_l2Day day)).bind fun y2 =>
  bif (((!y0) || (!y1)) || (!y2)) then (
    some (([] : List Int), false))
  else (
    (iterO (M.spec_HeldOn_l0 list records day) (([] : List Int), (0 : Int))).bind fun e => match e with
    | out_ =>
      (some (out_, true)))

def M.slices_Equal_int_int_l0 (s1 : List Int) (s2 : List Int) : (Int) → Option ((Int) ⊕ ((Unit) ⊕ (Bool))) := fun st_ => match st_ with
| v =>
  bif (decide (v < (s1.length : Int))) then (
    asrt ((0 : Int) ≤ v ∧ v < (s1.length : Int)) <|
    asrt ((0 : Int) ≤ v ∧ v < (s2.length : Int)) <|
    bif ((s1.getD (Int.toNat v) default) != (s2.getD (Int.toNat v) default)) then (
      some (.inr (.inr false)))
    else (
      some (.inl (IntKind.i64.wrap (v + (1 : Int))))))
  else (
    some (.inr (.inl ())))

def M.slices_Equal_int_int (s1 : List Int) (s2 : List Int) : Option Bool :=
  bif ((s1.length : Int) != (s2.length : Int)) then (
    some false)
  else (
    (iterO (M.slices_Equal_int_int_l0 s1 s2) (0 : Int)).bind fun e => match e with
    | .inl () =>
      (some true)
    | .inr r => some r)

def M.slices_IndexFunc_impl_Record_impl_Record_l0 (s : List Record) (fm : Record → Option Bool) : (Int) → Option ((Int) ⊕ ((Unit) ⊕ (Int))) := fun st_ => match st_ with
| v =>
  bif (decide (v < (s.length : Int))) then (
    asrt ((0 : Int) ≤ v ∧ v < (s.length : Int)) <|
    (fm (s.getD (Int.toNat v) default)).bind fun y1 =>
    bif y1 then (
      some (.inr (.inr v)))
    else (
      some (.inl (IntKind.i64.wrap (v + (1 : Int))))))
  else (
    some (.inr (.inl ())))

def M.slices_IndexFunc_impl_Record_impl_Record (s : List Record) (fm : Record → Option Bool) : Option Int :=
  (iterO (M.slices_IndexFunc_impl_Record_impl_Record_l0 s fm) (0 : Int)).bind fun e => match e with
  | .inl () =>
    (some (-1 : Int))
  | .inr r => some r

def M.slices_ContainsFunc_impl_Record_impl_Record (s : List Record) (fm : Record → Option Bool) : Option Bool :=
  (M.slices_IndexFunc_impl_Record_impl_Record s fm).bind fun y0 =>
  some (decide (y0 ≥ (0 : Int)))

def M.spec_l1Put_l0 (l : List Int) (n : Int) : (Int) → Option ((Int) ⊕ (Int)) := fun st_ => match st_ with
| k0 =>
  asrt ((decide (k0 < (l.length : Int))) = true → ((0 : Int) ≤ k0 ∧ k0 < (l.length : Int))) <|
  bif ((decide (k0 < (l.length : Int))) && (decide ((l.getD (Int.toNat k0) default) < n))) then (
    some (.inl (IntKind.i64.wrap (k0 + (1 : Int)))))
  else (
    some (.inr k0))

def M.spec_l1Put (l : List Int) (n : Int) : Option (List Int) :=
  (iterO (M.spec_l1Put_l0 l n) (0 : Int)).bind fun e => match e with
  | k =>
    (asrt ((decide (k < (l.length : Int))) = true → ((0 : Int) ≤ k ∧ k < (l.length : Int))) <|
    bif ((decide (k < (l.length : Int))) && ((l.getD (Int.toNat k) default) == n)) then (
      some l)
    else (
      asrt ((0 : Int) ≤ (0 : Int) ∧ (0 : Int) ≤ k ∧ k ≤ (l.length : Int)) <|
      asrt ((([] : List Int).length : Int) + ((slc l (0 : Int) k).length : Int) ≤ 2147483648) <|
      asrt (((([] : List Int) ++ (slc l (0 : Int) k)).length : Int) + (([n] : List Int).length : Int) ≤ 2147483648) <|
      asrt ((0 : Int) ≤ k ∧ k ≤ (l.length : Int) ∧ (l.length : Int) ≤ (l.length : Int)) <|
      asrt ((((([] : List Int) ++ (slc l (0 : Int) k)) ++ ([n] : List Int)).length : Int) + ((slc l k (l.length : Int)).length : Int) ≤ 2147483648) <|
      (((
        some (((([] : List Int) ++ (slc l (0 : Int) k)) ++ ([n] : List Int)) ++ (slc l k (l.length : Int)))) : Option (List Int))).bind fun e => match e with
      | v =>
        (some v)))

def M.spec_NeededHolds_l0 (list : List Hold) (records : List Record) (day : Int) : (List Int × Int) → Option ((List Int × Int) ⊕ (List Int)) := fun st_ => match st_ with
| (out_0, i) =>
  bif (decide (i < (records.length : Int))) then (
    (((
      asrt ((0 : Int) ≤ i ∧ i < (records.length : Int)) <|
      (M.spec_l9On list (records.getD (Int.toNat i) default) day).bind fun y4 =>
      asrt (((y4.length : Int) == (1 : Int)) = true → ((0 : Int) ≤ (0 : Int) ∧ (0 : Int) < (y4.length : Int))) <|
      ((bif ((y4.length : Int) == (1 : Int)) then M.spec_l1Has out_0 (y4.getD (Int.toNat (0 : Int)) default) else some default)).bind fun y5 =>
      bif (((y4.length : Int) == (1 : Int)) && (!y5)) then (
        asrt ((0 : Int) ≤ (0 : Int) ∧ (0 : Int) < (y4.length : Int)) <|
        (M.spec_l1Put out_0 (y4.getD (Int.toNat (0 : Int)) default)).bind fun y6 =>
        some y6)
      else (
        some out_0)) : Option (List Int))).bind fun e => match e with
    | out_1 =>
      (some (.inl (out_1, (IntKind.i64.wrap (i + (1 : Int)))))))
  else (
    some (.inr out_0))

def M.spec_NeededHolds (list : List Hold) (records : List Record) (day : Int) : Option (List Int × Bool) :=
  (M.spec_l9Good list).bind fun y0 =>
  ((bif (!y0) then some default else M.spec_l2Records records)).bind fun y1 =>
  ((bif ((!y0) || (!y1)) then some default else M.spec_l2Day day)).bind fun y2 =>
  bif (((!y0) || (!y1)) || (!y2)) then (
    some (([] : List Int), false))
  else (
    (iterO (M.spec_NeededHolds_l0 list records day) (([] : List Int), (0 : Int))).bind fun e => match e with
    | out_ =>
      (some (out_, true)))

def M.spec_l1Cur_event (c : Cur) (from_ : Int) : Option (Event × Cur) :=
  (M.spec_l1Cur_pick c (5 : Int)).bind fun y0 =>
  (M.spec_l1Cur_among y0.2 ([(0 : Int), (1 : Int), (30 : Int), (365 : Int), (400 : Int), (1000 : Int)] : List Int)).bind fun y1 =>
  (M.spec_l1Cur_pick y1.2 (48 : Int)).bind fun y2 =>
  (((
    bif (y2.1 == (0 : Int)) then (
      (M.spec_l1Cur_among y2.2 ([(0 : Int), (9 : Int), (10 : Int)] : List Int)).bind fun y3 =>
      some (y3.2, (⟨y3.1, (IntKind.i64.wrap (from_ + y1.1))⟩ : Event)))
    else (
      bif (y2.1 == (1 : Int)) then (
        (M.spec_l1Cur_among y2.2 ([(-1 : Int), (0 : Int), (20001 : Int)] : List Int)).bind fun y4 =>
        some (y4.2, (⟨(IntKind.i64.wrap ((1 : Int) + y0.1)), y4.1⟩ : Event)))
      else (
        some (y2.2, (⟨(IntKind.i64.wrap ((1 : Int) + y0.1)), (IntKind.i64.wrap (from_ + y1.1))⟩ : Event))))) : Option (Cur × Event))).bind fun e => match e with
  | (c_, e_) =>
    (some (e_, c_))

def M.spec_DrawAddEvent (code : List Int) : Option (Record × Event) :=
  (M.spec_l1Cur_record (⟨code, (0 : Int), (0 : Int)⟩ : Cur) (12 : Int)).bind fun y0 =>
  (M.spec_l1Cur_among y0.2 ([(0 : Int), (0 : Int), (5 : Int), (-1 : Int)] : List Int)).bind fun y1 =>
  (M.spec_l1Cur_event y1.2 (IntKind.i64.wrap (y0.1.Made + y1.1))).bind fun y2 =>
  some (y0.1, y2.1)

def M.slices_Clone_impl_Event_impl_Event (s : List Event) : Option (List Event) := asrt ((s.length : Int) ≤ 2147483648) <| some s

def M.laws_vEvents_l0 (a : List Event) (b_ : List Event) : (Int) → Option ((Int) ⊕ ((Unit) ⊕ (Bool))) := fun st_ => match st_ with
| i =>
  bif (decide (i < (a.length : Int))) then (
    asrt ((0 : Int) ≤ i ∧ i < (a.length : Int)) <|
    asrt ((0 : Int) ≤ i ∧ i < (b_.length : Int)) <|
    bif (!((((a.getD (Int.toNat i) default).Kind) == ((b_.getD (Int.toNat i) default).Kind)) && ((((a.getD (Int.toNat i) default).Day) == ((b_.getD (Int.toNat i) default).Day)) && true))) then (
      some (.inr (.inr false)))
    else (
      some (.inl (IntKind.i64.wrap (i + (1 : Int))))))
  else (
    some (.inr (.inl ())))

def M.laws_vEvents (a : List Event) (b_ : List Event) : Option Bool :=
  bif ((a.length : Int) != (b_.length : Int)) then (
    some false)
  else (
    (iterO (M.laws_vEvents_l0 a b_) (0 : Int)).bind fun e => match e with
    | .inl () =>
      (some true)
    | .inr r => some r)

def M.laws_vRecord (a : Record) (b_ : Record) : Option Bool :=
  ((bif (((a.Id == b_.Id) && (a.Series == b_.Series)) && (a.Made == b_.Made)) then M.laws_vEvents a.Events b_.Events else some default)).bind fun y0 =>
  some ((((a.Id == b_.Id) && (a.Series == b_.Series)) && (a.Made == b_.Made)) && y0)

def M.spec_IsEvent (e_ : Event) : Option Bool :=
  (M.spec_l2Event e_).bind fun y0 =>
  some y0

def M.impl_copyRecord (r_ : Record) : Option Record :=
  (M.slices_Clone_impl_Event_impl_Event r_.Events).bind fun y0 =>
  some (⟨r_.Id, r_.Series, r_.Made, y0⟩ : Record)

def M.impl_DayOf (r_ : Record) (kind : Int) : Option (Int × Bool) :=
  (M.impl_IsRecord r_).bind fun y0 =>
  bif (!y0) then (
    some ((0 : Int), false))
  else (
    (M.impl_dayOf r_ kind).bind fun y1 =>
    some (y1.1, y1.2))

def M.spec_DrawDayOf (code : List Int) : Option (Record × Int) :=
  (M.spec_l1Cur_record (⟨code, (0 : Int), (0 : Int)⟩ : Cur) (12 : Int)).bind fun y0 =>
  (M.spec_l1Cur_among y0.2 ([(0 : Int), (1 : Int), (2 : Int), (3 : Int), (4 : Int), (5 : Int), (6 : Int), (10 : Int), (-1 : Int)] : List Int)).bind fun y1 =>
  some (y0.1, y1.1)

def M.spec_DrawDropEvent (code : List Int) : Option (Record × Int) :=
  (M.spec_DrawDayOf code).bind fun y0 =>
  some (y0.1, y0.2)

def M.spec_DropEvent_l0 (r_ : Record) (kind : Int) : (Int × List Event) → Option ((Int × List Event) ⊕ (List Event)) := fun st_ => match st_ with
| (i, out_Events0) =>
  bif (decide (i < (r_.Events.length : Int))) then (
    (((
      asrt ((0 : Int) ≤ i ∧ i < (r_.Events.length : Int)) <|
      bif (((r_.Events.getD (Int.toNat i) default).Kind) != kind) then (
        asrt ((0 : Int) ≤ i ∧ i < (r_.Events.length : Int)) <|
        asrt ((out_Events0.length : Int) + (([(r_.Events.getD (Int.toNat i) default)] : List Event).length : Int) ≤ 2147483648) <|
        (((
          some (out_Events0 ++ ([(r_.Events.getD (Int.toNat i) default)] : List Event))) : Option (List Event))).bind fun e => match e with
        | out_Events2 =>
          (some out_Events2))
      else (
        some out_Events0)) : Option (List Event))).bind fun e => match e with
    | out_Events1 =>
      (some (.inl ((IntKind.i64.wrap (i + (1 : Int))), out_Events1))))
  else (
    some (.inr out_Events0))

def M.spec_DropEvent (r_ : Record) (kind : Int) : Option (Record × Bool) :=
  (M.spec_l2Record r_).bind fun y0 =>
  ((bif ((!y0) || (kind == (0 : Int))) then some default else M.spec_l2DayOf r_ kind)).bind fun y1 =>
  bif (((!y0) || (kind == (0 : Int))) || (decide (y1 < (0 : Int)))) then (
    some ((⟨(0 : Int), (0 : Int), (0 : Int), ([] : List Event)⟩ : Record), false))
  else (
    (iterO (M.spec_DropEvent_l0 r_ kind) ((0 : Int), ([] : List Event))).bind fun e => match e with
    | out_Events =>
      (some ((⟨r_.Id, r_.Series, r_.Made, out_Events⟩ : Record), true)))

def M.spec_DayOf (r_ : Record) (kind : Int) : Option (Int × Bool) :=
  (M.spec_l2Record r_).bind fun y0 =>
  ((bif (!y0) then some default else M.spec_l2DayOf r_ kind)).bind fun y1 =>
  bif ((!y0) || (decide (y1 < (0 : Int)))) then (
    some ((0 : Int), false))
  else (
    (M.spec_l2DayOf r_ kind).bind fun y2 =>
    some (y2, true))

def M.laws_rBig (code : List Int) : Option Bool :=
  some (decide ((code.length : Int) > (65536 : Int)))

def M.spec_l17Before_l0 (list : List Hand) (record : Int) : (Int) → Option ((Int) ⊕ ((Unit) ⊕ (Int))) := fun st_ => match st_ with
| k =>
  bif (decide (k ≥ (0 : Int))) then (
    asrt ((0 : Int) ≤ k ∧ k < (list.length : Int)) <|
    bif (((list.getD (Int.toNat k) default).Record) == record) then (
      some (.inr (.inr k)))
    else (
      some (.inl (IntKind.i64.wrap (k - (1 : Int))))))
  else (
    some (.inr (.inl ())))

def M.spec_l17Before (list : List Hand) (record : Int) (i : Int) : Option Int :=
  (iterO (M.spec_l17Before_l0 list record) (IntKind.i64.wrap (i - (1 : Int)))).bind fun e => match e with
  | .inl () =>
    (some (-1 : Int))
  | .inr r => some r

def M.spec_l17Record (record : Int) : Option Bool :=
  (M.spec_l1In record (1 : Int) (999 : Int)).bind fun y0 =>
  some y0

def M.spec_l17Who (who : Int) : Option Bool :=
  (M.spec_l1In who (1 : Int) (20 : Int)).bind fun y0 =>
  some y0

def M.spec_l17One (h : Hand) : Option Bool :=
  (M.spec_l17Record h.Record).bind fun y0 =>
  ((bif y0 then M.spec_l17Who h.From else some default)).bind fun y1 =>
  ((bif (y0 && y1) then M.spec_l17Who h.To else some default)).bind fun y2 =>
  ((bif (((y0 && y1) && y2) && (h.From != h.To)) then M.spec_l2Day h.Day else some default)).bind fun y3 =>
  ((bif ((((y0 && y1) && y2) && (h.From != h.To)) && y3) then M.spec_l1In h.Sum (0 : Int) (999999 : Int) else some default)).bind fun y4 =>
  some (((((y0 && y1) && y2) && (h.From != h.To)) && y3) && y4)

def M.spec_l17Good_l0 (list : List Hand) : (Int) → Option ((Int) ⊕ ((Unit) ⊕ (Bool))) := fun st_ => match st_ with
| i =>
  bif (decide (i < (list.length : Int))) then (
    asrt ((0 : Int) ≤ i ∧ i < (list.length : Int)) <|
    (M.spec_l17One (list.getD (Int.toNat i) default)).bind fun y1 =>
    asrt ((!y1) = false → (decide (i > (0 : Int))) = true → ((0 : Int) ≤ (IntKind.i64.wrap (i - (1 : Int))) ∧ (IntKind.i64.wrap (i - (1 : Int))) < (list.length : Int))) <|
    bif ((!y1) || ((decide (i > (0 : Int))) && (decide (((list.getD (Int.toNat (IntKind.i64.wrap (i - (1 : Int)))) default).Day) > ((list.getD (Int.toNat i) default).Day))))) then (
      some (.inr (.inr false)))
    else (
      (M.spec_l17Before list ((list.getD (Int.toNat i) default).Record) i).bind fun y2 =>
      asrt ((decide (y2 ≥ (0 : Int))) = true → ((0 : Int) ≤ y2 ∧ y2 < (list.length : Int))) <|
      bif ((decide (y2 ≥ (0 : Int))) && (((list.getD (Int.toNat y2) default).To) != ((list.getD (Int.toNat i) default).From))) then (
        some (.inr (.inr false)))
      else (
        some (.inl (IntKind.i64.wrap (i + (1 : Int)))))))
  else (
    some (.inr (.inl ())))

def M.spec_l17Good (list : List Hand) : Option Bool :=
  (iterO (M.spec_l17Good_l0 list) (0 : Int)).bind fun e => match e with
  | .inl () =>
    (some (decide ((list.length : Int) ≤ (12 : Int))))
  | .inr r => some r

def M.spec_l1Cur_hands_l0 : (List Hand × Int × Int × Cur) → Option ((List Hand × Int × Int × Cur) ⊕ (List Hand × Cur)) := fun st_ => match st_ with
| (out_0, day, n_, c_0) =>
  bif (decide (n_ > (0 : Int))) then (
    (((
      (M.spec_l1Cur_among c_0 ([(1 : Int), (1 : Int), (2 : Int), (999 : Int)] : List Int)).bind fun y3 =>
      (M.spec_l1Cur_pick y3.2 (3 : Int)).bind fun y4 =>
      (M.spec_l1Cur_pick y4.2 (4 : Int)).bind fun y5 =>
      (M.spec_l1Cur_among y5.2 ([(5 : Int), (5 : Int), (5 : Int), (6 : Int), (999999 : Int)] : List Int)).bind fun y6 =>
      (M.spec_l1Cur_one y6.2 (2 : Int)).bind fun y7 =>
      (((
        (M.spec_l17Before out_0 y3.1 (out_0.length : Int)).bind fun y8 =>
        ((bif (decide (y8 ≥ (0 : Int))) then M.spec_l1Cur_one y7.2 (12 : Int) else some default)).bind fun y9 =>
        bif ((decide (y8 ≥ (0 : Int))) && (!y9.1)) then (
          asrt ((0 : Int) ≤ y8 ∧ y8 < (out_0.length : Int)) <|
          bif ((IntKind.i64.wrap ((1 : Int) + y5.1)) == ((out_0.getD (Int.toNat y8) default).To)) then (
            some ((⟨y3.1, (out_0.getD (Int.toNat y8) default).To, (IntKind.i64.wrap ((Int.tmod (IntKind.i64.wrap ((1 : Int) + y5.1)) (4 : Int)) + (1 : Int))), day, y6.1, y7.1⟩ : Hand), (bif (decide (y8 ≥ (0 : Int))) then y9.2 else y7.2)))
          else (
            some ((⟨y3.1, (out_0.getD (Int.toNat y8) default).To, (IntKind.i64.wrap ((1 : Int) + y5.1)), day, y6.1, y7.1⟩ : Hand), (bif (decide (y8 ≥ (0 : Int))) then y9.2 else y7.2))))
        else (
          some ((⟨y3.1, (IntKind.i64.wrap ((1 : Int) + y4.1)), (IntKind.i64.wrap ((1 : Int) + y5.1)), day, y6.1, y7.1⟩ : Hand), (bif (decide (y8 ≥ (0 : Int))) then y9.2 else y7.2)))) : Option (Hand × Cur))).bind fun e => match e with
      | (h_, c_2) =>
        ((((
          (M.spec_l1Cur_pick c_2 (120 : Int)).bind fun y10 =>
          (((
            bif (y10.1 == (0 : Int)) then (
              (M.spec_l1Cur_among y10.2 ([(0 : Int), (1000 : Int)] : List Int)).bind fun y11 =>
              some (y11.2, (⟨y11.1, h_.From, h_.To, h_.Day, h_.Sum, h_.Seal⟩ : Hand)))
            else (
              bif (y10.1 == (1 : Int)) then (
                (M.spec_l1Cur_among y10.2 ([(0 : Int), (21 : Int)] : List Int)).bind fun y12 =>
                some (y12.2, (⟨h_.Record, y12.1, h_.To, h_.Day, h_.Sum, h_.Seal⟩ : Hand)))
              else (
                bif (y10.1 == (2 : Int)) then (
                  (M.spec_l1Cur_among y10.2 ([(0 : Int), (21 : Int), h_.From] : List Int)).bind fun y13 =>
                  some (y13.2, (⟨h_.Record, h_.From, y13.1, h_.Day, h_.Sum, h_.Seal⟩ : Hand)))
                else (
                  bif (y10.1 == (3 : Int)) then (
                    (M.spec_l1Cur_among y10.2 ([(-1 : Int), (20001 : Int)] : List Int)).bind fun y14 =>
                    some (y14.2, (⟨h_.Record, h_.From, h_.To, y14.1, h_.Sum, h_.Seal⟩ : Hand)))
                  else (
                    bif (y10.1 == (4 : Int)) then (
                      (M.spec_l1Cur_among y10.2 ([(-1 : Int), (1000000 : Int)] : List Int)).bind fun y15 =>
                      some (y15.2, (⟨h_.Record, h_.From, h_.To, h_.Day, y15.1, h_.Seal⟩ : Hand)))
                    else (
                      some (y10.2, h_))))))) : Option (Cur × Hand))).bind fun e => match e with
          | (c_4, h_1) =>
            (some (c_4, h_1))) : Option (Cur × Hand))).bind fun e => match e with
        | (c_3, h_0) =>
          ((((
            asrt ((([] : List Hand).length : Int) + (out_0.length : Int) ≤ 2147483648) <|
            asrt (((([] : List Hand) ++ out_0).length : Int) + (([h_0] : List Hand).length : Int) ≤ 2147483648) <|
            (((
              some ((([] : List Hand) ++ out_0) ++ ([h_0] : List Hand))) : Option (List Hand))).bind fun e => match e with
            | next =>
              ((M.spec_l17Good next).bind fun y16 =>
              ((bif y16 then some default else M.spec_l1Cur_one c_3 (40 : Int))).bind fun y17 =>
              bif (y16 || y17.1) then (
                some (next, (bif y16 then c_3 else y17.2)))
              else (
                some (out_0, (bif y16 then c_3 else y17.2))))) : Option (List Hand × Cur))).bind fun e => match e with
          | (out_2, c_5) =>
            ((M.spec_l1Cur_among c_5 ([(0 : Int), (0 : Int), (1 : Int), (10 : Int)] : List Int)).bind fun y18 =>
            some (out_2, (IntKind.i64.wrap (day + y18.1)), y18.2))))) : Option (List Hand × Int × Cur))).bind fun e => match e with
    | (out_1, day0, c_1) =>
      (some (.inl (out_1, day0, (IntKind.i64.wrap (n_ - (1 : Int))), c_1))))
  else (
    some (.inr (out_0, c_0)))

def M.spec_l1Cur_hands_l1 : (List Hand × Int × Cur) → Option ((List Hand × Int × Cur) ⊕ (List Hand × Cur)) := fun st_ => match st_ with
| (out_4, n_0, c_7) =>
  (M.spec_l1Cur_pick c_7 (2 : Int)).bind fun y21 =>
  bif (decide (n_0 < (IntKind.i64.wrap ((12 : Int) + y21.1)))) then (
    asrt ((out_4.length : Int) + (([(⟨(1 : Int), (IntKind.i64.wrap ((1 : Int) + (Int.tmod n_0 (2 : Int)))), (IntKind.i64.wrap ((2 : Int) - (Int.tmod n_0 (2 : Int)))), n_0, (0 : Int), false⟩ : Hand)] : List Hand).length : Int) ≤ 2147483648) <|
    some (.inl ((out_4 ++ ([(⟨(1 : Int), (IntKind.i64.wrap ((1 : Int) + (Int.tmod n_0 (2 : Int)))), (IntKind.i64.wrap ((2 : Int) - (Int.tmod n_0 (2 : Int)))), n_0, (0 : Int), false⟩ : Hand)] : List Hand)), (IntKind.i64.wrap (n_0 + (1 : Int))), y21.2)))
  else (
    some (.inr (out_4, y21.2)))

def M.spec_l1Cur_hands (c : Cur) : Option (List Hand × Cur) :=
  (M.spec_l1Cur_among c ([(0 : Int), (10 : Int), (19900 : Int)] : List Int)).bind fun y0 =>
  (M.spec_l1Cur_pick y0.2 (10 : Int)).bind fun y1 =>
  (iterO (M.spec_l1Cur_hands_l0) (([] : List Hand), y0.1, y1.1, y1.2)).bind fun e => match e with
  | (out_, c_) =>
    ((M.spec_l1Cur_one c_ (24 : Int)).bind fun y19 =>
    bif y19.1 then (
      (iterO (M.spec_l1Cur_hands_l1) (([] : List Hand), (0 : Int), y19.2)).bind fun e => match e with
      | (out_3, c_6) =>
        (some (out_3, c_6)))
    else (
      some (out_, y19.2)))

def M.spec_l1Cur_record17 (c : Cur) : Option (Int × Cur) :=
  (M.spec_l1Cur_pick c (24 : Int)).bind fun y0 =>
  asrt ((0 : Int) ≤ (0 : Int) ∧ (0 : Int) ≤ (IntKind.i64.wrap ((5 : Int) + (IntKind.i64.wrap (Int.tdiv y0.1 (11 : Int))))) ∧ (IntKind.i64.wrap ((5 : Int) + (IntKind.i64.wrap (Int.tdiv y0.1 (11 : Int))))) ≤ (([(1 : Int), (1 : Int), (2 : Int), (999 : Int), (50 : Int), (0 : Int), (1000 : Int)] : List Int).length : Int)) <|
  (M.spec_l1Cur_among y0.2 (slc ([(1 : Int), (1 : Int), (2 : Int), (999 : Int), (50 : Int), (0 : Int), (1000 : Int)] : List Int) (0 : Int) (IntKind.i64.wrap ((5 : Int) + (IntKind.i64.wrap (Int.tdiv y0.1 (11 : Int))))))).bind fun y1 =>
  some (y1.1, y1.2)

def M.spec_DrawChainOf (code : List Int) : Option (List Hand × Int) :=
  (M.spec_l1Cur_hands (⟨code, (0 : Int), (0 : Int)⟩ : Cur)).bind fun y0 =>
  (M.spec_l1Cur_record17 y0.2).bind fun y1 =>
  some (y0.1, y1.1)

def M.impl_isRecordId (id_ : Int) : Option Bool :=
  (M.impl_within id_ (1 : Int) (999 : Int)).bind fun y0 =>
  some y0

def M.impl_isPerson (who : Int) : Option Bool :=
  (M.impl_within who (1 : Int) (20 : Int)).bind fun y0 =>
  some y0

def M.impl_IsHand (h : Hand) : Option Bool :=
  (M.impl_isRecordId h.Record).bind fun y0 =>
  ((bif y0 then M.impl_isPerson h.From else some default)).bind fun y1 =>
  ((bif (y0 && y1) then M.impl_isPerson h.To else some default)).bind fun y2 =>
  ((bif (((y0 && y1) && y2) && (h.From != h.To)) then M.impl_isDay h.Day else some default)).bind fun y3 =>
  ((bif ((((y0 && y1) && y2) && (h.From != h.To)) && y3) then M.impl_within h.Sum (0 : Int) (999999 : Int) else some default)).bind fun y4 =>
  some (((((y0 && y1) && y2) && (h.From != h.To)) && y3) && y4)

def M.impl_next_l0 (list : List Hand) (record : Int) : (Int) → Option ((Int) ⊕ ((Unit) ⊕ (Int))) := fun st_ => match st_ with
| i =>
  bif (decide (i < (list.length : Int))) then (
    asrt ((0 : Int) ≤ i ∧ i < (list.length : Int)) <|
    bif (((list.getD (Int.toNat i) default).Record) == record) then (
      some (.inr (.inr i)))
    else (
      some (.inl (IntKind.i64.wrap (i + (1 : Int))))))
  else (
    some (.inr (.inl ())))

def M.impl_next (list : List Hand) (record : Int) (from_ : Int) : Option Int :=
  (iterO (M.impl_next_l0 list record) from_).bind fun e => match e with
  | .inl () =>
    (some (-1 : Int))
  | .inr r => some r

def M.impl_IsCustody_l0 (list : List Hand) : (Int) → Option ((Int) ⊕ ((Unit) ⊕ (Bool))) := fun st_ => match st_ with
| v =>
  bif (decide (v < (list.length : Int))) then (
    asrt ((0 : Int) ≤ v ∧ v < (list.length : Int)) <|
    (M.impl_IsHand (list.getD (Int.toNat v) default)).bind fun y1 =>
    asrt ((!y1) = false → (decide (v > (0 : Int))) = true → ((0 : Int) ≤ (IntKind.i64.wrap (v - (1 : Int))) ∧ (IntKind.i64.wrap (v - (1 : Int))) < (list.length : Int))) <|
    bif ((!y1) || ((decide (v > (0 : Int))) && (decide (((list.getD (Int.toNat (IntKind.i64.wrap (v - (1 : Int)))) default).Day) > ((list.getD (Int.toNat v) default).Day))))) then (
      some (.inr (.inr false)))
    else (
      (M.impl_next list ((list.getD (Int.toNat v) default).Record) (IntKind.i64.wrap (v + (1 : Int)))).bind fun y2 =>
      asrt ((decide (y2 ≥ (0 : Int))) = true → ((0 : Int) ≤ y2 ∧ y2 < (list.length : Int))) <|
      bif ((decide (y2 ≥ (0 : Int))) && (((list.getD (Int.toNat y2) default).From) != ((list.getD (Int.toNat v) default).To))) then (
        some (.inr (.inr false)))
      else (
        some (.inl (IntKind.i64.wrap (v + (1 : Int)))))))
  else (
    some (.inr (.inl ())))

def M.impl_IsCustody (list : List Hand) : Option Bool :=
  (iterO (M.impl_IsCustody_l0 list) (0 : Int)).bind fun e => match e with
  | .inl () =>
    (some (decide ((list.length : Int) ≤ (12 : Int))))
  | .inr r => some r

def M.impl_ChainOf_l0 (list : List Hand) (record : Int) : (List Int × Int) → Option ((List Int × Int) ⊕ (List Int)) := fun st_ => match st_ with
| (chain0, v) =>
  bif (decide (v < (list.length : Int))) then (
    (((
      asrt ((0 : Int) ≤ v ∧ v < (list.length : Int)) <|
      bif (((list.getD (Int.toNat v) default).Record) != record) then (
        some chain0)
      else (
        (((
          bif ((chain0.length : Int) == (0 : Int)) then (
            asrt ((chain0.length : Int) + (([(list.getD (Int.toNat v) default).From] : List Int).length : Int) ≤ 2147483648) <|
            some (chain0 ++ ([(list.getD (Int.toNat v) default).From] : List Int)))
          else (
            some chain0)) : Option (List Int))).bind fun e => match e with
        | chain2 =>
          (asrt ((chain2.length : Int) + (([(list.getD (Int.toNat v) default).To] : List Int).length : Int) ≤ 2147483648) <|
          some (chain2 ++ ([(list.getD (Int.toNat v) default).To] : List Int))))) : Option (List Int))).bind fun e => match e with
    | chain1 =>
      (some (.inl (chain1, (IntKind.i64.wrap (v + (1 : Int)))))))
  else (
    some (.inr chain0))

def M.impl_ChainOf (list : List Hand) (record : Int) : Option (List Int × Bool) :=
  (M.impl_IsCustody list).bind fun y0 =>
  ((bif (!y0) then some default else M.impl_isRecordId record)).bind fun y1 =>
  bif ((!y0) || (!y1)) then (
    some (([] : List Int), false))
  else (
    (iterO (M.impl_ChainOf_l0 list record) (([] : List Int), (0 : Int))).bind fun e => match e with
    | chain =>
      (some (chain, true)))

def M.spec_ChainOf_l0 (list : List Hand) (record : Int) : (List Int × Int) → Option ((List Int × Int) ⊕ (List Int)) := fun st_ => match st_ with
| (out_0, i) =>
  bif (decide (i < (list.length : Int))) then (
    (((
      asrt ((0 : Int) ≤ i ∧ i < (list.length : Int)) <|
      bif (((list.getD (Int.toNat i) default).Record) != record) then (
        some out_0)
      else (
        (((
          bif ((out_0.length : Int) == (0 : Int)) then (
            asrt ((0 : Int) ≤ i ∧ i < (list.length : Int)) <|
            asrt ((out_0.length : Int) + (([(list.getD (Int.toNat i) default).From] : List Int).length : Int) ≤ 2147483648) <|
            some (out_0 ++ ([(list.getD (Int.toNat i) default).From] : List Int)))
          else (
            some out_0)) : Option (List Int))).bind fun e => match e with
        | out_2 =>
          (asrt ((0 : Int) ≤ i ∧ i < (list.length : Int)) <|
          asrt ((out_2.length : Int) + (([(list.getD (Int.toNat i) default).To] : List Int).length : Int) ≤ 2147483648) <|
          some (out_2 ++ ([(list.getD (Int.toNat i) default).To] : List Int))))) : Option (List Int))).bind fun e => match e with
    | out_1 =>
      (some (.inl (out_1, (IntKind.i64.wrap (i + (1 : Int)))))))
  else (
    some (.inr out_0))

def M.spec_ChainOf (list : List Hand) (record : Int) : Option (List Int × Bool) :=
  (M.spec_l17Good list).bind fun y0 =>
  ((bif (!y0) then some default else M.spec_l17Record record)).bind fun y1 =>
  bif ((!y0) || (!y1)) then (
    some (([] : List Int), false))
  else (
    (iterO (M.spec_ChainOf_l0 list record) (([] : List Int), (0 : Int))).bind fun e => match e with
    | out_ =>
      (some (out_, true)))

def M.laws_rInts_l0 (a : List Int) (b_ : List Int) : (Int) → Option ((Int) ⊕ ((Unit) ⊕ (Bool))) := fun st_ => match st_ with
| i =>
  bif (decide (i < (a.length : Int))) then (
    asrt ((0 : Int) ≤ i ∧ i < (a.length : Int)) <|
    asrt ((0 : Int) ≤ i ∧ i < (b_.length : Int)) <|
    bif ((a.getD (Int.toNat i) default) != (b_.getD (Int.toNat i) default)) then (
      some (.inr (.inr false)))
    else (
      some (.inl (IntKind.i64.wrap (i + (1 : Int))))))
  else (
    some (.inr (.inl ())))

def M.laws_rInts (a : List Int) (b_ : List Int) : Option Bool :=
  bif ((a.length : Int) != (b_.length : Int)) then (
    some false)
  else (
    (iterO (M.laws_rInts_l0 a b_) (0 : Int)).bind fun e => match e with
    | .inl () =>
      (some true)
    | .inr r => some r)

def M.impl_holderOf_l0 (list : List Hand) (record : Int) (day : Int) : (Int × Int) → Option ((Int × Int) ⊕ (Int)) := fun st_ => match st_ with
| (who0, v) =>
  bif (decide (v < (list.length : Int))) then (
    (((
      asrt ((0 : Int) ≤ v ∧ v < (list.length : Int)) <|
      bif ((((list.getD (Int.toNat v) default).Record) == record) && (decide (((list.getD (Int.toNat v) default).Day) ≤ day))) then (
        some ((list.getD (Int.toNat v) default).To))
      else (
        some who0)) : Option Int)).bind fun e => match e with
    | who1 =>
      (some (.inl (who1, (IntKind.i64.wrap (v + (1 : Int)))))))
  else (
    some (.inr who0))

def M.impl_holderOf (list : List Hand) (record : Int) (day : Int) : Option Int :=
  (iterO (M.impl_holderOf_l0 list record day) ((0 : Int), (0 : Int))).bind fun e => match e with
  | who =>
    (some who)

def M.impl_HolderOf (list : List Hand) (record : Int) (day : Int) : Option (Int × Bool) :=
  (M.impl_IsCustody list).bind fun y0 =>
  ((bif (!y0) then some default else M.impl_isRecordId record)).bind fun y1 =>
  ((bif ((!y0) || (!y1)) then some default else M.impl_isDay day)).bind fun y2 =>
  bif (((!y0) || (!y1)) || (!y2)) then (
    some ((0 : Int), false))
  else (
    (M.impl_holderOf list record day).bind fun y3 =>
    some (y3, (decide (y3 > (0 : Int)))))

def M.spec_l1Cur_day17 (c : Cur) : Option (Int × Cur) :=
  (M.spec_l1Cur_pick c (24 : Int)).bind fun y0 =>
  asrt ((0 : Int) ≤ (0 : Int) ∧ (0 : Int) ≤ (IntKind.i64.wrap ((7 : Int) + (IntKind.i64.wrap (Int.tdiv y0.1 (11 : Int))))) ∧ (IntKind.i64.wrap ((7 : Int) + (IntKind.i64.wrap (Int.tdiv y0.1 (11 : Int))))) ≤ (([(0 : Int), (5 : Int), (10 : Int), (12 : Int), (30 : Int), (20000 : Int), (20000 : Int), (-1 : Int), (20001 : Int)] : List Int).length : Int)) <|
  (M.spec_l1Cur_among y0.2 (slc ([(0 : Int), (5 : Int), (10 : Int), (12 : Int), (30 : Int), (20000 : Int), (20000 : Int), (-1 : Int), (20001 : Int)] : List Int) (0 : Int) (IntKind.i64.wrap ((7 : Int) + (IntKind.i64.wrap (Int.tdiv y0.1 (11 : Int))))))).bind fun y1 =>
  some (y1.1, y1.2)

def M.spec_DrawHeldBy (code : List Int) : Option (List Hand × Int × Int) :=
  (M.spec_l1Cur_hands (⟨code, (0 : Int), (0 : Int)⟩ : Cur)).bind fun y0 =>
  (M.spec_l1Cur_pick y0.2 (24 : Int)).bind fun y1 =>
  asrt ((0 : Int) ≤ (0 : Int) ∧ (0 : Int) ≤ (IntKind.i64.wrap ((5 : Int) + (IntKind.i64.wrap (Int.tdiv y1.1 (11 : Int))))) ∧ (IntKind.i64.wrap ((5 : Int) + (IntKind.i64.wrap (Int.tdiv y1.1 (11 : Int))))) ≤ (([(1 : Int), (2 : Int), (3 : Int), (4 : Int), (20 : Int), (0 : Int), (21 : Int)] : List Int).length : Int)) <|
  (M.spec_l1Cur_among y1.2 (slc ([(1 : Int), (2 : Int), (3 : Int), (4 : Int), (20 : Int), (0 : Int), (21 : Int)] : List Int) (0 : Int) (IntKind.i64.wrap ((5 : Int) + (IntKind.i64.wrap (Int.tdiv y1.1 (11 : Int))))))).bind fun y2 =>
  (M.spec_l1Cur_day17 y2.2).bind fun y3 =>
  some (y0.1, y2.1, y3.1)

def M.spec_l17Holder_l0 (list : List Hand) (record : Int) (day : Int) : (Int × Int) → Option ((Int × Int) ⊕ (Int)) := fun st_ => match st_ with
| (who0, i) =>
  bif (decide (i < (list.length : Int))) then (
    (((
      asrt ((0 : Int) ≤ i ∧ i < (list.length : Int)) <|
      asrt ((((list.getD (Int.toNat i) default).Record) == record) = true → ((0 : Int) ≤ i ∧ i < (list.length : Int))) <|
      bif ((((list.getD (Int.toNat i) default).Record) == record) && (decide (((list.getD (Int.toNat i) default).Day) ≤ day))) then (
        asrt ((0 : Int) ≤ i ∧ i < (list.length : Int)) <|
        some ((list.getD (Int.toNat i) default).To))
      else (
        some who0)) : Option Int)).bind fun e => match e with
    | who1 =>
      (some (.inl (who1, (IntKind.i64.wrap (i + (1 : Int)))))))
  else (
    some (.inr who0))

def M.spec_l17Holder (list : List Hand) (record : Int) (day : Int) : Option Int :=
  (iterO (M.spec_l17Holder_l0 list record day) ((0 : Int), (0 : Int))).bind fun e => match e with
  | who =>
    (some who)

def M.spec_HeldBy_l0 (list : List Hand) (who : Int) (day : Int) : (List Int × Int) → Option ((List Int × Int) ⊕ (List Int)) := fun st_ => match st_ with
| (out_0, i) =>
  bif (decide (i < (list.length : Int))) then (
    (((
      asrt ((0 : Int) ≤ i ∧ i < (list.length : Int)) <|
      (M.spec_l17Holder list ((list.getD (Int.toNat i) default).Record) day).bind fun y4 =>
      ((bif (y4 == who) then M.spec_l1Has out_0 ((list.getD (Int.toNat i) default).Record) else some default)).bind fun y5 =>
      bif ((y4 == who) && (!y5)) then (
        (M.spec_l1Put out_0 ((list.getD (Int.toNat i) default).Record)).bind fun y6 =>
        some y6)
      else (
        some out_0)) : Option (List Int))).bind fun e => match e with
    | out_1 =>
      (some (.inl (out_1, (IntKind.i64.wrap (i + (1 : Int)))))))
  else (
    some (.inr out_0))

def M.spec_HeldBy (list : List Hand) (who : Int) (day : Int) : Option (List Int × Bool) :=
  (M.spec_l17Good list).bind fun y0 =>
  ((bif (!y0) then some default else M.spec_l17Who who)).bind fun y1 =>
  ((bif ((!y0) || (!y1)) then some default else M.spec_l2Day day)).bind fun y2 =>
  bif (((!y0) || (!y1)) || (!y2)) then (
    some (([] : List Int), false))
  else (
    (iterO (M.spec_HeldBy_l0 list who day) (([] : List Int), (0 : Int))).bind fun e => match e with
    | out_ =>
      (some (out_, true)))

def M.laws_rHas_l0 (list : List Int) (x : Int) : (Int) → Option ((Int) ⊕ ((Unit) ⊕ (Bool))) := fun st_ => match st_ with
| i =>
  bif (decide (i < (list.length : Int))) then (
    asrt ((0 : Int) ≤ i ∧ i < (list.length : Int)) <|
    bif ((list.getD (Int.toNat i) default) == x) then (
      some (.inr (.inr true)))
    else (
      some (.inl (IntKind.i64.wrap (i + (1 : Int))))))
  else (
    some (.inr (.inl ())))

def M.laws_rHas (list : List Int) (x : Int) : Option Bool :=
  (iterO (M.laws_rHas_l0 list x) (0 : Int)).bind fun e => match e with
  | .inl () =>
    (some false)
  | .inr r => some r

def M.spec_DrawAppendHand (code : List Int) : Option (List Hand × Hand) :=
  (M.spec_l1Cur_hands (⟨code, (0 : Int), (0 : Int)⟩ : Cur)).bind fun y0 =>
  (M.spec_l1Cur_among y0.2 ([(1 : Int), (2 : Int), (999 : Int), (0 : Int)] : List Int)).bind fun y1 =>
  (M.spec_l1Cur_pick y1.2 (4 : Int)).bind fun y2 =>
  (M.spec_l1Cur_pick y2.2 (5 : Int)).bind fun y3 =>
  (((
    bif (decide ((y0.1.length : Int) > (0 : Int))) then (
      asrt ((0 : Int) ≤ (IntKind.i64.wrap ((y0.1.length : Int) - (1 : Int))) ∧ (IntKind.i64.wrap ((y0.1.length : Int) - (1 : Int))) < (y0.1.length : Int)) <|
      (M.spec_l1Cur_pick y3.2 (3 : Int)).bind fun y4 =>
      (M.spec_l1Cur_pick y4.2 (8 : Int)).bind fun y5 =>
      (M.spec_l17Before y0.1 y1.1 (y0.1.length : Int)).bind fun y6 =>
      ((bif (decide (y6 ≥ (0 : Int))) then M.spec_l1Cur_one y5.2 (6 : Int) else some default)).bind fun y7 =>
      bif ((decide (y6 ≥ (0 : Int))) && (!y7.1)) then (
        asrt ((0 : Int) ≤ y6 ∧ y6 < (y0.1.length : Int)) <|
        some (⟨y1.1, (y0.1.getD (Int.toNat y6) default).To, (IntKind.i64.wrap ((1 : Int) + y3.1)), (IntKind.i64.wrap ((IntKind.i64.wrap (((y0.1.getD (Int.toNat (IntKind.i64.wrap ((y0.1.length : Int) - (1 : Int)))) default).Day) + y4.1)) - (IntKind.i64.wrap (Int.tdiv y5.1 (7 : Int))))), (5 : Int), false⟩ : Hand))
      else (
        some (⟨y1.1, (IntKind.i64.wrap ((1 : Int) + y2.1)), (IntKind.i64.wrap ((1 : Int) + y3.1)), (IntKind.i64.wrap ((IntKind.i64.wrap (((y0.1.getD (Int.toNat (IntKind.i64.wrap ((y0.1.length : Int) - (1 : Int)))) default).Day) + y4.1)) - (IntKind.i64.wrap (Int.tdiv y5.1 (7 : Int))))), (5 : Int), false⟩ : Hand)))
    else (
      some (⟨y1.1, (IntKind.i64.wrap ((1 : Int) + y2.1)), (IntKind.i64.wrap ((1 : Int) + y3.1)), (15 : Int), (5 : Int), false⟩ : Hand))) : Option Hand)).bind fun e => match e with
  | h_ =>
    (some (y0.1, h_))

def M.slices_Clone_impl_Hand_impl_Hand (s : List Hand) : Option (List Hand) := asrt ((s.length : Int) ≤ 2147483648) <| some s

def M.spec_AppendHand (list : List Hand) (h : Hand) : Option (List Hand × Bool) :=
  asrt ((([] : List Hand).length : Int) + (list.length : Int) ≤ 2147483648) <|
  asrt (((([] : List Hand) ++ list).length : Int) + (([h] : List Hand).length : Int) ≤ 2147483648) <|
  (((
    some ((([] : List Hand) ++ list) ++ ([h] : List Hand))) : Option (List Hand))).bind fun e => match e with
  | out_ =>
    ((M.spec_l17Good out_).bind fun y0 =>
    bif (!y0) then (
      some (([] : List Hand), false))
    else (
      some (out_, true)))

def M.laws_rHands_l0 (a : List Hand) (b_ : List Hand) : (Int) → Option ((Int) ⊕ ((Unit) ⊕ (Bool))) := fun st_ => match st_ with
| i =>
  bif (decide (i < (a.length : Int))) then (
    asrt ((0 : Int) ≤ i ∧ i < (a.length : Int)) <|
    asrt ((0 : Int) ≤ i ∧ i < (b_.length : Int)) <|
    bif (!((((a.getD (Int.toNat i) default).Record) == ((b_.getD (Int.toNat i) default).Record)) && ((((a.getD (Int.toNat i) default).From) == ((b_.getD (Int.toNat i) default).From)) && ((((a.getD (Int.toNat i) default).To) == ((b_.getD (Int.toNat i) default).To)) && ((((a.getD (Int.toNat i) default).Day) == ((b_.getD (Int.toNat i) default).Day)) && ((((a.getD (Int.toNat i) default).Sum) == ((b_.getD (Int.toNat i) default).Sum)) && ((((a.getD (Int.toNat i) default).Seal) == ((b_.getD (Int.toNat i) default).Seal)) && true))))))) then (
      some (.inr (.inr false)))
    else (
      some (.inl (IntKind.i64.wrap (i + (1 : Int))))))
  else (
    some (.inr (.inl ())))

def M.laws_rHands (a : List Hand) (b_ : List Hand) : Option Bool :=
  bif ((a.length : Int) != (b_.length : Int)) then (
    some false)
  else (
    (iterO (M.laws_rHands_l0 a b_) (0 : Int)).bind fun e => match e with
    | .inl () =>
      (some true)
    | .inr r => some r)

def M.spec_DrawHolderOf (code : List Int) : Option (List Hand × Int × Int) :=
  (M.spec_l1Cur_hands (⟨code, (0 : Int), (0 : Int)⟩ : Cur)).bind fun y0 =>
  (M.spec_l1Cur_record17 y0.2).bind fun y1 =>
  (M.spec_l1Cur_day17 y1.2).bind fun y2 =>
  some (y0.1, y1.1, y2.1)

def M.spec_HolderOf (list : List Hand) (record : Int) (day : Int) : Option (Int × Bool) :=
  (M.spec_l17Good list).bind fun y0 =>
  ((bif (!y0) then some default else M.spec_l17Record record)).bind fun y1 =>
  ((bif ((!y0) || (!y1)) then some default else M.spec_l2Day day)).bind fun y2 =>
  bif (((!y0) || (!y1)) || (!y2)) then (
    some ((0 : Int), false))
  else (
    (M.spec_l17Holder list record day).bind fun y3 =>
    some (y3, (decide (y3 > (0 : Int)))))

def M.spec_DrawIsCustody (code : List Int) : Option (List Hand) :=
  (M.spec_l1Cur_hands (⟨code, (0 : Int), (0 : Int)⟩ : Cur)).bind fun y0 =>
  some y0.1

def M.spec_DrawBrokenSeals (code : List Int) : Option (List Hand) :=
  (M.spec_DrawIsCustody code).bind fun y0 =>
  some y0

def M.impl_differences_l1 (list : List Hand) (pairs0 : List (List Int)) (v : Int) : (Int) → Option ((Int) ⊕ (List (List Int))) := fun st_ => match st_ with
| i =>
  bif (decide (i ≥ (0 : Int))) then (
    asrt ((0 : Int) ≤ i ∧ i < (list.length : Int)) <|
    bif (((list.getD (Int.toNat i) default).Record) == ((list.getD (Int.toNat v) default).Record)) then (
      asrt ((0 : Int) ≤ i ∧ i < (list.length : Int)) <|
      bif (((list.getD (Int.toNat i) default).Sum) != ((list.getD (Int.toNat v) default).Sum)) then (
        asrt ((pairs0.length : Int) + (([([i, v] : List Int)] : List (List Int)).length : Int) ≤ 2147483648) <|
        some (.inr (pairs0 ++ ([([i, v] : List Int)] : List (List Int)))))
      else (
        some (.inr pairs0)))
    else (
      some (.inl (IntKind.i64.wrap (i - (1 : Int))))))
  else (
    some (.inr pairs0))

def M.impl_differences_l0 (list : List Hand) : (List (List Int) × Int) → Option ((List (List Int) × Int) ⊕ (List (List Int))) := fun st_ => match st_ with
| (pairs0, v) =>
  bif (decide (v < (list.length : Int))) then (
    (((
      asrt ((0 : Int) ≤ v ∧ v < (list.length : Int)) <|
      (iterO (M.impl_differences_l1 list pairs0 v) (IntKind.i64.wrap (v - (1 : Int)))).bind fun e => match e with
      | pairs2 =>
        (some pairs2)) : Option (List (List Int)))).bind fun e => match e with
    | pairs1 =>
      (some (.inl (pairs1, (IntKind.i64.wrap (v + (1 : Int)))))))
  else (
    some (.inr pairs0))

def M.impl_differences (list : List Hand) : Option (List (List Int)) :=
  (iterO (M.impl_differences_l0 list) (([] : List (List Int)), (0 : Int))).bind fun e => match e with
  | pairs =>
    (some pairs)

def M.impl_BrokenSeals_1 (p : List Int) (list : List Hand) : Option Bool :=
  asrt ((0 : Int) ≤ (0 : Int) ∧ (0 : Int) < (p.length : Int)) <|
  asrt ((0 : Int) ≤ (p.getD (Int.toNat (0 : Int)) default) ∧ (p.getD (Int.toNat (0 : Int)) default) < (list.length : Int)) <|
  some (!((list.getD (Int.toNat (p.getD (Int.toNat (0 : Int)) default)) default).Seal))

def M.spec_l17Turns_l0 (list : List Hand) : (List (List Int) × Int) → Option ((List (List Int) × Int) ⊕ (List (List Int))) := fun st_ => match st_ with
| (out_0, i) =>
  bif (decide (i < (list.length : Int))) then (
    (((
      asrt ((0 : Int) ≤ i ∧ i < (list.length : Int)) <|
      (M.spec_l17Before list ((list.getD (Int.toNat i) default).Record) i).bind fun y1 =>
      asrt ((decide (y1 ≥ (0 : Int))) = true → ((0 : Int) ≤ y1 ∧ y1 < (list.length : Int))) <|
      asrt ((decide (y1 ≥ (0 : Int))) = true → ((0 : Int) ≤ i ∧ i < (list.length : Int))) <|
      bif ((decide (y1 ≥ (0 : Int))) && (((list.getD (Int.toNat y1) default).Sum) != ((list.getD (Int.toNat i) default).Sum))) then (
        asrt ((out_0.length : Int) + (([([y1, i] : List Int)] : List (List Int)).length : Int) ≤ 2147483648) <|
        some (out_0 ++ ([([y1, i] : List Int)] : List (List Int))))
      else (
        some out_0)) : Option (List (List Int)))).bind fun e => match e with
    | out_1 =>
      (some (.inl (out_1, (IntKind.i64.wrap (i + (1 : Int)))))))
  else (
    some (.inr out_0))

def M.spec_l17Turns (list : List Hand) : Option (List (List Int)) :=
  (iterO (M.spec_l17Turns_l0 list) (([] : List (List Int)), (0 : Int))).bind fun e => match e with
  | out_ =>
    (some out_)

def M.spec_BrokenSeals_l0 (list : List Hand) (y1 : List (List Int)) : (List (List Int) × Int) → Option ((List (List Int) × Int) ⊕ (List (List Int))) := fun st_ => match st_ with
| (out_0, i) =>
  bif (decide (i < (y1.length : Int))) then (
    (((
      asrt ((0 : Int) ≤ i ∧ i < (y1.length : Int)) <|
      asrt ((0 : Int) ≤ (0 : Int) ∧ (0 : Int) < ((y1.getD (Int.toNat i) default).length : Int)) <|
      asrt ((0 : Int) ≤ ((y1.getD (Int.toNat i) default).getD (Int.toNat (0 : Int)) default) ∧ ((y1.getD (Int.toNat i) default).getD (Int.toNat (0 : Int)) default) < (list.length : Int)) <|
      bif (list.getD (Int.toNat ((y1.getD (Int.toNat i) default).getD (Int.toNat (0 : Int)) default)) default).Seal then (
        asrt ((0 : Int) ≤ i ∧ i < (y1.length : Int)) <|
        asrt ((out_0.length : Int) + (([(y1.getD (Int.toNat i) default)] : List (List Int)).length : Int) ≤ 2147483648) <|
        some (out_0 ++ ([(y1.getD (Int.toNat i) default)] : List (List Int))))
      else (
        some out_0)) : Option (List (List Int)))).bind fun e => match e with
    | out_1 =>
      (some (.inl (out_1, (IntKind.i64.wrap (i + (1 : Int)))))))
  else (
    some (.inr out_0))

def M.spec_BrokenSeals (list : List Hand) : Option (List (List Int) × Bool) :=
  (M.spec_l17Good list).bind fun y0 =>
  bif (!y0) then (
    some (([] : List (List Int)), false))
  else (
    (M.spec_l17Turns list).bind fun y1 =>
    (iterO (M.spec_BrokenSeals_l0 list y1) (([] : List (List Int)), (0 : Int))).bind fun e => match e with
    | out_ =>
      (some (out_, true)))

def M.laws_rTable_l0 (a : List (List Int)) (b_ : List (List Int)) : (Int) → Option ((Int) ⊕ ((Unit) ⊕ (Bool))) := fun st_ => match st_ with
| i =>
  bif (decide (i < (a.length : Int))) then (
    asrt ((0 : Int) ≤ i ∧ i < (a.length : Int)) <|
    asrt ((0 : Int) ≤ i ∧ i < (b_.length : Int)) <|
    (M.laws_rInts (a.getD (Int.toNat i) default) (b_.getD (Int.toNat i) default)).bind fun y1 =>
    bif (!y1) then (
      some (.inr (.inr false)))
    else (
      some (.inl (IntKind.i64.wrap (i + (1 : Int))))))
  else (
    some (.inr (.inl ())))

def M.laws_rTable (a : List (List Int)) (b_ : List (List Int)) : Option Bool :=
  bif ((a.length : Int) != (b_.length : Int)) then (
    some false)
  else (
    (iterO (M.laws_rTable_l0 a b_) (0 : Int)).bind fun e => match e with
    | .inl () =>
      (some true)
    | .inr r => some r)

def M.spec_NotWhole_l0 (list : List Hand) (y1 : List (List Int)) : (List Int × Int) → Option ((List Int × Int) ⊕ (List Int)) := fun st_ => match st_ with
| (out_0, i) =>
  bif (decide (i < (y1.length : Int))) then (
    (((
      asrt ((0 : Int) ≤ i ∧ i < (y1.length : Int)) <|
      asrt ((0 : Int) ≤ (0 : Int) ∧ (0 : Int) < ((y1.getD (Int.toNat i) default).length : Int)) <|
      asrt ((0 : Int) ≤ ((y1.getD (Int.toNat i) default).getD (Int.toNat (0 : Int)) default) ∧ ((y1.getD (Int.toNat i) default).getD (Int.toNat (0 : Int)) default) < (list.length : Int)) <|
      (M.spec_l1Has out_0 ((list.getD (Int.toNat ((y1.getD (Int.toNat i) default).getD (Int.toNat (0 : Int)) default)) default).Record)).bind fun y3 =>
      bif (!y3) then (
        (M.spec_l1Put out_0 ((list.getD (Int.toNat ((y1.getD (Int.toNat i) default).getD (Int.toNat (0 : Int)) default)) default).Record)).bind fun y4 =>
        some y4)
      else (
        some out_0)) : Option (List Int))).bind fun e => match e with
    | out_1 =>
      (some (.inl (out_1, (IntKind.i64.wrap (i + (1 : Int)))))))
  else (
    some (.inr out_0))

def M.spec_NotWhole (list : List Hand) : Option (List Int × Bool) :=
  (M.spec_l17Good list).bind fun y0 =>
  bif (!y0) then (
    some (([] : List Int), false))
  else (
    (M.spec_l17Turns list).bind fun y1 =>
    (iterO (M.spec_NotWhole_l0 list y1) (([] : List Int), (0 : Int))).bind fun e => match e with
    | out_ =>
      (some (out_, true)))

def M.spec_DrawSuspects (code : List Int) : Option (List Hand × Int) :=
  (M.spec_DrawChainOf code).bind fun y0 =>
  some (y0.1, y0.2)

def M.spec_Suspects_l0 (list : List Hand) (record : Int) (y2 : List (List Int)) : (List Int × Int) → Option ((List Int × Int) ⊕ (List Int)) := fun st_ => match st_ with
| (out_0, i) =>
  bif (decide (i < (y2.length : Int))) then (
    (((
      asrt ((0 : Int) ≤ i ∧ i < (y2.length : Int)) <|
      asrt ((0 : Int) ≤ (1 : Int) ∧ (1 : Int) < ((y2.getD (Int.toNat i) default).length : Int)) <|
      asrt ((0 : Int) ≤ ((y2.getD (Int.toNat i) default).getD (Int.toNat (1 : Int)) default) ∧ ((y2.getD (Int.toNat i) default).getD (Int.toNat (1 : Int)) default) < (list.length : Int)) <|
      ((bif (((list.getD (Int.toNat ((y2.getD (Int.toNat i) default).getD (Int.toNat (1 : Int)) default)) default).Record) == record) then M.spec_l1Has out_0 ((list.getD (Int.toNat ((y2.getD (Int.toNat i) default).getD (Int.toNat (1 : Int)) default)) default).From) else some default)).bind fun y4 =>
      bif ((((list.getD (Int.toNat ((y2.getD (Int.toNat i) default).getD (Int.toNat (1 : Int)) default)) default).Record) == record) && (!y4)) then (
        (M.spec_l1Put out_0 ((list.getD (Int.toNat ((y2.getD (Int.toNat i) default).getD (Int.toNat (1 : Int)) default)) default).From)).bind fun y5 =>
        some y5)
      else (
        some out_0)) : Option (List Int))).bind fun e => match e with
    | out_1 =>
      (some (.inl (out_1, (IntKind.i64.wrap (i + (1 : Int)))))))
  else (
    some (.inr out_0))

def M.spec_Suspects (list : List Hand) (record : Int) : Option (List Int × Bool) :=
  (M.spec_l17Good list).bind fun y0 =>
  ((bif (!y0) then some default else M.spec_l17Record record)).bind fun y1 =>
  bif ((!y0) || (!y1)) then (
    some (([] : List Int), false))
  else (
    (M.spec_l17Turns list).bind fun y2 =>
    (iterO (M.spec_Suspects_l0 list record y2) (([] : List Int), (0 : Int))).bind fun e => match e with
    | out_ =>
      (some (out_, true)))

def M.spec_DrawDaysHeld (code : List Int) : Option (List Hand × Int × Int × Int) :=
  (M.spec_l1Cur_hands (⟨code, (0 : Int), (0 : Int)⟩ : Cur)).bind fun y0 =>
  (M.spec_l1Cur_record17 y0.2).bind fun y1 =>
  (M.spec_l1Cur_pick y1.2 (24 : Int)).bind fun y2 =>
  asrt ((0 : Int) ≤ (0 : Int) ∧ (0 : Int) ≤ (IntKind.i64.wrap ((5 : Int) + (IntKind.i64.wrap (Int.tdiv y2.1 (11 : Int))))) ∧ (IntKind.i64.wrap ((5 : Int) + (IntKind.i64.wrap (Int.tdiv y2.1 (11 : Int))))) ≤ (([(1 : Int), (2 : Int), (3 : Int), (4 : Int), (20 : Int), (0 : Int), (21 : Int)] : List Int).length : Int)) <|
  (M.spec_l1Cur_among y2.2 (slc ([(1 : Int), (2 : Int), (3 : Int), (4 : Int), (20 : Int), (0 : Int), (21 : Int)] : List Int) (0 : Int) (IntKind.i64.wrap ((5 : Int) + (IntKind.i64.wrap (Int.tdiv y2.1 (11 : Int))))))).bind fun y3 =>
  (M.spec_l1Cur_day17 y3.2).bind fun y4 =>
  some (y0.1, y1.1, y3.1, y4.1)

def M.impl_DaysHeld_l0 (list : List Hand) (record : Int) (who : Int) (day : Int) : (Int × Int) → Option ((Int × Int) ⊕ (Int)) := fun st_ => match st_ with
| (sum_0, v) =>
  bif (decide (v < (list.length : Int))) then (
    (((
      asrt ((0 : Int) ≤ v ∧ v < (list.length : Int)) <|
      bif (((((list.getD (Int.toNat v) default).Record) != record) || (((list.getD (Int.toNat v) default).To) != who)) || (decide (((list.getD (Int.toNat v) default).Day) > day))) then (
        some sum_0)
      else (
        (((
          (M.impl_next list record (IntKind.i64.wrap (v + (1 : Int)))).bind fun y5 =>
          bif (decide (y5 ≥ (0 : Int))) then (
            asrt ((0 : Int) ≤ y5 ∧ y5 < (list.length : Int)) <|
            some (bif decide (((list.getD (Int.toNat y5) default).Day) < day) then ((list.getD (Int.toNat y5) default).Day) else day))
          else (
            some day)) : Option Int)).bind fun e => match e with
        | end_ =>
          (some (IntKind.i64.wrap (sum_0 + (IntKind.i64.wrap (end_ - ((list.getD (Int.toNat v) default).Day)))))))) : Option Int)).bind fun e => match e with
    | sum_1 =>
      (some (.inl (sum_1, (IntKind.i64.wrap (v + (1 : Int)))))))
  else (
    some (.inr sum_0))

def M.impl_DaysHeld (list : List Hand) (record : Int) (who : Int) (day : Int) : Option (Int × Bool) :=
  (M.impl_IsCustody list).bind fun y0 =>
  ((bif (!y0) then some default else M.impl_isRecordId record)).bind fun y1 =>
  ((bif ((!y0) || (!y1)) then some default else M.impl_isPerson who)).bind fun y2 =>
  ((bif (((!y0) || (!y1)) || (!y2)) then some default else M.impl_isDay day)).bind fun y3 =>
  bif ((((!y0) || (!y1)) || (!y2)) || (!y3)) then (
    some ((0 : Int), false))
  else (
    (iterO (M.impl_DaysHeld_l0 list record who day) ((0 : Int), (0 : Int))).bind fun e => match e with
    | sum_ =>
      (some (sum_, true)))

def M.spec_DaysHeld_l1 (list : List Hand) (record : Int) (day : Int) (i : Int) : (Int × Int) → Option ((Int × Int) ⊕ (Int)) := fun st_ => match st_ with
| (end_0, k) =>
  bif (decide (k > i)) then (
    (((
      asrt ((0 : Int) ≤ k ∧ k < (list.length : Int)) <|
      asrt ((((list.getD (Int.toNat k) default).Record) == record) = true → ((0 : Int) ≤ k ∧ k < (list.length : Int))) <|
      bif ((((list.getD (Int.toNat k) default).Record) == record) && (decide (((list.getD (Int.toNat k) default).Day) < day))) then (
        asrt ((0 : Int) ≤ k ∧ k < (list.length : Int)) <|
        some ((list.getD (Int.toNat k) default).Day))
      else (
        some end_0)) : Option Int)).bind fun e => match e with
    | end_1 =>
      (some (.inl (end_1, (IntKind.i64.wrap (k - (1 : Int)))))))
  else (
    some (.inr end_0))

def M.spec_DaysHeld_l0 (list : List Hand) (record : Int) (who : Int) (day : Int) : (Int × Int) → Option ((Int × Int) ⊕ (Int)) := fun st_ => match st_ with
| (sum_0, i) =>
  bif (decide (i < (list.length : Int))) then (
    (((
      asrt ((0 : Int) ≤ i ∧ i < (list.length : Int)) <|
      bif (((((list.getD (Int.toNat i) default).Record) != record) || (((list.getD (Int.toNat i) default).To) != who)) || (decide (((list.getD (Int.toNat i) default).Day) > day))) then (
        some sum_0)
      else (
        (iterO (M.spec_DaysHeld_l1 list record day i) (day, (IntKind.i64.wrap ((list.length : Int) - (1 : Int))))).bind fun e => match e with
        | end_ =>
          (some (IntKind.i64.wrap ((IntKind.i64.wrap (sum_0 + end_)) - ((list.getD (Int.toNat i) default).Day)))))) : Option Int)).bind fun e => match e with
    | sum_1 =>
      (some (.inl (sum_1, (IntKind.i64.wrap (i + (1 : Int)))))))
  else (
    some (.inr sum_0))

def M.spec_DaysHeld (list : List Hand) (record : Int) (who : Int) (day : Int) : Option (Int × Bool) :=
  (M.spec_l17Good list).bind fun y0 =>
  ((bif (!y0) then some default else M.spec_l17Record record)).bind fun y1 =>
  ((bif ((!y0) || (!y1)) then some default else M.spec_l17Who who)).bind fun y2 =>
  ((bif (((!y0) || (!y1)) || (!y2)) then some default else M.spec_l2Day day)).bind fun y3 =>
  bif ((((!y0) || (!y1)) || (!y2)) || (!y3)) then (
    some ((0 : Int), false))
  else (
    (iterO (M.spec_DaysHeld_l0 list record who day) ((0 : Int), (0 : Int))).bind fun e => match e with
    | sum_ =>
      (some (sum_, true)))

def M.laws_szHandS (a : List Hand) (left : Int) : Option Int :=
  bif (decide ((IntKind.i64.wrap (left - (a.length : Int))) < (0 : Int))) then (
    some (-1 : Int))
  else (
    some (IntKind.i64.wrap (left - (a.length : Int))))

def M.laws_toHand (a : Hand) : Option Hand :=
  some (⟨a.Record, a.From, a.To, a.Day, a.Sum, a.Seal⟩ : Hand)

def M.laws_toHandS_l0 (a : List Hand) : (List Hand × Int) → Option ((List Hand × Int) ⊕ (List Hand)) := fun st_ => match st_ with
| (out_0, i) =>
  bif (decide (i < (a.length : Int))) then (
    asrt ((0 : Int) ≤ i ∧ i < (a.length : Int)) <|
    (M.laws_toHand (a.getD (Int.toNat i) default)).bind fun y1 =>
    asrt ((0 : Int) ≤ i ∧ i < (out_0.length : Int)) <|
    some (.inl ((out_0.set (Int.toNat i) y1), (IntKind.i64.wrap (i + (1 : Int))))))
  else (
    some (.inr out_0))

def M.laws_toHandS (a : List Hand) : Option (List Hand) :=
  asrt ((0 : Int) ≤ (a.length : Int) ∧ (a.length : Int) ≤ (a.length : Int) ∧ (a.length : Int) ≤ 2147483648) <|
  (iterO (M.laws_toHandS_l0 a) ((List.replicate (Int.toNat (a.length : Int)) (⟨(0 : Int), (0 : Int), (0 : Int), (0 : Int), (0 : Int), false⟩ : Hand)), (0 : Int))).bind fun e => match e with
  | out_ =>
    (some out_)

def M.laws_eqIntS_l0 (a : List Int) (b_ : List Int) : (Int) → Option ((Int) ⊕ ((Unit) ⊕ (Bool))) := fun st_ => match st_ with
| i =>
  bif (decide (i < (a.length : Int))) then (
    asrt ((0 : Int) ≤ i ∧ i < (a.length : Int)) <|
    asrt ((0 : Int) ≤ i ∧ i < (b_.length : Int)) <|
    bif ((a.getD (Int.toNat i) default) != (b_.getD (Int.toNat i) default)) then (
      some (.inr (.inr false)))
    else (
      some (.inl (IntKind.i64.wrap (i + (1 : Int))))))
  else (
    some (.inr (.inl ())))

def M.laws_eqIntS (a : List Int) (b_ : List Int) : Option Bool :=
  bif ((a.length : Int) != (b_.length : Int)) then (
    some false)
  else (
    (iterO (M.laws_eqIntS_l0 a b_) (0 : Int)).bind fun e => match e with
    | .inl () =>
      (some true)
    | .inr r => some r)

def M.laws_eqIntSS_l0 (a : List (List Int)) (b_ : List (List Int)) : (Int) → Option ((Int) ⊕ ((Unit) ⊕ (Bool))) := fun st_ => match st_ with
| i =>
  bif (decide (i < (a.length : Int))) then (
    asrt ((0 : Int) ≤ i ∧ i < (a.length : Int)) <|
    asrt ((0 : Int) ≤ i ∧ i < (b_.length : Int)) <|
    (M.laws_eqIntS (a.getD (Int.toNat i) default) (b_.getD (Int.toNat i) default)).bind fun y1 =>
    bif (!y1) then (
      some (.inr (.inr false)))
    else (
      some (.inl (IntKind.i64.wrap (i + (1 : Int))))))
  else (
    some (.inr (.inl ())))

def M.laws_eqIntSS (a : List (List Int)) (b_ : List (List Int)) : Option Bool :=
  bif ((a.length : Int) != (b_.length : Int)) then (
    some false)
  else (
    (iterO (M.laws_eqIntSS_l0 a b_) (0 : Int)).bind fun e => match e with
    | .inl () =>
      (some true)
    | .inr r => some r)

def M.laws_eqHand (a : Hand) (b_ : Hand) : Option Bool :=
  bif (a.Record != b_.Record) then (
    some false)
  else (
    bif (a.From != b_.From) then (
      some false)
    else (
      bif (a.To != b_.To) then (
        some false)
      else (
        bif (a.Day != b_.Day) then (
          some false)
        else (
          bif (a.Sum != b_.Sum) then (
            some false)
          else (
            bif (!(a.Seal == b_.Seal)) then (
              some false)
            else (
              some true))))))

def M.laws_eqHandS_l0 (a : List Hand) (b_ : List Hand) : (Int) → Option ((Int) ⊕ ((Unit) ⊕ (Bool))) := fun st_ => match st_ with
| i =>
  bif (decide (i < (a.length : Int))) then (
    asrt ((0 : Int) ≤ i ∧ i < (a.length : Int)) <|
    asrt ((0 : Int) ≤ i ∧ i < (b_.length : Int)) <|
    (M.laws_eqHand (a.getD (Int.toNat i) default) (b_.getD (Int.toNat i) default)).bind fun y1 =>
    bif (!y1) then (
      some (.inr (.inr false)))
    else (
      some (.inl (IntKind.i64.wrap (i + (1 : Int))))))
  else (
    some (.inr (.inl ())))

def M.laws_eqHandS (a : List Hand) (b_ : List Hand) : Option Bool :=
  bif ((a.length : Int) != (b_.length : Int)) then (
    some false)
  else (
    (iterO (M.laws_eqHandS_l0 a b_) (0 : Int)).bind fun e => match e with
    | .inl () =>
      (some true)
    | .inr r => some r)

def M.laws_markIntS_l0 : (List Int × Int × Int) → Option ((List Int × Int × Int) ⊕ (List Int × Int)) := fun st_ => match st_ with
| (a1, k1, i) =>
  bif (decide (i < (a1.length : Int))) then (
    asrt ((0 : Int) ≤ i ∧ i < (a1.length : Int)) <|
    some (.inl ((a1.set (Int.toNat i) k1), (IntKind.i64.wrap (k1 + (1 : Int))), (IntKind.i64.wrap (i + (1 : Int))))))
  else (
    some (.inr (a1, k1)))

def M.laws_markIntS (a : List Int) (k : Int) : Option (Int × List Int) :=
  (iterO (M.laws_markIntS_l0) (a, k, (0 : Int))).bind fun e => match e with
  | (a0, k0) =>
    (some (k0, a0))

def M.laws_heldIntS_l0 (a : List Int) : (Int × Int) → Option ((Int × Int) ⊕ ((Int) ⊕ (Int))) := fun st_ => match st_ with
| (k1, i) =>
  bif (decide (i < (a.length : Int))) then (
    asrt ((0 : Int) ≤ i ∧ i < (a.length : Int)) <|
    bif ((a.getD (Int.toNat i) default) != k1) then (
      some (.inr (.inr (-1 : Int))))
    else (
      some (.inl ((IntKind.i64.wrap (k1 + (1 : Int))), (IntKind.i64.wrap (i + (1 : Int)))))))
  else (
    some (.inr (.inl k1)))

def M.laws_heldIntS (a : List Int) (k : Int) : Option Int :=
  (iterO (M.laws_heldIntS_l0 a) (k, (0 : Int))).bind fun e => match e with
  | .inl k0 =>
    (some k0)
  | .inr r => some r

def M.laws_heldIntSS_l0 (a : List (List Int)) : (Int × Int) → Option ((Int × Int) ⊕ ((Int) ⊕ (Int))) := fun st_ => match st_ with
| (k1, i) =>
  bif (decide (i < (a.length : Int))) then (
    asrt ((0 : Int) ≤ i ∧ i < (a.length : Int)) <|
    (M.laws_heldIntS (a.getD (Int.toNat i) default) k1).bind fun y1 =>
    bif (decide (y1 < (0 : Int))) then (
      some (.inr (.inr (-1 : Int))))
    else (
      some (.inl (y1, (IntKind.i64.wrap (i + (1 : Int)))))))
  else (
    some (.inr (.inl k1)))

def M.laws_heldIntSS (a : List (List Int)) (k : Int) : Option Int :=
  (iterO (M.laws_heldIntSS_l0 a) (k, (0 : Int))).bind fun e => match e with
  | .inl k0 =>
    (some k0)
  | .inr r => some r
end Go.Proofs.Ytjbgllhimnopaaa
