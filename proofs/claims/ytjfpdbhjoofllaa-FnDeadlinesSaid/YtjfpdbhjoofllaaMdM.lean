/- models of the functions -/
import Derived.Test.YtjfpdbhjoofllaaWj
set_option linter.unusedSimpArgs false
set_option linter.unusedVariables false
set_option maxRecDepth 100000
namespace Go.Proofs.Ytjfpdbhjoofllaa
open Go.VS

structure Cur where
  Code : List Int
  At : Int
  Seed : Int
  deriving Inhabited, DecidableEq

abbrev encCur (ρ : Nat) (c : Cur) : PV := .agg [.vl ρ 1 (List.map encU8 c.Code), .int .i64 c.At, .int .u64 c.Seed]

structure Request where
  Id : Int
  Came : Int
  Working : Int
  Extended : Int
  Stops : List (Int × Int)
  deriving Inhabited, DecidableEq

abbrev encRequest (ρ : Nat) (c : Request) : PV := .agg [.int .i64 c.Id, .int .i64 c.Came, .int .i64 c.Working, .int .i64 c.Extended, .vl ρ 2 (List.map encPair c.Stops)]

def M.laws_vBig (code : List Int) : Option Bool :=
  some (decide ((code.length : Int) > (65536 : Int)))

def M.spec_l1Cur_next (c : Cur) : Option (Int × Cur) :=
  (((
    bif (decide (c.At < (c.Code.length : Int))) then (
      asrt ((0 : Int) ≤ c.At ∧ c.At < (c.Code.length : Int)) <|
      some (IntKind.i64.wrap (c.Code.getD (Int.toNat c.At) default)))
    else (
      some (0 : Int))) : Option Int)).bind fun e => match e with
  | b_ =>
    (bif (decide ((IntKind.i64.wrap (c.At + (1 : Int))) ≤ (c.Code.length : Int))) then (
      some (b_, (⟨c.Code, (IntKind.i64.wrap (c.At + (1 : Int))), (IntKind.u64.wrap ((IntKind.u64.wrap ((IntKind.u64.wrap (c.Seed * (6364136223846793005 : Int))) + (IntKind.u64.wrap b_))) + (103535 : Int)))⟩ : Cur)))
    else (
      some ((IntKind.i64.wrap (IntKind.u64.wrap (BitVec.ofInt IntKind.u64.bits (Int.fdiv (IntKind.u64.wrap ((IntKind.u64.wrap ((IntKind.u64.wrap (c.Seed * (6364136223846793005 : Int))) + (IntKind.u64.wrap b_))) + (103535 : Int))) (2 ^ (min (Int.toNat (40 : Int)) IntKind.u64.bits))) &&& BitVec.ofInt IntKind.u64.bits (255 : Int)).toNat)), (⟨c.Code, (IntKind.i64.wrap (c.At + (1 : Int))), (IntKind.u64.wrap ((IntKind.u64.wrap ((IntKind.u64.wrap (c.Seed * (6364136223846793005 : Int))) + (IntKind.u64.wrap b_))) + (103535 : Int)))⟩ : Cur))))

def M.spec_l1Cur_pick (c : Cur) (n : Int) : Option (Int × Cur) :=
  bif (decide (n ≤ (1 : Int))) then (
    some ((0 : Int), c))
  else (
    (M.spec_l1Cur_next c).bind fun y0 =>
    (((
      bif (decide (n > (200 : Int))) then (
        (M.spec_l1Cur_next y0.2).bind fun y1 =>
        some ((IntKind.i64.wrap ((IntKind.i64.wrap (y0.1 * (256 : Int))) + y1.1)), y1.2))
      else (
        some (y0.1, y0.2))) : Option (Int × Cur))).bind fun e => match e with
    | (x, c_) =>
      (asrt (n ≠ 0) <|
      some ((Int.tmod x n), c_)))

def M.spec_l1Cur_among (c : Cur) (list : List Int) : Option (Int × Cur) :=
  (M.spec_l1Cur_pick c (list.length : Int)).bind fun y0 =>
  asrt ((0 : Int) ≤ y0.1 ∧ y0.1 < (list.length : Int)) <|
  some ((list.getD (Int.toNat y0.1) default), y0.2)

def M.spec_l1Cur_request_l0 : (Int × Int × (List (Int × Int)) × Cur) → Option ((Int × Int × (List (Int × Int)) × Cur) ⊕ (Int × (List (Int × Int)) × Cur)) := fun st_ => match st_ with
| (at_0, n_, r_Stops0, c_0) =>
  bif (decide (n_ > (0 : Int))) then (
    (M.spec_l1Cur_among c_0 ([(0 : Int), (1 : Int), (5 : Int), (12 : Int)] : List Int)).bind fun y5 =>
    (M.spec_l1Cur_among y5.2 ([(0 : Int), (1 : Int), (3 : Int), (10 : Int)] : List Int)).bind fun y6 =>
    asrt ((r_Stops0.length : Int) + (([((IntKind.i64.wrap (at_0 + y5.1)), (IntKind.i64.wrap ((IntKind.i64.wrap (at_0 + y5.1)) + y6.1)))] : List (Int × Int)).length : Int) ≤ 2147483648) <|
    some (.inl ((IntKind.i64.wrap ((IntKind.i64.wrap ((IntKind.i64.wrap (at_0 + y5.1)) + y6.1)) + (1 : Int))), (IntKind.i64.wrap (n_ - (1 : Int))), (r_Stops0 ++ ([((IntKind.i64.wrap (at_0 + y5.1)), (IntKind.i64.wrap ((IntKind.i64.wrap (at_0 + y5.1)) + y6.1)))] : List (Int × Int))), y6.2)))
  else (
    some (.inr (at_0, r_Stops0, c_0)))

def M.spec_l1Cur_request (c : Cur) (id_ : Int) : Option (Request × Cur) :=
  (M.spec_l1Cur_among c ([(0 : Int), (4 : Int), (5 : Int), (6 : Int), (100 : Int), (1000 : Int), (19900 : Int)] : List Int)).bind fun y0 =>
  (M.spec_l1Cur_among y0.2 ([(1 : Int), (5 : Int), (20 : Int), (20 : Int), (60 : Int)] : List Int)).bind fun y1 =>
  (M.spec_l1Cur_among y1.2 ([(0 : Int), (0 : Int), (10 : Int), (40 : Int)] : List Int)).bind fun y2 =>
  (M.spec_l1Cur_pick y2.2 (3 : Int)).bind fun y3 =>
  (iterO (M.spec_l1Cur_request_l0) ((IntKind.i64.wrap (y0.1 + (1 : Int))), y3.1, ([] : List (Int × Int)), y3.2)).bind fun e => match e with
  | (at_, r_Stops, c_) =>
    ((M.spec_l1Cur_pick c_ (40 : Int)).bind fun y7 =>
    (((
      bif (y7.1 == (0 : Int)) then (
        (M.spec_l1Cur_among y7.2 ([(0 : Int), (61 : Int)] : List Int)).bind fun y8 =>
        some (y0.1, y8.1, y2.1, r_Stops, y8.2))
      else (
        bif (y7.1 == (1 : Int)) then (
          (M.spec_l1Cur_among y7.2 ([(-1 : Int), (41 : Int)] : List Int)).bind fun y9 =>
          some (y0.1, y1.1, y9.1, r_Stops, y9.2))
        else (
          bif (y7.1 == (2 : Int)) then (
            (M.spec_l1Cur_among y7.2 ([(0 : Int), at_, (19990 : Int)] : List Int)).bind fun y10 =>
            (M.spec_l1Cur_among y10.2 ([(0 : Int), at_, (20001 : Int)] : List Int)).bind fun y11 =>
            asrt ((r_Stops.length : Int) + (([(y10.1, y11.1)] : List (Int × Int)).length : Int) ≤ 2147483648) <|
            (((
              some ((r_Stops ++ ([(y10.1, y11.1)] : List (Int × Int))), y11.2)) : Option ((List (Int × Int)) × Cur))).bind fun e => match e with
            | (r_Stops2, o) =>
              (some (y0.1, y1.1, y2.1, r_Stops2, o)))
          else (
            bif (y7.1 == (3 : Int)) then (
              (M.spec_l1Cur_among y7.2 ([(-1 : Int), (20000 : Int), (20001 : Int)] : List Int)).bind fun y12 =>
              some (y12.1, y1.1, y2.1, r_Stops, y12.2))
            else (
              some (y0.1, y1.1, y2.1, r_Stops, y7.2)))))) : Option (Int × Int × Int × (List (Int × Int)) × Cur))).bind fun e => match e with
    | (r_Came, r_Working, r_Extended, r_Stops1, c_1) =>
      (some ((⟨id_, r_Came, r_Working, r_Extended, r_Stops1⟩ : Request), c_1)))

def M.spec_DrawStopClock (code : List Int) : Option (Request × Int × Int) :=
  (M.spec_l1Cur_request (⟨code, (0 : Int), (0 : Int)⟩ : Cur) (9 : Int)).bind fun y0 =>
  (M.spec_l1Cur_among y0.2 ([(1 : Int), (10 : Int), (40 : Int), (60 : Int)] : List Int)).bind fun y1 =>
  (M.spec_l1Cur_among y1.2 ([(0 : Int), (5 : Int), (20 : Int), (-1 : Int)] : List Int)).bind fun y2 =>
  some (y0.1, (IntKind.i64.wrap (y0.1.Came + y1.1)), (IntKind.i64.wrap ((IntKind.i64.wrap (y0.1.Came + y1.1)) + y2.1)))

def M.impl_within (n : Int) (low : Int) (high : Int) : Option Bool :=
  some ((decide (low ≤ n)) && (decide (n ≤ high)))

def M.impl_isId (id_ : Int) : Option Bool :=
  (M.impl_within id_ (1 : Int) (99 : Int)).bind fun y0 =>
  some y0

def M.impl_isDay (day : Int) : Option Bool :=
  (M.impl_within day (0 : Int) (20000 : Int)).bind fun y0 =>
  some y0

def M.impl_areDays (from_ : Int) (to_ : Int) : Option Bool :=
  (M.impl_isDay from_).bind fun y0 =>
  ((bif y0 then M.impl_isDay to_ else some default)).bind fun y1 =>
  some ((y0 && y1) && (decide (from_ ≤ to_)))

def M.impl_IsRequest_l0 (r_ : Request) : (Int × Int) → Option ((Int × Int) ⊕ ((Unit) ⊕ (Bool))) := fun st_ => match st_ with
| (before, v) =>
  bif (decide (v < (r_.Stops.length : Int))) then (
    asrt ((0 : Int) ≤ v ∧ v < (r_.Stops.length : Int)) <|
    ((bif (decide (((r_.Stops.getD (Int.toNat v) default).1) ≤ before)) then some default else M.impl_areDays ((r_.Stops.getD (Int.toNat v) default).1) ((r_.Stops.getD (Int.toNat v) default).2))).bind fun y5 =>
    bif ((decide (((r_.Stops.getD (Int.toNat v) default).1) ≤ before)) || (!y5)) then (
      some (.inr (.inr false)))
    else (
      some (.inl ((r_.Stops.getD (Int.toNat v) default).2, (IntKind.i64.wrap (v + (1 : Int)))))))
  else (
    some (.inr (.inl ())))

def M.impl_IsRequest (r_ : Request) : Option Bool :=
  (M.impl_isId r_.Id).bind fun y0 =>
  ((bif (!y0) then some default else M.impl_isDay r_.Came)).bind fun y1 =>
  ((bif ((!y0) || (!y1)) then some default else M.impl_within r_.Working (1 : Int) (60 : Int))).bind fun y2 =>
  ((bif (((!y0) || (!y1)) || (!y2)) then some default else M.impl_within r_.Extended (0 : Int) (40 : Int))).bind fun y3 =>
  bif (((((!y0) || (!y1)) || (!y2)) || (!y3)) || (decide ((r_.Stops.length : Int) > (4 : Int)))) then (
    some false)
  else (
    (iterO (M.impl_IsRequest_l0 r_) (r_.Came, (0 : Int))).bind fun e => match e with
    | .inl () =>
      (some true)
    | .inr r => some r)

def M.slices_Clone_2_int_2_int (s : List (Int × Int)) : Option (List (Int × Int)) := asrt ((s.length : Int) ≤ 2147483648) <| some s

def M.impl_StopClock (r_ : Request) (from_ : Int) (to_ : Int) : Option (Request × Bool) :=
  (M.impl_IsRequest r_).bind fun y0 =>
  bif (!y0) then (
    some ((⟨(0 : Int), (0 : Int), (0 : Int), (0 : Int), ([] : List (Int × Int))⟩ : Request), false))
  else (
    (M.slices_Clone_2_int_2_int r_.Stops).bind fun y1 =>
    asrt ((y1.length : Int) + (([(from_, to_)] : List (Int × Int)).length : Int) ≤ 2147483648) <|
    (M.impl_IsRequest (⟨r_.Id, r_.Came, r_.Working, r_.Extended, (y1 ++ ([(from_, to_)] : List (Int × Int)))⟩ : Request)).bind fun y2 =>
    bif (!y2) then (
      some ((⟨(0 : Int), (0 : Int), (0 : Int), (0 : Int), ([] : List (Int × Int))⟩ : Request), false))
    else (
      some ((⟨r_.Id, r_.Came, r_.Working, r_.Extended, (y1 ++ ([(from_, to_)] : List (Int × Int)))⟩ : Request), true)))

def M.spec_l13Own (r_ : Request) : Option Request :=
  asrt ((([] : List (Int × Int)).length : Int) + (r_.Stops.length : Int) ≤ 2147483648) <|
  some (⟨r_.Id, r_.Came, r_.Working, r_.Extended, (([] : List (Int × Int)) ++ r_.Stops)⟩ : Request)

def M.spec_l1In (x : Int) (a : Int) (b_ : Int) : Option Bool :=
  some ((decide (x ≥ a)) && (decide (x ≤ b_)))

def M.spec_l2Day (d : Int) : Option Bool :=
  (M.spec_l1In d (0 : Int) (20000 : Int)).bind fun y0 =>
  some y0

def M.spec_l13Good_l0 (r_ : Request) : (Int × Int) → Option ((Int × Int) ⊕ ((Unit) ⊕ (Bool))) := fun st_ => match st_ with
| (last, i) =>
  bif (decide (i < (r_.Stops.length : Int))) then (
    asrt ((0 : Int) ≤ i ∧ i < (r_.Stops.length : Int)) <|
    asrt ((0 : Int) ≤ i ∧ i < (r_.Stops.length : Int)) <|
    bif (((decide (((r_.Stops.getD (Int.toNat i) default).1) ≤ last)) || (decide (((r_.Stops.getD (Int.toNat i) default).2) < ((r_.Stops.getD (Int.toNat i) default).1)))) || (decide (((r_.Stops.getD (Int.toNat i) default).2) > (20000 : Int)))) then (
      some (.inr (.inr false)))
    else (
      some (.inl ((r_.Stops.getD (Int.toNat i) default).2, (IntKind.i64.wrap (i + (1 : Int)))))))
  else (
    some (.inr (.inl ())))

def M.spec_l13Good (r_ : Request) : Option Bool :=
  (M.spec_l1In r_.Id (1 : Int) (99 : Int)).bind fun y0 =>
  ((bif (!y0) then some default else M.spec_l2Day r_.Came)).bind fun y1 =>
  ((bif ((!y0) || (!y1)) then some default else M.spec_l1In r_.Working (1 : Int) (60 : Int))).bind fun y2 =>
  ((bif (((!y0) || (!y1)) || (!y2)) then some default else M.spec_l1In r_.Extended (0 : Int) (40 : Int))).bind fun y3 =>
  bif (((((!y0) || (!y1)) || (!y2)) || (!y3)) || (decide ((r_.Stops.length : Int) > (4 : Int)))) then (
    some false)
  else (
    (iterO (M.spec_l13Good_l0 r_) (r_.Came, (0 : Int))).bind fun e => match e with
    | .inl () =>
      (some true)
    | .inr r => some r)

def M.spec_StopClock (r_ : Request) (from_ : Int) (to_ : Int) : Option (Request × Bool) :=
  (M.spec_l13Own r_).bind fun y0 =>
  asrt ((y0.Stops.length : Int) + (([(from_, to_)] : List (Int × Int)).length : Int) ≤ 2147483648) <|
  (M.spec_l13Good r_).bind fun y1 =>
  ((bif (!y1) then some default else M.spec_l13Good (⟨y0.Id, y0.Came, y0.Working, y0.Extended, (y0.Stops ++ ([(from_, to_)] : List (Int × Int)))⟩ : Request))).bind fun y2 =>
  bif ((!y1) || (!y2)) then (
    some ((⟨(0 : Int), (0 : Int), (0 : Int), (0 : Int), ([] : List (Int × Int))⟩ : Request), false))
  else (
    some ((⟨y0.Id, y0.Came, y0.Working, y0.Extended, (y0.Stops ++ ([(from_, to_)] : List (Int × Int)))⟩ : Request), true))

def M.laws_vPairs_l0 (a : List (Int × Int)) (b_ : List (Int × Int)) : (Int) → Option ((Int) ⊕ ((Unit) ⊕ (Bool))) := fun st_ => match st_ with
| i =>
  bif (decide (i < (a.length : Int))) then (
    asrt ((0 : Int) ≤ i ∧ i < (a.length : Int)) <|
    asrt ((0 : Int) ≤ i ∧ i < (b_.length : Int)) <|
    bif (!((((a.getD (Int.toNat i) default).1) == ((b_.getD (Int.toNat i) default).1)) && (((a.getD (Int.toNat i) default).2) == ((b_.getD (Int.toNat i) default).2)))) then (
      some (.inr (.inr false)))
    else (
      some (.inl (IntKind.i64.wrap (i + (1 : Int))))))
  else (
    some (.inr (.inl ())))

def M.laws_vPairs (a : List (Int × Int)) (b_ : List (Int × Int)) : Option Bool :=
  bif ((a.length : Int) != (b_.length : Int)) then (
    some false)
  else (
    (iterO (M.laws_vPairs_l0 a b_) (0 : Int)).bind fun e => match e with
    | .inl () =>
      (some true)
    | .inr r => some r)

def M.laws_vRequest (a : Request) (b_ : Request) : Option Bool :=
  ((bif ((((a.Id == b_.Id) && (a.Came == b_.Came)) && (a.Working == b_.Working)) && (a.Extended == b_.Extended)) then M.laws_vPairs a.Stops b_.Stops else some default)).bind fun y0 =>
  some (((((a.Id == b_.Id) && (a.Came == b_.Came)) && (a.Working == b_.Working)) && (a.Extended == b_.Extended)) && y0)

def M.spec_IsRequest (r_ : Request) : Option Bool :=
  (M.spec_l13Good r_).bind fun y0 =>
  some y0

def M.impl_isWorkingDay (day : Int) : Option Bool :=
  some (decide ((Int.tmod day (7 : Int)) < (5 : Int)))

def M.impl_Request_counts_1 (s : Int × Int) (day : Int) : Option Bool :=
  (M.impl_within day s.1 s.2).bind fun y0 =>
  some y0

def M.slices_IndexFunc_2_int_2_int_l0 (s : List (Int × Int)) (fm : (Int × Int) → Option Bool) : (Int) → Option ((Int) ⊕ ((Unit) ⊕ (Int))) := fun st_ => match st_ with
| v =>
  bif (decide (v < (s.length : Int))) then (
    asrt ((0 : Int) ≤ v ∧ v < (s.length : Int)) <|
    (fm (s.getD (Int.toNat v) default)).bind fun y1 =>
    bif y1 then (
      some (.inr (.inr v)))
    else (
      some (.inl (IntKind.i64.wrap (v + (1 : Int))))))
  else (
    some (.inr (.inl ())))

def M.slices_IndexFunc_2_int_2_int (s : List (Int × Int)) (fm : (Int × Int) → Option Bool) : Option Int :=
  (iterO (M.slices_IndexFunc_2_int_2_int_l0 s fm) (0 : Int)).bind fun e => match e with
  | .inl () =>
    (some (-1 : Int))
  | .inr r => some r

def M.slices_ContainsFunc_2_int_2_int (s : List (Int × Int)) (fm : (Int × Int) → Option Bool) : Option Bool :=
  (M.slices_IndexFunc_2_int_2_int s fm).bind fun y0 =>
  some (decide (y0 ≥ (0 : Int)))

def M.impl_Request_counts (r_ : Request) (day : Int) : Option Bool :=
  (M.impl_isWorkingDay day).bind fun y0 =>
  ((bif y0 then M.slices_ContainsFunc_2_int_2_int r_.Stops (fun x0 => M.impl_Request_counts_1 x0 day) else some default)).bind fun y1 =>
  some (y0 && (!y1))

def M.impl_Request_due_l0 (r_ : Request) : (Int × Int) → Option ((Int × Int) ⊕ ((Unit) ⊕ (Int × Bool))) := fun st_ => match st_ with
| (left, day) =>
  bif (decide (day ≤ (20000 : Int))) then (
    (((
      (((
        (M.impl_Request_counts r_ day).bind fun y1 =>
        bif y1 then (
          some (IntKind.i64.wrap (left - (1 : Int))))
        else (
          some left)) : Option Int)).bind fun e => match e with
      | left1 =>
        (bif (left1 == (0 : Int)) then (
          some (.inr (day, true)))
        else (
          some (.inl left1)))) : Option ((Int) ⊕ (Int × Bool)))).bind fun e => match e with
    | .inl left0 =>
      (some (.inl (left0, (IntKind.i64.wrap (day + (1 : Int))))))
    | .inr r => some (.inr (.inr r)))
  else (
    some (.inr (.inl ())))

def M.impl_Request_due (r_ : Request) : Option (Int × Bool) :=
  (iterO (M.impl_Request_due_l0 r_) ((IntKind.i64.wrap (r_.Working + r_.Extended)), (IntKind.i64.wrap (r_.Came + (1 : Int))))).bind fun e => match e with
  | .inl () =>
    (some ((0 : Int), false))
  | .inr r => some r

def M.impl_RequestDue (r_ : Request) : Option (Int × Bool) :=
  (M.impl_IsRequest r_).bind fun y0 =>
  bif (!y0) then (
    some ((0 : Int), false))
  else (
    (M.impl_Request_due r_).bind fun y1 =>
    some (y1.1, y1.2))

def M.spec_DrawExtendRequest (code : List Int) : Option (Request × Int) :=
  (M.spec_l1Cur_request (⟨code, (0 : Int), (0 : Int)⟩ : Cur) (9 : Int)).bind fun y0 =>
  (M.spec_l1Cur_among y0.2 ([(1 : Int), (5 : Int), (10 : Int), (40 : Int), (0 : Int), (41 : Int)] : List Int)).bind fun y1 =>
  some (y0.1, y1.1)

def M.impl_ExtendRequest (r_ : Request) (n : Int) : Option (Request × Bool) :=
  (M.impl_IsRequest r_).bind fun y0 =>
  ((bif (!y0) then some default else M.impl_within n (1 : Int) (IntKind.i64.wrap ((40 : Int) - r_.Extended)))).bind fun y1 =>
  bif ((!y0) || (!y1)) then (
    some ((⟨(0 : Int), (0 : Int), (0 : Int), (0 : Int), ([] : List (Int × Int))⟩ : Request), false))
  else (
    (M.slices_Clone_2_int_2_int r_.Stops).bind fun y2 =>
    some ((⟨r_.Id, r_.Came, r_.Working, (IntKind.i64.wrap (r_.Extended + n)), y2⟩ : Request), true))

def M.spec_ExtendRequest (r_ : Request) (n : Int) : Option (Request × Bool) :=
  (M.spec_l13Own r_).bind fun y0 =>
  (M.spec_l13Good r_).bind fun y1 =>
  ((bif (!y1) then some default else M.spec_l1In n (1 : Int) (40 : Int))).bind fun y2 =>
  bif ((!y1) || (!y2)) then (
    some ((⟨(0 : Int), (0 : Int), (0 : Int), (0 : Int), ([] : List (Int × Int))⟩ : Request), false))
  else (
    (M.spec_l13Good (⟨y0.Id, y0.Came, y0.Working, (IntKind.i64.wrap (r_.Extended + n)), y0.Stops⟩ : Request)).bind fun y3 =>
    bif (!y3) then (
      some ((⟨(0 : Int), (0 : Int), (0 : Int), (0 : Int), ([] : List (Int × Int))⟩ : Request), false))
    else (
      some ((⟨y0.Id, y0.Came, y0.Working, (IntKind.i64.wrap (r_.Extended + n)), y0.Stops⟩ : Request), true)))

def M.spec_DrawDaysLeftFor (code : List Int) : Option (Request × Int) :=
  (M.spec_l1Cur_request (⟨code, (0 : Int), (0 : Int)⟩ : Cur) (9 : Int)).bind fun y0 =>
  (M.spec_l1Cur_among y0.2 ([(0 : Int), (1 : Int), (3 : Int), (10 : Int), (30 : Int), (100 : Int), (-1 : Int)] : List Int)).bind fun y1 =>
  some (y0.1, (IntKind.i64.wrap (y0.1.Came + y1.1)))

def M.impl_DaysLeftFor_l0 (r_ : Request) (y0 : Int × Bool) : (Int × Int) → Option ((Int × Int) ⊕ (Int)) := fun st_ => match st_ with
| (count0, d) =>
  bif (decide (d ≤ y0.1)) then (
    (((
      (M.impl_Request_counts r_ d).bind fun y3 =>
      bif y3 then (
        some (IntKind.i64.wrap (count0 + (1 : Int))))
      else (
        some count0)) : Option Int)).bind fun e => match e with
    | count1 =>
      (some (.inl (count1, (IntKind.i64.wrap (d + (1 : Int)))))))
  else (
    some (.inr count0))

def M.impl_DaysLeftFor (r_ : Request) (day : Int) : Option (Int × Bool) :=
  (M.impl_RequestDue r_).bind fun y0 =>
  ((bif (!y0.2) then some default else M.impl_areDays r_.Came day)).bind fun y1 =>
  bif ((!y0.2) || (!y1)) then (
    some ((0 : Int), false))
  else (
    (iterO (M.impl_DaysLeftFor_l0 r_ y0) ((0 : Int), (IntKind.i64.wrap (day + (1 : Int))))).bind fun e => match e with
    | count =>
      (some (count, true)))

def M.spec_l13Works (day : Int) : Option Bool :=
  some (decide ((Int.tmod day (7 : Int)) < (5 : Int)))

def M.spec_l13Counts_l0 (r_ : Request) (day : Int) : (Int) → Option ((Int) ⊕ ((Unit) ⊕ (Bool))) := fun st_ => match st_ with
| i =>
  bif (decide (i < (r_.Stops.length : Int))) then (
    asrt ((0 : Int) ≤ i ∧ i < (r_.Stops.length : Int)) <|
    asrt ((0 : Int) ≤ i ∧ i < (r_.Stops.length : Int)) <|
    (M.spec_l1In day ((r_.Stops.getD (Int.toNat i) default).1) ((r_.Stops.getD (Int.toNat i) default).2)).bind fun y1 =>
    bif y1 then (
      some (.inr (.inr false)))
    else (
      some (.inl (IntKind.i64.wrap (i + (1 : Int))))))
  else (
    some (.inr (.inl ())))

def M.spec_l13Counts (r_ : Request) (day : Int) : Option Bool :=
  (iterO (M.spec_l13Counts_l0 r_ day) (0 : Int)).bind fun e => match e with
  | .inl () =>
    ((M.spec_l13Works day).bind fun y2 =>
    some y2)
  | .inr r => some r

def M.spec_l13Due_l0 (r_ : Request) : (Int × Int) → Option ((Int × Int) ⊕ (Int)) := fun st_ => match st_ with
| (day0, n_) =>
  bif (decide (n_ > (0 : Int))) then (
    (((
      (M.spec_l13Counts r_ (IntKind.i64.wrap (day0 + (1 : Int)))).bind fun y1 =>
      bif y1 then (
        some ((IntKind.i64.wrap (day0 + (1 : Int))), (IntKind.i64.wrap (n_ - (1 : Int)))))
      else (
        some ((IntKind.i64.wrap (day0 + (1 : Int))), n_))) : Option (Int × Int))).bind fun e => match e with
    | (day1, n_0) =>
      (some (.inl (day1, n_0))))
  else (
    some (.inr day0))

def M.spec_l13Due (r_ : Request) : Option Int :=
  (iterO (M.spec_l13Due_l0 r_) (r_.Came, (IntKind.i64.wrap (r_.Working + r_.Extended)))).bind fun e => match e with
  | day =>
    (some day)

def M.spec_DaysLeftFor_l0 (r_ : Request) : (Int × Int) → Option ((Int × Int) ⊕ (Int)) := fun st_ => match st_ with
| (n_0, k) =>
  (M.spec_l13Due r_).bind fun y4 =>
  bif (decide (k ≤ y4)) then (
    (((
      (M.spec_l13Counts r_ k).bind fun y5 =>
      bif y5 then (
        some (IntKind.i64.wrap (n_0 + (1 : Int))))
      else (
        some n_0)) : Option Int)).bind fun e => match e with
    | n_1 =>
      (some (.inl (n_1, (IntKind.i64.wrap (k + (1 : Int)))))))
  else (
    some (.inr n_0))

def M.spec_DaysLeftFor (r_ : Request) (day : Int) : Option (Int × Bool) :=
  (M.spec_l13Good r_).bind fun y0 =>
  ((bif (!y0) then some default else M.spec_l2Day day)).bind fun y1 =>
  ((bif (((!y0) || (!y1)) || (decide (day < r_.Came))) then some default else M.spec_l13Due r_)).bind fun y2 =>
  bif ((((!y0) || (!y1)) || (decide (day < r_.Came))) || (decide (y2 > (20000 : Int)))) then (
    some ((0 : Int), false))
  else (
    (iterO (M.spec_DaysLeftFor_l0 r_) ((0 : Int), (IntKind.i64.wrap (day + (1 : Int))))).bind fun e => match e with
    | n_ =>
      (some (n_, true)))

def M.spec_DrawIsRequest (code : List Int) : Option Request :=
  (M.spec_l1Cur_among (⟨code, (0 : Int), (0 : Int)⟩ : Cur) ([(1 : Int), (9 : Int), (99 : Int), (0 : Int), (100 : Int)] : List Int)).bind fun y0 =>
  (M.spec_l1Cur_request y0.2 y0.1).bind fun y1 =>
  some y1.1

def M.spec_DrawRequestDue (code : List Int) : Option Request :=
  (M.spec_DrawIsRequest code).bind fun y0 =>
  some y0

def M.spec_RequestDue (r_ : Request) : Option (Int × Bool) :=
  (M.spec_l13Good r_).bind fun y0 =>
  ((bif (!y0) then some default else M.spec_l13Due r_)).bind fun y1 =>
  bif ((!y0) || (decide (y1 > (20000 : Int)))) then (
    some ((0 : Int), false))
  else (
    (M.spec_l13Due r_).bind fun y2 =>
    some (y2, true))

def M.impl_IsWorkingDay (day : Int) : Option (Bool × Bool) :=
  (M.impl_isDay day).bind fun y0 =>
  bif (!y0) then (
    some (false, false))
  else (
    (M.impl_isWorkingDay day).bind fun y1 =>
    some (y1, true))

def M.laws_FnDeadlines (code : List Int) : Option Bool :=
  (M.laws_vBig code).bind fun y0 =>
  bif y0 then (
    some true)
  else (
    (M.spec_DrawStopClock code).bind fun y1 =>
    (M.impl_StopClock y1.1 y1.2.1 y1.2.2).bind fun y2 =>
    (M.spec_StopClock y1.1 y1.2.1 y1.2.2).bind fun y3 =>
    ((bif (!(y2.2 == y3.2)) then some default else M.laws_vRequest y2.1 y3.1)).bind fun y4 =>
    ((bif ((!(y2.2 == y3.2)) || (!y4)) then some default else M.impl_IsRequest y1.1)).bind fun y5 =>
    ((bif ((!(y2.2 == y3.2)) || (!y4)) then some default else M.spec_IsRequest y1.1)).bind fun y6 =>
    bif (((!(y2.2 == y3.2)) || (!y4)) || (!(y5 == y6))) then (
      some false)
    else (
      (((
        bif y2.2 then (
          (M.impl_RequestDue y1.1).bind fun y7 =>
          (M.impl_RequestDue y2.1).bind fun y8 =>
          bif (y8.2 && ((!y7.2) || (decide (y8.1 < y7.1)))) then (
            some (.inr false))
          else (
            some (.inl ())))
        else (
          some (.inl ()))) : Option ((Unit) ⊕ (Bool)))).bind fun e => match e with
      | .inl () =>
        ((M.spec_DrawExtendRequest code).bind fun y9 =>
        (M.impl_ExtendRequest y9.1 y9.2).bind fun y10 =>
        (M.spec_ExtendRequest y9.1 y9.2).bind fun y11 =>
        ((bif (!(y10.2 == y11.2)) then some default else M.laws_vRequest y10.1 y11.1)).bind fun y12 =>
        bif ((!(y10.2 == y11.2)) || (!y12)) then (
          some false)
        else (
          (((
            bif y10.2 then (
              (M.impl_RequestDue y9.1).bind fun y13 =>
              (M.impl_RequestDue y10.1).bind fun y14 =>
              bif (y14.2 && ((!y13.2) || (decide (y14.1 < (IntKind.i64.wrap (y13.1 + y9.2)))))) then (
                some (.inr false))
              else (
                some (.inl ())))
            else (
              some (.inl ()))) : Option ((Unit) ⊕ (Bool)))).bind fun e => match e with
          | .inl () =>
            ((M.spec_DrawDaysLeftFor code).bind fun y15 =>
            (M.impl_DaysLeftFor y15.1 y15.2).bind fun y16 =>
            (M.spec_DaysLeftFor y15.1 y15.2).bind fun y17 =>
            bif ((y16.1 != y17.1) || (!(y16.2 == y17.2))) then (
              some false)
            else (
              (((
                bif y16.2 then (
                  (M.impl_RequestDue y15.1).bind fun y18 =>
                  (M.impl_DaysLeftFor y15.1 y15.1.Came).bind fun y19 =>
                  bif (((((!y18.2) || (!y19.2)) || (y19.1 != (IntKind.i64.wrap (y15.1.Working + y15.1.Extended)))) || (decide (y16.1 > y19.1))) || (!((y16.1 == (0 : Int)) == (decide (y15.2 ≥ y18.1))))) then (
                    some (.inr false))
                  else (
                    some (.inl ())))
                else (
                  some (.inl ()))) : Option ((Unit) ⊕ (Bool)))).bind fun e => match e with
              | .inl () =>
                ((M.spec_DrawRequestDue code).bind fun y20 =>
                (M.impl_RequestDue y20).bind fun y21 =>
                (M.spec_RequestDue y20).bind fun y22 =>
                bif ((y21.1 != y22.1) || (!(y21.2 == y22.2))) then (
                  some false)
                else (
                  bif y21.2 then (
                    (M.impl_IsWorkingDay y21.1).bind fun y23 =>
                    some ((y23.2 && y23.1) && (decide (y21.1 > y20.Came))))
                  else (
                    some true)))
              | .inr r => some r))
          | .inr r => some r))
      | .inr r => some r))
end Go.Proofs.Ytjfpdbhjoofllaa
