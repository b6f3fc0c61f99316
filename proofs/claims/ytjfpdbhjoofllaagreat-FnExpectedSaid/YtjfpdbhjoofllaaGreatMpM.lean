/- models of the functions -/
import Derived.Test.YtjfpdbhjoofllaaGreatWj
set_option linter.unusedSimpArgs false
set_option linter.unusedVariables false
set_option maxRecDepth 100000
namespace Go.Proofs.YtjfpdbhjoofllaaGreat
open Go.VS

structure Cur where
  Code : List Int
  At : Int
  Seed : Int
  deriving Inhabited, DecidableEq

abbrev encCur (ρ : Nat) (c : Cur) : PV := .agg [.vl ρ 1 (List.map encU8 c.Code), .int .i64 c.At, .int .u64 c.Seed]

structure Trigger where
  Event : Int
  After : Int
  Days : Int
  deriving Inhabited, DecidableEq

abbrev encTrigger (c : Trigger) : PV := .agg [.int .i64 c.Event, .int .i64 c.After, .int .i64 c.Days]

structure Rule where
  Series : Int
  Event : Int
  Days : Int
  Act : Int
  deriving Inhabited, DecidableEq

abbrev encRule (c : Rule) : PV := .agg [.int .i64 c.Series, .int .i64 c.Event, .int .i64 c.Days, .int .i64 c.Act]

structure Event where
  Kind : Int
  Day : Int
  deriving Inhabited, DecidableEq

abbrev encEvent (c : Event) : PV := .agg [.int .i64 c.Kind, .int .i64 c.Day]

structure Record where
  Id : Int
  Series : Int
  Made : Int
  Events : List Event
  deriving Inhabited, DecidableEq

abbrev encRecord (ρ : Nat) (c : Record) : PV := .agg [.int .i64 c.Id, .int .i64 c.Series, .int .i64 c.Made, .vl ρ 2 (List.map encEvent c.Events)]

def M.laws_vBig (code : List Int) : Option Bool :=
  some (decide ((code.length : Int) > (65536 : Int)))

def M.spec_l1Cur_next (c : Cur) : Option (Int × Cur) :=
  (((
    bif (decide (c.At < (c.Code.length : Int))) then (
      asrt ((0 : Int) ≤ c.At ∧ c.At < (c.Code.length : Int)) <|
      some (IntKind.i64.wrap (c.Code.getD (Int.toNat c.At) default)))
    else (
      some (0 : Int))) : Option Int)).bind fun e => match e with
  | b_ =>
    (bif (decide ((IntKind.i64.wrap (c.At + (1 : Int))) ≤ (c.Code.length : Int))) then (
      some (b_, (⟨c.Code, (IntKind.i64.wrap (c.At + (1 : Int))), (IntKind.u64.wrap ((IntKind.u64.wrap ((IntKind.u64.wrap (c.Seed * (6364136223846793005 : Int))) + (IntKind.u64.wrap b_))) + (103535 : Int)))⟩ : Cur)))
    else (
      some ((IntKind.i64.wrap (IntKind.u64.wrap (BitVec.ofInt IntKind.u64.bits (Int.fdiv (IntKind.u64.wrap ((IntKind.u64.wrap ((IntKind.u64.wrap (c.Seed * (6364136223846793005 : Int))) + (IntKind.u64.wrap b_))) + (103535 : Int))) (2 ^ (min (Int.toNat (40 : Int)) IntKind.u64.bits))) &&& BitVec.ofInt IntKind.u64.bits (255 : Int)).toNat)), (⟨c.Code, (IntKind.i64.wrap (c.At + (1 : Int))), (IntKind.u64.wrap ((IntKind.u64.wrap ((IntKind.u64.wrap (c.Seed * (6364136223846793005 : Int))) + (IntKind.u64.wrap b_))) + (103535 : Int)))⟩ : Cur))))

def M.spec_l1Cur_pick (c : Cur) (n : Int) : Option (Int × Cur) :=
  bif (decide (n ≤ (1 : Int))) then (
    some ((0 : Int), c))
  else (
    (M.spec_l1Cur_next c).bind fun y0 =>
    (((
      bif (decide (n > (200 : Int))) then (
        (M.spec_l1Cur_next y0.2).bind fun y1 =>
        some ((IntKind.i64.wrap ((IntKind.i64.wrap (y0.1 * (256 : Int))) + y1.1)), y1.2))
      else (
        some (y0.1, y0.2))) : Option (Int × Cur))).bind fun e => match e with
    | (x, c_) =>
      (asrt (n ≠ 0) <|
      some ((Int.tmod x n), c_)))

def M.spec_l1Cur_one (c : Cur) (n : Int) : Option (Bool × Cur) :=
  (M.spec_l1Cur_pick c n).bind fun y0 =>
  some ((y0.1 == (0 : Int)), y0.2)

def M.spec_l1Cur_among (c : Cur) (list : List Int) : Option (Int × Cur) :=
  (M.spec_l1Cur_pick c (list.length : Int)).bind fun y0 =>
  asrt ((0 : Int) ≤ y0.1 ∧ y0.1 < (list.length : Int)) <|
  some ((list.getD (Int.toNat y0.1) default), y0.2)

def M.spec_l1Cur_triggers_l1 (event : Int) : (List Trigger × Int × Cur) → Option ((List Trigger × Int × Cur) ⊕ (List Trigger × Cur)) := fun st_ => match st_ with
| (list2, after, c_2) =>
  bif (decide (after ≤ (6 : Int))) then (
    (((
      ((bif (after == event) then some default else (bif (decide (after > event)) then M.spec_l1Cur_one c_2 (16 : Int) else some default))).bind fun y2 =>
      ((bif ((after == event) || ((decide (after > event)) && (!y2.1))) then some default else M.spec_l1Cur_one (bif (after == event) then c_2 else (bif (decide (after > event)) then y2.2 else c_2)) (4 : Int))).bind fun y3 =>
      bif ((((after == event) || ((decide (after > event)) && (!y2.1))) || (!y3.1)) || ((list2.length : Int) == (10 : Int))) then (
        some (list2, (bif ((after == event) || ((decide (after > event)) && (!y2.1))) then (bif (after == event) then c_2 else (bif (decide (after > event)) then y2.2 else c_2)) else y3.2)))
      else (
        (M.spec_l1Cur_among (bif ((after == event) || ((decide (after > event)) && (!y2.1))) then (bif (after == event) then c_2 else (bif (decide (after > event)) then y2.2 else c_2)) else y3.2) ([(0 : Int), (1 : Int), (30 : Int), (365 : Int), (10000 : Int)] : List Int)).bind fun y4 =>
        asrt ((list2.length : Int) + (([(⟨event, after, y4.1⟩ : Trigger)] : List Trigger).length : Int) ≤ 2147483648) <|
        some ((list2 ++ ([(⟨event, after, y4.1⟩ : Trigger)] : List Trigger)), y4.2))) : Option (List Trigger × Cur))).bind fun e => match e with
    | (list3, c_3) =>
      (some (.inl (list3, (IntKind.i64.wrap (after + (1 : Int))), c_3))))
  else (
    some (.inr (list2, c_2)))

def M.spec_l1Cur_triggers_l0 : (List Trigger × Int × Cur) → Option ((List Trigger × Int × Cur) ⊕ (List Trigger × Cur)) := fun st_ => match st_ with
| (list0, event, c_0) =>
  bif (decide (event ≤ (6 : Int))) then (
    (iterO (M.spec_l1Cur_triggers_l1 event) (list0, (0 : Int), c_0)).bind fun e => match e with
    | (list1, c_1) =>
      (some (.inl (list1, (IntKind.i64.wrap (event + (1 : Int))), c_1))))
  else (
    some (.inr (list0, c_0)))

def M.spec_l1Cur_triggers_l2 : (List Trigger × Cur) → Option ((List Trigger × Cur) ⊕ (List Trigger × Cur)) := fun st_ => match st_ with
| (list6, c_6) =>
  (M.spec_l1Cur_pick c_6 (2 : Int)).bind fun y10 =>
  bif (decide ((list6.length : Int) < (IntKind.i64.wrap ((10 : Int) + y10.1)))) then (
    asrt ((list6.length : Int) + (([(⟨(IntKind.i64.wrap ((1 : Int) + (IntKind.i64.wrap (Int.tdiv (list6.length : Int) (2 : Int))))), (IntKind.i64.wrap ((8 : Int) + (Int.tmod (list6.length : Int) (2 : Int)))), (1 : Int)⟩ : Trigger)] : List Trigger).length : Int) ≤ 2147483648) <|
    some (.inl ((list6 ++ ([(⟨(IntKind.i64.wrap ((1 : Int) + (IntKind.i64.wrap (Int.tdiv (list6.length : Int) (2 : Int))))), (IntKind.i64.wrap ((8 : Int) + (Int.tmod (list6.length : Int) (2 : Int)))), (1 : Int)⟩ : Trigger)] : List Trigger)), y10.2)))
  else (
    some (.inr (list6, y10.2)))

def M.spec_l1Cur_triggers (c : Cur) : Option (List Trigger × Cur) :=
  (iterO (M.spec_l1Cur_triggers_l0) (([] : List Trigger), (1 : Int), c)).bind fun e => match e with
  | (list, c_) =>
    ((M.spec_l1Cur_pick c_ (32 : Int)).bind fun y5 =>
    (((
      bif (y5.1 == (0 : Int)) then (
        (M.spec_l1Cur_among y5.2 ([(0 : Int), (1 : Int), (9 : Int), (10 : Int)] : List Int)).bind fun y6 =>
        (M.spec_l1Cur_among y6.2 ([(0 : Int), (9 : Int), (10 : Int)] : List Int)).bind fun y7 =>
        (M.spec_l1Cur_among y7.2 ([(0 : Int), (10001 : Int)] : List Int)).bind fun y8 =>
        asrt ((list.length : Int) + (([(⟨y6.1, y7.1, y8.1⟩ : Trigger)] : List Trigger).length : Int) ≤ 2147483648) <|
        some ((list ++ ([(⟨y6.1, y7.1, y8.1⟩ : Trigger)] : List Trigger)), y8.2))
      else (
        bif (y5.1 == (1 : Int)) then (
          (iterO (M.spec_l1Cur_triggers_l2) (([] : List Trigger), y5.2)).bind fun e => match e with
          | (list5, c_5) =>
            (some (list5, c_5)))
        else (
          some (list, y5.2)))) : Option (List Trigger × Cur))).bind fun e => match e with
    | (list4, c_4) =>
      (some (list4, c_4)))

def M.spec_DrawExpectedDay (code : List Int) : Option (List Trigger × Int) :=
  (M.spec_l1Cur_triggers (⟨code, (0 : Int), (0 : Int)⟩ : Cur)).bind fun y0 =>
  ((bif (decide ((y0.1.length : Int) > (0 : Int))) then M.spec_l1Cur_one y0.2 (4 : Int) else some default)).bind fun y1 =>
  bif ((decide ((y0.1.length : Int) > (0 : Int))) && (!y1.1)) then (
    (M.spec_l1Cur_pick (bif (decide ((y0.1.length : Int) > (0 : Int))) then y1.2 else y0.2) (y0.1.length : Int)).bind fun y2 =>
    asrt ((0 : Int) ≤ y2.1 ∧ y2.1 < (y0.1.length : Int)) <|
    some (y0.1, (y0.1.getD (Int.toNat y2.1) default).Event))
  else (
    (M.spec_l1Cur_among (bif (decide ((y0.1.length : Int) > (0 : Int))) then y1.2 else y0.2) ([(0 : Int), (1 : Int), (9 : Int), (10 : Int), (-1 : Int)] : List Int)).bind fun y3 =>
    some (y0.1, y3.1))

def M.impl_within (n : Int) (low : Int) (high : Int) : Option Bool :=
  some ((decide (low ≤ n)) && (decide (n ≤ high)))

def M.impl_isKind (kind : Int) : Option Bool :=
  (M.impl_within kind (0 : Int) (9 : Int)).bind fun y0 =>
  some y0

def M.cmp_isNaN_int (x : Int) : Option Bool :=
  some (x != x)

def M.cmp_Compare_int (x : Int) (y : Int) : Option Int :=
  (M.cmp_isNaN_int x).bind fun y0 =>
  (M.cmp_isNaN_int y).bind fun y1 =>
  bif y0 then (
    bif y1 then (
      some (0 : Int))
    else (
      some (-1 : Int)))
  else (
    bif y1 then (
      some (1 : Int))
    else (
      bif (decide (x < y)) then (
        some (-1 : Int))
      else (
        bif (decide (x > y)) then (
          some (1 : Int))
        else (
          some (0 : Int)))))

def M.cmp_Or_int_l0 (vals : List Int) : (Int) → Option ((Int) ⊕ ((Unit) ⊕ (Int))) := fun st_ => match st_ with
| v =>
  bif (decide (v < (vals.length : Int))) then (
    asrt ((0 : Int) ≤ v ∧ v < (vals.length : Int)) <|
    bif ((vals.getD (Int.toNat v) default) != (0 : Int)) then (
      some (.inr (.inr (vals.getD (Int.toNat v) default))))
    else (
      some (.inl (IntKind.i64.wrap (v + (1 : Int))))))
  else (
    some (.inr (.inl ())))

def M.cmp_Or_int (vals : List Int) : Option Int :=
  (iterO (M.cmp_Or_int_l0 vals) (0 : Int)).bind fun e => match e with
  | .inl () =>
    (some (0 : Int))
  | .inr r => some r

def M.impl_AreTriggers_l0 (list : List Trigger) : (Int) → Option ((Int) ⊕ ((Unit) ⊕ (Bool))) := fun st_ => match st_ with
| v =>
  bif (decide (v < (list.length : Int))) then (
    asrt ((0 : Int) ≤ v ∧ v < (list.length : Int)) <|
    (M.impl_within ((list.getD (Int.toNat v) default).Event) (1 : Int) (9 : Int)).bind fun y1 =>
    ((bif (!y1) then some default else M.impl_isKind ((list.getD (Int.toNat v) default).After))).bind fun y2 =>
    ((bif (((!y1) || (!y2)) || (((list.getD (Int.toNat v) default).After) == ((list.getD (Int.toNat v) default).Event))) then some default else M.impl_within ((list.getD (Int.toNat v) default).Days) (0 : Int) (10000 : Int))).bind fun y3 =>
    bif ((((!y1) || (!y2)) || (((list.getD (Int.toNat v) default).After) == ((list.getD (Int.toNat v) default).Event))) || (!y3)) then (
      some (.inr (.inr false)))
    else (
      asrt ((decide (v > (0 : Int))) = true → ((0 : Int) ≤ (IntKind.i64.wrap (v - (1 : Int))) ∧ (IntKind.i64.wrap (v - (1 : Int))) < (list.length : Int))) <|
      ((bif (decide (v > (0 : Int))) then M.cmp_Compare_int ((list.getD (Int.toNat (IntKind.i64.wrap (v - (1 : Int)))) default).Event) ((list.getD (Int.toNat v) default).Event) else some default)).bind fun y4 =>
      asrt ((decide (v > (0 : Int))) = true → ((0 : Int) ≤ (IntKind.i64.wrap (v - (1 : Int))) ∧ (IntKind.i64.wrap (v - (1 : Int))) < (list.length : Int))) <|
      ((bif (decide (v > (0 : Int))) then M.cmp_Compare_int ((list.getD (Int.toNat (IntKind.i64.wrap (v - (1 : Int)))) default).After) ((list.getD (Int.toNat v) default).After) else some default)).bind fun y5 =>
      ((bif (decide (v > (0 : Int))) then M.cmp_Or_int ([y4, y5] : List Int) else some default)).bind fun y6 =>
      bif ((decide (v > (0 : Int))) && (decide (y6 ≥ (0 : Int)))) then (
        some (.inr (.inr false)))
      else (
        some (.inl (IntKind.i64.wrap (v + (1 : Int)))))))
  else (
    some (.inr (.inl ())))

def M.impl_AreTriggers (list : List Trigger) : Option Bool :=
  (iterO (M.impl_AreTriggers_l0 list) (0 : Int)).bind fun e => match e with
  | .inl () =>
    (some (decide ((list.length : Int) ≤ (10 : Int))))
  | .inr r => some r

def M.impl_follows_1 (t : Trigger) (event : Int) (after : Int) : Option Bool :=
  some ((t.Event == event) && (t.After == after))

def M.slices_IndexFunc_impl_Trigger_impl_Trigger_l0 (s : List Trigger) (fm : Trigger → Option Bool) : (Int) → Option ((Int) ⊕ ((Unit) ⊕ (Int))) := fun st_ => match st_ with
| v =>
  bif (decide (v < (s.length : Int))) then (
    asrt ((0 : Int) ≤ v ∧ v < (s.length : Int)) <|
    (fm (s.getD (Int.toNat v) default)).bind fun y1 =>
    bif y1 then (
      some (.inr (.inr v)))
    else (
      some (.inl (IntKind.i64.wrap (v + (1 : Int))))))
  else (
    some (.inr (.inl ())))

def M.slices_IndexFunc_impl_Trigger_impl_Trigger (s : List Trigger) (fm : Trigger → Option Bool) : Option Int :=
  (iterO (M.slices_IndexFunc_impl_Trigger_impl_Trigger_l0 s fm) (0 : Int)).bind fun e => match e with
  | .inl () =>
    (some (-1 : Int))
  | .inr r => some r

def M.slices_ContainsFunc_impl_Trigger_impl_Trigger (s : List Trigger) (fm : Trigger → Option Bool) : Option Bool :=
  (M.slices_IndexFunc_impl_Trigger_impl_Trigger s fm).bind fun y0 =>
  some (decide (y0 ≥ (0 : Int)))

def M.impl_follows (list : List Trigger) (event : Int) (after : Int) : Option Bool :=
  (M.slices_ContainsFunc_impl_Trigger_impl_Trigger list (fun x0 => M.impl_follows_1 x0 event after)).bind fun y0 =>
  some y0

def M.slices_Index_int_int_l0 (s : List Int) (v : Int) : (Int) → Option ((Int) ⊕ ((Unit) ⊕ (Int))) := fun st_ => match st_ with
| v0 =>
  bif (decide (v0 < (s.length : Int))) then (
    asrt ((0 : Int) ≤ v0 ∧ v0 < (s.length : Int)) <|
    bif (v == (s.getD (Int.toNat v0) default)) then (
      some (.inr (.inr v0)))
    else (
      some (.inl (IntKind.i64.wrap (v0 + (1 : Int))))))
  else (
    some (.inr (.inl ())))

def M.slices_Index_int_int (s : List Int) (v : Int) : Option Int :=
  (iterO (M.slices_Index_int_int_l0 s v) (0 : Int)).bind fun e => match e with
  | .inl () =>
    (some (-1 : Int))
  | .inr r => some r

def M.slices_Contains_int_int (s : List Int) (v : Int) : Option Bool :=
  (M.slices_Index_int_int s v).bind fun y0 =>
  some (decide (y0 ≥ (0 : Int)))

def M.slices_Clone_int_int (s : List Int) : Option (List Int) := asrt ((s.length : Int) ≤ 2147483648) <| some s

def M.impl_cycleFrom_l0 (list : List Trigger) (kinds : List Int) (rec_ : (List Trigger) → (List Int) → Option (List Int)) : (Int) → Option ((Int) ⊕ ((Unit) ⊕ (List Int))) := fun st_ => match st_ with
| next =>
  bif (decide (next ≤ (9 : Int))) then (
    (((
      (M.impl_follows list (kinds.getD (Int.toNat (IntKind.i64.wrap ((kinds.length : Int) - (1 : Int)))) default) next).bind fun y2 =>
      ((bif y2 then M.slices_Contains_int_int kinds next else some default)).bind fun y3 =>
      bif (y2 && (!y3)) then (
        (M.slices_Clone_int_int kinds).bind fun y4 =>
        asrt ((y4.length : Int) + (([next] : List Int).length : Int) ≤ 2147483648) <|
        (rec_ list (y4 ++ ([next] : List Int))).bind fun y5 =>
        bif (!(List.isEmpty y5)) then (
          some (.inr y5))
        else (
          some (.inl ())))
      else (
        some (.inl ()))) : Option ((Unit) ⊕ (List Int)))).bind fun e => match e with
    | .inl () =>
      (some (.inl (IntKind.i64.wrap (next + (1 : Int)))))
    | .inr r => some (.inr (.inr r)))
  else (
    some (.inr (.inl ())))

def M.impl_cycleFrom_s (rec_ : (List Trigger) → (List Int) → Option (List Int)) (list : List Trigger) (kinds : List Int) : Option (List Int) :=
  asrt ((0 : Int) ≤ (0 : Int) ∧ (0 : Int) < (kinds.length : Int)) <|
  asrt ((0 : Int) ≤ (IntKind.i64.wrap ((kinds.length : Int) - (1 : Int))) ∧ (IntKind.i64.wrap ((kinds.length : Int) - (1 : Int))) < (kinds.length : Int)) <|
  (M.impl_follows list (kinds.getD (Int.toNat (IntKind.i64.wrap ((kinds.length : Int) - (1 : Int)))) default) (kinds.getD (Int.toNat (0 : Int)) default)).bind fun y0 =>
  bif y0 then (
    asrt (kinds ≠ []) <|
    some kinds)
  else (
    (iterO (M.impl_cycleFrom_l0 list kinds rec_) (IntKind.i64.wrap ((kinds.getD (Int.toNat (0 : Int)) default) + (1 : Int)))).bind fun e => match e with
    | .inl () =>
      (some ([] : List Int))
    | .inr r => some r)

def M.impl_cycleFrom_r : Nat → (List Trigger) → (List Int) → Option (List Int)
  | 0 => fun _ _ => none
  | k_ + 1 => M.impl_cycleFrom_s (M.impl_cycleFrom_r k_)

def M.impl_cycleFrom (list : List Trigger) (kinds : List Int) : Option (List Int) := M.impl_cycleFrom_r rounds list kinds

def M.impl_firstCycle_l0 (list : List Trigger) : (Int) → Option ((Int) ⊕ ((Unit) ⊕ (List Int))) := fun st_ => match st_ with
| first =>
  bif (decide (first ≤ (9 : Int))) then (
    (M.impl_cycleFrom list ([first] : List Int)).bind fun y1 =>
    bif (!(List.isEmpty y1)) then (
      some (.inr (.inr y1)))
    else (
      some (.inl (IntKind.i64.wrap (first + (1 : Int))))))
  else (
    some (.inr (.inl ())))

def M.impl_firstCycle (list : List Trigger) : Option (List Int) :=
  (iterO (M.impl_firstCycle_l0 list) (1 : Int)).bind fun e => match e with
  | .inl () =>
    (some ([] : List Int))
  | .inr r => some r

def M.impl_areAcyclic (list : List Trigger) : Option Bool :=
  (M.impl_AreTriggers list).bind fun y0 =>
  ((bif y0 then M.impl_firstCycle list else some default)).bind fun y1 =>
  some (y0 && (List.isEmpty y1))

def M.impl_expected_l0 (list : List Trigger) (event : Int) (rec_ : (List Trigger) → Int → Option (Int × Bool)) : (Int × Bool × Int) → Option ((Int × Bool × Int) ⊕ ((Int × Bool) ⊕ (Int × Bool))) := fun st_ => match st_ with
| (latest0, found0, v) =>
  bif (decide (v < (list.length : Int))) then (
    (((
      asrt ((0 : Int) ≤ v ∧ v < (list.length : Int)) <|
      bif (((list.getD (Int.toNat v) default).Event) != event) then (
        some (.inl (latest0, found0)))
      else (
        (rec_ list ((list.getD (Int.toNat v) default).After)).bind fun y1 =>
        bif (!y1.2) then (
          some (.inr ((0 : Int), false)))
        else (
          some (.inl ((bif decide (latest0 < (IntKind.i64.wrap (y1.1 + ((list.getD (Int.toNat v) default).Days)))) then (IntKind.i64.wrap (y1.1 + ((list.getD (Int.toNat v) default).Days))) else latest0), true))))) : Option ((Int × Bool) ⊕ (Int × Bool)))).bind fun e => match e with
    | .inl (latest1, found1) =>
      (some (.inl (latest1, found1, (IntKind.i64.wrap (v + (1 : Int))))))
    | .inr r => some (.inr (.inr r)))
  else (
    some (.inr (.inl (latest0, found0))))

def M.impl_expected_s (rec_ : (List Trigger) → Int → Option (Int × Bool)) (list : List Trigger) (event : Int) : Option (Int × Bool) :=
  bif (event == (0 : Int)) then (
    some ((0 : Int), true))
  else (
    (iterO (M.impl_expected_l0 list event rec_) ((0 : Int), false, (0 : Int))).bind fun e => match e with
    | .inl (latest, found) =>
      (some (latest, found))
    | .inr r => some r)

def M.impl_expected_r : Nat → (List Trigger) → Int → Option (Int × Bool)
  | 0 => fun _ _ => none
  | k_ + 1 => M.impl_expected_s (M.impl_expected_r k_)

def M.impl_expected (list : List Trigger) (event : Int) : Option (Int × Bool) := M.impl_expected_r rounds list event

def M.impl_ExpectedDay (list : List Trigger) (event : Int) : Option (Int × Bool) :=
  (M.impl_isKind event).bind fun y0 =>
  ((bif (!y0) then some default else M.impl_areAcyclic list)).bind fun y1 =>
  bif ((!y0) || (!y1)) then (
    some ((0 : Int), false))
  else (
    (M.impl_expected list event).bind fun y2 =>
    some (y2.1, y2.2))

def M.spec_l1In (x : Int) (a : Int) (b_ : Int) : Option Bool :=
  some ((decide (x ≥ a)) && (decide (x ≤ b_)))

def M.spec_l10Good_l0 (list : List Trigger) : (Int) → Option ((Int) ⊕ ((Unit) ⊕ (Bool))) := fun st_ => match st_ with
| i =>
  bif (decide (i < (list.length : Int))) then (
    asrt ((0 : Int) ≤ i ∧ i < (list.length : Int)) <|
    (M.spec_l1In ((list.getD (Int.toNat i) default).Event) (1 : Int) (9 : Int)).bind fun y1 =>
    ((bif (!y1) then some default else M.spec_l1In ((list.getD (Int.toNat i) default).After) (0 : Int) (9 : Int))).bind fun y2 =>
    ((bif (((!y1) || (!y2)) || (((list.getD (Int.toNat i) default).After) == ((list.getD (Int.toNat i) default).Event))) then some default else M.spec_l1In ((list.getD (Int.toNat i) default).Days) (0 : Int) (10000 : Int))).bind fun y3 =>
    bif ((((!y1) || (!y2)) || (((list.getD (Int.toNat i) default).After) == ((list.getD (Int.toNat i) default).Event))) || (!y3)) then (
      some (.inr (.inr false)))
    else (
      asrt ((decide (i > (0 : Int))) = true → ((0 : Int) ≤ (IntKind.i64.wrap (i - (1 : Int))) ∧ (IntKind.i64.wrap (i - (1 : Int))) < (list.length : Int))) <|
      asrt ((decide (i > (0 : Int))) = true → (decide (((list.getD (Int.toNat (IntKind.i64.wrap (i - (1 : Int)))) default).Event) > ((list.getD (Int.toNat i) default).Event))) = false → ((0 : Int) ≤ (IntKind.i64.wrap (i - (1 : Int))) ∧ (IntKind.i64.wrap (i - (1 : Int))) < (list.length : Int))) <|
      asrt ((decide (i > (0 : Int))) = true → (decide (((list.getD (Int.toNat (IntKind.i64.wrap (i - (1 : Int)))) default).Event) > ((list.getD (Int.toNat i) default).Event))) = false → (((list.getD (Int.toNat (IntKind.i64.wrap (i - (1 : Int)))) default).Event) == ((list.getD (Int.toNat i) default).Event)) = true → ((0 : Int) ≤ (IntKind.i64.wrap (i - (1 : Int))) ∧ (IntKind.i64.wrap (i - (1 : Int))) < (list.length : Int))) <|
      bif ((decide (i > (0 : Int))) && ((decide (((list.getD (Int.toNat (IntKind.i64.wrap (i - (1 : Int)))) default).Event) > ((list.getD (Int.toNat i) default).Event))) || ((((list.getD (Int.toNat (IntKind.i64.wrap (i - (1 : Int)))) default).Event) == ((list.getD (Int.toNat i) default).Event)) && (decide (((list.getD (Int.toNat (IntKind.i64.wrap (i - (1 : Int)))) default).After) ≥ ((list.getD (Int.toNat i) default).After)))))) then (
        some (.inr (.inr false)))
      else (
        some (.inl (IntKind.i64.wrap (i + (1 : Int)))))))
  else (
    some (.inr (.inl ())))

def M.spec_l10Good (list : List Trigger) : Option Bool :=
  (iterO (M.spec_l10Good_l0 list) (0 : Int)).bind fun e => match e with
  | .inl () =>
    (some (decide ((list.length : Int) ≤ (10 : Int))))
  | .inr r => some r

def M.spec_l1Has_l0 (l : List Int) (n : Int) : (Int) → Option ((Int) ⊕ ((Unit) ⊕ (Bool))) := fun st_ => match st_ with
| i =>
  bif (decide (i < (l.length : Int))) then (
    asrt ((0 : Int) ≤ i ∧ i < (l.length : Int)) <|
    bif ((l.getD (Int.toNat i) default) == n) then (
      some (.inr (.inr true)))
    else (
      some (.inl (IntKind.i64.wrap (i + (1 : Int))))))
  else (
    some (.inr (.inl ())))

def M.spec_l1Has (l : List Int) (n : Int) : Option Bool :=
  (iterO (M.spec_l1Has_l0 l n) (0 : Int)).bind fun e => match e with
  | .inl () =>
    (some false)
  | .inr r => some r

def M.spec_l1Own (l : List Int) : Option (List Int) :=
  asrt ((([] : List Int).length : Int) + (l.length : Int) ≤ 2147483648) <|
  some (([] : List Int) ++ l)

def M.spec_l10Chain_l1 (list : List Trigger) (chain : List Int) (kind : Int) : (Bool × Int) → Option ((Bool × Int) ⊕ (Bool)) := fun st_ => match st_ with
| (follows0, i) =>
  bif (decide (i < (list.length : Int))) then (
    asrt (follows0 = false → ((0 : Int) ≤ i ∧ i < (list.length : Int))) <|
    asrt (follows0 = false → (((list.getD (Int.toNat i) default).Event) == (chain.getD (Int.toNat (IntKind.i64.wrap ((chain.length : Int) - (1 : Int)))) default)) = true → ((0 : Int) ≤ i ∧ i < (list.length : Int))) <|
    some (.inl ((follows0 || ((((list.getD (Int.toNat i) default).Event) == (chain.getD (Int.toNat (IntKind.i64.wrap ((chain.length : Int) - (1 : Int)))) default)) && (((list.getD (Int.toNat i) default).After) == kind))), (IntKind.i64.wrap (i + (1 : Int))))))
  else (
    some (.inr follows0))

def M.spec_l10Chain_l0 (list : List Trigger) (chain : List Int) (rec_ : (List Trigger) → (List Int) → Option (List Int × Bool)) : (Int) → Option ((Int) ⊕ ((Unit) ⊕ (List Int × Bool))) := fun st_ => match st_ with
| kind =>
  bif (decide (kind ≤ (9 : Int))) then (
    (((
      (iterO (M.spec_l10Chain_l1 list chain kind) (false, (0 : Int))).bind fun e => match e with
      | follows =>
        (bif (!follows) then (
          some (.inl ()))
        else (
          asrt ((0 : Int) ≤ (0 : Int) ∧ (0 : Int) < (chain.length : Int)) <|
          bif (kind == (chain.getD (Int.toNat (0 : Int)) default)) then (
            some (.inr (chain, true)))
          else (
            (M.spec_l1Has chain kind).bind fun y2 =>
            bif y2 then (
              some (.inl ()))
            else (
              (M.spec_l1Own chain).bind fun y3 =>
              asrt ((y3.length : Int) + (([kind] : List Int).length : Int) ≤ 2147483648) <|
              (rec_ list (y3 ++ ([kind] : List Int))).bind fun y4 =>
              bif y4.2 then (
                some (.inr (y4.1, true)))
              else (
                some (.inl ()))))))) : Option ((Unit) ⊕ (List Int × Bool)))).bind fun e => match e with
    | .inl () =>
      (some (.inl (IntKind.i64.wrap (kind + (1 : Int)))))
    | .inr r => some (.inr (.inr r)))
  else (
    some (.inr (.inl ())))

def M.spec_l10Chain_s (rec_ : (List Trigger) → (List Int) → Option (List Int × Bool)) (list : List Trigger) (chain : List Int) : Option (List Int × Bool) :=
  asrt ((0 : Int) ≤ (IntKind.i64.wrap ((chain.length : Int) - (1 : Int))) ∧ (IntKind.i64.wrap ((chain.length : Int) - (1 : Int))) < (chain.length : Int)) <|
  asrt ((0 : Int) ≤ (0 : Int) ∧ (0 : Int) < (chain.length : Int)) <|
  (iterO (M.spec_l10Chain_l0 list chain rec_) (chain.getD (Int.toNat (0 : Int)) default)).bind fun e => match e with
  | .inl () =>
    (some (([] : List Int), false))
  | .inr r => some r

def M.spec_l10Chain_r : Nat → (List Trigger) → (List Int) → Option (List Int × Bool)
  | 0 => fun _ _ => none
  | k_ + 1 => M.spec_l10Chain_s (M.spec_l10Chain_r k_)

def M.spec_l10Chain (list : List Trigger) (chain : List Int) : Option (List Int × Bool) := M.spec_l10Chain_r rounds list chain

def M.spec_l10Cycle_l0 (list : List Trigger) : (Int) → Option ((Int) ⊕ ((Unit) ⊕ (List Int × Bool))) := fun st_ => match st_ with
| kind =>
  bif (decide (kind ≤ (9 : Int))) then (
    (M.spec_l10Chain list ([kind] : List Int)).bind fun y1 =>
    bif y1.2 then (
      some (.inr (.inr (y1.1, true))))
    else (
      some (.inl (IntKind.i64.wrap (kind + (1 : Int))))))
  else (
    some (.inr (.inl ())))

def M.spec_l10Cycle (list : List Trigger) : Option (List Int × Bool) :=
  (iterO (M.spec_l10Cycle_l0 list) (1 : Int)).bind fun e => match e with
  | .inl () =>
    (some (([] : List Int), false))
  | .inr r => some r

def M.spec_HasCycle (list : List Trigger) : Option (Bool × Bool) :=
  (M.spec_l10Good list).bind fun y0 =>
  bif (!y0) then (
    some (false, false))
  else (
    (M.spec_l10Cycle list).bind fun y1 =>
    some (y1.2, true))

def M.spec_l10Free (list : List Trigger) : Option Bool :=
  (M.spec_HasCycle list).bind fun y0 =>
  some (y0.2 && (!y0.1))

def M.spec_l1Most (a : Int) (b_ : Int) : Option Int :=
  bif (decide (a > b_)) then (
    some a)
  else (
    some b_)

def M.spec_l10Day_l0 (list : List Trigger) (event : Int) (rec_ : (List Trigger) → Int → Option Int) : (Int × Int) → Option ((Int × Int) ⊕ ((Int) ⊕ (Int))) := fun st_ => match st_ with
| (most0, i) =>
  bif (decide (i < (list.length : Int))) then (
    (((
      asrt ((0 : Int) ≤ i ∧ i < (list.length : Int)) <|
      bif (((list.getD (Int.toNat i) default).Event) != event) then (
        some (.inl most0))
      else (
        asrt ((0 : Int) ≤ i ∧ i < (list.length : Int)) <|
        (rec_ list ((list.getD (Int.toNat i) default).After)).bind fun y1 =>
        bif (decide (y1 < (0 : Int))) then (
          some (.inr (-1 : Int)))
        else (
          asrt ((0 : Int) ≤ i ∧ i < (list.length : Int)) <|
          (M.spec_l1Most most0 (IntKind.i64.wrap (y1 + ((list.getD (Int.toNat i) default).Days)))).bind fun y2 =>
          some (.inl y2)))) : Option ((Int) ⊕ (Int)))).bind fun e => match e with
    | .inl most1 =>
      (some (.inl (most1, (IntKind.i64.wrap (i + (1 : Int))))))
    | .inr r => some (.inr (.inr r)))
  else (
    some (.inr (.inl most0)))

def M.spec_l10Day_s (rec_ : (List Trigger) → Int → Option Int) (list : List Trigger) (event : Int) : Option Int :=
  bif (event == (0 : Int)) then (
    some (0 : Int))
  else (
    (iterO (M.spec_l10Day_l0 list event rec_) ((-1 : Int), (0 : Int))).bind fun e => match e with
    | .inl most =>
      (some most)
    | .inr r => some r)

def M.spec_l10Day_r : Nat → (List Trigger) → Int → Option Int
  | 0 => fun _ _ => none
  | k_ + 1 => M.spec_l10Day_s (M.spec_l10Day_r k_)

def M.spec_l10Day (list : List Trigger) (event : Int) : Option Int := M.spec_l10Day_r rounds list event

def M.spec_ExpectedDay (list : List Trigger) (event : Int) : Option (Int × Bool) :=
  (M.spec_l10Free list).bind fun y0 =>
  ((bif (!y0) then some default else M.spec_l1In event (0 : Int) (9 : Int))).bind fun y1 =>
  ((bif ((!y0) || (!y1)) then some default else M.spec_l10Day list event)).bind fun y2 =>
  bif (((!y0) || (!y1)) || (decide (y2 < (0 : Int)))) then (
    some ((0 : Int), false))
  else (
    (M.spec_l10Day list event).bind fun y3 =>
    some (y3, true))

def M.spec_l1Cur_rule (c : Cur) : Option (Rule × Cur) :=
  (M.spec_l1Cur_among c ([(1 : Int), (2 : Int), (3 : Int), (3 : Int), (7 : Int), (99 : Int)] : List Int)).bind fun y0 =>
  (M.spec_l1Cur_among y0.2 ([(0 : Int), (0 : Int), (1 : Int), (2 : Int), (3 : Int), (9 : Int)] : List Int)).bind fun y1 =>
  (M.spec_l1Cur_among y1.2 ([(0 : Int), (30 : Int), (365 : Int), (400 : Int), (3650 : Int), (20000 : Int)] : List Int)).bind fun y2 =>
  (M.spec_l1Cur_pick y2.2 (3 : Int)).bind fun y3 =>
  (M.spec_l1Cur_pick y3.2 (48 : Int)).bind fun y4 =>
  (((
    bif (y4.1 == (0 : Int)) then (
      (M.spec_l1Cur_among y4.2 ([(0 : Int), (100 : Int)] : List Int)).bind fun y5 =>
      some (y5.2, (⟨y5.1, y1.1, y2.1, (IntKind.i64.wrap ((1 : Int) + y3.1))⟩ : Rule)))
    else (
      bif (y4.1 == (1 : Int)) then (
        (M.spec_l1Cur_among y4.2 ([(-1 : Int), (10 : Int)] : List Int)).bind fun y6 =>
        some (y6.2, (⟨y0.1, y6.1, y2.1, (IntKind.i64.wrap ((1 : Int) + y3.1))⟩ : Rule)))
      else (
        bif (y4.1 == (2 : Int)) then (
          (M.spec_l1Cur_among y4.2 ([(-1 : Int), (20001 : Int)] : List Int)).bind fun y7 =>
          some (y7.2, (⟨y0.1, y1.1, y7.1, (IntKind.i64.wrap ((1 : Int) + y3.1))⟩ : Rule)))
        else (
          bif (y4.1 == (3 : Int)) then (
            (M.spec_l1Cur_among y4.2 ([(0 : Int), (4 : Int)] : List Int)).bind fun y8 =>
            some (y8.2, (⟨y0.1, y1.1, y2.1, y8.1⟩ : Rule)))
          else (
            some (y4.2, (⟨y0.1, y1.1, y2.1, (IntKind.i64.wrap ((1 : Int) + y3.1))⟩ : Rule))))))) : Option (Cur × Rule))).bind fun e => match e with
  | (c_, r_) =>
    (some (r_, c_))

def M.spec_l4One (r_ : Rule) : Option Bool :=
  (M.spec_l1In r_.Series (1 : Int) (99 : Int)).bind fun y0 =>
  ((bif y0 then M.spec_l1In r_.Event (0 : Int) (9 : Int) else some default)).bind fun y1 =>
  ((bif (y0 && y1) then M.spec_l1In r_.Days (0 : Int) (20000 : Int) else some default)).bind fun y2 =>
  ((bif ((y0 && y1) && y2) then M.spec_l1In r_.Act (1 : Int) (3 : Int) else some default)).bind fun y3 =>
  some (((y0 && y1) && y2) && y3)

def M.spec_l4Before (a : Rule) (b_ : Rule) : Option Bool :=
  some ((decide (a.Series < b_.Series)) || ((a.Series == b_.Series) && (decide (a.Event < b_.Event))))

def M.spec_l4Good_l0 (list : List Rule) : (Int) → Option ((Int) ⊕ ((Unit) ⊕ (Bool))) := fun st_ => match st_ with
| i =>
  bif (decide (i < (list.length : Int))) then (
    asrt ((0 : Int) ≤ i ∧ i < (list.length : Int)) <|
    (M.spec_l4One (list.getD (Int.toNat i) default)).bind fun y1 =>
    asrt ((!y1) = false → (decide (i > (0 : Int))) = true → ((0 : Int) ≤ (IntKind.i64.wrap (i - (1 : Int))) ∧ (IntKind.i64.wrap (i - (1 : Int))) < (list.length : Int))) <|
    asrt ((!y1) = false → (decide (i > (0 : Int))) = true → ((0 : Int) ≤ i ∧ i < (list.length : Int))) <|
    ((bif (!y1) then some default else (bif (decide (i > (0 : Int))) then M.spec_l4Before (list.getD (Int.toNat (IntKind.i64.wrap (i - (1 : Int)))) default) (list.getD (Int.toNat i) default) else some default))).bind fun y2 =>
    bif ((!y1) || ((decide (i > (0 : Int))) && (!y2))) then (
      some (.inr (.inr false)))
    else (
      some (.inl (IntKind.i64.wrap (i + (1 : Int))))))
  else (
    some (.inr (.inl ())))

def M.spec_l4Good (list : List Rule) : Option Bool :=
  (iterO (M.spec_l4Good_l0 list) (0 : Int)).bind fun e => match e with
  | .inl () =>
    (some (decide ((list.length : Int) ≤ (8 : Int))))
  | .inr r => some r

def M.spec_l4Without_l0 (list : List Rule) (series : Int) (event : Int) : (List Rule × Int) → Option ((List Rule × Int) ⊕ (List Rule)) := fun st_ => match st_ with
| (out_0, i) =>
  bif (decide (i < (list.length : Int))) then (
    (((
      asrt ((0 : Int) ≤ i ∧ i < (list.length : Int)) <|
      asrt ((((list.getD (Int.toNat i) default).Series) != series) = false → ((0 : Int) ≤ i ∧ i < (list.length : Int))) <|
      bif ((((list.getD (Int.toNat i) default).Series) != series) || (((list.getD (Int.toNat i) default).Event) != event)) then (
        asrt ((0 : Int) ≤ i ∧ i < (list.length : Int)) <|
        asrt ((out_0.length : Int) + (([(list.getD (Int.toNat i) default)] : List Rule).length : Int) ≤ 2147483648) <|
        some (out_0 ++ ([(list.getD (Int.toNat i) default)] : List Rule)))
      else (
        some out_0)) : Option (List Rule))).bind fun e => match e with
    | out_1 =>
      (some (.inl (out_1, (IntKind.i64.wrap (i + (1 : Int)))))))
  else (
    some (.inr out_0))

def M.spec_l4Without (list : List Rule) (series : Int) (event : Int) : Option (List Rule) :=
  (iterO (M.spec_l4Without_l0 list series event) (([] : List Rule), (0 : Int))).bind fun e => match e with
  | out_ =>
    (some out_)

def M.spec_PutRule_l0 (r_ : Rule) (y2 : List Rule) : (Int) → Option ((Int) ⊕ (Int)) := fun st_ => match st_ with
| k0 =>
  asrt ((decide (k0 < (y2.length : Int))) = true → ((0 : Int) ≤ k0 ∧ k0 < (y2.length : Int))) <|
  ((bif (decide (k0 < (y2.length : Int))) then M.spec_l4Before (y2.getD (Int.toNat k0) default) r_ else some default)).bind fun y4 =>
  bif ((decide (k0 < (y2.length : Int))) && y4) then (
    some (.inl (IntKind.i64.wrap (k0 + (1 : Int)))))
  else (
    some (.inr k0))

def M.spec_PutRule (list : List Rule) (r_ : Rule) : Option (List Rule × Bool) :=
  (M.spec_l4Good list).bind fun y0 =>
  ((bif (!y0) then some default else M.spec_l4One r_)).bind fun y1 =>
  bif ((!y0) || (!y1)) then (
    some (([] : List Rule), false))
  else (
    (M.spec_l4Without list r_.Series r_.Event).bind fun y2 =>
    (iterO (M.spec_PutRule_l0 r_ y2) (0 : Int)).bind fun e => match e with
    | k =>
      (asrt ((0 : Int) ≤ (0 : Int) ∧ (0 : Int) ≤ k ∧ k ≤ (y2.length : Int)) <|
      asrt ((([] : List Rule).length : Int) + ((slc y2 (0 : Int) k).length : Int) ≤ 2147483648) <|
      asrt (((([] : List Rule) ++ (slc y2 (0 : Int) k)).length : Int) + (([r_] : List Rule).length : Int) ≤ 2147483648) <|
      asrt ((0 : Int) ≤ k ∧ k ≤ (y2.length : Int) ∧ (y2.length : Int) ≤ (y2.length : Int)) <|
      asrt ((((([] : List Rule) ++ (slc y2 (0 : Int) k)) ++ ([r_] : List Rule)).length : Int) + ((slc y2 k (y2.length : Int)).length : Int) ≤ 2147483648) <|
      (((
        some (((([] : List Rule) ++ (slc y2 (0 : Int) k)) ++ ([r_] : List Rule)) ++ (slc y2 k (y2.length : Int)))) : Option (List Rule))).bind fun e => match e with
      | out_ =>
        ((M.spec_l4Good out_).bind fun y5 =>
        bif (!y5) then (
          some (([] : List Rule), false))
        else (
          some (out_, true)))))

def M.spec_l1Cur_schedule_l0 : (List Rule × Int × Cur) → Option ((List Rule × Int × Cur) ⊕ (List Rule × Cur)) := fun st_ => match st_ with
| (list0, n_, c_0) =>
  bif (decide (n_ > (0 : Int))) then (
    (((
      (M.spec_l1Cur_rule c_0).bind fun y2 =>
      (M.spec_PutRule list0 y2.1).bind fun y3 =>
      bif y3.2 then (
        some (y3.1, y2.2))
      else (
        some (list0, y2.2))) : Option (List Rule × Cur))).bind fun e => match e with
    | (list1, c_1) =>
      (some (.inl (list1, (IntKind.i64.wrap (n_ - (1 : Int))), c_1))))
  else (
    some (.inr (list0, c_0)))

def M.spec_l1Cur_schedule_l1 : (List Rule × Cur) → Option ((List Rule × Cur) ⊕ (List Rule × Cur)) := fun st_ => match st_ with
| (list4, c_4) =>
  (M.spec_l1Cur_pick c_4 (2 : Int)).bind fun y7 =>
  bif (decide ((list4.length : Int) < (IntKind.i64.wrap ((8 : Int) + y7.1)))) then (
    asrt ((list4.length : Int) + (([(⟨(1 : Int), (list4.length : Int), (5 : Int), (3 : Int)⟩ : Rule)] : List Rule).length : Int) ≤ 2147483648) <|
    some (.inl ((list4 ++ ([(⟨(1 : Int), (list4.length : Int), (5 : Int), (3 : Int)⟩ : Rule)] : List Rule)), y7.2)))
  else (
    some (.inr (list4, y7.2)))

def M.spec_l1Cur_schedule (c : Cur) : Option (List Rule × Cur) :=
  (M.spec_l1Cur_pick c (7 : Int)).bind fun y0 =>
  (iterO (M.spec_l1Cur_schedule_l0) (([] : List Rule), y0.1, y0.2)).bind fun e => match e with
  | (list, c_) =>
    ((M.spec_l1Cur_pick c_ (32 : Int)).bind fun y4 =>
    (((
      bif (y4.1 == (0 : Int)) then (
        (M.spec_l1Cur_rule y4.2).bind fun y5 =>
        asrt ((list.length : Int) + (([y5.1] : List Rule).length : Int) ≤ 2147483648) <|
        some ((list ++ ([y5.1] : List Rule)), y5.2))
      else (
        bif (y4.1 == (1 : Int)) then (
          (iterO (M.spec_l1Cur_schedule_l1) (([] : List Rule), y4.2)).bind fun e => match e with
          | (list3, c_3) =>
            (some (list3, c_3)))
        else (
          some (list, y4.2)))) : Option (List Rule × Cur))).bind fun e => match e with
    | (list2, c_2) =>
      (some (list2, c_2)))

def M.spec_DrawExpectedDue (code : List Int) : Option (List Trigger × List Rule × Int) :=
  (M.spec_l1Cur_triggers (⟨code, (0 : Int), (0 : Int)⟩ : Cur)).bind fun y0 =>
  (M.spec_l1Cur_schedule y0.2).bind fun y1 =>
  ((bif (decide ((y1.1.length : Int) > (0 : Int))) then M.spec_l1Cur_one y1.2 (6 : Int) else some default)).bind fun y2 =>
  bif ((decide ((y1.1.length : Int) > (0 : Int))) && (!y2.1)) then (
    (M.spec_l1Cur_pick (bif (decide ((y1.1.length : Int) > (0 : Int))) then y2.2 else y1.2) (y1.1.length : Int)).bind fun y3 =>
    asrt ((0 : Int) ≤ y3.1 ∧ y3.1 < (y1.1.length : Int)) <|
    some (y0.1, y1.1, (y1.1.getD (Int.toNat y3.1) default).Series))
  else (
    (M.spec_l1Cur_among (bif (decide ((y1.1.length : Int) > (0 : Int))) then y2.2 else y1.2) ([(1 : Int), (3 : Int), (0 : Int), (100 : Int)] : List Int)).bind fun y4 =>
    some (y0.1, y1.1, y4.1))

def M.impl_isId (id_ : Int) : Option Bool :=
  (M.impl_within id_ (1 : Int) (99 : Int)).bind fun y0 =>
  some y0

def M.impl_isAct (act : Int) : Option Bool :=
  (M.impl_within act (1 : Int) (3 : Int)).bind fun y0 =>
  some y0

def M.impl_IsRule (r_ : Rule) : Option Bool :=
  (M.impl_isId r_.Series).bind fun y0 =>
  ((bif y0 then M.impl_within r_.Event (0 : Int) (9 : Int) else some default)).bind fun y1 =>
  ((bif (y0 && y1) then M.impl_within r_.Days (0 : Int) (20000 : Int) else some default)).bind fun y2 =>
  ((bif ((y0 && y1) && y2) then M.impl_isAct r_.Act else some default)).bind fun y3 =>
  some (((y0 && y1) && y2) && y3)

def M.impl_compareRules (a : Rule) (b_ : Rule) : Option Int :=
  (M.cmp_Compare_int a.Series b_.Series).bind fun y0 =>
  (M.cmp_Compare_int a.Event b_.Event).bind fun y1 =>
  (M.cmp_Or_int ([y0, y1] : List Int)).bind fun y2 =>
  some y2

def M.impl_IsSchedule_l0 (list : List Rule) : (Int) → Option ((Int) ⊕ ((Unit) ⊕ (Bool))) := fun st_ => match st_ with
| v =>
  bif (decide (v < (list.length : Int))) then (
    asrt ((0 : Int) ≤ v ∧ v < (list.length : Int)) <|
    (M.impl_IsRule (list.getD (Int.toNat v) default)).bind fun y1 =>
    asrt ((!y1) = false → (decide (v > (0 : Int))) = true → ((0 : Int) ≤ (IntKind.i64.wrap (v - (1 : Int))) ∧ (IntKind.i64.wrap (v - (1 : Int))) < (list.length : Int))) <|
    ((bif (!y1) then some default else (bif (decide (v > (0 : Int))) then M.impl_compareRules (list.getD (Int.toNat (IntKind.i64.wrap (v - (1 : Int)))) default) (list.getD (Int.toNat v) default) else some default))).bind fun y2 =>
    bif ((!y1) || ((decide (v > (0 : Int))) && (decide (y2 ≥ (0 : Int))))) then (
      some (.inr (.inr false)))
    else (
      some (.inl (IntKind.i64.wrap (v + (1 : Int))))))
  else (
    some (.inr (.inl ())))

def M.impl_IsSchedule (list : List Rule) : Option Bool :=
  (iterO (M.impl_IsSchedule_l0 list) (0 : Int)).bind fun e => match e with
  | .inl () =>
    (some (decide ((list.length : Int) ≤ (8 : Int))))
  | .inr r => some r

def M.impl_rulesFor_l0 (list : List Rule) (series : Int) : (List Rule × Int) → Option ((List Rule × Int) ⊕ (List Rule)) := fun st_ => match st_ with
| (out_0, v) =>
  bif (decide (v < (list.length : Int))) then (
    (((
      asrt ((0 : Int) ≤ v ∧ v < (list.length : Int)) <|
      bif (((list.getD (Int.toNat v) default).Series) == series) then (
        asrt ((out_0.length : Int) + (([(list.getD (Int.toNat v) default)] : List Rule).length : Int) ≤ 2147483648) <|
        some (out_0 ++ ([(list.getD (Int.toNat v) default)] : List Rule)))
      else (
        some out_0)) : Option (List Rule))).bind fun e => match e with
    | out_1 =>
      (some (.inl (out_1, (IntKind.i64.wrap (v + (1 : Int)))))))
  else (
    some (.inr out_0))

def M.impl_rulesFor (list : List Rule) (series : Int) : Option (List Rule) :=
  (iterO (M.impl_rulesFor_l0 list series) (([] : List Rule), (0 : Int))).bind fun e => match e with
  | out_ =>
    (some out_)

def M.impl_ExpectedDue_l0 (list : List Trigger) (y3 : List Rule) : (Int × Bool × Int) → Option ((Int × Bool × Int) ⊕ ((Int × Bool) ⊕ (Int × Bool))) := fun st_ => match st_ with
| (due0, found0, v) =>
  bif (decide (v < (y3.length : Int))) then (
    asrt ((0 : Int) ≤ v ∧ v < (y3.length : Int)) <|
    (M.impl_expected list ((y3.getD (Int.toNat v) default).Event)).bind fun y5 =>
    bif (!y5.2) then (
      some (.inr (.inr ((0 : Int), false))))
    else (
      some (.inl ((bif decide (due0 < (IntKind.i64.wrap (y5.1 + ((y3.getD (Int.toNat v) default).Days)))) then (IntKind.i64.wrap (y5.1 + ((y3.getD (Int.toNat v) default).Days))) else due0), true, (IntKind.i64.wrap (v + (1 : Int)))))))
  else (
    some (.inr (.inl (due0, found0))))

def M.impl_ExpectedDue (list : List Trigger) (schedule : List Rule) (series : Int) : Option (Int × Bool) :=
  (M.impl_areAcyclic list).bind fun y0 =>
  ((bif (!y0) then some default else M.impl_IsSchedule schedule)).bind fun y1 =>
  ((bif ((!y0) || (!y1)) then some default else M.impl_isId series)).bind fun y2 =>
  bif (((!y0) || (!y1)) || (!y2)) then (
    some ((0 : Int), false))
  else (
    (M.impl_rulesFor schedule series).bind fun y3 =>
    (iterO (M.impl_ExpectedDue_l0 list y3) ((0 : Int), false, (0 : Int))).bind fun e => match e with
    | .inl (due, found) =>
      (some (due, found))
    | .inr r => some r)

def M.spec_l4For_l0 (list : List Rule) (series : Int) : (List Rule × Int) → Option ((List Rule × Int) ⊕ (List Rule)) := fun st_ => match st_ with
| (out_0, i) =>
  bif (decide (i < (list.length : Int))) then (
    (((
      asrt ((0 : Int) ≤ i ∧ i < (list.length : Int)) <|
      bif (((list.getD (Int.toNat i) default).Series) == series) then (
        asrt ((0 : Int) ≤ i ∧ i < (list.length : Int)) <|
        asrt ((out_0.length : Int) + (([(list.getD (Int.toNat i) default)] : List Rule).length : Int) ≤ 2147483648) <|
        some (out_0 ++ ([(list.getD (Int.toNat i) default)] : List Rule)))
      else (
        some out_0)) : Option (List Rule))).bind fun e => match e with
    | out_1 =>
      (some (.inl (out_1, (IntKind.i64.wrap (i + (1 : Int)))))))
  else (
    some (.inr out_0))

def M.spec_l4For (list : List Rule) (series : Int) : Option (List Rule) :=
  (iterO (M.spec_l4For_l0 list series) (([] : List Rule), (0 : Int))).bind fun e => match e with
  | out_ =>
    (some out_)

def M.spec_ExpectedDue_l0 (list : List Trigger) (y3 : List Rule) : (Int × Int) → Option ((Int × Int) ⊕ ((Int) ⊕ (Int × Bool))) := fun st_ => match st_ with
| (most0, i) =>
  bif (decide (i < (y3.length : Int))) then (
    asrt ((0 : Int) ≤ i ∧ i < (y3.length : Int)) <|
    (M.spec_l10Day list ((y3.getD (Int.toNat i) default).Event)).bind fun y5 =>
    bif (decide (y5 < (0 : Int))) then (
      some (.inr (.inr ((0 : Int), false))))
    else (
      asrt ((0 : Int) ≤ i ∧ i < (y3.length : Int)) <|
      (M.spec_l1Most most0 (IntKind.i64.wrap (y5 + ((y3.getD (Int.toNat i) default).Days)))).bind fun y6 =>
      some (.inl (y6, (IntKind.i64.wrap (i + (1 : Int)))))))
  else (
    some (.inr (.inl most0)))

def M.spec_ExpectedDue (list : List Trigger) (schedule : List Rule) (series : Int) : Option (Int × Bool) :=
  (M.spec_l10Free list).bind fun y0 =>
  ((bif (!y0) then some default else M.spec_l4Good schedule)).bind fun y1 =>
  ((bif ((!y0) || (!y1)) then some default else M.spec_l1In series (1 : Int) (99 : Int))).bind fun y2 =>
  bif (((!y0) || (!y1)) || (!y2)) then (
    some ((0 : Int), false))
  else (
    (M.spec_l4For schedule series).bind fun y3 =>
    (iterO (M.spec_ExpectedDue_l0 list y3) ((-1 : Int), (0 : Int))).bind fun e => match e with
    | .inl most =>
      (bif (decide (most < (0 : Int))) then (
        some ((0 : Int), false))
      else (
        some (most, true)))
    | .inr r => some r)

def M.slices_Sort_int_int (s : List Int) : Option (List Int) := asrt (s.length < 4611686018427387904) <| some (sortL s)

def M.slices_Compact_int_int_l1 (s : List Int) (k : Int) : (List Int × Int × Int) → Option ((List Int × Int × Int) ⊕ (List Int × Int)) := fun st_ => match st_ with
| (s1, k1, k2) =>
  bif (decide (k2 < (((Int.toNat (((List.length s) : Nat) : Int) - Int.toNat k) : Nat) : Int))) then (
    (((
      asrt ((0 : Int) ≤ k2 ∧ k2 < (((Int.toNat (((List.length s) : Nat) : Int) - Int.toNat k) : Nat) : Int)) <|
      asrt (((0 + Int.toNat k) + Int.toNat k2) < s1.length) <|
      asrt ((0 : Int) ≤ (IntKind.i64.wrap (k2 - (1 : Int))) ∧ (IntKind.i64.wrap (k2 - (1 : Int))) < (((Int.toNat (((List.length s) : Nat) : Int) - Int.toNat k) : Nat) : Int)) <|
      asrt (((0 + Int.toNat k) + Int.toNat (IntKind.i64.wrap (k2 - (1 : Int)))) < s1.length) <|
      bif ((s1.getD ((0 + Int.toNat k) + Int.toNat k2) default) != (s1.getD ((0 + Int.toNat k) + Int.toNat (IntKind.i64.wrap (k2 - (1 : Int)))) default)) then (
        asrt ((0 : Int) ≤ k2 ∧ k2 < (((Int.toNat (((List.length s) : Nat) : Int) - Int.toNat k) : Nat) : Int)) <|
        asrt (((0 + Int.toNat k) + Int.toNat k2) < s1.length) <|
        asrt ((0 : Int) ≤ k1 ∧ k1 < (s1.length : Int)) <|
        some ((s1.set (Int.toNat k1) (s1.getD ((0 + Int.toNat k) + Int.toNat k2) default)), (IntKind.i64.wrap (k1 + (1 : Int)))))
      else (
        some (s1, k1))) : Option (List Int × Int))).bind fun e => match e with
    | (s2, k3) =>
      (some (.inl (s2, k3, (IntKind.i64.wrap (k2 + (1 : Int)))))))
  else (
    some (.inr (s1, k1)))

def M.slices_Compact_int_int_l0 (s : List Int) : (Int) → Option ((Int) ⊕ ((Unit) ⊕ (List Int))) := fun st_ => match st_ with
| k =>
  bif (decide (k < (s.length : Int))) then (
    asrt ((0 : Int) ≤ k ∧ k < (s.length : Int)) <|
    asrt ((0 : Int) ≤ (IntKind.i64.wrap (k - (1 : Int))) ∧ (IntKind.i64.wrap (k - (1 : Int))) < (s.length : Int)) <|
    bif ((s.getD (Int.toNat k) default) == (s.getD (Int.toNat (IntKind.i64.wrap (k - (1 : Int)))) default)) then (
      asrt ((0 : Int) ≤ k ∧ k ≤ (((List.length s) : Nat) : Int) ∧ (((List.length s) : Nat) : Int) ≤ (((List.length s) : Nat) : Int)) <|
      (iterO (M.slices_Compact_int_int_l1 s k) (s, k, (1 : Int))).bind fun e => match e with
      | (s0, k0) =>
        (asrt ((0 : Int) ≤ k0 ∧ k0 ≤ (((List.length s0) : Nat) : Int) ∧ (((List.length s0) : Nat) : Int) ≤ (((List.length s0) : Nat) : Int)) <|
        asrt ((0 + Int.toNat k0) + (Int.toNat (((List.length s0) : Nat) : Int) - Int.toNat k0) ≤ s0.length) <|
        asrt ((0 : Int) ≤ (0 : Int) ∧ (0 : Int) ≤ k0 ∧ k0 ≤ ((List.take (0 + Int.toNat k0) s0 ++ List.replicate (Int.toNat (((List.length s0) : Nat) : Int) - Int.toNat k0) (0 : Int) ++ List.drop ((0 + Int.toNat k0) + (Int.toNat (((List.length s0) : Nat) : Int) - Int.toNat k0)) s0).length : Int)) <|
        asrt ((Int.toNat k0 - Int.toNat (0 : Int)) ≤ (List.take (0 + Int.toNat k0) s0 ++ List.replicate (Int.toNat (((List.length s0) : Nat) : Int) - Int.toNat k0) (0 : Int) ++ List.drop ((0 + Int.toNat k0) + (Int.toNat (((List.length s0) : Nat) : Int) - Int.toNat k0)) s0).length) <|
        some (.inr (.inr (List.take (Int.toNat k0 - Int.toNat (0 : Int)) (List.take (0 + Int.toNat k0) s0 ++ List.replicate (Int.toNat (((List.length s0) : Nat) : Int) - Int.toNat k0) (0 : Int) ++ List.drop ((0 + Int.toNat k0) + (Int.toNat (((List.length s0) : Nat) : Int) - Int.toNat k0)) s0))))))
    else (
      some (.inl (IntKind.i64.wrap (k + (1 : Int))))))
  else (
    some (.inr (.inl ())))

def M.slices_Compact_int_int (s : List Int) : Option (List Int) :=
  bif (decide ((s.length : Int) < (2 : Int))) then (
    some s)
  else (
    (iterO (M.slices_Compact_int_int_l0 s) (1 : Int)).bind fun e => match e with
    | .inl () =>
      (some s)
    | .inr r => some r)

def M.impl_UnexpectedEvents_l0 (list : List Trigger) (schedule : List Rule) : (List Int × Int) → Option ((List Int × Int) ⊕ (List Int)) := fun st_ => match st_ with
| (events0, v) =>
  bif (decide (v < (schedule.length : Int))) then (
    (((
      asrt ((0 : Int) ≤ v ∧ v < (schedule.length : Int)) <|
      (M.impl_expected list ((schedule.getD (Int.toNat v) default).Event)).bind fun y3 =>
      bif (!y3.2) then (
        asrt ((events0.length : Int) + (([(schedule.getD (Int.toNat v) default).Event] : List Int).length : Int) ≤ 2147483648) <|
        some (events0 ++ ([(schedule.getD (Int.toNat v) default).Event] : List Int)))
      else (
        some events0)) : Option (List Int))).bind fun e => match e with
    | events1 =>
      (some (.inl (events1, (IntKind.i64.wrap (v + (1 : Int)))))))
  else (
    some (.inr events0))

def M.impl_UnexpectedEvents (list : List Trigger) (schedule : List Rule) : Option (List Int × Bool) :=
  (M.impl_areAcyclic list).bind fun y0 =>
  ((bif (!y0) then some default else M.impl_IsSchedule schedule)).bind fun y1 =>
  bif ((!y0) || (!y1)) then (
    some (([] : List Int), false))
  else (
    (iterO (M.impl_UnexpectedEvents_l0 list schedule) (([] : List Int), (0 : Int))).bind fun e => match e with
    | events =>
      ((M.slices_Sort_int_int events).bind fun y4 =>
      asrt (y4.length = events.length) <|
      (M.slices_Compact_int_int y4).bind fun y5 =>
      some (y5, true)))

def M.spec_UnexpectedEvents_l1 (schedule : List Rule) (event : Int) : (Bool × Int) → Option ((Bool × Int) ⊕ (Bool)) := fun st_ => match st_ with
| (used0, i) =>
  bif (decide (i < (schedule.length : Int))) then (
    asrt (used0 = false → ((0 : Int) ≤ i ∧ i < (schedule.length : Int))) <|
    some (.inl ((used0 || (((schedule.getD (Int.toNat i) default).Event) == event)), (IntKind.i64.wrap (i + (1 : Int))))))
  else (
    some (.inr used0))

def M.spec_UnexpectedEvents_l0 (list : List Trigger) (schedule : List Rule) : (List Int × Int) → Option ((List Int × Int) ⊕ (List Int)) := fun st_ => match st_ with
| (out_0, event) =>
  bif (decide (event ≤ (9 : Int))) then (
    (((
      (iterO (M.spec_UnexpectedEvents_l1 schedule event) (false, (0 : Int))).bind fun e => match e with
      | used =>
        (((bif used then M.spec_l10Day list event else some default)).bind fun y4 =>
        bif (used && (decide (y4 < (0 : Int)))) then (
          asrt ((out_0.length : Int) + (([event] : List Int).length : Int) ≤ 2147483648) <|
          some (out_0 ++ ([event] : List Int)))
        else (
          some out_0))) : Option (List Int))).bind fun e => match e with
    | out_1 =>
      (some (.inl (out_1, (IntKind.i64.wrap (event + (1 : Int)))))))
  else (
    some (.inr out_0))

def M.spec_UnexpectedEvents (list : List Trigger) (schedule : List Rule) : Option (List Int × Bool) :=
  (M.spec_l10Free list).bind fun y0 =>
  ((bif (!y0) then some default else M.spec_l4Good schedule)).bind fun y1 =>
  bif ((!y0) || (!y1)) then (
    some (([] : List Int), false))
  else (
    (iterO (M.spec_UnexpectedEvents_l0 list schedule) (([] : List Int), (1 : Int))).bind fun e => match e with
    | out_ =>
      (some (out_, true)))

def M.laws_vInts_l0 (a : List Int) (b_ : List Int) : (Int) → Option ((Int) ⊕ ((Unit) ⊕ (Bool))) := fun st_ => match st_ with
| i =>
  bif (decide (i < (a.length : Int))) then (
    asrt ((0 : Int) ≤ i ∧ i < (a.length : Int)) <|
    asrt ((0 : Int) ≤ i ∧ i < (b_.length : Int)) <|
    bif ((a.getD (Int.toNat i) default) != (b_.getD (Int.toNat i) default)) then (
      some (.inr (.inr false)))
    else (
      some (.inl (IntKind.i64.wrap (i + (1 : Int))))))
  else (
    some (.inr (.inl ())))

def M.laws_vInts (a : List Int) (b_ : List Int) : Option Bool :=
  bif ((a.length : Int) != (b_.length : Int)) then (
    some false)
  else (
    (iterO (M.laws_vInts_l0 a b_) (0 : Int)).bind fun e => match e with
    | .inl () =>
      (some true)
    | .inr r => some r)

def M.impl_RulesFor (list : List Rule) (series : Int) : Option (List Rule × Bool) :=
  (M.impl_IsSchedule list).bind fun y0 =>
  ((bif (!y0) then some default else M.impl_isId series)).bind fun y1 =>
  bif ((!y0) || (!y1)) then (
    some (([] : List Rule), false))
  else (
    (M.impl_rulesFor list series).bind fun y2 =>
    some (y2, true))

def M.laws_vHas_l0 (l : List Int) (x : Int) : (Int) → Option ((Int) ⊕ ((Unit) ⊕ (Bool))) := fun st_ => match st_ with
| i =>
  bif (decide (i < (l.length : Int))) then (
    asrt ((0 : Int) ≤ i ∧ i < (l.length : Int)) <|
    bif ((l.getD (Int.toNat i) default) == x) then (
      some (.inr (.inr true)))
    else (
      some (.inl (IntKind.i64.wrap (i + (1 : Int))))))
  else (
    some (.inr (.inl ())))

def M.laws_vHas (l : List Int) (x : Int) : Option Bool :=
  (iterO (M.laws_vHas_l0 l x) (0 : Int)).bind fun e => match e with
  | .inl () =>
    (some false)
  | .inr r => some r

def M.spec_DrawContradictions_l0 : (List Rule × Int × Cur) → Option ((List Rule × Int × Cur) ⊕ (List Rule × Cur)) := fun st_ => match st_ with
| (list0, i, c_0) =>
  bif (decide (i < (list0.length : Int))) then (
    (((
      (M.spec_l1Cur_one c_0 (2 : Int)).bind fun y2 =>
      bif y2.1 then (
        asrt ((0 : Int) ≤ (IntKind.i64.wrap (i - (1 : Int))) ∧ (IntKind.i64.wrap (i - (1 : Int))) < (list0.length : Int)) <|
        asrt ((0 : Int) ≤ i ∧ i < (list0.length : Int)) <|
        some ((list0.set (Int.toNat i) (⟨(list0.getD (Int.toNat i) default).Series, (list0.getD (Int.toNat i) default).Event, (list0.getD (Int.toNat (IntKind.i64.wrap (i - (1 : Int)))) default).Days, (list0.getD (Int.toNat i) default).Act⟩ : Rule)), y2.2))
      else (
        some (list0, y2.2))) : Option (List Rule × Cur))).bind fun e => match e with
    | (list1, c_1) =>
      (some (.inl (list1, (IntKind.i64.wrap (i + (1 : Int))), c_1))))
  else (
    some (.inr (list0, c_0)))

def M.spec_DrawContradictions (code : List Int) : Option (List Rule) :=
  (M.spec_l1Cur_schedule (⟨code, (0 : Int), (0 : Int)⟩ : Cur)).bind fun y0 =>
  (iterO (M.spec_DrawContradictions_l0) (y0.1, (1 : Int), y0.2)).bind fun e => match e with
  | (list, c_) =>
    (some list)

def M.spec_DrawNeverDecides (code : List Int) : Option (List Rule) :=
  (M.spec_DrawContradictions code).bind fun y0 =>
  some y0

def M.impl_NeverDecides_1 (x : Rule) (r_c : Rule) : Option Bool :=
  some ((x.Series == r_c.Series) && (decide (x.Days > r_c.Days)))

def M.slices_IndexFunc_impl_Rule_impl_Rule_l0 (s : List Rule) (fm : Rule → Option Bool) : (Int) → Option ((Int) ⊕ ((Unit) ⊕ (Int))) := fun st_ => match st_ with
| v =>
  bif (decide (v < (s.length : Int))) then (
    asrt ((0 : Int) ≤ v ∧ v < (s.length : Int)) <|
    (fm (s.getD (Int.toNat v) default)).bind fun y1 =>
    bif y1 then (
      some (.inr (.inr v)))
    else (
      some (.inl (IntKind.i64.wrap (v + (1 : Int))))))
  else (
    some (.inr (.inl ())))

def M.slices_IndexFunc_impl_Rule_impl_Rule (s : List Rule) (fm : Rule → Option Bool) : Option Int :=
  (iterO (M.slices_IndexFunc_impl_Rule_impl_Rule_l0 s fm) (0 : Int)).bind fun e => match e with
  | .inl () =>
    (some (-1 : Int))
  | .inr r => some r

def M.slices_ContainsFunc_impl_Rule_impl_Rule (s : List Rule) (fm : Rule → Option Bool) : Option Bool :=
  (M.slices_IndexFunc_impl_Rule_impl_Rule s fm).bind fun y0 =>
  some (decide (y0 ≥ (0 : Int)))

def M.impl_NeverDecides_l0 (schedule : List Rule) : ((List (Int × Int)) × Int) → Option (((List (Int × Int)) × Int) ⊕ ((List (Int × Int)))) := fun st_ => match st_ with
| (out_0, v) =>
  bif (decide (v < (schedule.length : Int))) then (
    (((
      asrt ((0 : Int) ≤ v ∧ v < (schedule.length : Int)) <|
      ((bif (((schedule.getD (Int.toNat v) default).Event) == (0 : Int)) then M.slices_ContainsFunc_impl_Rule_impl_Rule schedule (fun x0 => M.impl_NeverDecides_1 x0 (schedule.getD (Int.toNat v) default)) else some default)).bind fun y2 =>
      bif ((((schedule.getD (Int.toNat v) default).Event) == (0 : Int)) && y2) then (
        asrt ((out_0.length : Int) + (([((schedule.getD (Int.toNat v) default).Series, (schedule.getD (Int.toNat v) default).Event)] : List (Int × Int)).length : Int) ≤ 2147483648) <|
        some (out_0 ++ ([((schedule.getD (Int.toNat v) default).Series, (schedule.getD (Int.toNat v) default).Event)] : List (Int × Int))))
      else (
        some out_0)) : Option ((List (Int × Int))))).bind fun e => match e with
    | out_1 =>
      (some (.inl (out_1, (IntKind.i64.wrap (v + (1 : Int)))))))
  else (
    some (.inr out_0))

def M.impl_NeverDecides (schedule : List Rule) : Option ((List (Int × Int)) × Bool) :=
  (M.impl_IsSchedule schedule).bind fun y0 =>
  bif (!y0) then (
    some (([] : List (Int × Int)), false))
  else (
    (iterO (M.impl_NeverDecides_l0 schedule) (([] : List (Int × Int)), (0 : Int))).bind fun e => match e with
    | out_ =>
      (some (out_, true)))

def M.spec_LongestPeriod_l0 (y0 : List Rule) : (Int × Int) → Option ((Int × Int) ⊕ (Int)) := fun st_ => match st_ with
| (most0, i) =>
  bif (decide (i < (y0.length : Int))) then (
    asrt ((0 : Int) ≤ i ∧ i < (y0.length : Int)) <|
    (M.spec_l1Most most0 ((y0.getD (Int.toNat i) default).Days)).bind fun y3 =>
    some (.inl (y3, (IntKind.i64.wrap (i + (1 : Int))))))
  else (
    some (.inr most0))

def M.spec_LongestPeriod (list : List Rule) (series : Int) : Option (Int × Bool) :=
  (M.spec_l4For list series).bind fun y0 =>
  (M.spec_l4Good list).bind fun y1 =>
  bif ((!y1) || ((y0.length : Int) == (0 : Int))) then (
    some ((0 : Int), false))
  else (
    (iterO (M.spec_LongestPeriod_l0 y0) ((0 : Int), (0 : Int))).bind fun e => match e with
    | most =>
      (some (most, true)))

def M.spec_NeverDecides_l0 (schedule : List Rule) : ((List (Int × Int)) × Int) → Option (((List (Int × Int)) × Int) ⊕ ((List (Int × Int)))) := fun st_ => match st_ with
| (out_0, i) =>
  bif (decide (i < (schedule.length : Int))) then (
    (((
      asrt ((0 : Int) ≤ i ∧ i < (schedule.length : Int)) <|
      (M.spec_LongestPeriod schedule ((schedule.getD (Int.toNat i) default).Series)).bind fun y2 =>
      bif ((((schedule.getD (Int.toNat i) default).Event) == (0 : Int)) && (decide (((schedule.getD (Int.toNat i) default).Days) < y2.1))) then (
        asrt ((out_0.length : Int) + (([((schedule.getD (Int.toNat i) default).Series, (schedule.getD (Int.toNat i) default).Event)] : List (Int × Int)).length : Int) ≤ 2147483648) <|
        some (out_0 ++ ([((schedule.getD (Int.toNat i) default).Series, (schedule.getD (Int.toNat i) default).Event)] : List (Int × Int))))
      else (
        some out_0)) : Option ((List (Int × Int))))).bind fun e => match e with
    | out_1 =>
      (some (.inl (out_1, (IntKind.i64.wrap (i + (1 : Int)))))))
  else (
    some (.inr out_0))

def M.spec_NeverDecides (schedule : List Rule) : Option ((List (Int × Int)) × Bool) :=
  (M.spec_l4Good schedule).bind fun y0 =>
  bif (!y0) then (
    some (([] : List (Int × Int)), false))
  else (
    (iterO (M.spec_NeverDecides_l0 schedule) (([] : List (Int × Int)), (0 : Int))).bind fun e => match e with
    | out_ =>
      (some (out_, true)))

def M.laws_vPairs_l0 (a : List (Int × Int)) (b_ : List (Int × Int)) : (Int) → Option ((Int) ⊕ ((Unit) ⊕ (Bool))) := fun st_ => match st_ with
| i =>
  bif (decide (i < (a.length : Int))) then (
    asrt ((0 : Int) ≤ i ∧ i < (a.length : Int)) <|
    asrt ((0 : Int) ≤ i ∧ i < (b_.length : Int)) <|
    bif (!((((a.getD (Int.toNat i) default).1) == ((b_.getD (Int.toNat i) default).1)) && (((a.getD (Int.toNat i) default).2) == ((b_.getD (Int.toNat i) default).2)))) then (
      some (.inr (.inr false)))
    else (
      some (.inl (IntKind.i64.wrap (i + (1 : Int))))))
  else (
    some (.inr (.inl ())))

def M.laws_vPairs (a : List (Int × Int)) (b_ : List (Int × Int)) : Option Bool :=
  bif ((a.length : Int) != (b_.length : Int)) then (
    some false)
  else (
    (iterO (M.laws_vPairs_l0 a b_) (0 : Int)).bind fun e => match e with
    | .inl () =>
      (some true)
    | .inr r => some r)

def M.spec_l1Cur_record_l0 (y1 : Int × Cur) : (Int × List Event × Cur) → Option ((Int × List Event × Cur) ⊕ (List Event × Cur)) := fun st_ => match st_ with
| (k, r_Events0, c_0) =>
  bif (decide (k ≤ (6 : Int))) then (
    (((
      (M.spec_l1Cur_one c_0 (3 : Int)).bind fun y3 =>
      bif y3.1 then (
        (M.spec_l1Cur_among y3.2 ([(0 : Int), (1 : Int), (30 : Int), (365 : Int), (1000 : Int)] : List Int)).bind fun y4 =>
        asrt ((r_Events0.length : Int) + (([(⟨k, (IntKind.i64.wrap (y1.1 + y4.1))⟩ : Event)] : List Event).length : Int) ≤ 2147483648) <|
        (((
          some ((r_Events0 ++ ([(⟨k, (IntKind.i64.wrap (y1.1 + y4.1))⟩ : Event)] : List Event)), y4.2)) : Option (List Event × Cur))).bind fun e => match e with
        | (r_Events2, c_2) =>
          (some (r_Events2, c_2)))
      else (
        some (r_Events0, y3.2))) : Option (List Event × Cur))).bind fun e => match e with
    | (r_Events1, c_1) =>
      (some (.inl ((IntKind.i64.wrap (k + (1 : Int))), r_Events1, c_1))))
  else (
    some (.inr (r_Events0, c_0)))

def M.spec_l1Cur_record (c : Cur) (id_ : Int) : Option (Record × Cur) :=
  (M.spec_l1Cur_among c ([(1 : Int), (2 : Int), (3 : Int), (3 : Int), (7 : Int), (99 : Int)] : List Int)).bind fun y0 =>
  (M.spec_l1Cur_among y0.2 ([(0 : Int), (100 : Int), (100 : Int), (500 : Int), (3000 : Int)] : List Int)).bind fun y1 =>
  (iterO (M.spec_l1Cur_record_l0 y1) ((1 : Int), ([] : List Event), y1.2)).bind fun e => match e with
  | (r_Events, c_) =>
    ((M.spec_l1Cur_pick c_ (48 : Int)).bind fun y5 =>
    (((
      bif (y5.1 == (0 : Int)) then (
        (M.spec_l1Cur_among y5.2 ([(0 : Int), (100 : Int)] : List Int)).bind fun y6 =>
        some (y6.1, y1.1, r_Events, y6.2))
      else (
        bif (y5.1 == (1 : Int)) then (
          (M.spec_l1Cur_among y5.2 ([(-1 : Int), (20001 : Int), (19999 : Int)] : List Int)).bind fun y7 =>
          some (y0.1, y7.1, r_Events, y7.2))
        else (
          bif (y5.1 == (2 : Int)) then (
            (M.spec_l1Cur_among y5.2 ([(1 : Int), (9 : Int), (10 : Int)] : List Int)).bind fun y8 =>
            (M.spec_l1Cur_among y8.2 ([(0 : Int), (20000 : Int)] : List Int)).bind fun y9 =>
            asrt ((r_Events.length : Int) + (([(⟨y8.1, y9.1⟩ : Event)] : List Event).length : Int) ≤ 2147483648) <|
            (((
              some ((r_Events ++ ([(⟨y8.1, y9.1⟩ : Event)] : List Event)), y9.2)) : Option (List Event × Cur))).bind fun e => match e with
            | (r_Events4, o) =>
              (some (y0.1, y1.1, r_Events4, o)))
          else (
            some (y0.1, y1.1, r_Events, y5.2))))) : Option (Int × Int × List Event × Cur))).bind fun e => match e with
    | (r_Series, r_Made, r_Events3, c_3) =>
      (some ((⟨id_, r_Series, r_Made, r_Events3⟩ : Record), c_3)))

def M.spec_DrawIsRecord (code : List Int) : Option Record :=
  (M.spec_l1Cur_among (⟨code, (0 : Int), (0 : Int)⟩ : Cur) ([(1 : Int), (12 : Int), (999 : Int), (0 : Int), (1000 : Int)] : List Int)).bind fun y0 =>
  (M.spec_l1Cur_record y0.2 y0.1).bind fun y1 =>
  some y1.1

def M.impl_isDay (day : Int) : Option Bool :=
  (M.impl_within day (0 : Int) (20000 : Int)).bind fun y0 =>
  some y0

def M.impl_IsEvent (e_ : Event) : Option Bool :=
  (M.impl_within e_.Kind (1 : Int) (9 : Int)).bind fun y0 =>
  ((bif y0 then M.impl_isDay e_.Day else some default)).bind fun y1 =>
  some (y0 && y1)

def M.impl_IsRecord_l0 (r_ : Record) : (Int) → Option ((Int) ⊕ ((Unit) ⊕ (Bool))) := fun st_ => match st_ with
| v =>
  bif (decide (v < (r_.Events.length : Int))) then (
    asrt ((0 : Int) ≤ v ∧ v < (r_.Events.length : Int)) <|
    (M.impl_IsEvent (r_.Events.getD (Int.toNat v) default)).bind fun y4 =>
    asrt (((!y4) || (decide (((r_.Events.getD (Int.toNat v) default).Day) < r_.Made))) = false → (decide (v > (0 : Int))) = true → ((0 : Int) ≤ (IntKind.i64.wrap (v - (1 : Int))) ∧ (IntKind.i64.wrap (v - (1 : Int))) < (r_.Events.length : Int))) <|
    bif (((!y4) || (decide (((r_.Events.getD (Int.toNat v) default).Day) < r_.Made))) || ((decide (v > (0 : Int))) && (decide (((r_.Events.getD (Int.toNat (IntKind.i64.wrap (v - (1 : Int)))) default).Kind) ≥ ((r_.Events.getD (Int.toNat v) default).Kind))))) then (
      some (.inr (.inr false)))
    else (
      some (.inl (IntKind.i64.wrap (v + (1 : Int))))))
  else (
    some (.inr (.inl ())))

def M.impl_IsRecord (r_ : Record) : Option Bool :=
  (M.impl_within r_.Id (1 : Int) (999 : Int)).bind fun y0 =>
  ((bif (!y0) then some default else M.impl_isId r_.Series)).bind fun y1 =>
  ((bif ((!y0) || (!y1)) then some default else M.impl_isDay r_.Made)).bind fun y2 =>
  bif ((((!y0) || (!y1)) || (!y2)) || (decide ((r_.Events.length : Int) > (6 : Int)))) then (
    some false)
  else (
    (iterO (M.impl_IsRecord_l0 r_) (0 : Int)).bind fun e => match e with
    | .inl () =>
      (some true)
    | .inr r => some r)

def M.impl_areBoth (r_ : Record) (schedule : List Rule) : Option Bool :=
  (M.impl_IsRecord r_).bind fun y0 =>
  ((bif y0 then M.impl_IsSchedule schedule else some default)).bind fun y1 =>
  some (y0 && y1)

def M.impl_eventAt_1 (e_ : Event) (kind : Int) : Option Bool :=
  some (e_.Kind == kind)

def M.slices_IndexFunc_impl_Event_impl_Event_l0 (s : List Event) (fm : Event → Option Bool) : (Int) → Option ((Int) ⊕ ((Unit) ⊕ (Int))) := fun st_ => match st_ with
| v =>
  bif (decide (v < (s.length : Int))) then (
    asrt ((0 : Int) ≤ v ∧ v < (s.length : Int)) <|
    (fm (s.getD (Int.toNat v) default)).bind fun y1 =>
    bif y1 then (
      some (.inr (.inr v)))
    else (
      some (.inl (IntKind.i64.wrap (v + (1 : Int))))))
  else (
    some (.inr (.inl ())))

def M.slices_IndexFunc_impl_Event_impl_Event (s : List Event) (fm : Event → Option Bool) : Option Int :=
  (iterO (M.slices_IndexFunc_impl_Event_impl_Event_l0 s fm) (0 : Int)).bind fun e => match e with
  | .inl () =>
    (some (-1 : Int))
  | .inr r => some r

def M.impl_eventAt (r_ : Record) (kind : Int) : Option Int :=
  (M.slices_IndexFunc_impl_Event_impl_Event r_.Events (fun x0 => M.impl_eventAt_1 x0 kind)).bind fun y0 =>
  some y0

def M.impl_dayOf (r_ : Record) (kind : Int) : Option (Int × Bool) :=
  bif (kind == (0 : Int)) then (
    some (r_.Made, true))
  else (
    (M.impl_eventAt r_ kind).bind fun y0 =>
    bif (decide (y0 < (0 : Int))) then (
      some ((0 : Int), false))
    else (
      asrt ((0 : Int) ≤ y0 ∧ y0 < (r_.Events.length : Int)) <|
      some ((r_.Events.getD (Int.toNat y0) default).Day, true)))

def M.impl_endOf (r_ : Record) (rule : Rule) : Option Int :=
  (M.impl_dayOf r_ rule.Event).bind fun y0 =>
  bif (!y0.2) then (
    some (-1 : Int))
  else (
    some (IntKind.i64.wrap (y0.1 + rule.Days)))

def M.impl_deciding_l0 (r_ : Record) (y0 : List Rule) : (Int × Int × Rule) → Option ((Int × Int × Rule) ⊕ ((Int × Rule) ⊕ (Rule × Int × Bool))) := fun st_ => match st_ with
| (due0, v, best0) =>
  bif (decide (v < (y0.length : Int))) then (
    (((
      asrt ((0 : Int) ≤ v ∧ v < (y0.length : Int)) <|
      (M.impl_endOf r_ (y0.getD (Int.toNat v) default)).bind fun y2 =>
      bif (decide (y2 < (0 : Int))) then (
        some (.inr ((⟨(0 : Int), (0 : Int), (0 : Int), (0 : Int)⟩ : Rule), (0 : Int), false)))
      else (
        bif ((decide (y2 > due0)) || ((y2 == due0) && (decide (((y0.getD (Int.toNat v) default).Act) < best0.Act)))) then (
          some (.inl (y2, (y0.getD (Int.toNat v) default))))
        else (
          some (.inl (due0, best0))))) : Option ((Int × Rule) ⊕ (Rule × Int × Bool)))).bind fun e => match e with
    | .inl (due1, best1) =>
      (some (.inl (due1, (IntKind.i64.wrap (v + (1 : Int))), best1)))
    | .inr r => some (.inr (.inr r)))
  else (
    some (.inr (.inl (due0, best0))))

def M.impl_deciding (r_ : Record) (schedule : List Rule) : Option (Rule × Int × Bool) :=
  (M.impl_rulesFor schedule r_.Series).bind fun y0 =>
  (iterO (M.impl_deciding_l0 r_ y0) ((-1 : Int), (0 : Int), (⟨(0 : Int), (0 : Int), (0 : Int), (0 : Int)⟩ : Rule))).bind fun e => match e with
  | .inl (due, best) =>
    (some (best, (bif decide (due < (0 : Int)) then (0 : Int) else due), (decide (due ≥ (0 : Int)))))
  | .inr r => some r

def M.impl_DecidingRule (r_ : Record) (schedule : List Rule) : Option (Rule × Bool) :=
  (M.impl_areBoth r_ schedule).bind fun y0 =>
  bif (!y0) then (
    some ((⟨(0 : Int), (0 : Int), (0 : Int), (0 : Int)⟩ : Rule), false))
  else (
    (M.impl_deciding r_ schedule).bind fun y1 =>
    some (y1.1, y1.2.2))

def M.laws_FnExpected_l0 (y1 : List Trigger × Int) (y2 : Int × Bool) : (Int) → Option ((Int) ⊕ ((Unit) ⊕ (Bool))) := fun st_ => match st_ with
| i =>
  bif ((decide (i < (y1.1.length : Int))) && y2.2) then (
    (((
      asrt ((0 : Int) ≤ i ∧ i < (y1.1.length : Int)) <|
      bif (((y1.1.getD (Int.toNat i) default).Event) != y1.2) then (
        some (.inl ()))
      else (
        asrt ((0 : Int) ≤ i ∧ i < (y1.1.length : Int)) <|
        (M.impl_ExpectedDay y1.1 ((y1.1.getD (Int.toNat i) default).After)).bind fun y5 =>
        asrt ((!y5.2) = false → ((0 : Int) ≤ i ∧ i < (y1.1.length : Int))) <|
        bif ((!y5.2) || (decide ((IntKind.i64.wrap (y5.1 + ((y1.1.getD (Int.toNat i) default).Days))) > y2.1))) then (
          some (.inr false))
        else (
          some (.inl ())))) : Option ((Unit) ⊕ (Bool)))).bind fun e => match e with
    | .inl () =>
      (some (.inl (IntKind.i64.wrap (i + (1 : Int)))))
    | .inr r => some (.inr (.inr r)))
  else (
    some (.inr (.inl ())))

def M.laws_FnExpected_l1 (y7 : Int × Bool) (y9 : List Int × Bool) (y12 : List Rule × Bool) : (Int) → Option ((Int) ⊕ ((Unit) ⊕ (Bool))) := fun st_ => match st_ with
| i0 =>
  bif (decide (i0 < (y12.1.length : Int))) then (
    asrt ((0 : Int) ≤ i0 ∧ i0 < (y12.1.length : Int)) <|
    (M.laws_vHas y9.1 ((y12.1.getD (Int.toNat i0) default).Event)).bind fun y14 =>
    asrt (y14 = false → ((0 : Int) ≤ i0 ∧ i0 < (y12.1.length : Int))) <|
    bif (y14 || (decide (((y12.1.getD (Int.toNat i0) default).Days) > y7.1))) then (
      some (.inr (.inr false)))
    else (
      some (.inl (IntKind.i64.wrap (i0 + (1 : Int))))))
  else (
    some (.inr (.inl ())))

def M.laws_FnExpected_l2 (y16 : (List (Int × Int)) × Bool) (y20 : Rule × Bool) : (Int) → Option ((Int) ⊕ ((Unit) ⊕ (Bool))) := fun st_ => match st_ with
| i1 =>
  bif (decide (i1 < (y16.1.length : Int))) then (
    asrt ((0 : Int) ≤ i1 ∧ i1 < (y16.1.length : Int)) <|
    bif ((((y16.1.getD (Int.toNat i1) default).1) == y20.1.Series) && (((y16.1.getD (Int.toNat i1) default).2) == y20.1.Event)) then (
      some (.inr (.inr false)))
    else (
      some (.inl (IntKind.i64.wrap (i1 + (1 : Int))))))
  else (
    some (.inr (.inl ())))

def M.laws_FnExpected (code : List Int) : Option Bool :=
  (M.laws_vBig code).bind fun y0 =>
  bif y0 then (
    some true)
  else (
    (M.spec_DrawExpectedDay code).bind fun y1 =>
    (M.impl_ExpectedDay y1.1 y1.2).bind fun y2 =>
    (M.spec_ExpectedDay y1.1 y1.2).bind fun y3 =>
    bif ((y2.1 != y3.1) || (!(y2.2 == y3.2))) then (
      some false)
    else (
      (iterO (M.laws_FnExpected_l0 y1 y2) (0 : Int)).bind fun e => match e with
      | .inl () =>
        ((M.spec_DrawExpectedDue code).bind fun y6 =>
        (M.impl_ExpectedDue y6.1 y6.2.1 y6.2.2).bind fun y7 =>
        (M.spec_ExpectedDue y6.1 y6.2.1 y6.2.2).bind fun y8 =>
        bif ((y7.1 != y8.1) || (!(y7.2 == y8.2))) then (
          some false)
        else (
          (M.impl_UnexpectedEvents y6.1 y6.2.1).bind fun y9 =>
          (M.spec_UnexpectedEvents y6.1 y6.2.1).bind fun y10 =>
          ((bif (!(y9.2 == y10.2)) then some default else M.laws_vInts y9.1 y10.1)).bind fun y11 =>
          bif ((!(y9.2 == y10.2)) || (!y11)) then (
            some false)
          else (
            (((
              bif y7.2 then (
                (M.impl_RulesFor y6.2.1 y6.2.2).bind fun y12 =>
                bif ((!y12.2) || ((y12.1.length : Int) == (0 : Int))) then (
                  some (.inr false))
                else (
                  (iterO (M.laws_FnExpected_l1 y7 y9 y12) (0 : Int)).bind fun e => match e with
                  | .inl () =>
                    (some (.inl ()))
                  | .inr r => some (.inr r)))
              else (
                some (.inl ()))) : Option ((Unit) ⊕ (Bool)))).bind fun e => match e with
            | .inl () =>
              ((M.spec_DrawNeverDecides code).bind fun y15 =>
              (M.impl_NeverDecides y15).bind fun y16 =>
              (M.spec_NeverDecides y15).bind fun y17 =>
              ((bif (!(y16.2 == y17.2)) then some default else M.laws_vPairs y16.1 y17.1)).bind fun y18 =>
              bif ((!(y16.2 == y17.2)) || (!y18)) then (
                some false)
              else (
                (M.spec_DrawIsRecord code).bind fun y19 =>
                (M.impl_DecidingRule y19 y15).bind fun y20 =>
                bif y20.2 then (
                  (iterO (M.laws_FnExpected_l2 y16 y20) (0 : Int)).bind fun e => match e with
                  | .inl () =>
                    (some true)
                  | .inr r => some r)
                else (
                  some true)))
            | .inr r => some r)))
      | .inr r => some r))
end Go.Proofs.YtjfpdbhjoofllaaGreat
