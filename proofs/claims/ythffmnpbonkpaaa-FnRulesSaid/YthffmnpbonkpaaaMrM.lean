/- models of the functions -/
import Derived.Test.YthffmnpbonkpaaaWh
set_option linter.unusedSimpArgs false
set_option linter.unusedVariables false
set_option maxRecDepth 100000
namespace Go.Proofs.Ythffmnpbonkpaaa
open Go.VS

structure Cur where
  Code : List Int
  At : Int
  Seed : Int
  deriving Inhabited, DecidableEq

abbrev encCur (ρ : Nat) (c : Cur) : PV := .agg [.vl ρ 1 (List.map encU8 c.Code), .int .i64 c.At, .int .u64 c.Seed]

structure Rule where
  Series : Int
  Event : Int
  Days : Int
  Act : Int
  deriving Inhabited, DecidableEq

abbrev encRule (c : Rule) : PV := .agg [.int .i64 c.Series, .int .i64 c.Event, .int .i64 c.Days, .int .i64 c.Act]

def M.laws_vBig (code : List Int) : Option Bool :=
  some (decide ((code.length : Int) > (65536 : Int)))

def M.spec_l1Cur_next (c : Cur) : Option (Int × Cur) :=
  (((
    bif (decide (c.At < (c.Code.length : Int))) then (
      asrt ((0 : Int) ≤ c.At ∧ c.At < (c.Code.length : Int)) <|
      some (IntKind.i64.wrap (c.Code.getD (Int.toNat c.At) default)))
    else (
      some (0 : Int))) : Option Int)).bind fun e => match e with
  | b_ =>
    (bif (decide ((IntKind.i64.wrap (c.At + (1 : Int))) ≤ (c.Code.length : Int))) then (
      some (b_, (⟨c.Code, (IntKind.i64.wrap (c.At + (1 : Int))), (IntKind.u64.wrap ((IntKind.u64.wrap ((IntKind.u64.wrap (c.Seed * (6364136223846793005 : Int))) + (IntKind.u64.wrap b_))) + (103535 : Int)))⟩ : Cur)))
    else (
      some ((IntKind.i64.wrap (IntKind.u64.wrap (BitVec.ofInt IntKind.u64.bits (Int.fdiv (IntKind.u64.wrap ((IntKind.u64.wrap ((IntKind.u64.wrap (c.Seed * (6364136223846793005 : Int))) + (IntKind.u64.wrap b_))) + (103535 : Int))) (2 ^ (min (Int.toNat (40 : Int)) IntKind.u64.bits))) &&& BitVec.ofInt IntKind.u64.bits (255 : Int)).toNat)), (⟨c.Code, (IntKind.i64.wrap (c.At + (1 : Int))), (IntKind.u64.wrap ((IntKind.u64.wrap ((IntKind.u64.wrap (c.Seed * (6364136223846793005 : Int))) + (IntKind.u64.wrap b_))) + (103535 : Int)))⟩ : Cur))))

def M.spec_l1Cur_pick (c : Cur) (n : Int) : Option (Int × Cur) :=
  bif (decide (n ≤ (1 : Int))) then (
    some ((0 : Int), c))
  else (
    (M.spec_l1Cur_next c).bind fun y0 =>
    (((
      bif (decide (n > (200 : Int))) then (
        (M.spec_l1Cur_next y0.2).bind fun y1 =>
        some ((IntKind.i64.wrap ((IntKind.i64.wrap (y0.1 * (256 : Int))) + y1.1)), y1.2))
      else (
        some (y0.1, y0.2))) : Option (Int × Cur))).bind fun e => match e with
    | (x, c_) =>
      (asrt (n ≠ 0) <|
      some ((Int.tmod x n), c_)))

def M.spec_l1Cur_among (c : Cur) (list : List Int) : Option (Int × Cur) :=
  (M.spec_l1Cur_pick c (list.length : Int)).bind fun y0 =>
  asrt ((0 : Int) ≤ y0.1 ∧ y0.1 < (list.length : Int)) <|
  some ((list.getD (Int.toNat y0.1) default), y0.2)

def M.spec_l1Cur_rule (c : Cur) : Option (Rule × Cur) :=
  (M.spec_l1Cur_among c ([(1 : Int), (2 : Int), (3 : Int), (3 : Int), (7 : Int), (99 : Int)] : List Int)).bind fun y0 =>
  (M.spec_l1Cur_among y0.2 ([(0 : Int), (0 : Int), (1 : Int), (2 : Int), (3 : Int), (9 : Int)] : List Int)).bind fun y1 =>
  (M.spec_l1Cur_among y1.2 ([(0 : Int), (30 : Int), (365 : Int), (400 : Int), (3650 : Int), (20000 : Int)] : List Int)).bind fun y2 =>
  (M.spec_l1Cur_pick y2.2 (3 : Int)).bind fun y3 =>
  (M.spec_l1Cur_pick y3.2 (48 : Int)).bind fun y4 =>
  (((
    bif (y4.1 == (0 : Int)) then (
      (M.spec_l1Cur_among y4.2 ([(0 : Int), (100 : Int)] : List Int)).bind fun y5 =>
      some (y5.2, (⟨y5.1, y1.1, y2.1, (IntKind.i64.wrap ((1 : Int) + y3.1))⟩ : Rule)))
    else (
      bif (y4.1 == (1 : Int)) then (
        (M.spec_l1Cur_among y4.2 ([(-1 : Int), (10 : Int)] : List Int)).bind fun y6 =>
        some (y6.2, (⟨y0.1, y6.1, y2.1, (IntKind.i64.wrap ((1 : Int) + y3.1))⟩ : Rule)))
      else (
        bif (y4.1 == (2 : Int)) then (
          (M.spec_l1Cur_among y4.2 ([(-1 : Int), (20001 : Int)] : List Int)).bind fun y7 =>
          some (y7.2, (⟨y0.1, y1.1, y7.1, (IntKind.i64.wrap ((1 : Int) + y3.1))⟩ : Rule)))
        else (
          bif (y4.1 == (3 : Int)) then (
            (M.spec_l1Cur_among y4.2 ([(0 : Int), (4 : Int)] : List Int)).bind fun y8 =>
            some (y8.2, (⟨y0.1, y1.1, y2.1, y8.1⟩ : Rule)))
          else (
            some (y4.2, (⟨y0.1, y1.1, y2.1, (IntKind.i64.wrap ((1 : Int) + y3.1))⟩ : Rule))))))) : Option (Cur × Rule))).bind fun e => match e with
  | (c_, r_) =>
    (some (r_, c_))

def M.spec_l1In (x : Int) (a : Int) (b_ : Int) : Option Bool :=
  some ((decide (x ≥ a)) && (decide (x ≤ b_)))

def M.spec_l4One (r_ : Rule) : Option Bool :=
  (M.spec_l1In r_.Series (1 : Int) (99 : Int)).bind fun y0 =>
  ((bif y0 then M.spec_l1In r_.Event (0 : Int) (9 : Int) else some default)).bind fun y1 =>
  ((bif (y0 && y1) then M.spec_l1In r_.Days (0 : Int) (20000 : Int) else some default)).bind fun y2 =>
  ((bif ((y0 && y1) && y2) then M.spec_l1In r_.Act (1 : Int) (3 : Int) else some default)).bind fun y3 =>
  some (((y0 && y1) && y2) && y3)

def M.spec_l4Before (a : Rule) (b_ : Rule) : Option Bool :=
  some ((decide (a.Series < b_.Series)) || ((a.Series == b_.Series) && (decide (a.Event < b_.Event))))

def M.spec_l4Good_l0 (list : List Rule) : (Int) → Option ((Int) ⊕ ((Unit) ⊕ (Bool))) := fun st_ => match st_ with
| i =>
  bif (decide (i < (list.length : Int))) then (
    asrt ((0 : Int) ≤ i ∧ i < (list.length : Int)) <|
    (M.spec_l4One (list.getD (Int.toNat i) default)).bind fun y1 =>
    asrt ((!y1) = false → (decide (i > (0 : Int))) = true → ((0 : Int) ≤ (IntKind.i64.wrap (i - (1 : Int))) ∧ (IntKind.i64.wrap (i - (1 : Int))) < (list.length : Int))) <|
    asrt ((!y1) = false → (decide (i > (0 : Int))) = true → ((0 : Int) ≤ i ∧ i < (list.length : Int))) <|
    ((bif (!y1) then some default else (bif (decide (i > (0 : Int))) then M.spec_l4Before (list.getD (Int.toNat (IntKind.i64.wrap (i - (1 : Int)))) default) (list.getD (Int.toNat i) default) else some default))).bind fun y2 =>
    bif ((!y1) || ((decide (i > (0 : Int))) && (!y2))) then (
      some (.inr (.inr false)))
    else (
      some (.inl (IntKind.i64.wrap (i + (1 : Int))))))
  else (
    some (.inr (.inl ())))

def M.spec_l4Good (list : List Rule) : Option Bool :=
  (iterO (M.spec_l4Good_l0 list) (0 : Int)).bind fun e => match e with
  | .inl () =>
    (some (decide ((list.length : Int) ≤ (8 : Int))))
  | .inr r => some r

def M.spec_l4Without_l0 (list : List Rule) (series : Int) (event : Int) : (List Rule × Int) → Option ((List Rule × Int) ⊕ (List Rule)) := fun st_ => match st_ with
| (out_0, i) =>
  bif (decide (i < (list.length : Int))) then (
    (((
      asrt ((0 : Int) ≤ i ∧ i < (list.length : Int)) <|
      asrt ((((list.getD (Int.toNat i) default).Series) != series) = false → ((0 : Int) ≤ i ∧ i < (list.length : Int))) <|
      bif ((((list.getD (Int.toNat i) default).Series) != series) || (((list.getD (Int.toNat i) default).Event) != event)) then (
        asrt ((0 : Int) ≤ i ∧ i < (list.length : Int)) <|
        asrt ((out_0.length : Int) + (([(list.getD (Int.toNat i) default)] : List Rule).length : Int) ≤ 2147483648) <|
        some (out_0 ++ ([(list.getD (Int.toNat i) default)] : List Rule)))
      else (
        some out_0)) : Option (List Rule))).bind fun e => match e with
    | out_1 =>
      (some (.inl (out_1, (IntKind.i64.wrap (i + (1 : Int)))))))
  else (
    some (.inr out_0))

def M.spec_l4Without (list : List Rule) (series : Int) (event : Int) : Option (List Rule) :=
  (iterO (M.spec_l4Without_l0 list series event) (([] : List Rule), (0 : Int))).bind fun e => match e with
  | out_ =>
    (some out_)

def M.spec_PutRule_l0 (r_ : Rule) (y2 : List Rule) : (Int) → Option ((Int) ⊕ (Int)) := fun st_ => match st_ with
| k0 =>
  asrt ((decide (k0 < (y2.length : Int))) = true → ((0 : Int) ≤ k0 ∧ k0 < (y2.length : Int))) <|
  ((bif (decide (k0 < (y2.length : Int))) then M.spec_l4Before (y2.getD (Int.toNat k0) default) r_ else some default)).bind fun y4 =>
  bif ((decide (k0 < (y2.length : Int))) && y4) then (
    some (.inl (IntKind.i64.wrap (k0 + (1 : Int)))))
  else (
    some (.inr k0))

def M.spec_PutRule (list : List Rule) (r_ : Rule) : Option (List Rule × Bool) :=
  (M.spec_l4Good list).bind fun y0 =>
  ((bif (!y0) then some default else M.spec_l4One r_)).bind fun y1 =>
  bif ((!y0) || (!y1)) then (
    some (([] : List Rule), false))
  else (
    (M.spec_l4Without list r_.Series r_.Event).bind fun y2 =>
    (iterO (M.spec_PutRule_l0 r_ y2) (0 : Int)).bind fun e => match e with
    | k =>
      (asrt ((0 : Int) ≤ (0 : Int) ∧ (0 : Int) ≤ k ∧ k ≤ (y2.length : Int)) <|
      asrt ((([] : List Rule).length : Int) + ((slc y2 (0 : Int) k).length : Int) ≤ 2147483648) <|
      asrt (((([] : List Rule) ++ (slc y2 (0 : Int) k)).length : Int) + (([r_] : List Rule).length : Int) ≤ 2147483648) <|
      asrt ((0 : Int) ≤ k ∧ k ≤ (y2.length : Int) ∧ (y2.length : Int) ≤ (y2.length : Int)) <|
      asrt ((((([] : List Rule) ++ (slc y2 (0 : Int) k)) ++ ([r_] : List Rule)).length : Int) + ((slc y2 k (y2.length : Int)).length : Int) ≤ 2147483648) <|
      (((
        some (((([] : List Rule) ++ (slc y2 (0 : Int) k)) ++ ([r_] : List Rule)) ++ (slc y2 k (y2.length : Int)))) : Option (List Rule))).bind fun e => match e with
      | out_ =>
        ((M.spec_l4Good out_).bind fun y5 =>
        bif (!y5) then (
          some (([] : List Rule), false))
        else (
          some (out_, true)))))

def M.spec_l1Cur_schedule_l0 : (List Rule × Int × Cur) → Option ((List Rule × Int × Cur) ⊕ (List Rule × Cur)) := fun st_ => match st_ with
| (list0, n_, c_0) =>
  bif (decide (n_ > (0 : Int))) then (
    (((
      (M.spec_l1Cur_rule c_0).bind fun y2 =>
      (M.spec_PutRule list0 y2.1).bind fun y3 =>
      bif y3.2 then (
        some (y3.1, y2.2))
      else (
        some (list0, y2.2))) : Option (List Rule × Cur))).bind fun e => match e with
    | (list1, c_1) =>
      (some (.inl (list1, (IntKind.i64.wrap (n_ - (1 : Int))), c_1))))
  else (
    some (.inr (list0, c_0)))

def M.spec_l1Cur_schedule_l1 : (List Rule × Cur) → Option ((List Rule × Cur) ⊕ (List Rule × Cur)) := fun st_ => match st_ with
| (list4, c_4) =>
  (M.spec_l1Cur_pick c_4 (2 : Int)).bind fun y7 =>
  bif (decide ((list4.length : Int) < (IntKind.i64.wrap ((8 : Int) + y7.1)))) then (
    asrt ((list4.length : Int) + (([(⟨(1 : Int), (list4.length : Int), (5 : Int), (3 : Int)⟩ : Rule)] : List Rule).length : Int) ≤ 2147483648) <|
    some (.inl ((list4 ++ ([(⟨(1 : Int), (list4.length : Int), (5 : Int), (3 : Int)⟩ : Rule)] : List Rule)), y7.2)))
  else (
    some (.inr (list4, y7.2)))

def M.spec_l1Cur_schedule (c : Cur) : Option (List Rule × Cur) :=
  (M.spec_l1Cur_pick c (7 : Int)).bind fun y0 =>
  (iterO (M.spec_l1Cur_schedule_l0) (([] : List Rule), y0.1, y0.2)).bind fun e => match e with
  | (list, c_) =>
    ((M.spec_l1Cur_pick c_ (32 : Int)).bind fun y4 =>
    (((
      bif (y4.1 == (0 : Int)) then (
        (M.spec_l1Cur_rule y4.2).bind fun y5 =>
        asrt ((list.length : Int) + (([y5.1] : List Rule).length : Int) ≤ 2147483648) <|
        some ((list ++ ([y5.1] : List Rule)), y5.2))
      else (
        bif (y4.1 == (1 : Int)) then (
          (iterO (M.spec_l1Cur_schedule_l1) (([] : List Rule), y4.2)).bind fun e => match e with
          | (list3, c_3) =>
            (some (list3, c_3)))
        else (
          some (list, y4.2)))) : Option (List Rule × Cur))).bind fun e => match e with
    | (list2, c_2) =>
      (some (list2, c_2)))

def M.spec_DrawPutRule (code : List Int) : Option (List Rule × Rule) :=
  (M.spec_l1Cur_schedule (⟨code, (0 : Int), (0 : Int)⟩ : Cur)).bind fun y0 =>
  (M.spec_l1Cur_rule y0.2).bind fun y1 =>
  some (y0.1, y1.1)

def M.impl_within (n : Int) (low : Int) (high : Int) : Option Bool :=
  some ((decide (low ≤ n)) && (decide (n ≤ high)))

def M.impl_isId (id_ : Int) : Option Bool :=
  (M.impl_within id_ (1 : Int) (99 : Int)).bind fun y0 =>
  some y0

def M.impl_isAct (act : Int) : Option Bool :=
  (M.impl_within act (1 : Int) (3 : Int)).bind fun y0 =>
  some y0

def M.impl_IsRule (r_ : Rule) : Option Bool :=
  (M.impl_isId r_.Series).bind fun y0 =>
  ((bif y0 then M.impl_within r_.Event (0 : Int) (9 : Int) else some default)).bind fun y1 =>
  ((bif (y0 && y1) then M.impl_within r_.Days (0 : Int) (20000 : Int) else some default)).bind fun y2 =>
  ((bif ((y0 && y1) && y2) then M.impl_isAct r_.Act else some default)).bind fun y3 =>
  some (((y0 && y1) && y2) && y3)

def M.cmp_isNaN_int (x : Int) : Option Bool :=
  some (x != x)

def M.cmp_Compare_int (x : Int) (y : Int) : Option Int :=
  (M.cmp_isNaN_int x).bind fun y0 =>
  (M.cmp_isNaN_int y).bind fun y1 =>
  bif y0 then (
    bif y1 then (
      some (0 : Int))
    else (
      some (-1 : Int)))
  else (
    bif y1 then (
      some (1 : Int))
    else (
      bif (decide (x < y)) then (
        some (-1 : Int))
      else (
        bif (decide (x > y)) then (
          some (1 : Int))
        else (
          some (0 : Int)))))

def M.cmp_Or_int_l0 (vals : List Int) : (Int) → Option ((Int) ⊕ ((Unit) ⊕ (Int))) := fun st_ => match st_ with
| v =>
  bif (decide (v < (vals.length : Int))) then (
    asrt ((0 : Int) ≤ v ∧ v < (vals.length : Int)) <|
    bif ((vals.getD (Int.toNat v) default) != (0 : Int)) then (
      some (.inr (.inr (vals.getD (Int.toNat v) default))))
    else (
      some (.inl (IntKind.i64.wrap (v + (1 : Int))))))
  else (
    some (.inr (.inl ())))

def M.cmp_Or_int (vals : List Int) : Option Int :=
  (iterO (M.cmp_Or_int_l0 vals) (0 : Int)).bind fun e => match e with
  | .inl () =>
    (some (0 : Int))
  | .inr r => some r

def M.impl_compareRules (a : Rule) (b_ : Rule) : Option Int :=
  (M.cmp_Compare_int a.Series b_.Series).bind fun y0 =>
  (M.cmp_Compare_int a.Event b_.Event).bind fun y1 =>
  (M.cmp_Or_int ([y0, y1] : List Int)).bind fun y2 =>
  some y2

def M.impl_IsSchedule_l0 (list : List Rule) : (Int) → Option ((Int) ⊕ ((Unit) ⊕ (Bool))) := fun st_ => match st_ with
| v =>
  bif (decide (v < (list.length : Int))) then (
    asrt ((0 : Int) ≤ v ∧ v < (list.length : Int)) <|
    (M.impl_IsRule (list.getD (Int.toNat v) default)).bind fun y1 =>
    asrt ((!y1) = false → (decide (v > (0 : Int))) = true → ((0 : Int) ≤ (IntKind.i64.wrap (v - (1 : Int))) ∧ (IntKind.i64.wrap (v - (1 : Int))) < (list.length : Int))) <|
    ((bif (!y1) then some default else (bif (decide (v > (0 : Int))) then M.impl_compareRules (list.getD (Int.toNat (IntKind.i64.wrap (v - (1 : Int)))) default) (list.getD (Int.toNat v) default) else some default))).bind fun y2 =>
    bif ((!y1) || ((decide (v > (0 : Int))) && (decide (y2 ≥ (0 : Int))))) then (
      some (.inr (.inr false)))
    else (
      some (.inl (IntKind.i64.wrap (v + (1 : Int))))))
  else (
    some (.inr (.inl ())))

def M.impl_IsSchedule (list : List Rule) : Option Bool :=
  (iterO (M.impl_IsSchedule_l0 list) (0 : Int)).bind fun e => match e with
  | .inl () =>
    (some (decide ((list.length : Int) ≤ (8 : Int))))
  | .inr r => some r

def M.slices_Clone_impl_Rule_impl_Rule (s : List Rule) : Option (List Rule) := asrt ((s.length : Int) ≤ 2147483648) <| some s

def M.slices_BinarySearchFunc_impl_Rule_impl_Rule_impl_Rule_l0 (x : List Rule) (target : Rule) (fm : Rule → Rule → Option Int) : (Int × Int) → Option ((Int × Int) ⊕ (Int)) := fun st_ => match st_ with
| (i0, j_) =>
  bif (decide (i0 < j_)) then (
    (((
      asrt ((0 : Int) ≤ (IntKind.i64.wrap (Int.fdiv (IntKind.u64.wrap (IntKind.i64.wrap (i0 + j_))) (2 ^ (min (Int.toNat (1 : Int)) IntKind.u64.bits)))) ∧ (IntKind.i64.wrap (Int.fdiv (IntKind.u64.wrap (IntKind.i64.wrap (i0 + j_))) (2 ^ (min (Int.toNat (1 : Int)) IntKind.u64.bits)))) < (x.length : Int)) <|
      (fm (x.getD (Int.toNat (IntKind.i64.wrap (Int.fdiv (IntKind.u64.wrap (IntKind.i64.wrap (i0 + j_))) (2 ^ (min (Int.toNat (1 : Int)) IntKind.u64.bits))))) default) target).bind fun y1 =>
      bif (decide (y1 < (0 : Int))) then (
        some ((IntKind.i64.wrap ((IntKind.i64.wrap (Int.fdiv (IntKind.u64.wrap (IntKind.i64.wrap (i0 + j_))) (2 ^ (min (Int.toNat (1 : Int)) IntKind.u64.bits)))) + (1 : Int))), j_))
      else (
        some (i0, (IntKind.i64.wrap (Int.fdiv (IntKind.u64.wrap (IntKind.i64.wrap (i0 + j_))) (2 ^ (min (Int.toNat (1 : Int)) IntKind.u64.bits))))))) : Option (Int × Int))).bind fun e => match e with
    | (i1, j_0) =>
      (some (.inl (i1, j_0))))
  else (
    some (.inr i0))

def M.slices_BinarySearchFunc_impl_Rule_impl_Rule_impl_Rule (x : List Rule) (target : Rule) (fm : Rule → Rule → Option Int) : Option (Int × Bool) :=
  (iterO (M.slices_BinarySearchFunc_impl_Rule_impl_Rule_impl_Rule_l0 x target fm) ((0 : Int), (x.length : Int))).bind fun e => match e with
  | i =>
    (asrt ((decide (i < (x.length : Int))) = true → ((0 : Int) ≤ i ∧ i < (x.length : Int))) <|
    ((bif (decide (i < (x.length : Int))) then fm (x.getD (Int.toNat i) default) target else some default)).bind fun y2 =>
    some (i, ((decide (i < (x.length : Int))) && (y2 == (0 : Int)))))

def M.slices_Insert_impl_Rule_impl_Rule (s : List Rule) (i : Int) (v : List Rule) : Option (List Rule) := asrt ((0 : Int) ≤ i ∧ i ≤ (s.length : Int) ∧ (s.length : Int) ≤ 2147483647 ∧ v.length = 1) <| some (s.take i.toNat ++ v ++ s.drop i.toNat)

def M.impl_PutRule (list : List Rule) (r_ : Rule) : Option (List Rule × Bool) :=
  (M.impl_IsSchedule list).bind fun y0 =>
  ((bif (!y0) then some default else M.impl_IsRule r_)).bind fun y1 =>
  bif ((!y0) || (!y1)) then (
    some (([] : List Rule), false))
  else (
    (M.slices_Clone_impl_Rule_impl_Rule list).bind fun y2 =>
    (M.slices_BinarySearchFunc_impl_Rule_impl_Rule_impl_Rule y2 r_ (fun x0 x1 => M.impl_compareRules x0 x1)).bind fun y3 =>
    (((
      bif y3.2 then (
        asrt ((0 : Int) ≤ y3.1 ∧ y3.1 < (y2.length : Int)) <|
        some (y2.set (Int.toNat y3.1) r_))
      else (
        (M.slices_Insert_impl_Rule_impl_Rule y2 y3.1 ([r_] : List Rule)).bind fun y4 =>
        some y4)) : Option (List Rule))).bind fun e => match e with
    | out_ =>
      ((M.impl_IsSchedule out_).bind fun y5 =>
      bif (!y5) then (
        some (([] : List Rule), false))
      else (
        some (out_, true))))

def M.laws_vRules_l0 (a : List Rule) (b_ : List Rule) : (Int) → Option ((Int) ⊕ ((Unit) ⊕ (Bool))) := fun st_ => match st_ with
| i =>
  bif (decide (i < (a.length : Int))) then (
    asrt ((0 : Int) ≤ i ∧ i < (a.length : Int)) <|
    asrt ((0 : Int) ≤ i ∧ i < (b_.length : Int)) <|
    bif (!((((a.getD (Int.toNat i) default).Series) == ((b_.getD (Int.toNat i) default).Series)) && ((((a.getD (Int.toNat i) default).Event) == ((b_.getD (Int.toNat i) default).Event)) && ((((a.getD (Int.toNat i) default).Days) == ((b_.getD (Int.toNat i) default).Days)) && ((((a.getD (Int.toNat i) default).Act) == ((b_.getD (Int.toNat i) default).Act)) && true))))) then (
      some (.inr (.inr false)))
    else (
      some (.inl (IntKind.i64.wrap (i + (1 : Int))))))
  else (
    some (.inr (.inl ())))

def M.laws_vRules (a : List Rule) (b_ : List Rule) : Option Bool :=
  bif ((a.length : Int) != (b_.length : Int)) then (
    some false)
  else (
    (iterO (M.laws_vRules_l0 a b_) (0 : Int)).bind fun e => match e with
    | .inl () =>
      (some true)
    | .inr r => some r)

def M.spec_IsRule (r_ : Rule) : Option Bool :=
  (M.spec_l4One r_).bind fun y0 =>
  some y0

def M.impl_DropRule_1 (r_ : Rule) (series : Int) (event : Int) : Option Bool :=
  some ((r_.Series == series) && (r_.Event == event))

def M.slices_IndexFunc_impl_Rule_impl_Rule_l0 (s : List Rule) (fm : Rule → Option Bool) : (Int) → Option ((Int) ⊕ ((Unit) ⊕ (Int))) := fun st_ => match st_ with
| v =>
  bif (decide (v < (s.length : Int))) then (
    asrt ((0 : Int) ≤ v ∧ v < (s.length : Int)) <|
    (fm (s.getD (Int.toNat v) default)).bind fun y1 =>
    bif y1 then (
      some (.inr (.inr v)))
    else (
      some (.inl (IntKind.i64.wrap (v + (1 : Int))))))
  else (
    some (.inr (.inl ())))

def M.slices_IndexFunc_impl_Rule_impl_Rule (s : List Rule) (fm : Rule → Option Bool) : Option Int :=
  (iterO (M.slices_IndexFunc_impl_Rule_impl_Rule_l0 s fm) (0 : Int)).bind fun e => match e with
  | .inl () =>
    (some (-1 : Int))
  | .inr r => some r

def M.slices_Delete_impl_Rule_impl_Rule (s : List Rule) (i : Int) (j_ : Int) : Option (List Rule) :=
  asrt ((0 : Int) ≤ i ∧ i ≤ j_ ∧ j_ ≤ (s.length : Int) ∧ (s.length : Int) ≤ (s.length : Int)) <|
  bif (i == j_) then (
    some s)
  else (
    asrt ((0 : Int) ≤ (0 : Int) ∧ (0 : Int) ≤ i ∧ i ≤ (s.length : Int)) <|
    asrt ((0 : Int) ≤ j_ ∧ j_ ≤ (((List.length s) : Nat) : Int) ∧ (((List.length s) : Nat) : Int) ≤ (((List.length s) : Nat) : Int)) <|
    asrt ((0 + Int.toNat j_) + (Int.toNat (((List.length s) : Nat) : Int) - Int.toNat j_) ≤ s.length) <|
    asrt ((Int.toNat i - Int.toNat (0 : Int)) + (List.take (Int.toNat (((List.length s) : Nat) : Int) - Int.toNat j_) (List.drop (0 + Int.toNat j_) s)).length ≤ s.length) <|
    asrt ((0 : Int) ≤ ((((Int.toNat i - Int.toNat (0 : Int)) + List.length (List.take (Int.toNat (((List.length s) : Nat) : Int) - Int.toNat j_) (List.drop (0 + Int.toNat j_) s))) : Nat) : Int) ∧ ((((Int.toNat i - Int.toNat (0 : Int)) + List.length (List.take (Int.toNat (((List.length s) : Nat) : Int) - Int.toNat j_) (List.drop (0 + Int.toNat j_) s))) : Nat) : Int) ≤ (s.length : Int) ∧ (((0 : Nat) : Int) : Int) + (s.length : Int) ≤ ((List.take (Int.toNat i - Int.toNat (0 : Int)) s ++ (List.take (Int.toNat (((List.length s) : Nat) : Int) - Int.toNat j_) (List.drop (0 + Int.toNat j_) s)) ++ List.drop ((Int.toNat i - Int.toNat (0 : Int)) + List.length (List.take (Int.toNat (((List.length s) : Nat) : Int) - Int.toNat j_) (List.drop (0 + Int.toNat j_) s))) s).length : Int)) <|
    asrt ((0 + Int.toNat ((((Int.toNat i - Int.toNat (0 : Int)) + List.length (List.take (Int.toNat (((List.length s) : Nat) : Int) - Int.toNat j_) (List.drop (0 + Int.toNat j_) s))) : Nat) : Int)) + (Int.toNat (s.length : Int) - Int.toNat ((((Int.toNat i - Int.toNat (0 : Int)) + List.length (List.take (Int.toNat (((List.length s) : Nat) : Int) - Int.toNat j_) (List.drop (0 + Int.toNat j_) s))) : Nat) : Int)) ≤ (List.take (Int.toNat i - Int.toNat (0 : Int)) s ++ (List.take (Int.toNat (((List.length s) : Nat) : Int) - Int.toNat j_) (List.drop (0 + Int.toNat j_) s)) ++ List.drop ((Int.toNat i - Int.toNat (0 : Int)) + List.length (List.take (Int.toNat (((List.length s) : Nat) : Int) - Int.toNat j_) (List.drop (0 + Int.toNat j_) s))) s).length) <|
    asrt (((Int.toNat i - Int.toNat (0 : Int)) + List.length (List.take (Int.toNat (((List.length s) : Nat) : Int) - Int.toNat j_) (List.drop (0 + Int.toNat j_) s))) ≤ (List.take (0 + Int.toNat ((((Int.toNat i - Int.toNat (0 : Int)) + List.length (List.take (Int.toNat (((List.length s) : Nat) : Int) - Int.toNat j_) (List.drop (0 + Int.toNat j_) s))) : Nat) : Int)) (List.take (Int.toNat i - Int.toNat (0 : Int)) s ++ (List.take (Int.toNat (((List.length s) : Nat) : Int) - Int.toNat j_) (List.drop (0 + Int.toNat j_) s)) ++ List.drop ((Int.toNat i - Int.toNat (0 : Int)) + List.length (List.take (Int.toNat (((List.length s) : Nat) : Int) - Int.toNat j_) (List.drop (0 + Int.toNat j_) s))) s) ++ List.replicate (Int.toNat (s.length : Int) - Int.toNat ((((Int.toNat i - Int.toNat (0 : Int)) + List.length (List.take (Int.toNat (((List.length s) : Nat) : Int) - Int.toNat j_) (List.drop (0 + Int.toNat j_) s))) : Nat) : Int)) (⟨(0 : Int), (0 : Int), (0 : Int), (0 : Int)⟩ : Rule) ++ List.drop ((0 + Int.toNat ((((Int.toNat i - Int.toNat (0 : Int)) + List.length (List.take (Int.toNat (((List.length s) : Nat) : Int) - Int.toNat j_) (List.drop (0 + Int.toNat j_) s))) : Nat) : Int)) + (Int.toNat (s.length : Int) - Int.toNat ((((Int.toNat i - Int.toNat (0 : Int)) + List.length (List.take (Int.toNat (((List.length s) : Nat) : Int) - Int.toNat j_) (List.drop (0 + Int.toNat j_) s))) : Nat) : Int))) (List.take (Int.toNat i - Int.toNat (0 : Int)) s ++ (List.take (Int.toNat (((List.length s) : Nat) : Int) - Int.toNat j_) (List.drop (0 + Int.toNat j_) s)) ++ List.drop ((Int.toNat i - Int.toNat (0 : Int)) + List.length (List.take (Int.toNat (((List.length s) : Nat) : Int) - Int.toNat j_) (List.drop (0 + Int.toNat j_) s))) s)).length) <|
    some (List.take ((Int.toNat i - Int.toNat (0 : Int)) + List.length (List.take (Int.toNat (((List.length s) : Nat) : Int) - Int.toNat j_) (List.drop (0 + Int.toNat j_) s))) (List.take (0 + Int.toNat ((((Int.toNat i - Int.toNat (0 : Int)) + List.length (List.take (Int.toNat (((List.length s) : Nat) : Int) - Int.toNat j_) (List.drop (0 + Int.toNat j_) s))) : Nat) : Int)) (List.take (Int.toNat i - Int.toNat (0 : Int)) s ++ (List.take (Int.toNat (((List.length s) : Nat) : Int) - Int.toNat j_) (List.drop (0 + Int.toNat j_) s)) ++ List.drop ((Int.toNat i - Int.toNat (0 : Int)) + List.length (List.take (Int.toNat (((List.length s) : Nat) : Int) - Int.toNat j_) (List.drop (0 + Int.toNat j_) s))) s) ++ List.replicate (Int.toNat (s.length : Int) - Int.toNat ((((Int.toNat i - Int.toNat (0 : Int)) + List.length (List.take (Int.toNat (((List.length s) : Nat) : Int) - Int.toNat j_) (List.drop (0 + Int.toNat j_) s))) : Nat) : Int)) (⟨(0 : Int), (0 : Int), (0 : Int), (0 : Int)⟩ : Rule) ++ List.drop ((0 + Int.toNat ((((Int.toNat i - Int.toNat (0 : Int)) + List.length (List.take (Int.toNat (((List.length s) : Nat) : Int) - Int.toNat j_) (List.drop (0 + Int.toNat j_) s))) : Nat) : Int)) + (Int.toNat (s.length : Int) - Int.toNat ((((Int.toNat i - Int.toNat (0 : Int)) + List.length (List.take (Int.toNat (((List.length s) : Nat) : Int) - Int.toNat j_) (List.drop (0 + Int.toNat j_) s))) : Nat) : Int))) (List.take (Int.toNat i - Int.toNat (0 : Int)) s ++ (List.take (Int.toNat (((List.length s) : Nat) : Int) - Int.toNat j_) (List.drop (0 + Int.toNat j_) s)) ++ List.drop ((Int.toNat i - Int.toNat (0 : Int)) + List.length (List.take (Int.toNat (((List.length s) : Nat) : Int) - Int.toNat j_) (List.drop (0 + Int.toNat j_) s))) s))))

def M.impl_DropRule (list : List Rule) (series : Int) (event : Int) : Option (List Rule × Bool) :=
  (M.slices_IndexFunc_impl_Rule_impl_Rule list (fun x0 => M.impl_DropRule_1 x0 series event)).bind fun y0 =>
  (M.impl_IsSchedule list).bind fun y1 =>
  bif ((!y1) || (decide (y0 < (0 : Int)))) then (
    some (([] : List Rule), false))
  else (
    (M.slices_Clone_impl_Rule_impl_Rule list).bind fun y2 =>
    (M.slices_Delete_impl_Rule_impl_Rule y2 y0 (IntKind.i64.wrap (y0 + (1 : Int)))).bind fun y3 =>
    some (y3, true))

def M.impl_rulesFor_l0 (list : List Rule) (series : Int) : (List Rule × Int) → Option ((List Rule × Int) ⊕ (List Rule)) := fun st_ => match st_ with
| (out_0, v) =>
  bif (decide (v < (list.length : Int))) then (
    (((
      asrt ((0 : Int) ≤ v ∧ v < (list.length : Int)) <|
      bif (((list.getD (Int.toNat v) default).Series) == series) then (
        asrt ((out_0.length : Int) + (([(list.getD (Int.toNat v) default)] : List Rule).length : Int) ≤ 2147483648) <|
        some (out_0 ++ ([(list.getD (Int.toNat v) default)] : List Rule)))
      else (
        some out_0)) : Option (List Rule))).bind fun e => match e with
    | out_1 =>
      (some (.inl (out_1, (IntKind.i64.wrap (v + (1 : Int)))))))
  else (
    some (.inr out_0))

def M.impl_rulesFor (list : List Rule) (series : Int) : Option (List Rule) :=
  (iterO (M.impl_rulesFor_l0 list series) (([] : List Rule), (0 : Int))).bind fun e => match e with
  | out_ =>
    (some out_)

def M.impl_RulesFor (list : List Rule) (series : Int) : Option (List Rule × Bool) :=
  (M.impl_IsSchedule list).bind fun y0 =>
  ((bif (!y0) then some default else M.impl_isId series)).bind fun y1 =>
  bif ((!y0) || (!y1)) then (
    some (([] : List Rule), false))
  else (
    (M.impl_rulesFor list series).bind fun y2 =>
    some (y2, true))

def M.impl_StrongestAct_l0 (y0 : List Rule × Bool) : (Int × Int) → Option ((Int × Int) ⊕ (Int)) := fun st_ => match st_ with
| (best0, v) =>
  bif (decide (v < (y0.1.length : Int))) then (
    asrt ((0 : Int) ≤ v ∧ v < (y0.1.length : Int)) <|
    some (.inl ((bif decide (((y0.1.getD (Int.toNat v) default).Act) < best0) then ((y0.1.getD (Int.toNat v) default).Act) else best0), (IntKind.i64.wrap (v + (1 : Int))))))
  else (
    some (.inr best0))

def M.impl_StrongestAct (list : List Rule) (series : Int) : Option (Int × Bool) :=
  (M.impl_RulesFor list series).bind fun y0 =>
  bif ((!y0.2) || ((y0.1.length : Int) == (0 : Int))) then (
    some ((0 : Int), false))
  else (
    asrt ((0 : Int) ≤ (0 : Int) ∧ (0 : Int) < (y0.1.length : Int)) <|
    (iterO (M.impl_StrongestAct_l0 y0) ((y0.1.getD (Int.toNat (0 : Int)) default).Act, (0 : Int))).bind fun e => match e with
    | best =>
      (some (best, true)))

def M.impl_LongestPeriod_l0 (y0 : List Rule × Bool) : (Int × Int) → Option ((Int × Int) ⊕ (Int)) := fun st_ => match st_ with
| (longest0, v) =>
  bif (decide (v < (y0.1.length : Int))) then (
    asrt ((0 : Int) ≤ v ∧ v < (y0.1.length : Int)) <|
    some (.inl ((bif decide (longest0 < ((y0.1.getD (Int.toNat v) default).Days)) then ((y0.1.getD (Int.toNat v) default).Days) else longest0), (IntKind.i64.wrap (v + (1 : Int))))))
  else (
    some (.inr longest0))

def M.impl_LongestPeriod (list : List Rule) (series : Int) : Option (Int × Bool) :=
  (M.impl_RulesFor list series).bind fun y0 =>
  bif ((!y0.2) || ((y0.1.length : Int) == (0 : Int))) then (
    some ((0 : Int), false))
  else (
    (iterO (M.impl_LongestPeriod_l0 y0) ((0 : Int), (0 : Int))).bind fun e => match e with
    | longest =>
      (some (longest, true)))

def M.spec_l1Cur_one (c : Cur) (n : Int) : Option (Bool × Cur) :=
  (M.spec_l1Cur_pick c n).bind fun y0 =>
  some ((y0.1 == (0 : Int)), y0.2)

def M.spec_DrawDropRule (code : List Int) : Option (List Rule × Int × Int) :=
  (M.spec_l1Cur_schedule (⟨code, (0 : Int), (0 : Int)⟩ : Cur)).bind fun y0 =>
  ((bif (decide ((y0.1.length : Int) > (0 : Int))) then M.spec_l1Cur_one y0.2 (4 : Int) else some default)).bind fun y1 =>
  bif ((decide ((y0.1.length : Int) > (0 : Int))) && (!y1.1)) then (
    (M.spec_l1Cur_pick (bif (decide ((y0.1.length : Int) > (0 : Int))) then y1.2 else y0.2) (y0.1.length : Int)).bind fun y2 =>
    asrt ((0 : Int) ≤ y2.1 ∧ y2.1 < (y0.1.length : Int)) <|
    some (y0.1, (y0.1.getD (Int.toNat y2.1) default).Series, (y0.1.getD (Int.toNat y2.1) default).Event))
  else (
    (M.spec_l1Cur_among (bif (decide ((y0.1.length : Int) > (0 : Int))) then y1.2 else y0.2) ([(1 : Int), (3 : Int), (0 : Int)] : List Int)).bind fun y3 =>
    (M.spec_l1Cur_among y3.2 ([(0 : Int), (1 : Int), (5 : Int)] : List Int)).bind fun y4 =>
    some (y0.1, y3.1, y4.1))

def M.spec_DropRule (list : List Rule) (series : Int) (event : Int) : Option (List Rule × Bool) :=
  (M.spec_l4Without list series event).bind fun y0 =>
  (M.spec_l4Good list).bind fun y1 =>
  bif ((!y1) || ((y0.length : Int) == (list.length : Int))) then (
    some (([] : List Rule), false))
  else (
    some (y0, true))

def M.spec_DrawRulesFor (code : List Int) : Option (List Rule × Int) :=
  (M.spec_l1Cur_schedule (⟨code, (0 : Int), (0 : Int)⟩ : Cur)).bind fun y0 =>
  (M.spec_l1Cur_among y0.2 ([(1 : Int), (2 : Int), (3 : Int), (3 : Int), (7 : Int), (99 : Int), (0 : Int), (100 : Int)] : List Int)).bind fun y1 =>
  some (y0.1, y1.1)

def M.spec_DrawStrongestAct (code : List Int) : Option (List Rule × Int) :=
  (M.spec_DrawRulesFor code).bind fun y0 =>
  some (y0.1, y0.2)

def M.spec_l4For_l0 (list : List Rule) (series : Int) : (List Rule × Int) → Option ((List Rule × Int) ⊕ (List Rule)) := fun st_ => match st_ with
| (out_0, i) =>
  bif (decide (i < (list.length : Int))) then (
    (((
      asrt ((0 : Int) ≤ i ∧ i < (list.length : Int)) <|
      bif (((list.getD (Int.toNat i) default).Series) == series) then (
        asrt ((0 : Int) ≤ i ∧ i < (list.length : Int)) <|
        asrt ((out_0.length : Int) + (([(list.getD (Int.toNat i) default)] : List Rule).length : Int) ≤ 2147483648) <|
        some (out_0 ++ ([(list.getD (Int.toNat i) default)] : List Rule)))
      else (
        some out_0)) : Option (List Rule))).bind fun e => match e with
    | out_1 =>
      (some (.inl (out_1, (IntKind.i64.wrap (i + (1 : Int)))))))
  else (
    some (.inr out_0))

def M.spec_l4For (list : List Rule) (series : Int) : Option (List Rule) :=
  (iterO (M.spec_l4For_l0 list series) (([] : List Rule), (0 : Int))).bind fun e => match e with
  | out_ =>
    (some out_)

def M.spec_StrongestAct_l0 (y0 : List Rule) : (Int × Int) → Option ((Int × Int) ⊕ (Int)) := fun st_ => match st_ with
| (best0, i) =>
  bif (decide (i < (y0.length : Int))) then (
    (((
      asrt ((best0 == (0 : Int)) = false → ((0 : Int) ≤ i ∧ i < (y0.length : Int))) <|
      bif ((best0 == (0 : Int)) || (decide (((y0.getD (Int.toNat i) default).Act) < best0))) then (
        asrt ((0 : Int) ≤ i ∧ i < (y0.length : Int)) <|
        some ((y0.getD (Int.toNat i) default).Act))
      else (
        some best0)) : Option Int)).bind fun e => match e with
    | best1 =>
      (some (.inl (best1, (IntKind.i64.wrap (i + (1 : Int)))))))
  else (
    some (.inr best0))

def M.spec_StrongestAct (list : List Rule) (series : Int) : Option (Int × Bool) :=
  (M.spec_l4For list series).bind fun y0 =>
  (M.spec_l4Good list).bind fun y1 =>
  bif (!y1) then (
    some ((0 : Int), false))
  else (
    (iterO (M.spec_StrongestAct_l0 y0) ((0 : Int), (0 : Int))).bind fun e => match e with
    | best =>
      (some (best, (decide (best > (0 : Int))))))

def M.spec_l1Most (a : Int) (b_ : Int) : Option Int :=
  bif (decide (a > b_)) then (
    some a)
  else (
    some b_)

def M.spec_LongestPeriod_l0 (y0 : List Rule) : (Int × Int) → Option ((Int × Int) ⊕ (Int)) := fun st_ => match st_ with
| (most0, i) =>
  bif (decide (i < (y0.length : Int))) then (
    asrt ((0 : Int) ≤ i ∧ i < (y0.length : Int)) <|
    (M.spec_l1Most most0 ((y0.getD (Int.toNat i) default).Days)).bind fun y3 =>
    some (.inl (y3, (IntKind.i64.wrap (i + (1 : Int))))))
  else (
    some (.inr most0))

def M.spec_LongestPeriod (list : List Rule) (series : Int) : Option (Int × Bool) :=
  (M.spec_l4For list series).bind fun y0 =>
  (M.spec_l4Good list).bind fun y1 =>
  bif ((!y1) || ((y0.length : Int) == (0 : Int))) then (
    some ((0 : Int), false))
  else (
    (iterO (M.spec_LongestPeriod_l0 y0) ((0 : Int), (0 : Int))).bind fun e => match e with
    | most =>
      (some (most, true)))

def M.laws_FnRules (code : List Int) : Option Bool :=
  (M.laws_vBig code).bind fun y0 =>
  bif y0 then (
    some true)
  else (
    (M.spec_DrawPutRule code).bind fun y1 =>
    (M.impl_PutRule y1.1 y1.2).bind fun y2 =>
    (M.spec_PutRule y1.1 y1.2).bind fun y3 =>
    ((bif (!(y2.2 == y3.2)) then some default else M.laws_vRules y2.1 y3.1)).bind fun y4 =>
    ((bif ((!(y2.2 == y3.2)) || (!y4)) then some default else M.impl_IsRule y1.2)).bind fun y5 =>
    ((bif ((!(y2.2 == y3.2)) || (!y4)) then some default else M.spec_IsRule y1.2)).bind fun y6 =>
    bif (((!(y2.2 == y3.2)) || (!y4)) || (!(y5 == y6))) then (
      some false)
    else (
      (((
        bif y2.2 then (
          (M.impl_DropRule y2.1 y1.2.Series y1.2.Event).bind fun y7 =>
          (M.impl_StrongestAct y2.1 y1.2.Series).bind fun y8 =>
          (M.impl_LongestPeriod y2.1 y1.2.Series).bind fun y9 =>
          ((bif ((((((!y7.2) || ((y7.1.length : Int) != (IntKind.i64.wrap ((y2.1.length : Int) - (1 : Int))))) || (!y8.2)) || (decide (y8.1 > y1.2.Act))) || (!y9.2)) || (decide (y9.1 < y1.2.Days))) then some default else M.impl_IsSchedule y2.1)).bind fun y10 =>
          bif (((((((!y7.2) || ((y7.1.length : Int) != (IntKind.i64.wrap ((y2.1.length : Int) - (1 : Int))))) || (!y8.2)) || (decide (y8.1 > y1.2.Act))) || (!y9.2)) || (decide (y9.1 < y1.2.Days))) || (!y10)) then (
            some (.inr false))
          else (
            some (.inl ())))
        else (
          some (.inl ()))) : Option ((Unit) ⊕ (Bool)))).bind fun e => match e with
      | .inl () =>
        ((M.spec_DrawDropRule code).bind fun y11 =>
        (M.impl_DropRule y11.1 y11.2.1 y11.2.2).bind fun y12 =>
        (M.spec_DropRule y11.1 y11.2.1 y11.2.2).bind fun y13 =>
        ((bif (!(y12.2 == y13.2)) then some default else M.laws_vRules y12.1 y13.1)).bind fun y14 =>
        bif ((!(y12.2 == y13.2)) || (!y14)) then (
          some false)
        else (
          (M.spec_DrawStrongestAct code).bind fun y15 =>
          (M.impl_StrongestAct y15.1 y15.2).bind fun y16 =>
          (M.spec_StrongestAct y15.1 y15.2).bind fun y17 =>
          bif ((y16.1 != y17.1) || (!(y16.2 == y17.2))) then (
            some false)
          else (
            (M.impl_LongestPeriod y15.1 y15.2).bind fun y18 =>
            (M.spec_LongestPeriod y15.1 y15.2).bind fun y19 =>
            some (((y18.1 == y19.1) && (y18.2 == y19.2)) && (y18.2 == y16.2)))))
      | .inr r => some r))
end Go.Proofs.Ythffmnpbonkpaaa
