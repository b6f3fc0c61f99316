/- models of the functions -/
import Derived.Test.YteocnbeefedbkaaWq
set_option linter.unusedSimpArgs false
set_option linter.unusedVariables false
set_option maxRecDepth 100000
namespace Go.Proofs.Yteocnbeefedbkaa
open Go.VS

structure Cur where
  Code : List Int
  At : Int
  Seed : Int
  deriving Inhabited, DecidableEq

abbrev encCur (ρ : Nat) (c : Cur) : PV := .agg [.vl ρ 1 (List.map encU8 c.Code), .int .i64 c.At, .int .u64 c.Seed]

structure Event where
  Kind : Int
  Day : Int
  deriving Inhabited, DecidableEq

abbrev encEvent (c : Event) : PV := .agg [.int .i64 c.Kind, .int .i64 c.Day]

structure Record where
  Id : Int
  Series : Int
  Made : Int
  Events : List Event
  deriving Inhabited, DecidableEq

abbrev encRecord (ρ : Nat) (c : Record) : PV := .agg [.int .i64 c.Id, .int .i64 c.Series, .int .i64 c.Made, .vl ρ 2 (List.map encEvent c.Events)]

abbrev cellRecord (t_ : PV) (c : Record) : PV := .agg [.int .i64 c.Id, .int .i64 c.Series, .int .i64 c.Made, t_]

theorem cokRecord : CellOK 4 3 2 (fun c_ : Record => List.map encEvent c_.Events) cellRecord where
  good := fun t x h => rfl
  isl := fun t x h => rfl
  set := fun t t' x h h' => rfl
  no := fun τ t x h => by simp [PV.no, PV.noL, h]
  rep := fun w S S' own own' t t' x h => Rep.aggTo ((.cons (fun u hu => by unfold Rep at hu ⊢; exact hu) (.cons (fun u hu => by unfold Rep at hu ⊢; exact hu) (.cons (fun u hu => by unfold Rep at hu ⊢; exact hu) (.cons h .nil)))))

def M.laws_vBig (code : List Int) : Option Bool :=
  some (decide ((code.length : Int) > (65536 : Int)))

def M.spec_l1Cur_next (c : Cur) : Option (Int × Cur) :=
  (((
    bif (decide (c.At < (c.Code.length : Int))) then (
      asrt ((0 : Int) ≤ c.At ∧ c.At < (c.Code.length : Int)) <|
      some (IntKind.i64.wrap (c.Code.getD (Int.toNat c.At) default)))
    else (
      some (0 : Int))) : Option Int)).bind fun e => match e with
  | b_ =>
    (bif (decide ((IntKind.i64.wrap (c.At + (1 : Int))) ≤ (c.Code.length : Int))) then (
      some (b_, (⟨c.Code, (IntKind.i64.wrap (c.At + (1 : Int))), (IntKind.u64.wrap ((IntKind.u64.wrap ((IntKind.u64.wrap (c.Seed * (6364136223846793005 : Int))) + (IntKind.u64.wrap b_))) + (103535 : Int)))⟩ : Cur)))
    else (
      some ((IntKind.i64.wrap (IntKind.u64.wrap (BitVec.ofInt IntKind.u64.bits (Int.fdiv (IntKind.u64.wrap ((IntKind.u64.wrap ((IntKind.u64.wrap (c.Seed * (6364136223846793005 : Int))) + (IntKind.u64.wrap b_))) + (103535 : Int))) (2 ^ (min (Int.toNat (40 : Int)) IntKind.u64.bits))) &&& BitVec.ofInt IntKind.u64.bits (255 : Int)).toNat)), (⟨c.Code, (IntKind.i64.wrap (c.At + (1 : Int))), (IntKind.u64.wrap ((IntKind.u64.wrap ((IntKind.u64.wrap (c.Seed * (6364136223846793005 : Int))) + (IntKind.u64.wrap b_))) + (103535 : Int)))⟩ : Cur))))

def M.spec_l1Cur_pick (c : Cur) (n : Int) : Option (Int × Cur) :=
  bif (decide (n ≤ (1 : Int))) then (
    some ((0 : Int), c))
  else (
    (M.spec_l1Cur_next c).bind fun y0 =>
    (((
      bif (decide (n > (200 : Int))) then (
        (M.spec_l1Cur_next y0.2).bind fun y1 =>
        some ((IntKind.i64.wrap ((IntKind.i64.wrap (y0.1 * (256 : Int))) + y1.1)), y1.2))
      else (
        some (y0.1, y0.2))) : Option (Int × Cur))).bind fun e => match e with
    | (x, c_) =>
      (asrt (n ≠ 0) <|
      some ((Int.tmod x n), c_)))

def M.spec_l1Cur_among (c : Cur) (list : List Int) : Option (Int × Cur) :=
  (M.spec_l1Cur_pick c (list.length : Int)).bind fun y0 =>
  asrt ((0 : Int) ≤ y0.1 ∧ y0.1 < (list.length : Int)) <|
  some ((list.getD (Int.toNat y0.1) default), y0.2)

def M.spec_l1Cur_population_l0 : (List Int × Int × Int × Cur) → Option ((List Int × Int × Int × Cur) ⊕ (List Int × Int × Cur)) := fun st_ => match st_ with
| (out_0, at_0, n_, c_0) =>
  bif (decide (n_ > (0 : Int))) then (
    asrt ((out_0.length : Int) + (([at_0] : List Int).length : Int) ≤ 2147483648) <|
    (M.spec_l1Cur_among c_0 ([(1 : Int), (2 : Int), (7 : Int), (40 : Int)] : List Int)).bind fun y3 =>
    some (.inl ((out_0 ++ ([at_0] : List Int)), (IntKind.i64.wrap (at_0 + y3.1)), (IntKind.i64.wrap (n_ - (1 : Int))), y3.2)))
  else (
    some (.inr (out_0, at_0, c_0)))

def M.spec_l1Cur_population_l1 : (List Int × Int × Cur) → Option ((List Int × Int × Cur) ⊕ (List Int × Cur)) := fun st_ => match st_ with
| (out_3, at_1, c_3) =>
  (M.spec_l1Cur_pick c_3 (2 : Int)).bind fun y7 =>
  bif (decide ((out_3.length : Int) < (IntKind.i64.wrap ((20 : Int) + y7.1)))) then (
    asrt ((out_3.length : Int) + (([at_1] : List Int).length : Int) ≤ 2147483648) <|
    some (.inl ((out_3 ++ ([at_1] : List Int)), (IntKind.i64.wrap (at_1 + (1 : Int))), y7.2)))
  else (
    some (.inr (out_3, y7.2)))

def M.spec_l1Cur_population (c : Cur) : Option (List Int × Cur) :=
  (M.spec_l1Cur_among c ([(1 : Int), (5 : Int), (100 : Int)] : List Int)).bind fun y0 =>
  (M.spec_l1Cur_pick y0.2 (9 : Int)).bind fun y1 =>
  (iterO (M.spec_l1Cur_population_l0) (([] : List Int), y0.1, y1.1, y1.2)).bind fun e => match e with
  | (out_, at_, c_) =>
    ((M.spec_l1Cur_pick c_ (32 : Int)).bind fun y4 =>
    (((
      bif (y4.1 == (0 : Int)) then (
        (M.spec_l1Cur_among y4.2 ([(0 : Int), (1 : Int), (999 : Int), (1000 : Int)] : List Int)).bind fun y5 =>
        asrt ((out_.length : Int) + (([y5.1] : List Int).length : Int) ≤ 2147483648) <|
        some ((out_ ++ ([y5.1] : List Int)), y5.2))
      else (
        bif (y4.1 == (1 : Int)) then (
          (iterO (M.spec_l1Cur_population_l1) (out_, at_, y4.2)).bind fun e => match e with
          | (out_2, c_2) =>
            (some (out_2, c_2)))
        else (
          some (out_, y4.2)))) : Option (List Int × Cur))).bind fun e => match e with
    | (out_1, c_1) =>
      (some (out_1, c_1)))

def M.spec_l1Most (a : Int) (b_ : Int) : Option Int :=
  bif (decide (a > b_)) then (
    some a)
  else (
    some b_)

def M.spec_DrawEveryNth (code : List Int) : Option (List Int × Int × Int) :=
  (M.spec_l1Cur_among (⟨code, (0 : Int), (0 : Int)⟩ : Cur) ([(1 : Int), (2 : Int), (3 : Int), (5 : Int), (20 : Int), (0 : Int), (21 : Int)] : List Int)).bind fun y0 =>
  (M.spec_l1Cur_population y0.2).bind fun y1 =>
  (M.spec_l1Most (1 : Int) y0.1).bind fun y2 =>
  (M.spec_l1Cur_pick y1.2 (IntKind.i64.wrap (y2 + (1 : Int)))).bind fun y3 =>
  (M.spec_l1Cur_pick y3.2 (9 : Int)).bind fun y4 =>
  some (y1.1, y0.1, (IntKind.i64.wrap (y3.1 - (IntKind.i64.wrap (Int.tdiv y4.1 (8 : Int))))))

def M.impl_within (n : Int) (low : Int) (high : Int) : Option Bool :=
  some ((decide (low ≤ n)) && (decide (n ≤ high)))

def M.impl_IsPopulation_l0 (list : List Int) : (Int) → Option ((Int) ⊕ ((Unit) ⊕ (Bool))) := fun st_ => match st_ with
| v =>
  bif (decide (v < (list.length : Int))) then (
    asrt ((0 : Int) ≤ v ∧ v < (list.length : Int)) <|
    (M.impl_within (list.getD (Int.toNat v) default) (1 : Int) (999 : Int)).bind fun y1 =>
    asrt ((!y1) = false → (decide (v > (0 : Int))) = true → ((0 : Int) ≤ (IntKind.i64.wrap (v - (1 : Int))) ∧ (IntKind.i64.wrap (v - (1 : Int))) < (list.length : Int))) <|
    bif ((!y1) || ((decide (v > (0 : Int))) && (decide ((list.getD (Int.toNat (IntKind.i64.wrap (v - (1 : Int)))) default) ≥ (list.getD (Int.toNat v) default))))) then (
      some (.inr (.inr false)))
    else (
      some (.inl (IntKind.i64.wrap (v + (1 : Int))))))
  else (
    some (.inr (.inl ())))

def M.impl_IsPopulation (list : List Int) : Option Bool :=
  (iterO (M.impl_IsPopulation_l0 list) (0 : Int)).bind fun e => match e with
  | .inl () =>
    (some (decide ((list.length : Int) ≤ (20 : Int))))
  | .inr r => some r

def M.impl_EveryNth_l0 (list : List Int) (k : Int) : (List Int × Int) → Option ((List Int × Int) ⊕ (List Int)) := fun st_ => match st_ with
| (out_0, i) =>
  bif (decide (i < (list.length : Int))) then (
    asrt ((0 : Int) ≤ i ∧ i < (list.length : Int)) <|
    asrt ((out_0.length : Int) + (([(list.getD (Int.toNat i) default)] : List Int).length : Int) ≤ 2147483648) <|
    some (.inl ((out_0 ++ ([(list.getD (Int.toNat i) default)] : List Int)), (IntKind.i64.wrap (i + k)))))
  else (
    some (.inr out_0))

def M.impl_EveryNth (list : List Int) (k : Int) (start : Int) : Option (List Int × Bool) :=
  (M.impl_IsPopulation list).bind fun y0 =>
  ((bif (!y0) then some default else M.impl_within k (1 : Int) (20 : Int))).bind fun y1 =>
  ((bif ((!y0) || (!y1)) then some default else M.impl_within start (0 : Int) (IntKind.i64.wrap (k - (1 : Int))))).bind fun y2 =>
  bif (((!y0) || (!y1)) || (!y2)) then (
    some (([] : List Int), false))
  else (
    (iterO (M.impl_EveryNth_l0 list k) (([] : List Int), start)).bind fun e => match e with
    | out_ =>
      (some (out_, true)))

def M.spec_l1In (x : Int) (a : Int) (b_ : Int) : Option Bool :=
  some ((decide (x ≥ a)) && (decide (x ≤ b_)))

def M.spec_l1Rising_l0 (l : List Int) (lo : Int) (hi : Int) : (Int) → Option ((Int) ⊕ ((Unit) ⊕ (Bool))) := fun st_ => match st_ with
| i =>
  bif (decide (i < (l.length : Int))) then (
    asrt ((0 : Int) ≤ i ∧ i < (l.length : Int)) <|
    (M.spec_l1In (l.getD (Int.toNat i) default) lo hi).bind fun y1 =>
    asrt ((!y1) = false → (decide (i > (0 : Int))) = true → ((0 : Int) ≤ (IntKind.i64.wrap (i - (1 : Int))) ∧ (IntKind.i64.wrap (i - (1 : Int))) < (l.length : Int))) <|
    asrt ((!y1) = false → (decide (i > (0 : Int))) = true → ((0 : Int) ≤ i ∧ i < (l.length : Int))) <|
    bif ((!y1) || ((decide (i > (0 : Int))) && (decide ((l.getD (Int.toNat (IntKind.i64.wrap (i - (1 : Int)))) default) ≥ (l.getD (Int.toNat i) default))))) then (
      some (.inr (.inr false)))
    else (
      some (.inl (IntKind.i64.wrap (i + (1 : Int))))))
  else (
    some (.inr (.inl ())))

def M.spec_l1Rising (l : List Int) (lo : Int) (hi : Int) : Option Bool :=
  (iterO (M.spec_l1Rising_l0 l lo hi) (0 : Int)).bind fun e => match e with
  | .inl () =>
    (some true)
  | .inr r => some r

def M.spec_l12Good (list : List Int) : Option Bool :=
  ((bif (decide ((list.length : Int) ≤ (20 : Int))) then M.spec_l1Rising list (1 : Int) (999 : Int) else some default)).bind fun y0 =>
  some ((decide ((list.length : Int) ≤ (20 : Int))) && y0)

def M.spec_EveryNth_l0 (list : List Int) (k : Int) : (List Int × Int) → Option ((List Int × Int) ⊕ (List Int)) := fun st_ => match st_ with
| (out_0, i) =>
  bif (decide (i < (list.length : Int))) then (
    asrt ((0 : Int) ≤ i ∧ i < (list.length : Int)) <|
    asrt ((out_0.length : Int) + (([(list.getD (Int.toNat i) default)] : List Int).length : Int) ≤ 2147483648) <|
    some (.inl ((out_0 ++ ([(list.getD (Int.toNat i) default)] : List Int)), (IntKind.i64.wrap (i + k)))))
  else (
    some (.inr out_0))

def M.spec_EveryNth (list : List Int) (k : Int) (start : Int) : Option (List Int × Bool) :=
  (M.spec_l12Good list).bind fun y0 =>
  ((bif (!y0) then some default else M.spec_l1In k (1 : Int) (20 : Int))).bind fun y1 =>
  ((bif ((!y0) || (!y1)) then some default else M.spec_l1In start (0 : Int) (IntKind.i64.wrap (k - (1 : Int))))).bind fun y2 =>
  bif (((!y0) || (!y1)) || (!y2)) then (
    some (([] : List Int), false))
  else (
    (iterO (M.spec_EveryNth_l0 list k) (([] : List Int), start)).bind fun e => match e with
    | out_ =>
      (some (out_, true)))

def M.laws_vInts_l0 (a : List Int) (b_ : List Int) : (Int) → Option ((Int) ⊕ ((Unit) ⊕ (Bool))) := fun st_ => match st_ with
| i =>
  bif (decide (i < (a.length : Int))) then (
    asrt ((0 : Int) ≤ i ∧ i < (a.length : Int)) <|
    asrt ((0 : Int) ≤ i ∧ i < (b_.length : Int)) <|
    bif ((a.getD (Int.toNat i) default) != (b_.getD (Int.toNat i) default)) then (
      some (.inr (.inr false)))
    else (
      some (.inl (IntKind.i64.wrap (i + (1 : Int))))))
  else (
    some (.inr (.inl ())))

def M.laws_vInts (a : List Int) (b_ : List Int) : Option Bool :=
  bif ((a.length : Int) != (b_.length : Int)) then (
    some false)
  else (
    (iterO (M.laws_vInts_l0 a b_) (0 : Int)).bind fun e => match e with
    | .inl () =>
      (some true)
    | .inr r => some r)

def M.laws_vHas_l0 (l : List Int) (x : Int) : (Int) → Option ((Int) ⊕ ((Unit) ⊕ (Bool))) := fun st_ => match st_ with
| i =>
  bif (decide (i < (l.length : Int))) then (
    asrt ((0 : Int) ≤ i ∧ i < (l.length : Int)) <|
    bif ((l.getD (Int.toNat i) default) == x) then (
      some (.inr (.inr true)))
    else (
      some (.inl (IntKind.i64.wrap (i + (1 : Int))))))
  else (
    some (.inr (.inl ())))

def M.laws_vHas (l : List Int) (x : Int) : Option Bool :=
  (iterO (M.laws_vHas_l0 l x) (0 : Int)).bind fun e => match e with
  | .inl () =>
    (some false)
  | .inr r => some r

def M.laws_vWithin_l0 (a : List Int) (b_ : List Int) : (Int) → Option ((Int) ⊕ ((Unit) ⊕ (Bool))) := fun st_ => match st_ with
| i =>
  bif (decide (i < (a.length : Int))) then (
    asrt ((0 : Int) ≤ i ∧ i < (a.length : Int)) <|
    (M.laws_vHas b_ (a.getD (Int.toNat i) default)).bind fun y1 =>
    bif (!y1) then (
      some (.inr (.inr false)))
    else (
      some (.inl (IntKind.i64.wrap (i + (1 : Int))))))
  else (
    some (.inr (.inl ())))

def M.laws_vWithin (a : List Int) (b_ : List Int) : Option Bool :=
  (iterO (M.laws_vWithin_l0 a b_) (0 : Int)).bind fun e => match e with
  | .inl () =>
    (some true)
  | .inr r => some r

def M.spec_DrawSampleSize (code : List Int) : Option (Int × Int × Int) :=
  (M.spec_l1Cur_among (⟨code, (0 : Int), (0 : Int)⟩ : Cur) ([(0 : Int), (1 : Int), (7 : Int), (10 : Int), (20 : Int), (21 : Int), (-1 : Int)] : List Int)).bind fun y0 =>
  (M.spec_l1Cur_among y0.2 ([(0 : Int), (1 : Int), (10 : Int), (33 : Int), (50 : Int), (100 : Int), (101 : Int), (-1 : Int)] : List Int)).bind fun y1 =>
  (M.spec_l1Cur_among y1.2 ([(0 : Int), (1 : Int), (2 : Int), (5 : Int), (20 : Int), (21 : Int), (-1 : Int)] : List Int)).bind fun y2 =>
  some (y0.1, y1.1, y2.1)

def M.impl_ceilDiv (a : Int) (b_ : Int) : Option Int :=
  asrt (b_ ≠ 0) <|
  some (IntKind.i64.wrap (Int.tdiv (IntKind.i64.wrap ((IntKind.i64.wrap (a + b_)) - (1 : Int))) b_))

def M.impl_sampleSize (count : Int) (percent : Int) (least : Int) : Option Int :=
  (M.impl_ceilDiv (IntKind.i64.wrap (count * percent)) (100 : Int)).bind fun y0 =>
  some (bif decide (count < (bif decide (y0 < least) then least else y0)) then count else (bif decide (y0 < least) then least else y0))

def M.impl_SampleSize (count : Int) (percent : Int) (least : Int) : Option (Int × Bool) :=
  (M.impl_within count (0 : Int) (20 : Int)).bind fun y0 =>
  ((bif (!y0) then some default else M.impl_within percent (0 : Int) (100 : Int))).bind fun y1 =>
  ((bif ((!y0) || (!y1)) then some default else M.impl_within least (0 : Int) (20 : Int))).bind fun y2 =>
  bif (((!y0) || (!y1)) || (!y2)) then (
    some ((0 : Int), false))
  else (
    (M.impl_sampleSize count percent least).bind fun y3 =>
    some (y3, true))

def M.spec_l1Least (a : Int) (b_ : Int) : Option Int :=
  bif (decide (a < b_)) then (
    some a)
  else (
    some b_)

def M.spec_l12Size (count : Int) (percent : Int) (least : Int) : Option Int :=
  (M.spec_l1Most least (IntKind.i64.wrap (Int.tdiv (IntKind.i64.wrap ((IntKind.i64.wrap (count * percent)) + (99 : Int))) (100 : Int)))).bind fun y0 =>
  (M.spec_l1Least count y0).bind fun y1 =>
  some y1

def M.spec_SampleSize (count : Int) (percent : Int) (least : Int) : Option (Int × Bool) :=
  (M.spec_l1In count (0 : Int) (20 : Int)).bind fun y0 =>
  ((bif (!y0) then some default else M.spec_l1In percent (0 : Int) (100 : Int))).bind fun y1 =>
  ((bif ((!y0) || (!y1)) then some default else M.spec_l1In least (0 : Int) (20 : Int))).bind fun y2 =>
  bif (((!y0) || (!y1)) || (!y2)) then (
    some ((0 : Int), false))
  else (
    (M.spec_l12Size count percent least).bind fun y3 =>
    some (y3, true))

def M.spec_l1Cur_one (c : Cur) (n : Int) : Option (Bool × Cur) :=
  (M.spec_l1Cur_pick c n).bind fun y0 =>
  some ((y0.1 == (0 : Int)), y0.2)

def M.spec_l1Cur_record_l0 (y1 : Int × Cur) : (Int × List Event × Cur) → Option ((Int × List Event × Cur) ⊕ (List Event × Cur)) := fun st_ => match st_ with
| (k, r_Events0, c_0) =>
  bif (decide (k ≤ (6 : Int))) then (
    (((
      (M.spec_l1Cur_one c_0 (3 : Int)).bind fun y3 =>
      bif y3.1 then (
        (M.spec_l1Cur_among y3.2 ([(0 : Int), (1 : Int), (30 : Int), (365 : Int), (1000 : Int)] : List Int)).bind fun y4 =>
        asrt ((r_Events0.length : Int) + (([(⟨k, (IntKind.i64.wrap (y1.1 + y4.1))⟩ : Event)] : List Event).length : Int) ≤ 2147483648) <|
        (((
          some ((r_Events0 ++ ([(⟨k, (IntKind.i64.wrap (y1.1 + y4.1))⟩ : Event)] : List Event)), y4.2)) : Option (List Event × Cur))).bind fun e => match e with
        | (r_Events2, c_2) =>
          (some (r_Events2, c_2)))
      else (
        some (r_Events0, y3.2))) : Option (List Event × Cur))).bind fun e => match e with
    | (r_Events1, c_1) =>
      (some (.inl ((IntKind.i64.wrap (k + (1 : Int))), r_Events1, c_1))))
  else (
    some (.inr (r_Events0, c_0)))

def M.spec_l1Cur_record (c : Cur) (id_ : Int) : Option (Record × Cur) :=
  (M.spec_l1Cur_among c ([(1 : Int), (2 : Int), (3 : Int), (3 : Int), (7 : Int), (99 : Int)] : List Int)).bind fun y0 =>
  (M.spec_l1Cur_among y0.2 ([(0 : Int), (100 : Int), (100 : Int), (500 : Int), (3000 : Int)] : List Int)).bind fun y1 =>
  (iterO (M.spec_l1Cur_record_l0 y1) ((1 : Int), ([] : List Event), y1.2)).bind fun e => match e with
  | (r_Events, c_) =>
    ((M.spec_l1Cur_pick c_ (48 : Int)).bind fun y5 =>
    (((
      bif (y5.1 == (0 : Int)) then (
        (M.spec_l1Cur_among y5.2 ([(0 : Int), (100 : Int)] : List Int)).bind fun y6 =>
        some (y6.1, y1.1, r_Events, y6.2))
      else (
        bif (y5.1 == (1 : Int)) then (
          (M.spec_l1Cur_among y5.2 ([(-1 : Int), (20001 : Int), (19999 : Int)] : List Int)).bind fun y7 =>
          some (y0.1, y7.1, r_Events, y7.2))
        else (
          bif (y5.1 == (2 : Int)) then (
            (M.spec_l1Cur_among y5.2 ([(1 : Int), (9 : Int), (10 : Int)] : List Int)).bind fun y8 =>
            (M.spec_l1Cur_among y8.2 ([(0 : Int), (20000 : Int)] : List Int)).bind fun y9 =>
            asrt ((r_Events.length : Int) + (([(⟨y8.1, y9.1⟩ : Event)] : List Event).length : Int) ≤ 2147483648) <|
            (((
              some ((r_Events ++ ([(⟨y8.1, y9.1⟩ : Event)] : List Event)), y9.2)) : Option (List Event × Cur))).bind fun e => match e with
            | (r_Events4, o) =>
              (some (y0.1, y1.1, r_Events4, o)))
          else (
            some (y0.1, y1.1, r_Events, y5.2))))) : Option (Int × Int × List Event × Cur))).bind fun e => match e with
    | (r_Series, r_Made, r_Events3, c_3) =>
      (some ((⟨id_, r_Series, r_Made, r_Events3⟩ : Record), c_3)))

def M.spec_l1Cur_held_l0 : (List Record × Int × Cur) → Option ((List Record × Int × Cur) ⊕ (List Record × Cur)) := fun st_ => match st_ with
| (list0, n_, c_0) =>
  bif (decide (n_ < (8 : Int))) then (
    (((
      (M.spec_l1Cur_one c_0 (2 : Int)).bind fun y1 =>
      bif y1.1 then (
        (M.spec_l1Cur_record y1.2 (IntKind.i64.wrap ((11 : Int) * n_))).bind fun y2 =>
        asrt ((list0.length : Int) + (([y2.1] : List Record).length : Int) ≤ 2147483648) <|
        some ((list0 ++ ([y2.1] : List Record)), y2.2))
      else (
        some (list0, y1.2))) : Option (List Record × Cur))).bind fun e => match e with
    | (list1, c_1) =>
      (some (.inl (list1, (IntKind.i64.wrap (n_ + (1 : Int))), c_1))))
  else (
    some (.inr (list0, c_0)))

def M.spec_l1Cur_held_l1 : (List Record × Cur) → Option ((List Record × Cur) ⊕ (List Record × Cur)) := fun st_ => match st_ with
| (list4, c_4) =>
  (M.spec_l1Cur_pick c_4 (2 : Int)).bind fun y7 =>
  bif (decide ((list4.length : Int) < (IntKind.i64.wrap ((10 : Int) + y7.1)))) then (
    asrt ((list4.length : Int) + (([(⟨(IntKind.i64.wrap ((200 : Int) + (list4.length : Int))), (1 : Int), (0 : Int), ([] : List Event)⟩ : Record)] : List Record).length : Int) ≤ 2147483648) <|
    some (.inl ((list4 ++ ([(⟨(IntKind.i64.wrap ((200 : Int) + (list4.length : Int))), (1 : Int), (0 : Int), ([] : List Event)⟩ : Record)] : List Record)), y7.2)))
  else (
    some (.inr (list4, y7.2)))

def M.spec_l1Cur_held (c : Cur) : Option (List Record × Cur) :=
  (iterO (M.spec_l1Cur_held_l0) (([] : List Record), (1 : Int), c)).bind fun e => match e with
  | (list, c_) =>
    ((M.spec_l1Cur_pick c_ (32 : Int)).bind fun y3 =>
    (((
      bif (y3.1 == (0 : Int)) then (
        (M.spec_l1Cur_among y3.2 ([(0 : Int), (11 : Int), (999 : Int), (1000 : Int)] : List Int)).bind fun y4 =>
        (M.spec_l1Cur_record y4.2 y4.1).bind fun y5 =>
        asrt ((list.length : Int) + (([y5.1] : List Record).length : Int) ≤ 2147483648) <|
        some ((list ++ ([y5.1] : List Record)), y5.2))
      else (
        bif (y3.1 == (1 : Int)) then (
          (iterO (M.spec_l1Cur_held_l1) (list, y3.2)).bind fun e => match e with
          | (list3, c_3) =>
            (some (list3, c_3)))
        else (
          some (list, y3.2)))) : Option (List Record × Cur))).bind fun e => match e with
    | (list2, c_2) =>
      (some (list2, c_2)))

def M.spec_l1Cur_anySeed (c : Cur) : Option (Int × Cur) :=
  (M.spec_l1Cur_among c ([(0 : Int), (1 : Int), (7 : Int), (42 : Int), (999 : Int), (12345 : Int), (99999 : Int), (20000 : Int), (100000 : Int), (-1 : Int)] : List Int)).bind fun y0 =>
  some (y0.1, y0.2)

def M.spec_DrawSampleBySeries (code : List Int) : Option (List Record × Int × Int) :=
  (M.spec_l1Cur_held (⟨code, (0 : Int), (0 : Int)⟩ : Cur)).bind fun y0 =>
  (M.spec_l1Cur_among y0.2 ([(0 : Int), (10 : Int), (50 : Int), (60 : Int), (100 : Int), (101 : Int)] : List Int)).bind fun y1 =>
  (M.spec_l1Cur_anySeed y1.2).bind fun y2 =>
  some (y0.1, y1.1, y2.1)

def M.impl_isId (id_ : Int) : Option Bool :=
  (M.impl_within id_ (1 : Int) (99 : Int)).bind fun y0 =>
  some y0

def M.impl_isDay (day : Int) : Option Bool :=
  (M.impl_within day (0 : Int) (20000 : Int)).bind fun y0 =>
  some y0

def M.impl_IsEvent (e_ : Event) : Option Bool :=
  (M.impl_within e_.Kind (1 : Int) (9 : Int)).bind fun y0 =>
  ((bif y0 then M.impl_isDay e_.Day else some default)).bind fun y1 =>
  some (y0 && y1)

def M.impl_IsRecord_l0 (r_ : Record) : (Int) → Option ((Int) ⊕ ((Unit) ⊕ (Bool))) := fun st_ => match st_ with
| v =>
  bif (decide (v < (r_.Events.length : Int))) then (
    asrt ((0 : Int) ≤ v ∧ v < (r_.Events.length : Int)) <|
    (M.impl_IsEvent (r_.Events.getD (Int.toNat v) default)).bind fun y4 =>
    asrt (((!y4) || (decide (((r_.Events.getD (Int.toNat v) default).Day) < r_.Made))) = false → (decide (v > (0 : Int))) = true → ((0 : Int) ≤ (IntKind.i64.wrap (v - (1 : Int))) ∧ (IntKind.i64.wrap (v - (1 : Int))) < (r_.Events.length : Int))) <|
    bif (((!y4) || (decide (((r_.Events.getD (Int.toNat v) default).Day) < r_.Made))) || ((decide (v > (0 : Int))) && (decide (((r_.Events.getD (Int.toNat (IntKind.i64.wrap (v - (1 : Int)))) default).Kind) ≥ ((r_.Events.getD (Int.toNat v) default).Kind))))) then (
      some (.inr (.inr false)))
    else (
      some (.inl (IntKind.i64.wrap (v + (1 : Int))))))
  else (
    some (.inr (.inl ())))

def M.impl_IsRecord (r_ : Record) : Option Bool :=
  (M.impl_within r_.Id (1 : Int) (999 : Int)).bind fun y0 =>
  ((bif (!y0) then some default else M.impl_isId r_.Series)).bind fun y1 =>
  ((bif ((!y0) || (!y1)) then some default else M.impl_isDay r_.Made)).bind fun y2 =>
  bif ((((!y0) || (!y1)) || (!y2)) || (decide ((r_.Events.length : Int) > (6 : Int)))) then (
    some false)
  else (
    (iterO (M.impl_IsRecord_l0 r_) (0 : Int)).bind fun e => match e with
    | .inl () =>
      (some true)
    | .inr r => some r)

def M.impl_AreRecords_l0 (list : List Record) : (Int) → Option ((Int) ⊕ ((Unit) ⊕ (Bool))) := fun st_ => match st_ with
| v =>
  bif (decide (v < (list.length : Int))) then (
    asrt ((0 : Int) ≤ v ∧ v < (list.length : Int)) <|
    (M.impl_IsRecord (list.getD (Int.toNat v) default)).bind fun y1 =>
    asrt ((!y1) = false → (decide (v > (0 : Int))) = true → ((0 : Int) ≤ (IntKind.i64.wrap (v - (1 : Int))) ∧ (IntKind.i64.wrap (v - (1 : Int))) < (list.length : Int))) <|
    bif ((!y1) || ((decide (v > (0 : Int))) && (decide (((list.getD (Int.toNat (IntKind.i64.wrap (v - (1 : Int)))) default).Id) ≥ ((list.getD (Int.toNat v) default).Id))))) then (
      some (.inr (.inr false)))
    else (
      some (.inl (IntKind.i64.wrap (v + (1 : Int))))))
  else (
    some (.inr (.inl ())))

def M.impl_AreRecords (list : List Record) : Option Bool :=
  (iterO (M.impl_AreRecords_l0 list) (0 : Int)).bind fun e => match e with
  | .inl () =>
    (some (decide ((list.length : Int) ≤ (10 : Int))))
  | .inr r => some r

def M.impl_isSeed (seed : Int) : Option Bool :=
  (M.impl_within seed (0 : Int) (99999 : Int)).bind fun y0 =>
  some y0

def M.slices_Clone_int_int (s : List Int) : Option (List Int) := asrt ((s.length : Int) ≤ 2147483648) <| some s

def M.slices_Delete_int_int (s : List Int) (i : Int) (j_ : Int) : Option (List Int) :=
  asrt ((0 : Int) ≤ i ∧ i ≤ j_ ∧ j_ ≤ (s.length : Int) ∧ (s.length : Int) ≤ (s.length : Int)) <|
  bif (i == j_) then (
    some s)
  else (
    asrt ((0 : Int) ≤ (0 : Int) ∧ (0 : Int) ≤ i ∧ i ≤ (s.length : Int)) <|
    asrt ((0 : Int) ≤ j_ ∧ j_ ≤ (((List.length s) : Nat) : Int) ∧ (((List.length s) : Nat) : Int) ≤ (((List.length s) : Nat) : Int)) <|
    asrt ((0 + Int.toNat j_) + (Int.toNat (((List.length s) : Nat) : Int) - Int.toNat j_) ≤ s.length) <|
    asrt ((Int.toNat i - Int.toNat (0 : Int)) + (List.take (Int.toNat (((List.length s) : Nat) : Int) - Int.toNat j_) (List.drop (0 + Int.toNat j_) s)).length ≤ s.length) <|
    asrt ((0 : Int) ≤ ((((Int.toNat i - Int.toNat (0 : Int)) + List.length (List.take (Int.toNat (((List.length s) : Nat) : Int) - Int.toNat j_) (List.drop (0 + Int.toNat j_) s))) : Nat) : Int) ∧ ((((Int.toNat i - Int.toNat (0 : Int)) + List.length (List.take (Int.toNat (((List.length s) : Nat) : Int) - Int.toNat j_) (List.drop (0 + Int.toNat j_) s))) : Nat) : Int) ≤ (s.length : Int) ∧ (((0 : Nat) : Int) : Int) + (s.length : Int) ≤ ((List.take (Int.toNat i - Int.toNat (0 : Int)) s ++ (List.take (Int.toNat (((List.length s) : Nat) : Int) - Int.toNat j_) (List.drop (0 + Int.toNat j_) s)) ++ List.drop ((Int.toNat i - Int.toNat (0 : Int)) + List.length (List.take (Int.toNat (((List.length s) : Nat) : Int) - Int.toNat j_) (List.drop (0 + Int.toNat j_) s))) s).length : Int)) <|
    asrt ((0 + Int.toNat ((((Int.toNat i - Int.toNat (0 : Int)) + List.length (List.take (Int.toNat (((List.length s) : Nat) : Int) - Int.toNat j_) (List.drop (0 + Int.toNat j_) s))) : Nat) : Int)) + (Int.toNat (s.length : Int) - Int.toNat ((((Int.toNat i - Int.toNat (0 : Int)) + List.length (List.take (Int.toNat (((List.length s) : Nat) : Int) - Int.toNat j_) (List.drop (0 + Int.toNat j_) s))) : Nat) : Int)) ≤ (List.take (Int.toNat i - Int.toNat (0 : Int)) s ++ (List.take (Int.toNat (((List.length s) : Nat) : Int) - Int.toNat j_) (List.drop (0 + Int.toNat j_) s)) ++ List.drop ((Int.toNat i - Int.toNat (0 : Int)) + List.length (List.take (Int.toNat (((List.length s) : Nat) : Int) - Int.toNat j_) (List.drop (0 + Int.toNat j_) s))) s).length) <|
    asrt (((Int.toNat i - Int.toNat (0 : Int)) + List.length (List.take (Int.toNat (((List.length s) : Nat) : Int) - Int.toNat j_) (List.drop (0 + Int.toNat j_) s))) ≤ (List.take (0 + Int.toNat ((((Int.toNat i - Int.toNat (0 : Int)) + List.length (List.take (Int.toNat (((List.length s) : Nat) : Int) - Int.toNat j_) (List.drop (0 + Int.toNat j_) s))) : Nat) : Int)) (List.take (Int.toNat i - Int.toNat (0 : Int)) s ++ (List.take (Int.toNat (((List.length s) : Nat) : Int) - Int.toNat j_) (List.drop (0 + Int.toNat j_) s)) ++ List.drop ((Int.toNat i - Int.toNat (0 : Int)) + List.length (List.take (Int.toNat (((List.length s) : Nat) : Int) - Int.toNat j_) (List.drop (0 + Int.toNat j_) s))) s) ++ List.replicate (Int.toNat (s.length : Int) - Int.toNat ((((Int.toNat i - Int.toNat (0 : Int)) + List.length (List.take (Int.toNat (((List.length s) : Nat) : Int) - Int.toNat j_) (List.drop (0 + Int.toNat j_) s))) : Nat) : Int)) (0 : Int) ++ List.drop ((0 + Int.toNat ((((Int.toNat i - Int.toNat (0 : Int)) + List.length (List.take (Int.toNat (((List.length s) : Nat) : Int) - Int.toNat j_) (List.drop (0 + Int.toNat j_) s))) : Nat) : Int)) + (Int.toNat (s.length : Int) - Int.toNat ((((Int.toNat i - Int.toNat (0 : Int)) + List.length (List.take (Int.toNat (((List.length s) : Nat) : Int) - Int.toNat j_) (List.drop (0 + Int.toNat j_) s))) : Nat) : Int))) (List.take (Int.toNat i - Int.toNat (0 : Int)) s ++ (List.take (Int.toNat (((List.length s) : Nat) : Int) - Int.toNat j_) (List.drop (0 + Int.toNat j_) s)) ++ List.drop ((Int.toNat i - Int.toNat (0 : Int)) + List.length (List.take (Int.toNat (((List.length s) : Nat) : Int) - Int.toNat j_) (List.drop (0 + Int.toNat j_) s))) s)).length) <|
    some (List.take ((Int.toNat i - Int.toNat (0 : Int)) + List.length (List.take (Int.toNat (((List.length s) : Nat) : Int) - Int.toNat j_) (List.drop (0 + Int.toNat j_) s))) (List.take (0 + Int.toNat ((((Int.toNat i - Int.toNat (0 : Int)) + List.length (List.take (Int.toNat (((List.length s) : Nat) : Int) - Int.toNat j_) (List.drop (0 + Int.toNat j_) s))) : Nat) : Int)) (List.take (Int.toNat i - Int.toNat (0 : Int)) s ++ (List.take (Int.toNat (((List.length s) : Nat) : Int) - Int.toNat j_) (List.drop (0 + Int.toNat j_) s)) ++ List.drop ((Int.toNat i - Int.toNat (0 : Int)) + List.length (List.take (Int.toNat (((List.length s) : Nat) : Int) - Int.toNat j_) (List.drop (0 + Int.toNat j_) s))) s) ++ List.replicate (Int.toNat (s.length : Int) - Int.toNat ((((Int.toNat i - Int.toNat (0 : Int)) + List.length (List.take (Int.toNat (((List.length s) : Nat) : Int) - Int.toNat j_) (List.drop (0 + Int.toNat j_) s))) : Nat) : Int)) (0 : Int) ++ List.drop ((0 + Int.toNat ((((Int.toNat i - Int.toNat (0 : Int)) + List.length (List.take (Int.toNat (((List.length s) : Nat) : Int) - Int.toNat j_) (List.drop (0 + Int.toNat j_) s))) : Nat) : Int)) + (Int.toNat (s.length : Int) - Int.toNat ((((Int.toNat i - Int.toNat (0 : Int)) + List.length (List.take (Int.toNat (((List.length s) : Nat) : Int) - Int.toNat j_) (List.drop (0 + Int.toNat j_) s))) : Nat) : Int))) (List.take (Int.toNat i - Int.toNat (0 : Int)) s ++ (List.take (Int.toNat (((List.length s) : Nat) : Int) - Int.toNat j_) (List.drop (0 + Int.toNat j_) s)) ++ List.drop ((Int.toNat i - Int.toNat (0 : Int)) + List.length (List.take (Int.toNat (((List.length s) : Nat) : Int) - Int.toNat j_) (List.drop (0 + Int.toNat j_) s))) s))))

def M.impl_nextSeed (seed : Int) : Option Int :=
  some (Int.tmod (IntKind.i64.wrap ((IntKind.i64.wrap ((5 : Int) * seed)) + (1 : Int))) (100000 : Int))

def M.impl_taken_l0 (n : Int) : (Int × List Int × List Int × Int) → Option ((Int × List Int × List Int × Int) ⊕ (Int × List Int)) := fun st_ => match st_ with
| (seed1, left, out_0, v) =>
  bif (decide (v < n)) then (
    asrt ((left.length : Int) ≠ 0) <|
    asrt ((0 : Int) ≤ (Int.tmod seed1 (left.length : Int)) ∧ (Int.tmod seed1 (left.length : Int)) < (left.length : Int)) <|
    asrt ((out_0.length : Int) + (([(left.getD (Int.toNat (Int.tmod seed1 (left.length : Int))) default)] : List Int).length : Int) ≤ 2147483648) <|
    (M.slices_Delete_int_int left (Int.tmod seed1 (left.length : Int)) (IntKind.i64.wrap ((Int.tmod seed1 (left.length : Int)) + (1 : Int)))).bind fun y2 =>
    (M.impl_nextSeed seed1).bind fun y3 =>
    some (.inl (y3, y2, (out_0 ++ ([(left.getD (Int.toNat (Int.tmod seed1 (left.length : Int))) default)] : List Int)), (IntKind.i64.wrap (v + (1 : Int))))))
  else (
    some (.inr (seed1, out_0)))

def M.impl_taken (list : List Int) (n : Int) (seed : Int) : Option (List Int × Int) :=
  (M.slices_Clone_int_int list).bind fun y0 =>
  (iterO (M.impl_taken_l0 n) (seed, y0, ([] : List Int), (0 : Int))).bind fun e => match e with
  | (seed0, out_) =>
    (some (out_, seed0))

def M.slices_Sort_int_int (s : List Int) : Option (List Int) := asrt (s.length < 4611686018427387904) <| some (sortL s)

def M.impl_SampleBySeries_g0 (list : List Record) : (List (Int × List Int) × Int) → Option ((List (Int × List Int) × Int) ⊕ (List (Int × List Int))) := fun st_ => match st_ with
| (g, v) =>
  bif (decide (v < (list.length : Int))) then (
    asrt ((0 : Int) ≤ v ∧ v < (list.length : Int)) <|
    asrt (((gAt ((list.getD (Int.toNat v) default).Series) g).length : Int) + (([(list.getD (Int.toNat v) default).Id] : List Int).length : Int) ≤ 2147483648) <|
    some (.inl (gPut ((list.getD (Int.toNat v) default).Series) ((list.getD (Int.toNat v) default).Id) g, (IntKind.i64.wrap (v + (1 : Int))))))
  else (
    some (.inr g))

def M.impl_SampleBySeries_l0 (percent : Int) (y3 : List (Int × List Int)) : (Int × List Int × Int) → Option ((Int × List Int × Int) ⊕ (List Int)) := fun st_ => match st_ with
| (seed0, out_0, series) =>
  bif (decide (series ≤ (99 : Int))) then (
    (M.impl_sampleSize ((gAt series y3).length : Int) percent (1 : Int)).bind fun y5 =>
    (M.impl_taken (gAt series y3) y5 seed0).bind fun y6 =>
    asrt ((out_0.length : Int) + (y6.1.length : Int) ≤ 2147483648) <|
    some (.inl (y6.2, (out_0 ++ y6.1), (IntKind.i64.wrap (series + (1 : Int))))))
  else (
    some (.inr out_0))

def M.impl_SampleBySeries (list : List Record) (percent : Int) (seed : Int) : Option (List Int × Bool) :=
  (M.impl_AreRecords list).bind fun y0 =>
  ((bif (!y0) then some default else M.impl_within percent (0 : Int) (100 : Int))).bind fun y1 =>
  ((bif ((!y0) || (!y1)) then some default else M.impl_isSeed seed)).bind fun y2 =>
  bif (((!y0) || (!y1)) || (!y2)) then (
    some (([] : List Int), false))
  else (
    (iterO (M.impl_SampleBySeries_g0 list) (([] : List (Int × List Int)), (0 : Int))).bind fun y3 =>
    (iterO (M.impl_SampleBySeries_l0 percent y3) (seed, ([] : List Int), (1 : Int))).bind fun e => match e with
    | out_ =>
      ((M.slices_Sort_int_int out_).bind fun y7 =>
      asrt (y7.length = out_.length) <|
      some (y7, true)))

def M.spec_l2Day (d : Int) : Option Bool :=
  (M.spec_l1In d (0 : Int) (20000 : Int)).bind fun y0 =>
  some y0

def M.spec_l2Event (e_ : Event) : Option Bool :=
  (M.spec_l1In e_.Kind (1 : Int) (9 : Int)).bind fun y0 =>
  ((bif y0 then M.spec_l2Day e_.Day else some default)).bind fun y1 =>
  some (y0 && y1)

def M.spec_l2Record_l0 (r_ : Record) : (Int) → Option ((Int) ⊕ ((Unit) ⊕ (Bool))) := fun st_ => match st_ with
| i =>
  bif (decide (i < (r_.Events.length : Int))) then (
    asrt ((0 : Int) ≤ i ∧ i < (r_.Events.length : Int)) <|
    (M.spec_l2Event (r_.Events.getD (Int.toNat i) default)).bind fun y1 =>
    asrt (((!y1) || (decide (((r_.Events.getD (Int.toNat i) default).Day) < r_.Made))) = false → (decide (i > (0 : Int))) = true → ((0 : Int) ≤ (IntKind.i64.wrap (i - (1 : Int))) ∧ (IntKind.i64.wrap (i - (1 : Int))) < (r_.Events.length : Int))) <|
    bif (((!y1) || (decide (((r_.Events.getD (Int.toNat i) default).Day) < r_.Made))) || ((decide (i > (0 : Int))) && (decide (((r_.Events.getD (Int.toNat (IntKind.i64.wrap (i - (1 : Int)))) default).Kind) ≥ ((r_.Events.getD (Int.toNat i) default).Kind))))) then (
      some (.inr (.inr false)))
    else (
      some (.inl (IntKind.i64.wrap (i + (1 : Int))))))
  else (
    some (.inr (.inl ())))

def M.spec_l2Record (r_ : Record) : Option Bool :=
  (iterO (M.spec_l2Record_l0 r_) (0 : Int)).bind fun e => match e with
  | .inl () =>
    ((M.spec_l1In r_.Id (1 : Int) (999 : Int)).bind fun y2 =>
    ((bif y2 then M.spec_l1In r_.Series (1 : Int) (99 : Int) else some default)).bind fun y3 =>
    ((bif (y2 && y3) then M.spec_l2Day r_.Made else some default)).bind fun y4 =>
    some (((y2 && y3) && y4) && (decide ((r_.Events.length : Int) ≤ (6 : Int)))))
  | .inr r => some r

def M.spec_l2Records_l0 (list : List Record) : (Int) → Option ((Int) ⊕ ((Unit) ⊕ (Bool))) := fun st_ => match st_ with
| i =>
  bif (decide (i < (list.length : Int))) then (
    asrt ((0 : Int) ≤ i ∧ i < (list.length : Int)) <|
    (M.spec_l2Record (list.getD (Int.toNat i) default)).bind fun y1 =>
    asrt ((!y1) = false → (decide (i > (0 : Int))) = true → ((0 : Int) ≤ (IntKind.i64.wrap (i - (1 : Int))) ∧ (IntKind.i64.wrap (i - (1 : Int))) < (list.length : Int))) <|
    asrt ((!y1) = false → (decide (i > (0 : Int))) = true → ((0 : Int) ≤ i ∧ i < (list.length : Int))) <|
    bif ((!y1) || ((decide (i > (0 : Int))) && (decide (((list.getD (Int.toNat (IntKind.i64.wrap (i - (1 : Int)))) default).Id) ≥ ((list.getD (Int.toNat i) default).Id))))) then (
      some (.inr (.inr false)))
    else (
      some (.inl (IntKind.i64.wrap (i + (1 : Int))))))
  else (
    some (.inr (.inl ())))

def M.spec_l2Records (list : List Record) : Option Bool :=
  (iterO (M.spec_l2Records_l0 list) (0 : Int)).bind fun e => match e with
  | .inl () =>
    (some (decide ((list.length : Int) ≤ (10 : Int))))
  | .inr r => some r

def M.spec_l12Seed (seed : Int) : Option Bool :=
  (M.spec_l1In seed (0 : Int) (99999 : Int)).bind fun y0 =>
  some y0

def M.spec_InSeries_l0 (list : List Record) (series : Int) : (List Int × Int) → Option ((List Int × Int) ⊕ (List Int)) := fun st_ => match st_ with
| (out_0, i) =>
  bif (decide (i < (list.length : Int))) then (
    (((
      asrt ((0 : Int) ≤ i ∧ i < (list.length : Int)) <|
      bif (((list.getD (Int.toNat i) default).Series) == series) then (
        asrt ((0 : Int) ≤ i ∧ i < (list.length : Int)) <|
        asrt ((out_0.length : Int) + (([(list.getD (Int.toNat i) default).Id] : List Int).length : Int) ≤ 2147483648) <|
        some (out_0 ++ ([(list.getD (Int.toNat i) default).Id] : List Int)))
      else (
        some out_0)) : Option (List Int))).bind fun e => match e with
    | out_1 =>
      (some (.inl (out_1, (IntKind.i64.wrap (i + (1 : Int)))))))
  else (
    some (.inr out_0))

def M.spec_InSeries (list : List Record) (series : Int) : Option (List Int × Bool) :=
  (M.spec_l2Records list).bind fun y0 =>
  ((bif (!y0) then some default else M.spec_l1In series (1 : Int) (99 : Int))).bind fun y1 =>
  bif ((!y0) || (!y1)) then (
    some (([] : List Int), false))
  else (
    (iterO (M.spec_InSeries_l0 list series) (([] : List Int), (0 : Int))).bind fun e => match e with
    | out_ =>
      (some (out_, true)))

def M.spec_l1Own (l : List Int) : Option (List Int) :=
  asrt ((([] : List Int).length : Int) + (l.length : Int) ≤ 2147483648) <|
  some (([] : List Int) ++ l)

def M.spec_l12Next (seed : Int) : Option Int :=
  some (Int.tmod (IntKind.i64.wrap ((IntKind.i64.wrap ((5 : Int) * seed)) + (1 : Int))) (100000 : Int))

def M.spec_l12Take_l0 (n : Int) : (Int × List Int × List Int × Int) → Option ((Int × List Int × List Int × Int) ⊕ (Int × List Int)) := fun st_ => match st_ with
| (seed1, left, out_0, k) =>
  bif (decide (k < n)) then (
    asrt ((left.length : Int) ≠ 0) <|
    asrt ((0 : Int) ≤ (Int.tmod seed1 (left.length : Int)) ∧ (Int.tmod seed1 (left.length : Int)) < (left.length : Int)) <|
    asrt ((out_0.length : Int) + (([(left.getD (Int.toNat (Int.tmod seed1 (left.length : Int))) default)] : List Int).length : Int) ≤ 2147483648) <|
    asrt ((0 : Int) ≤ (0 : Int) ∧ (0 : Int) ≤ (Int.tmod seed1 (left.length : Int)) ∧ (Int.tmod seed1 (left.length : Int)) ≤ (left.length : Int)) <|
    (M.spec_l1Own (slc left (0 : Int) (Int.tmod seed1 (left.length : Int)))).bind fun y2 =>
    asrt ((0 : Int) ≤ (IntKind.i64.wrap ((Int.tmod seed1 (left.length : Int)) + (1 : Int))) ∧ (IntKind.i64.wrap ((Int.tmod seed1 (left.length : Int)) + (1 : Int))) ≤ (left.length : Int) ∧ (left.length : Int) ≤ (left.length : Int)) <|
    asrt ((y2.length : Int) + ((slc left (IntKind.i64.wrap ((Int.tmod seed1 (left.length : Int)) + (1 : Int))) (left.length : Int)).length : Int) ≤ 2147483648) <|
    (M.spec_l12Next seed1).bind fun y3 =>
    some (.inl (y3, (y2 ++ (slc left (IntKind.i64.wrap ((Int.tmod seed1 (left.length : Int)) + (1 : Int))) (left.length : Int))), (out_0 ++ ([(left.getD (Int.toNat (Int.tmod seed1 (left.length : Int))) default)] : List Int)), (IntKind.i64.wrap (k + (1 : Int))))))
  else (
    some (.inr (seed1, out_0)))

def M.spec_l12Take (list : List Int) (n : Int) (seed : Int) : Option (List Int × Int) :=
  (M.spec_l1Own list).bind fun y0 =>
  (iterO (M.spec_l12Take_l0 n) (seed, y0, ([] : List Int), (0 : Int))).bind fun e => match e with
  | (seed0, out_) =>
    (some (out_, seed0))

def M.spec_l1Put_l0 (l : List Int) (n : Int) : (Int) → Option ((Int) ⊕ (Int)) := fun st_ => match st_ with
| k0 =>
  asrt ((decide (k0 < (l.length : Int))) = true → ((0 : Int) ≤ k0 ∧ k0 < (l.length : Int))) <|
  bif ((decide (k0 < (l.length : Int))) && (decide ((l.getD (Int.toNat k0) default) < n))) then (
    some (.inl (IntKind.i64.wrap (k0 + (1 : Int)))))
  else (
    some (.inr k0))

def M.spec_l1Put (l : List Int) (n : Int) : Option (List Int) :=
  (iterO (M.spec_l1Put_l0 l n) (0 : Int)).bind fun e => match e with
  | k =>
    (asrt ((decide (k < (l.length : Int))) = true → ((0 : Int) ≤ k ∧ k < (l.length : Int))) <|
    bif ((decide (k < (l.length : Int))) && ((l.getD (Int.toNat k) default) == n)) then (
      some l)
    else (
      asrt ((0 : Int) ≤ (0 : Int) ∧ (0 : Int) ≤ k ∧ k ≤ (l.length : Int)) <|
      asrt ((([] : List Int).length : Int) + ((slc l (0 : Int) k).length : Int) ≤ 2147483648) <|
      asrt (((([] : List Int) ++ (slc l (0 : Int) k)).length : Int) + (([n] : List Int).length : Int) ≤ 2147483648) <|
      asrt ((0 : Int) ≤ k ∧ k ≤ (l.length : Int) ∧ (l.length : Int) ≤ (l.length : Int)) <|
      asrt ((((([] : List Int) ++ (slc l (0 : Int) k)) ++ ([n] : List Int)).length : Int) + ((slc l k (l.length : Int)).length : Int) ≤ 2147483648) <|
      some (((([] : List Int) ++ (slc l (0 : Int) k)) ++ ([n] : List Int)) ++ (slc l k (l.length : Int)))))

def M.spec_l12Sorted_l0 (list : List Int) : (List Int × Int) → Option ((List Int × Int) ⊕ (List Int)) := fun st_ => match st_ with
| (out_0, i) =>
  bif (decide (i < (list.length : Int))) then (
    asrt ((0 : Int) ≤ i ∧ i < (list.length : Int)) <|
    (M.spec_l1Put out_0 (list.getD (Int.toNat i) default)).bind fun y1 =>
    some (.inl (y1, (IntKind.i64.wrap (i + (1 : Int))))))
  else (
    some (.inr out_0))

def M.spec_l12Sorted (list : List Int) : Option (List Int) :=
  (iterO (M.spec_l12Sorted_l0 list) (([] : List Int), (0 : Int))).bind fun e => match e with
  | out_ =>
    (some out_)

def M.spec_SampleBySeries_l0 (list : List Record) (percent : Int) : (Int × List Int × Int) → Option ((Int × List Int × Int) ⊕ (List Int)) := fun st_ => match st_ with
| (seed0, out_0, series) =>
  bif (decide (series ≤ (99 : Int))) then (
    (M.spec_InSeries list series).bind fun y4 =>
    (M.spec_l12Size (y4.1.length : Int) percent (1 : Int)).bind fun y5 =>
    (M.spec_l12Take y4.1 y5 seed0).bind fun y6 =>
    asrt ((out_0.length : Int) + (y6.1.length : Int) ≤ 2147483648) <|
    some (.inl (y6.2, (out_0 ++ y6.1), (IntKind.i64.wrap (series + (1 : Int))))))
  else (
    some (.inr out_0))

def M.spec_SampleBySeries (list : List Record) (percent : Int) (seed : Int) : Option (List Int × Bool) :=
  (M.spec_l2Records list).bind fun y0 =>
  ((bif (!y0) then some default else M.spec_l1In percent (0 : Int) (100 : Int))).bind fun y1 =>
  ((bif ((!y0) || (!y1)) then some default else M.spec_l12Seed seed)).bind fun y2 =>
  bif (((!y0) || (!y1)) || (!y2)) then (
    some (([] : List Int), false))
  else (
    (iterO (M.spec_SampleBySeries_l0 list percent) (seed, ([] : List Int), (1 : Int))).bind fun e => match e with
    | out_ =>
      ((M.spec_l12Sorted out_).bind fun y7 =>
      some (y7, true)))

def M.impl_InSeries_l0 (list : List Record) (series : Int) : (List Int × Int) → Option ((List Int × Int) ⊕ (List Int)) := fun st_ => match st_ with
| (ids0, v) =>
  bif (decide (v < (list.length : Int))) then (
    (((
      asrt ((0 : Int) ≤ v ∧ v < (list.length : Int)) <|
      bif (((list.getD (Int.toNat v) default).Series) == series) then (
        asrt ((ids0.length : Int) + (([(list.getD (Int.toNat v) default).Id] : List Int).length : Int) ≤ 2147483648) <|
        some (ids0 ++ ([(list.getD (Int.toNat v) default).Id] : List Int)))
      else (
        some ids0)) : Option (List Int))).bind fun e => match e with
    | ids1 =>
      (some (.inl (ids1, (IntKind.i64.wrap (v + (1 : Int)))))))
  else (
    some (.inr ids0))

def M.impl_InSeries (list : List Record) (series : Int) : Option (List Int × Bool) :=
  (M.impl_AreRecords list).bind fun y0 =>
  ((bif (!y0) then some default else M.impl_isId series)).bind fun y1 =>
  bif ((!y0) || (!y1)) then (
    some (([] : List Int), false))
  else (
    (iterO (M.impl_InSeries_l0 list series) (([] : List Int), (0 : Int))).bind fun e => match e with
    | ids =>
      (some (ids, true)))

def M.spec_DrawNextSeed (code : List Int) : Option (Int × Int) :=
  (M.spec_l1Cur_anySeed (⟨code, (0 : Int), (0 : Int)⟩ : Cur)).bind fun y0 =>
  (M.spec_l1Cur_among y0.2 ([(0 : Int), (1 : Int), (2 : Int), (10 : Int), (1000 : Int), (1001 : Int), (-1 : Int)] : List Int)).bind fun y1 =>
  some (y0.1, y1.1)

def M.impl_NextSeed_l0 (times : Int) : (Int × Int) → Option ((Int × Int) ⊕ (Int)) := fun st_ => match st_ with
| (seed1, v) =>
  bif (decide (v < times)) then (
    (M.impl_nextSeed seed1).bind fun y3 =>
    some (.inl (y3, (IntKind.i64.wrap (v + (1 : Int))))))
  else (
    some (.inr seed1))

def M.impl_NextSeed (seed : Int) (times : Int) : Option (Int × Bool) :=
  (M.impl_isSeed seed).bind fun y0 =>
  ((bif (!y0) then some default else M.impl_within times (0 : Int) (1000 : Int))).bind fun y1 =>
  bif ((!y0) || (!y1)) then (
    some ((0 : Int), false))
  else (
    (iterO (M.impl_NextSeed_l0 times) (seed, (0 : Int))).bind fun e => match e with
    | seed0 =>
      (some (seed0, true)))

def M.spec_NextSeed_l0 (times : Int) : (Int × Int) → Option ((Int × Int) ⊕ (Int)) := fun st_ => match st_ with
| (seed1, k) =>
  bif (decide (k < times)) then (
    (M.spec_l12Next seed1).bind fun y3 =>
    some (.inl (y3, (IntKind.i64.wrap (k + (1 : Int))))))
  else (
    some (.inr seed1))

def M.spec_NextSeed (seed : Int) (times : Int) : Option (Int × Bool) :=
  (M.spec_l12Seed seed).bind fun y0 =>
  ((bif (!y0) then some default else M.spec_l1In times (0 : Int) (1000 : Int))).bind fun y1 =>
  bif ((!y0) || (!y1)) then (
    some ((0 : Int), false))
  else (
    (iterO (M.spec_NextSeed_l0 times) (seed, (0 : Int))).bind fun e => match e with
    | seed0 =>
      (some (seed0, true)))

def M.laws_FnStrides_l0 (y1 : List Int × Int × Int) : (Int × Int) → Option ((Int × Int) ⊕ ((Int) ⊕ (Bool))) := fun st_ => match st_ with
| (n_0, i) =>
  bif (decide (i < y1.2.1)) then (
    (M.impl_EveryNth y1.1 y1.2.1 i).bind fun y6 =>
    ((bif (!y6.2) then some default else M.laws_vWithin y6.1 y1.1)).bind fun y7 =>
    bif ((!y6.2) || (!y7)) then (
      some (.inr (.inr false)))
    else (
      some (.inl ((IntKind.i64.wrap (n_0 + (y6.1.length : Int))), (IntKind.i64.wrap (i + (1 : Int)))))))
  else (
    some (.inr (.inl n_0)))

def M.laws_FnStrides_l2 (y12 : List Int × Bool) (y16 : List Int × Bool) : (Int × Int) → Option ((Int × Int) ⊕ (Int)) := fun st_ => match st_ with
| (n_2, j_) =>
  bif (decide (j_ < (y16.1.length : Int))) then (
    (((
      asrt ((0 : Int) ≤ j_ ∧ j_ < (y16.1.length : Int)) <|
      (M.laws_vHas y12.1 (y16.1.getD (Int.toNat j_) default)).bind fun y18 =>
      bif y18 then (
        some (IntKind.i64.wrap (n_2 + (1 : Int))))
      else (
        some n_2)) : Option Int)).bind fun e => match e with
    | n_3 =>
      (some (.inl (n_3, (IntKind.i64.wrap (j_ + (1 : Int)))))))
  else (
    some (.inr n_2))

def M.laws_FnStrides_l1 (y11 : List Record × Int × Int) (y12 : List Int × Bool) : (Int) → Option ((Int) ⊕ ((Unit) ⊕ (Bool))) := fun st_ => match st_ with
| i0 =>
  bif ((decide (i0 < (y11.1.length : Int))) && y12.2) then (
    asrt ((0 : Int) ≤ i0 ∧ i0 < (y11.1.length : Int)) <|
    (M.impl_InSeries y11.1 ((y11.1.getD (Int.toNat i0) default).Series)).bind fun y16 =>
    (iterO (M.laws_FnStrides_l2 y12 y16) ((0 : Int), (0 : Int))).bind fun e => match e with
    | n_1 =>
      (bif (((!y16.2) || (decide (n_1 < (1 : Int)))) || (decide ((IntKind.i64.wrap ((100 : Int) * n_1)) < (IntKind.i64.wrap (y11.2.1 * (y16.1.length : Int)))))) then (
        some (.inr (.inr false)))
      else (
        some (.inl (IntKind.i64.wrap (i0 + (1 : Int)))))))
  else (
    some (.inr (.inl ())))

def M.laws_FnStrides (code : List Int) : Option Bool :=
  (M.laws_vBig code).bind fun y0 =>
  bif y0 then (
    some true)
  else (
    (M.spec_DrawEveryNth code).bind fun y1 =>
    (M.impl_EveryNth y1.1 y1.2.1 y1.2.2).bind fun y2 =>
    (M.spec_EveryNth y1.1 y1.2.1 y1.2.2).bind fun y3 =>
    ((bif (!(y2.2 == y3.2)) then some default else M.laws_vInts y2.1 y3.1)).bind fun y4 =>
    bif ((!(y2.2 == y3.2)) || (!y4)) then (
      some false)
    else (
      (((
        bif y2.2 then (
          (iterO (M.laws_FnStrides_l0 y1) ((0 : Int), (0 : Int))).bind fun e => match e with
          | .inl n_ =>
            (bif (n_ != (y1.1.length : Int)) then (
              some (.inr false))
            else (
              some (.inl ())))
          | .inr r => some (.inr r))
        else (
          some (.inl ()))) : Option ((Unit) ⊕ (Bool)))).bind fun e => match e with
      | .inl () =>
        ((M.spec_DrawSampleSize code).bind fun y8 =>
        (M.impl_SampleSize y8.1 y8.2.1 y8.2.2).bind fun y9 =>
        (M.spec_SampleSize y8.1 y8.2.1 y8.2.2).bind fun y10 =>
        bif (((y9.1 != y10.1) || (!(y9.2 == y10.2))) || (y9.2 && ((decide (y9.1 > y8.1)) || ((decide (y9.1 < y8.1)) && ((decide (y9.1 < y8.2.2)) || (decide ((IntKind.i64.wrap ((100 : Int) * y9.1)) < (IntKind.i64.wrap (y8.2.1 * y8.1))))))))) then (
          some false)
        else (
          (M.spec_DrawSampleBySeries code).bind fun y11 =>
          (M.impl_SampleBySeries y11.1 y11.2.1 y11.2.2).bind fun y12 =>
          (M.spec_SampleBySeries y11.1 y11.2.1 y11.2.2).bind fun y13 =>
          ((bif (!(y12.2 == y13.2)) then some default else M.laws_vInts y12.1 y13.1)).bind fun y14 =>
          bif ((!(y12.2 == y13.2)) || (!y14)) then (
            some false)
          else (
            (iterO (M.laws_FnStrides_l1 y11 y12) (0 : Int)).bind fun e => match e with
            | .inl () =>
              ((M.spec_DrawNextSeed code).bind fun y19 =>
              (M.impl_NextSeed y19.1 y19.2).bind fun y20 =>
              (M.spec_NextSeed y19.1 y19.2).bind fun y21 =>
              bif ((y20.1 != y21.1) || (!(y20.2 == y21.2))) then (
                some false)
              else (
                bif (y20.2 && (decide (y19.2 > (0 : Int)))) then (
                  (M.impl_NextSeed y19.1 (IntKind.i64.wrap (y19.2 - (1 : Int)))).bind fun y22 =>
                  (M.impl_NextSeed y22.1 (1 : Int)).bind fun y23 =>
                  some ((y22.2 && y23.2) && (y23.1 == y20.1)))
                else (
                  some true)))
            | .inr r => some r)))
      | .inr r => some r))
end Go.Proofs.Yteocnbeefedbkaa
