/- models of the functions -/
import Derived.Test.YthffmnpbonkpaaaWj
set_option linter.unusedSimpArgs false
set_option linter.unusedVariables false
set_option maxRecDepth 100000
namespace Go.Proofs.Ythffmnpbonkpaaa
open Go.VS

structure Cur where
  Code : List Int
  At : Int
  Seed : Int
  deriving Inhabited, DecidableEq

abbrev encCur (ρ : Nat) (c : Cur) : PV := .agg [.vl ρ 1 (List.map encU8 c.Code), .int .i64 c.At, .int .u64 c.Seed]

def M.laws_vBig (code : List Int) : Option Bool :=
  some (decide ((code.length : Int) > (65536 : Int)))

def M.spec_l1Cur_next (c : Cur) : Option (Int × Cur) :=
  (((
    bif (decide (c.At < (c.Code.length : Int))) then (
      asrt ((0 : Int) ≤ c.At ∧ c.At < (c.Code.length : Int)) <|
      some (IntKind.i64.wrap (c.Code.getD (Int.toNat c.At) default)))
    else (
      some (0 : Int))) : Option Int)).bind fun e => match e with
  | b_ =>
    (bif (decide ((IntKind.i64.wrap (c.At + (1 : Int))) ≤ (c.Code.length : Int))) then (
      some (b_, (⟨c.Code, (IntKind.i64.wrap (c.At + (1 : Int))), (IntKind.u64.wrap ((IntKind.u64.wrap ((IntKind.u64.wrap (c.Seed * (6364136223846793005 : Int))) + (IntKind.u64.wrap b_))) + (103535 : Int)))⟩ : Cur)))
    else (
      some ((IntKind.i64.wrap (IntKind.u64.wrap (BitVec.ofInt IntKind.u64.bits (Int.fdiv (IntKind.u64.wrap ((IntKind.u64.wrap ((IntKind.u64.wrap (c.Seed * (6364136223846793005 : Int))) + (IntKind.u64.wrap b_))) + (103535 : Int))) (2 ^ (min (Int.toNat (40 : Int)) IntKind.u64.bits))) &&& BitVec.ofInt IntKind.u64.bits (255 : Int)).toNat)), (⟨c.Code, (IntKind.i64.wrap (c.At + (1 : Int))), (IntKind.u64.wrap ((IntKind.u64.wrap ((IntKind.u64.wrap (c.Seed * (6364136223846793005 : Int))) + (IntKind.u64.wrap b_))) + (103535 : Int)))⟩ : Cur))))

def M.spec_l1Cur_pick (c : Cur) (n : Int) : Option (Int × Cur) :=
  bif (decide (n ≤ (1 : Int))) then (
    some ((0 : Int), c))
  else (
    (M.spec_l1Cur_next c).bind fun y0 =>
    (((
      bif (decide (n > (200 : Int))) then (
        (M.spec_l1Cur_next y0.2).bind fun y1 =>
        some ((IntKind.i64.wrap ((IntKind.i64.wrap (y0.1 * (256 : Int))) + y1.1)), y1.2))
      else (
        some (y0.1, y0.2))) : Option (Int × Cur))).bind fun e => match e with
    | (x, c_) =>
      (asrt (n ≠ 0) <|
      some ((Int.tmod x n), c_)))

def M.spec_l1Cur_among (c : Cur) (list : List Int) : Option (Int × Cur) :=
  (M.spec_l1Cur_pick c (list.length : Int)).bind fun y0 =>
  asrt ((0 : Int) ≤ y0.1 ∧ y0.1 < (list.length : Int)) <|
  some ((list.getD (Int.toNat y0.1) default), y0.2)

def M.spec_l1Cur_population_l0 : (List Int × Int × Int × Cur) → Option ((List Int × Int × Int × Cur) ⊕ (List Int × Int × Cur)) := fun st_ => match st_ with
| (out_0, at_0, n_, c_0) =>
  bif (decide (n_ > (0 : Int))) then (
    asrt ((out_0.length : Int) + (([at_0] : List Int).length : Int) ≤ 2147483648) <|
    (M.spec_l1Cur_among c_0 ([(1 : Int), (2 : Int), (7 : Int), (40 : Int)] : List Int)).bind fun y3 =>
    some (.inl ((out_0 ++ ([at_0] : List Int)), (IntKind.i64.wrap (at_0 + y3.1)), (IntKind.i64.wrap (n_ - (1 : Int))), y3.2)))
  else (
    some (.inr (out_0, at_0, c_0)))

def M.spec_l1Cur_population_l1 : (List Int × Int × Cur) → Option ((List Int × Int × Cur) ⊕ (List Int × Cur)) := fun st_ => match st_ with
| (out_3, at_1, c_3) =>
  (M.spec_l1Cur_pick c_3 (2 : Int)).bind fun y7 =>
  bif (decide ((out_3.length : Int) < (IntKind.i64.wrap ((20 : Int) + y7.1)))) then (
    asrt ((out_3.length : Int) + (([at_1] : List Int).length : Int) ≤ 2147483648) <|
    some (.inl ((out_3 ++ ([at_1] : List Int)), (IntKind.i64.wrap (at_1 + (1 : Int))), y7.2)))
  else (
    some (.inr (out_3, y7.2)))

def M.spec_l1Cur_population (c : Cur) : Option (List Int × Cur) :=
  (M.spec_l1Cur_among c ([(1 : Int), (5 : Int), (100 : Int)] : List Int)).bind fun y0 =>
  (M.spec_l1Cur_pick y0.2 (9 : Int)).bind fun y1 =>
  (iterO (M.spec_l1Cur_population_l0) (([] : List Int), y0.1, y1.1, y1.2)).bind fun e => match e with
  | (out_, at_, c_) =>
    ((M.spec_l1Cur_pick c_ (32 : Int)).bind fun y4 =>
    (((
      bif (y4.1 == (0 : Int)) then (
        (M.spec_l1Cur_among y4.2 ([(0 : Int), (1 : Int), (999 : Int), (1000 : Int)] : List Int)).bind fun y5 =>
        asrt ((out_.length : Int) + (([y5.1] : List Int).length : Int) ≤ 2147483648) <|
        some ((out_ ++ ([y5.1] : List Int)), y5.2))
      else (
        bif (y4.1 == (1 : Int)) then (
          (iterO (M.spec_l1Cur_population_l1) (out_, at_, y4.2)).bind fun e => match e with
          | (out_2, c_2) =>
            (some (out_2, c_2)))
        else (
          some (out_, y4.2)))) : Option (List Int × Cur))).bind fun e => match e with
    | (out_1, c_1) =>
      (some (out_1, c_1)))

def M.spec_l1Cur_anySeed (c : Cur) : Option (Int × Cur) :=
  (M.spec_l1Cur_among c ([(0 : Int), (1 : Int), (7 : Int), (42 : Int), (999 : Int), (12345 : Int), (99999 : Int), (20000 : Int), (100000 : Int), (-1 : Int)] : List Int)).bind fun y0 =>
  some (y0.1, y0.2)

def M.spec_DrawSampleOf (code : List Int) : Option (List Int × Int × Int) :=
  (M.spec_l1Cur_population (⟨code, (0 : Int), (0 : Int)⟩ : Cur)).bind fun y0 =>
  (M.spec_l1Cur_pick y0.2 (IntKind.i64.wrap ((y0.1.length : Int) + (2 : Int)))).bind fun y1 =>
  (M.spec_l1Cur_pick y1.2 (17 : Int)).bind fun y2 =>
  (M.spec_l1Cur_anySeed y2.2).bind fun y3 =>
  some (y0.1, (IntKind.i64.wrap (y1.1 - (IntKind.i64.wrap (Int.tdiv y2.1 (16 : Int))))), y3.1)

def M.impl_within (n : Int) (low : Int) (high : Int) : Option Bool :=
  some ((decide (low ≤ n)) && (decide (n ≤ high)))

def M.impl_IsPopulation_l0 (list : List Int) : (Int) → Option ((Int) ⊕ ((Unit) ⊕ (Bool))) := fun st_ => match st_ with
| v =>
  bif (decide (v < (list.length : Int))) then (
    asrt ((0 : Int) ≤ v ∧ v < (list.length : Int)) <|
    (M.impl_within (list.getD (Int.toNat v) default) (1 : Int) (999 : Int)).bind fun y1 =>
    asrt ((!y1) = false → (decide (v > (0 : Int))) = true → ((0 : Int) ≤ (IntKind.i64.wrap (v - (1 : Int))) ∧ (IntKind.i64.wrap (v - (1 : Int))) < (list.length : Int))) <|
    bif ((!y1) || ((decide (v > (0 : Int))) && (decide ((list.getD (Int.toNat (IntKind.i64.wrap (v - (1 : Int)))) default) ≥ (list.getD (Int.toNat v) default))))) then (
      some (.inr (.inr false)))
    else (
      some (.inl (IntKind.i64.wrap (v + (1 : Int))))))
  else (
    some (.inr (.inl ())))

def M.impl_IsPopulation (list : List Int) : Option Bool :=
  (iterO (M.impl_IsPopulation_l0 list) (0 : Int)).bind fun e => match e with
  | .inl () =>
    (some (decide ((list.length : Int) ≤ (20 : Int))))
  | .inr r => some r

def M.impl_isSeed (seed : Int) : Option Bool :=
  (M.impl_within seed (0 : Int) (99999 : Int)).bind fun y0 =>
  some y0

def M.slices_Clone_int_int (s : List Int) : Option (List Int) := asrt ((s.length : Int) ≤ 2147483648) <| some s

def M.slices_Delete_int_int (s : List Int) (i : Int) (j_ : Int) : Option (List Int) :=
  asrt ((0 : Int) ≤ i ∧ i ≤ j_ ∧ j_ ≤ (s.length : Int) ∧ (s.length : Int) ≤ (s.length : Int)) <|
  bif (i == j_) then (
    some s)
  else (
    asrt ((0 : Int) ≤ (0 : Int) ∧ (0 : Int) ≤ i ∧ i ≤ (s.length : Int)) <|
    asrt ((0 : Int) ≤ j_ ∧ j_ ≤ (((List.length s) : Nat) : Int) ∧ (((List.length s) : Nat) : Int) ≤ (((List.length s) : Nat) : Int)) <|
    asrt ((0 + Int.toNat j_) + (Int.toNat (((List.length s) : Nat) : Int) - Int.toNat j_) ≤ s.length) <|
    asrt ((Int.toNat i - Int.toNat (0 : Int)) + (List.take (Int.toNat (((List.length s) : Nat) : Int) - Int.toNat j_) (List.drop (0 + Int.toNat j_) s)).length ≤ s.length) <|
    asrt ((0 : Int) ≤ ((((Int.toNat i - Int.toNat (0 : Int)) + List.length (List.take (Int.toNat (((List.length s) : Nat) : Int) - Int.toNat j_) (List.drop (0 + Int.toNat j_) s))) : Nat) : Int) ∧ ((((Int.toNat i - Int.toNat (0 : Int)) + List.length (List.take (Int.toNat (((List.length s) : Nat) : Int) - Int.toNat j_) (List.drop (0 + Int.toNat j_) s))) : Nat) : Int) ≤ (s.length : Int) ∧ (((0 : Nat) : Int) : Int) + (s.length : Int) ≤ ((List.take (Int.toNat i - Int.toNat (0 : Int)) s ++ (List.take (Int.toNat (((List.length s) : Nat) : Int) - Int.toNat j_) (List.drop (0 + Int.toNat j_) s)) ++ List.drop ((Int.toNat i - Int.toNat (0 : Int)) + List.length (List.take (Int.toNat (((List.length s) : Nat) : Int) - Int.toNat j_) (List.drop (0 + Int.toNat j_) s))) s).length : Int)) <|
    asrt ((0 + Int.toNat ((((Int.toNat i - Int.toNat (0 : Int)) + List.length (List.take (Int.toNat (((List.length s) : Nat) : Int) - Int.toNat j_) (List.drop (0 + Int.toNat j_) s))) : Nat) : Int)) + (Int.toNat (s.length : Int) - Int.toNat ((((Int.toNat i - Int.toNat (0 : Int)) + List.length (List.take (Int.toNat (((List.length s) : Nat) : Int) - Int.toNat j_) (List.drop (0 + Int.toNat j_) s))) : Nat) : Int)) ≤ (List.take (Int.toNat i - Int.toNat (0 : Int)) s ++ (List.take (Int.toNat (((List.length s) : Nat) : Int) - Int.toNat j_) (List.drop (0 + Int.toNat j_) s)) ++ List.drop ((Int.toNat i - Int.toNat (0 : Int)) + List.length (List.take (Int.toNat (((List.length s) : Nat) : Int) - Int.toNat j_) (List.drop (0 + Int.toNat j_) s))) s).length) <|
    asrt (((Int.toNat i - Int.toNat (0 : Int)) + List.length (List.take (Int.toNat (((List.length s) : Nat) : Int) - Int.toNat j_) (List.drop (0 + Int.toNat j_) s))) ≤ (List.take (0 + Int.toNat ((((Int.toNat i - Int.toNat (0 : Int)) + List.length (List.take (Int.toNat (((List.length s) : Nat) : Int) - Int.toNat j_) (List.drop (0 + Int.toNat j_) s))) : Nat) : Int)) (List.take (Int.toNat i - Int.toNat (0 : Int)) s ++ (List.take (Int.toNat (((List.length s) : Nat) : Int) - Int.toNat j_) (List.drop (0 + Int.toNat j_) s)) ++ List.drop ((Int.toNat i - Int.toNat (0 : Int)) + List.length (List.take (Int.toNat (((List.length s) : Nat) : Int) - Int.toNat j_) (List.drop (0 + Int.toNat j_) s))) s) ++ List.replicate (Int.toNat (s.length : Int) - Int.toNat ((((Int.toNat i - Int.toNat (0 : Int)) + List.length (List.take (Int.toNat (((List.length s) : Nat) : Int) - Int.toNat j_) (List.drop (0 + Int.toNat j_) s))) : Nat) : Int)) (0 : Int) ++ List.drop ((0 + Int.toNat ((((Int.toNat i - Int.toNat (0 : Int)) + List.length (List.take (Int.toNat (((List.length s) : Nat) : Int) - Int.toNat j_) (List.drop (0 + Int.toNat j_) s))) : Nat) : Int)) + (Int.toNat (s.length : Int) - Int.toNat ((((Int.toNat i - Int.toNat (0 : Int)) + List.length (List.take (Int.toNat (((List.length s) : Nat) : Int) - Int.toNat j_) (List.drop (0 + Int.toNat j_) s))) : Nat) : Int))) (List.take (Int.toNat i - Int.toNat (0 : Int)) s ++ (List.take (Int.toNat (((List.length s) : Nat) : Int) - Int.toNat j_) (List.drop (0 + Int.toNat j_) s)) ++ List.drop ((Int.toNat i - Int.toNat (0 : Int)) + List.length (List.take (Int.toNat (((List.length s) : Nat) : Int) - Int.toNat j_) (List.drop (0 + Int.toNat j_) s))) s)).length) <|
    some (List.take ((Int.toNat i - Int.toNat (0 : Int)) + List.length (List.take (Int.toNat (((List.length s) : Nat) : Int) - Int.toNat j_) (List.drop (0 + Int.toNat j_) s))) (List.take (0 + Int.toNat ((((Int.toNat i - Int.toNat (0 : Int)) + List.length (List.take (Int.toNat (((List.length s) : Nat) : Int) - Int.toNat j_) (List.drop (0 + Int.toNat j_) s))) : Nat) : Int)) (List.take (Int.toNat i - Int.toNat (0 : Int)) s ++ (List.take (Int.toNat (((List.length s) : Nat) : Int) - Int.toNat j_) (List.drop (0 + Int.toNat j_) s)) ++ List.drop ((Int.toNat i - Int.toNat (0 : Int)) + List.length (List.take (Int.toNat (((List.length s) : Nat) : Int) - Int.toNat j_) (List.drop (0 + Int.toNat j_) s))) s) ++ List.replicate (Int.toNat (s.length : Int) - Int.toNat ((((Int.toNat i - Int.toNat (0 : Int)) + List.length (List.take (Int.toNat (((List.length s) : Nat) : Int) - Int.toNat j_) (List.drop (0 + Int.toNat j_) s))) : Nat) : Int)) (0 : Int) ++ List.drop ((0 + Int.toNat ((((Int.toNat i - Int.toNat (0 : Int)) + List.length (List.take (Int.toNat (((List.length s) : Nat) : Int) - Int.toNat j_) (List.drop (0 + Int.toNat j_) s))) : Nat) : Int)) + (Int.toNat (s.length : Int) - Int.toNat ((((Int.toNat i - Int.toNat (0 : Int)) + List.length (List.take (Int.toNat (((List.length s) : Nat) : Int) - Int.toNat j_) (List.drop (0 + Int.toNat j_) s))) : Nat) : Int))) (List.take (Int.toNat i - Int.toNat (0 : Int)) s ++ (List.take (Int.toNat (((List.length s) : Nat) : Int) - Int.toNat j_) (List.drop (0 + Int.toNat j_) s)) ++ List.drop ((Int.toNat i - Int.toNat (0 : Int)) + List.length (List.take (Int.toNat (((List.length s) : Nat) : Int) - Int.toNat j_) (List.drop (0 + Int.toNat j_) s))) s))))

def M.impl_nextSeed (seed : Int) : Option Int :=
  some (Int.tmod (IntKind.i64.wrap ((IntKind.i64.wrap ((5 : Int) * seed)) + (1 : Int))) (100000 : Int))

def M.impl_taken_l0 (n : Int) : (Int × List Int × List Int × Int) → Option ((Int × List Int × List Int × Int) ⊕ (Int × List Int)) := fun st_ => match st_ with
| (seed1, left, out_0, v) =>
  bif (decide (v < n)) then (
    asrt ((left.length : Int) ≠ 0) <|
    asrt ((0 : Int) ≤ (Int.tmod seed1 (left.length : Int)) ∧ (Int.tmod seed1 (left.length : Int)) < (left.length : Int)) <|
    asrt ((out_0.length : Int) + (([(left.getD (Int.toNat (Int.tmod seed1 (left.length : Int))) default)] : List Int).length : Int) ≤ 2147483648) <|
    (M.slices_Delete_int_int left (Int.tmod seed1 (left.length : Int)) (IntKind.i64.wrap ((Int.tmod seed1 (left.length : Int)) + (1 : Int)))).bind fun y2 =>
    (M.impl_nextSeed seed1).bind fun y3 =>
    some (.inl (y3, y2, (out_0 ++ ([(left.getD (Int.toNat (Int.tmod seed1 (left.length : Int))) default)] : List Int)), (IntKind.i64.wrap (v + (1 : Int))))))
  else (
    some (.inr (seed1, out_0)))

def M.impl_taken (list : List Int) (n : Int) (seed : Int) : Option (List Int × Int) :=
  (M.slices_Clone_int_int list).bind fun y0 =>
  (iterO (M.impl_taken_l0 n) (seed, y0, ([] : List Int), (0 : Int))).bind fun e => match e with
  | (seed0, out_) =>
    (some (out_, seed0))

def M.impl_OrderTaken (list : List Int) (n : Int) (seed : Int) : Option (List Int × Bool) :=
  (M.impl_IsPopulation list).bind fun y0 =>
  ((bif (!y0) then some default else M.impl_within n (0 : Int) (list.length : Int))).bind fun y1 =>
  ((bif ((!y0) || (!y1)) then some default else M.impl_isSeed seed)).bind fun y2 =>
  bif (((!y0) || (!y1)) || (!y2)) then (
    some (([] : List Int), false))
  else (
    (M.impl_taken list n seed).bind fun y3 =>
    some (y3.1, true))

def M.slices_Sort_int_int (s : List Int) : Option (List Int) := asrt (s.length < 4611686018427387904) <| some (sortL s)

def M.impl_SampleOf (list : List Int) (n : Int) (seed : Int) : Option (List Int × Bool) :=
  (M.impl_OrderTaken list n seed).bind fun y0 =>
  (M.slices_Sort_int_int y0.1).bind fun y1 =>
  asrt (y1.length = y0.1.length) <|
  some (y1, y0.2)

def M.spec_l1In (x : Int) (a : Int) (b_ : Int) : Option Bool :=
  some ((decide (x ≥ a)) && (decide (x ≤ b_)))

def M.spec_l1Rising_l0 (l : List Int) (lo : Int) (hi : Int) : (Int) → Option ((Int) ⊕ ((Unit) ⊕ (Bool))) := fun st_ => match st_ with
| i =>
  bif (decide (i < (l.length : Int))) then (
    asrt ((0 : Int) ≤ i ∧ i < (l.length : Int)) <|
    (M.spec_l1In (l.getD (Int.toNat i) default) lo hi).bind fun y1 =>
    asrt ((!y1) = false → (decide (i > (0 : Int))) = true → ((0 : Int) ≤ (IntKind.i64.wrap (i - (1 : Int))) ∧ (IntKind.i64.wrap (i - (1 : Int))) < (l.length : Int))) <|
    asrt ((!y1) = false → (decide (i > (0 : Int))) = true → ((0 : Int) ≤ i ∧ i < (l.length : Int))) <|
    bif ((!y1) || ((decide (i > (0 : Int))) && (decide ((l.getD (Int.toNat (IntKind.i64.wrap (i - (1 : Int)))) default) ≥ (l.getD (Int.toNat i) default))))) then (
      some (.inr (.inr false)))
    else (
      some (.inl (IntKind.i64.wrap (i + (1 : Int))))))
  else (
    some (.inr (.inl ())))

def M.spec_l1Rising (l : List Int) (lo : Int) (hi : Int) : Option Bool :=
  (iterO (M.spec_l1Rising_l0 l lo hi) (0 : Int)).bind fun e => match e with
  | .inl () =>
    (some true)
  | .inr r => some r

def M.spec_l12Good (list : List Int) : Option Bool :=
  ((bif (decide ((list.length : Int) ≤ (20 : Int))) then M.spec_l1Rising list (1 : Int) (999 : Int) else some default)).bind fun y0 =>
  some ((decide ((list.length : Int) ≤ (20 : Int))) && y0)

def M.spec_l12Seed (seed : Int) : Option Bool :=
  (M.spec_l1In seed (0 : Int) (99999 : Int)).bind fun y0 =>
  some y0

def M.spec_l12Asked (list : List Int) (n : Int) (seed : Int) : Option Bool :=
  (M.spec_l12Good list).bind fun y0 =>
  ((bif y0 then M.spec_l1In n (0 : Int) (list.length : Int) else some default)).bind fun y1 =>
  ((bif (y0 && y1) then M.spec_l12Seed seed else some default)).bind fun y2 =>
  some ((y0 && y1) && y2)

def M.spec_l1Own (l : List Int) : Option (List Int) :=
  asrt ((([] : List Int).length : Int) + (l.length : Int) ≤ 2147483648) <|
  some (([] : List Int) ++ l)

def M.spec_l12Next (seed : Int) : Option Int :=
  some (Int.tmod (IntKind.i64.wrap ((IntKind.i64.wrap ((5 : Int) * seed)) + (1 : Int))) (100000 : Int))

def M.spec_l12Take_l0 (n : Int) : (Int × List Int × List Int × Int) → Option ((Int × List Int × List Int × Int) ⊕ (Int × List Int)) := fun st_ => match st_ with
| (seed1, left, out_0, k) =>
  bif (decide (k < n)) then (
    asrt ((left.length : Int) ≠ 0) <|
    asrt ((0 : Int) ≤ (Int.tmod seed1 (left.length : Int)) ∧ (Int.tmod seed1 (left.length : Int)) < (left.length : Int)) <|
    asrt ((out_0.length : Int) + (([(left.getD (Int.toNat (Int.tmod seed1 (left.length : Int))) default)] : List Int).length : Int) ≤ 2147483648) <|
    asrt ((0 : Int) ≤ (0 : Int) ∧ (0 : Int) ≤ (Int.tmod seed1 (left.length : Int)) ∧ (Int.tmod seed1 (left.length : Int)) ≤ (left.length : Int)) <|
    (M.spec_l1Own (slc left (0 : Int) (Int.tmod seed1 (left.length : Int)))).bind fun y2 =>
    asrt ((0 : Int) ≤ (IntKind.i64.wrap ((Int.tmod seed1 (left.length : Int)) + (1 : Int))) ∧ (IntKind.i64.wrap ((Int.tmod seed1 (left.length : Int)) + (1 : Int))) ≤ (left.length : Int) ∧ (left.length : Int) ≤ (left.length : Int)) <|
    asrt ((y2.length : Int) + ((slc left (IntKind.i64.wrap ((Int.tmod seed1 (left.length : Int)) + (1 : Int))) (left.length : Int)).length : Int) ≤ 2147483648) <|
    (M.spec_l12Next seed1).bind fun y3 =>
    some (.inl (y3, (y2 ++ (slc left (IntKind.i64.wrap ((Int.tmod seed1 (left.length : Int)) + (1 : Int))) (left.length : Int))), (out_0 ++ ([(left.getD (Int.toNat (Int.tmod seed1 (left.length : Int))) default)] : List Int)), (IntKind.i64.wrap (k + (1 : Int))))))
  else (
    some (.inr (seed1, out_0)))

def M.spec_l12Take (list : List Int) (n : Int) (seed : Int) : Option (List Int × Int) :=
  (M.spec_l1Own list).bind fun y0 =>
  (iterO (M.spec_l12Take_l0 n) (seed, y0, ([] : List Int), (0 : Int))).bind fun e => match e with
  | (seed0, out_) =>
    (some (out_, seed0))

def M.spec_l1Put_l0 (l : List Int) (n : Int) : (Int) → Option ((Int) ⊕ (Int)) := fun st_ => match st_ with
| k0 =>
  asrt ((decide (k0 < (l.length : Int))) = true → ((0 : Int) ≤ k0 ∧ k0 < (l.length : Int))) <|
  bif ((decide (k0 < (l.length : Int))) && (decide ((l.getD (Int.toNat k0) default) < n))) then (
    some (.inl (IntKind.i64.wrap (k0 + (1 : Int)))))
  else (
    some (.inr k0))

def M.spec_l1Put (l : List Int) (n : Int) : Option (List Int) :=
  (iterO (M.spec_l1Put_l0 l n) (0 : Int)).bind fun e => match e with
  | k =>
    (asrt ((decide (k < (l.length : Int))) = true → ((0 : Int) ≤ k ∧ k < (l.length : Int))) <|
    bif ((decide (k < (l.length : Int))) && ((l.getD (Int.toNat k) default) == n)) then (
      some l)
    else (
      asrt ((0 : Int) ≤ (0 : Int) ∧ (0 : Int) ≤ k ∧ k ≤ (l.length : Int)) <|
      asrt ((([] : List Int).length : Int) + ((slc l (0 : Int) k).length : Int) ≤ 2147483648) <|
      asrt (((([] : List Int) ++ (slc l (0 : Int) k)).length : Int) + (([n] : List Int).length : Int) ≤ 2147483648) <|
      asrt ((0 : Int) ≤ k ∧ k ≤ (l.length : Int) ∧ (l.length : Int) ≤ (l.length : Int)) <|
      asrt ((((([] : List Int) ++ (slc l (0 : Int) k)) ++ ([n] : List Int)).length : Int) + ((slc l k (l.length : Int)).length : Int) ≤ 2147483648) <|
      (((
        some (((([] : List Int) ++ (slc l (0 : Int) k)) ++ ([n] : List Int)) ++ (slc l k (l.length : Int)))) : Option (List Int))).bind fun e => match e with
      | v =>
        (some v)))

def M.spec_l12Sorted_l0 (list : List Int) : (List Int × Int) → Option ((List Int × Int) ⊕ (List Int)) := fun st_ => match st_ with
| (out_0, i) =>
  bif (decide (i < (list.length : Int))) then (
    asrt ((0 : Int) ≤ i ∧ i < (list.length : Int)) <|
    (M.spec_l1Put out_0 (list.getD (Int.toNat i) default)).bind fun y1 =>
    some (.inl (y1, (IntKind.i64.wrap (i + (1 : Int))))))
  else (
    some (.inr out_0))

def M.spec_l12Sorted (list : List Int) : Option (List Int) :=
  (iterO (M.spec_l12Sorted_l0 list) (([] : List Int), (0 : Int))).bind fun e => match e with
  | out_ =>
    (some out_)

def M.spec_SampleOf (list : List Int) (n : Int) (seed : Int) : Option (List Int × Bool) :=
  (M.spec_l12Asked list n seed).bind fun y0 =>
  bif (!y0) then (
    some (([] : List Int), false))
  else (
    (M.spec_l12Take list n seed).bind fun y1 =>
    (M.spec_l12Sorted y1.1).bind fun y2 =>
    some (y2, true))

def M.laws_vInts_l0 (a : List Int) (b_ : List Int) : (Int) → Option ((Int) ⊕ ((Unit) ⊕ (Bool))) := fun st_ => match st_ with
| i =>
  bif (decide (i < (a.length : Int))) then (
    asrt ((0 : Int) ≤ i ∧ i < (a.length : Int)) <|
    asrt ((0 : Int) ≤ i ∧ i < (b_.length : Int)) <|
    bif ((a.getD (Int.toNat i) default) != (b_.getD (Int.toNat i) default)) then (
      some (.inr (.inr false)))
    else (
      some (.inl (IntKind.i64.wrap (i + (1 : Int))))))
  else (
    some (.inr (.inl ())))

def M.laws_vInts (a : List Int) (b_ : List Int) : Option Bool :=
  bif ((a.length : Int) != (b_.length : Int)) then (
    some false)
  else (
    (iterO (M.laws_vInts_l0 a b_) (0 : Int)).bind fun e => match e with
    | .inl () =>
      (some true)
    | .inr r => some r)

def M.spec_IsPopulation (list : List Int) : Option Bool :=
  (M.spec_l12Good list).bind fun y0 =>
  some y0

def M.spec_OrderTaken (list : List Int) (n : Int) (seed : Int) : Option (List Int × Bool) :=
  (M.spec_l12Asked list n seed).bind fun y0 =>
  bif (!y0) then (
    some (([] : List Int), false))
  else (
    (M.spec_l12Take list n seed).bind fun y1 =>
    some (y1.1, true))

def M.slices_Equal_int_int_l0 (s1 : List Int) (s2 : List Int) : (Int) → Option ((Int) ⊕ ((Unit) ⊕ (Bool))) := fun st_ => match st_ with
| v =>
  bif (decide (v < (s1.length : Int))) then (
    asrt ((0 : Int) ≤ v ∧ v < (s1.length : Int)) <|
    asrt ((0 : Int) ≤ v ∧ v < (s2.length : Int)) <|
    bif ((s1.getD (Int.toNat v) default) != (s2.getD (Int.toNat v) default)) then (
      some (.inr (.inr false)))
    else (
      some (.inl (IntKind.i64.wrap (v + (1 : Int))))))
  else (
    some (.inr (.inl ())))

def M.slices_Equal_int_int (s1 : List Int) (s2 : List Int) : Option Bool :=
  bif ((s1.length : Int) != (s2.length : Int)) then (
    some false)
  else (
    (iterO (M.slices_Equal_int_int_l0 s1 s2) (0 : Int)).bind fun e => match e with
    | .inl () =>
      (some true)
    | .inr r => some r)

def M.impl_IsSampleOf (list : List Int) (sample : List Int) (n : Int) (seed : Int) : Option (Bool × Bool) :=
  (M.impl_SampleOf list n seed).bind fun y0 =>
  ((bif y0.2 then M.slices_Equal_int_int y0.1 sample else some default)).bind fun y1 =>
  some ((y0.2 && y1), y0.2)

def M.slices_Index_int_int_l0 (s : List Int) (v : Int) : (Int) → Option ((Int) ⊕ ((Unit) ⊕ (Int))) := fun st_ => match st_ with
| v0 =>
  bif (decide (v0 < (s.length : Int))) then (
    asrt ((0 : Int) ≤ v0 ∧ v0 < (s.length : Int)) <|
    bif (v == (s.getD (Int.toNat v0) default)) then (
      some (.inr (.inr v0)))
    else (
      some (.inl (IntKind.i64.wrap (v0 + (1 : Int))))))
  else (
    some (.inr (.inl ())))

def M.slices_Index_int_int (s : List Int) (v : Int) : Option Int :=
  (iterO (M.slices_Index_int_int_l0 s v) (0 : Int)).bind fun e => match e with
  | .inl () =>
    (some (-1 : Int))
  | .inr r => some r

def M.slices_Contains_int_int (s : List Int) (v : Int) : Option Bool :=
  (M.slices_Index_int_int s v).bind fun y0 =>
  some (decide (y0 ≥ (0 : Int)))

def M.impl_NotSampled_1 (n : Int) (list : List Int) : Option Bool :=
  (M.slices_Contains_int_int list n).bind fun y0 =>
  some (!y0)

def M.slices_IndexFunc_int_int_l0 (s : List Int) (fm : Int → Option Bool) : (Int) → Option ((Int) ⊕ ((Unit) ⊕ (Int))) := fun st_ => match st_ with
| v =>
  bif (decide (v < (s.length : Int))) then (
    asrt ((0 : Int) ≤ v ∧ v < (s.length : Int)) <|
    (fm (s.getD (Int.toNat v) default)).bind fun y1 =>
    bif y1 then (
      some (.inr (.inr v)))
    else (
      some (.inl (IntKind.i64.wrap (v + (1 : Int))))))
  else (
    some (.inr (.inl ())))

def M.slices_IndexFunc_int_int (s : List Int) (fm : Int → Option Bool) : Option Int :=
  (iterO (M.slices_IndexFunc_int_int_l0 s fm) (0 : Int)).bind fun e => match e with
  | .inl () =>
    (some (-1 : Int))
  | .inr r => some r

def M.slices_ContainsFunc_int_int (s : List Int) (fm : Int → Option Bool) : Option Bool :=
  (M.slices_IndexFunc_int_int s fm).bind fun y0 =>
  some (decide (y0 ≥ (0 : Int)))

def M.impl_NotSampled_2 (n : Int) (sample : List Int) : Option Bool :=
  (M.slices_Contains_int_int sample n).bind fun y0 =>
  some y0

def M.slices_DeleteFunc_int_int_l0 (fm : Int → Option Bool) : (List Int × Int × Int) → Option ((List Int × Int × Int) ⊕ (List Int × Int)) := fun st_ => match st_ with
| (s1, i0, j_) =>
  bif (decide (j_ < (s1.length : Int))) then (
    (((
      asrt ((0 : Int) ≤ j_ ∧ j_ < (s1.length : Int)) <|
      (fm (s1.getD (Int.toNat j_) default)).bind fun y2 =>
      bif (!y2) then (
        asrt ((0 : Int) ≤ i0 ∧ i0 < (s1.length : Int)) <|
        some ((s1.set (Int.toNat i0) (s1.getD (Int.toNat j_) default)), (IntKind.i64.wrap (i0 + (1 : Int)))))
      else (
        some (s1, i0))) : Option (List Int × Int))).bind fun e => match e with
    | (s2, i1) =>
      (some (.inl (s2, i1, (IntKind.i64.wrap (j_ + (1 : Int)))))))
  else (
    some (.inr (s1, i0)))

def M.slices_DeleteFunc_int_int (s : List Int) (fm : Int → Option Bool) : Option (List Int) :=
  (M.slices_IndexFunc_int_int s fm).bind fun y0 =>
  bif (y0 == (-1 : Int)) then (
    some s)
  else (
    (iterO (M.slices_DeleteFunc_int_int_l0 fm) (s, y0, (IntKind.i64.wrap (y0 + (1 : Int))))).bind fun e => match e with
    | (s0, i) =>
      (asrt ((0 : Int) ≤ i ∧ i ≤ (((List.length s0) : Nat) : Int) ∧ (((List.length s0) : Nat) : Int) ≤ (((List.length s0) : Nat) : Int)) <|
      asrt ((0 + Int.toNat i) + (Int.toNat (((List.length s0) : Nat) : Int) - Int.toNat i) ≤ s0.length) <|
      asrt ((0 : Int) ≤ (0 : Int) ∧ (0 : Int) ≤ i ∧ i ≤ ((List.take (0 + Int.toNat i) s0 ++ List.replicate (Int.toNat (((List.length s0) : Nat) : Int) - Int.toNat i) (0 : Int) ++ List.drop ((0 + Int.toNat i) + (Int.toNat (((List.length s0) : Nat) : Int) - Int.toNat i)) s0).length : Int)) <|
      asrt ((Int.toNat i - Int.toNat (0 : Int)) ≤ (List.take (0 + Int.toNat i) s0 ++ List.replicate (Int.toNat (((List.length s0) : Nat) : Int) - Int.toNat i) (0 : Int) ++ List.drop ((0 + Int.toNat i) + (Int.toNat (((List.length s0) : Nat) : Int) - Int.toNat i)) s0).length) <|
      some (List.take (Int.toNat i - Int.toNat (0 : Int)) (List.take (0 + Int.toNat i) s0 ++ List.replicate (Int.toNat (((List.length s0) : Nat) : Int) - Int.toNat i) (0 : Int) ++ List.drop ((0 + Int.toNat i) + (Int.toNat (((List.length s0) : Nat) : Int) - Int.toNat i)) s0))))

def M.impl_NotSampled (list : List Int) (sample : List Int) : Option (List Int × Bool) :=
  (M.impl_IsPopulation list).bind fun y0 =>
  ((bif (!y0) then some default else M.impl_IsPopulation sample)).bind fun y1 =>
  ((bif ((!y0) || (!y1)) then some default else M.slices_ContainsFunc_int_int sample (fun x0 => M.impl_NotSampled_1 x0 list))).bind fun y2 =>
  bif (((!y0) || (!y1)) || y2) then (
    some (([] : List Int), false))
  else (
    (M.slices_Clone_int_int list).bind fun y3 =>
    (M.slices_DeleteFunc_int_int y3 (fun x0 => M.impl_NotSampled_2 x0 sample)).bind fun y4 =>
    some (y4, true))

def M.laws_vHas_l0 (l : List Int) (x : Int) : (Int) → Option ((Int) ⊕ ((Unit) ⊕ (Bool))) := fun st_ => match st_ with
| i =>
  bif (decide (i < (l.length : Int))) then (
    asrt ((0 : Int) ≤ i ∧ i < (l.length : Int)) <|
    bif ((l.getD (Int.toNat i) default) == x) then (
      some (.inr (.inr true)))
    else (
      some (.inl (IntKind.i64.wrap (i + (1 : Int))))))
  else (
    some (.inr (.inl ())))

def M.laws_vHas (l : List Int) (x : Int) : Option Bool :=
  (iterO (M.laws_vHas_l0 l x) (0 : Int)).bind fun e => match e with
  | .inl () =>
    (some false)
  | .inr r => some r

def M.laws_vWithin_l0 (a : List Int) (b_ : List Int) : (Int) → Option ((Int) ⊕ ((Unit) ⊕ (Bool))) := fun st_ => match st_ with
| i =>
  bif (decide (i < (a.length : Int))) then (
    asrt ((0 : Int) ≤ i ∧ i < (a.length : Int)) <|
    (M.laws_vHas b_ (a.getD (Int.toNat i) default)).bind fun y1 =>
    bif (!y1) then (
      some (.inr (.inr false)))
    else (
      some (.inl (IntKind.i64.wrap (i + (1 : Int))))))
  else (
    some (.inr (.inl ())))

def M.laws_vWithin (a : List Int) (b_ : List Int) : Option Bool :=
  (iterO (M.laws_vWithin_l0 a b_) (0 : Int)).bind fun e => match e with
  | .inl () =>
    (some true)
  | .inr r => some r

def M.spec_l1Cur_one (c : Cur) (n : Int) : Option (Bool × Cur) :=
  (M.spec_l1Cur_pick c n).bind fun y0 =>
  some ((y0.1 == (0 : Int)), y0.2)

def M.spec_DrawIsSampleOf (code : List Int) : Option (List Int × List Int × Int × Int) :=
  (M.spec_l1Cur_population (⟨code, (0 : Int), (0 : Int)⟩ : Cur)).bind fun y0 =>
  (M.spec_l1Cur_pick y0.2 (IntKind.i64.wrap ((y0.1.length : Int) + (1 : Int)))).bind fun y1 =>
  (M.spec_l1Cur_anySeed y1.2).bind fun y2 =>
  (M.spec_SampleOf y0.1 y1.1 y2.1).bind fun y3 =>
  (((
    ((bif (!y3.2) then some default else M.spec_l1Cur_one y2.2 (3 : Int))).bind fun y4 =>
    bif ((!y3.2) || y4.1) then (
      (M.spec_l1Cur_population (bif (!y3.2) then y2.2 else y4.2)).bind fun y5 =>
      some (y5.1, y5.2))
    else (
      some (y3.1, (bif (!y3.2) then y2.2 else y4.2)))) : Option (List Int × Cur))).bind fun e => match e with
  | (sample, c_) =>
    (some (y0.1, sample, y1.1, y2.1))

def M.spec_l1Same_l0 (a : List Int) (b_ : List Int) : (Int) → Option ((Int) ⊕ ((Unit) ⊕ (Bool))) := fun st_ => match st_ with
| i =>
  bif (decide (i < (a.length : Int))) then (
    asrt ((0 : Int) ≤ i ∧ i < (a.length : Int)) <|
    asrt ((0 : Int) ≤ i ∧ i < (b_.length : Int)) <|
    bif ((a.getD (Int.toNat i) default) != (b_.getD (Int.toNat i) default)) then (
      some (.inr (.inr false)))
    else (
      some (.inl (IntKind.i64.wrap (i + (1 : Int))))))
  else (
    some (.inr (.inl ())))

def M.spec_l1Same (a : List Int) (b_ : List Int) : Option Bool :=
  bif ((a.length : Int) != (b_.length : Int)) then (
    some false)
  else (
    (iterO (M.spec_l1Same_l0 a b_) (0 : Int)).bind fun e => match e with
    | .inl () =>
      (some true)
    | .inr r => some r)

def M.spec_IsSampleOf (list : List Int) (sample : List Int) (n : Int) (seed : Int) : Option (Bool × Bool) :=
  (M.spec_l12Asked list n seed).bind fun y0 =>
  bif (!y0) then (
    some (false, false))
  else (
    (M.spec_l12Take list n seed).bind fun y1 =>
    (M.spec_l12Sorted y1.1).bind fun y2 =>
    (M.spec_l1Same sample y2).bind fun y3 =>
    some (y3, true))

def M.spec_DrawSeedFor (code : List Int) : Option (List Int × Int) :=
  (M.spec_l1Cur_population (⟨code, (0 : Int), (0 : Int)⟩ : Cur)).bind fun y0 =>
  ((bif (decide ((y0.1.length : Int) > (0 : Int))) then M.spec_l1Cur_one y0.2 (5 : Int) else some default)).bind fun y1 =>
  bif ((decide ((y0.1.length : Int) > (0 : Int))) && (!y1.1)) then (
    (M.spec_l1Cur_pick (bif (decide ((y0.1.length : Int) > (0 : Int))) then y1.2 else y0.2) (y0.1.length : Int)).bind fun y2 =>
    asrt ((0 : Int) ≤ y2.1 ∧ y2.1 < (y0.1.length : Int)) <|
    some (y0.1, (y0.1.getD (Int.toNat y2.1) default)))
  else (
    (M.spec_l1Cur_among (bif (decide ((y0.1.length : Int) > (0 : Int))) then y1.2 else y0.2) ([(0 : Int), (1 : Int), (5 : Int), (999 : Int)] : List Int)).bind fun y3 =>
    some (y0.1, y3.1))

def M.impl_SeedFor (list : List Int) (first : Int) : Option (Int × Bool) :=
  (M.slices_Index_int_int list first).bind fun y0 =>
  (M.impl_IsPopulation list).bind fun y1 =>
  bif ((!y1) || (decide (y0 < (0 : Int)))) then (
    some ((0 : Int), false))
  else (
    some (y0, true))

def M.spec_SeedFor_l0 (list : List Int) (first : Int) : (Int) → Option ((Int) ⊕ ((Unit) ⊕ (Int × Bool))) := fun st_ => match st_ with
| i =>
  bif (decide (i < (list.length : Int))) then (
    asrt ((0 : Int) ≤ i ∧ i < (list.length : Int)) <|
    bif ((list.getD (Int.toNat i) default) == first) then (
      some (.inr (.inr (i, true))))
    else (
      some (.inl (IntKind.i64.wrap (i + (1 : Int))))))
  else (
    some (.inr (.inl ())))

def M.spec_SeedFor (list : List Int) (first : Int) : Option (Int × Bool) :=
  (M.spec_l12Good list).bind fun y0 =>
  bif (!y0) then (
    some ((0 : Int), false))
  else (
    (iterO (M.spec_SeedFor_l0 list first) (0 : Int)).bind fun e => match e with
    | .inl () =>
      (some ((0 : Int), false))
    | .inr r => some r)

def M.spec_DrawNotSampled (code : List Int) : Option (List Int × List Int) :=
  (M.spec_l1Cur_population (⟨code, (0 : Int), (0 : Int)⟩ : Cur)).bind fun y0 =>
  (M.spec_l1Cur_pick y0.2 (IntKind.i64.wrap ((y0.1.length : Int) + (1 : Int)))).bind fun y1 =>
  (M.spec_SampleOf y0.1 y1.1 (7 : Int)).bind fun y2 =>
  ((bif y2.2 then M.spec_l1Cur_one y1.2 (5 : Int) else some default)).bind fun y3 =>
  bif (y2.2 && (!y3.1)) then (
    some (y0.1, y2.1))
  else (
    (M.spec_l1Cur_population (bif y2.2 then y3.2 else y1.2)).bind fun y4 =>
    some (y0.1, y4.1))

def M.spec_l1Has_l0 (l : List Int) (n : Int) : (Int) → Option ((Int) ⊕ ((Unit) ⊕ (Bool))) := fun st_ => match st_ with
| i =>
  bif (decide (i < (l.length : Int))) then (
    asrt ((0 : Int) ≤ i ∧ i < (l.length : Int)) <|
    bif ((l.getD (Int.toNat i) default) == n) then (
      some (.inr (.inr true)))
    else (
      some (.inl (IntKind.i64.wrap (i + (1 : Int))))))
  else (
    some (.inr (.inl ())))

def M.spec_l1Has (l : List Int) (n : Int) : Option Bool :=
  (iterO (M.spec_l1Has_l0 l n) (0 : Int)).bind fun e => match e with
  | .inl () =>
    (some false)
  | .inr r => some r

def M.spec_NotSampled_l0 (list : List Int) (sample : List Int) : (Int) → Option ((Int) ⊕ ((Unit) ⊕ (List Int × Bool))) := fun st_ => match st_ with
| i =>
  bif (decide (i < (sample.length : Int))) then (
    asrt ((0 : Int) ≤ i ∧ i < (sample.length : Int)) <|
    (M.spec_l1Has list (sample.getD (Int.toNat i) default)).bind fun y3 =>
    bif (!y3) then (
      some (.inr (.inr (([] : List Int), false))))
    else (
      some (.inl (IntKind.i64.wrap (i + (1 : Int))))))
  else (
    some (.inr (.inl ())))

def M.spec_NotSampled_l1 (list : List Int) (sample : List Int) : (List Int × Int) → Option ((List Int × Int) ⊕ (List Int)) := fun st_ => match st_ with
| (out_0, i0) =>
  bif (decide (i0 < (list.length : Int))) then (
    (((
      asrt ((0 : Int) ≤ i0 ∧ i0 < (list.length : Int)) <|
      (M.spec_l1Has sample (list.getD (Int.toNat i0) default)).bind fun y5 =>
      bif (!y5) then (
        asrt ((0 : Int) ≤ i0 ∧ i0 < (list.length : Int)) <|
        asrt ((out_0.length : Int) + (([(list.getD (Int.toNat i0) default)] : List Int).length : Int) ≤ 2147483648) <|
        some (out_0 ++ ([(list.getD (Int.toNat i0) default)] : List Int)))
      else (
        some out_0)) : Option (List Int))).bind fun e => match e with
    | out_1 =>
      (some (.inl (out_1, (IntKind.i64.wrap (i0 + (1 : Int)))))))
  else (
    some (.inr out_0))

def M.spec_NotSampled (list : List Int) (sample : List Int) : Option (List Int × Bool) :=
  (M.spec_l12Good list).bind fun y0 =>
  ((bif (!y0) then some default else M.spec_l12Good sample)).bind fun y1 =>
  bif ((!y0) || (!y1)) then (
    some (([] : List Int), false))
  else (
    (iterO (M.spec_NotSampled_l0 list sample) (0 : Int)).bind fun e => match e with
    | .inl () =>
      ((iterO (M.spec_NotSampled_l1 list sample) (([] : List Int), (0 : Int))).bind fun e => match e with
      | out_ =>
        (some (out_, true)))
    | .inr r => some r)

def M.laws_FnSamples (code : List Int) : Option Bool :=
  (M.laws_vBig code).bind fun y0 =>
  bif y0 then (
    some true)
  else (
    (M.spec_DrawSampleOf code).bind fun y1 =>
    (M.impl_SampleOf y1.1 y1.2.1 y1.2.2).bind fun y2 =>
    (M.spec_SampleOf y1.1 y1.2.1 y1.2.2).bind fun y3 =>
    ((bif (!(y2.2 == y3.2)) then some default else M.laws_vInts y2.1 y3.1)).bind fun y4 =>
    ((bif ((!(y2.2 == y3.2)) || (!y4)) then some default else M.impl_IsPopulation y1.1)).bind fun y5 =>
    ((bif ((!(y2.2 == y3.2)) || (!y4)) then some default else M.spec_IsPopulation y1.1)).bind fun y6 =>
    bif (((!(y2.2 == y3.2)) || (!y4)) || (!(y5 == y6))) then (
      some false)
    else (
      (M.impl_OrderTaken y1.1 y1.2.1 y1.2.2).bind fun y7 =>
      (M.spec_OrderTaken y1.1 y1.2.1 y1.2.2).bind fun y8 =>
      ((bif ((!(y7.2 == y8.2)) || (!(y7.2 == y2.2))) then some default else M.laws_vInts y7.1 y8.1)).bind fun y9 =>
      bif (((!(y7.2 == y8.2)) || (!(y7.2 == y2.2))) || (!y9)) then (
        some false)
      else (
        (((
          bif y2.2 then (
            (M.impl_IsSampleOf y1.1 y2.1 y1.2.1 y1.2.2).bind fun y10 =>
            (M.impl_NotSampled y1.1 y2.1).bind fun y11 =>
            ((bif (((((!y10.2) || (!y10.1)) || (!y11.2)) || ((y2.1.length : Int) != y1.2.1)) || ((IntKind.i64.wrap ((y11.1.length : Int) + y1.2.1)) != (y1.1.length : Int))) then some default else M.laws_vWithin y7.1 y2.1)).bind fun y12 =>
            bif (((((((!y10.2) || (!y10.1)) || (!y11.2)) || ((y2.1.length : Int) != y1.2.1)) || ((IntKind.i64.wrap ((y11.1.length : Int) + y1.2.1)) != (y1.1.length : Int))) || (!y12)) || ((y7.1.length : Int) != y1.2.1)) then (
              some (.inr false))
            else (
              some (.inl ())))
          else (
            some (.inl ()))) : Option ((Unit) ⊕ (Bool)))).bind fun e => match e with
        | .inl () =>
          ((M.spec_DrawIsSampleOf code).bind fun y13 =>
          (M.impl_IsSampleOf y13.1 y13.2.1 y13.2.2.1 y13.2.2.2).bind fun y14 =>
          (M.spec_IsSampleOf y13.1 y13.2.1 y13.2.2.1 y13.2.2.2).bind fun y15 =>
          bif ((!(y14.1 == y15.1)) || (!(y14.2 == y15.2))) then (
            some false)
          else (
            (M.spec_DrawSeedFor code).bind fun y16 =>
            (M.impl_SeedFor y16.1 y16.2).bind fun y17 =>
            (M.spec_SeedFor y16.1 y16.2).bind fun y18 =>
            bif ((y17.1 != y18.1) || (!(y17.2 == y18.2))) then (
              some false)
            else (
              (((
                bif y17.2 then (
                  (M.impl_OrderTaken y16.1 (1 : Int) y17.1).bind fun y19 =>
                  asrt (((!y19.2) || ((y19.1.length : Int) != (1 : Int))) = false → ((0 : Int) ≤ (0 : Int) ∧ (0 : Int) < (y19.1.length : Int))) <|
                  bif (((!y19.2) || ((y19.1.length : Int) != (1 : Int))) || ((y19.1.getD (Int.toNat (0 : Int)) default) != y16.2)) then (
                    some (.inr false))
                  else (
                    some (.inl ())))
                else (
                  some (.inl ()))) : Option ((Unit) ⊕ (Bool)))).bind fun e => match e with
              | .inl () =>
                ((M.spec_DrawNotSampled code).bind fun y20 =>
                (M.impl_NotSampled y20.1 y20.2).bind fun y21 =>
                (M.spec_NotSampled y20.1 y20.2).bind fun y22 =>
                ((bif (y21.2 == y22.2) then M.laws_vInts y21.1 y22.1 else some default)).bind fun y23 =>
                some ((y21.2 == y22.2) && y23))
              | .inr r => some r)))
        | .inr r => some r)))
end Go.Proofs.Ythffmnpbonkpaaa
