/- models of the functions -/
import Derived.Test.YtfebeomnlkfgoaaDoorWp
set_option linter.unusedSimpArgs false
set_option linter.unusedVariables false
set_option maxRecDepth 100000
namespace Go.Proofs.YtfebeomnlkfgoaaDoor
open Go.VS

structure Cur where
  Code : List Int
  At : Int
  Seed : Int
  deriving Inhabited, DecidableEq

abbrev encCur (ρ : Nat) (c : Cur) : PV := .agg [.vl ρ 1 (List.map encU8 c.Code), .int .i64 c.At, .int .u64 c.Seed]

def M.laws_vBig (code : List Int) : Option Bool :=
  some (decide ((code.length : Int) > (65536 : Int)))

def M.spec_l1Cur_next (c : Cur) : Option (Int × Cur) :=
  (((
    bif (decide (c.At < (c.Code.length : Int))) then (
      asrt ((0 : Int) ≤ c.At ∧ c.At < (c.Code.length : Int)) <|
      some (IntKind.i64.wrap (c.Code.getD (Int.toNat c.At) default)))
    else (
      some (0 : Int))) : Option Int)).bind fun e => match e with
  | b_ =>
    (bif (decide ((IntKind.i64.wrap (c.At + (1 : Int))) ≤ (c.Code.length : Int))) then (
      some (b_, (⟨c.Code, (IntKind.i64.wrap (c.At + (1 : Int))), (IntKind.u64.wrap ((IntKind.u64.wrap ((IntKind.u64.wrap (c.Seed * (6364136223846793005 : Int))) + (IntKind.u64.wrap b_))) + (103535 : Int)))⟩ : Cur)))
    else (
      some ((IntKind.i64.wrap (IntKind.u64.wrap (BitVec.ofInt IntKind.u64.bits (Int.fdiv (IntKind.u64.wrap ((IntKind.u64.wrap ((IntKind.u64.wrap (c.Seed * (6364136223846793005 : Int))) + (IntKind.u64.wrap b_))) + (103535 : Int))) (2 ^ (min (Int.toNat (40 : Int)) IntKind.u64.bits))) &&& BitVec.ofInt IntKind.u64.bits (255 : Int)).toNat)), (⟨c.Code, (IntKind.i64.wrap (c.At + (1 : Int))), (IntKind.u64.wrap ((IntKind.u64.wrap ((IntKind.u64.wrap (c.Seed * (6364136223846793005 : Int))) + (IntKind.u64.wrap b_))) + (103535 : Int)))⟩ : Cur))))

def M.spec_l1Cur_pick (c : Cur) (n : Int) : Option (Int × Cur) :=
  bif (decide (n ≤ (1 : Int))) then (
    some ((0 : Int), c))
  else (
    (M.spec_l1Cur_next c).bind fun y0 =>
    (((
      bif (decide (n > (200 : Int))) then (
        (M.spec_l1Cur_next y0.2).bind fun y1 =>
        some ((IntKind.i64.wrap ((IntKind.i64.wrap (y0.1 * (256 : Int))) + y1.1)), y1.2))
      else (
        some (y0.1, y0.2))) : Option (Int × Cur))).bind fun e => match e with
    | (x, c_) =>
      (asrt (n ≠ 0) <|
      some ((Int.tmod x n), c_)))

def M.spec_l1Cur_of (c : Cur) (list : List (List UInt8)) : Option (List UInt8 × Cur) :=
  (M.spec_l1Cur_pick c (list.length : Int)).bind fun y0 =>
  asrt ((0 : Int) ≤ y0.1 ∧ y0.1 < (list.length : Int)) <|
  some ((list.getD (Int.toNat y0.1) default), y0.2)

def M.spec_l1Cur_any1 (c : Cur) : Option (List UInt8 × Cur) :=
  (M.spec_l1Cur_of c ([[], [97], [97, 44, 98], [115, 111, 109, 101, 32, 119, 111, 114, 100, 115], [120, 35, 121], [45, 49, 50], [0, 255], [44, 44], [48]] : List (List UInt8))).bind fun y0 =>
  some (y0.1, y0.2)

def M.spec_DrawSplitString (code : List Int) : Option (List UInt8 × List UInt8) :=
  (M.spec_l1Cur_any1 (⟨code, (0 : Int), (0 : Int)⟩ : Cur)).bind fun y0 =>
  (M.spec_l1Cur_of y0.2 ([[44], [44], [32], [], [44, 44]] : List (List UInt8))).bind fun y1 =>
  some (y0.1, y1.1)

def M.strings_Split (s sep : List UInt8) : Option (List (List UInt8)) := asrt (s.length < 4294967281 ∧ 1 ≤ sep.length) <| some ((Go.Lib.splitB ⟨sep.toArray⟩ 0 (Go.Lib.countB ⟨s.toArray⟩ ⟨sep.toArray⟩) ⟨s.toArray⟩).map fun t => t.data.toList)

def M.impl_SplitString (s : List UInt8) (sep : List UInt8) : Option (List (List UInt8) × Bool) :=
  bif ((decide ((s.length : Int) > (4000 : Int))) || ((sep.length : Int) != (1 : Int))) then (
    some (([] : List (List UInt8)), false))
  else (
    (M.strings_Split s sep).bind fun y0 =>
    some (y0, true))

def M.spec_l1Cur_one (c : Cur) (n : Int) : Option (Bool × Cur) :=
  (M.spec_l1Cur_pick c n).bind fun y0 =>
  some ((y0.1 == (0 : Int)), y0.2)

def M.spec_DrawJoinStrings_l0 (y0 : Int × Cur) : (List (List UInt8) × Int × Cur) → Option ((List (List UInt8) × Int × Cur) ⊕ (List (List UInt8) × Cur)) := fun st_ => match st_ with
| (l0, i, c_0) =>
  bif (decide (i < y0.1)) then (
    (M.spec_l1Cur_any1 c_0).bind fun y2 =>
    asrt ((l0.length : Int) + (([y2.1] : List (List UInt8)).length : Int) ≤ 2147483648) <|
    some (.inl ((l0 ++ ([y2.1] : List (List UInt8))), (IntKind.i64.wrap (i + (1 : Int))), y2.2)))
  else (
    some (.inr (l0, c_0)))

def M.spec_DrawJoinStrings (code : List Int) : Option (List (List UInt8) × List UInt8) :=
  (M.spec_l1Cur_pick (⟨code, (0 : Int), (0 : Int)⟩ : Cur) (4 : Int)).bind fun y0 =>
  (iterO (M.spec_DrawJoinStrings_l0 y0) (([] : List (List UInt8)), (0 : Int), y0.2)).bind fun e => match e with
  | (l, c_) =>
    ((((
      (M.spec_l1Cur_one c_ (20 : Int)).bind fun y3 =>
      bif y3.1 then (
        (M.spec_l1Cur_pick y3.2 (20 : Int)).bind fun y4 =>
        asrt ((0 : Int) ≤ (IntKind.i64.wrap ((3990 : Int) + y4.1)) ∧ (IntKind.i64.wrap ((3990 : Int) + y4.1)) ≤ (IntKind.i64.wrap ((3990 : Int) + y4.1)) ∧ (IntKind.i64.wrap ((3990 : Int) + y4.1)) ≤ 2147483648) <|
        asrt ((l.length : Int) + (([(toBytes (List.replicate (Int.toNat (IntKind.i64.wrap ((3990 : Int) + y4.1))) (0 : Int)))] : List (List UInt8)).length : Int) ≤ 2147483648) <|
        some ((l ++ ([(toBytes (List.replicate (Int.toNat (IntKind.i64.wrap ((3990 : Int) + y4.1))) (0 : Int)))] : List (List UInt8))), y4.2))
      else (
        some (l, y3.2))) : Option (List (List UInt8) × Cur))).bind fun e => match e with
    | (l1, c_1) =>
      ((M.spec_l1Cur_of c_1 ([[44], [59], [59], [], [97, 98]] : List (List UInt8))).bind fun y5 =>
      some (l1, y5.1)))

def M.strings_Contains (s sub : List UInt8) : Option Bool := asrt (sub.length = 1) <| some (decide (0 ≤ Go.Lib.indexByte s (sub.getD 0 0)))

def M.strings_Join (elems : List (List UInt8)) (sep : List UInt8) : Option (List UInt8) := asrt (elems.length ≤ 140737488355328 ∧ (Go.Lib.join elems sep).length ≤ 140737488355328) <| some (Go.Lib.join elems sep)

def M.impl_JoinStrings_l0 (parts : List (List UInt8)) (sep : List UInt8) : (Int × Int) → Option ((Int × Int) ⊕ ((Unit) ⊕ (List UInt8 × Bool))) := fun st_ => match st_ with
| (total, v) =>
  bif (decide (v < (parts.length : Int))) then (
    asrt ((0 : Int) ≤ v ∧ v < (parts.length : Int)) <|
    (M.strings_Contains (parts.getD (Int.toNat v) default) sep).bind fun y1 =>
    bif (y1 || (decide ((IntKind.i64.wrap (total + ((parts.getD (Int.toNat v) default).length : Int))) > (4000 : Int)))) then (
      some (.inr (.inr ([], false))))
    else (
      some (.inl ((IntKind.i64.wrap (total + ((parts.getD (Int.toNat v) default).length : Int))), (IntKind.i64.wrap (v + (1 : Int)))))))
  else (
    some (.inr (.inl ())))

def M.impl_JoinStrings (parts : List (List UInt8)) (sep : List UInt8) : Option (List UInt8 × Bool) :=
  bif (((parts.length : Int) == (0 : Int)) || ((sep.length : Int) != (1 : Int))) then (
    some ([], false))
  else (
    (iterO (M.impl_JoinStrings_l0 parts sep) ((IntKind.i64.wrap ((parts.length : Int) - (1 : Int))), (0 : Int))).bind fun e => match e with
    | .inl () =>
      ((M.strings_Join parts sep).bind fun y2 =>
      some (y2, true))
    | .inr r => some r)

def M.spec_l1Stands_l0 (s : List UInt8) (b_ : Int) : (Int) → Option ((Int) ⊕ ((Unit) ⊕ (Bool))) := fun st_ => match st_ with
| i =>
  bif (decide (i < (s.length : Int))) then (
    asrt ((0 : Int) ≤ i ∧ i < (s.length : Int)) <|
    bif (((s.getD (Int.toNat i) 0).toNat : Int) == b_) then (
      some (.inr (.inr true)))
    else (
      some (.inl (IntKind.i64.wrap (i + (1 : Int))))))
  else (
    some (.inr (.inl ())))

def M.spec_l1Stands (s : List UInt8) (b_ : Int) : Option Bool :=
  (iterO (M.spec_l1Stands_l0 s b_) (0 : Int)).bind fun e => match e with
  | .inl () =>
    (some false)
  | .inr r => some r

def M.spec_JoinStrings_l0 (l : List (List UInt8)) (sign : List UInt8) : (List UInt8 × Int) → Option ((List UInt8 × Int) ⊕ ((List UInt8) ⊕ (List UInt8 × Bool))) := fun st_ => match st_ with
| (out_0, i) =>
  bif (decide (i < (l.length : Int))) then (
    (((
      asrt ((0 : Int) ≤ i ∧ i < (l.length : Int)) <|
      asrt ((0 : Int) ≤ (0 : Int) ∧ (0 : Int) < (sign.length : Int)) <|
      (M.spec_l1Stands (l.getD (Int.toNat i) default) ((sign.getD (Int.toNat (0 : Int)) 0).toNat : Int)).bind fun y1 =>
      bif y1 then (
        some (.inr ([], false)))
      else (
        (((
          bif (decide (i > (0 : Int))) then (
            asrt (out_0.length + sign.length ≤ 9223372036854775807) <|
            some (out_0 ++ sign))
          else (
            some out_0)) : Option (List UInt8))).bind fun e => match e with
        | out_2 =>
          (asrt ((0 : Int) ≤ i ∧ i < (l.length : Int)) <|
          asrt (out_2.length + (l.getD (Int.toNat i) default).length ≤ 9223372036854775807) <|
          bif (decide (((out_2 ++ (l.getD (Int.toNat i) default)).length : Int) > (4000 : Int))) then (
            some (.inr ([], false)))
          else (
            some (.inl (out_2 ++ (l.getD (Int.toNat i) default))))))) : Option ((List UInt8) ⊕ (List UInt8 × Bool)))).bind fun e => match e with
    | .inl out_1 =>
      (some (.inl (out_1, (IntKind.i64.wrap (i + (1 : Int))))))
    | .inr r => some (.inr (.inr r)))
  else (
    some (.inr (.inl out_0)))

def M.spec_JoinStrings (l : List (List UInt8)) (sign : List UInt8) : Option (List UInt8 × Bool) :=
  bif (((sign.length : Int) != (1 : Int)) || ((l.length : Int) == (0 : Int))) then (
    some ([], false))
  else (
    (iterO (M.spec_JoinStrings_l0 l sign) ([], (0 : Int))).bind fun e => match e with
    | .inl out_ =>
      (some (out_, true))
    | .inr r => some r)

def M.spec_DrawLessString (code : List Int) : Option (List UInt8 × List UInt8) :=
  (M.spec_l1Cur_any1 (⟨code, (0 : Int), (0 : Int)⟩ : Cur)).bind fun y0 =>
  (M.spec_l1Cur_any1 y0.2).bind fun y1 =>
  some (y0.1, y1.1)

def M.impl_LessString (a : List UInt8) (b_ : List UInt8) : Option Bool :=
  some (Op.bytesLess a b_)

def M.spec_LessString (a : List UInt8) (b_ : List UInt8) : Option Bool :=
  some (Op.bytesLess a b_)

def M.laws_FnSplitJoin (code : List Int) : Option Bool :=
  (M.laws_vBig code).bind fun y0 =>
  bif y0 then (
    some true)
  else (
    (M.spec_DrawSplitString code).bind fun y1 =>
    (M.impl_SplitString y1.1 y1.2).bind fun y2 =>
    (M.spec_DrawJoinStrings code).bind fun y3 =>
    (M.impl_JoinStrings y3.1 y3.2).bind fun y4 =>
    (M.spec_JoinStrings y3.1 y3.2).bind fun y5 =>
    (M.spec_DrawLessString code).bind fun y6 =>
    ((bif ((!(y4.1 == y5.1)) || (!(y4.2 == y5.2))) then some default else M.impl_LessString y6.1 y6.2)).bind fun y7 =>
    ((bif ((!(y4.1 == y5.1)) || (!(y4.2 == y5.2))) then some default else M.spec_LessString y6.1 y6.2)).bind fun y8 =>
    ((bif (((!(y4.1 == y5.1)) || (!(y4.2 == y5.2))) || (!(y7 == y8))) then some default else M.impl_LessString y6.1 y6.2)).bind fun y9 =>
    ((bif (((!(y4.1 == y5.1)) || (!(y4.2 == y5.2))) || (!(y7 == y8))) then some default else (bif y9 then M.impl_LessString y6.2 y6.1 else some default))).bind fun y10 =>
    bif ((((!(y4.1 == y5.1)) || (!(y4.2 == y5.2))) || (!(y7 == y8))) || (y9 && y10)) then (
      some false)
    else (
      bif ((y1.2.length : Int) != (1 : Int)) then (
        some ((!y2.2) && ((y2.1.length : Int) == (0 : Int))))
      else (
        (M.impl_JoinStrings y2.1 y1.2).bind fun y11 =>
        some ((y2.2 && y11.2) && (y11.1 == y1.1)))))
end Go.Proofs.YtfebeomnlkfgoaaDoor
