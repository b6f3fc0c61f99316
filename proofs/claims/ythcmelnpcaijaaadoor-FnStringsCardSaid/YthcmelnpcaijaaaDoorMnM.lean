/- models of the functions -/
import Derived.Test.YthcmelnpcaijaaaDoorWu
set_option linter.unusedSimpArgs false
set_option linter.unusedVariables false
set_option maxRecDepth 100000
namespace Go.Proofs.YthcmelnpcaijaaaDoor
open Go.VS

structure Cur where
  Code : List Int
  At : Int
  Seed : Int
  deriving Inhabited, DecidableEq

abbrev encCur (ρ : Nat) (c : Cur) : PV := .agg [.vl ρ 1 (List.map encU8 c.Code), .int .i64 c.At, .int .u64 c.Seed]

def M.laws_vBig (code : List Int) : Option Bool :=
  some (decide ((code.length : Int) > (65536 : Int)))

def M.spec_l1Cur_next (c : Cur) : Option (Int × Cur) :=
  (((
    bif (decide (c.At < (c.Code.length : Int))) then (
      asrt ((0 : Int) ≤ c.At ∧ c.At < (c.Code.length : Int)) <|
      some (IntKind.i64.wrap (c.Code.getD (Int.toNat c.At) default)))
    else (
      some (0 : Int))) : Option Int)).bind fun e => match e with
  | b_ =>
    (bif (decide ((IntKind.i64.wrap (c.At + (1 : Int))) ≤ (c.Code.length : Int))) then (
      some (b_, (⟨c.Code, (IntKind.i64.wrap (c.At + (1 : Int))), (IntKind.u64.wrap ((IntKind.u64.wrap ((IntKind.u64.wrap (c.Seed * (6364136223846793005 : Int))) + (IntKind.u64.wrap b_))) + (103535 : Int)))⟩ : Cur)))
    else (
      some ((IntKind.i64.wrap (IntKind.u64.wrap (BitVec.ofInt IntKind.u64.bits (Int.fdiv (IntKind.u64.wrap ((IntKind.u64.wrap ((IntKind.u64.wrap (c.Seed * (6364136223846793005 : Int))) + (IntKind.u64.wrap b_))) + (103535 : Int))) (2 ^ (min (Int.toNat (40 : Int)) IntKind.u64.bits))) &&& BitVec.ofInt IntKind.u64.bits (255 : Int)).toNat)), (⟨c.Code, (IntKind.i64.wrap (c.At + (1 : Int))), (IntKind.u64.wrap ((IntKind.u64.wrap ((IntKind.u64.wrap (c.Seed * (6364136223846793005 : Int))) + (IntKind.u64.wrap b_))) + (103535 : Int)))⟩ : Cur))))

def M.spec_l1Cur_pick (c : Cur) (n : Int) : Option (Int × Cur) :=
  bif (decide (n ≤ (1 : Int))) then (
    some ((0 : Int), c))
  else (
    (M.spec_l1Cur_next c).bind fun y0 =>
    (((
      bif (decide (n > (200 : Int))) then (
        (M.spec_l1Cur_next y0.2).bind fun y1 =>
        some ((IntKind.i64.wrap ((IntKind.i64.wrap (y0.1 * (256 : Int))) + y1.1)), y1.2))
      else (
        some (y0.1, y0.2))) : Option (Int × Cur))).bind fun e => match e with
    | (x, c_) =>
      (asrt (n ≠ 0) <|
      some ((Int.tmod x n), c_)))

def M.spec_l1Cur_among (c : Cur) (list : List Int) : Option (Int × Cur) :=
  (M.spec_l1Cur_pick c (list.length : Int)).bind fun y0 =>
  asrt ((0 : Int) ≤ y0.1 ∧ y0.1 < (list.length : Int)) <|
  some ((list.getD (Int.toNat y0.1) default), y0.2)

def M.spec_DrawFormatInt (code : List Int) : Option Int :=
  (M.spec_l1Cur_pick (⟨code, (0 : Int), (0 : Int)⟩ : Cur) (1000 : Int)).bind fun y0 =>
  (M.spec_l1Cur_among y0.2 ([(0 : Int), (1 : Int), (-1 : Int), (10 : Int), (999999 : Int), (-999999 : Int), (1000000 : Int), (-1000000 : Int), (IntKind.i64.wrap (y0.1 - (500 : Int)))] : List Int)).bind fun y1 =>
  some y1.1

def M.impl_within (n : Int) (low : Int) (high : Int) : Option Bool :=
  some ((decide (low ≤ n)) && (decide (n ≤ high)))

def M.strconv_Itoa (n : Int) : Option (List UInt8) := asrt (-9223372036854775808 ≤ n ∧ n ≤ 9223372036854775807) <| some (Go.Lib.itoa n)

def M.impl_decimal (n : Int) : Option (List UInt8) :=
  (M.strconv_Itoa n).bind fun y0 =>
  some y0

def M.impl_FormatInt (n : Int) : Option (List UInt8 × Bool) :=
  (M.impl_within n (-999999 : Int) (999999 : Int)).bind fun y0 =>
  bif (!y0) then (
    some ([], false))
  else (
    (M.impl_decimal n).bind fun y1 =>
    some (y1, true))

def M.spec_l1In (x : Int) (a : Int) (b_ : Int) : Option Bool :=
  some ((decide (x ≥ a)) && (decide (x ≤ b_)))

def M.spec_l1Num_s (rec_ : Int → Option (List UInt8)) (n : Int) : Option (List UInt8) :=
  bif (decide (n < (0 : Int))) then (
    (rec_ (IntKind.i64.wrap (0 - n))).bind fun y0 =>
    asrt (([45]).length + y0.length ≤ 9223372036854775807) <|
    some (([45]) ++ y0))
  else (
    bif (decide (n < (10 : Int))) then (
      asrt ((0 : Int) ≤ n ∧ n ≤ (IntKind.i64.wrap (n + (1 : Int))) ∧ (IntKind.i64.wrap (n + (1 : Int))) ≤ (([48, 49, 50, 51, 52, 53, 54, 55, 56, 57] : List UInt8).length : Int)) <|
      some (slc ([48, 49, 50, 51, 52, 53, 54, 55, 56, 57] : List UInt8) n (IntKind.i64.wrap (n + (1 : Int)))))
    else (
      (rec_ (IntKind.i64.wrap (Int.tdiv n (10 : Int)))).bind fun y1 =>
      asrt ((0 : Int) ≤ (Int.tmod n (10 : Int)) ∧ (Int.tmod n (10 : Int)) ≤ (IntKind.i64.wrap ((Int.tmod n (10 : Int)) + (1 : Int))) ∧ (IntKind.i64.wrap ((Int.tmod n (10 : Int)) + (1 : Int))) ≤ (([48, 49, 50, 51, 52, 53, 54, 55, 56, 57] : List UInt8).length : Int)) <|
      asrt (y1.length + (slc ([48, 49, 50, 51, 52, 53, 54, 55, 56, 57] : List UInt8) (Int.tmod n (10 : Int)) (IntKind.i64.wrap ((Int.tmod n (10 : Int)) + (1 : Int)))).length ≤ 9223372036854775807) <|
      some (y1 ++ (slc ([48, 49, 50, 51, 52, 53, 54, 55, 56, 57] : List UInt8) (Int.tmod n (10 : Int)) (IntKind.i64.wrap ((Int.tmod n (10 : Int)) + (1 : Int)))))))

def M.spec_l1Num_r : Nat → Int → Option (List UInt8)
  | 0 => fun _ => none
  | k_ + 1 => M.spec_l1Num_s (M.spec_l1Num_r k_)

def M.spec_l1Num (n : Int) : Option (List UInt8) := M.spec_l1Num_r rounds n

def M.spec_FormatInt (n : Int) : Option (List UInt8 × Bool) :=
  (M.spec_l1In n (-999999 : Int) (999999 : Int)).bind fun y0 =>
  bif (!y0) then (
    some ([], false))
  else (
    (M.spec_l1Num n).bind fun y1 =>
    some (y1, true))

def M.spec_l1Cur_one (c : Cur) (n : Int) : Option (Bool × Cur) :=
  (M.spec_l1Cur_pick c n).bind fun y0 =>
  some ((y0.1 == (0 : Int)), y0.2)

def M.spec_l1Cur_of (c : Cur) (list : List (List UInt8)) : Option (List UInt8 × Cur) :=
  (M.spec_l1Cur_pick c (list.length : Int)).bind fun y0 =>
  asrt ((0 : Int) ≤ y0.1 ∧ y0.1 < (list.length : Int)) <|
  some ((list.getD (Int.toNat y0.1) default), y0.2)

def M.spec_DrawParseInt (code : List Int) : Option (List UInt8) :=
  (M.spec_l1Cur_one (⟨code, (0 : Int), (0 : Int)⟩ : Cur) (2 : Int)).bind fun y0 =>
  bif y0.1 then (
    (M.spec_l1Cur_of y0.2 ([[], [45], [45, 48], [48, 48], [48, 49], [45, 45, 49], [49, 120], [57, 57, 57, 57, 57, 57], [49, 48, 48, 48, 48, 48, 48], [45, 57, 57, 57, 57, 57, 57], [49, 56, 52, 52, 54, 55, 52, 52, 48, 55, 51, 55, 48, 57, 53, 53, 49, 54, 49, 55]] : List (List UInt8))).bind fun y1 =>
    some y1.1)
  else (
    (M.spec_l1Cur_pick y0.2 (2000 : Int)).bind fun y2 =>
    (M.spec_l1Num (IntKind.i64.wrap (y2.1 - (1000 : Int)))).bind fun y3 =>
    some y3)

def M.strconv_Atoi (s : List UInt8) : Option (Int × Bool) := asrt (s.length ≤ 281474976710656) <| some (atoiR s)

def M.impl_ParseInt (s : List UInt8) : Option (Int × Bool) :=
  (M.strconv_Atoi s).bind fun y0 =>
  ((bif y0.2 then some default else M.impl_within y0.1 (-999999 : Int) (999999 : Int))).bind fun y1 =>
  ((bif (y0.2 || (!y1)) then some default else M.impl_decimal y0.1)).bind fun y2 =>
  bif ((y0.2 || (!y1)) || (!(y2 == s))) then (
    some ((0 : Int), false))
  else (
    some (y0.1, true))

def M.spec_l1Read_l0 (t_ : List UInt8) : (Int × Int) → Option ((Int × Int) ⊕ ((Int) ⊕ (Int × Bool))) := fun st_ => match st_ with
| (n_0, i) =>
  bif (decide (i < (t_.length : Int))) then (
    asrt ((0 : Int) ≤ i ∧ i < (t_.length : Int)) <|
    asrt ((decide (((t_.getD (Int.toNat i) 0).toNat : Int) < (48 : Int))) = false → ((0 : Int) ≤ i ∧ i < (t_.length : Int))) <|
    bif ((decide (((t_.getD (Int.toNat i) 0).toNat : Int) < (48 : Int))) || (decide (((t_.getD (Int.toNat i) 0).toNat : Int) > (57 : Int)))) then (
      some (.inr (.inr ((0 : Int), false))))
    else (
      asrt ((0 : Int) ≤ i ∧ i < (t_.length : Int)) <|
      some (.inl ((IntKind.i64.wrap ((IntKind.i64.wrap ((10 : Int) * n_0)) + (IntKind.i64.wrap (IntKind.u8.wrap (((t_.getD (Int.toNat i) 0).toNat : Int) - (48 : Int)))))), (IntKind.i64.wrap (i + (1 : Int)))))))
  else (
    some (.inr (.inl n_0)))

def M.spec_l1Read (s : List UInt8) : Option (Int × Bool) :=
  (((
    asrt ((decide ((s.length : Int) > (1 : Int))) = true → ((0 : Int) ≤ (0 : Int) ∧ (0 : Int) < (s.length : Int))) <|
    bif ((decide ((s.length : Int) > (1 : Int))) && (((s.getD (Int.toNat (0 : Int)) 0).toNat : Int) == (45 : Int))) then (
      asrt ((0 : Int) ≤ (1 : Int) ∧ (1 : Int) ≤ (s.length : Int) ∧ (s.length : Int) ≤ (s.length : Int)) <|
      some (slc s (1 : Int) (s.length : Int)))
    else (
      some s)) : Option (List UInt8))).bind fun e => match e with
  | t_ =>
    ((M.spec_l1In (t_.length : Int) (1 : Int) (6 : Int)).bind fun y0 =>
    bif (!y0) then (
      some ((0 : Int), false))
    else (
      (iterO (M.spec_l1Read_l0 t_) ((0 : Int), (0 : Int))).bind fun e => match e with
      | .inl n_ =>
        ((((
          bif (decide ((t_.length : Int) < (s.length : Int))) then (
            some (IntKind.i64.wrap (0 - n_)))
          else (
            some n_)) : Option Int)).bind fun e => match e with
        | n_1 =>
          ((M.spec_l1Num n_1).bind fun y2 =>
          bif (!(y2 == s)) then (
            some ((0 : Int), false))
          else (
            some (n_1, true))))
      | .inr r => some r))

def M.spec_ParseInt (s : List UInt8) : Option (Int × Bool) :=
  (M.spec_l1Read s).bind fun y0 =>
  some (y0.1, y0.2)

def M.spec_l1Cur_any1 (c : Cur) : Option (List UInt8 × Cur) :=
  (M.spec_l1Cur_of c ([[], [97], [97, 44, 98], [115, 111, 109, 101, 32, 119, 111, 114, 100, 115], [120, 35, 121], [45, 49, 50], [0, 255], [44, 44], [48]] : List (List UInt8))).bind fun y0 =>
  some (y0.1, y0.2)

def M.spec_DrawAppendChecksum (code : List Int) : Option (List UInt8) :=
  (M.spec_l1Cur_one (⟨code, (0 : Int), (0 : Int)⟩ : Cur) (20 : Int)).bind fun y0 =>
  bif y0.1 then (
    (M.spec_l1Cur_pick y0.2 (10 : Int)).bind fun y1 =>
    asrt ((0 : Int) ≤ (IntKind.i64.wrap ((3990 : Int) + y1.1)) ∧ (IntKind.i64.wrap ((3990 : Int) + y1.1)) ≤ (IntKind.i64.wrap ((3990 : Int) + y1.1)) ∧ (IntKind.i64.wrap ((3990 : Int) + y1.1)) ≤ 2147483648) <|
    some (toBytes (List.replicate (Int.toNat (IntKind.i64.wrap ((3990 : Int) + y1.1))) (0 : Int))))
  else (
    (M.spec_l1Cur_any1 y0.2).bind fun y2 =>
    some y2.1)

def M.strings_Contains (s sub : List UInt8) : Option Bool := asrt (sub.length = 1) <| some (decide (0 ≤ Go.Lib.indexByte s (sub.getD 0 0)))

def M.impl_checksum_l0 (s : List UInt8) : (Int × Int) → Option ((Int × Int) ⊕ (Int)) := fun st_ => match st_ with
| (h_0, v) =>
  bif (decide (v < (s.length : Int))) then (
    asrt ((0 : Int) ≤ v ∧ v < (s.length : Int)) <|
    some (.inl ((Int.tmod (IntKind.i64.wrap ((IntKind.i64.wrap ((IntKind.i64.wrap ((41 : Int) * h_0)) + (IntKind.i64.wrap ((s.getD (Int.toNat v) 0).toNat : Int)))) + (1 : Int))) (999979 : Int)), (IntKind.i64.wrap (v + (1 : Int))))))
  else (
    some (.inr h_0))

def M.impl_checksum (s : List UInt8) : Option Int :=
  (iterO (M.impl_checksum_l0 s) ((7 : Int), (0 : Int))).bind fun e => match e with
  | h_ =>
    (some h_)

def M.impl_AppendChecksum (s : List UInt8) : Option (List UInt8 × Bool) :=
  ((bif (decide ((s.length : Int) > (4000 : Int))) then some default else M.strings_Contains s ([35]))).bind fun y0 =>
  bif ((decide ((s.length : Int) > (4000 : Int))) || y0) then (
    some ([], false))
  else (
    asrt (s.length + ([35]).length ≤ 9223372036854775807) <|
    (M.impl_checksum s).bind fun y1 =>
    (M.impl_decimal y1).bind fun y2 =>
    asrt ((s ++ ([35])).length + y2.length ≤ 9223372036854775807) <|
    bif (decide ((((s ++ ([35])) ++ y2).length : Int) > (4000 : Int))) then (
      some ([], false))
    else (
      some (((s ++ ([35])) ++ y2), true)))

def M.spec_l1Stands_l0 (s : List UInt8) (b_ : Int) : (Int) → Option ((Int) ⊕ ((Unit) ⊕ (Bool))) := fun st_ => match st_ with
| i =>
  bif (decide (i < (s.length : Int))) then (
    asrt ((0 : Int) ≤ i ∧ i < (s.length : Int)) <|
    bif (((s.getD (Int.toNat i) 0).toNat : Int) == b_) then (
      some (.inr (.inr true)))
    else (
      some (.inl (IntKind.i64.wrap (i + (1 : Int))))))
  else (
    some (.inr (.inl ())))

def M.spec_l1Stands (s : List UInt8) (b_ : Int) : Option Bool :=
  (iterO (M.spec_l1Stands_l0 s b_) (0 : Int)).bind fun e => match e with
  | .inl () =>
    (some false)
  | .inr r => some r

def M.spec_l1Sum_l0 (s : List UInt8) : (Int × Int) → Option ((Int × Int) ⊕ (Int)) := fun st_ => match st_ with
| (n_0, i) =>
  bif (decide (i < (s.length : Int))) then (
    asrt ((0 : Int) ≤ i ∧ i < (s.length : Int)) <|
    some (.inl ((Int.tmod (IntKind.i64.wrap ((IntKind.i64.wrap ((IntKind.i64.wrap ((41 : Int) * n_0)) + (IntKind.i64.wrap ((s.getD (Int.toNat i) 0).toNat : Int)))) + (1 : Int))) (999979 : Int)), (IntKind.i64.wrap (i + (1 : Int))))))
  else (
    some (.inr n_0))

def M.spec_l1Sum (s : List UInt8) : Option Int :=
  (iterO (M.spec_l1Sum_l0 s) ((7 : Int), (0 : Int))).bind fun e => match e with
  | n_ =>
    (some n_)

def M.spec_l1Seal (s : List UInt8) : Option (List UInt8) :=
  asrt (s.length + ([35]).length ≤ 9223372036854775807) <|
  (M.spec_l1Sum s).bind fun y0 =>
  (M.spec_l1Num y0).bind fun y1 =>
  asrt ((s ++ ([35])).length + y1.length ≤ 9223372036854775807) <|
  some ((s ++ ([35])) ++ y1)

def M.spec_AppendChecksum (s : List UInt8) : Option (List UInt8 × Bool) :=
  ((bif (decide ((s.length : Int) > (4000 : Int))) then some default else M.spec_l1Stands s (35 : Int))).bind fun y0 =>
  ((bif ((decide ((s.length : Int) > (4000 : Int))) || y0) then some default else M.spec_l1Seal s)).bind fun y1 =>
  bif (((decide ((s.length : Int) > (4000 : Int))) || y0) || (decide ((y1.length : Int) > (4000 : Int)))) then (
    some ([], false))
  else (
    (M.spec_l1Seal s).bind fun y2 =>
    some (y2, true))

def M.strings_Cut (s sep : List UInt8) : Option (List UInt8 × List UInt8 × Bool) := asrt (s.length < 4294967281) <| some (Go.Lib.cut s sep)

def M.impl_VerifyChecksum (s : List UInt8) : Option (List UInt8 × Bool) :=
  (M.strings_Cut s ([35])).bind fun y0 =>
  (M.impl_AppendChecksum y0.1).bind fun y1 =>
  bif ((!y1.2) || (!(y1.1 == s))) then (
    some ([], false))
  else (
    some (y0.1, true))

def M.laws_vAt (code : List Int) (i : Int) : Option Int :=
  bif (decide (i < (code.length : Int))) then (
    asrt ((0 : Int) ≤ i ∧ i < (code.length : Int)) <|
    some (IntKind.i64.wrap (code.getD (Int.toNat i) default)))
  else (
    some (Int.tmod (IntKind.i64.wrap ((IntKind.i64.wrap (i * (7 : Int))) + (code.length : Int))) (256 : Int)))

def M.laws_FnStrings (code : List Int) : Option Bool :=
  (M.laws_vBig code).bind fun y0 =>
  bif y0 then (
    some true)
  else (
    (M.spec_DrawFormatInt code).bind fun y1 =>
    (M.impl_FormatInt y1).bind fun y2 =>
    (M.spec_FormatInt y1).bind fun y3 =>
    (M.spec_DrawParseInt code).bind fun y4 =>
    (M.impl_ParseInt y4).bind fun y5 =>
    (M.spec_ParseInt y4).bind fun y6 =>
    (M.spec_DrawAppendChecksum code).bind fun y7 =>
    (M.impl_AppendChecksum y7).bind fun y8 =>
    (M.spec_AppendChecksum y7).bind fun y9 =>
    bif ((((((!(y2.1 == y3.1)) || (!(y2.2 == y3.2))) || (y5.1 != y6.1)) || (!(y5.2 == y6.2))) || (!(y8.1 == y9.1))) || (!(y8.2 == y9.2))) then (
      some false)
    else (
      (M.impl_ParseInt y2.1).bind fun y10 =>
      bif (y2.2 && ((!y10.2) || (y10.1 != y1))) then (
        some false)
      else (
        bif (!y8.2) then (
          some (y8.1 == ([])))
        else (
          (M.impl_VerifyChecksum y8.1).bind fun y11 =>
          (M.laws_vAt code (9 : Int)).bind fun y12 =>
          asrt (((bytesI y8.1).length : Int) ≠ 0) <|
          asrt ((0 : Int) ≤ (Int.tmod y12 ((bytesI y8.1).length : Int)) ∧ (Int.tmod y12 ((bytesI y8.1).length : Int)) < ((bytesI y8.1).length : Int)) <|
          (M.laws_vAt code (10 : Int)).bind fun y13 =>
          asrt ((0 : Int) ≤ (Int.tmod y12 ((bytesI y8.1).length : Int)) ∧ (Int.tmod y12 ((bytesI y8.1).length : Int)) < ((bytesI y8.1).length : Int)) <|
          (M.impl_VerifyChecksum (toBytes ((bytesI y8.1).set (Int.toNat (Int.tmod y12 ((bytesI y8.1).length : Int))) (IntKind.u8.wrap (BitVec.ofInt IntKind.u8.bits ((bytesI y8.1).getD (Int.toNat (Int.tmod y12 ((bytesI y8.1).length : Int))) default) ^^^ BitVec.ofInt IntKind.u8.bits (IntKind.u8.wrap (IntKind.i64.wrap ((1 : Int) + (Int.tmod y13 (255 : Int)))))).toNat)))).bind fun y14 =>
          some ((y11.2 && (y11.1 == y7)) && (!y14.2))))))
end Go.Proofs.YthcmelnpcaijaaaDoor
