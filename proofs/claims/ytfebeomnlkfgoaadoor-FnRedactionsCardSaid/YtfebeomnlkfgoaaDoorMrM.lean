/- models of the functions -/
import Derived.Test.YtfebeomnlkfgoaaDoorWn
set_option linter.unusedSimpArgs false
set_option linter.unusedVariables false
set_option maxRecDepth 100000
namespace Go.Proofs.YtfebeomnlkfgoaaDoor
open Go.VS

structure Cur where
  Code : List Int
  At : Int
  Seed : Int
  deriving Inhabited, DecidableEq

abbrev encCur (ρ : Nat) (c : Cur) : PV := .agg [.vl ρ 1 (List.map encU8 c.Code), .int .i64 c.At, .int .u64 c.Seed]

structure Span where
  From : Int
  To : Int
  Reason : Int
  deriving Inhabited, DecidableEq

abbrev encSpan (c : Span) : PV := .agg [.int .i64 c.From, .int .i64 c.To, .int .i64 c.Reason]

def M.laws_vBig (code : List Int) : Option Bool :=
  some (decide ((code.length : Int) > (65536 : Int)))

def M.spec_l1Cur_next (c : Cur) : Option (Int × Cur) :=
  (((
    bif (decide (c.At < (c.Code.length : Int))) then (
      asrt ((0 : Int) ≤ c.At ∧ c.At < (c.Code.length : Int)) <|
      some (IntKind.i64.wrap (c.Code.getD (Int.toNat c.At) default)))
    else (
      some (0 : Int))) : Option Int)).bind fun e => match e with
  | b_ =>
    (bif (decide ((IntKind.i64.wrap (c.At + (1 : Int))) ≤ (c.Code.length : Int))) then (
      some (b_, (⟨c.Code, (IntKind.i64.wrap (c.At + (1 : Int))), (IntKind.u64.wrap ((IntKind.u64.wrap ((IntKind.u64.wrap (c.Seed * (6364136223846793005 : Int))) + (IntKind.u64.wrap b_))) + (103535 : Int)))⟩ : Cur)))
    else (
      some ((IntKind.i64.wrap (IntKind.u64.wrap (BitVec.ofInt IntKind.u64.bits (Int.fdiv (IntKind.u64.wrap ((IntKind.u64.wrap ((IntKind.u64.wrap (c.Seed * (6364136223846793005 : Int))) + (IntKind.u64.wrap b_))) + (103535 : Int))) (2 ^ (min (Int.toNat (40 : Int)) IntKind.u64.bits))) &&& BitVec.ofInt IntKind.u64.bits (255 : Int)).toNat)), (⟨c.Code, (IntKind.i64.wrap (c.At + (1 : Int))), (IntKind.u64.wrap ((IntKind.u64.wrap ((IntKind.u64.wrap (c.Seed * (6364136223846793005 : Int))) + (IntKind.u64.wrap b_))) + (103535 : Int)))⟩ : Cur))))

def M.spec_l1Cur_pick (c : Cur) (n : Int) : Option (Int × Cur) :=
  bif (decide (n ≤ (1 : Int))) then (
    some ((0 : Int), c))
  else (
    (M.spec_l1Cur_next c).bind fun y0 =>
    (((
      bif (decide (n > (200 : Int))) then (
        (M.spec_l1Cur_next y0.2).bind fun y1 =>
        some ((IntKind.i64.wrap ((IntKind.i64.wrap (y0.1 * (256 : Int))) + y1.1)), y1.2))
      else (
        some (y0.1, y0.2))) : Option (Int × Cur))).bind fun e => match e with
    | (x, c_) =>
      (asrt (n ≠ 0) <|
      some ((Int.tmod x n), c_)))

def M.spec_l1Cur_of (c : Cur) (list : List (List UInt8)) : Option (List UInt8 × Cur) :=
  (M.spec_l1Cur_pick c (list.length : Int)).bind fun y0 =>
  asrt ((0 : Int) ≤ y0.1 ∧ y0.1 < (list.length : Int)) <|
  some ((list.getD (Int.toNat y0.1) default), y0.2)

def M.spec_l1Cur_text_l0 : (List UInt8 × Int × Cur) → Option ((List UInt8 × Int × Cur) ⊕ (List UInt8 × Cur)) := fun st_ => match st_ with
| (s0, n_, c_0) =>
  bif (decide (n_ > (0 : Int))) then (
    (((
      (M.spec_l1Cur_of c_0 ([[97, 110, 110, 97], [98, 111], [97, 110, 110, 97], [109, 101, 116], [97], [99, 111, 117, 114, 116], [97, 110, 110], [110, 111, 114, 116, 104], [], [116, 104, 101]] : List (List UInt8))).bind fun y2 =>
      asrt (s0.length + y2.1.length ≤ 9223372036854775807) <|
      bif (decide (n_ > (1 : Int))) then (
        asrt ((s0 ++ y2.1).length + ([32]).length ≤ 9223372036854775807) <|
        some (((s0 ++ y2.1) ++ ([32])), y2.2))
      else (
        some ((s0 ++ y2.1), y2.2))) : Option (List UInt8 × Cur))).bind fun e => match e with
    | (s1, c_1) =>
      (some (.inl (s1, (IntKind.i64.wrap (n_ - (1 : Int))), c_1))))
  else (
    some (.inr (s0, c_0)))

def M.spec_l1Cur_text_l1 : (List UInt8 × Cur) → Option ((List UInt8 × Cur) ⊕ (List UInt8 × Cur)) := fun st_ => match st_ with
| (s4, c_4) =>
  (M.spec_l1Cur_pick c_4 (2 : Int)).bind fun y6 =>
  bif (decide ((s4.length : Int) < (IntKind.i64.wrap ((100 : Int) + y6.1)))) then (
    asrt (s4.length + ([120]).length ≤ 9223372036854775807) <|
    some (.inl ((s4 ++ ([120])), y6.2)))
  else (
    some (.inr (s4, y6.2)))

def M.spec_l1Cur_text (c : Cur) : Option (List UInt8 × Cur) :=
  (M.spec_l1Cur_pick c (9 : Int)).bind fun y0 =>
  (iterO (M.spec_l1Cur_text_l0) ([], y0.1, y0.2)).bind fun e => match e with
  | (s, c_) =>
    ((M.spec_l1Cur_pick c_ (40 : Int)).bind fun y3 =>
    (((
      bif (y3.1 == (0 : Int)) then (
        (M.spec_l1Cur_of y3.2 ([[65], [49], [46], [91]] : List (List UInt8))).bind fun y4 =>
        asrt (s.length + y4.1.length ≤ 9223372036854775807) <|
        some ((s ++ y4.1), y4.2))
      else (
        bif (y3.1 == (1 : Int)) then (
          (iterO (M.spec_l1Cur_text_l1) (s, y3.2)).bind fun e => match e with
          | (s3, c_3) =>
            (some (s3, c_3)))
        else (
          some (s, y3.2)))) : Option (List UInt8 × Cur))).bind fun e => match e with
    | (s2, c_2) =>
      (some (s2, c_2)))

def M.spec_l1Cur_among (c : Cur) (list : List Int) : Option (Int × Cur) :=
  (M.spec_l1Cur_pick c (list.length : Int)).bind fun y0 =>
  asrt ((0 : Int) ≤ y0.1 ∧ y0.1 < (list.length : Int)) <|
  some ((list.getD (Int.toNat y0.1) default), y0.2)

def M.spec_l1Least (a : Int) (b_ : Int) : Option Int :=
  bif (decide (a < b_)) then (
    some a)
  else (
    some b_)

def M.spec_l1Cur_spans_l0 (text : List UInt8) : (List Span × Int × Int × Cur) → Option ((List Span × Int × Int × Cur) ⊕ (List Span × Int × Cur)) := fun st_ => match st_ with
| (out_0, at_0, n_, c_0) =>
  bif ((decide (n_ > (0 : Int))) && (decide (at_0 < (text.length : Int)))) then (
    (M.spec_l1Cur_among c_0 ([(0 : Int), (0 : Int), (2 : Int), (5 : Int), (9 : Int)] : List Int)).bind fun y2 =>
    (M.spec_l1Least (IntKind.i64.wrap ((text.length : Int) - (1 : Int))) (IntKind.i64.wrap (at_0 + y2.1))).bind fun y3 =>
    (M.spec_l1Cur_among y2.2 ([(1 : Int), (2 : Int), (4 : Int), (6 : Int)] : List Int)).bind fun y4 =>
    (M.spec_l1Least (text.length : Int) (IntKind.i64.wrap (y3 + y4.1))).bind fun y5 =>
    (M.spec_l1Cur_among y4.2 ([(1 : Int), (1 : Int), (2 : Int), (9 : Int)] : List Int)).bind fun y6 =>
    asrt ((out_0.length : Int) + (([(⟨y3, y5, y6.1⟩ : Span)] : List Span).length : Int) ≤ 2147483648) <|
    some (.inl ((out_0 ++ ([(⟨y3, y5, y6.1⟩ : Span)] : List Span)), y5, (IntKind.i64.wrap (n_ - (1 : Int))), y6.2)))
  else (
    some (.inr (out_0, at_0, c_0)))

def M.spec_l1Cur_spans_l1 : (List Span × Cur) → Option ((List Span × Cur) ⊕ (List Span × Cur)) := fun st_ => match st_ with
| (out_3, c_3) =>
  (M.spec_l1Cur_pick c_3 (2 : Int)).bind fun y12 =>
  bif (decide ((out_3.length : Int) < (IntKind.i64.wrap ((8 : Int) + y12.1)))) then (
    asrt ((out_3.length : Int) + (([(⟨(out_3.length : Int), (IntKind.i64.wrap ((out_3.length : Int) + (1 : Int))), (1 : Int)⟩ : Span)] : List Span).length : Int) ≤ 2147483648) <|
    some (.inl ((out_3 ++ ([(⟨(out_3.length : Int), (IntKind.i64.wrap ((out_3.length : Int) + (1 : Int))), (1 : Int)⟩ : Span)] : List Span)), y12.2)))
  else (
    some (.inr (out_3, y12.2)))

def M.spec_l1Cur_spans (c : Cur) (text : List UInt8) : Option (List Span × Cur) :=
  (M.spec_l1Cur_pick c (5 : Int)).bind fun y0 =>
  (iterO (M.spec_l1Cur_spans_l0 text) (([] : List Span), (0 : Int), y0.1, y0.2)).bind fun e => match e with
  | (out_, at_, c_) =>
    ((M.spec_l1Cur_pick c_ (40 : Int)).bind fun y7 =>
    (((
      bif (y7.1 == (0 : Int)) then (
        (M.spec_l1Cur_among y7.2 ([(-1 : Int), (0 : Int), at_] : List Int)).bind fun y8 =>
        (M.spec_l1Cur_among y8.2 ([(0 : Int), (1 : Int), (IntKind.i64.wrap (at_ + (1 : Int))), (101 : Int)] : List Int)).bind fun y9 =>
        (M.spec_l1Cur_among y9.2 ([(0 : Int), (1 : Int), (10 : Int)] : List Int)).bind fun y10 =>
        asrt ((out_.length : Int) + (([(⟨y8.1, y9.1, y10.1⟩ : Span)] : List Span).length : Int) ≤ 2147483648) <|
        some ((out_ ++ ([(⟨y8.1, y9.1, y10.1⟩ : Span)] : List Span)), y10.2))
      else (
        bif (y7.1 == (1 : Int)) then (
          (iterO (M.spec_l1Cur_spans_l1) (([] : List Span), y7.2)).bind fun e => match e with
          | (out_2, c_2) =>
            (some (out_2, c_2)))
        else (
          some (out_, y7.2)))) : Option (List Span × Cur))).bind fun e => match e with
    | (out_1, c_1) =>
      (some (out_1, c_1)))

def M.spec_DrawAreSpans (code : List Int) : Option (List UInt8 × List Span) :=
  (M.spec_l1Cur_text (⟨code, (0 : Int), (0 : Int)⟩ : Cur)).bind fun y0 =>
  (M.spec_l1Cur_spans y0.2 y0.1).bind fun y1 =>
  some (y0.1, y1.1)

def M.spec_DrawRedacted (code : List Int) : Option (List UInt8 × List Span) :=
  (M.spec_DrawAreSpans code).bind fun y0 =>
  some (y0.1, y0.2)

def M.strings_Trim (s cutset : List UInt8) : Option (List UInt8) := asrt (s.length ≤ 9223372036854775807 ∧ cutset.length < 4294967281 ∧ cutset.all (fun b => decide (b.toNat < 128)) = true) <| some (Go.Lib.trimS s cutset)

def M.impl_IsText (text : List UInt8) : Option Bool :=
  ((bif (decide ((text.length : Int) ≤ (100 : Int))) then M.strings_Trim text ([32, 97, 98, 99, 100, 101, 102, 103, 104, 105, 106, 107, 108, 109, 110, 111, 112, 113, 114, 115, 116, 117, 118, 119, 120, 121, 122]) else some default)).bind fun y0 =>
  some ((decide ((text.length : Int) ≤ (100 : Int))) && (y0 == ([])))

def M.impl_within (n : Int) (low : Int) (high : Int) : Option Bool :=
  some ((decide (low ≤ n)) && (decide (n ≤ high)))

def M.impl_isReason (reason : Int) : Option Bool :=
  (M.impl_within reason (1 : Int) (9 : Int)).bind fun y0 =>
  some y0

def M.impl_AreSpans_l0 (text : List UInt8) (spans : List Span) : (Int × Int) → Option ((Int × Int) ⊕ ((Unit) ⊕ (Bool))) := fun st_ => match st_ with
| (before, v) =>
  bif (decide (v < (spans.length : Int))) then (
    asrt ((0 : Int) ≤ v ∧ v < (spans.length : Int)) <|
    ((bif (((decide (((spans.getD (Int.toNat v) default).From) < before)) || (decide (((spans.getD (Int.toNat v) default).From) ≥ ((spans.getD (Int.toNat v) default).To)))) || (decide (((spans.getD (Int.toNat v) default).To) > (text.length : Int)))) then some default else M.impl_isReason ((spans.getD (Int.toNat v) default).Reason))).bind fun y2 =>
    bif ((((decide (((spans.getD (Int.toNat v) default).From) < before)) || (decide (((spans.getD (Int.toNat v) default).From) ≥ ((spans.getD (Int.toNat v) default).To)))) || (decide (((spans.getD (Int.toNat v) default).To) > (text.length : Int)))) || (!y2)) then (
      some (.inr (.inr false)))
    else (
      some (.inl ((spans.getD (Int.toNat v) default).To, (IntKind.i64.wrap (v + (1 : Int)))))))
  else (
    some (.inr (.inl ())))

def M.impl_AreSpans (text : List UInt8) (spans : List Span) : Option Bool :=
  (M.impl_IsText text).bind fun y0 =>
  bif ((!y0) || (decide ((spans.length : Int) > (8 : Int)))) then (
    some false)
  else (
    (iterO (M.impl_AreSpans_l0 text spans) ((0 : Int), (0 : Int))).bind fun e => match e with
    | .inl () =>
      (some true)
    | .inr r => some r)

def M.strconv_Itoa (n : Int) : Option (List UInt8) := asrt (-9223372036854775808 ≤ n ∧ n ≤ 9223372036854775807) <| some (Go.Lib.itoa n)

def M.impl_decimal (n : Int) : Option (List UInt8) :=
  (M.strconv_Itoa n).bind fun y0 =>
  some y0

def M.impl_Redacted_l0 (text : List UInt8) (spans : List Span) : (List UInt8 × Int × Int) → Option ((List UInt8 × Int × Int) ⊕ (List UInt8 × Int)) := fun st_ => match st_ with
| (out_0, at_0, v) =>
  bif (decide (v < (spans.length : Int))) then (
    asrt ((0 : Int) ≤ v ∧ v < (spans.length : Int)) <|
    asrt ((0 : Int) ≤ at_0 ∧ at_0 ≤ ((spans.getD (Int.toNat v) default).From) ∧ ((spans.getD (Int.toNat v) default).From) ≤ (text.length : Int)) <|
    asrt ((slc text at_0 ((spans.getD (Int.toNat v) default).From)).length + ([91]).length ≤ 9223372036854775807) <|
    (M.impl_decimal ((spans.getD (Int.toNat v) default).Reason)).bind fun y2 =>
    asrt (((slc text at_0 ((spans.getD (Int.toNat v) default).From)) ++ ([91])).length + y2.length ≤ 9223372036854775807) <|
    asrt ((((slc text at_0 ((spans.getD (Int.toNat v) default).From)) ++ ([91])) ++ y2).length + ([93]).length ≤ 9223372036854775807) <|
    asrt (out_0.length + ((((slc text at_0 ((spans.getD (Int.toNat v) default).From)) ++ ([91])) ++ y2) ++ ([93])).length ≤ 9223372036854775807) <|
    some (.inl ((out_0 ++ ((((slc text at_0 ((spans.getD (Int.toNat v) default).From)) ++ ([91])) ++ y2) ++ ([93]))), (spans.getD (Int.toNat v) default).To, (IntKind.i64.wrap (v + (1 : Int))))))
  else (
    some (.inr (out_0, at_0)))

def M.impl_Redacted (text : List UInt8) (spans : List Span) : Option (List UInt8 × Bool) :=
  (M.impl_AreSpans text spans).bind fun y0 =>
  bif (!y0) then (
    some ([], false))
  else (
    (iterO (M.impl_Redacted_l0 text spans) ([], (0 : Int), (0 : Int))).bind fun e => match e with
    | (out_, at_) =>
      (asrt ((0 : Int) ≤ at_ ∧ at_ ≤ (text.length : Int) ∧ (text.length : Int) ≤ (text.length : Int)) <|
      asrt (out_.length + (slc text at_ (text.length : Int)).length ≤ 9223372036854775807) <|
      some ((out_ ++ (slc text at_ (text.length : Int))), true)))

def M.spec_l1In (x : Int) (a : Int) (b_ : Int) : Option Bool :=
  some ((decide (x ≥ a)) && (decide (x ≤ b_)))

def M.spec_l15Letter (b_ : Int) : Option Bool :=
  some ((decide (b_ ≥ (97 : Int))) && (decide (b_ ≤ (122 : Int))))

def M.spec_l15Text_l0 (text : List UInt8) : (Int) → Option ((Int) ⊕ ((Unit) ⊕ (Bool))) := fun st_ => match st_ with
| i =>
  bif (decide (i < (text.length : Int))) then (
    asrt ((0 : Int) ≤ i ∧ i < (text.length : Int)) <|
    (M.spec_l15Letter ((text.getD (Int.toNat i) 0).toNat : Int)).bind fun y1 =>
    asrt ((!y1) = true → ((0 : Int) ≤ i ∧ i < (text.length : Int))) <|
    bif ((!y1) && (((text.getD (Int.toNat i) 0).toNat : Int) != (32 : Int))) then (
      some (.inr (.inr false)))
    else (
      some (.inl (IntKind.i64.wrap (i + (1 : Int))))))
  else (
    some (.inr (.inl ())))

def M.spec_l15Text (text : List UInt8) : Option Bool :=
  (iterO (M.spec_l15Text_l0 text) (0 : Int)).bind fun e => match e with
  | .inl () =>
    (some (decide ((text.length : Int) ≤ (100 : Int))))
  | .inr r => some r

def M.spec_l15Good_l0 (text : List UInt8) (spans : List Span) : (Int) → Option ((Int) ⊕ ((Unit) ⊕ (Bool))) := fun st_ => match st_ with
| i =>
  bif (decide (i < (spans.length : Int))) then (
    asrt ((0 : Int) ≤ i ∧ i < (spans.length : Int)) <|
    (M.spec_l1In ((spans.getD (Int.toNat i) default).To) (1 : Int) (text.length : Int)).bind fun y1 =>
    ((bif (!y1) then some default else M.spec_l1In ((spans.getD (Int.toNat i) default).From) (0 : Int) (IntKind.i64.wrap (((spans.getD (Int.toNat i) default).To) - (1 : Int))))).bind fun y2 =>
    ((bif ((!y1) || (!y2)) then some default else M.spec_l1In ((spans.getD (Int.toNat i) default).Reason) (1 : Int) (9 : Int))).bind fun y3 =>
    asrt ((((!y1) || (!y2)) || (!y3)) = false → (decide (i > (0 : Int))) = true → ((0 : Int) ≤ (IntKind.i64.wrap (i - (1 : Int))) ∧ (IntKind.i64.wrap (i - (1 : Int))) < (spans.length : Int))) <|
    bif ((((!y1) || (!y2)) || (!y3)) || ((decide (i > (0 : Int))) && (decide (((spans.getD (Int.toNat (IntKind.i64.wrap (i - (1 : Int)))) default).To) > ((spans.getD (Int.toNat i) default).From))))) then (
      some (.inr (.inr false)))
    else (
      some (.inl (IntKind.i64.wrap (i + (1 : Int))))))
  else (
    some (.inr (.inl ())))

def M.spec_l15Good (text : List UInt8) (spans : List Span) : Option Bool :=
  (iterO (M.spec_l15Good_l0 text spans) (0 : Int)).bind fun e => match e with
  | .inl () =>
    ((M.spec_l15Text text).bind fun y4 =>
    some (y4 && (decide ((spans.length : Int) ≤ (8 : Int)))))
  | .inr r => some r

def M.spec_l1Num_s (rec_ : Int → Option (List UInt8)) (n : Int) : Option (List UInt8) :=
  bif (decide (n < (0 : Int))) then (
    (rec_ (IntKind.i64.wrap (0 - n))).bind fun y0 =>
    asrt (([45]).length + y0.length ≤ 9223372036854775807) <|
    some (([45]) ++ y0))
  else (
    bif (decide (n < (10 : Int))) then (
      asrt ((0 : Int) ≤ n ∧ n ≤ (IntKind.i64.wrap (n + (1 : Int))) ∧ (IntKind.i64.wrap (n + (1 : Int))) ≤ (([48, 49, 50, 51, 52, 53, 54, 55, 56, 57] : List UInt8).length : Int)) <|
      some (slc ([48, 49, 50, 51, 52, 53, 54, 55, 56, 57] : List UInt8) n (IntKind.i64.wrap (n + (1 : Int)))))
    else (
      (rec_ (IntKind.i64.wrap (Int.tdiv n (10 : Int)))).bind fun y1 =>
      asrt ((0 : Int) ≤ (Int.tmod n (10 : Int)) ∧ (Int.tmod n (10 : Int)) ≤ (IntKind.i64.wrap ((Int.tmod n (10 : Int)) + (1 : Int))) ∧ (IntKind.i64.wrap ((Int.tmod n (10 : Int)) + (1 : Int))) ≤ (([48, 49, 50, 51, 52, 53, 54, 55, 56, 57] : List UInt8).length : Int)) <|
      asrt (y1.length + (slc ([48, 49, 50, 51, 52, 53, 54, 55, 56, 57] : List UInt8) (Int.tmod n (10 : Int)) (IntKind.i64.wrap ((Int.tmod n (10 : Int)) + (1 : Int)))).length ≤ 9223372036854775807) <|
      some (y1 ++ (slc ([48, 49, 50, 51, 52, 53, 54, 55, 56, 57] : List UInt8) (Int.tmod n (10 : Int)) (IntKind.i64.wrap ((Int.tmod n (10 : Int)) + (1 : Int)))))))

def M.spec_l1Num_r : Nat → Int → Option (List UInt8)
  | 0 => fun _ => none
  | k_ + 1 => M.spec_l1Num_s (M.spec_l1Num_r k_)

def M.spec_l1Num (n : Int) : Option (List UInt8) := M.spec_l1Num_r rounds n

def M.spec_Redacted_l0 (text : List UInt8) (spans : List Span) : (List UInt8 × Int × Int) → Option ((List UInt8 × Int × Int) ⊕ (List UInt8 × Int)) := fun st_ => match st_ with
| (out_0, at_0, i) =>
  bif (decide (i < (spans.length : Int))) then (
    asrt ((0 : Int) ≤ i ∧ i < (spans.length : Int)) <|
    asrt ((0 : Int) ≤ at_0 ∧ at_0 ≤ ((spans.getD (Int.toNat i) default).From) ∧ ((spans.getD (Int.toNat i) default).From) ≤ (text.length : Int)) <|
    asrt (out_0.length + (slc text at_0 ((spans.getD (Int.toNat i) default).From)).length ≤ 9223372036854775807) <|
    asrt ((out_0 ++ (slc text at_0 ((spans.getD (Int.toNat i) default).From))).length + ([91]).length ≤ 9223372036854775807) <|
    asrt ((0 : Int) ≤ i ∧ i < (spans.length : Int)) <|
    (M.spec_l1Num ((spans.getD (Int.toNat i) default).Reason)).bind fun y2 =>
    asrt (((out_0 ++ (slc text at_0 ((spans.getD (Int.toNat i) default).From))) ++ ([91])).length + y2.length ≤ 9223372036854775807) <|
    asrt ((((out_0 ++ (slc text at_0 ((spans.getD (Int.toNat i) default).From))) ++ ([91])) ++ y2).length + ([93]).length ≤ 9223372036854775807) <|
    asrt ((0 : Int) ≤ i ∧ i < (spans.length : Int)) <|
    some (.inl (((((out_0 ++ (slc text at_0 ((spans.getD (Int.toNat i) default).From))) ++ ([91])) ++ y2) ++ ([93])), (spans.getD (Int.toNat i) default).To, (IntKind.i64.wrap (i + (1 : Int))))))
  else (
    some (.inr (out_0, at_0)))

def M.spec_Redacted (text : List UInt8) (spans : List Span) : Option (List UInt8 × Bool) :=
  (M.spec_l15Good text spans).bind fun y0 =>
  bif (!y0) then (
    some ([], false))
  else (
    (iterO (M.spec_Redacted_l0 text spans) ([], (0 : Int), (0 : Int))).bind fun e => match e with
    | (out_, at_) =>
      (asrt ((0 : Int) ≤ at_ ∧ at_ ≤ (text.length : Int) ∧ (text.length : Int) ≤ (text.length : Int)) <|
      asrt (out_.length + (slc text at_ (text.length : Int)).length ≤ 9223372036854775807) <|
      some ((out_ ++ (slc text at_ (text.length : Int))), true)))

def M.spec_AreSpans (text : List UInt8) (spans : List Span) : Option Bool :=
  (M.spec_l15Good text spans).bind fun y0 =>
  some y0

def M.impl_HiddenBytes_l0 (spans : List Span) : (Int × Int) → Option ((Int × Int) ⊕ (Int)) := fun st_ => match st_ with
| (sum_0, v) =>
  bif (decide (v < (spans.length : Int))) then (
    asrt ((0 : Int) ≤ v ∧ v < (spans.length : Int)) <|
    some (.inl ((IntKind.i64.wrap (sum_0 + (IntKind.i64.wrap (((spans.getD (Int.toNat v) default).To) - ((spans.getD (Int.toNat v) default).From))))), (IntKind.i64.wrap (v + (1 : Int))))))
  else (
    some (.inr sum_0))

def M.impl_HiddenBytes (text : List UInt8) (spans : List Span) : Option (Int × Bool) :=
  (M.impl_AreSpans text spans).bind fun y0 =>
  bif (!y0) then (
    some ((0 : Int), false))
  else (
    (iterO (M.impl_HiddenBytes_l0 spans) ((0 : Int), (0 : Int))).bind fun e => match e with
    | sum_ =>
      (some (sum_, true)))

def M.spec_HiddenBytes_l0 (spans : List Span) : (Int × Int) → Option ((Int × Int) ⊕ (Int)) := fun st_ => match st_ with
| (n_0, i) =>
  bif (decide (i < (spans.length : Int))) then (
    asrt ((0 : Int) ≤ i ∧ i < (spans.length : Int)) <|
    asrt ((0 : Int) ≤ i ∧ i < (spans.length : Int)) <|
    some (.inl ((IntKind.i64.wrap ((IntKind.i64.wrap (n_0 + ((spans.getD (Int.toNat i) default).To))) - ((spans.getD (Int.toNat i) default).From))), (IntKind.i64.wrap (i + (1 : Int))))))
  else (
    some (.inr n_0))

def M.spec_HiddenBytes (text : List UInt8) (spans : List Span) : Option (Int × Bool) :=
  (M.spec_l15Good text spans).bind fun y0 =>
  bif (!y0) then (
    some ((0 : Int), false))
  else (
    (iterO (M.spec_HiddenBytes_l0 spans) ((0 : Int), (0 : Int))).bind fun e => match e with
    | n_ =>
      (some (n_, true)))

def M.impl_ReasonCounts_l0 (spans : List Span) : (List Int × Int) → Option ((List Int × Int) ⊕ (List Int)) := fun st_ => match st_ with
| (counts0, v) =>
  bif (decide (v < (spans.length : Int))) then (
    asrt ((0 : Int) ≤ v ∧ v < (spans.length : Int)) <|
    asrt ((0 : Int) ≤ (IntKind.i64.wrap (((spans.getD (Int.toNat v) default).Reason) - (1 : Int))) ∧ (IntKind.i64.wrap (((spans.getD (Int.toNat v) default).Reason) - (1 : Int))) < (counts0.length : Int)) <|
    asrt ((0 : Int) ≤ (IntKind.i64.wrap (((spans.getD (Int.toNat v) default).Reason) - (1 : Int))) ∧ (IntKind.i64.wrap (((spans.getD (Int.toNat v) default).Reason) - (1 : Int))) < (counts0.length : Int)) <|
    some (.inl ((counts0.set (Int.toNat (IntKind.i64.wrap (((spans.getD (Int.toNat v) default).Reason) - (1 : Int)))) (IntKind.i64.wrap ((counts0.getD (Int.toNat (IntKind.i64.wrap (((spans.getD (Int.toNat v) default).Reason) - (1 : Int)))) default) + (1 : Int)))), (IntKind.i64.wrap (v + (1 : Int))))))
  else (
    some (.inr counts0))

def M.impl_ReasonCounts (text : List UInt8) (spans : List Span) : Option (List Int × Bool) :=
  (M.impl_AreSpans text spans).bind fun y0 =>
  bif (!y0) then (
    some (([] : List Int), false))
  else (
    asrt ((0 : Int) ≤ (9 : Int) ∧ (9 : Int) ≤ (9 : Int) ∧ (9 : Int) ≤ 2147483648) <|
    (iterO (M.impl_ReasonCounts_l0 spans) ((List.replicate (Int.toNat (9 : Int)) (0 : Int)), (0 : Int))).bind fun e => match e with
    | counts =>
      (some (counts, true)))

def M.laws_vSum_l0 (list : List Int) : (Int × Int) → Option ((Int × Int) ⊕ (Int)) := fun st_ => match st_ with
| (sum_0, i) =>
  bif (decide (i < (list.length : Int))) then (
    asrt ((0 : Int) ≤ i ∧ i < (list.length : Int)) <|
    some (.inl ((IntKind.i64.wrap (sum_0 + (list.getD (Int.toNat i) default))), (IntKind.i64.wrap (i + (1 : Int))))))
  else (
    some (.inr sum_0))

def M.laws_vSum (list : List Int) : Option Int :=
  (iterO (M.laws_vSum_l0 list) ((0 : Int), (0 : Int))).bind fun e => match e with
  | sum_ =>
    (some sum_)

def M.spec_DrawMergeSpans (code : List Int) : Option (List UInt8 × List Span) :=
  (M.spec_DrawAreSpans code).bind fun y0 =>
  some (y0.1, y0.2)

def M.impl_MergeSpans_l0 (spans : List Span) : (List Span × Int) → Option ((List Span × Int) ⊕ (List Span)) := fun st_ => match st_ with
| (out_0, v) =>
  bif (decide (v < (spans.length : Int))) then (
    (((
      asrt ((0 : Int) ≤ v ∧ v < (spans.length : Int)) <|
      asrt ((decide ((out_0.length : Int) > (0 : Int))) = true → ((0 : Int) ≤ (IntKind.i64.wrap ((out_0.length : Int) - (1 : Int))) ∧ (IntKind.i64.wrap ((out_0.length : Int) - (1 : Int))) < (out_0.length : Int))) <|
      asrt (((decide ((out_0.length : Int) > (0 : Int))) && (((out_0.getD (Int.toNat (IntKind.i64.wrap ((out_0.length : Int) - (1 : Int)))) default).To) == ((spans.getD (Int.toNat v) default).From))) = true → ((0 : Int) ≤ (IntKind.i64.wrap ((out_0.length : Int) - (1 : Int))) ∧ (IntKind.i64.wrap ((out_0.length : Int) - (1 : Int))) < (out_0.length : Int))) <|
      bif (((decide ((out_0.length : Int) > (0 : Int))) && (((out_0.getD (Int.toNat (IntKind.i64.wrap ((out_0.length : Int) - (1 : Int)))) default).To) == ((spans.getD (Int.toNat v) default).From))) && (((out_0.getD (Int.toNat (IntKind.i64.wrap ((out_0.length : Int) - (1 : Int)))) default).Reason) == ((spans.getD (Int.toNat v) default).Reason))) then (
        asrt ((0 : Int) ≤ (IntKind.i64.wrap ((out_0.length : Int) - (1 : Int))) ∧ (IntKind.i64.wrap ((out_0.length : Int) - (1 : Int))) < (out_0.length : Int)) <|
        some (out_0.set (Int.toNat (IntKind.i64.wrap ((out_0.length : Int) - (1 : Int)))) (⟨(out_0.getD (Int.toNat (IntKind.i64.wrap ((out_0.length : Int) - (1 : Int)))) default).From, (spans.getD (Int.toNat v) default).To, (out_0.getD (Int.toNat (IntKind.i64.wrap ((out_0.length : Int) - (1 : Int)))) default).Reason⟩ : Span)))
      else (
        asrt ((out_0.length : Int) + (([(spans.getD (Int.toNat v) default)] : List Span).length : Int) ≤ 2147483648) <|
        some (out_0 ++ ([(spans.getD (Int.toNat v) default)] : List Span)))) : Option (List Span))).bind fun e => match e with
    | out_1 =>
      (some (.inl (out_1, (IntKind.i64.wrap (v + (1 : Int)))))))
  else (
    some (.inr out_0))

def M.impl_MergeSpans (text : List UInt8) (spans : List Span) : Option (List Span × Bool) :=
  (M.impl_AreSpans text spans).bind fun y0 =>
  bif (!y0) then (
    some (([] : List Span), false))
  else (
    (iterO (M.impl_MergeSpans_l0 spans) (([] : List Span), (0 : Int))).bind fun e => match e with
    | out_ =>
      (some (out_, true)))

def M.spec_MergeSpans_l0 (spans : List Span) : (List Span × Int) → Option ((List Span × Int) ⊕ (List Span)) := fun st_ => match st_ with
| (out_0, i) =>
  bif (decide (i < (spans.length : Int))) then (
    (((
      asrt ((decide ((out_0.length : Int) > (0 : Int))) = true → ((0 : Int) ≤ (IntKind.i64.wrap ((out_0.length : Int) - (1 : Int))) ∧ (IntKind.i64.wrap ((out_0.length : Int) - (1 : Int))) < (out_0.length : Int))) <|
      asrt ((decide ((out_0.length : Int) > (0 : Int))) = true → ((0 : Int) ≤ i ∧ i < (spans.length : Int))) <|
      asrt (((decide ((out_0.length : Int) > (0 : Int))) && (((out_0.getD (Int.toNat (IntKind.i64.wrap ((out_0.length : Int) - (1 : Int)))) default).To) == ((spans.getD (Int.toNat i) default).From))) = true → ((0 : Int) ≤ (IntKind.i64.wrap ((out_0.length : Int) - (1 : Int))) ∧ (IntKind.i64.wrap ((out_0.length : Int) - (1 : Int))) < (out_0.length : Int))) <|
      asrt (((decide ((out_0.length : Int) > (0 : Int))) && (((out_0.getD (Int.toNat (IntKind.i64.wrap ((out_0.length : Int) - (1 : Int)))) default).To) == ((spans.getD (Int.toNat i) default).From))) = true → ((0 : Int) ≤ i ∧ i < (spans.length : Int))) <|
      bif (((decide ((out_0.length : Int) > (0 : Int))) && (((out_0.getD (Int.toNat (IntKind.i64.wrap ((out_0.length : Int) - (1 : Int)))) default).To) == ((spans.getD (Int.toNat i) default).From))) && (((out_0.getD (Int.toNat (IntKind.i64.wrap ((out_0.length : Int) - (1 : Int)))) default).Reason) == ((spans.getD (Int.toNat i) default).Reason))) then (
        asrt ((0 : Int) ≤ (IntKind.i64.wrap ((out_0.length : Int) - (1 : Int))) ∧ (IntKind.i64.wrap ((out_0.length : Int) - (1 : Int))) < (out_0.length : Int)) <|
        asrt ((0 : Int) ≤ i ∧ i < (spans.length : Int)) <|
        asrt ((0 : Int) ≤ i ∧ i < (spans.length : Int)) <|
        asrt ((0 : Int) ≤ (IntKind.i64.wrap ((out_0.length : Int) - (1 : Int))) ∧ (IntKind.i64.wrap ((out_0.length : Int) - (1 : Int))) < (out_0.length : Int)) <|
        some (out_0.set (Int.toNat (IntKind.i64.wrap ((out_0.length : Int) - (1 : Int)))) (⟨(out_0.getD (Int.toNat (IntKind.i64.wrap ((out_0.length : Int) - (1 : Int)))) default).From, (spans.getD (Int.toNat i) default).To, (spans.getD (Int.toNat i) default).Reason⟩ : Span)))
      else (
        asrt ((0 : Int) ≤ i ∧ i < (spans.length : Int)) <|
        asrt ((out_0.length : Int) + (([(spans.getD (Int.toNat i) default)] : List Span).length : Int) ≤ 2147483648) <|
        some (out_0 ++ ([(spans.getD (Int.toNat i) default)] : List Span)))) : Option (List Span))).bind fun e => match e with
    | out_1 =>
      (some (.inl (out_1, (IntKind.i64.wrap (i + (1 : Int)))))))
  else (
    some (.inr out_0))

def M.spec_MergeSpans (text : List UInt8) (spans : List Span) : Option (List Span × Bool) :=
  (M.spec_l15Good text spans).bind fun y0 =>
  bif (!y0) then (
    some (([] : List Span), false))
  else (
    (iterO (M.spec_MergeSpans_l0 spans) (([] : List Span), (0 : Int))).bind fun e => match e with
    | out_ =>
      (some (out_, true)))

def M.laws_vSpans_l0 (a : List Span) (b_ : List Span) : (Int) → Option ((Int) ⊕ ((Unit) ⊕ (Bool))) := fun st_ => match st_ with
| i =>
  bif (decide (i < (a.length : Int))) then (
    asrt ((0 : Int) ≤ i ∧ i < (a.length : Int)) <|
    asrt ((0 : Int) ≤ i ∧ i < (b_.length : Int)) <|
    bif (!((((a.getD (Int.toNat i) default).From) == ((b_.getD (Int.toNat i) default).From)) && ((((a.getD (Int.toNat i) default).To) == ((b_.getD (Int.toNat i) default).To)) && ((((a.getD (Int.toNat i) default).Reason) == ((b_.getD (Int.toNat i) default).Reason)) && true)))) then (
      some (.inr (.inr false)))
    else (
      some (.inl (IntKind.i64.wrap (i + (1 : Int))))))
  else (
    some (.inr (.inl ())))

def M.laws_vSpans (a : List Span) (b_ : List Span) : Option Bool :=
  bif ((a.length : Int) != (b_.length : Int)) then (
    some false)
  else (
    (iterO (M.laws_vSpans_l0 a b_) (0 : Int)).bind fun e => match e with
    | .inl () =>
      (some true)
    | .inr r => some r)

def M.spec_DrawWithoutReason (code : List Int) : Option (List UInt8 × List Span × Int) :=
  (M.spec_l1Cur_text (⟨code, (0 : Int), (0 : Int)⟩ : Cur)).bind fun y0 =>
  (M.spec_l1Cur_spans y0.2 y0.1).bind fun y1 =>
  (M.spec_l1Cur_among y1.2 ([(1 : Int), (1 : Int), (2 : Int), (9 : Int), (0 : Int), (10 : Int)] : List Int)).bind fun y2 =>
  some (y0.1, y1.1, y2.1)

def M.slices_Clone_impl_Span_impl_Span (s : List Span) : Option (List Span) := asrt ((s.length : Int) ≤ 2147483648) <| some s

def M.impl_WithoutReason_1 (s : Span) (reason : Int) : Option Bool :=
  some (s.Reason == reason)

def M.slices_IndexFunc_impl_Span_impl_Span_l0 (s : List Span) (fm : Span → Option Bool) : (Int) → Option ((Int) ⊕ ((Unit) ⊕ (Int))) := fun st_ => match st_ with
| v =>
  bif (decide (v < (s.length : Int))) then (
    asrt ((0 : Int) ≤ v ∧ v < (s.length : Int)) <|
    (fm (s.getD (Int.toNat v) default)).bind fun y1 =>
    bif y1 then (
      some (.inr (.inr v)))
    else (
      some (.inl (IntKind.i64.wrap (v + (1 : Int))))))
  else (
    some (.inr (.inl ())))

def M.slices_IndexFunc_impl_Span_impl_Span (s : List Span) (fm : Span → Option Bool) : Option Int :=
  (iterO (M.slices_IndexFunc_impl_Span_impl_Span_l0 s fm) (0 : Int)).bind fun e => match e with
  | .inl () =>
    (some (-1 : Int))
  | .inr r => some r

def M.slices_DeleteFunc_impl_Span_impl_Span_l0 (fm : Span → Option Bool) : (List Span × Int × Int) → Option ((List Span × Int × Int) ⊕ (List Span × Int)) := fun st_ => match st_ with
| (s1, i0, j_) =>
  bif (decide (j_ < (s1.length : Int))) then (
    (((
      asrt ((0 : Int) ≤ j_ ∧ j_ < (s1.length : Int)) <|
      (fm (s1.getD (Int.toNat j_) default)).bind fun y2 =>
      bif (!y2) then (
        asrt ((0 : Int) ≤ i0 ∧ i0 < (s1.length : Int)) <|
        some ((s1.set (Int.toNat i0) (s1.getD (Int.toNat j_) default)), (IntKind.i64.wrap (i0 + (1 : Int)))))
      else (
        some (s1, i0))) : Option (List Span × Int))).bind fun e => match e with
    | (s2, i1) =>
      (some (.inl (s2, i1, (IntKind.i64.wrap (j_ + (1 : Int)))))))
  else (
    some (.inr (s1, i0)))

def M.slices_DeleteFunc_impl_Span_impl_Span (s : List Span) (fm : Span → Option Bool) : Option (List Span) :=
  (M.slices_IndexFunc_impl_Span_impl_Span s fm).bind fun y0 =>
  bif (y0 == (-1 : Int)) then (
    some s)
  else (
    (iterO (M.slices_DeleteFunc_impl_Span_impl_Span_l0 fm) (s, y0, (IntKind.i64.wrap (y0 + (1 : Int))))).bind fun e => match e with
    | (s0, i) =>
      (asrt ((0 : Int) ≤ i ∧ i ≤ (((List.length s0) : Nat) : Int) ∧ (((List.length s0) : Nat) : Int) ≤ (((List.length s0) : Nat) : Int)) <|
      asrt ((0 + Int.toNat i) + (Int.toNat (((List.length s0) : Nat) : Int) - Int.toNat i) ≤ s0.length) <|
      asrt ((0 : Int) ≤ (0 : Int) ∧ (0 : Int) ≤ i ∧ i ≤ ((List.take (0 + Int.toNat i) s0 ++ List.replicate (Int.toNat (((List.length s0) : Nat) : Int) - Int.toNat i) (⟨(0 : Int), (0 : Int), (0 : Int)⟩ : Span) ++ List.drop ((0 + Int.toNat i) + (Int.toNat (((List.length s0) : Nat) : Int) - Int.toNat i)) s0).length : Int)) <|
      asrt ((Int.toNat i - Int.toNat (0 : Int)) ≤ (List.take (0 + Int.toNat i) s0 ++ List.replicate (Int.toNat (((List.length s0) : Nat) : Int) - Int.toNat i) (⟨(0 : Int), (0 : Int), (0 : Int)⟩ : Span) ++ List.drop ((0 + Int.toNat i) + (Int.toNat (((List.length s0) : Nat) : Int) - Int.toNat i)) s0).length) <|
      some (List.take (Int.toNat i - Int.toNat (0 : Int)) (List.take (0 + Int.toNat i) s0 ++ List.replicate (Int.toNat (((List.length s0) : Nat) : Int) - Int.toNat i) (⟨(0 : Int), (0 : Int), (0 : Int)⟩ : Span) ++ List.drop ((0 + Int.toNat i) + (Int.toNat (((List.length s0) : Nat) : Int) - Int.toNat i)) s0))))

def M.impl_WithoutReason (text : List UInt8) (spans : List Span) (reason : Int) : Option (List Span × Bool) :=
  (M.impl_AreSpans text spans).bind fun y0 =>
  ((bif (!y0) then some default else M.impl_isReason reason)).bind fun y1 =>
  bif ((!y0) || (!y1)) then (
    some (([] : List Span), false))
  else (
    (M.slices_Clone_impl_Span_impl_Span spans).bind fun y2 =>
    (M.slices_DeleteFunc_impl_Span_impl_Span y2 (fun x0 => M.impl_WithoutReason_1 x0 reason)).bind fun y3 =>
    some (y3, true))

def M.spec_WithoutReason_l0 (spans : List Span) (reason : Int) : (List Span × Int) → Option ((List Span × Int) ⊕ (List Span)) := fun st_ => match st_ with
| (out_0, i) =>
  bif (decide (i < (spans.length : Int))) then (
    (((
      asrt ((0 : Int) ≤ i ∧ i < (spans.length : Int)) <|
      bif (((spans.getD (Int.toNat i) default).Reason) != reason) then (
        asrt ((0 : Int) ≤ i ∧ i < (spans.length : Int)) <|
        asrt ((out_0.length : Int) + (([(spans.getD (Int.toNat i) default)] : List Span).length : Int) ≤ 2147483648) <|
        some (out_0 ++ ([(spans.getD (Int.toNat i) default)] : List Span)))
      else (
        some out_0)) : Option (List Span))).bind fun e => match e with
    | out_1 =>
      (some (.inl (out_1, (IntKind.i64.wrap (i + (1 : Int)))))))
  else (
    some (.inr out_0))

def M.spec_WithoutReason (text : List UInt8) (spans : List Span) (reason : Int) : Option (List Span × Bool) :=
  (M.spec_l15Good text spans).bind fun y0 =>
  ((bif (!y0) then some default else M.spec_l1In reason (1 : Int) (9 : Int))).bind fun y1 =>
  bif ((!y0) || (!y1)) then (
    some (([] : List Span), false))
  else (
    (iterO (M.spec_WithoutReason_l0 spans reason) (([] : List Span), (0 : Int))).bind fun e => match e with
    | out_ =>
      (some (out_, true)))

def M.spec_DrawReasonCounts (code : List Int) : Option (List UInt8 × List Span) :=
  (M.spec_DrawAreSpans code).bind fun y0 =>
  some (y0.1, y0.2)

def M.spec_ReasonCounts_l0 (spans : List Span) : (List Int × Int) → Option ((List Int × Int) ⊕ (List Int)) := fun st_ => match st_ with
| (out_0, i) =>
  bif (decide (i < (spans.length : Int))) then (
    asrt ((0 : Int) ≤ i ∧ i < (spans.length : Int)) <|
    asrt ((0 : Int) ≤ (IntKind.i64.wrap (((spans.getD (Int.toNat i) default).Reason) - (1 : Int))) ∧ (IntKind.i64.wrap (((spans.getD (Int.toNat i) default).Reason) - (1 : Int))) < (out_0.length : Int)) <|
    asrt ((0 : Int) ≤ (IntKind.i64.wrap (((spans.getD (Int.toNat i) default).Reason) - (1 : Int))) ∧ (IntKind.i64.wrap (((spans.getD (Int.toNat i) default).Reason) - (1 : Int))) < (out_0.length : Int)) <|
    some (.inl ((out_0.set (Int.toNat (IntKind.i64.wrap (((spans.getD (Int.toNat i) default).Reason) - (1 : Int)))) (IntKind.i64.wrap ((out_0.getD (Int.toNat (IntKind.i64.wrap (((spans.getD (Int.toNat i) default).Reason) - (1 : Int)))) default) + (1 : Int)))), (IntKind.i64.wrap (i + (1 : Int))))))
  else (
    some (.inr out_0))

def M.spec_ReasonCounts (text : List UInt8) (spans : List Span) : Option (List Int × Bool) :=
  (M.spec_l15Good text spans).bind fun y0 =>
  bif (!y0) then (
    some (([] : List Int), false))
  else (
    asrt ((0 : Int) ≤ (9 : Int) ∧ (9 : Int) ≤ (9 : Int) ∧ (9 : Int) ≤ 2147483648) <|
    (iterO (M.spec_ReasonCounts_l0 spans) ((List.replicate (Int.toNat (9 : Int)) (0 : Int)), (0 : Int))).bind fun e => match e with
    | out_ =>
      (some (out_, true)))

def M.laws_vInts_l0 (a : List Int) (b_ : List Int) : (Int) → Option ((Int) ⊕ ((Unit) ⊕ (Bool))) := fun st_ => match st_ with
| i =>
  bif (decide (i < (a.length : Int))) then (
    asrt ((0 : Int) ≤ i ∧ i < (a.length : Int)) <|
    asrt ((0 : Int) ≤ i ∧ i < (b_.length : Int)) <|
    bif ((a.getD (Int.toNat i) default) != (b_.getD (Int.toNat i) default)) then (
      some (.inr (.inr false)))
    else (
      some (.inl (IntKind.i64.wrap (i + (1 : Int))))))
  else (
    some (.inr (.inl ())))

def M.laws_vInts (a : List Int) (b_ : List Int) : Option Bool :=
  bif ((a.length : Int) != (b_.length : Int)) then (
    some false)
  else (
    (iterO (M.laws_vInts_l0 a b_) (0 : Int)).bind fun e => match e with
    | .inl () =>
      (some true)
    | .inr r => some r)

def M.laws_FnRedactions_l1 (y1 : List UInt8 × List Span) (i : Int) : (List UInt8 × Int) → Option ((List UInt8 × Int) ⊕ (List UInt8)) := fun st_ => match st_ with
| (other2, k) =>
  asrt ((0 : Int) ≤ i ∧ i < (y1.2.length : Int)) <|
  bif (decide (k < ((y1.2.getD (Int.toNat i) default).To))) then (
    asrt (other2.length + ([113]).length ≤ 9223372036854775807) <|
    some (.inl ((other2 ++ ([113])), (IntKind.i64.wrap (k + (1 : Int))))))
  else (
    some (.inr other2))

def M.laws_FnRedactions_l0 (y1 : List UInt8 × List Span) : (List UInt8 × Int × Int) → Option ((List UInt8 × Int × Int) ⊕ (List UInt8 × Int)) := fun st_ => match st_ with
| (other0, at_0, i) =>
  bif (decide (i < (y1.2.length : Int))) then (
    asrt ((0 : Int) ≤ i ∧ i < (y1.2.length : Int)) <|
    asrt ((0 : Int) ≤ at_0 ∧ at_0 ≤ ((y1.2.getD (Int.toNat i) default).From) ∧ ((y1.2.getD (Int.toNat i) default).From) ≤ (y1.1.length : Int)) <|
    asrt (other0.length + (slc y1.1 at_0 ((y1.2.getD (Int.toNat i) default).From)).length ≤ 9223372036854775807) <|
    asrt ((0 : Int) ≤ i ∧ i < (y1.2.length : Int)) <|
    (iterO (M.laws_FnRedactions_l1 y1 i) ((other0 ++ (slc y1.1 at_0 ((y1.2.getD (Int.toNat i) default).From))), (y1.2.getD (Int.toNat i) default).From)).bind fun e => match e with
    | other1 =>
      (asrt ((0 : Int) ≤ i ∧ i < (y1.2.length : Int)) <|
      some (.inl (other1, (y1.2.getD (Int.toNat i) default).To, (IntKind.i64.wrap (i + (1 : Int)))))))
  else (
    some (.inr (other0, at_0)))

def M.laws_FnRedactions (code : List Int) : Option Bool :=
  (M.laws_vBig code).bind fun y0 =>
  bif y0 then (
    some true)
  else (
    (M.spec_DrawRedacted code).bind fun y1 =>
    (M.impl_Redacted y1.1 y1.2).bind fun y2 =>
    (M.spec_Redacted y1.1 y1.2).bind fun y3 =>
    ((bif ((!(y2.1 == y3.1)) || (!(y2.2 == y3.2))) then some default else M.impl_AreSpans y1.1 y1.2)).bind fun y4 =>
    ((bif ((!(y2.1 == y3.1)) || (!(y2.2 == y3.2))) then some default else M.spec_AreSpans y1.1 y1.2)).bind fun y5 =>
    bif (((!(y2.1 == y3.1)) || (!(y2.2 == y3.2))) || (!(y4 == y5))) then (
      some false)
    else (
      (M.impl_HiddenBytes y1.1 y1.2).bind fun y6 =>
      (M.spec_HiddenBytes y1.1 y1.2).bind fun y7 =>
      bif (((y6.1 != y7.1) || (!(y6.2 == y7.2))) || (!(y6.2 == y2.2))) then (
        some false)
      else (
        (((
          bif y2.2 then (
            (iterO (M.laws_FnRedactions_l0 y1) ([], (0 : Int), (0 : Int))).bind fun e => match e with
            | (other, at_) =>
              (asrt ((0 : Int) ≤ at_ ∧ at_ ≤ (y1.1.length : Int) ∧ (y1.1.length : Int) ≤ (y1.1.length : Int)) <|
              asrt (other.length + (slc y1.1 at_ (y1.1.length : Int)).length ≤ 9223372036854775807) <|
              (M.impl_Redacted (other ++ (slc y1.1 at_ (y1.1.length : Int))) y1.2).bind fun y10 =>
              (M.impl_ReasonCounts y1.1 y1.2).bind fun y11 =>
              ((bif ((((!y10.2) || (!(y10.1 == y2.1))) || ((y2.1.length : Int) != (IntKind.i64.wrap ((IntKind.i64.wrap ((y1.1.length : Int) - y6.1)) + (IntKind.i64.wrap ((3 : Int) * (y1.2.length : Int))))))) || (!y11.2)) then some default else M.laws_vSum y11.1)).bind fun y12 =>
              bif (((((!y10.2) || (!(y10.1 == y2.1))) || ((y2.1.length : Int) != (IntKind.i64.wrap ((IntKind.i64.wrap ((y1.1.length : Int) - y6.1)) + (IntKind.i64.wrap ((3 : Int) * (y1.2.length : Int))))))) || (!y11.2)) || (y12 != (y1.2.length : Int))) then (
                some (.inr false))
              else (
                some (.inl ()))))
          else (
            some (.inl ()))) : Option ((Unit) ⊕ (Bool)))).bind fun e => match e with
        | .inl () =>
          ((M.spec_DrawMergeSpans code).bind fun y13 =>
          (M.impl_MergeSpans y13.1 y13.2).bind fun y14 =>
          (M.spec_MergeSpans y13.1 y13.2).bind fun y15 =>
          ((bif (!(y14.2 == y15.2)) then some default else M.laws_vSpans y14.1 y15.1)).bind fun y16 =>
          bif ((!(y14.2 == y15.2)) || (!y16)) then (
            some false)
          else (
            (((
              bif y14.2 then (
                (M.impl_HiddenBytes y13.1 y13.2).bind fun y17 =>
                (M.impl_HiddenBytes y13.1 y14.1).bind fun y18 =>
                (M.impl_MergeSpans y13.1 y14.1).bind fun y19 =>
                ((bif ((((!y17.2) || (!y18.2)) || (y17.1 != y18.1)) || (!y19.2)) then some default else M.laws_vSpans y19.1 y14.1)).bind fun y20 =>
                bif (((((!y17.2) || (!y18.2)) || (y17.1 != y18.1)) || (!y19.2)) || (!y20)) then (
                  some (.inr false))
                else (
                  some (.inl ())))
              else (
                some (.inl ()))) : Option ((Unit) ⊕ (Bool)))).bind fun e => match e with
            | .inl () =>
              ((M.spec_DrawWithoutReason code).bind fun y21 =>
              (M.impl_WithoutReason y21.1 y21.2.1 y21.2.2).bind fun y22 =>
              (M.spec_WithoutReason y21.1 y21.2.1 y21.2.2).bind fun y23 =>
              ((bif (!(y22.2 == y23.2)) then some default else M.laws_vSpans y22.1 y23.1)).bind fun y24 =>
              bif ((!(y22.2 == y23.2)) || (!y24)) then (
                some false)
              else (
                (M.spec_DrawReasonCounts code).bind fun y25 =>
                (M.impl_ReasonCounts y25.1 y25.2).bind fun y26 =>
                (M.spec_ReasonCounts y25.1 y25.2).bind fun y27 =>
                ((bif (y26.2 == y27.2) then M.laws_vInts y26.1 y27.1 else some default)).bind fun y28 =>
                some ((y26.2 == y27.2) && y28)))
            | .inr r => some r))
        | .inr r => some r)))
end Go.Proofs.YtfebeomnlkfgoaaDoor
