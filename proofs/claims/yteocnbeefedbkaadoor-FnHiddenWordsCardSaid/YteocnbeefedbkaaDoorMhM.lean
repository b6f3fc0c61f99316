/- models of the functions -/
import Derived.Test.YteocnbeefedbkaaDoorWt
set_option linter.unusedSimpArgs false
set_option linter.unusedVariables false
set_option maxRecDepth 100000
namespace Go.Proofs.YteocnbeefedbkaaDoor
open Go.VS

structure Cur where
  Code : List Int
  At : Int
  Seed : Int
  deriving Inhabited, DecidableEq

abbrev encCur (ρ : Nat) (c : Cur) : PV := .agg [.vl ρ 1 (List.map encU8 c.Code), .int .i64 c.At, .int .u64 c.Seed]

structure Span where
  From : Int
  To : Int
  Reason : Int
  deriving Inhabited, DecidableEq

abbrev encSpan (c : Span) : PV := .agg [.int .i64 c.From, .int .i64 c.To, .int .i64 c.Reason]

def M.laws_vBig (code : List Int) : Option Bool :=
  some (decide ((code.length : Int) > (65536 : Int)))

def M.spec_l1Cur_next (c : Cur) : Option (Int × Cur) :=
  (((
    bif (decide (c.At < (c.Code.length : Int))) then (
      asrt ((0 : Int) ≤ c.At ∧ c.At < (c.Code.length : Int)) <|
      some (IntKind.i64.wrap (c.Code.getD (Int.toNat c.At) default)))
    else (
      some (0 : Int))) : Option Int)).bind fun e => match e with
  | b_ =>
    (bif (decide ((IntKind.i64.wrap (c.At + (1 : Int))) ≤ (c.Code.length : Int))) then (
      some (b_, (⟨c.Code, (IntKind.i64.wrap (c.At + (1 : Int))), (IntKind.u64.wrap ((IntKind.u64.wrap ((IntKind.u64.wrap (c.Seed * (6364136223846793005 : Int))) + (IntKind.u64.wrap b_))) + (103535 : Int)))⟩ : Cur)))
    else (
      some ((IntKind.i64.wrap (IntKind.u64.wrap (BitVec.ofInt IntKind.u64.bits (Int.fdiv (IntKind.u64.wrap ((IntKind.u64.wrap ((IntKind.u64.wrap (c.Seed * (6364136223846793005 : Int))) + (IntKind.u64.wrap b_))) + (103535 : Int))) (2 ^ (min (Int.toNat (40 : Int)) IntKind.u64.bits))) &&& BitVec.ofInt IntKind.u64.bits (255 : Int)).toNat)), (⟨c.Code, (IntKind.i64.wrap (c.At + (1 : Int))), (IntKind.u64.wrap ((IntKind.u64.wrap ((IntKind.u64.wrap (c.Seed * (6364136223846793005 : Int))) + (IntKind.u64.wrap b_))) + (103535 : Int)))⟩ : Cur))))

def M.spec_l1Cur_pick (c : Cur) (n : Int) : Option (Int × Cur) :=
  bif (decide (n ≤ (1 : Int))) then (
    some ((0 : Int), c))
  else (
    (M.spec_l1Cur_next c).bind fun y0 =>
    (((
      bif (decide (n > (200 : Int))) then (
        (M.spec_l1Cur_next y0.2).bind fun y1 =>
        some ((IntKind.i64.wrap ((IntKind.i64.wrap (y0.1 * (256 : Int))) + y1.1)), y1.2))
      else (
        some (y0.1, y0.2))) : Option (Int × Cur))).bind fun e => match e with
    | (x, c_) =>
      (asrt (n ≠ 0) <|
      some ((Int.tmod x n), c_)))

def M.spec_l1Cur_of (c : Cur) (list : List (List UInt8)) : Option (List UInt8 × Cur) :=
  (M.spec_l1Cur_pick c (list.length : Int)).bind fun y0 =>
  asrt ((0 : Int) ≤ y0.1 ∧ y0.1 < (list.length : Int)) <|
  some ((list.getD (Int.toNat y0.1) default), y0.2)

def M.spec_l1Cur_text_l0 : (List UInt8 × Int × Cur) → Option ((List UInt8 × Int × Cur) ⊕ (List UInt8 × Cur)) := fun st_ => match st_ with
| (s0, n_, c_0) =>
  bif (decide (n_ > (0 : Int))) then (
    (((
      (M.spec_l1Cur_of c_0 ([[97, 110, 110, 97], [98, 111], [97, 110, 110, 97], [109, 101, 116], [97], [99, 111, 117, 114, 116], [97, 110, 110], [110, 111, 114, 116, 104], [], [116, 104, 101]] : List (List UInt8))).bind fun y2 =>
      asrt (s0.length + y2.1.length ≤ 9223372036854775807) <|
      bif (decide (n_ > (1 : Int))) then (
        asrt ((s0 ++ y2.1).length + ([32]).length ≤ 9223372036854775807) <|
        some (((s0 ++ y2.1) ++ ([32])), y2.2))
      else (
        some ((s0 ++ y2.1), y2.2))) : Option (List UInt8 × Cur))).bind fun e => match e with
    | (s1, c_1) =>
      (some (.inl (s1, (IntKind.i64.wrap (n_ - (1 : Int))), c_1))))
  else (
    some (.inr (s0, c_0)))

def M.spec_l1Cur_text_l1 : (List UInt8 × Cur) → Option ((List UInt8 × Cur) ⊕ (List UInt8 × Cur)) := fun st_ => match st_ with
| (s4, c_4) =>
  (M.spec_l1Cur_pick c_4 (2 : Int)).bind fun y6 =>
  bif (decide ((s4.length : Int) < (IntKind.i64.wrap ((100 : Int) + y6.1)))) then (
    asrt (s4.length + ([120]).length ≤ 9223372036854775807) <|
    some (.inl ((s4 ++ ([120])), y6.2)))
  else (
    some (.inr (s4, y6.2)))

def M.spec_l1Cur_text (c : Cur) : Option (List UInt8 × Cur) :=
  (M.spec_l1Cur_pick c (9 : Int)).bind fun y0 =>
  (iterO (M.spec_l1Cur_text_l0) ([], y0.1, y0.2)).bind fun e => match e with
  | (s, c_) =>
    ((M.spec_l1Cur_pick c_ (40 : Int)).bind fun y3 =>
    (((
      bif (y3.1 == (0 : Int)) then (
        (M.spec_l1Cur_of y3.2 ([[65], [49], [46], [91]] : List (List UInt8))).bind fun y4 =>
        asrt (s.length + y4.1.length ≤ 9223372036854775807) <|
        some ((s ++ y4.1), y4.2))
      else (
        bif (y3.1 == (1 : Int)) then (
          (iterO (M.spec_l1Cur_text_l1) (s, y3.2)).bind fun e => match e with
          | (s3, c_3) =>
            (some (s3, c_3)))
        else (
          some (s, y3.2)))) : Option (List UInt8 × Cur))).bind fun e => match e with
    | (s2, c_2) =>
      (some (s2, c_2)))

def M.spec_l1Cur_among (c : Cur) (list : List Int) : Option (Int × Cur) :=
  (M.spec_l1Cur_pick c (list.length : Int)).bind fun y0 =>
  asrt ((0 : Int) ≤ y0.1 ∧ y0.1 < (list.length : Int)) <|
  some ((list.getD (Int.toNat y0.1) default), y0.2)

def M.spec_l1Least (a : Int) (b_ : Int) : Option Int :=
  bif (decide (a < b_)) then (
    some a)
  else (
    some b_)

def M.spec_l1Cur_spans_l0 (text : List UInt8) : (List Span × Int × Int × Cur) → Option ((List Span × Int × Int × Cur) ⊕ (List Span × Int × Cur)) := fun st_ => match st_ with
| (out_0, at_0, n_, c_0) =>
  bif ((decide (n_ > (0 : Int))) && (decide (at_0 < (text.length : Int)))) then (
    (M.spec_l1Cur_among c_0 ([(0 : Int), (0 : Int), (2 : Int), (5 : Int), (9 : Int)] : List Int)).bind fun y2 =>
    (M.spec_l1Least (IntKind.i64.wrap ((text.length : Int) - (1 : Int))) (IntKind.i64.wrap (at_0 + y2.1))).bind fun y3 =>
    (M.spec_l1Cur_among y2.2 ([(1 : Int), (2 : Int), (4 : Int), (6 : Int)] : List Int)).bind fun y4 =>
    (M.spec_l1Least (text.length : Int) (IntKind.i64.wrap (y3 + y4.1))).bind fun y5 =>
    (M.spec_l1Cur_among y4.2 ([(1 : Int), (1 : Int), (2 : Int), (9 : Int)] : List Int)).bind fun y6 =>
    asrt ((out_0.length : Int) + (([(⟨y3, y5, y6.1⟩ : Span)] : List Span).length : Int) ≤ 2147483648) <|
    some (.inl ((out_0 ++ ([(⟨y3, y5, y6.1⟩ : Span)] : List Span)), y5, (IntKind.i64.wrap (n_ - (1 : Int))), y6.2)))
  else (
    some (.inr (out_0, at_0, c_0)))

def M.spec_l1Cur_spans_l1 : (List Span × Cur) → Option ((List Span × Cur) ⊕ (List Span × Cur)) := fun st_ => match st_ with
| (out_3, c_3) =>
  (M.spec_l1Cur_pick c_3 (2 : Int)).bind fun y12 =>
  bif (decide ((out_3.length : Int) < (IntKind.i64.wrap ((8 : Int) + y12.1)))) then (
    asrt ((out_3.length : Int) + (([(⟨(out_3.length : Int), (IntKind.i64.wrap ((out_3.length : Int) + (1 : Int))), (1 : Int)⟩ : Span)] : List Span).length : Int) ≤ 2147483648) <|
    some (.inl ((out_3 ++ ([(⟨(out_3.length : Int), (IntKind.i64.wrap ((out_3.length : Int) + (1 : Int))), (1 : Int)⟩ : Span)] : List Span)), y12.2)))
  else (
    some (.inr (out_3, y12.2)))

def M.spec_l1Cur_spans (c : Cur) (text : List UInt8) : Option (List Span × Cur) :=
  (M.spec_l1Cur_pick c (5 : Int)).bind fun y0 =>
  (iterO (M.spec_l1Cur_spans_l0 text) (([] : List Span), (0 : Int), y0.1, y0.2)).bind fun e => match e with
  | (out_, at_, c_) =>
    ((M.spec_l1Cur_pick c_ (40 : Int)).bind fun y7 =>
    (((
      bif (y7.1 == (0 : Int)) then (
        (M.spec_l1Cur_among y7.2 ([(-1 : Int), (0 : Int), at_] : List Int)).bind fun y8 =>
        (M.spec_l1Cur_among y8.2 ([(0 : Int), (1 : Int), (IntKind.i64.wrap (at_ + (1 : Int))), (101 : Int)] : List Int)).bind fun y9 =>
        (M.spec_l1Cur_among y9.2 ([(0 : Int), (1 : Int), (10 : Int)] : List Int)).bind fun y10 =>
        asrt ((out_.length : Int) + (([(⟨y8.1, y9.1, y10.1⟩ : Span)] : List Span).length : Int) ≤ 2147483648) <|
        some ((out_ ++ ([(⟨y8.1, y9.1, y10.1⟩ : Span)] : List Span)), y10.2))
      else (
        bif (y7.1 == (1 : Int)) then (
          (iterO (M.spec_l1Cur_spans_l1) (([] : List Span), y7.2)).bind fun e => match e with
          | (out_2, c_2) =>
            (some (out_2, c_2)))
        else (
          some (out_, y7.2)))) : Option (List Span × Cur))).bind fun e => match e with
    | (out_1, c_1) =>
      (some (out_1, c_1)))

def M.spec_l1Cur_wordOf (c : Cur) : Option (List UInt8 × Cur) :=
  (M.spec_l1Cur_of c ([[97, 110, 110, 97], [97, 110, 110, 97], [98, 111], [97], [99, 111, 117, 114, 116], [97, 110, 110], [122, 111, 111], [], [65]] : List (List UInt8))).bind fun y0 =>
  some (y0.1, y0.2)

def M.spec_DrawHideWord (code : List Int) : Option (List UInt8 × List Span × List UInt8 × Int) :=
  (M.spec_l1Cur_text (⟨code, (0 : Int), (0 : Int)⟩ : Cur)).bind fun y0 =>
  (M.spec_l1Cur_spans y0.2 y0.1).bind fun y1 =>
  (M.spec_l1Cur_wordOf y1.2).bind fun y2 =>
  (M.spec_l1Cur_among y2.2 ([(1 : Int), (2 : Int), (9 : Int), (0 : Int), (10 : Int), (3 : Int), (4 : Int)] : List Int)).bind fun y3 =>
  some (y0.1, y1.1, y2.1, y3.1)

def M.strings_Trim (s cutset : List UInt8) : Option (List UInt8) := asrt (s.length ≤ 9223372036854775807 ∧ cutset.length < 4294967281 ∧ cutset.all (fun b => decide (b.toNat < 128)) = true) <| some (Go.Lib.trimS s cutset)

def M.impl_IsText (text : List UInt8) : Option Bool :=
  ((bif (decide ((text.length : Int) ≤ (100 : Int))) then M.strings_Trim text ([32, 97, 98, 99, 100, 101, 102, 103, 104, 105, 106, 107, 108, 109, 110, 111, 112, 113, 114, 115, 116, 117, 118, 119, 120, 121, 122]) else some default)).bind fun y0 =>
  some ((decide ((text.length : Int) ≤ (100 : Int))) && (y0 == ([])))

def M.impl_within (n : Int) (low : Int) (high : Int) : Option Bool :=
  some ((decide (low ≤ n)) && (decide (n ≤ high)))

def M.impl_isReason (reason : Int) : Option Bool :=
  (M.impl_within reason (1 : Int) (9 : Int)).bind fun y0 =>
  some y0

def M.impl_AreSpans_l0 (text : List UInt8) (spans : List Span) : (Int × Int) → Option ((Int × Int) ⊕ ((Unit) ⊕ (Bool))) := fun st_ => match st_ with
| (before, v) =>
  bif (decide (v < (spans.length : Int))) then (
    asrt ((0 : Int) ≤ v ∧ v < (spans.length : Int)) <|
    ((bif (((decide (((spans.getD (Int.toNat v) default).From) < before)) || (decide (((spans.getD (Int.toNat v) default).From) ≥ ((spans.getD (Int.toNat v) default).To)))) || (decide (((spans.getD (Int.toNat v) default).To) > (text.length : Int)))) then some default else M.impl_isReason ((spans.getD (Int.toNat v) default).Reason))).bind fun y2 =>
    bif ((((decide (((spans.getD (Int.toNat v) default).From) < before)) || (decide (((spans.getD (Int.toNat v) default).From) ≥ ((spans.getD (Int.toNat v) default).To)))) || (decide (((spans.getD (Int.toNat v) default).To) > (text.length : Int)))) || (!y2)) then (
      some (.inr (.inr false)))
    else (
      some (.inl ((spans.getD (Int.toNat v) default).To, (IntKind.i64.wrap (v + (1 : Int)))))))
  else (
    some (.inr (.inl ())))

def M.impl_AreSpans (text : List UInt8) (spans : List Span) : Option Bool :=
  (M.impl_IsText text).bind fun y0 =>
  bif ((!y0) || (decide ((spans.length : Int) > (8 : Int)))) then (
    some false)
  else (
    (iterO (M.impl_AreSpans_l0 text spans) ((0 : Int), (0 : Int))).bind fun e => match e with
    | .inl () =>
      (some true)
    | .inr r => some r)

def M.impl_isWord (s : List UInt8) : Option Bool :=
  (M.impl_within (s.length : Int) (1 : Int) (10 : Int)).bind fun y0 =>
  ((bif y0 then M.strings_Trim s ([97, 98, 99, 100, 101, 102, 103, 104, 105, 106, 107, 108, 109, 110, 111, 112, 113, 114, 115, 116, 117, 118, 119, 120, 121, 122]) else some default)).bind fun y1 =>
  some (y0 && (y1 == ([])))

def M.slices_Clone_impl_Span_impl_Span (s : List Span) : Option (List Span) := asrt ((s.length : Int) ≤ 2147483648) <| some s

def M.strings_SplitSeq (s sep : List UInt8) : Option (List (List UInt8)) := asrt (sep.length = 1 ∧ s.length ≤ 2147483648) <| some (splitC (sep.getD 0 0) s)

def M.impl_placesOf_l0 (word : List UInt8) : (List Int × Int) → (List UInt8) → Option (List Int × Int) := fun st_ y_ => match st_ with
| (places_x, at_) =>
  (((
    (((
      bif (y_ == word) then (
        asrt ((places_x.length : Int) + (([at_] : List Int).length : Int) ≤ 2147483648) <|
        some (places_x ++ ([at_] : List Int)))
      else (
        some places_x)) : Option (List Int))).bind fun e => match e with
    | places_x1 =>
      (some (places_x1, (IntKind.i64.wrap (at_ + (IntKind.i64.wrap ((y_.length : Int) + (1 : Int)))))))) : Option (List Int × Int))).bind fun e => match e with
  | (places_x0, at_0) =>
    (some (places_x0, at_0))

def M.impl_placesOf (text : List UInt8) (word : List UInt8) : Option (List Int) :=
  (M.strings_SplitSeq text ([32])).bind fun y0 =>
  (foldO (M.impl_placesOf_l0 word) y0 (([] : List Int), (0 : Int))).bind fun e => match e with
  | (places_x, at_) =>
    (some places_x)

def M.impl_isTouched_1 (s : Span) (to_c : Int) (from_c : Int) : Option Bool :=
  some ((decide (s.From < to_c)) && (decide (from_c < s.To)))

def M.slices_IndexFunc_impl_Span_impl_Span_l0 (s : List Span) (fm : Span → Option Bool) : (Int) → Option ((Int) ⊕ ((Unit) ⊕ (Int))) := fun st_ => match st_ with
| v =>
  bif (decide (v < (s.length : Int))) then (
    asrt ((0 : Int) ≤ v ∧ v < (s.length : Int)) <|
    (fm (s.getD (Int.toNat v) default)).bind fun y1 =>
    bif y1 then (
      some (.inr (.inr v)))
    else (
      some (.inl (IntKind.i64.wrap (v + (1 : Int))))))
  else (
    some (.inr (.inl ())))

def M.slices_IndexFunc_impl_Span_impl_Span (s : List Span) (fm : Span → Option Bool) : Option Int :=
  (iterO (M.slices_IndexFunc_impl_Span_impl_Span_l0 s fm) (0 : Int)).bind fun e => match e with
  | .inl () =>
    (some (-1 : Int))
  | .inr r => some r

def M.slices_ContainsFunc_impl_Span_impl_Span (s : List Span) (fm : Span → Option Bool) : Option Bool :=
  (M.slices_IndexFunc_impl_Span_impl_Span s fm).bind fun y0 =>
  some (decide (y0 ≥ (0 : Int)))

def M.impl_isTouched (spans : List Span) (from_ : Int) (to_ : Int) : Option Bool :=
  (M.slices_ContainsFunc_impl_Span_impl_Span spans (fun x0 => M.impl_isTouched_1 x0 to_ from_)).bind fun y0 =>
  some y0

def M.math_bits_Len32 (x : Int) : Option Int :=
  (((
    bif (decide (x ≥ (65536 : Int))) then (
      some ((Int.fdiv x (2 ^ (min (Int.toNat (16 : Int)) IntKind.u32.bits))), (16 : Int)))
    else (
      some (x, (0 : Int)))) : Option (Int × Int))).bind fun e => match e with
  | (x0, n_) =>
    ((((
      bif (decide (x0 ≥ (256 : Int))) then (
        some ((Int.fdiv x0 (2 ^ (min (Int.toNat (8 : Int)) IntKind.u32.bits))), (IntKind.i64.wrap (n_ + (8 : Int)))))
      else (
        some (x0, n_))) : Option (Int × Int))).bind fun e => match e with
    | (x1, n_0) =>
      (asrt ((0 : Int) ≤ (IntKind.u8.wrap x1) ∧ (IntKind.u8.wrap x1) < (([0, 1, 2, 2, 3, 3, 3, 3, 4, 4, 4, 4, 4, 4, 4, 4, 5, 5, 5, 5, 5, 5, 5, 5, 5, 5, 5, 5, 5, 5, 5, 5, 6, 6, 6, 6, 6, 6, 6, 6, 6, 6, 6, 6, 6, 6, 6, 6, 6, 6, 6, 6, 6, 6, 6, 6, 6, 6, 6, 6, 6, 6, 6, 6, 7, 7, 7, 7, 7, 7, 7, 7, 7, 7, 7, 7, 7, 7, 7, 7, 7, 7, 7, 7, 7, 7, 7, 7, 7, 7, 7, 7, 7, 7, 7, 7, 7, 7, 7, 7, 7, 7, 7, 7, 7, 7, 7, 7, 7, 7, 7, 7, 7, 7, 7, 7, 7, 7, 7, 7, 7, 7, 7, 7, 7, 7, 7, 7, 8, 8, 8, 8, 8, 8, 8, 8, 8, 8, 8, 8, 8, 8, 8, 8, 8, 8, 8, 8, 8, 8, 8, 8, 8, 8, 8, 8, 8, 8, 8, 8, 8, 8, 8, 8, 8, 8, 8, 8, 8, 8, 8, 8, 8, 8, 8, 8, 8, 8, 8, 8, 8, 8, 8, 8, 8, 8, 8, 8, 8, 8, 8, 8, 8, 8, 8, 8, 8, 8, 8, 8, 8, 8, 8, 8, 8, 8, 8, 8, 8, 8, 8, 8, 8, 8, 8, 8, 8, 8, 8, 8, 8, 8, 8, 8, 8, 8, 8, 8, 8, 8, 8, 8, 8, 8, 8, 8, 8, 8, 8, 8, 8, 8, 8, 8, 8, 8, 8, 8, 8, 8, 8, 8, 8, 8, 8, 8] : List UInt8).length : Int)) <|
      some (IntKind.i64.wrap (n_0 + (IntKind.i64.wrap ((([0, 1, 2, 2, 3, 3, 3, 3, 4, 4, 4, 4, 4, 4, 4, 4, 5, 5, 5, 5, 5, 5, 5, 5, 5, 5, 5, 5, 5, 5, 5, 5, 6, 6, 6, 6, 6, 6, 6, 6, 6, 6, 6, 6, 6, 6, 6, 6, 6, 6, 6, 6, 6, 6, 6, 6, 6, 6, 6, 6, 6, 6, 6, 6, 7, 7, 7, 7, 7, 7, 7, 7, 7, 7, 7, 7, 7, 7, 7, 7, 7, 7, 7, 7, 7, 7, 7, 7, 7, 7, 7, 7, 7, 7, 7, 7, 7, 7, 7, 7, 7, 7, 7, 7, 7, 7, 7, 7, 7, 7, 7, 7, 7, 7, 7, 7, 7, 7, 7, 7, 7, 7, 7, 7, 7, 7, 7, 7, 8, 8, 8, 8, 8, 8, 8, 8, 8, 8, 8, 8, 8, 8, 8, 8, 8, 8, 8, 8, 8, 8, 8, 8, 8, 8, 8, 8, 8, 8, 8, 8, 8, 8, 8, 8, 8, 8, 8, 8, 8, 8, 8, 8, 8, 8, 8, 8, 8, 8, 8, 8, 8, 8, 8, 8, 8, 8, 8, 8, 8, 8, 8, 8, 8, 8, 8, 8, 8, 8, 8, 8, 8, 8, 8, 8, 8, 8, 8, 8, 8, 8, 8, 8, 8, 8, 8, 8, 8, 8, 8, 8, 8, 8, 8, 8, 8, 8, 8, 8, 8, 8, 8, 8, 8, 8, 8, 8, 8, 8, 8, 8, 8, 8, 8, 8, 8, 8, 8, 8, 8, 8, 8, 8, 8, 8, 8, 8] : List UInt8).getD (Int.toNat (IntKind.u8.wrap x1)) 0).toNat : Int))))))

def M.math_bits_Len64 (x : Int) : Option Int :=
  (((
    bif (decide (x ≥ (4294967296 : Int))) then (
      some ((Int.fdiv x (2 ^ (min (Int.toNat (32 : Int)) IntKind.u64.bits))), (32 : Int)))
    else (
      some (x, (0 : Int)))) : Option (Int × Int))).bind fun e => match e with
  | (x0, n_) =>
    ((((
      bif (decide (x0 ≥ (65536 : Int))) then (
        some ((Int.fdiv x0 (2 ^ (min (Int.toNat (16 : Int)) IntKind.u64.bits))), (IntKind.i64.wrap (n_ + (16 : Int)))))
      else (
        some (x0, n_))) : Option (Int × Int))).bind fun e => match e with
    | (x1, n_0) =>
      ((((
        bif (decide (x1 ≥ (256 : Int))) then (
          some ((Int.fdiv x1 (2 ^ (min (Int.toNat (8 : Int)) IntKind.u64.bits))), (IntKind.i64.wrap (n_0 + (8 : Int)))))
        else (
          some (x1, n_0))) : Option (Int × Int))).bind fun e => match e with
      | (x2, n_1) =>
        (asrt ((0 : Int) ≤ (IntKind.u8.wrap x2) ∧ (IntKind.u8.wrap x2) < (([0, 1, 2, 2, 3, 3, 3, 3, 4, 4, 4, 4, 4, 4, 4, 4, 5, 5, 5, 5, 5, 5, 5, 5, 5, 5, 5, 5, 5, 5, 5, 5, 6, 6, 6, 6, 6, 6, 6, 6, 6, 6, 6, 6, 6, 6, 6, 6, 6, 6, 6, 6, 6, 6, 6, 6, 6, 6, 6, 6, 6, 6, 6, 6, 7, 7, 7, 7, 7, 7, 7, 7, 7, 7, 7, 7, 7, 7, 7, 7, 7, 7, 7, 7, 7, 7, 7, 7, 7, 7, 7, 7, 7, 7, 7, 7, 7, 7, 7, 7, 7, 7, 7, 7, 7, 7, 7, 7, 7, 7, 7, 7, 7, 7, 7, 7, 7, 7, 7, 7, 7, 7, 7, 7, 7, 7, 7, 7, 8, 8, 8, 8, 8, 8, 8, 8, 8, 8, 8, 8, 8, 8, 8, 8, 8, 8, 8, 8, 8, 8, 8, 8, 8, 8, 8, 8, 8, 8, 8, 8, 8, 8, 8, 8, 8, 8, 8, 8, 8, 8, 8, 8, 8, 8, 8, 8, 8, 8, 8, 8, 8, 8, 8, 8, 8, 8, 8, 8, 8, 8, 8, 8, 8, 8, 8, 8, 8, 8, 8, 8, 8, 8, 8, 8, 8, 8, 8, 8, 8, 8, 8, 8, 8, 8, 8, 8, 8, 8, 8, 8, 8, 8, 8, 8, 8, 8, 8, 8, 8, 8, 8, 8, 8, 8, 8, 8, 8, 8, 8, 8, 8, 8, 8, 8, 8, 8, 8, 8, 8, 8, 8, 8, 8, 8, 8, 8] : List UInt8).length : Int)) <|
        some (IntKind.i64.wrap (n_1 + (IntKind.i64.wrap ((([0, 1, 2, 2, 3, 3, 3, 3, 4, 4, 4, 4, 4, 4, 4, 4, 5, 5, 5, 5, 5, 5, 5, 5, 5, 5, 5, 5, 5, 5, 5, 5, 6, 6, 6, 6, 6, 6, 6, 6, 6, 6, 6, 6, 6, 6, 6, 6, 6, 6, 6, 6, 6, 6, 6, 6, 6, 6, 6, 6, 6, 6, 6, 6, 7, 7, 7, 7, 7, 7, 7, 7, 7, 7, 7, 7, 7, 7, 7, 7, 7, 7, 7, 7, 7, 7, 7, 7, 7, 7, 7, 7, 7, 7, 7, 7, 7, 7, 7, 7, 7, 7, 7, 7, 7, 7, 7, 7, 7, 7, 7, 7, 7, 7, 7, 7, 7, 7, 7, 7, 7, 7, 7, 7, 7, 7, 7, 7, 8, 8, 8, 8, 8, 8, 8, 8, 8, 8, 8, 8, 8, 8, 8, 8, 8, 8, 8, 8, 8, 8, 8, 8, 8, 8, 8, 8, 8, 8, 8, 8, 8, 8, 8, 8, 8, 8, 8, 8, 8, 8, 8, 8, 8, 8, 8, 8, 8, 8, 8, 8, 8, 8, 8, 8, 8, 8, 8, 8, 8, 8, 8, 8, 8, 8, 8, 8, 8, 8, 8, 8, 8, 8, 8, 8, 8, 8, 8, 8, 8, 8, 8, 8, 8, 8, 8, 8, 8, 8, 8, 8, 8, 8, 8, 8, 8, 8, 8, 8, 8, 8, 8, 8, 8, 8, 8, 8, 8, 8, 8, 8, 8, 8, 8, 8, 8, 8, 8, 8, 8, 8, 8, 8, 8, 8, 8, 8] : List UInt8).getD (Int.toNat (IntKind.u8.wrap x2)) 0).toNat : Int)))))))

def M.math_bits_Len (x : Int) : Option Int :=
  bif false then (
    (M.math_bits_Len32 (IntKind.u32.wrap x)).bind fun y0 =>
    some y0)
  else (
    (M.math_bits_Len64 x).bind fun y1 =>
    some y1)

def M.slices_insertionSortCmpFunc_impl_Span_l1 (a : Int) (fm : Span → Span → Option Int) : (List Span × Int) → Option ((List Span × Int) ⊕ (List Span)) := fun st_ => match st_ with
| (data3, j_) =>
  asrt ((decide (j_ > a)) = true → ((0 : Int) ≤ j_ ∧ j_ < (data3.length : Int))) <|
  asrt ((decide (j_ > a)) = true → ((0 : Int) ≤ (IntKind.i64.wrap (j_ - (1 : Int))) ∧ (IntKind.i64.wrap (j_ - (1 : Int))) < (data3.length : Int))) <|
  ((bif (decide (j_ > a)) then fm (data3.getD (Int.toNat j_) default) (data3.getD (Int.toNat (IntKind.i64.wrap (j_ - (1 : Int)))) default) else some default)).bind fun y2 =>
  bif ((decide (j_ > a)) && (decide (y2 < (0 : Int)))) then (
    asrt ((0 : Int) ≤ (IntKind.i64.wrap (j_ - (1 : Int))) ∧ (IntKind.i64.wrap (j_ - (1 : Int))) < (data3.length : Int)) <|
    asrt ((0 : Int) ≤ j_ ∧ j_ < (data3.length : Int)) <|
    asrt ((0 : Int) ≤ j_ ∧ j_ < (data3.length : Int)) <|
    asrt ((0 : Int) ≤ (IntKind.i64.wrap (j_ - (1 : Int))) ∧ (IntKind.i64.wrap (j_ - (1 : Int))) < ((data3.set (Int.toNat j_) (data3.getD (Int.toNat (IntKind.i64.wrap (j_ - (1 : Int)))) default)).length : Int)) <|
    (((
      some ((data3.set (Int.toNat j_) (data3.getD (Int.toNat (IntKind.i64.wrap (j_ - (1 : Int)))) default)).set (Int.toNat (IntKind.i64.wrap (j_ - (1 : Int)))) (data3.getD (Int.toNat j_) default))) : Option (List Span))).bind fun e => match e with
    | data4 =>
      (some (.inl (data4, (IntKind.i64.wrap (j_ - (1 : Int)))))))
  else (
    some (.inr data3))

def M.slices_insertionSortCmpFunc_impl_Span_l0 (a : Int) (b_ : Int) (fm : Span → Span → Option Int) : (List Span × Int) → Option ((List Span × Int) ⊕ (List Span)) := fun st_ => match st_ with
| (data1, i) =>
  bif (decide (i < b_)) then (
    (iterO (M.slices_insertionSortCmpFunc_impl_Span_l1 a fm) (data1, i)).bind fun e => match e with
    | data2 =>
      (some (.inl (data2, (IntKind.i64.wrap (i + (1 : Int)))))))
  else (
    some (.inr data1))

def M.slices_insertionSortCmpFunc_impl_Span (data : List Span) (a : Int) (b_ : Int) (fm : Span → Span → Option Int) : Option (List Span) :=
  (iterO (M.slices_insertionSortCmpFunc_impl_Span_l0 a b_ fm) (data, (IntKind.i64.wrap (a + (1 : Int))))).bind fun e => match e with
  | data0 =>
    (some data0)

def M.slices_order2CmpFunc_impl_Span (data : List Span) (a : Int) (b_ : Int) (swaps : Int) (fm : Span → Span → Option Int) : Option (Int × Int × Int) :=
  asrt ((0 : Int) ≤ b_ ∧ b_ < (data.length : Int)) <|
  asrt ((0 : Int) ≤ a ∧ a < (data.length : Int)) <|
  (fm (data.getD (Int.toNat b_) default) (data.getD (Int.toNat a) default)).bind fun y0 =>
  bif (decide (y0 < (0 : Int))) then (
    some (b_, a, (IntKind.i64.wrap (swaps + (1 : Int)))))
  else (
    some (a, b_, swaps))

def M.slices_medianCmpFunc_impl_Span (data : List Span) (a : Int) (b_ : Int) (c : Int) (swaps : Int) (fm : Span → Span → Option Int) : Option (Int × Int) :=
  (M.slices_order2CmpFunc_impl_Span data a b_ swaps fm).bind fun y0 =>
  (M.slices_order2CmpFunc_impl_Span data y0.2.1 c y0.2.2 fm).bind fun y1 =>
  (M.slices_order2CmpFunc_impl_Span data y0.1 y1.1 y1.2.2 fm).bind fun y2 =>
  some (y2.2.1, y2.2.2)

def M.slices_medianAdjacentCmpFunc_impl_Span (data : List Span) (a : Int) (swaps : Int) (fm : Span → Span → Option Int) : Option (Int × Int) :=
  (M.slices_medianCmpFunc_impl_Span data (IntKind.i64.wrap (a - (1 : Int))) a (IntKind.i64.wrap (a + (1 : Int))) swaps fm).bind fun y0 =>
  some (y0.1, y0.2)

def M.slices_choosePivotCmpFunc_impl_Span (data : List Span) (a : Int) (b_ : Int) (fm : Span → Span → Option Int) : Option (Int × Int) :=
  (((
    bif (decide ((IntKind.i64.wrap (b_ - a)) ≥ (8 : Int))) then (
      (((
        bif (decide ((IntKind.i64.wrap (b_ - a)) ≥ (50 : Int))) then (
          (M.slices_medianAdjacentCmpFunc_impl_Span data (IntKind.i64.wrap (a + (IntKind.i64.wrap ((IntKind.i64.wrap (Int.tdiv (IntKind.i64.wrap (b_ - a)) (4 : Int))) * (1 : Int))))) (0 : Int) fm).bind fun y0 =>
          (M.slices_medianAdjacentCmpFunc_impl_Span data (IntKind.i64.wrap (a + (IntKind.i64.wrap ((IntKind.i64.wrap (Int.tdiv (IntKind.i64.wrap (b_ - a)) (4 : Int))) * (2 : Int))))) y0.2 fm).bind fun y1 =>
          (M.slices_medianAdjacentCmpFunc_impl_Span data (IntKind.i64.wrap (a + (IntKind.i64.wrap ((IntKind.i64.wrap (Int.tdiv (IntKind.i64.wrap (b_ - a)) (4 : Int))) * (3 : Int))))) y1.2 fm).bind fun y2 =>
          some (y0.1, y1.1, y2.1, y2.2))
        else (
          some ((IntKind.i64.wrap (a + (IntKind.i64.wrap ((IntKind.i64.wrap (Int.tdiv (IntKind.i64.wrap (b_ - a)) (4 : Int))) * (1 : Int))))), (IntKind.i64.wrap (a + (IntKind.i64.wrap ((IntKind.i64.wrap (Int.tdiv (IntKind.i64.wrap (b_ - a)) (4 : Int))) * (2 : Int))))), (IntKind.i64.wrap (a + (IntKind.i64.wrap ((IntKind.i64.wrap (Int.tdiv (IntKind.i64.wrap (b_ - a)) (4 : Int))) * (3 : Int))))), (0 : Int)))) : Option (Int × Int × Int × Int))).bind fun e => match e with
      | (i, j_0, k, swaps0) =>
        ((M.slices_medianCmpFunc_impl_Span data i j_0 k swaps0 fm).bind fun y3 =>
        some (y3.1, y3.2)))
    else (
      some ((IntKind.i64.wrap (a + (IntKind.i64.wrap ((IntKind.i64.wrap (Int.tdiv (IntKind.i64.wrap (b_ - a)) (4 : Int))) * (2 : Int))))), (0 : Int)))) : Option (Int × Int))).bind fun e => match e with
  | (j_, swaps) =>
    (bif (swaps == (0 : Int)) then (
      some (j_, (1 : Int)))
    else (
      bif (swaps == (12 : Int)) then (
        some (j_, (2 : Int)))
      else (
        some (j_, (0 : Int)))))

def M.slices_partialInsertionSortCmpFunc_impl_Span_l1 (b_ : Int) (fm : Span → Span → Option Int) (data1 : List Span) : (Int) → Option ((Int) ⊕ (Int)) := fun st_ => match st_ with
| i2 =>
  asrt ((decide (i2 < b_)) = true → ((0 : Int) ≤ i2 ∧ i2 < (data1.length : Int))) <|
  asrt ((decide (i2 < b_)) = true → ((0 : Int) ≤ (IntKind.i64.wrap (i2 - (1 : Int))) ∧ (IntKind.i64.wrap (i2 - (1 : Int))) < (data1.length : Int))) <|
  ((bif (decide (i2 < b_)) then fm (data1.getD (Int.toNat i2) default) (data1.getD (Int.toNat (IntKind.i64.wrap (i2 - (1 : Int)))) default) else some default)).bind fun y2 =>
  bif ((decide (i2 < b_)) && (!(decide (y2 < (0 : Int))))) then (
    some (.inl (IntKind.i64.wrap (i2 + (1 : Int)))))
  else (
    some (.inr i2))

def M.slices_partialInsertionSortCmpFunc_impl_Span_l2 (fm : Span → Span → Option Int) : (List Span × Int) → Option ((List Span × Int) ⊕ (List Span)) := fun st_ => match st_ with
| (data6, j_0) =>
  bif (decide (j_0 ≥ (1 : Int))) then (
    asrt ((0 : Int) ≤ j_0 ∧ j_0 < (data6.length : Int)) <|
    asrt ((0 : Int) ≤ (IntKind.i64.wrap (j_0 - (1 : Int))) ∧ (IntKind.i64.wrap (j_0 - (1 : Int))) < (data6.length : Int)) <|
    (fm (data6.getD (Int.toNat j_0) default) (data6.getD (Int.toNat (IntKind.i64.wrap (j_0 - (1 : Int)))) default)).bind fun y4 =>
    bif (!(decide (y4 < (0 : Int)))) then (
      some (.inr data6))
    else (
      asrt ((0 : Int) ≤ (IntKind.i64.wrap (j_0 - (1 : Int))) ∧ (IntKind.i64.wrap (j_0 - (1 : Int))) < (data6.length : Int)) <|
      asrt ((0 : Int) ≤ j_0 ∧ j_0 < (data6.length : Int)) <|
      asrt ((0 : Int) ≤ j_0 ∧ j_0 < (data6.length : Int)) <|
      asrt ((0 : Int) ≤ (IntKind.i64.wrap (j_0 - (1 : Int))) ∧ (IntKind.i64.wrap (j_0 - (1 : Int))) < ((data6.set (Int.toNat j_0) (data6.getD (Int.toNat (IntKind.i64.wrap (j_0 - (1 : Int)))) default)).length : Int)) <|
      (((
        some ((data6.set (Int.toNat j_0) (data6.getD (Int.toNat (IntKind.i64.wrap (j_0 - (1 : Int)))) default)).set (Int.toNat (IntKind.i64.wrap (j_0 - (1 : Int)))) (data6.getD (Int.toNat j_0) default))) : Option (List Span))).bind fun e => match e with
      | data7 =>
        (some (.inl (data7, (IntKind.i64.wrap (j_0 - (1 : Int))))))))
  else (
    some (.inr data6))

def M.slices_partialInsertionSortCmpFunc_impl_Span_l3 (b_ : Int) (fm : Span → Span → Option Int) : (List Span × Int) → Option ((List Span × Int) ⊕ (List Span)) := fun st_ => match st_ with
| (data9, j_1) =>
  bif (decide (j_1 < b_)) then (
    asrt ((0 : Int) ≤ j_1 ∧ j_1 < (data9.length : Int)) <|
    asrt ((0 : Int) ≤ (IntKind.i64.wrap (j_1 - (1 : Int))) ∧ (IntKind.i64.wrap (j_1 - (1 : Int))) < (data9.length : Int)) <|
    (fm (data9.getD (Int.toNat j_1) default) (data9.getD (Int.toNat (IntKind.i64.wrap (j_1 - (1 : Int)))) default)).bind fun y6 =>
    bif (!(decide (y6 < (0 : Int)))) then (
      some (.inr data9))
    else (
      asrt ((0 : Int) ≤ (IntKind.i64.wrap (j_1 - (1 : Int))) ∧ (IntKind.i64.wrap (j_1 - (1 : Int))) < (data9.length : Int)) <|
      asrt ((0 : Int) ≤ j_1 ∧ j_1 < (data9.length : Int)) <|
      asrt ((0 : Int) ≤ j_1 ∧ j_1 < (data9.length : Int)) <|
      asrt ((0 : Int) ≤ (IntKind.i64.wrap (j_1 - (1 : Int))) ∧ (IntKind.i64.wrap (j_1 - (1 : Int))) < ((data9.set (Int.toNat j_1) (data9.getD (Int.toNat (IntKind.i64.wrap (j_1 - (1 : Int)))) default)).length : Int)) <|
      (((
        some ((data9.set (Int.toNat j_1) (data9.getD (Int.toNat (IntKind.i64.wrap (j_1 - (1 : Int)))) default)).set (Int.toNat (IntKind.i64.wrap (j_1 - (1 : Int)))) (data9.getD (Int.toNat j_1) default))) : Option (List Span))).bind fun e => match e with
      | data10 =>
        (some (.inl (data10, (IntKind.i64.wrap (j_1 + (1 : Int))))))))
  else (
    some (.inr data9))

def M.slices_partialInsertionSortCmpFunc_impl_Span_l0 (a : Int) (b_ : Int) (fm : Span → Span → Option Int) : (List Span × Int × Int) → Option ((List Span × Int × Int) ⊕ ((List Span) ⊕ (Bool × List Span))) := fun st_ => match st_ with
| (data1, i, j_) =>
  bif (decide (j_ < (5 : Int))) then (
    (((
      (iterO (M.slices_partialInsertionSortCmpFunc_impl_Span_l1 b_ fm data1) i).bind fun e => match e with
      | i1 =>
        (bif (i1 == b_) then (
          some (.inr (true, data1)))
        else (
          bif (decide ((IntKind.i64.wrap (b_ - a)) < (50 : Int))) then (
            some (.inr (false, data1)))
          else (
            asrt ((0 : Int) ≤ (IntKind.i64.wrap (i1 - (1 : Int))) ∧ (IntKind.i64.wrap (i1 - (1 : Int))) < (data1.length : Int)) <|
            asrt ((0 : Int) ≤ i1 ∧ i1 < (data1.length : Int)) <|
            asrt ((0 : Int) ≤ i1 ∧ i1 < (data1.length : Int)) <|
            asrt ((0 : Int) ≤ (IntKind.i64.wrap (i1 - (1 : Int))) ∧ (IntKind.i64.wrap (i1 - (1 : Int))) < ((data1.set (Int.toNat i1) (data1.getD (Int.toNat (IntKind.i64.wrap (i1 - (1 : Int)))) default)).length : Int)) <|
            (((
              some ((data1.set (Int.toNat i1) (data1.getD (Int.toNat (IntKind.i64.wrap (i1 - (1 : Int)))) default)).set (Int.toNat (IntKind.i64.wrap (i1 - (1 : Int)))) (data1.getD (Int.toNat i1) default))) : Option (List Span))).bind fun e => match e with
            | data3 =>
              ((((
                bif (decide ((IntKind.i64.wrap (i1 - a)) ≥ (2 : Int))) then (
                  (iterO (M.slices_partialInsertionSortCmpFunc_impl_Span_l2 fm) (data3, (IntKind.i64.wrap (i1 - (1 : Int))))).bind fun e => match e with
                  | data5 =>
                    (some data5))
                else (
                  some data3)) : Option (List Span))).bind fun e => match e with
              | data4 =>
                (bif (decide ((IntKind.i64.wrap (b_ - i1)) ≥ (2 : Int))) then (
                  (iterO (M.slices_partialInsertionSortCmpFunc_impl_Span_l3 b_ fm) (data4, (IntKind.i64.wrap (i1 + (1 : Int))))).bind fun e => match e with
                  | data8 =>
                    (some (.inl (data8, i1))))
                else (
                  some (.inl (data4, i1))))))))) : Option ((List Span × Int) ⊕ (Bool × List Span)))).bind fun e => match e with
    | .inl (data2, i0) =>
      (some (.inl (data2, i0, (IntKind.i64.wrap (j_ + (1 : Int))))))
    | .inr r => some (.inr (.inr r)))
  else (
    some (.inr (.inl data1)))

def M.slices_partialInsertionSortCmpFunc_impl_Span (data : List Span) (a : Int) (b_ : Int) (fm : Span → Span → Option Int) : Option (Bool × List Span) :=
  asrt (0 < List.length data) <|
  (iterO (M.slices_partialInsertionSortCmpFunc_impl_Span_l0 a b_ fm) (data, (IntKind.i64.wrap (a + (1 : Int))), (0 : Int))).bind fun e => match e with
  | .inl data0 =>
    (some (false, data0))
  | .inr r => some r

def M.slices_pdqsortCmpFunc_impl_Span_l0 (data : List Span) (fm : Span → Span → Option Int) : (Int × Int × Int × Bool × Bool) → Option ((Int × Int × Int × Bool × Bool) ⊕ (List Span)) := fun st_ => match st_ with
| (a0, b_0, limit0, wasBalanced, wasPartitioned) =>
  bif (decide ((IntKind.i64.wrap (b_0 - a0)) ≤ (12 : Int))) then (
    (M.slices_insertionSortCmpFunc_impl_Span data a0 b_0 fm).bind fun y1 =>
    asrt (y1.length = data.length) <|
    some (.inr y1))
  else (
    asrt ((limit0 == (0 : Int)) = false) <|
    (((
      asrt ((!wasBalanced) = false) <|
      some ()) : Option Unit)).bind fun e => match e with
    | () =>
      ((M.slices_choosePivotCmpFunc_impl_Span data a0 b_0 fm).bind fun y2 =>
      (((
        asrt ((y2.2 == (2 : Int)) = false) <|
        some ()) : Option Unit)).bind fun e => match e with
      | () =>
        (asrt (((wasBalanced && wasPartitioned) && (y2.2 == (1 : Int))) = true) <|
        (M.slices_partialInsertionSortCmpFunc_impl_Span data a0 b_0 fm).bind fun y3 =>
        asrt (y3.2.length = data.length) <|
        asrt (y3.1 = true) <|
        some (.inr y3.2))))

def M.slices_pdqsortCmpFunc_impl_Span (data : List Span) (a : Int) (b_ : Int) (limit : Int) (fm : Span → Span → Option Int) : Option (List Span) :=
  (iterO (M.slices_pdqsortCmpFunc_impl_Span_l0 data fm) (a, b_, limit, true, true)).bind fun e => match e with
  | r => some r

def M.slices_SortFunc_impl_Span_impl_Span (x : List Span) (fm : Span → Span → Option Int) : Option (List Span) :=
  (M.math_bits_Len (IntKind.u64.wrap (x.length : Int))).bind fun y0 =>
  (M.slices_pdqsortCmpFunc_impl_Span x (0 : Int) (x.length : Int) y0 fm).bind fun y1 =>
  asrt (y1.length = x.length) <|
  some y1

def M.cmp_isNaN_int (x : Int) : Option Bool :=
  some (x != x)

def M.cmp_Compare_int (x : Int) (y : Int) : Option Int :=
  (M.cmp_isNaN_int x).bind fun y0 =>
  (M.cmp_isNaN_int y).bind fun y1 =>
  bif y0 then (
    bif y1 then (
      some (0 : Int))
    else (
      some (-1 : Int)))
  else (
    bif y1 then (
      some (1 : Int))
    else (
      bif (decide (x < y)) then (
        some (-1 : Int))
      else (
        bif (decide (x > y)) then (
          some (1 : Int))
        else (
          some (0 : Int)))))

def M.impl_HideWord_1 (a : Span) (b_ : Span) : Option Int :=
  (M.cmp_Compare_int a.From b_.From).bind fun y0 =>
  some y0

def M.impl_HideWord_l0 (spans : List Span) (word : List UInt8) (reason : Int) (y4 : List Int) : (List Span × Int) → Option ((List Span × Int) ⊕ (List Span)) := fun st_ => match st_ with
| (out_0, v) =>
  bif (decide (v < (y4.length : Int))) then (
    (((
      asrt ((0 : Int) ≤ v ∧ v < (y4.length : Int)) <|
      (M.impl_isTouched spans (y4.getD (Int.toNat v) default) (IntKind.i64.wrap ((y4.getD (Int.toNat v) default) + (word.length : Int)))).bind fun y6 =>
      bif (!y6) then (
        asrt ((out_0.length : Int) + (([(⟨(y4.getD (Int.toNat v) default), (IntKind.i64.wrap ((y4.getD (Int.toNat v) default) + (word.length : Int))), reason⟩ : Span)] : List Span).length : Int) ≤ 2147483648) <|
        some (out_0 ++ ([(⟨(y4.getD (Int.toNat v) default), (IntKind.i64.wrap ((y4.getD (Int.toNat v) default) + (word.length : Int))), reason⟩ : Span)] : List Span)))
      else (
        some out_0)) : Option (List Span))).bind fun e => match e with
    | out_1 =>
      (some (.inl (out_1, (IntKind.i64.wrap (v + (1 : Int)))))))
  else (
    some (.inr out_0))

def M.impl_HideWord (text : List UInt8) (spans : List Span) (word : List UInt8) (reason : Int) : Option (List Span × Bool) :=
  (M.impl_AreSpans text spans).bind fun y0 =>
  ((bif (!y0) then some default else M.impl_isWord word)).bind fun y1 =>
  ((bif ((!y0) || (!y1)) then some default else M.impl_isReason reason)).bind fun y2 =>
  bif (((!y0) || (!y1)) || (!y2)) then (
    some (([] : List Span), false))
  else (
    (M.slices_Clone_impl_Span_impl_Span spans).bind fun y3 =>
    (M.impl_placesOf text word).bind fun y4 =>
    (iterO (M.impl_HideWord_l0 spans word reason y4) (y3, (0 : Int))).bind fun e => match e with
    | out_ =>
      ((M.slices_SortFunc_impl_Span_impl_Span out_ (fun x0 x1 => M.impl_HideWord_1 x0 x1)).bind fun y7 =>
      asrt (y7.length = out_.length) <|
      (M.impl_AreSpans text y7).bind fun y8 =>
      bif (!y8) then (
        some (([] : List Span), false))
      else (
        some (y7, true))))

def M.spec_l1In (x : Int) (a : Int) (b_ : Int) : Option Bool :=
  some ((decide (x ≥ a)) && (decide (x ≤ b_)))

def M.spec_l15Letter (b_ : Int) : Option Bool :=
  some ((decide (b_ ≥ (97 : Int))) && (decide (b_ ≤ (122 : Int))))

def M.spec_l15Text_l0 (text : List UInt8) : (Int) → Option ((Int) ⊕ ((Unit) ⊕ (Bool))) := fun st_ => match st_ with
| i =>
  bif (decide (i < (text.length : Int))) then (
    asrt ((0 : Int) ≤ i ∧ i < (text.length : Int)) <|
    (M.spec_l15Letter ((text.getD (Int.toNat i) 0).toNat : Int)).bind fun y1 =>
    asrt ((!y1) = true → ((0 : Int) ≤ i ∧ i < (text.length : Int))) <|
    bif ((!y1) && (((text.getD (Int.toNat i) 0).toNat : Int) != (32 : Int))) then (
      some (.inr (.inr false)))
    else (
      some (.inl (IntKind.i64.wrap (i + (1 : Int))))))
  else (
    some (.inr (.inl ())))

def M.spec_l15Text (text : List UInt8) : Option Bool :=
  (iterO (M.spec_l15Text_l0 text) (0 : Int)).bind fun e => match e with
  | .inl () =>
    (some (decide ((text.length : Int) ≤ (100 : Int))))
  | .inr r => some r

def M.spec_l15Good_l0 (text : List UInt8) (spans : List Span) : (Int) → Option ((Int) ⊕ ((Unit) ⊕ (Bool))) := fun st_ => match st_ with
| i =>
  bif (decide (i < (spans.length : Int))) then (
    asrt ((0 : Int) ≤ i ∧ i < (spans.length : Int)) <|
    (M.spec_l1In ((spans.getD (Int.toNat i) default).To) (1 : Int) (text.length : Int)).bind fun y1 =>
    ((bif (!y1) then some default else M.spec_l1In ((spans.getD (Int.toNat i) default).From) (0 : Int) (IntKind.i64.wrap (((spans.getD (Int.toNat i) default).To) - (1 : Int))))).bind fun y2 =>
    ((bif ((!y1) || (!y2)) then some default else M.spec_l1In ((spans.getD (Int.toNat i) default).Reason) (1 : Int) (9 : Int))).bind fun y3 =>
    asrt ((((!y1) || (!y2)) || (!y3)) = false → (decide (i > (0 : Int))) = true → ((0 : Int) ≤ (IntKind.i64.wrap (i - (1 : Int))) ∧ (IntKind.i64.wrap (i - (1 : Int))) < (spans.length : Int))) <|
    bif ((((!y1) || (!y2)) || (!y3)) || ((decide (i > (0 : Int))) && (decide (((spans.getD (Int.toNat (IntKind.i64.wrap (i - (1 : Int)))) default).To) > ((spans.getD (Int.toNat i) default).From))))) then (
      some (.inr (.inr false)))
    else (
      some (.inl (IntKind.i64.wrap (i + (1 : Int))))))
  else (
    some (.inr (.inl ())))

def M.spec_l15Good (text : List UInt8) (spans : List Span) : Option Bool :=
  (iterO (M.spec_l15Good_l0 text spans) (0 : Int)).bind fun e => match e with
  | .inl () =>
    ((M.spec_l15Text text).bind fun y4 =>
    some (y4 && (decide ((spans.length : Int) ≤ (8 : Int)))))
  | .inr r => some r

def M.spec_l2Word_l0 (s : List UInt8) : (Int) → Option ((Int) ⊕ ((Unit) ⊕ (Bool))) := fun st_ => match st_ with
| i =>
  bif (decide (i < (s.length : Int))) then (
    asrt ((0 : Int) ≤ i ∧ i < (s.length : Int)) <|
    asrt ((decide (((s.getD (Int.toNat i) 0).toNat : Int) < (97 : Int))) = false → ((0 : Int) ≤ i ∧ i < (s.length : Int))) <|
    bif ((decide (((s.getD (Int.toNat i) 0).toNat : Int) < (97 : Int))) || (decide (((s.getD (Int.toNat i) 0).toNat : Int) > (122 : Int)))) then (
      some (.inr (.inr false)))
    else (
      some (.inl (IntKind.i64.wrap (i + (1 : Int))))))
  else (
    some (.inr (.inl ())))

def M.spec_l2Word (s : List UInt8) : Option Bool :=
  (iterO (M.spec_l2Word_l0 s) (0 : Int)).bind fun e => match e with
  | .inl () =>
    ((M.spec_l1In (s.length : Int) (1 : Int) (10 : Int)).bind fun y1 =>
    some y1)
  | .inr r => some r

def M.spec_l15Places_l0 (text : List UInt8) (word : List UInt8) : (List Int × Int) → Option ((List Int × Int) ⊕ (List Int)) := fun st_ => match st_ with
| (out_0, i) =>
  bif (decide ((IntKind.i64.wrap (i + (word.length : Int))) ≤ (text.length : Int))) then (
    (((
      asrt ((0 : Int) ≤ i ∧ i ≤ (IntKind.i64.wrap (i + (word.length : Int))) ∧ (IntKind.i64.wrap (i + (word.length : Int))) ≤ (text.length : Int)) <|
      asrt ((!((slc text i (IntKind.i64.wrap (i + (word.length : Int)))) == word)) = false → (decide (i > (0 : Int))) = true → ((0 : Int) ≤ (IntKind.i64.wrap (i - (1 : Int))) ∧ (IntKind.i64.wrap (i - (1 : Int))) < (text.length : Int))) <|
      ((bif (!((slc text i (IntKind.i64.wrap (i + (word.length : Int)))) == word)) then some default else (bif (decide (i > (0 : Int))) then M.spec_l15Letter ((text.getD (Int.toNat (IntKind.i64.wrap (i - (1 : Int)))) 0).toNat : Int) else some default))).bind fun y1 =>
      asrt (((!((slc text i (IntKind.i64.wrap (i + (word.length : Int)))) == word)) || ((decide (i > (0 : Int))) && y1)) = false → (decide ((IntKind.i64.wrap (i + (word.length : Int))) < (text.length : Int))) = true → ((0 : Int) ≤ (IntKind.i64.wrap (i + (word.length : Int))) ∧ (IntKind.i64.wrap (i + (word.length : Int))) < (text.length : Int))) <|
      ((bif ((!((slc text i (IntKind.i64.wrap (i + (word.length : Int)))) == word)) || ((decide (i > (0 : Int))) && y1)) then some default else (bif (decide ((IntKind.i64.wrap (i + (word.length : Int))) < (text.length : Int))) then M.spec_l15Letter ((text.getD (Int.toNat (IntKind.i64.wrap (i + (word.length : Int)))) 0).toNat : Int) else some default))).bind fun y2 =>
      bif (((!((slc text i (IntKind.i64.wrap (i + (word.length : Int)))) == word)) || ((decide (i > (0 : Int))) && y1)) || ((decide ((IntKind.i64.wrap (i + (word.length : Int))) < (text.length : Int))) && y2)) then (
        some out_0)
      else (
        asrt ((out_0.length : Int) + (([i] : List Int).length : Int) ≤ 2147483648) <|
        some (out_0 ++ ([i] : List Int)))) : Option (List Int))).bind fun e => match e with
    | out_1 =>
      (some (.inl (out_1, (IntKind.i64.wrap (i + (1 : Int)))))))
  else (
    some (.inr out_0))

def M.spec_l15Places (text : List UInt8) (word : List UInt8) : Option (List Int) :=
  (iterO (M.spec_l15Places_l0 text word) (([] : List Int), (0 : Int))).bind fun e => match e with
  | out_ =>
    (some out_)

def M.spec_l15Touched_l0 (spans : List Span) (from_ : Int) (to_ : Int) : (Int) → Option ((Int) ⊕ ((Unit) ⊕ (Bool))) := fun st_ => match st_ with
| i =>
  bif (decide (i < (spans.length : Int))) then (
    asrt ((0 : Int) ≤ i ∧ i < (spans.length : Int)) <|
    asrt ((decide (((spans.getD (Int.toNat i) default).From) < to_)) = true → ((0 : Int) ≤ i ∧ i < (spans.length : Int))) <|
    bif ((decide (((spans.getD (Int.toNat i) default).From) < to_)) && (decide (from_ < ((spans.getD (Int.toNat i) default).To)))) then (
      some (.inr (.inr true)))
    else (
      some (.inl (IntKind.i64.wrap (i + (1 : Int))))))
  else (
    some (.inr (.inl ())))

def M.spec_l15Touched (spans : List Span) (from_ : Int) (to_ : Int) : Option Bool :=
  (iterO (M.spec_l15Touched_l0 spans from_ to_) (0 : Int)).bind fun e => match e with
  | .inl () =>
    (some false)
  | .inr r => some r

def M.spec_l15Insert_l0 (spans : List Span) (s : Span) : (Int) → Option ((Int) ⊕ (Int)) := fun st_ => match st_ with
| k0 =>
  asrt ((decide (k0 < (spans.length : Int))) = true → ((0 : Int) ≤ k0 ∧ k0 < (spans.length : Int))) <|
  bif ((decide (k0 < (spans.length : Int))) && (decide (((spans.getD (Int.toNat k0) default).From) < s.From))) then (
    some (.inl (IntKind.i64.wrap (k0 + (1 : Int)))))
  else (
    some (.inr k0))

def M.spec_l15Insert (spans : List Span) (s : Span) : Option (List Span) :=
  (iterO (M.spec_l15Insert_l0 spans s) (0 : Int)).bind fun e => match e with
  | k =>
    (asrt ((0 : Int) ≤ (0 : Int) ∧ (0 : Int) ≤ k ∧ k ≤ (spans.length : Int)) <|
    asrt ((([] : List Span).length : Int) + ((slc spans (0 : Int) k).length : Int) ≤ 2147483648) <|
    asrt (((([] : List Span) ++ (slc spans (0 : Int) k)).length : Int) + (([s] : List Span).length : Int) ≤ 2147483648) <|
    asrt ((0 : Int) ≤ k ∧ k ≤ (spans.length : Int) ∧ (spans.length : Int) ≤ (spans.length : Int)) <|
    asrt ((((([] : List Span) ++ (slc spans (0 : Int) k)) ++ ([s] : List Span)).length : Int) + ((slc spans k (spans.length : Int)).length : Int) ≤ 2147483648) <|
    some (((([] : List Span) ++ (slc spans (0 : Int) k)) ++ ([s] : List Span)) ++ (slc spans k (spans.length : Int))))

def M.spec_HideWord_l0 (spans : List Span) (word : List UInt8) (reason : Int) (y3 : List Int) : (List Span × Int) → Option ((List Span × Int) ⊕ (List Span)) := fun st_ => match st_ with
| (out_0, i) =>
  bif (decide (i < (y3.length : Int))) then (
    (((
      asrt ((0 : Int) ≤ i ∧ i < (y3.length : Int)) <|
      asrt ((0 : Int) ≤ i ∧ i < (y3.length : Int)) <|
      (M.spec_l15Touched spans (y3.getD (Int.toNat i) default) (IntKind.i64.wrap ((y3.getD (Int.toNat i) default) + (word.length : Int)))).bind fun y5 =>
      bif (!y5) then (
        asrt ((0 : Int) ≤ i ∧ i < (y3.length : Int)) <|
        (M.spec_l15Insert out_0 (⟨(y3.getD (Int.toNat i) default), (IntKind.i64.wrap ((y3.getD (Int.toNat i) default) + (word.length : Int))), reason⟩ : Span)).bind fun y6 =>
        some y6)
      else (
        some out_0)) : Option (List Span))).bind fun e => match e with
    | out_1 =>
      (some (.inl (out_1, (IntKind.i64.wrap (i + (1 : Int)))))))
  else (
    some (.inr out_0))

def M.spec_HideWord (text : List UInt8) (spans : List Span) (word : List UInt8) (reason : Int) : Option (List Span × Bool) :=
  (M.spec_l15Good text spans).bind fun y0 =>
  ((bif (!y0) then some default else M.spec_l2Word word)).bind fun y1 =>
  ((bif ((!y0) || (!y1)) then some default else M.spec_l1In reason (1 : Int) (9 : Int))).bind fun y2 =>
  bif (((!y0) || (!y1)) || (!y2)) then (
    some (([] : List Span), false))
  else (
    (M.spec_l15Places text word).bind fun y3 =>
    asrt ((([] : List Span).length : Int) + (spans.length : Int) ≤ 2147483648) <|
    (iterO (M.spec_HideWord_l0 spans word reason y3) ((([] : List Span) ++ spans), (0 : Int))).bind fun e => match e with
    | out_ =>
      ((M.spec_l15Good text out_).bind fun y7 =>
      bif (!y7) then (
        some (([] : List Span), false))
      else (
        some (out_, true))))

def M.laws_vSpans_l0 (a : List Span) (b_ : List Span) : (Int) → Option ((Int) ⊕ ((Unit) ⊕ (Bool))) := fun st_ => match st_ with
| i =>
  bif (decide (i < (a.length : Int))) then (
    asrt ((0 : Int) ≤ i ∧ i < (a.length : Int)) <|
    asrt ((0 : Int) ≤ i ∧ i < (b_.length : Int)) <|
    bif (!((((a.getD (Int.toNat i) default).From) == ((b_.getD (Int.toNat i) default).From)) && ((((a.getD (Int.toNat i) default).To) == ((b_.getD (Int.toNat i) default).To)) && ((((a.getD (Int.toNat i) default).Reason) == ((b_.getD (Int.toNat i) default).Reason)) && true)))) then (
      some (.inr (.inr false)))
    else (
      some (.inl (IntKind.i64.wrap (i + (1 : Int))))))
  else (
    some (.inr (.inl ())))

def M.laws_vSpans (a : List Span) (b_ : List Span) : Option Bool :=
  bif ((a.length : Int) != (b_.length : Int)) then (
    some false)
  else (
    (iterO (M.laws_vSpans_l0 a b_) (0 : Int)).bind fun e => match e with
    | .inl () =>
      (some true)
    | .inr r => some r)

def M.impl_IsHidden_1 (at_ : Int) (spans : List Span) (word : List UInt8) : Option Bool :=
  (M.impl_isTouched spans at_ (IntKind.i64.wrap (at_ + (word.length : Int)))).bind fun y0 =>
  some (!y0)

def M.slices_IndexFunc_int_int_l0 (s : List Int) (fm : Int → Option Bool) : (Int) → Option ((Int) ⊕ ((Unit) ⊕ (Int))) := fun st_ => match st_ with
| v =>
  bif (decide (v < (s.length : Int))) then (
    asrt ((0 : Int) ≤ v ∧ v < (s.length : Int)) <|
    (fm (s.getD (Int.toNat v) default)).bind fun y1 =>
    bif y1 then (
      some (.inr (.inr v)))
    else (
      some (.inl (IntKind.i64.wrap (v + (1 : Int))))))
  else (
    some (.inr (.inl ())))

def M.slices_IndexFunc_int_int (s : List Int) (fm : Int → Option Bool) : Option Int :=
  (iterO (M.slices_IndexFunc_int_int_l0 s fm) (0 : Int)).bind fun e => match e with
  | .inl () =>
    (some (-1 : Int))
  | .inr r => some r

def M.slices_ContainsFunc_int_int (s : List Int) (fm : Int → Option Bool) : Option Bool :=
  (M.slices_IndexFunc_int_int s fm).bind fun y0 =>
  some (decide (y0 ≥ (0 : Int)))

def M.impl_IsHidden (text : List UInt8) (spans : List Span) (word : List UInt8) : Option (Bool × Bool) :=
  (M.impl_AreSpans text spans).bind fun y0 =>
  ((bif (!y0) then some default else M.impl_isWord word)).bind fun y1 =>
  bif ((!y0) || (!y1)) then (
    some (false, false))
  else (
    (M.impl_placesOf text word).bind fun y2 =>
    (M.slices_ContainsFunc_int_int y2 (fun x0 => M.impl_IsHidden_1 x0 spans word)).bind fun y3 =>
    some ((!y3), true))

def M.spec_l1Cur_one (c : Cur) (n : Int) : Option (Bool × Cur) :=
  (M.spec_l1Cur_pick c n).bind fun y0 =>
  some ((y0.1 == (0 : Int)), y0.2)

def M.spec_DrawIsHidden (code : List Int) : Option (List UInt8 × List Span × List UInt8) :=
  (M.spec_l1Cur_text (⟨code, (0 : Int), (0 : Int)⟩ : Cur)).bind fun y0 =>
  (M.spec_l1Cur_spans y0.2 y0.1).bind fun y1 =>
  (M.spec_l1Cur_wordOf y1.2).bind fun y2 =>
  (M.spec_HideWord y0.1 y1.1 y2.1 (1 : Int)).bind fun y3 =>
  ((bif y3.2 then M.spec_l1Cur_one y2.2 (2 : Int) else some default)).bind fun y4 =>
  bif (y3.2 && y4.1) then (
    some (y0.1, y3.1, y2.1))
  else (
    some (y0.1, y1.1, y2.1))

def M.spec_IsHidden_l0 (spans : List Span) (word : List UInt8) (y2 : List Int) : (Int) → Option ((Int) ⊕ ((Unit) ⊕ (Bool × Bool))) := fun st_ => match st_ with
| i =>
  bif (decide (i < (y2.length : Int))) then (
    asrt ((0 : Int) ≤ i ∧ i < (y2.length : Int)) <|
    asrt ((0 : Int) ≤ i ∧ i < (y2.length : Int)) <|
    (M.spec_l15Touched spans (y2.getD (Int.toNat i) default) (IntKind.i64.wrap ((y2.getD (Int.toNat i) default) + (word.length : Int)))).bind fun y4 =>
    bif (!y4) then (
      some (.inr (.inr (false, true))))
    else (
      some (.inl (IntKind.i64.wrap (i + (1 : Int))))))
  else (
    some (.inr (.inl ())))

def M.spec_IsHidden (text : List UInt8) (spans : List Span) (word : List UInt8) : Option (Bool × Bool) :=
  (M.spec_l15Good text spans).bind fun y0 =>
  ((bif (!y0) then some default else M.spec_l2Word word)).bind fun y1 =>
  bif ((!y0) || (!y1)) then (
    some (false, false))
  else (
    (M.spec_l15Places text word).bind fun y2 =>
    (iterO (M.spec_IsHidden_l0 spans word y2) (0 : Int)).bind fun e => match e with
    | .inl () =>
      (some (true, true))
    | .inr r => some r)

def M.spec_DrawPlacesOfWord (code : List Int) : Option (List UInt8 × List UInt8) :=
  (M.spec_l1Cur_text (⟨code, (0 : Int), (0 : Int)⟩ : Cur)).bind fun y0 =>
  (M.spec_l1Cur_wordOf y0.2).bind fun y1 =>
  some (y0.1, y1.1)

def M.impl_PlacesOfWord (text : List UInt8) (word : List UInt8) : Option (List Int × Bool) :=
  (M.impl_IsText text).bind fun y0 =>
  ((bif (!y0) then some default else M.impl_isWord word)).bind fun y1 =>
  bif ((!y0) || (!y1)) then (
    some (([] : List Int), false))
  else (
    (M.impl_placesOf text word).bind fun y2 =>
    some (y2, true))

def M.spec_PlacesOfWord (text : List UInt8) (word : List UInt8) : Option (List Int × Bool) :=
  (M.spec_l15Text text).bind fun y0 =>
  ((bif (!y0) then some default else M.spec_l2Word word)).bind fun y1 =>
  bif ((!y0) || (!y1)) then (
    some (([] : List Int), false))
  else (
    (M.spec_l15Places text word).bind fun y2 =>
    some (y2, true))

def M.laws_vInts_l0 (a : List Int) (b_ : List Int) : (Int) → Option ((Int) ⊕ ((Unit) ⊕ (Bool))) := fun st_ => match st_ with
| i =>
  bif (decide (i < (a.length : Int))) then (
    asrt ((0 : Int) ≤ i ∧ i < (a.length : Int)) <|
    asrt ((0 : Int) ≤ i ∧ i < (b_.length : Int)) <|
    bif ((a.getD (Int.toNat i) default) != (b_.getD (Int.toNat i) default)) then (
      some (.inr (.inr false)))
    else (
      some (.inl (IntKind.i64.wrap (i + (1 : Int))))))
  else (
    some (.inr (.inl ())))

def M.laws_vInts (a : List Int) (b_ : List Int) : Option Bool :=
  bif ((a.length : Int) != (b_.length : Int)) then (
    some false)
  else (
    (iterO (M.laws_vInts_l0 a b_) (0 : Int)).bind fun e => match e with
    | .inl () =>
      (some true)
    | .inr r => some r)

def M.spec_DrawIsText (code : List Int) : Option (List UInt8) :=
  (M.spec_l1Cur_text (⟨code, (0 : Int), (0 : Int)⟩ : Cur)).bind fun y0 =>
  some y0.1

def M.spec_IsText (text : List UInt8) : Option Bool :=
  (M.spec_l15Text text).bind fun y0 =>
  some y0

def M.laws_FnHiddenWords_l1 (y1 : List UInt8 × List Span × List UInt8 × Int) (y2 : List Span × Bool) (i : Int) : (Bool × Int) → Option ((Bool × Int) ⊕ (Bool)) := fun st_ => match st_ with
| (found0, k) =>
  bif (decide (k < (y2.1.length : Int))) then (
    asrt (found0 = false → ((0 : Int) ≤ k ∧ k < (y2.1.length : Int))) <|
    asrt (found0 = false → ((0 : Int) ≤ i ∧ i < (y1.2.1.length : Int))) <|
    some (.inl ((found0 || ((((y2.1.getD (Int.toNat k) default).From) == ((y1.2.1.getD (Int.toNat i) default).From)) && ((((y2.1.getD (Int.toNat k) default).To) == ((y1.2.1.getD (Int.toNat i) default).To)) && ((((y2.1.getD (Int.toNat k) default).Reason) == ((y1.2.1.getD (Int.toNat i) default).Reason)) && true)))), (IntKind.i64.wrap (k + (1 : Int))))))
  else (
    some (.inr found0))

def M.laws_FnHiddenWords_l0 (y1 : List UInt8 × List Span × List UInt8 × Int) (y2 : List Span × Bool) : (Int) → Option ((Int) ⊕ ((Unit) ⊕ (Bool))) := fun st_ => match st_ with
| i =>
  bif (decide (i < (y1.2.1.length : Int))) then (
    (iterO (M.laws_FnHiddenWords_l1 y1 y2 i) (false, (0 : Int))).bind fun e => match e with
    | found =>
      (bif (!found) then (
        some (.inr (.inr false)))
      else (
        some (.inl (IntKind.i64.wrap (i + (1 : Int)))))))
  else (
    some (.inr (.inl ())))

def M.laws_FnHiddenWords_l2 (y11 : List UInt8 × List UInt8) (y12 : List Int × Bool) : (Int) → Option ((Int) ⊕ ((Unit) ⊕ (Bool))) := fun st_ => match st_ with
| i0 =>
  bif (decide (i0 < (y12.1.length : Int))) then (
    asrt ((0 : Int) ≤ i0 ∧ i0 < (y12.1.length : Int)) <|
    asrt ((0 : Int) ≤ i0 ∧ i0 < (y12.1.length : Int)) <|
    asrt ((0 : Int) ≤ (y12.1.getD (Int.toNat i0) default) ∧ (y12.1.getD (Int.toNat i0) default) ≤ (IntKind.i64.wrap ((y12.1.getD (Int.toNat i0) default) + (y11.2.length : Int))) ∧ (IntKind.i64.wrap ((y12.1.getD (Int.toNat i0) default) + (y11.2.length : Int))) ≤ (y11.1.length : Int)) <|
    bif (!((slc y11.1 (y12.1.getD (Int.toNat i0) default) (IntKind.i64.wrap ((y12.1.getD (Int.toNat i0) default) + (y11.2.length : Int)))) == y11.2)) then (
      some (.inr (.inr false)))
    else (
      some (.inl (IntKind.i64.wrap (i0 + (1 : Int))))))
  else (
    some (.inr (.inl ())))

def M.laws_FnHiddenWords (code : List Int) : Option Bool :=
  (M.laws_vBig code).bind fun y0 =>
  bif y0 then (
    some true)
  else (
    (M.spec_DrawHideWord code).bind fun y1 =>
    (M.impl_HideWord y1.1 y1.2.1 y1.2.2.1 y1.2.2.2).bind fun y2 =>
    (M.spec_HideWord y1.1 y1.2.1 y1.2.2.1 y1.2.2.2).bind fun y3 =>
    ((bif (!(y2.2 == y3.2)) then some default else M.laws_vSpans y2.1 y3.1)).bind fun y4 =>
    bif ((!(y2.2 == y3.2)) || (!y4)) then (
      some false)
    else (
      (((
        bif y2.2 then (
          (M.impl_IsHidden y1.1 y2.1 y1.2.2.1).bind fun y5 =>
          (iterO (M.laws_FnHiddenWords_l0 y1 y2) (0 : Int)).bind fun e => match e with
          | .inl () =>
            (bif ((!y5.2) || (!y5.1)) then (
              some (.inr false))
            else (
              some (.inl ())))
          | .inr r => some (.inr r))
        else (
          some (.inl ()))) : Option ((Unit) ⊕ (Bool)))).bind fun e => match e with
      | .inl () =>
        ((M.spec_DrawIsHidden code).bind fun y8 =>
        (M.impl_IsHidden y8.1 y8.2.1 y8.2.2).bind fun y9 =>
        (M.spec_IsHidden y8.1 y8.2.1 y8.2.2).bind fun y10 =>
        bif ((!(y9.1 == y10.1)) || (!(y9.2 == y10.2))) then (
          some false)
        else (
          (M.spec_DrawPlacesOfWord code).bind fun y11 =>
          (M.impl_PlacesOfWord y11.1 y11.2).bind fun y12 =>
          (M.spec_PlacesOfWord y11.1 y11.2).bind fun y13 =>
          ((bif (!(y12.2 == y13.2)) then some default else M.laws_vInts y12.1 y13.1)).bind fun y14 =>
          bif ((!(y12.2 == y13.2)) || (!y14)) then (
            some false)
          else (
            (iterO (M.laws_FnHiddenWords_l2 y11 y12) (0 : Int)).bind fun e => match e with
            | .inl () =>
              ((((
                bif y12.2 then (
                  (M.impl_IsHidden y11.1 ([] : List Span) y11.2).bind fun y16 =>
                  bif ((!y16.2) || (!(y16.1 == ((y12.1.length : Int) == (0 : Int))))) then (
                    some (.inr false))
                  else (
                    some (.inl ())))
                else (
                  some (.inl ()))) : Option ((Unit) ⊕ (Bool)))).bind fun e => match e with
              | .inl () =>
                ((M.spec_DrawIsText code).bind fun y17 =>
                (M.impl_IsText y17).bind fun y18 =>
                (M.spec_IsText y17).bind fun y19 =>
                some (y18 == y19))
              | .inr r => some r)
            | .inr r => some r)))
      | .inr r => some r))
end Go.Proofs.YteocnbeefedbkaaDoor
