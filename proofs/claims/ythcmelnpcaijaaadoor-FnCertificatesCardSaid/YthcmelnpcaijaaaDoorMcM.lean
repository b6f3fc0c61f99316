/- models of the functions -/
import Derived.Test.YthcmelnpcaijaaaDoorWt
set_option linter.unusedSimpArgs false
set_option linter.unusedVariables false
set_option maxRecDepth 100000
namespace Go.Proofs.YthcmelnpcaijaaaDoor
open Go.VS

structure Cur where
  Code : List Int
  At : Int
  Seed : Int
  deriving Inhabited, DecidableEq

abbrev encCur (ρ : Nat) (c : Cur) : PV := .agg [.vl ρ 1 (List.map encU8 c.Code), .int .i64 c.At, .int .u64 c.Seed]

def M.laws_vBig (code : List Int) : Option Bool :=
  some (decide ((code.length : Int) > (65536 : Int)))

def M.spec_l1Cur_next (c : Cur) : Option (Int × Cur) :=
  (((
    bif (decide (c.At < (c.Code.length : Int))) then (
      asrt ((0 : Int) ≤ c.At ∧ c.At < (c.Code.length : Int)) <|
      some (IntKind.i64.wrap (c.Code.getD (Int.toNat c.At) default)))
    else (
      some (0 : Int))) : Option Int)).bind fun e => match e with
  | b_ =>
    (bif (decide ((IntKind.i64.wrap (c.At + (1 : Int))) ≤ (c.Code.length : Int))) then (
      some (b_, (⟨c.Code, (IntKind.i64.wrap (c.At + (1 : Int))), (IntKind.u64.wrap ((IntKind.u64.wrap ((IntKind.u64.wrap (c.Seed * (6364136223846793005 : Int))) + (IntKind.u64.wrap b_))) + (103535 : Int)))⟩ : Cur)))
    else (
      some ((IntKind.i64.wrap (IntKind.u64.wrap (BitVec.ofInt IntKind.u64.bits (Int.fdiv (IntKind.u64.wrap ((IntKind.u64.wrap ((IntKind.u64.wrap (c.Seed * (6364136223846793005 : Int))) + (IntKind.u64.wrap b_))) + (103535 : Int))) (2 ^ (min (Int.toNat (40 : Int)) IntKind.u64.bits))) &&& BitVec.ofInt IntKind.u64.bits (255 : Int)).toNat)), (⟨c.Code, (IntKind.i64.wrap (c.At + (1 : Int))), (IntKind.u64.wrap ((IntKind.u64.wrap ((IntKind.u64.wrap (c.Seed * (6364136223846793005 : Int))) + (IntKind.u64.wrap b_))) + (103535 : Int)))⟩ : Cur))))

def M.spec_l1Cur_pick (c : Cur) (n : Int) : Option (Int × Cur) :=
  bif (decide (n ≤ (1 : Int))) then (
    some ((0 : Int), c))
  else (
    (M.spec_l1Cur_next c).bind fun y0 =>
    (((
      bif (decide (n > (200 : Int))) then (
        (M.spec_l1Cur_next y0.2).bind fun y1 =>
        some ((IntKind.i64.wrap ((IntKind.i64.wrap (y0.1 * (256 : Int))) + y1.1)), y1.2))
      else (
        some (y0.1, y0.2))) : Option (Int × Cur))).bind fun e => match e with
    | (x, c_) =>
      (asrt (n ≠ 0) <|
      some ((Int.tmod x n), c_)))

def M.spec_l1Cur_of (c : Cur) (list : List (List UInt8)) : Option (List UInt8 × Cur) :=
  (M.spec_l1Cur_pick c (list.length : Int)).bind fun y0 =>
  asrt ((0 : Int) ≤ y0.1 ∧ y0.1 < (list.length : Int)) <|
  some ((list.getD (Int.toNat y0.1) default), y0.2)

def M.spec_l1Cur_entry (c : Cur) : Option (List UInt8 × Cur) :=
  (M.spec_l1Cur_of c ([[114, 49, 32, 115, 51, 32, 100, 52, 48, 48], [114, 49, 50, 32, 115, 51, 32, 100, 52, 48, 48], [114, 49, 50, 32, 115, 51, 32, 100, 52, 48, 49], [97], [110, 111, 114, 116, 104, 45, 55], [114, 57, 57, 57, 32, 115, 57, 57, 32, 100, 50, 48, 48, 48, 48], [120, 32, 121], [], [65], [114, 49, 44, 115, 50]] : List (List UInt8))).bind fun y0 =>
  some (y0.1, y0.2)

def M.spec_l1Cur_ledger_l0 : (List (List UInt8) × Int × Cur) → Option ((List (List UInt8) × Int × Cur) ⊕ (List (List UInt8) × Cur)) := fun st_ => match st_ with
| (out_0, n_, c_0) =>
  bif (decide (n_ > (0 : Int))) then (
    (M.spec_l1Cur_of c_0 ([[114, 49, 32, 115, 51, 32, 100, 52, 48, 48], [114, 49, 50, 32, 115, 51, 32, 100, 52, 48, 48], [114, 49, 50, 32, 115, 51, 32, 100, 52, 48, 49], [97], [110, 111, 114, 116, 104, 45, 55], [98]] : List (List UInt8))).bind fun y2 =>
    asrt ((out_0.length : Int) + (([y2.1] : List (List UInt8)).length : Int) ≤ 2147483648) <|
    some (.inl ((out_0 ++ ([y2.1] : List (List UInt8))), (IntKind.i64.wrap (n_ - (1 : Int))), y2.2)))
  else (
    some (.inr (out_0, c_0)))

def M.spec_l1Cur_ledger_l1 : (List (List UInt8) × Cur) → Option ((List (List UInt8) × Cur) ⊕ (List (List UInt8) × Cur)) := fun st_ => match st_ with
| (out_3, c_3) =>
  (M.spec_l1Cur_pick c_3 (2 : Int)).bind fun y6 =>
  bif (decide ((out_3.length : Int) < (IntKind.i64.wrap ((8 : Int) + y6.1)))) then (
    asrt ((out_3.length : Int) + (([[122]] : List (List UInt8)).length : Int) ≤ 2147483648) <|
    some (.inl ((out_3 ++ ([[122]] : List (List UInt8))), y6.2)))
  else (
    some (.inr (out_3, y6.2)))

def M.spec_l1Cur_ledger (c : Cur) : Option (List (List UInt8) × Cur) :=
  (M.spec_l1Cur_pick c (7 : Int)).bind fun y0 =>
  (iterO (M.spec_l1Cur_ledger_l0) (([] : List (List UInt8)), (IntKind.i64.wrap ((1 : Int) + y0.1)), y0.2)).bind fun e => match e with
  | (out_, c_) =>
    ((M.spec_l1Cur_pick c_ (32 : Int)).bind fun y3 =>
    (((
      bif (y3.1 == (0 : Int)) then (
        (M.spec_l1Cur_entry y3.2).bind fun y4 =>
        asrt ((out_.length : Int) + (([y4.1] : List (List UInt8)).length : Int) ≤ 2147483648) <|
        some ((out_ ++ ([y4.1] : List (List UInt8))), y4.2))
      else (
        bif (y3.1 == (1 : Int)) then (
          some (([] : List (List UInt8)), y3.2))
        else (
          bif (y3.1 == (2 : Int)) then (
            (iterO (M.spec_l1Cur_ledger_l1) (out_, y3.2)).bind fun e => match e with
            | (out_2, c_2) =>
              (some (out_2, c_2)))
          else (
            some (out_, y3.2))))) : Option (List (List UInt8) × Cur))).bind fun e => match e with
    | (out_1, c_1) =>
      (some (out_1, c_1)))

def M.spec_DrawIsLedger (code : List Int) : Option (List (List UInt8)) :=
  (M.spec_l1Cur_ledger (⟨code, (0 : Int), (0 : Int)⟩ : Cur)).bind fun y0 =>
  some y0.1

def M.spec_DrawRootOf (code : List Int) : Option (List (List UInt8)) :=
  (M.spec_DrawIsLedger code).bind fun y0 =>
  some y0

def M.impl_within (n : Int) (low : Int) (high : Int) : Option Bool :=
  some ((decide (low ≤ n)) && (decide (n ≤ high)))

def M.slices_IndexFunc_string_string_l0 (s : List (List UInt8)) (fm : (List UInt8) → Option Bool) : (Int) → Option ((Int) ⊕ ((Unit) ⊕ (Int))) := fun st_ => match st_ with
| v =>
  bif (decide (v < (s.length : Int))) then (
    asrt ((0 : Int) ≤ v ∧ v < (s.length : Int)) <|
    (fm (s.getD (Int.toNat v) default)).bind fun y1 =>
    bif y1 then (
      some (.inr (.inr v)))
    else (
      some (.inl (IntKind.i64.wrap (v + (1 : Int))))))
  else (
    some (.inr (.inl ())))

def M.slices_IndexFunc_string_string (s : List (List UInt8)) (fm : (List UInt8) → Option Bool) : Option Int :=
  (iterO (M.slices_IndexFunc_string_string_l0 s fm) (0 : Int)).bind fun e => match e with
  | .inl () =>
    (some (-1 : Int))
  | .inr r => some r

def M.slices_ContainsFunc_string_string (s : List (List UInt8)) (fm : (List UInt8) → Option Bool) : Option Bool :=
  (M.slices_IndexFunc_string_string s fm).bind fun y0 =>
  some (decide (y0 ≥ (0 : Int)))

def M.strings_Trim (s cutset : List UInt8) : Option (List UInt8) := asrt (s.length ≤ 9223372036854775807 ∧ cutset.length < 4294967281 ∧ cutset.all (fun b => decide (b.toNat < 128)) = true) <| some (Go.Lib.trimS s cutset)

def M.impl_isEntry (entry : List UInt8) : Option Bool :=
  (M.impl_within (entry.length : Int) (1 : Int) (40 : Int)).bind fun y0 =>
  ((bif y0 then M.strings_Trim entry ([97, 98, 99, 100, 101, 102, 103, 104, 105, 106, 107, 108, 109, 110, 111, 112, 113, 114, 115, 116, 117, 118, 119, 120, 121, 122, 48, 49, 50, 51, 52, 53, 54, 55, 56, 57, 32, 45]) else some default)).bind fun y1 =>
  some (y0 && (y1 == ([])))

def M.impl_IsLedger_1 (entry : List UInt8) : Option Bool :=
  (M.impl_isEntry entry).bind fun y0 =>
  some (!y0)

def M.impl_IsLedger (list : List (List UInt8)) : Option Bool :=
  (M.impl_within (list.length : Int) (1 : Int) (8 : Int)).bind fun y0 =>
  ((bif y0 then M.slices_ContainsFunc_string_string list (fun x0 => M.impl_IsLedger_1 x0) else some default)).bind fun y1 =>
  some (y0 && (!y1))

def M.impl_checksum_l0 (s : List UInt8) : (Int × Int) → Option ((Int × Int) ⊕ (Int)) := fun st_ => match st_ with
| (h_0, v) =>
  bif (decide (v < (s.length : Int))) then (
    asrt ((0 : Int) ≤ v ∧ v < (s.length : Int)) <|
    some (.inl ((Int.tmod (IntKind.i64.wrap ((IntKind.i64.wrap ((IntKind.i64.wrap ((41 : Int) * h_0)) + (IntKind.i64.wrap ((s.getD (Int.toNat v) 0).toNat : Int)))) + (1 : Int))) (999979 : Int)), (IntKind.i64.wrap (v + (1 : Int))))))
  else (
    some (.inr h_0))

def M.impl_checksum (s : List UInt8) : Option Int :=
  (iterO (M.impl_checksum_l0 s) ((7 : Int), (0 : Int))).bind fun e => match e with
  | h_ =>
    (some h_)

def M.impl_Checksum (s : List UInt8) : Option (Int × Bool) :=
  bif (decide ((s.length : Int) > (4000 : Int))) then (
    some ((0 : Int), false))
  else (
    (M.impl_checksum s).bind fun y0 =>
    some (y0, true))

def M.impl_entryHash (entry : List UInt8) : Option Int :=
  asrt (([108]).length + entry.length ≤ 9223372036854775807) <|
  (M.impl_Checksum (([108]) ++ entry)).bind fun y0 =>
  some y0.1

def M.impl_hashesOf_l0 (list : List (List UInt8)) : (List Int × Int) → Option ((List Int × Int) ⊕ (List Int)) := fun st_ => match st_ with
| (out_0, v) =>
  bif (decide (v < (list.length : Int))) then (
    asrt ((0 : Int) ≤ v ∧ v < (list.length : Int)) <|
    (M.impl_entryHash (list.getD (Int.toNat v) default)).bind fun y1 =>
    asrt ((out_0.length : Int) + (([y1] : List Int).length : Int) ≤ 2147483648) <|
    some (.inl ((out_0 ++ ([y1] : List Int)), (IntKind.i64.wrap (v + (1 : Int))))))
  else (
    some (.inr out_0))

def M.impl_hashesOf (list : List (List UInt8)) : Option (List Int) :=
  (iterO (M.impl_hashesOf_l0 list) (([] : List Int), (0 : Int))).bind fun e => match e with
  | out_ =>
    (some out_)

def M.slices_Chunk_int_int (s : List Int) (n : Int) : Option (List (List Int)) := asrt (n = 2 ∧ s.length ≤ 2147483648) <| some (chunk2 s)

def M.strconv_Itoa (n : Int) : Option (List UInt8) := asrt (-9223372036854775808 ≤ n ∧ n ≤ 9223372036854775807) <| some (Go.Lib.itoa n)

def M.impl_decimal (n : Int) : Option (List UInt8) :=
  (M.strconv_Itoa n).bind fun y0 =>
  some y0

def M.impl_pairHash (a : Int) (b_ : Int) : Option Int :=
  (M.impl_decimal a).bind fun y0 =>
  asrt (([110]).length + y0.length ≤ 9223372036854775807) <|
  asrt ((([110]) ++ y0).length + ([44]).length ≤ 9223372036854775807) <|
  (M.impl_decimal b_).bind fun y1 =>
  asrt (((([110]) ++ y0) ++ ([44])).length + y1.length ≤ 9223372036854775807) <|
  (M.impl_Checksum (((([110]) ++ y0) ++ ([44])) ++ y1)).bind fun y2 =>
  some y2.1

def M.impl_round_l0 : (List Int) → (List Int) → Option (List Int) := fun st_ y_ => match st_ with
| out_x =>
  (((
    bif ((y_.length : Int) == (2 : Int)) then (
      asrt ((0 : Int) ≤ (0 : Int) ∧ (0 : Int) < (y_.length : Int)) <|
      asrt ((0 : Int) ≤ (1 : Int) ∧ (1 : Int) < (y_.length : Int)) <|
      (M.impl_pairHash (y_.getD (Int.toNat (0 : Int)) default) (y_.getD (Int.toNat (1 : Int)) default)).bind fun y1 =>
      asrt ((out_x.length : Int) + (([y1] : List Int).length : Int) ≤ 2147483648) <|
      some (out_x ++ ([y1] : List Int)))
    else (
      asrt ((0 : Int) ≤ (0 : Int) ∧ (0 : Int) < (y_.length : Int)) <|
      asrt ((out_x.length : Int) + (([(y_.getD (Int.toNat (0 : Int)) default)] : List Int).length : Int) ≤ 2147483648) <|
      some (out_x ++ ([(y_.getD (Int.toNat (0 : Int)) default)] : List Int)))) : Option (List Int))).bind fun e => match e with
  | out_x0 =>
    (some out_x0)

def M.impl_round (hashes : List Int) : Option (List Int) :=
  (M.slices_Chunk_int_int hashes (2 : Int)).bind fun y0 =>
  (foldO (M.impl_round_l0) y0 ([] : List Int)).bind fun e => match e with
  | out_x =>
    (some out_x)

def M.impl_RootOf_l0 : (List Int) → Option ((List Int) ⊕ (List Int)) := fun st_ => match st_ with
| hashes_0 =>
  bif (decide ((hashes_0.length : Int) > (1 : Int))) then (
    (M.impl_round hashes_0).bind fun y3 =>
    some (.inl y3))
  else (
    some (.inr hashes_0))

def M.impl_RootOf (list : List (List UInt8)) : Option (Int × Bool) :=
  (M.impl_IsLedger list).bind fun y0 =>
  bif (!y0) then (
    some ((0 : Int), false))
  else (
    (M.impl_hashesOf list).bind fun y1 =>
    (iterO (M.impl_RootOf_l0) y1).bind fun e => match e with
    | hashes_ =>
      (asrt ((0 : Int) ≤ (0 : Int) ∧ (0 : Int) < (hashes_.length : Int)) <|
      some ((hashes_.getD (Int.toNat (0 : Int)) default), true)))

def M.spec_l15Letter (b_ : Int) : Option Bool :=
  some ((decide (b_ ≥ (97 : Int))) && (decide (b_ ≤ (122 : Int))))

def M.spec_l1In (x : Int) (a : Int) (b_ : Int) : Option Bool :=
  some ((decide (x ≥ a)) && (decide (x ≤ b_)))

def M.spec_l16Entry_l0 (s : List UInt8) : (Int) → Option ((Int) ⊕ ((Unit) ⊕ (Bool))) := fun st_ => match st_ with
| i =>
  bif (decide (i < (s.length : Int))) then (
    asrt ((0 : Int) ≤ i ∧ i < (s.length : Int)) <|
    (M.spec_l15Letter ((s.getD (Int.toNat i) 0).toNat : Int)).bind fun y1 =>
    bif ((((!y1) && (!((decide (((s.getD (Int.toNat i) 0).toNat : Int) ≥ (48 : Int))) && (decide (((s.getD (Int.toNat i) 0).toNat : Int) ≤ (57 : Int)))))) && (((s.getD (Int.toNat i) 0).toNat : Int) != (32 : Int))) && (((s.getD (Int.toNat i) 0).toNat : Int) != (45 : Int))) then (
      some (.inr (.inr false)))
    else (
      some (.inl (IntKind.i64.wrap (i + (1 : Int))))))
  else (
    some (.inr (.inl ())))

def M.spec_l16Entry (s : List UInt8) : Option Bool :=
  (iterO (M.spec_l16Entry_l0 s) (0 : Int)).bind fun e => match e with
  | .inl () =>
    ((M.spec_l1In (s.length : Int) (1 : Int) (40 : Int)).bind fun y2 =>
    some y2)
  | .inr r => some r

def M.spec_l16Good_l0 (list : List (List UInt8)) : (Int) → Option ((Int) ⊕ ((Unit) ⊕ (Bool))) := fun st_ => match st_ with
| i =>
  bif (decide (i < (list.length : Int))) then (
    asrt ((0 : Int) ≤ i ∧ i < (list.length : Int)) <|
    (M.spec_l16Entry (list.getD (Int.toNat i) default)).bind fun y1 =>
    bif (!y1) then (
      some (.inr (.inr false)))
    else (
      some (.inl (IntKind.i64.wrap (i + (1 : Int))))))
  else (
    some (.inr (.inl ())))

def M.spec_l16Good (list : List (List UInt8)) : Option Bool :=
  (iterO (M.spec_l16Good_l0 list) (0 : Int)).bind fun e => match e with
  | .inl () =>
    ((M.spec_l1In (list.length : Int) (1 : Int) (8 : Int)).bind fun y2 =>
    some y2)
  | .inr r => some r

def M.spec_l1Sum_l0 (s : List UInt8) : (Int × Int) → Option ((Int × Int) ⊕ (Int)) := fun st_ => match st_ with
| (n_0, i) =>
  bif (decide (i < (s.length : Int))) then (
    asrt ((0 : Int) ≤ i ∧ i < (s.length : Int)) <|
    some (.inl ((Int.tmod (IntKind.i64.wrap ((IntKind.i64.wrap ((IntKind.i64.wrap ((41 : Int) * n_0)) + (IntKind.i64.wrap ((s.getD (Int.toNat i) 0).toNat : Int)))) + (1 : Int))) (999979 : Int)), (IntKind.i64.wrap (i + (1 : Int))))))
  else (
    some (.inr n_0))

def M.spec_l1Sum (s : List UInt8) : Option Int :=
  (iterO (M.spec_l1Sum_l0 s) ((7 : Int), (0 : Int))).bind fun e => match e with
  | n_ =>
    (some n_)

def M.spec_l16Leaf (s : List UInt8) : Option Int :=
  asrt (([108]).length + s.length ≤ 9223372036854775807) <|
  (M.spec_l1Sum (([108]) ++ s)).bind fun y0 =>
  some y0

def M.spec_l16Leaves_l0 (list : List (List UInt8)) : (List Int × Int) → Option ((List Int × Int) ⊕ (List Int)) := fun st_ => match st_ with
| (out_0, i) =>
  bif (decide (i < (list.length : Int))) then (
    asrt ((0 : Int) ≤ i ∧ i < (list.length : Int)) <|
    (M.spec_l16Leaf (list.getD (Int.toNat i) default)).bind fun y1 =>
    asrt ((out_0.length : Int) + (([y1] : List Int).length : Int) ≤ 2147483648) <|
    some (.inl ((out_0 ++ ([y1] : List Int)), (IntKind.i64.wrap (i + (1 : Int))))))
  else (
    some (.inr out_0))

def M.spec_l16Leaves (list : List (List UInt8)) : Option (List Int) :=
  (iterO (M.spec_l16Leaves_l0 list) (([] : List Int), (0 : Int))).bind fun e => match e with
  | out_ =>
    (some out_)

def M.spec_l1Num_s (rec_ : Int → Option (List UInt8)) (n : Int) : Option (List UInt8) :=
  bif (decide (n < (0 : Int))) then (
    (rec_ (IntKind.i64.wrap (0 - n))).bind fun y0 =>
    asrt (([45]).length + y0.length ≤ 9223372036854775807) <|
    some (([45]) ++ y0))
  else (
    bif (decide (n < (10 : Int))) then (
      asrt ((0 : Int) ≤ n ∧ n ≤ (IntKind.i64.wrap (n + (1 : Int))) ∧ (IntKind.i64.wrap (n + (1 : Int))) ≤ (([48, 49, 50, 51, 52, 53, 54, 55, 56, 57] : List UInt8).length : Int)) <|
      some (slc ([48, 49, 50, 51, 52, 53, 54, 55, 56, 57] : List UInt8) n (IntKind.i64.wrap (n + (1 : Int)))))
    else (
      (rec_ (IntKind.i64.wrap (Int.tdiv n (10 : Int)))).bind fun y1 =>
      asrt ((0 : Int) ≤ (Int.tmod n (10 : Int)) ∧ (Int.tmod n (10 : Int)) ≤ (IntKind.i64.wrap ((Int.tmod n (10 : Int)) + (1 : Int))) ∧ (IntKind.i64.wrap ((Int.tmod n (10 : Int)) + (1 : Int))) ≤ (([48, 49, 50, 51, 52, 53, 54, 55, 56, 57] : List UInt8).length : Int)) <|
      asrt (y1.length + (slc ([48, 49, 50, 51, 52, 53, 54, 55, 56, 57] : List UInt8) (Int.tmod n (10 : Int)) (IntKind.i64.wrap ((Int.tmod n (10 : Int)) + (1 : Int)))).length ≤ 9223372036854775807) <|
      some (y1 ++ (slc ([48, 49, 50, 51, 52, 53, 54, 55, 56, 57] : List UInt8) (Int.tmod n (10 : Int)) (IntKind.i64.wrap ((Int.tmod n (10 : Int)) + (1 : Int)))))))

def M.spec_l1Num_r : Nat → Int → Option (List UInt8)
  | 0 => fun _ => none
  | k_ + 1 => M.spec_l1Num_s (M.spec_l1Num_r k_)

def M.spec_l1Num (n : Int) : Option (List UInt8) := M.spec_l1Num_r rounds n

def M.spec_l16Pair (a : Int) (b_ : Int) : Option Int :=
  (M.spec_l1Num a).bind fun y0 =>
  asrt (([110]).length + y0.length ≤ 9223372036854775807) <|
  asrt ((([110]) ++ y0).length + ([44]).length ≤ 9223372036854775807) <|
  (M.spec_l1Num b_).bind fun y1 =>
  asrt (((([110]) ++ y0) ++ ([44])).length + y1.length ≤ 9223372036854775807) <|
  (M.spec_l1Sum (((([110]) ++ y0) ++ ([44])) ++ y1)).bind fun y2 =>
  some y2

def M.spec_l16Round_l0 (list : List Int) : (List Int × Int) → Option ((List Int × Int) ⊕ (List Int)) := fun st_ => match st_ with
| (out_0, i) =>
  bif (decide (i < (list.length : Int))) then (
    (((
      bif (decide ((IntKind.i64.wrap (i + (1 : Int))) < (list.length : Int))) then (
        asrt ((0 : Int) ≤ i ∧ i < (list.length : Int)) <|
        asrt ((0 : Int) ≤ (IntKind.i64.wrap (i + (1 : Int))) ∧ (IntKind.i64.wrap (i + (1 : Int))) < (list.length : Int)) <|
        (M.spec_l16Pair (list.getD (Int.toNat i) default) (list.getD (Int.toNat (IntKind.i64.wrap (i + (1 : Int)))) default)).bind fun y1 =>
        asrt ((out_0.length : Int) + (([y1] : List Int).length : Int) ≤ 2147483648) <|
        some (out_0 ++ ([y1] : List Int)))
      else (
        asrt ((0 : Int) ≤ i ∧ i < (list.length : Int)) <|
        asrt ((out_0.length : Int) + (([(list.getD (Int.toNat i) default)] : List Int).length : Int) ≤ 2147483648) <|
        some (out_0 ++ ([(list.getD (Int.toNat i) default)] : List Int)))) : Option (List Int))).bind fun e => match e with
    | out_1 =>
      (some (.inl (out_1, (IntKind.i64.wrap (i + (2 : Int)))))))
  else (
    some (.inr out_0))

def M.spec_l16Round (list : List Int) : Option (List Int) :=
  (iterO (M.spec_l16Round_l0 list) (([] : List Int), (0 : Int))).bind fun e => match e with
  | out_ =>
    (some out_)

def M.spec_l16Root_l0 : (List Int) → Option ((List Int) ⊕ (List Int)) := fun st_ => match st_ with
| hashes_0 =>
  bif (decide ((hashes_0.length : Int) > (1 : Int))) then (
    (M.spec_l16Round hashes_0).bind fun y2 =>
    some (.inl y2))
  else (
    some (.inr hashes_0))

def M.spec_l16Root (list : List (List UInt8)) : Option Int :=
  (M.spec_l16Leaves list).bind fun y0 =>
  (iterO (M.spec_l16Root_l0) y0).bind fun e => match e with
  | hashes_ =>
    (asrt ((0 : Int) ≤ (0 : Int) ∧ (0 : Int) < (hashes_.length : Int)) <|
    some (hashes_.getD (Int.toNat (0 : Int)) default))

def M.spec_RootOf (list : List (List UInt8)) : Option (Int × Bool) :=
  (M.spec_l16Good list).bind fun y0 =>
  bif (!y0) then (
    some ((0 : Int), false))
  else (
    (M.spec_l16Root list).bind fun y1 =>
    some (y1, true))

def M.impl_PathOf_l0 : (Int × (List (Int × Int)) × List Int) → Option ((Int × (List (Int × Int)) × List Int) ⊕ ((List (Int × Int)))) := fun st_ => match st_ with
| (i0, path0, hashes_) =>
  bif (decide ((hashes_.length : Int) > (1 : Int))) then (
    (((
      (((
        bif ((Int.tmod i0 (2 : Int)) == (1 : Int)) then (
          asrt ((0 : Int) ≤ (IntKind.i64.wrap (i0 - (1 : Int))) ∧ (IntKind.i64.wrap (i0 - (1 : Int))) < (hashes_.length : Int)) <|
          asrt ((path0.length : Int) + (([((0 : Int), (hashes_.getD (Int.toNat (IntKind.i64.wrap (i0 - (1 : Int)))) default))] : List (Int × Int)).length : Int) ≤ 2147483648) <|
          some (path0 ++ ([((0 : Int), (hashes_.getD (Int.toNat (IntKind.i64.wrap (i0 - (1 : Int)))) default))] : List (Int × Int))))
        else (
          bif (decide ((IntKind.i64.wrap (i0 + (1 : Int))) < (hashes_.length : Int))) then (
            asrt ((0 : Int) ≤ (IntKind.i64.wrap (i0 + (1 : Int))) ∧ (IntKind.i64.wrap (i0 + (1 : Int))) < (hashes_.length : Int)) <|
            asrt ((path0.length : Int) + (([((1 : Int), (hashes_.getD (Int.toNat (IntKind.i64.wrap (i0 + (1 : Int)))) default))] : List (Int × Int)).length : Int) ≤ 2147483648) <|
            some (path0 ++ ([((1 : Int), (hashes_.getD (Int.toNat (IntKind.i64.wrap (i0 + (1 : Int)))) default))] : List (Int × Int))))
          else (
            some path0))) : Option ((List (Int × Int))))).bind fun e => match e with
      | path2 =>
        (some ((IntKind.i64.wrap (Int.tdiv i0 (2 : Int))), path2))) : Option (Int × (List (Int × Int))))).bind fun e => match e with
    | (i1, path1) =>
      ((M.impl_round hashes_).bind fun y4 =>
      some (.inl (i1, path1, y4))))
  else (
    some (.inr path0))

def M.impl_PathOf (list : List (List UInt8)) (i : Int) : Option ((List (Int × Int)) × Bool) :=
  (M.impl_IsLedger list).bind fun y0 =>
  ((bif (!y0) then some default else M.impl_within i (0 : Int) (IntKind.i64.wrap ((list.length : Int) - (1 : Int))))).bind fun y1 =>
  bif ((!y0) || (!y1)) then (
    some (([] : List (Int × Int)), false))
  else (
    (M.impl_hashesOf list).bind fun y2 =>
    (iterO (M.impl_PathOf_l0) (i, ([] : List (Int × Int)), y2)).bind fun e => match e with
    | path =>
      (some (path, true)))

def M.slices_IndexFunc_2_int_2_int_l0 (s : List (Int × Int)) (fm : (Int × Int) → Option Bool) : (Int) → Option ((Int) ⊕ ((Unit) ⊕ (Int))) := fun st_ => match st_ with
| v =>
  bif (decide (v < (s.length : Int))) then (
    asrt ((0 : Int) ≤ v ∧ v < (s.length : Int)) <|
    (fm (s.getD (Int.toNat v) default)).bind fun y1 =>
    bif y1 then (
      some (.inr (.inr v)))
    else (
      some (.inl (IntKind.i64.wrap (v + (1 : Int))))))
  else (
    some (.inr (.inl ())))

def M.slices_IndexFunc_2_int_2_int (s : List (Int × Int)) (fm : (Int × Int) → Option Bool) : Option Int :=
  (iterO (M.slices_IndexFunc_2_int_2_int_l0 s fm) (0 : Int)).bind fun e => match e with
  | .inl () =>
    (some (-1 : Int))
  | .inr r => some r

def M.slices_ContainsFunc_2_int_2_int (s : List (Int × Int)) (fm : (Int × Int) → Option Bool) : Option Bool :=
  (M.slices_IndexFunc_2_int_2_int s fm).bind fun y0 =>
  some (decide (y0 ≥ (0 : Int)))

def M.impl_isHash (h_ : Int) : Option Bool :=
  (M.impl_within h_ (0 : Int) (999999 : Int)).bind fun y0 =>
  some y0

def M.impl_isPath_1 (p : Int × Int) : Option Bool :=
  (M.impl_within p.1 (0 : Int) (1 : Int)).bind fun y0 =>
  ((bif (!y0) then some default else M.impl_isHash p.2)).bind fun y1 =>
  some ((!y0) || (!y1))

def M.impl_isPath (path : List (Int × Int)) : Option Bool :=
  ((bif (decide ((path.length : Int) ≤ (8 : Int))) then M.slices_ContainsFunc_2_int_2_int path (fun x0 => M.impl_isPath_1 x0) else some default)).bind fun y0 =>
  some ((decide ((path.length : Int) ≤ (8 : Int))) && (!y0))

def M.impl_RootFrom_l0 (path : List (Int × Int)) : (Int × Int) → Option ((Int × Int) ⊕ (Int)) := fun st_ => match st_ with
| (h_0, v) =>
  bif (decide (v < (path.length : Int))) then (
    (((
      asrt ((0 : Int) ≤ v ∧ v < (path.length : Int)) <|
      bif (((path.getD (Int.toNat v) default).1) == (0 : Int)) then (
        (M.impl_pairHash ((path.getD (Int.toNat v) default).2) h_0).bind fun y4 =>
        some y4)
      else (
        (M.impl_pairHash h_0 ((path.getD (Int.toNat v) default).2)).bind fun y5 =>
        some y5)) : Option Int)).bind fun e => match e with
    | h_1 =>
      (some (.inl (h_1, (IntKind.i64.wrap (v + (1 : Int)))))))
  else (
    some (.inr h_0))

def M.impl_RootFrom (entry : List UInt8) (path : List (Int × Int)) : Option (Int × Bool) :=
  (M.impl_isEntry entry).bind fun y0 =>
  ((bif (!y0) then some default else M.impl_isPath path)).bind fun y1 =>
  bif ((!y0) || (!y1)) then (
    some ((0 : Int), false))
  else (
    (M.impl_entryHash entry).bind fun y2 =>
    (iterO (M.impl_RootFrom_l0 path) (y2, (0 : Int))).bind fun e => match e with
    | h_ =>
      (some (h_, true)))

def M.impl_IsCertified (entry : List UInt8) (path : List (Int × Int)) (root : Int) : Option (Bool × Bool) :=
  (M.impl_RootFrom entry path).bind fun y0 =>
  some ((y0.2 && (y0.1 == root)), y0.2)

def M.impl_PlaceFrom_l0 (path : List (Int × Int)) : (Int × Int) → Option ((Int × Int) ⊕ (Int)) := fun st_ => match st_ with
| (count0, v) =>
  bif (decide (v < (path.length : Int))) then (
    asrt ((0 : Int) ≤ v ∧ v < (path.length : Int)) <|
    some (.inl ((IntKind.i64.wrap (count0 + (IntKind.i64.wrap ((1 : Int) - ((path.getD (Int.toNat v) default).1))))), (IntKind.i64.wrap (v + (1 : Int))))))
  else (
    some (.inr count0))

def M.impl_PlaceFrom (path : List (Int × Int)) : Option (Int × Bool) :=
  (M.impl_isPath path).bind fun y0 =>
  bif (!y0) then (
    some ((0 : Int), false))
  else (
    (iterO (M.impl_PlaceFrom_l0 path) ((0 : Int), (0 : Int))).bind fun e => match e with
    | count =>
      (some (count, true)))

def M.spec_DrawPathOf (code : List Int) : Option (List (List UInt8) × Int) :=
  (M.spec_l1Cur_ledger (⟨code, (0 : Int), (0 : Int)⟩ : Cur)).bind fun y0 =>
  (M.spec_l1Cur_pick y0.2 (IntKind.i64.wrap ((y0.1.length : Int) + (1 : Int)))).bind fun y1 =>
  (M.spec_l1Cur_pick y1.2 (9 : Int)).bind fun y2 =>
  some (y0.1, (IntKind.i64.wrap (y1.1 - (IntKind.i64.wrap (Int.tdiv y2.1 (8 : Int))))))

def M.spec_PathOf_l0 : (Int × (List (Int × Int)) × List Int) → Option ((Int × (List (Int × Int)) × List Int) ⊕ ((List (Int × Int)))) := fun st_ => match st_ with
| (i0, out_0, hashes_) =>
  bif (decide ((hashes_.length : Int) > (1 : Int))) then (
    (((
      bif ((Int.tmod i0 (2 : Int)) == (1 : Int)) then (
        asrt ((0 : Int) ≤ (IntKind.i64.wrap (i0 - (1 : Int))) ∧ (IntKind.i64.wrap (i0 - (1 : Int))) < (hashes_.length : Int)) <|
        asrt ((out_0.length : Int) + (([((0 : Int), (hashes_.getD (Int.toNat (IntKind.i64.wrap (i0 - (1 : Int)))) default))] : List (Int × Int)).length : Int) ≤ 2147483648) <|
        (M.spec_l16Round hashes_).bind fun y4 =>
        some ((IntKind.i64.wrap (Int.tdiv i0 (2 : Int))), (out_0 ++ ([((0 : Int), (hashes_.getD (Int.toNat (IntKind.i64.wrap (i0 - (1 : Int)))) default))] : List (Int × Int))), y4))
      else (
        bif (decide ((IntKind.i64.wrap (i0 + (1 : Int))) < (hashes_.length : Int))) then (
          asrt ((0 : Int) ≤ (IntKind.i64.wrap (i0 + (1 : Int))) ∧ (IntKind.i64.wrap (i0 + (1 : Int))) < (hashes_.length : Int)) <|
          asrt ((out_0.length : Int) + (([((1 : Int), (hashes_.getD (Int.toNat (IntKind.i64.wrap (i0 + (1 : Int)))) default))] : List (Int × Int)).length : Int) ≤ 2147483648) <|
          (M.spec_l16Round hashes_).bind fun y5 =>
          some ((IntKind.i64.wrap (Int.tdiv i0 (2 : Int))), (out_0 ++ ([((1 : Int), (hashes_.getD (Int.toNat (IntKind.i64.wrap (i0 + (1 : Int)))) default))] : List (Int × Int))), y5))
        else (
          (M.spec_l16Round hashes_).bind fun y6 =>
          some ((IntKind.i64.wrap (Int.tdiv i0 (2 : Int))), out_0, y6)))) : Option (Int × (List (Int × Int)) × List Int))).bind fun e => match e with
    | (i1, out_1, hashes_0) =>
      (some (.inl (i1, out_1, hashes_0))))
  else (
    some (.inr out_0))

def M.spec_PathOf (list : List (List UInt8)) (i : Int) : Option ((List (Int × Int)) × Bool) :=
  (M.spec_l16Good list).bind fun y0 =>
  ((bif (!y0) then some default else M.spec_l1In i (0 : Int) (IntKind.i64.wrap ((list.length : Int) - (1 : Int))))).bind fun y1 =>
  bif ((!y0) || (!y1)) then (
    some (([] : List (Int × Int)), false))
  else (
    (M.spec_l16Leaves list).bind fun y2 =>
    (iterO (M.spec_PathOf_l0) (i, ([] : List (Int × Int)), y2)).bind fun e => match e with
    | out_ =>
      (some (out_, true)))

def M.laws_vPairs_l0 (a : List (Int × Int)) (b_ : List (Int × Int)) : (Int) → Option ((Int) ⊕ ((Unit) ⊕ (Bool))) := fun st_ => match st_ with
| i =>
  bif (decide (i < (a.length : Int))) then (
    asrt ((0 : Int) ≤ i ∧ i < (a.length : Int)) <|
    asrt ((0 : Int) ≤ i ∧ i < (b_.length : Int)) <|
    bif (!((((a.getD (Int.toNat i) default).1) == ((b_.getD (Int.toNat i) default).1)) && (((a.getD (Int.toNat i) default).2) == ((b_.getD (Int.toNat i) default).2)))) then (
      some (.inr (.inr false)))
    else (
      some (.inl (IntKind.i64.wrap (i + (1 : Int))))))
  else (
    some (.inr (.inl ())))

def M.laws_vPairs (a : List (Int × Int)) (b_ : List (Int × Int)) : Option Bool :=
  bif ((a.length : Int) != (b_.length : Int)) then (
    some false)
  else (
    (iterO (M.laws_vPairs_l0 a b_) (0 : Int)).bind fun e => match e with
    | .inl () =>
      (some true)
    | .inr r => some r)

def M.spec_l1Most (a : Int) (b_ : Int) : Option Int :=
  bif (decide (a > b_)) then (
    some a)
  else (
    some b_)

def M.spec_l1Cur_one (c : Cur) (n : Int) : Option (Bool × Cur) :=
  (M.spec_l1Cur_pick c n).bind fun y0 =>
  some ((y0.1 == (0 : Int)), y0.2)

def M.spec_l1Cur_among (c : Cur) (list : List Int) : Option (Int × Cur) :=
  (M.spec_l1Cur_pick c (list.length : Int)).bind fun y0 =>
  asrt ((0 : Int) ≤ y0.1 ∧ y0.1 < (list.length : Int)) <|
  some ((list.getD (Int.toNat y0.1) default), y0.2)

def M.spec_l1Cur_path_l0 : ((List (Int × Int)) × Cur) → Option (((List (Int × Int)) × Cur) ⊕ ((List (Int × Int)) × Cur)) := fun st_ => match st_ with
| (out_3, c_3) =>
  (M.spec_l1Cur_pick c_3 (2 : Int)).bind fun y16 =>
  bif (decide ((out_3.length : Int) < (IntKind.i64.wrap ((8 : Int) + y16.1)))) then (
    asrt ((out_3.length : Int) + (([((1 : Int), (3 : Int))] : List (Int × Int)).length : Int) ≤ 2147483648) <|
    some (.inl ((out_3 ++ ([((1 : Int), (3 : Int))] : List (Int × Int))), y16.2)))
  else (
    some (.inr (out_3, y16.2)))

def M.spec_l1Cur_path (c : Cur) : Option (List UInt8 × (List (Int × Int)) × Int × Cur) :=
  (M.spec_l1Cur_ledger c).bind fun y0 =>
  (M.spec_l1Most (1 : Int) (y0.1.length : Int)).bind fun y1 =>
  (M.spec_l1Cur_pick y0.2 y1).bind fun y2 =>
  (M.spec_PathOf y0.1 y2.1).bind fun y3 =>
  (M.spec_RootOf y0.1).bind fun y4 =>
  ((bif ((!y3.2) || (!y4.2)) then some default else M.spec_l1Cur_one y2.2 (8 : Int))).bind fun y5 =>
  bif (((!y3.2) || (!y4.2)) || y5.1) then (
    (M.spec_l1Cur_entry (bif ((!y3.2) || (!y4.2)) then y2.2 else y5.2)).bind fun y6 =>
    (M.spec_l1Cur_pick y6.2 (3 : Int)).bind fun y7 =>
    (M.spec_l1Cur_among y7.2 ([(0 : Int), (5 : Int), (999999 : Int), (1000000 : Int)] : List Int)).bind fun y8 =>
    some (y6.1, ([(y7.1, y8.1)] : List (Int × Int)), (7 : Int), y8.2))
  else (
    asrt ((0 : Int) ≤ y2.1 ∧ y2.1 < (y0.1.length : Int)) <|
    (((
      (M.spec_l1Cur_one (bif ((!y3.2) || (!y4.2)) then y2.2 else y5.2) (4 : Int)).bind fun y9 =>
      bif y9.1 then (
        (M.spec_l1Cur_entry y9.2).bind fun y10 =>
        some (y10.1, y10.2))
      else (
        some ((y0.1.getD (Int.toNat y2.1) default), y9.2))) : Option (List UInt8 × Cur))).bind fun e => match e with
    | (entry, c_) =>
      ((((
        (M.spec_l1Cur_one c_ (4 : Int)).bind fun y11 =>
        bif (y11.1 && (decide ((y3.1.length : Int) > (0 : Int)))) then (
          (M.spec_l1Cur_pick y11.2 (y3.1.length : Int)).bind fun y12 =>
          (M.spec_l1Cur_pick y12.2 (2 : Int)).bind fun y13 =>
          asrt ((0 : Int) ≤ y12.1 ∧ y12.1 < (y3.1.length : Int)) <|
          asrt ((0 : Int) ≤ y12.1 ∧ y12.1 < (y3.1.length : Int)) <|
          (((
            some ((y3.1.set (Int.toNat y12.1) (y13.1, (y3.1.getD (Int.toNat y12.1) default).2)), y13.2)) : Option ((List (Int × Int)) × Cur))).bind fun e => match e with
          | (out_0, c_1) =>
            (some (out_0, c_1)))
        else (
          some (y3.1, y11.2))) : Option ((List (Int × Int)) × Cur))).bind fun e => match e with
      | (out_, c_0) =>
        ((((
          (M.spec_l1Cur_one c_0 (32 : Int)).bind fun y14 =>
          bif y14.1 then (
            (iterO (M.spec_l1Cur_path_l0) (out_, y14.2)).bind fun e => match e with
            | (out_2, c_2) =>
              (some (out_2, c_2)))
          else (
            some (out_, y14.2))) : Option ((List (Int × Int)) × Cur))).bind fun e => match e with
        | (out_1, o) =>
          (some (entry, out_1, y4.1, o)))))

def M.spec_DrawIsCertified (code : List Int) : Option (List UInt8 × (List (Int × Int)) × Int) :=
  (M.spec_l1Cur_path (⟨code, (0 : Int), (0 : Int)⟩ : Cur)).bind fun y0 =>
  some (y0.1, y0.2.1, y0.2.2.1)

def M.spec_l16Hash (n : Int) : Option Bool :=
  (M.spec_l1In n (0 : Int) (999999 : Int)).bind fun y0 =>
  some y0

def M.spec_l16Path_l0 (path : List (Int × Int)) : (Int) → Option ((Int) ⊕ ((Unit) ⊕ (Bool))) := fun st_ => match st_ with
| i =>
  bif (decide (i < (path.length : Int))) then (
    asrt ((0 : Int) ≤ i ∧ i < (path.length : Int)) <|
    (M.spec_l1In ((path.getD (Int.toNat i) default).1) (0 : Int) (1 : Int)).bind fun y1 =>
    asrt ((!y1) = false → ((0 : Int) ≤ i ∧ i < (path.length : Int))) <|
    ((bif (!y1) then some default else M.spec_l16Hash ((path.getD (Int.toNat i) default).2))).bind fun y2 =>
    bif ((!y1) || (!y2)) then (
      some (.inr (.inr false)))
    else (
      some (.inl (IntKind.i64.wrap (i + (1 : Int))))))
  else (
    some (.inr (.inl ())))

def M.spec_l16Path (path : List (Int × Int)) : Option Bool :=
  (iterO (M.spec_l16Path_l0 path) (0 : Int)).bind fun e => match e with
  | .inl () =>
    (some (decide ((path.length : Int) ≤ (8 : Int))))
  | .inr r => some r

def M.spec_l16From_l0 (path : List (Int × Int)) : (Int × Int) → Option ((Int × Int) ⊕ (Int)) := fun st_ => match st_ with
| (n_0, i) =>
  bif (decide (i < (path.length : Int))) then (
    (((
      asrt ((0 : Int) ≤ i ∧ i < (path.length : Int)) <|
      bif (((path.getD (Int.toNat i) default).1) == (0 : Int)) then (
        asrt ((0 : Int) ≤ i ∧ i < (path.length : Int)) <|
        (M.spec_l16Pair ((path.getD (Int.toNat i) default).2) n_0).bind fun y2 =>
        some y2)
      else (
        asrt ((0 : Int) ≤ i ∧ i < (path.length : Int)) <|
        (M.spec_l16Pair n_0 ((path.getD (Int.toNat i) default).2)).bind fun y3 =>
        some y3)) : Option Int)).bind fun e => match e with
    | n_1 =>
      (some (.inl (n_1, (IntKind.i64.wrap (i + (1 : Int)))))))
  else (
    some (.inr n_0))

def M.spec_l16From (entry : List UInt8) (path : List (Int × Int)) : Option Int :=
  (M.spec_l16Leaf entry).bind fun y0 =>
  (iterO (M.spec_l16From_l0 path) (y0, (0 : Int))).bind fun e => match e with
  | n_ =>
    (some n_)

def M.spec_IsCertified (entry : List UInt8) (path : List (Int × Int)) (root : Int) : Option (Bool × Bool) :=
  (M.spec_l16Entry entry).bind fun y0 =>
  ((bif (!y0) then some default else M.spec_l16Path path)).bind fun y1 =>
  bif ((!y0) || (!y1)) then (
    some (false, false))
  else (
    (M.spec_l16From entry path).bind fun y2 =>
    some ((y2 == root), true))

def M.spec_RootFrom (entry : List UInt8) (path : List (Int × Int)) : Option (Int × Bool) :=
  (M.spec_l16Entry entry).bind fun y0 =>
  ((bif (!y0) then some default else M.spec_l16Path path)).bind fun y1 =>
  bif ((!y0) || (!y1)) then (
    some ((0 : Int), false))
  else (
    (M.spec_l16From entry path).bind fun y2 =>
    some (y2, true))

def M.spec_DrawPlaceFrom (code : List Int) : Option ((List (Int × Int))) :=
  (M.spec_l1Cur_path (⟨code, (0 : Int), (0 : Int)⟩ : Cur)).bind fun y0 =>
  some y0.2.1

def M.spec_PlaceFrom_l0 (path : List (Int × Int)) : (Int × Int) → Option ((Int × Int) ⊕ (Int)) := fun st_ => match st_ with
| (n_0, i) =>
  bif (decide (i < (path.length : Int))) then (
    (((
      asrt ((0 : Int) ≤ i ∧ i < (path.length : Int)) <|
      bif (((path.getD (Int.toNat i) default).1) == (0 : Int)) then (
        some (IntKind.i64.wrap (n_0 + (1 : Int))))
      else (
        some n_0)) : Option Int)).bind fun e => match e with
    | n_1 =>
      (some (.inl (n_1, (IntKind.i64.wrap (i + (1 : Int)))))))
  else (
    some (.inr n_0))

def M.spec_PlaceFrom (path : List (Int × Int)) : Option (Int × Bool) :=
  (M.spec_l16Path path).bind fun y0 =>
  bif (!y0) then (
    some ((0 : Int), false))
  else (
    (iterO (M.spec_PlaceFrom_l0 path) ((0 : Int), (0 : Int))).bind fun e => match e with
    | n_ =>
      (some (n_, true)))

def M.laws_FnCertificates_l0 (y1 : List (List UInt8)) (y2 : Int × Bool) : (Int) → Option ((Int) ⊕ ((Unit) ⊕ (Bool))) := fun st_ => match st_ with
| i =>
  bif ((decide (i < (y1.length : Int))) && y2.2) then (
    (M.impl_PathOf y1 i).bind fun y6 =>
    asrt ((0 : Int) ≤ i ∧ i < (y1.length : Int)) <|
    (M.impl_IsCertified (y1.getD (Int.toNat i) default) y6.1 y2.1).bind fun y7 =>
    (M.impl_PlaceFrom y6.1).bind fun y8 =>
    bif ((((((!y6.2) || (!y7.2)) || (!y7.1)) || (!y8.2)) || (decide (y8.1 > (y6.1.length : Int)))) || (decide ((y6.1.length : Int) > (3 : Int)))) then (
      some (.inr (.inr false)))
    else (
      some (.inl (IntKind.i64.wrap (i + (1 : Int))))))
  else (
    some (.inr (.inl ())))

def M.laws_FnCertificates (code : List Int) : Option Bool :=
  (M.laws_vBig code).bind fun y0 =>
  bif y0 then (
    some true)
  else (
    (M.spec_DrawRootOf code).bind fun y1 =>
    (M.impl_RootOf y1).bind fun y2 =>
    (M.spec_RootOf y1).bind fun y3 =>
    ((bif ((y2.1 != y3.1) || (!(y2.2 == y3.2))) then some default else M.impl_IsLedger y1)).bind fun y4 =>
    bif (((y2.1 != y3.1) || (!(y2.2 == y3.2))) || (!(y2.2 == y4))) then (
      some false)
    else (
      (iterO (M.laws_FnCertificates_l0 y1 y2) (0 : Int)).bind fun e => match e with
      | .inl () =>
        ((M.spec_DrawPathOf code).bind fun y9 =>
        (M.impl_PathOf y9.1 y9.2).bind fun y10 =>
        (M.spec_PathOf y9.1 y9.2).bind fun y11 =>
        ((bif (!(y10.2 == y11.2)) then some default else M.laws_vPairs y10.1 y11.1)).bind fun y12 =>
        bif ((!(y10.2 == y11.2)) || (!y12)) then (
          some false)
        else (
          (M.spec_DrawIsCertified code).bind fun y13 =>
          (M.impl_IsCertified y13.1 y13.2.1 y13.2.2).bind fun y14 =>
          (M.spec_IsCertified y13.1 y13.2.1 y13.2.2).bind fun y15 =>
          bif ((!(y14.1 == y15.1)) || (!(y14.2 == y15.2))) then (
            some false)
          else (
            (M.impl_RootFrom y13.1 y13.2.1).bind fun y16 =>
            (M.spec_RootFrom y13.1 y13.2.1).bind fun y17 =>
            bif ((((y16.1 != y17.1) || (!(y16.2 == y17.2))) || (!(y16.2 == y14.2))) || (y14.2 && (!(y14.1 == (y16.1 == y13.2.2))))) then (
              some false)
            else (
              (M.spec_DrawPlaceFrom code).bind fun y18 =>
              (M.impl_PlaceFrom y18).bind fun y19 =>
              (M.spec_PlaceFrom y18).bind fun y20 =>
              some ((y19.1 == y20.1) && (y19.2 == y20.2))))))
      | .inr r => some r))
end Go.Proofs.YthcmelnpcaijaaaDoor
