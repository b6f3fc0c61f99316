/- models of the functions -/
import Derived.Test.YthcmelnpcaijaaaDoorWt
set_option linter.unusedSimpArgs false
set_option linter.unusedVariables false
set_option maxRecDepth 100000
namespace Go.Proofs.YthcmelnpcaijaaaDoor
open Go.VS

structure Cur where
  Code : List Int
  At : Int
  Seed : Int
  deriving Inhabited, DecidableEq

abbrev encCur (ρ : Nat) (c : Cur) : PV := .agg [.vl ρ 1 (List.map encU8 c.Code), .int .i64 c.At, .int .u64 c.Seed]

structure Event where
  Kind : Int
  Day : Int
  deriving Inhabited, DecidableEq

abbrev encEvent (c : Event) : PV := .agg [.int .i64 c.Kind, .int .i64 c.Day]

structure Record where
  Id : Int
  Series : Int
  Made : Int
  Events : List Event
  deriving Inhabited, DecidableEq

abbrev encRecord (ρ : Nat) (c : Record) : PV := .agg [.int .i64 c.Id, .int .i64 c.Series, .int .i64 c.Made, .vl ρ 2 (List.map encEvent c.Events)]

def M.laws_vBig (code : List Int) : Option Bool :=
  some (decide ((code.length : Int) > (65536 : Int)))

def M.spec_l1Cur_next (c : Cur) : Option (Int × Cur) :=
  (((
    bif (decide (c.At < (c.Code.length : Int))) then (
      asrt ((0 : Int) ≤ c.At ∧ c.At < (c.Code.length : Int)) <|
      some (IntKind.i64.wrap (c.Code.getD (Int.toNat c.At) default)))
    else (
      some (0 : Int))) : Option Int)).bind fun e => match e with
  | b_ =>
    (bif (decide ((IntKind.i64.wrap (c.At + (1 : Int))) ≤ (c.Code.length : Int))) then (
      some (b_, (⟨c.Code, (IntKind.i64.wrap (c.At + (1 : Int))), (IntKind.u64.wrap ((IntKind.u64.wrap ((IntKind.u64.wrap (c.Seed * (6364136223846793005 : Int))) + (IntKind.u64.wrap b_))) + (103535 : Int)))⟩ : Cur)))
    else (
      some ((IntKind.i64.wrap (IntKind.u64.wrap (BitVec.ofInt IntKind.u64.bits (Int.fdiv (IntKind.u64.wrap ((IntKind.u64.wrap ((IntKind.u64.wrap (c.Seed * (6364136223846793005 : Int))) + (IntKind.u64.wrap b_))) + (103535 : Int))) (2 ^ (min (Int.toNat (40 : Int)) IntKind.u64.bits))) &&& BitVec.ofInt IntKind.u64.bits (255 : Int)).toNat)), (⟨c.Code, (IntKind.i64.wrap (c.At + (1 : Int))), (IntKind.u64.wrap ((IntKind.u64.wrap ((IntKind.u64.wrap (c.Seed * (6364136223846793005 : Int))) + (IntKind.u64.wrap b_))) + (103535 : Int)))⟩ : Cur))))

def M.spec_l1Cur_pick (c : Cur) (n : Int) : Option (Int × Cur) :=
  bif (decide (n ≤ (1 : Int))) then (
    some ((0 : Int), c))
  else (
    (M.spec_l1Cur_next c).bind fun y0 =>
    (((
      bif (decide (n > (200 : Int))) then (
        (M.spec_l1Cur_next y0.2).bind fun y1 =>
        some ((IntKind.i64.wrap ((IntKind.i64.wrap (y0.1 * (256 : Int))) + y1.1)), y1.2))
      else (
        some (y0.1, y0.2))) : Option (Int × Cur))).bind fun e => match e with
    | (x, c_) =>
      (asrt (n ≠ 0) <|
      some ((Int.tmod x n), c_)))

def M.spec_l1Cur_of (c : Cur) (list : List (List UInt8)) : Option (List UInt8 × Cur) :=
  (M.spec_l1Cur_pick c (list.length : Int)).bind fun y0 =>
  asrt ((0 : Int) ≤ y0.1 ∧ y0.1 < (list.length : Int)) <|
  some ((list.getD (Int.toNat y0.1) default), y0.2)

def M.spec_l1Cur_entry (c : Cur) : Option (List UInt8 × Cur) :=
  (M.spec_l1Cur_of c ([[114, 49, 32, 115, 51, 32, 100, 52, 48, 48], [114, 49, 50, 32, 115, 51, 32, 100, 52, 48, 48], [114, 49, 50, 32, 115, 51, 32, 100, 52, 48, 49], [97], [110, 111, 114, 116, 104, 45, 55], [114, 57, 57, 57, 32, 115, 57, 57, 32, 100, 50, 48, 48, 48, 48], [120, 32, 121], [], [65], [114, 49, 44, 115, 50]] : List (List UInt8))).bind fun y0 =>
  some (y0.1, y0.2)

def M.spec_DrawEntryHash (code : List Int) : Option (List UInt8) :=
  (M.spec_l1Cur_entry (⟨code, (0 : Int), (0 : Int)⟩ : Cur)).bind fun y0 =>
  some y0.1

def M.impl_within (n : Int) (low : Int) (high : Int) : Option Bool :=
  some ((decide (low ≤ n)) && (decide (n ≤ high)))

def M.strings_Trim (s cutset : List UInt8) : Option (List UInt8) := asrt (s.length ≤ 9223372036854775807 ∧ cutset.length < 4294967281 ∧ cutset.all (fun b => decide (b.toNat < 128)) = true) <| some (Go.Lib.trimS s cutset)

def M.impl_isEntry (entry : List UInt8) : Option Bool :=
  (M.impl_within (entry.length : Int) (1 : Int) (40 : Int)).bind fun y0 =>
  ((bif y0 then M.strings_Trim entry ([97, 98, 99, 100, 101, 102, 103, 104, 105, 106, 107, 108, 109, 110, 111, 112, 113, 114, 115, 116, 117, 118, 119, 120, 121, 122, 48, 49, 50, 51, 52, 53, 54, 55, 56, 57, 32, 45]) else some default)).bind fun y1 =>
  some (y0 && (y1 == ([])))

def M.impl_checksum_l0 (s : List UInt8) : (Int × Int) → Option ((Int × Int) ⊕ (Int)) := fun st_ => match st_ with
| (h_0, v) =>
  bif (decide (v < (s.length : Int))) then (
    asrt ((0 : Int) ≤ v ∧ v < (s.length : Int)) <|
    some (.inl ((Int.tmod (IntKind.i64.wrap ((IntKind.i64.wrap ((IntKind.i64.wrap ((41 : Int) * h_0)) + (IntKind.i64.wrap ((s.getD (Int.toNat v) 0).toNat : Int)))) + (1 : Int))) (999979 : Int)), (IntKind.i64.wrap (v + (1 : Int))))))
  else (
    some (.inr h_0))

def M.impl_checksum (s : List UInt8) : Option Int :=
  (iterO (M.impl_checksum_l0 s) ((7 : Int), (0 : Int))).bind fun e => match e with
  | h_ =>
    (some h_)

def M.impl_Checksum (s : List UInt8) : Option (Int × Bool) :=
  bif (decide ((s.length : Int) > (4000 : Int))) then (
    some ((0 : Int), false))
  else (
    (M.impl_checksum s).bind fun y0 =>
    some (y0, true))

def M.impl_entryHash (entry : List UInt8) : Option Int :=
  asrt (([108]).length + entry.length ≤ 9223372036854775807) <|
  (M.impl_Checksum (([108]) ++ entry)).bind fun y0 =>
  some y0.1

def M.impl_EntryHash (entry : List UInt8) : Option (Int × Bool) :=
  (M.impl_isEntry entry).bind fun y0 =>
  bif (!y0) then (
    some ((0 : Int), false))
  else (
    (M.impl_entryHash entry).bind fun y1 =>
    some (y1, true))

def M.spec_l15Letter (b_ : Int) : Option Bool :=
  some ((decide (b_ ≥ (97 : Int))) && (decide (b_ ≤ (122 : Int))))

def M.spec_l1In (x : Int) (a : Int) (b_ : Int) : Option Bool :=
  some ((decide (x ≥ a)) && (decide (x ≤ b_)))

def M.spec_l16Entry_l0 (s : List UInt8) : (Int) → Option ((Int) ⊕ ((Unit) ⊕ (Bool))) := fun st_ => match st_ with
| i =>
  bif (decide (i < (s.length : Int))) then (
    asrt ((0 : Int) ≤ i ∧ i < (s.length : Int)) <|
    (M.spec_l15Letter ((s.getD (Int.toNat i) 0).toNat : Int)).bind fun y1 =>
    bif ((((!y1) && (!((decide (((s.getD (Int.toNat i) 0).toNat : Int) ≥ (48 : Int))) && (decide (((s.getD (Int.toNat i) 0).toNat : Int) ≤ (57 : Int)))))) && (((s.getD (Int.toNat i) 0).toNat : Int) != (32 : Int))) && (((s.getD (Int.toNat i) 0).toNat : Int) != (45 : Int))) then (
      some (.inr (.inr false)))
    else (
      some (.inl (IntKind.i64.wrap (i + (1 : Int))))))
  else (
    some (.inr (.inl ())))

def M.spec_l16Entry (s : List UInt8) : Option Bool :=
  (iterO (M.spec_l16Entry_l0 s) (0 : Int)).bind fun e => match e with
  | .inl () =>
    ((M.spec_l1In (s.length : Int) (1 : Int) (40 : Int)).bind fun y2 =>
    some y2)
  | .inr r => some r

def M.spec_l1Sum_l0 (s : List UInt8) : (Int × Int) → Option ((Int × Int) ⊕ (Int)) := fun st_ => match st_ with
| (n_0, i) =>
  bif (decide (i < (s.length : Int))) then (
    asrt ((0 : Int) ≤ i ∧ i < (s.length : Int)) <|
    some (.inl ((Int.tmod (IntKind.i64.wrap ((IntKind.i64.wrap ((IntKind.i64.wrap ((41 : Int) * n_0)) + (IntKind.i64.wrap ((s.getD (Int.toNat i) 0).toNat : Int)))) + (1 : Int))) (999979 : Int)), (IntKind.i64.wrap (i + (1 : Int))))))
  else (
    some (.inr n_0))

def M.spec_l1Sum (s : List UInt8) : Option Int :=
  (iterO (M.spec_l1Sum_l0 s) ((7 : Int), (0 : Int))).bind fun e => match e with
  | n_ =>
    (some n_)

def M.spec_l16Leaf (s : List UInt8) : Option Int :=
  asrt (([108]).length + s.length ≤ 9223372036854775807) <|
  (M.spec_l1Sum (([108]) ++ s)).bind fun y0 =>
  some y0

def M.spec_EntryHash (entry : List UInt8) : Option (Int × Bool) :=
  (M.spec_l16Entry entry).bind fun y0 =>
  bif (!y0) then (
    some ((0 : Int), false))
  else (
    (M.spec_l16Leaf entry).bind fun y1 =>
    some (y1, true))

def M.slices_IndexFunc_string_string_l0 (s : List (List UInt8)) (fm : (List UInt8) → Option Bool) : (Int) → Option ((Int) ⊕ ((Unit) ⊕ (Int))) := fun st_ => match st_ with
| v =>
  bif (decide (v < (s.length : Int))) then (
    asrt ((0 : Int) ≤ v ∧ v < (s.length : Int)) <|
    (fm (s.getD (Int.toNat v) default)).bind fun y1 =>
    bif y1 then (
      some (.inr (.inr v)))
    else (
      some (.inl (IntKind.i64.wrap (v + (1 : Int))))))
  else (
    some (.inr (.inl ())))

def M.slices_IndexFunc_string_string (s : List (List UInt8)) (fm : (List UInt8) → Option Bool) : Option Int :=
  (iterO (M.slices_IndexFunc_string_string_l0 s fm) (0 : Int)).bind fun e => match e with
  | .inl () =>
    (some (-1 : Int))
  | .inr r => some r

def M.slices_ContainsFunc_string_string (s : List (List UInt8)) (fm : (List UInt8) → Option Bool) : Option Bool :=
  (M.slices_IndexFunc_string_string s fm).bind fun y0 =>
  some (decide (y0 ≥ (0 : Int)))

def M.impl_IsLedger_1 (entry : List UInt8) : Option Bool :=
  (M.impl_isEntry entry).bind fun y0 =>
  some (!y0)

def M.impl_IsLedger (list : List (List UInt8)) : Option Bool :=
  (M.impl_within (list.length : Int) (1 : Int) (8 : Int)).bind fun y0 =>
  ((bif y0 then M.slices_ContainsFunc_string_string list (fun x0 => M.impl_IsLedger_1 x0) else some default)).bind fun y1 =>
  some (y0 && (!y1))

def M.impl_hashesOf_l0 (list : List (List UInt8)) : (List Int × Int) → Option ((List Int × Int) ⊕ (List Int)) := fun st_ => match st_ with
| (out_0, v) =>
  bif (decide (v < (list.length : Int))) then (
    asrt ((0 : Int) ≤ v ∧ v < (list.length : Int)) <|
    (M.impl_entryHash (list.getD (Int.toNat v) default)).bind fun y1 =>
    asrt ((out_0.length : Int) + (([y1] : List Int).length : Int) ≤ 2147483648) <|
    some (.inl ((out_0 ++ ([y1] : List Int)), (IntKind.i64.wrap (v + (1 : Int))))))
  else (
    some (.inr out_0))

def M.impl_hashesOf (list : List (List UInt8)) : Option (List Int) :=
  (iterO (M.impl_hashesOf_l0 list) (([] : List Int), (0 : Int))).bind fun e => match e with
  | out_ =>
    (some out_)

def M.slices_Chunk_int_int (s : List Int) (n : Int) : Option (List (List Int)) := asrt (n = 2 ∧ s.length ≤ 2147483648) <| some (chunk2 s)

def M.strconv_Itoa (n : Int) : Option (List UInt8) := asrt (-9223372036854775808 ≤ n ∧ n ≤ 9223372036854775807) <| some (Go.Lib.itoa n)

def M.impl_decimal (n : Int) : Option (List UInt8) :=
  (M.strconv_Itoa n).bind fun y0 =>
  some y0

def M.impl_pairHash (a : Int) (b_ : Int) : Option Int :=
  (M.impl_decimal a).bind fun y0 =>
  asrt (([110]).length + y0.length ≤ 9223372036854775807) <|
  asrt ((([110]) ++ y0).length + ([44]).length ≤ 9223372036854775807) <|
  (M.impl_decimal b_).bind fun y1 =>
  asrt (((([110]) ++ y0) ++ ([44])).length + y1.length ≤ 9223372036854775807) <|
  (M.impl_Checksum (((([110]) ++ y0) ++ ([44])) ++ y1)).bind fun y2 =>
  some y2.1

def M.impl_round_l0 : (List Int) → (List Int) → Option (List Int) := fun st_ y_ => match st_ with
| out_x =>
  (((
    bif ((y_.length : Int) == (2 : Int)) then (
      asrt ((0 : Int) ≤ (0 : Int) ∧ (0 : Int) < (y_.length : Int)) <|
      asrt ((0 : Int) ≤ (1 : Int) ∧ (1 : Int) < (y_.length : Int)) <|
      (M.impl_pairHash (y_.getD (Int.toNat (0 : Int)) default) (y_.getD (Int.toNat (1 : Int)) default)).bind fun y1 =>
      asrt ((out_x.length : Int) + (([y1] : List Int).length : Int) ≤ 2147483648) <|
      some (out_x ++ ([y1] : List Int)))
    else (
      asrt ((0 : Int) ≤ (0 : Int) ∧ (0 : Int) < (y_.length : Int)) <|
      asrt ((out_x.length : Int) + (([(y_.getD (Int.toNat (0 : Int)) default)] : List Int).length : Int) ≤ 2147483648) <|
      some (out_x ++ ([(y_.getD (Int.toNat (0 : Int)) default)] : List Int)))) : Option (List Int))).bind fun e => match e with
  | out_x0 =>
    (some out_x0)

def M.impl_round (hashes : List Int) : Option (List Int) :=
  (M.slices_Chunk_int_int hashes (2 : Int)).bind fun y0 =>
  (foldO (M.impl_round_l0) y0 ([] : List Int)).bind fun e => match e with
  | out_x =>
    (some out_x)

def M.impl_RootOf_l0 : (List Int) → Option ((List Int) ⊕ (List Int)) := fun st_ => match st_ with
| hashes_0 =>
  bif (decide ((hashes_0.length : Int) > (1 : Int))) then (
    (M.impl_round hashes_0).bind fun y3 =>
    some (.inl y3))
  else (
    some (.inr hashes_0))

def M.impl_RootOf (list : List (List UInt8)) : Option (Int × Bool) :=
  (M.impl_IsLedger list).bind fun y0 =>
  bif (!y0) then (
    some ((0 : Int), false))
  else (
    (M.impl_hashesOf list).bind fun y1 =>
    (iterO (M.impl_RootOf_l0) y1).bind fun e => match e with
    | hashes_ =>
      (asrt ((0 : Int) ≤ (0 : Int) ∧ (0 : Int) < (hashes_.length : Int)) <|
      some ((hashes_.getD (Int.toNat (0 : Int)) default), true)))

def M.impl_isHash (h_ : Int) : Option Bool :=
  (M.impl_within h_ (0 : Int) (999999 : Int)).bind fun y0 =>
  some y0

def M.impl_PairHash (a : Int) (b_ : Int) : Option (Int × Bool) :=
  (M.impl_isHash a).bind fun y0 =>
  ((bif (!y0) then some default else M.impl_isHash b_)).bind fun y1 =>
  bif ((!y0) || (!y1)) then (
    some ((0 : Int), false))
  else (
    (M.impl_pairHash a b_).bind fun y2 =>
    some (y2, true))

def M.spec_l1Cur_among (c : Cur) (list : List Int) : Option (Int × Cur) :=
  (M.spec_l1Cur_pick c (list.length : Int)).bind fun y0 =>
  asrt ((0 : Int) ≤ y0.1 ∧ y0.1 < (list.length : Int)) <|
  some ((list.getD (Int.toNat y0.1) default), y0.2)

def M.spec_DrawPairHash (code : List Int) : Option (Int × Int) :=
  (M.spec_l1Cur_among (⟨code, (0 : Int), (0 : Int)⟩ : Cur) ([(0 : Int), (1 : Int), (12 : Int), (999999 : Int), (1000000 : Int), (-1 : Int)] : List Int)).bind fun y0 =>
  (M.spec_l1Cur_among y0.2 ([(0 : Int), (2 : Int), (21 : Int), (999999 : Int), (-1 : Int)] : List Int)).bind fun y1 =>
  some (y0.1, y1.1)

def M.spec_l16Hash (n : Int) : Option Bool :=
  (M.spec_l1In n (0 : Int) (999999 : Int)).bind fun y0 =>
  some y0

def M.spec_l1Num_s (rec_ : Int → Option (List UInt8)) (n : Int) : Option (List UInt8) :=
  bif (decide (n < (0 : Int))) then (
    (rec_ (IntKind.i64.wrap (0 - n))).bind fun y0 =>
    asrt (([45]).length + y0.length ≤ 9223372036854775807) <|
    some (([45]) ++ y0))
  else (
    bif (decide (n < (10 : Int))) then (
      asrt ((0 : Int) ≤ n ∧ n ≤ (IntKind.i64.wrap (n + (1 : Int))) ∧ (IntKind.i64.wrap (n + (1 : Int))) ≤ (([48, 49, 50, 51, 52, 53, 54, 55, 56, 57] : List UInt8).length : Int)) <|
      some (slc ([48, 49, 50, 51, 52, 53, 54, 55, 56, 57] : List UInt8) n (IntKind.i64.wrap (n + (1 : Int)))))
    else (
      (rec_ (IntKind.i64.wrap (Int.tdiv n (10 : Int)))).bind fun y1 =>
      asrt ((0 : Int) ≤ (Int.tmod n (10 : Int)) ∧ (Int.tmod n (10 : Int)) ≤ (IntKind.i64.wrap ((Int.tmod n (10 : Int)) + (1 : Int))) ∧ (IntKind.i64.wrap ((Int.tmod n (10 : Int)) + (1 : Int))) ≤ (([48, 49, 50, 51, 52, 53, 54, 55, 56, 57] : List UInt8).length : Int)) <|
      asrt (y1.length + (slc ([48, 49, 50, 51, 52, 53, 54, 55, 56, 57] : List UInt8) (Int.tmod n (10 : Int)) (IntKind.i64.wrap ((Int.tmod n (10 : Int)) + (1 : Int)))).length ≤ 9223372036854775807) <|
      some (y1 ++ (slc ([48, 49, 50, 51, 52, 53, 54, 55, 56, 57] : List UInt8) (Int.tmod n (10 : Int)) (IntKind.i64.wrap ((Int.tmod n (10 : Int)) + (1 : Int)))))))

def M.spec_l1Num_r : Nat → Int → Option (List UInt8)
  | 0 => fun _ => none
  | k_ + 1 => M.spec_l1Num_s (M.spec_l1Num_r k_)

def M.spec_l1Num (n : Int) : Option (List UInt8) := M.spec_l1Num_r rounds n

def M.spec_l16Pair (a : Int) (b_ : Int) : Option Int :=
  (M.spec_l1Num a).bind fun y0 =>
  asrt (([110]).length + y0.length ≤ 9223372036854775807) <|
  asrt ((([110]) ++ y0).length + ([44]).length ≤ 9223372036854775807) <|
  (M.spec_l1Num b_).bind fun y1 =>
  asrt (((([110]) ++ y0) ++ ([44])).length + y1.length ≤ 9223372036854775807) <|
  (M.spec_l1Sum (((([110]) ++ y0) ++ ([44])) ++ y1)).bind fun y2 =>
  some y2

def M.spec_PairHash (a : Int) (b_ : Int) : Option (Int × Bool) :=
  (M.spec_l16Hash a).bind fun y0 =>
  ((bif (!y0) then some default else M.spec_l16Hash b_)).bind fun y1 =>
  bif ((!y0) || (!y1)) then (
    some ((0 : Int), false))
  else (
    (M.spec_l16Pair a b_).bind fun y2 =>
    some (y2, true))

def M.spec_l1Cur_ledger_l0 : (List (List UInt8) × Int × Cur) → Option ((List (List UInt8) × Int × Cur) ⊕ (List (List UInt8) × Cur)) := fun st_ => match st_ with
| (out_0, n_, c_0) =>
  bif (decide (n_ > (0 : Int))) then (
    (M.spec_l1Cur_of c_0 ([[114, 49, 32, 115, 51, 32, 100, 52, 48, 48], [114, 49, 50, 32, 115, 51, 32, 100, 52, 48, 48], [114, 49, 50, 32, 115, 51, 32, 100, 52, 48, 49], [97], [110, 111, 114, 116, 104, 45, 55], [98]] : List (List UInt8))).bind fun y2 =>
    asrt ((out_0.length : Int) + (([y2.1] : List (List UInt8)).length : Int) ≤ 2147483648) <|
    some (.inl ((out_0 ++ ([y2.1] : List (List UInt8))), (IntKind.i64.wrap (n_ - (1 : Int))), y2.2)))
  else (
    some (.inr (out_0, c_0)))

def M.spec_l1Cur_ledger_l1 : (List (List UInt8) × Cur) → Option ((List (List UInt8) × Cur) ⊕ (List (List UInt8) × Cur)) := fun st_ => match st_ with
| (out_3, c_3) =>
  (M.spec_l1Cur_pick c_3 (2 : Int)).bind fun y6 =>
  bif (decide ((out_3.length : Int) < (IntKind.i64.wrap ((8 : Int) + y6.1)))) then (
    asrt ((out_3.length : Int) + (([[122]] : List (List UInt8)).length : Int) ≤ 2147483648) <|
    some (.inl ((out_3 ++ ([[122]] : List (List UInt8))), y6.2)))
  else (
    some (.inr (out_3, y6.2)))

def M.spec_l1Cur_ledger (c : Cur) : Option (List (List UInt8) × Cur) :=
  (M.spec_l1Cur_pick c (7 : Int)).bind fun y0 =>
  (iterO (M.spec_l1Cur_ledger_l0) (([] : List (List UInt8)), (IntKind.i64.wrap ((1 : Int) + y0.1)), y0.2)).bind fun e => match e with
  | (out_, c_) =>
    ((M.spec_l1Cur_pick c_ (32 : Int)).bind fun y3 =>
    (((
      bif (y3.1 == (0 : Int)) then (
        (M.spec_l1Cur_entry y3.2).bind fun y4 =>
        asrt ((out_.length : Int) + (([y4.1] : List (List UInt8)).length : Int) ≤ 2147483648) <|
        some ((out_ ++ ([y4.1] : List (List UInt8))), y4.2))
      else (
        bif (y3.1 == (1 : Int)) then (
          some (([] : List (List UInt8)), y3.2))
        else (
          bif (y3.1 == (2 : Int)) then (
            (iterO (M.spec_l1Cur_ledger_l1) (out_, y3.2)).bind fun e => match e with
            | (out_2, c_2) =>
              (some (out_2, c_2)))
          else (
            some (out_, y3.2))))) : Option (List (List UInt8) × Cur))).bind fun e => match e with
    | (out_1, c_1) =>
      (some (out_1, c_1)))

def M.spec_DrawAppendEntry (code : List Int) : Option (List (List UInt8) × List UInt8) :=
  (M.spec_l1Cur_ledger (⟨code, (0 : Int), (0 : Int)⟩ : Cur)).bind fun y0 =>
  (M.spec_l1Cur_entry y0.2).bind fun y1 =>
  some (y0.1, y1.1)

def M.slices_Clone_string_string (s : List (List UInt8)) : Option (List (List UInt8)) := asrt ((s.length : Int) ≤ 2147483648) <| some s

def M.impl_AppendEntry (list : List (List UInt8)) (entry : List UInt8) : Option (List (List UInt8) × Bool) :=
  (M.slices_Clone_string_string list).bind fun y0 =>
  asrt ((y0.length : Int) + (([entry] : List (List UInt8)).length : Int) ≤ 2147483648) <|
  (M.impl_IsLedger (y0 ++ ([entry] : List (List UInt8)))).bind fun y1 =>
  bif (!y1) then (
    some (([] : List (List UInt8)), false))
  else (
    some ((y0 ++ ([entry] : List (List UInt8))), true))

def M.spec_l16Good_l0 (list : List (List UInt8)) : (Int) → Option ((Int) ⊕ ((Unit) ⊕ (Bool))) := fun st_ => match st_ with
| i =>
  bif (decide (i < (list.length : Int))) then (
    asrt ((0 : Int) ≤ i ∧ i < (list.length : Int)) <|
    (M.spec_l16Entry (list.getD (Int.toNat i) default)).bind fun y1 =>
    bif (!y1) then (
      some (.inr (.inr false)))
    else (
      some (.inl (IntKind.i64.wrap (i + (1 : Int))))))
  else (
    some (.inr (.inl ())))

def M.spec_l16Good (list : List (List UInt8)) : Option Bool :=
  (iterO (M.spec_l16Good_l0 list) (0 : Int)).bind fun e => match e with
  | .inl () =>
    ((M.spec_l1In (list.length : Int) (1 : Int) (8 : Int)).bind fun y2 =>
    some y2)
  | .inr r => some r

def M.spec_AppendEntry (list : List (List UInt8)) (entry : List UInt8) : Option (List (List UInt8) × Bool) :=
  asrt ((([] : List (List UInt8)).length : Int) + (list.length : Int) ≤ 2147483648) <|
  asrt (((([] : List (List UInt8)) ++ list).length : Int) + (([entry] : List (List UInt8)).length : Int) ≤ 2147483648) <|
  (M.spec_l16Good ((([] : List (List UInt8)) ++ list) ++ ([entry] : List (List UInt8)))).bind fun y0 =>
  bif (!y0) then (
    some (([] : List (List UInt8)), false))
  else (
    some (((([] : List (List UInt8)) ++ list) ++ ([entry] : List (List UInt8))), true))

def M.laws_vTexts_l0 (a : List (List UInt8)) (b_ : List (List UInt8)) : (Int) → Option ((Int) ⊕ ((Unit) ⊕ (Bool))) := fun st_ => match st_ with
| i =>
  bif (decide (i < (a.length : Int))) then (
    asrt ((0 : Int) ≤ i ∧ i < (a.length : Int)) <|
    asrt ((0 : Int) ≤ i ∧ i < (b_.length : Int)) <|
    bif (!((a.getD (Int.toNat i) default) == (b_.getD (Int.toNat i) default))) then (
      some (.inr (.inr false)))
    else (
      some (.inl (IntKind.i64.wrap (i + (1 : Int))))))
  else (
    some (.inr (.inl ())))

def M.laws_vTexts (a : List (List UInt8)) (b_ : List (List UInt8)) : Option Bool :=
  bif ((a.length : Int) != (b_.length : Int)) then (
    some false)
  else (
    (iterO (M.laws_vTexts_l0 a b_) (0 : Int)).bind fun e => match e with
    | .inl () =>
      (some true)
    | .inr r => some r)

def M.spec_l1Cur_one (c : Cur) (n : Int) : Option (Bool × Cur) :=
  (M.spec_l1Cur_pick c n).bind fun y0 =>
  some ((y0.1 == (0 : Int)), y0.2)

def M.spec_l1Cur_record_l0 (y1 : Int × Cur) : (Int × List Event × Cur) → Option ((Int × List Event × Cur) ⊕ (List Event × Cur)) := fun st_ => match st_ with
| (k, r_Events0, c_0) =>
  bif (decide (k ≤ (6 : Int))) then (
    (((
      (M.spec_l1Cur_one c_0 (3 : Int)).bind fun y3 =>
      bif y3.1 then (
        (M.spec_l1Cur_among y3.2 ([(0 : Int), (1 : Int), (30 : Int), (365 : Int), (1000 : Int)] : List Int)).bind fun y4 =>
        asrt ((r_Events0.length : Int) + (([(⟨k, (IntKind.i64.wrap (y1.1 + y4.1))⟩ : Event)] : List Event).length : Int) ≤ 2147483648) <|
        (((
          some ((r_Events0 ++ ([(⟨k, (IntKind.i64.wrap (y1.1 + y4.1))⟩ : Event)] : List Event)), y4.2)) : Option (List Event × Cur))).bind fun e => match e with
        | (r_Events2, c_2) =>
          (some (r_Events2, c_2)))
      else (
        some (r_Events0, y3.2))) : Option (List Event × Cur))).bind fun e => match e with
    | (r_Events1, c_1) =>
      (some (.inl ((IntKind.i64.wrap (k + (1 : Int))), r_Events1, c_1))))
  else (
    some (.inr (r_Events0, c_0)))

def M.spec_l1Cur_record (c : Cur) (id_ : Int) : Option (Record × Cur) :=
  (M.spec_l1Cur_among c ([(1 : Int), (2 : Int), (3 : Int), (3 : Int), (7 : Int), (99 : Int)] : List Int)).bind fun y0 =>
  (M.spec_l1Cur_among y0.2 ([(0 : Int), (100 : Int), (100 : Int), (500 : Int), (3000 : Int)] : List Int)).bind fun y1 =>
  (iterO (M.spec_l1Cur_record_l0 y1) ((1 : Int), ([] : List Event), y1.2)).bind fun e => match e with
  | (r_Events, c_) =>
    ((M.spec_l1Cur_pick c_ (48 : Int)).bind fun y5 =>
    (((
      bif (y5.1 == (0 : Int)) then (
        (M.spec_l1Cur_among y5.2 ([(0 : Int), (100 : Int)] : List Int)).bind fun y6 =>
        some (y6.1, y1.1, r_Events, y6.2))
      else (
        bif (y5.1 == (1 : Int)) then (
          (M.spec_l1Cur_among y5.2 ([(-1 : Int), (20001 : Int), (19999 : Int)] : List Int)).bind fun y7 =>
          some (y0.1, y7.1, r_Events, y7.2))
        else (
          bif (y5.1 == (2 : Int)) then (
            (M.spec_l1Cur_among y5.2 ([(1 : Int), (9 : Int), (10 : Int)] : List Int)).bind fun y8 =>
            (M.spec_l1Cur_among y8.2 ([(0 : Int), (20000 : Int)] : List Int)).bind fun y9 =>
            asrt ((r_Events.length : Int) + (([(⟨y8.1, y9.1⟩ : Event)] : List Event).length : Int) ≤ 2147483648) <|
            (((
              some ((r_Events ++ ([(⟨y8.1, y9.1⟩ : Event)] : List Event)), y9.2)) : Option (List Event × Cur))).bind fun e => match e with
            | (r_Events4, o) =>
              (some (y0.1, y1.1, r_Events4, o)))
          else (
            some (y0.1, y1.1, r_Events, y5.2))))) : Option (Int × Int × List Event × Cur))).bind fun e => match e with
    | (r_Series, r_Made, r_Events3, c_3) =>
      (some ((⟨id_, r_Series, r_Made, r_Events3⟩ : Record), c_3)))

def M.spec_l1Cur_day (c : Cur) : Option (Int × Cur) :=
  (M.spec_l1Cur_among c ([(0 : Int), (10 : Int), (100 : Int), (150 : Int), (400 : Int), (1000 : Int), (3650 : Int), (19999 : Int), (20000 : Int), (20001 : Int), (-1 : Int), (365 : Int)] : List Int)).bind fun y0 =>
  some (y0.1, y0.2)

def M.spec_DrawDestructionEntry (code : List Int) : Option (Record × Int) :=
  (M.spec_l1Cur_record (⟨code, (0 : Int), (0 : Int)⟩ : Cur) (12 : Int)).bind fun y0 =>
  (M.spec_l1Cur_day y0.2).bind fun y1 =>
  some (y0.1, y1.1)

def M.impl_isId (id_ : Int) : Option Bool :=
  (M.impl_within id_ (1 : Int) (99 : Int)).bind fun y0 =>
  some y0

def M.impl_isDay (day : Int) : Option Bool :=
  (M.impl_within day (0 : Int) (20000 : Int)).bind fun y0 =>
  some y0

def M.impl_IsEvent (e_ : Event) : Option Bool :=
  (M.impl_within e_.Kind (1 : Int) (9 : Int)).bind fun y0 =>
  ((bif y0 then M.impl_isDay e_.Day else some default)).bind fun y1 =>
  some (y0 && y1)

def M.impl_IsRecord_l0 (r_ : Record) : (Int) → Option ((Int) ⊕ ((Unit) ⊕ (Bool))) := fun st_ => match st_ with
| v =>
  bif (decide (v < (r_.Events.length : Int))) then (
    asrt ((0 : Int) ≤ v ∧ v < (r_.Events.length : Int)) <|
    (M.impl_IsEvent (r_.Events.getD (Int.toNat v) default)).bind fun y4 =>
    asrt (((!y4) || (decide (((r_.Events.getD (Int.toNat v) default).Day) < r_.Made))) = false → (decide (v > (0 : Int))) = true → ((0 : Int) ≤ (IntKind.i64.wrap (v - (1 : Int))) ∧ (IntKind.i64.wrap (v - (1 : Int))) < (r_.Events.length : Int))) <|
    bif (((!y4) || (decide (((r_.Events.getD (Int.toNat v) default).Day) < r_.Made))) || ((decide (v > (0 : Int))) && (decide (((r_.Events.getD (Int.toNat (IntKind.i64.wrap (v - (1 : Int)))) default).Kind) ≥ ((r_.Events.getD (Int.toNat v) default).Kind))))) then (
      some (.inr (.inr false)))
    else (
      some (.inl (IntKind.i64.wrap (v + (1 : Int))))))
  else (
    some (.inr (.inl ())))

def M.impl_IsRecord (r_ : Record) : Option Bool :=
  (M.impl_within r_.Id (1 : Int) (999 : Int)).bind fun y0 =>
  ((bif (!y0) then some default else M.impl_isId r_.Series)).bind fun y1 =>
  ((bif ((!y0) || (!y1)) then some default else M.impl_isDay r_.Made)).bind fun y2 =>
  bif ((((!y0) || (!y1)) || (!y2)) || (decide ((r_.Events.length : Int) > (6 : Int)))) then (
    some false)
  else (
    (iterO (M.impl_IsRecord_l0 r_) (0 : Int)).bind fun e => match e with
    | .inl () =>
      (some true)
    | .inr r => some r)

def M.impl_destructionEntry (r_ : Record) (day : Int) : Option (List UInt8) :=
  (M.impl_decimal r_.Id).bind fun y0 =>
  asrt (([114]).length + y0.length ≤ 9223372036854775807) <|
  asrt ((([114]) ++ y0).length + ([32, 115]).length ≤ 9223372036854775807) <|
  (M.impl_decimal r_.Series).bind fun y1 =>
  asrt (((([114]) ++ y0) ++ ([32, 115])).length + y1.length ≤ 9223372036854775807) <|
  asrt ((((([114]) ++ y0) ++ ([32, 115])) ++ y1).length + ([32, 100]).length ≤ 9223372036854775807) <|
  (M.impl_decimal day).bind fun y2 =>
  asrt (((((([114]) ++ y0) ++ ([32, 115])) ++ y1) ++ ([32, 100])).length + y2.length ≤ 9223372036854775807) <|
  some (((((([114]) ++ y0) ++ ([32, 115])) ++ y1) ++ ([32, 100])) ++ y2)

def M.impl_DestructionEntry (r_ : Record) (day : Int) : Option (List UInt8 × Bool) :=
  (M.impl_IsRecord r_).bind fun y0 =>
  ((bif (!y0) then some default else M.impl_isDay day)).bind fun y1 =>
  bif ((!y0) || (!y1)) then (
    some ([], false))
  else (
    (M.impl_destructionEntry r_ day).bind fun y2 =>
    some (y2, true))

def M.spec_l2Day (d : Int) : Option Bool :=
  (M.spec_l1In d (0 : Int) (20000 : Int)).bind fun y0 =>
  some y0

def M.spec_l2Event (e_ : Event) : Option Bool :=
  (M.spec_l1In e_.Kind (1 : Int) (9 : Int)).bind fun y0 =>
  ((bif y0 then M.spec_l2Day e_.Day else some default)).bind fun y1 =>
  some (y0 && y1)

def M.spec_l2Record_l0 (r_ : Record) : (Int) → Option ((Int) ⊕ ((Unit) ⊕ (Bool))) := fun st_ => match st_ with
| i =>
  bif (decide (i < (r_.Events.length : Int))) then (
    asrt ((0 : Int) ≤ i ∧ i < (r_.Events.length : Int)) <|
    (M.spec_l2Event (r_.Events.getD (Int.toNat i) default)).bind fun y1 =>
    asrt (((!y1) || (decide (((r_.Events.getD (Int.toNat i) default).Day) < r_.Made))) = false → (decide (i > (0 : Int))) = true → ((0 : Int) ≤ (IntKind.i64.wrap (i - (1 : Int))) ∧ (IntKind.i64.wrap (i - (1 : Int))) < (r_.Events.length : Int))) <|
    bif (((!y1) || (decide (((r_.Events.getD (Int.toNat i) default).Day) < r_.Made))) || ((decide (i > (0 : Int))) && (decide (((r_.Events.getD (Int.toNat (IntKind.i64.wrap (i - (1 : Int)))) default).Kind) ≥ ((r_.Events.getD (Int.toNat i) default).Kind))))) then (
      some (.inr (.inr false)))
    else (
      some (.inl (IntKind.i64.wrap (i + (1 : Int))))))
  else (
    some (.inr (.inl ())))

def M.spec_l2Record (r_ : Record) : Option Bool :=
  (iterO (M.spec_l2Record_l0 r_) (0 : Int)).bind fun e => match e with
  | .inl () =>
    ((M.spec_l1In r_.Id (1 : Int) (999 : Int)).bind fun y2 =>
    ((bif y2 then M.spec_l1In r_.Series (1 : Int) (99 : Int) else some default)).bind fun y3 =>
    ((bif (y2 && y3) then M.spec_l2Day r_.Made else some default)).bind fun y4 =>
    some (((y2 && y3) && y4) && (decide ((r_.Events.length : Int) ≤ (6 : Int)))))
  | .inr r => some r

def M.spec_DestructionEntry (r_ : Record) (day : Int) : Option (List UInt8 × Bool) :=
  (M.spec_l2Record r_).bind fun y0 =>
  ((bif (!y0) then some default else M.spec_l2Day day)).bind fun y1 =>
  bif ((!y0) || (!y1)) then (
    some ([], false))
  else (
    (M.spec_l1Num r_.Id).bind fun y2 =>
    asrt (([114]).length + y2.length ≤ 9223372036854775807) <|
    asrt ((([114]) ++ y2).length + ([32, 115]).length ≤ 9223372036854775807) <|
    (M.spec_l1Num r_.Series).bind fun y3 =>
    asrt (((([114]) ++ y2) ++ ([32, 115])).length + y3.length ≤ 9223372036854775807) <|
    asrt ((((([114]) ++ y2) ++ ([32, 115])) ++ y3).length + ([32, 100]).length ≤ 9223372036854775807) <|
    (M.spec_l1Num day).bind fun y4 =>
    asrt (((((([114]) ++ y2) ++ ([32, 115])) ++ y3) ++ ([32, 100])).length + y4.length ≤ 9223372036854775807) <|
    some ((((((([114]) ++ y2) ++ ([32, 115])) ++ y3) ++ ([32, 100])) ++ y4), true))

def M.laws_FnLedgers (code : List Int) : Option Bool :=
  (M.laws_vBig code).bind fun y0 =>
  bif y0 then (
    some true)
  else (
    (M.spec_DrawEntryHash code).bind fun y1 =>
    (M.impl_EntryHash y1).bind fun y2 =>
    (M.spec_EntryHash y1).bind fun y3 =>
    bif ((y2.1 != y3.1) || (!(y2.2 == y3.2))) then (
      some false)
    else (
      (((
        bif y2.2 then (
          (M.impl_RootOf ([y1] : List (List UInt8))).bind fun y4 =>
          (M.impl_RootOf ([y1, y1] : List (List UInt8))).bind fun y5 =>
          (M.impl_PairHash y2.1 y2.1).bind fun y6 =>
          bif (((((!y4.2) || (y4.1 != y2.1)) || (!y5.2)) || (!y6.2)) || (y5.1 != y6.1)) then (
            some (.inr false))
          else (
            some (.inl ())))
        else (
          some (.inl ()))) : Option ((Unit) ⊕ (Bool)))).bind fun e => match e with
      | .inl () =>
        ((M.spec_DrawPairHash code).bind fun y7 =>
        (M.impl_PairHash y7.1 y7.2).bind fun y8 =>
        (M.spec_PairHash y7.1 y7.2).bind fun y9 =>
        bif ((y8.1 != y9.1) || (!(y8.2 == y9.2))) then (
          some false)
        else (
          (M.spec_DrawAppendEntry code).bind fun y10 =>
          (M.impl_AppendEntry y10.1 y10.2).bind fun y11 =>
          (M.spec_AppendEntry y10.1 y10.2).bind fun y12 =>
          ((bif (!(y11.2 == y12.2)) then some default else M.laws_vTexts y11.1 y12.1)).bind fun y13 =>
          bif ((!(y11.2 == y12.2)) || (!y13)) then (
            some false)
          else (
            (M.spec_DrawDestructionEntry code).bind fun y14 =>
            (M.impl_DestructionEntry y14.1 y14.2).bind fun y15 =>
            (M.spec_DestructionEntry y14.1 y14.2).bind fun y16 =>
            bif ((!(y15.1 == y16.1)) || (!(y15.2 == y16.2))) then (
              some false)
            else (
              bif y15.2 then (
                (M.impl_EntryHash y15.1).bind fun y17 =>
                some y17.2)
              else (
                some true)))))
      | .inr r => some r))
end Go.Proofs.YthcmelnpcaijaaaDoor
