/- models of the functions -/
import Derived.Test.YtjfpdbhjoofllaaDoorWk
set_option linter.unusedSimpArgs false
set_option linter.unusedVariables false
set_option maxRecDepth 100000
namespace Go.Proofs.YtjfpdbhjoofllaaDoor
open Go.VS

structure Cur where
  Code : List Int
  At : Int
  Seed : Int
  deriving Inhabited, DecidableEq

abbrev encCur (ρ : Nat) (c : Cur) : PV := .agg [.vl ρ 1 (List.map encU8 c.Code), .int .i64 c.At, .int .u64 c.Seed]

structure Format where
  Id : Int
  Name : List UInt8
  Until : Int
  Reads : List Int
  deriving Inhabited, DecidableEq

abbrev encFormat (ρ : Nat) (c : Format) : PV := .agg [.int .i64 c.Id, .str c.Name, .int .i64 c.Until, .vl ρ 1 (List.map encInt c.Reads)]

structure Copy where
  Record : Int
  Format : Int
  Size : Int
  Seen : Int
  deriving Inhabited, DecidableEq

abbrev encCopy (c : Copy) : PV := .agg [.int .i64 c.Record, .int .i64 c.Format, .int .i64 c.Size, .int .i64 c.Seen]

def M.laws_rBig (code : List Int) : Option Bool :=
  some (decide ((code.length : Int) > (65536 : Int)))

def M.spec_l1Cur_next (c : Cur) : Option (Int × Cur) :=
  (((
    bif (decide (c.At < (c.Code.length : Int))) then (
      asrt ((0 : Int) ≤ c.At ∧ c.At < (c.Code.length : Int)) <|
      some (IntKind.i64.wrap (c.Code.getD (Int.toNat c.At) default)))
    else (
      some (0 : Int))) : Option Int)).bind fun e => match e with
  | b_ =>
    (bif (decide ((IntKind.i64.wrap (c.At + (1 : Int))) ≤ (c.Code.length : Int))) then (
      some (b_, (⟨c.Code, (IntKind.i64.wrap (c.At + (1 : Int))), (IntKind.u64.wrap ((IntKind.u64.wrap ((IntKind.u64.wrap (c.Seed * (6364136223846793005 : Int))) + (IntKind.u64.wrap b_))) + (103535 : Int)))⟩ : Cur)))
    else (
      some ((IntKind.i64.wrap (IntKind.u64.wrap (BitVec.ofInt IntKind.u64.bits (Int.fdiv (IntKind.u64.wrap ((IntKind.u64.wrap ((IntKind.u64.wrap (c.Seed * (6364136223846793005 : Int))) + (IntKind.u64.wrap b_))) + (103535 : Int))) (2 ^ (min (Int.toNat (40 : Int)) IntKind.u64.bits))) &&& BitVec.ofInt IntKind.u64.bits (255 : Int)).toNat)), (⟨c.Code, (IntKind.i64.wrap (c.At + (1 : Int))), (IntKind.u64.wrap ((IntKind.u64.wrap ((IntKind.u64.wrap (c.Seed * (6364136223846793005 : Int))) + (IntKind.u64.wrap b_))) + (103535 : Int)))⟩ : Cur))))

def M.spec_l1Cur_pick (c : Cur) (n : Int) : Option (Int × Cur) :=
  bif (decide (n ≤ (1 : Int))) then (
    some ((0 : Int), c))
  else (
    (M.spec_l1Cur_next c).bind fun y0 =>
    (((
      bif (decide (n > (200 : Int))) then (
        (M.spec_l1Cur_next y0.2).bind fun y1 =>
        some ((IntKind.i64.wrap ((IntKind.i64.wrap (y0.1 * (256 : Int))) + y1.1)), y1.2))
      else (
        some (y0.1, y0.2))) : Option (Int × Cur))).bind fun e => match e with
    | (x, c_) =>
      (asrt (n ≠ 0) <|
      some ((Int.tmod x n), c_)))

def M.spec_l1Cur_among (c : Cur) (list : List Int) : Option (Int × Cur) :=
  (M.spec_l1Cur_pick c (list.length : Int)).bind fun y0 =>
  asrt ((0 : Int) ≤ y0.1 ∧ y0.1 < (list.length : Int)) <|
  some ((list.getD (Int.toNat y0.1) default), y0.2)

def M.spec_l1Cur_one (c : Cur) (n : Int) : Option (Bool × Cur) :=
  (M.spec_l1Cur_pick c n).bind fun y0 =>
  some ((y0.1 == (0 : Int)), y0.2)

def M.spec_l1Cur_of (c : Cur) (list : List (List UInt8)) : Option (List UInt8 × Cur) :=
  (M.spec_l1Cur_pick c (list.length : Int)).bind fun y0 =>
  asrt ((0 : Int) ≤ y0.1 ∧ y0.1 < (list.length : Int)) <|
  some ((list.getD (Int.toNat y0.1) default), y0.2)

def M.spec_l1Cur_formats_l1 (out_0 : List Format) : (Int × List Int × Cur) → Option ((Int × List Int × Cur) ⊕ (List Int × Cur)) := fun st_ => match st_ with
| (i, f_Reads0, c_3) =>
  bif (decide (i < (out_0.length : Int))) then (
    (((
      (M.spec_l1Cur_one c_3 (2 : Int)).bind fun y5 =>
      bif y5.1 then (
        asrt ((0 : Int) ≤ i ∧ i < (out_0.length : Int)) <|
        asrt ((f_Reads0.length : Int) + (([(out_0.getD (Int.toNat i) default).Id] : List Int).length : Int) ≤ 2147483648) <|
        (((
          some (f_Reads0 ++ ([(out_0.getD (Int.toNat i) default).Id] : List Int))) : Option (List Int))).bind fun e => match e with
        | f_Reads2 =>
          (some (f_Reads2, y5.2)))
      else (
        some (f_Reads0, y5.2))) : Option (List Int × Cur))).bind fun e => match e with
    | (f_Reads1, c_4) =>
      (some (.inl ((IntKind.i64.wrap (i + (1 : Int))), f_Reads1, c_4))))
  else (
    some (.inr (f_Reads0, c_3)))

def M.spec_l1Cur_formats_l0 : (List Format × Int × Int × Cur) → Option ((List Format × Int × Int × Cur) ⊕ (List Format × Int × Cur)) := fun st_ => match st_ with
| (out_0, id_0, n_, c_0) =>
  bif (decide (n_ > (0 : Int))) then (
    (M.spec_l1Cur_pick c_0 (2 : Int)).bind fun y2 =>
    (M.spec_l1Cur_among y2.2 ([(0 : Int), (100 : Int), (100 : Int), (900 : Int), (20000 : Int)] : List Int)).bind fun y3 =>
    (((
      some y3.2) : Option Cur)).bind fun e => match e with
    | c_1 =>
      ((iterO (M.spec_l1Cur_formats_l1 out_0) ((0 : Int), ([] : List Int), c_1)).bind fun e => match e with
      | (f_Reads, c_2) =>
        (asrt ((out_0.length : Int) + (([(⟨(IntKind.i64.wrap ((IntKind.i64.wrap (id_0 + (1 : Int))) + y2.1)), (toBytes ([(IntKind.u8.wrap (IntKind.i64.wrap ((97 : Int) + (out_0.length : Int)))), (120 : Int)] : List Int)), y3.1, f_Reads⟩ : Format)] : List Format).length : Int) ≤ 2147483648) <|
        some (.inl ((out_0 ++ ([(⟨(IntKind.i64.wrap ((IntKind.i64.wrap (id_0 + (1 : Int))) + y2.1)), (toBytes ([(IntKind.u8.wrap (IntKind.i64.wrap ((97 : Int) + (out_0.length : Int)))), (120 : Int)] : List Int)), y3.1, f_Reads⟩ : Format)] : List Format)), (IntKind.i64.wrap ((IntKind.i64.wrap (id_0 + (1 : Int))) + y2.1)), (IntKind.i64.wrap (n_ - (1 : Int))), c_2)))))
  else (
    some (.inr (out_0, id_0, c_0)))

def M.spec_l1Cur_formats_l2 : (List Format × Int × Cur) → Option ((List Format × Int × Cur) ⊕ (List Format × Cur)) := fun st_ => match st_ with
| (out_4, id_1, c_7) =>
  (M.spec_l1Cur_pick c_7 (2 : Int)).bind fun y13 =>
  bif (decide ((out_4.length : Int) < (IntKind.i64.wrap ((10 : Int) + y13.1)))) then (
    asrt ((out_4.length : Int) + (([(⟨(IntKind.i64.wrap (id_1 + (1 : Int))), (toBytes ([(IntKind.u8.wrap (IntKind.i64.wrap ((97 : Int) + (out_4.length : Int)))), (121 : Int)] : List Int)), (50 : Int), ([] : List Int)⟩ : Format)] : List Format).length : Int) ≤ 2147483648) <|
    some (.inl ((out_4 ++ ([(⟨(IntKind.i64.wrap (id_1 + (1 : Int))), (toBytes ([(IntKind.u8.wrap (IntKind.i64.wrap ((97 : Int) + (out_4.length : Int)))), (121 : Int)] : List Int)), (50 : Int), ([] : List Int)⟩ : Format)] : List Format)), (IntKind.i64.wrap (id_1 + (1 : Int))), y13.2)))
  else (
    some (.inr (out_4, y13.2)))

def M.spec_l1Cur_formats (c : Cur) : Option (List Format × Cur) :=
  (M.spec_l1Cur_pick c (7 : Int)).bind fun y0 =>
  (iterO (M.spec_l1Cur_formats_l0) (([] : List Format), (0 : Int), y0.1, y0.2)).bind fun e => match e with
  | (out_, id_, c_) =>
    (bif ((out_.length : Int) == (0 : Int)) then (
      some (out_, c_))
    else (
      (M.spec_l1Cur_pick c_ (out_.length : Int)).bind fun y6 =>
      asrt ((0 : Int) ≤ y6.1 ∧ y6.1 < (out_.length : Int)) <|
      (((
        (M.spec_l1Cur_pick y6.2 (60 : Int)).bind fun y7 =>
        (((
          bif (y7.1 == (0 : Int)) then (
            (M.spec_l1Cur_among y7.2 ([(0 : Int), (50 : Int), (51 : Int)] : List Int)).bind fun y8 =>
            some (out_, y8.1, (out_.getD (Int.toNat y6.1) default).Name, (out_.getD (Int.toNat y6.1) default).Until, (out_.getD (Int.toNat y6.1) default).Reads, y8.2))
          else (
            bif (y7.1 == (1 : Int)) then (
              (M.spec_l1Cur_of y7.2 ([[], [65], [97, 120]] : List (List UInt8))).bind fun y9 =>
              some (out_, (out_.getD (Int.toNat y6.1) default).Id, y9.1, (out_.getD (Int.toNat y6.1) default).Until, (out_.getD (Int.toNat y6.1) default).Reads, y9.2))
            else (
              bif (y7.1 == (2 : Int)) then (
                (M.spec_l1Cur_among y7.2 ([(-1 : Int), (20001 : Int)] : List Int)).bind fun y10 =>
                some (out_, (out_.getD (Int.toNat y6.1) default).Id, (out_.getD (Int.toNat y6.1) default).Name, y10.1, (out_.getD (Int.toNat y6.1) default).Reads, y10.2))
              else (
                bif (y7.1 == (3 : Int)) then (
                  (M.spec_l1Cur_among y7.2 ([(out_.getD (Int.toNat y6.1) default).Id, (49 : Int), (0 : Int)] : List Int)).bind fun y11 =>
                  some (out_, (out_.getD (Int.toNat y6.1) default).Id, (out_.getD (Int.toNat y6.1) default).Name, (out_.getD (Int.toNat y6.1) default).Until, ([y11.1] : List Int), y11.2))
                else (
                  bif (y7.1 == (4 : Int)) then (
                    (iterO (M.spec_l1Cur_formats_l2) (out_, id_, y7.2)).bind fun e => match e with
                    | (out_3, c_6) =>
                      (some (out_3, (out_.getD (Int.toNat y6.1) default).Id, (out_.getD (Int.toNat y6.1) default).Name, (out_.getD (Int.toNat y6.1) default).Until, (out_.getD (Int.toNat y6.1) default).Reads, c_6)))
                  else (
                    (((
                      bif (y7.1 == (5 : Int)) then (
                        some (y7.1 == (5 : Int)))
                      else (
                        bif (y7.1 == (6 : Int)) then (
                          some (y7.1 == (6 : Int)))
                        else (
                          bif (y7.1 == (7 : Int)) then (
                            some (y7.1 == (7 : Int)))
                          else (
                            bif (y7.1 == (8 : Int)) then (
                              some (y7.1 == (8 : Int)))
                            else (
                              bif (y7.1 == (9 : Int)) then (
                                some (y7.1 == (9 : Int)))
                              else (
                                some (y7.1 == (10 : Int)))))))) : Option Bool)).bind fun e => match e with
                    | v =>
                      (bif v then (
                        bif (decide ((IntKind.i64.wrap (y6.1 + (1 : Int))) < (out_.length : Int))) then (
                          asrt ((0 : Int) ≤ (IntKind.i64.wrap (y6.1 + (1 : Int))) ∧ (IntKind.i64.wrap (y6.1 + (1 : Int))) < (out_.length : Int)) <|
                          some (out_, (out_.getD (Int.toNat y6.1) default).Id, (out_.getD (Int.toNat y6.1) default).Name, (out_.getD (Int.toNat y6.1) default).Until, ([(out_.getD (Int.toNat (IntKind.i64.wrap (y6.1 + (1 : Int)))) default).Id] : List Int), y7.2))
                        else (
                          some (out_, (out_.getD (Int.toNat y6.1) default).Id, (out_.getD (Int.toNat y6.1) default).Name, (out_.getD (Int.toNat y6.1) default).Until, (out_.getD (Int.toNat y6.1) default).Reads, y7.2)))
                      else (
                        some (out_, (out_.getD (Int.toNat y6.1) default).Id, (out_.getD (Int.toNat y6.1) default).Name, (out_.getD (Int.toNat y6.1) default).Until, (out_.getD (Int.toNat y6.1) default).Reads, y7.2))))))))) : Option (List Format × Int × List UInt8 × Int × List Int × Cur))).bind fun e => match e with
        | (out_2, f_Id, f_Name, f_Until, f_Reads3, c_5) =>
          (some (out_2, c_5, (⟨f_Id, f_Name, f_Until, f_Reads3⟩ : Format)))) : Option (List Format × Cur × Format))).bind fun e => match e with
      | (out_1, o, f_) =>
        (asrt ((0 : Int) ≤ y6.1 ∧ y6.1 < (out_1.length : Int)) <|
        some ((out_1.set (Int.toNat y6.1) f_), o))))

def M.spec_l1Cur_formatId (c : Cur) (list : List Format) : Option (Int × Cur) :=
  ((bif ((list.length : Int) == (0 : Int)) then some default else M.spec_l1Cur_one c (12 : Int))).bind fun y0 =>
  bif (((list.length : Int) == (0 : Int)) || y0.1) then (
    (M.spec_l1Cur_among (bif ((list.length : Int) == (0 : Int)) then c else y0.2) ([(0 : Int), (1 : Int), (48 : Int)] : List Int)).bind fun y1 =>
    some (y1.1, y1.2))
  else (
    (M.spec_l1Cur_pick (bif ((list.length : Int) == (0 : Int)) then c else y0.2) (list.length : Int)).bind fun y2 =>
    asrt ((0 : Int) ≤ y2.1 ∧ y2.1 < (list.length : Int)) <|
    some ((list.getD (Int.toNat y2.1) default).Id, y2.2))

def M.spec_DrawLastReadable (code : List Int) : Option (List Format × Int) :=
  (M.spec_l1Cur_formats (⟨code, (0 : Int), (0 : Int)⟩ : Cur)).bind fun y0 =>
  (M.spec_l1Cur_formatId y0.2 y0.1).bind fun y1 =>
  some (y0.1, y1.1)

def M.impl_within (n : Int) (low : Int) (high : Int) : Option Bool :=
  some ((decide (low ≤ n)) && (decide (n ≤ high)))

def M.strings_Trim (s cutset : List UInt8) : Option (List UInt8) := asrt (s.length ≤ 9223372036854775807 ∧ cutset.length < 4294967281 ∧ cutset.all (fun b => decide (b.toNat < 128)) = true) <| some (Go.Lib.trimS s cutset)

def M.impl_isWord (s : List UInt8) : Option Bool :=
  (M.impl_within (s.length : Int) (1 : Int) (10 : Int)).bind fun y0 =>
  ((bif y0 then M.strings_Trim s ([97, 98, 99, 100, 101, 102, 103, 104, 105, 106, 107, 108, 109, 110, 111, 112, 113, 114, 115, 116, 117, 118, 119, 120, 121, 122]) else some default)).bind fun y1 =>
  some (y0 && (y1 == ([])))

def M.impl_isDay (day : Int) : Option Bool :=
  (M.impl_within day (0 : Int) (20000 : Int)).bind fun y0 =>
  some y0

def M.impl_formatAt_1 (f : Format) (id_c : Int) : Option Bool :=
  some (f.Id == id_c)

def M.slices_IndexFunc_impl_Format_impl_Format_l0 (s : List Format) (fm : Format → Option Bool) : (Int) → Option ((Int) ⊕ ((Unit) ⊕ (Int))) := fun st_ => match st_ with
| v =>
  bif (decide (v < (s.length : Int))) then (
    asrt ((0 : Int) ≤ v ∧ v < (s.length : Int)) <|
    (fm (s.getD (Int.toNat v) default)).bind fun y1 =>
    bif y1 then (
      some (.inr (.inr v)))
    else (
      some (.inl (IntKind.i64.wrap (v + (1 : Int))))))
  else (
    some (.inr (.inl ())))

def M.slices_IndexFunc_impl_Format_impl_Format (s : List Format) (fm : Format → Option Bool) : Option Int :=
  (iterO (M.slices_IndexFunc_impl_Format_impl_Format_l0 s fm) (0 : Int)).bind fun e => match e with
  | .inl () =>
    (some (-1 : Int))
  | .inr r => some r

def M.impl_formatAt (list : List Format) (id_ : Int) : Option Int :=
  (M.slices_IndexFunc_impl_Format_impl_Format list (fun x0 => M.impl_formatAt_1 x0 id_)).bind fun y0 =>
  some y0

def M.impl_areReads_l0 (list : List Format) (f : Format) : (Int) → Option ((Int) ⊕ ((Unit) ⊕ (Bool))) := fun st_ => match st_ with
| v =>
  bif (decide (v < (f.Reads.length : Int))) then (
    asrt ((0 : Int) ≤ v ∧ v < (f.Reads.length : Int)) <|
    ((bif ((f.Reads.getD (Int.toNat v) default) == f.Id) then some default else M.impl_formatAt list (f.Reads.getD (Int.toNat v) default))).bind fun y1 =>
    asrt ((((f.Reads.getD (Int.toNat v) default) == f.Id) || (decide (y1 < (0 : Int)))) = false → (decide (v > (0 : Int))) = true → ((0 : Int) ≤ (IntKind.i64.wrap (v - (1 : Int))) ∧ (IntKind.i64.wrap (v - (1 : Int))) < (f.Reads.length : Int))) <|
    bif ((((f.Reads.getD (Int.toNat v) default) == f.Id) || (decide (y1 < (0 : Int)))) || ((decide (v > (0 : Int))) && (decide ((f.Reads.getD (Int.toNat (IntKind.i64.wrap (v - (1 : Int)))) default) ≥ (f.Reads.getD (Int.toNat v) default))))) then (
      some (.inr (.inr false)))
    else (
      some (.inl (IntKind.i64.wrap (v + (1 : Int))))))
  else (
    some (.inr (.inl ())))

def M.impl_areReads (list : List Format) (f : Format) : Option Bool :=
  (iterO (M.impl_areReads_l0 list f) (0 : Int)).bind fun e => match e with
  | .inl () =>
    (some (decide ((f.Reads.length : Int) ≤ (10 : Int))))
  | .inr r => some r

def M.impl_AreFormats_1 (g : Format) (f_c : Format) : Option Bool :=
  some (g.Name == f_c.Name)

def M.slices_ContainsFunc_impl_Format_impl_Format (s : List Format) (fm : Format → Option Bool) : Option Bool :=
  (M.slices_IndexFunc_impl_Format_impl_Format s fm).bind fun y0 =>
  some (decide (y0 ≥ (0 : Int)))

def M.impl_AreFormats_l0 (list : List Format) : (Int) → Option ((Int) ⊕ ((Unit) ⊕ (Bool))) := fun st_ => match st_ with
| v =>
  bif (decide (v < (list.length : Int))) then (
    asrt ((0 : Int) ≤ v ∧ v < (list.length : Int)) <|
    (M.impl_within ((list.getD (Int.toNat v) default).Id) (1 : Int) (50 : Int)).bind fun y1 =>
    ((bif (!y1) then some default else M.impl_isWord ((list.getD (Int.toNat v) default).Name))).bind fun y2 =>
    ((bif ((!y1) || (!y2)) then some default else M.impl_isDay ((list.getD (Int.toNat v) default).Until))).bind fun y3 =>
    asrt ((((!y1) || (!y2)) || (!y3)) = false → (decide (v > (0 : Int))) = true → ((0 : Int) ≤ (IntKind.i64.wrap (v - (1 : Int))) ∧ (IntKind.i64.wrap (v - (1 : Int))) < (list.length : Int))) <|
    ((bif ((((!y1) || (!y2)) || (!y3)) || ((decide (v > (0 : Int))) && (decide (((list.getD (Int.toNat (IntKind.i64.wrap (v - (1 : Int)))) default).Id) ≥ ((list.getD (Int.toNat v) default).Id))))) then some default else M.impl_areReads list (list.getD (Int.toNat v) default))).bind fun y4 =>
    bif (((((!y1) || (!y2)) || (!y3)) || ((decide (v > (0 : Int))) && (decide (((list.getD (Int.toNat (IntKind.i64.wrap (v - (1 : Int)))) default).Id) ≥ ((list.getD (Int.toNat v) default).Id))))) || (!y4)) then (
      some (.inr (.inr false)))
    else (
      asrt ((0 : Int) ≤ (0 : Int) ∧ (0 : Int) ≤ v ∧ v ≤ (list.length : Int)) <|
      (M.slices_ContainsFunc_impl_Format_impl_Format (slc list (0 : Int) v) (fun x0 => M.impl_AreFormats_1 x0 (list.getD (Int.toNat v) default))).bind fun y5 =>
      bif y5 then (
        some (.inr (.inr false)))
      else (
        some (.inl (IntKind.i64.wrap (v + (1 : Int)))))))
  else (
    some (.inr (.inl ())))

def M.impl_AreFormats (list : List Format) : Option Bool :=
  bif (decide ((list.length : Int) > (10 : Int))) then (
    some false)
  else (
    (iterO (M.impl_AreFormats_l0 list) (0 : Int)).bind fun e => match e with
    | .inl () =>
      (some true)
    | .inr r => some r)

def M.slices_Index_int_int_l0 (s : List Int) (v : Int) : (Int) → Option ((Int) ⊕ ((Unit) ⊕ (Int))) := fun st_ => match st_ with
| v0 =>
  bif (decide (v0 < (s.length : Int))) then (
    asrt ((0 : Int) ≤ v0 ∧ v0 < (s.length : Int)) <|
    bif (v == (s.getD (Int.toNat v0) default)) then (
      some (.inr (.inr v0)))
    else (
      some (.inl (IntKind.i64.wrap (v0 + (1 : Int))))))
  else (
    some (.inr (.inl ())))

def M.slices_Index_int_int (s : List Int) (v : Int) : Option Int :=
  (iterO (M.slices_Index_int_int_l0 s v) (0 : Int)).bind fun e => match e with
  | .inl () =>
    (some (-1 : Int))
  | .inr r => some r

def M.slices_Contains_int_int (s : List Int) (v : Int) : Option Bool :=
  (M.slices_Index_int_int s v).bind fun y0 =>
  some (decide (y0 ≥ (0 : Int)))

def M.impl_lastReadable_l0 (list : List Format) (id_ : Int) : (Int × Int) → Option ((Int × Int) ⊕ (Int)) := fun st_ => match st_ with
| (last0, v) =>
  bif (decide (v < (list.length : Int))) then (
    (((
      asrt ((0 : Int) ≤ v ∧ v < (list.length : Int)) <|
      (M.slices_Contains_int_int ((list.getD (Int.toNat v) default).Reads) id_).bind fun y2 =>
      bif y2 then (
        some (bif decide (last0 < ((list.getD (Int.toNat v) default).Until)) then ((list.getD (Int.toNat v) default).Until) else last0))
      else (
        some last0)) : Option Int)).bind fun e => match e with
    | last1 =>
      (some (.inl (last1, (IntKind.i64.wrap (v + (1 : Int)))))))
  else (
    some (.inr last0))

def M.impl_lastReadable (list : List Format) (id_ : Int) : Option Int :=
  (M.impl_formatAt list id_).bind fun y0 =>
  asrt ((0 : Int) ≤ y0 ∧ y0 < (list.length : Int)) <|
  (iterO (M.impl_lastReadable_l0 list id_) ((list.getD (Int.toNat y0) default).Until, (0 : Int))).bind fun e => match e with
  | last =>
    (some last)

def M.impl_LastReadable (list : List Format) (id_ : Int) : Option (Int × Bool) :=
  (M.impl_AreFormats list).bind fun y0 =>
  ((bif (!y0) then some default else M.impl_formatAt list id_)).bind fun y1 =>
  bif ((!y0) || (decide (y1 < (0 : Int)))) then (
    some ((0 : Int), false))
  else (
    (M.impl_lastReadable list id_).bind fun y2 =>
    some (y2, true))

def M.spec_l1In (x : Int) (a : Int) (b_ : Int) : Option Bool :=
  some ((decide (x ≥ a)) && (decide (x ≤ b_)))

def M.spec_l2Word_l0 (s : List UInt8) : (Int) → Option ((Int) ⊕ ((Unit) ⊕ (Bool))) := fun st_ => match st_ with
| i =>
  bif (decide (i < (s.length : Int))) then (
    asrt ((0 : Int) ≤ i ∧ i < (s.length : Int)) <|
    asrt ((decide (((s.getD (Int.toNat i) 0).toNat : Int) < (97 : Int))) = false → ((0 : Int) ≤ i ∧ i < (s.length : Int))) <|
    bif ((decide (((s.getD (Int.toNat i) 0).toNat : Int) < (97 : Int))) || (decide (((s.getD (Int.toNat i) 0).toNat : Int) > (122 : Int)))) then (
      some (.inr (.inr false)))
    else (
      some (.inl (IntKind.i64.wrap (i + (1 : Int))))))
  else (
    some (.inr (.inl ())))

def M.spec_l2Word (s : List UInt8) : Option Bool :=
  (iterO (M.spec_l2Word_l0 s) (0 : Int)).bind fun e => match e with
  | .inl () =>
    ((M.spec_l1In (s.length : Int) (1 : Int) (10 : Int)).bind fun y1 =>
    some y1)
  | .inr r => some r

def M.spec_l2Day (d : Int) : Option Bool :=
  (M.spec_l1In d (0 : Int) (20000 : Int)).bind fun y0 =>
  some y0

def M.spec_l1Rising_l0 (l : List Int) (lo : Int) (hi : Int) : (Int) → Option ((Int) ⊕ ((Unit) ⊕ (Bool))) := fun st_ => match st_ with
| i =>
  bif (decide (i < (l.length : Int))) then (
    asrt ((0 : Int) ≤ i ∧ i < (l.length : Int)) <|
    (M.spec_l1In (l.getD (Int.toNat i) default) lo hi).bind fun y1 =>
    asrt ((!y1) = false → (decide (i > (0 : Int))) = true → ((0 : Int) ≤ (IntKind.i64.wrap (i - (1 : Int))) ∧ (IntKind.i64.wrap (i - (1 : Int))) < (l.length : Int))) <|
    asrt ((!y1) = false → (decide (i > (0 : Int))) = true → ((0 : Int) ≤ i ∧ i < (l.length : Int))) <|
    bif ((!y1) || ((decide (i > (0 : Int))) && (decide ((l.getD (Int.toNat (IntKind.i64.wrap (i - (1 : Int)))) default) ≥ (l.getD (Int.toNat i) default))))) then (
      some (.inr (.inr false)))
    else (
      some (.inl (IntKind.i64.wrap (i + (1 : Int))))))
  else (
    some (.inr (.inl ())))

def M.spec_l1Rising (l : List Int) (lo : Int) (hi : Int) : Option Bool :=
  (iterO (M.spec_l1Rising_l0 l lo hi) (0 : Int)).bind fun e => match e with
  | .inl () =>
    (some true)
  | .inr r => some r

def M.spec_l1Has_l0 (l : List Int) (n : Int) : (Int) → Option ((Int) ⊕ ((Unit) ⊕ (Bool))) := fun st_ => match st_ with
| i =>
  bif (decide (i < (l.length : Int))) then (
    asrt ((0 : Int) ≤ i ∧ i < (l.length : Int)) <|
    bif ((l.getD (Int.toNat i) default) == n) then (
      some (.inr (.inr true)))
    else (
      some (.inl (IntKind.i64.wrap (i + (1 : Int))))))
  else (
    some (.inr (.inl ())))

def M.spec_l1Has (l : List Int) (n : Int) : Option Bool :=
  (iterO (M.spec_l1Has_l0 l n) (0 : Int)).bind fun e => match e with
  | .inl () =>
    (some false)
  | .inr r => some r

def M.spec_l7Find_l0 (list : List Format) (id_ : Int) : (Int) → Option ((Int) ⊕ ((Unit) ⊕ (Int))) := fun st_ => match st_ with
| i =>
  bif (decide (i < (list.length : Int))) then (
    asrt ((0 : Int) ≤ i ∧ i < (list.length : Int)) <|
    bif (((list.getD (Int.toNat i) default).Id) == id_) then (
      some (.inr (.inr i)))
    else (
      some (.inl (IntKind.i64.wrap (i + (1 : Int))))))
  else (
    some (.inr (.inl ())))

def M.spec_l7Find (list : List Format) (id_ : Int) : Option Int :=
  (iterO (M.spec_l7Find_l0 list id_) (0 : Int)).bind fun e => match e with
  | .inl () =>
    (some (-1 : Int))
  | .inr r => some r

def M.spec_l7Good_l1 (list : List Format) (i : Int) : (Int) → Option ((Int) ⊕ ((Unit) ⊕ (Bool))) := fun st_ => match st_ with
| k =>
  bif (decide (k < i)) then (
    asrt ((0 : Int) ≤ k ∧ k < (list.length : Int)) <|
    bif (((list.getD (Int.toNat k) default).Name) == ((list.getD (Int.toNat i) default).Name)) then (
      some (.inr (.inr false)))
    else (
      some (.inl (IntKind.i64.wrap (k + (1 : Int))))))
  else (
    some (.inr (.inl ())))

def M.spec_l7Good_l2 (list : List Format) (i : Int) : (Int) → Option ((Int) ⊕ ((Unit) ⊕ (Bool))) := fun st_ => match st_ with
| k0 =>
  bif (decide (k0 < (((list.getD (Int.toNat i) default).Reads).length : Int))) then (
    asrt ((0 : Int) ≤ k0 ∧ k0 < (((list.getD (Int.toNat i) default).Reads).length : Int)) <|
    (M.spec_l7Find list (((list.getD (Int.toNat i) default).Reads).getD (Int.toNat k0) default)).bind fun y8 =>
    bif (decide (y8 < (0 : Int))) then (
      some (.inr (.inr false)))
    else (
      some (.inl (IntKind.i64.wrap (k0 + (1 : Int))))))
  else (
    some (.inr (.inl ())))

def M.spec_l7Good_l0 (list : List Format) : (Int) → Option ((Int) ⊕ ((Unit) ⊕ (Bool))) := fun st_ => match st_ with
| i =>
  bif ((decide (i < (list.length : Int))) && (decide (i ≤ (10 : Int)))) then (
    asrt ((0 : Int) ≤ i ∧ i < (list.length : Int)) <|
    (M.spec_l1In ((list.getD (Int.toNat i) default).Id) (1 : Int) (50 : Int)).bind fun y1 =>
    ((bif (!y1) then some default else M.spec_l2Word ((list.getD (Int.toNat i) default).Name))).bind fun y2 =>
    ((bif ((!y1) || (!y2)) then some default else M.spec_l2Day ((list.getD (Int.toNat i) default).Until))).bind fun y3 =>
    ((bif ((((!y1) || (!y2)) || (!y3)) || (decide ((((list.getD (Int.toNat i) default).Reads).length : Int) > (10 : Int)))) then some default else M.spec_l1Rising ((list.getD (Int.toNat i) default).Reads) (1 : Int) (50 : Int))).bind fun y4 =>
    bif (((((!y1) || (!y2)) || (!y3)) || (decide ((((list.getD (Int.toNat i) default).Reads).length : Int) > (10 : Int)))) || (!y4)) then (
      some (.inr (.inr false)))
    else (
      asrt ((decide (i > (0 : Int))) = true → ((0 : Int) ≤ (IntKind.i64.wrap (i - (1 : Int))) ∧ (IntKind.i64.wrap (i - (1 : Int))) < (list.length : Int))) <|
      ((bif ((decide (i > (0 : Int))) && (decide (((list.getD (Int.toNat (IntKind.i64.wrap (i - (1 : Int)))) default).Id) ≥ ((list.getD (Int.toNat i) default).Id)))) then some default else M.spec_l1Has ((list.getD (Int.toNat i) default).Reads) ((list.getD (Int.toNat i) default).Id))).bind fun y5 =>
      bif (((decide (i > (0 : Int))) && (decide (((list.getD (Int.toNat (IntKind.i64.wrap (i - (1 : Int)))) default).Id) ≥ ((list.getD (Int.toNat i) default).Id)))) || y5) then (
        some (.inr (.inr false)))
      else (
        (iterO (M.spec_l7Good_l1 list i) (0 : Int)).bind fun e => match e with
        | .inl () =>
          ((iterO (M.spec_l7Good_l2 list i) (0 : Int)).bind fun e => match e with
          | .inl () =>
            (some (.inl (IntKind.i64.wrap (i + (1 : Int)))))
          | .inr r => some (.inr (.inr r)))
        | .inr r => some (.inr (.inr r)))))
  else (
    some (.inr (.inl ())))

def M.spec_l7Good (list : List Format) : Option Bool :=
  (iterO (M.spec_l7Good_l0 list) (0 : Int)).bind fun e => match e with
  | .inl () =>
    (some (decide ((list.length : Int) ≤ (10 : Int))))
  | .inr r => some r

def M.spec_l1Most (a : Int) (b_ : Int) : Option Int :=
  bif (decide (a > b_)) then (
    some a)
  else (
    some b_)

def M.spec_l7Last_l0 (list : List Format) (id_ : Int) : (Int × Int) → Option ((Int × Int) ⊕ (Int)) := fun st_ => match st_ with
| (last0, i) =>
  bif (decide (i < (list.length : Int))) then (
    (((
      asrt ((0 : Int) ≤ i ∧ i < (list.length : Int)) <|
      (M.spec_l1Has ((list.getD (Int.toNat i) default).Reads) id_).bind fun y2 =>
      bif y2 then (
        asrt ((0 : Int) ≤ i ∧ i < (list.length : Int)) <|
        (M.spec_l1Most last0 ((list.getD (Int.toNat i) default).Until)).bind fun y3 =>
        some y3)
      else (
        some last0)) : Option Int)).bind fun e => match e with
    | last1 =>
      (some (.inl (last1, (IntKind.i64.wrap (i + (1 : Int)))))))
  else (
    some (.inr last0))

def M.spec_l7Last (list : List Format) (id_ : Int) : Option Int :=
  (M.spec_l7Find list id_).bind fun y0 =>
  asrt ((0 : Int) ≤ y0 ∧ y0 < (list.length : Int)) <|
  (iterO (M.spec_l7Last_l0 list id_) ((list.getD (Int.toNat y0) default).Until, (0 : Int))).bind fun e => match e with
  | last =>
    (some last)

def M.spec_LastReadable (list : List Format) (id_ : Int) : Option (Int × Bool) :=
  (M.spec_l7Good list).bind fun y0 =>
  ((bif (!y0) then some default else M.spec_l7Find list id_)).bind fun y1 =>
  bif ((!y0) || (decide (y1 < (0 : Int)))) then (
    some ((0 : Int), false))
  else (
    (M.spec_l7Last list id_).bind fun y2 =>
    some (y2, true))

def M.impl_isOnDay (list : List Format) (id_ : Int) (day : Int) : Option Bool :=
  (M.impl_AreFormats list).bind fun y0 =>
  ((bif y0 then M.impl_formatAt list id_ else some default)).bind fun y1 =>
  ((bif (y0 && (decide (y1 ≥ (0 : Int)))) then M.impl_isDay day else some default)).bind fun y2 =>
  some ((y0 && (decide (y1 ≥ (0 : Int)))) && y2)

def M.impl_IsReadable (list : List Format) (id_ : Int) (day : Int) : Option (Bool × Bool) :=
  (M.impl_isOnDay list id_ day).bind fun y0 =>
  bif (!y0) then (
    some (false, false))
  else (
    (M.impl_lastReadable list id_).bind fun y1 =>
    some ((decide (y1 ≥ day)), true))

def M.spec_l7Copies_l0 (list : List Format) (copies : List Copy) : (Int) → Option ((Int) ⊕ ((Unit) ⊕ (Bool))) := fun st_ => match st_ with
| i =>
  bif (decide (i < (copies.length : Int))) then (
    asrt ((0 : Int) ≤ i ∧ i < (copies.length : Int)) <|
    (M.spec_l1In ((copies.getD (Int.toNat i) default).Record) (1 : Int) (999 : Int)).bind fun y1 =>
    ((bif (!y1) then some default else M.spec_l7Find list ((copies.getD (Int.toNat i) default).Format))).bind fun y2 =>
    ((bif ((!y1) || (decide (y2 < (0 : Int)))) then some default else M.spec_l1In ((copies.getD (Int.toNat i) default).Size) (1 : Int) (1000000 : Int))).bind fun y3 =>
    ((bif (((!y1) || (decide (y2 < (0 : Int)))) || (!y3)) then some default else M.spec_l2Day ((copies.getD (Int.toNat i) default).Seen))).bind fun y4 =>
    bif ((((!y1) || (decide (y2 < (0 : Int)))) || (!y3)) || (!y4)) then (
      some (.inr (.inr false)))
    else (
      asrt ((decide (i > (0 : Int))) = true → ((0 : Int) ≤ (IntKind.i64.wrap (i - (1 : Int))) ∧ (IntKind.i64.wrap (i - (1 : Int))) < (copies.length : Int))) <|
      asrt ((decide (i > (0 : Int))) = true → (decide (((copies.getD (Int.toNat (IntKind.i64.wrap (i - (1 : Int)))) default).Record) > ((copies.getD (Int.toNat i) default).Record))) = false → ((0 : Int) ≤ (IntKind.i64.wrap (i - (1 : Int))) ∧ (IntKind.i64.wrap (i - (1 : Int))) < (copies.length : Int))) <|
      asrt ((decide (i > (0 : Int))) = true → (decide (((copies.getD (Int.toNat (IntKind.i64.wrap (i - (1 : Int)))) default).Record) > ((copies.getD (Int.toNat i) default).Record))) = false → (((copies.getD (Int.toNat (IntKind.i64.wrap (i - (1 : Int)))) default).Record) == ((copies.getD (Int.toNat i) default).Record)) = true → ((0 : Int) ≤ (IntKind.i64.wrap (i - (1 : Int))) ∧ (IntKind.i64.wrap (i - (1 : Int))) < (copies.length : Int))) <|
      bif ((decide (i > (0 : Int))) && ((decide (((copies.getD (Int.toNat (IntKind.i64.wrap (i - (1 : Int)))) default).Record) > ((copies.getD (Int.toNat i) default).Record))) || ((((copies.getD (Int.toNat (IntKind.i64.wrap (i - (1 : Int)))) default).Record) == ((copies.getD (Int.toNat i) default).Record)) && (decide (((copies.getD (Int.toNat (IntKind.i64.wrap (i - (1 : Int)))) default).Format) ≥ ((copies.getD (Int.toNat i) default).Format)))))) then (
        some (.inr (.inr false)))
      else (
        some (.inl (IntKind.i64.wrap (i + (1 : Int)))))))
  else (
    some (.inr (.inl ())))

def M.spec_l7Copies (list : List Format) (copies : List Copy) : Option Bool :=
  (iterO (M.spec_l7Copies_l0 list copies) (0 : Int)).bind fun e => match e with
  | .inl () =>
    ((M.spec_l7Good list).bind fun y5 =>
    some (y5 && (decide ((copies.length : Int) ≤ (15 : Int)))))
  | .inr r => some r

def M.spec_l1Cur_copies7_l0 (list : List Format) : (List Copy × Int × Int × Cur) → Option ((List Copy × Int × Int × Cur) ⊕ (List Copy × Cur)) := fun st_ => match st_ with
| (out_0, record, n_, c_0) =>
  bif (decide (n_ > (0 : Int))) then (
    (((
      (M.spec_l1Cur_formatId c_0 list).bind fun y2 =>
      (M.spec_l1Cur_among y2.2 ([(1 : Int), (500 : Int), (1000000 : Int)] : List Int)).bind fun y3 =>
      (M.spec_l1Cur_among y3.2 ([(0 : Int), (90 : Int), (100 : Int), (20000 : Int)] : List Int)).bind fun y4 =>
      (((
        (M.spec_l1Cur_pick y4.2 (120 : Int)).bind fun y5 =>
        (((
          bif (y5.1 == (0 : Int)) then (
            (M.spec_l1Cur_among y5.2 ([(0 : Int), (1000 : Int)] : List Int)).bind fun y6 =>
            some (y6.2, (⟨y6.1, y2.1, y3.1, y4.1⟩ : Copy)))
          else (
            bif (y5.1 == (1 : Int)) then (
              (M.spec_l1Cur_among y5.2 ([(0 : Int), (1000001 : Int)] : List Int)).bind fun y7 =>
              some (y7.2, (⟨record, y2.1, y7.1, y4.1⟩ : Copy)))
            else (
              bif (y5.1 == (2 : Int)) then (
                (M.spec_l1Cur_among y5.2 ([(-1 : Int), (20001 : Int)] : List Int)).bind fun y8 =>
                some (y8.2, (⟨record, y2.1, y3.1, y8.1⟩ : Copy)))
              else (
                some (y5.2, (⟨record, y2.1, y3.1, y4.1⟩ : Copy)))))) : Option (Cur × Copy))).bind fun e => match e with
        | (c_3, x0) =>
          (some (c_3, x0))) : Option (Cur × Copy))).bind fun e => match e with
      | (c_2, x) =>
        ((((
          asrt ((([] : List Copy).length : Int) + (out_0.length : Int) ≤ 2147483648) <|
          asrt (((([] : List Copy) ++ out_0).length : Int) + (([x] : List Copy).length : Int) ≤ 2147483648) <|
          (((
            some ((([] : List Copy) ++ out_0) ++ ([x] : List Copy))) : Option (List Copy))).bind fun e => match e with
          | next =>
            ((M.spec_l7Copies list next).bind fun y9 =>
            ((bif y9 then some default else M.spec_l1Cur_one c_2 (40 : Int))).bind fun y10 =>
            bif (y9 || y10.1) then (
              some (next, (bif y9 then c_2 else y10.2)))
            else (
              some (out_0, (bif y9 then c_2 else y10.2))))) : Option (List Copy × Cur))).bind fun e => match e with
        | (out_2, c_4) =>
          ((M.spec_l1Cur_pick c_4 (2 : Int)).bind fun y11 =>
          some (out_2, (IntKind.i64.wrap (record + y11.1)), y11.2)))) : Option (List Copy × Int × Cur))).bind fun e => match e with
    | (out_1, record0, c_1) =>
      (some (.inl (out_1, record0, (IntKind.i64.wrap (n_ - (1 : Int))), c_1))))
  else (
    some (.inr (out_0, c_0)))

def M.spec_l1Cur_copies7_l1 (list : List Format) : (List Copy × Int × Cur) → Option ((List Copy × Int × Cur) ⊕ (List Copy × Cur)) := fun st_ => match st_ with
| (out_4, n_0, c_6) =>
  (M.spec_l1Cur_pick c_6 (2 : Int)).bind fun y14 =>
  bif (decide (n_0 < (IntKind.i64.wrap ((15 : Int) + y14.1)))) then (
    asrt ((0 : Int) ≤ (0 : Int) ∧ (0 : Int) < (list.length : Int)) <|
    asrt ((out_4.length : Int) + (([(⟨(IntKind.i64.wrap (n_0 + (1 : Int))), (list.getD (Int.toNat (0 : Int)) default).Id, (5 : Int), (0 : Int)⟩ : Copy)] : List Copy).length : Int) ≤ 2147483648) <|
    some (.inl ((out_4 ++ ([(⟨(IntKind.i64.wrap (n_0 + (1 : Int))), (list.getD (Int.toNat (0 : Int)) default).Id, (5 : Int), (0 : Int)⟩ : Copy)] : List Copy)), (IntKind.i64.wrap (n_0 + (1 : Int))), y14.2)))
  else (
    some (.inr (out_4, y14.2)))

def M.spec_l1Cur_copies7 (c : Cur) (list : List Format) : Option (List Copy × Cur) :=
  (M.spec_l1Cur_pick c (9 : Int)).bind fun y0 =>
  (iterO (M.spec_l1Cur_copies7_l0 list) (([] : List Copy), (1 : Int), y0.1, y0.2)).bind fun e => match e with
  | (out_, c_) =>
    ((M.spec_l1Cur_one c_ (24 : Int)).bind fun y12 =>
    bif (y12.1 && (decide ((list.length : Int) > (0 : Int)))) then (
      (iterO (M.spec_l1Cur_copies7_l1 list) (([] : List Copy), (0 : Int), y12.2)).bind fun e => match e with
      | (out_3, c_5) =>
        (some (out_3, c_5)))
    else (
      some (out_, y12.2)))

def M.spec_l1Cur_day7 (c : Cur) : Option (Int × Cur) :=
  (M.spec_l1Cur_pick c (24 : Int)).bind fun y0 =>
  asrt ((0 : Int) ≤ (0 : Int) ∧ (0 : Int) ≤ (IntKind.i64.wrap ((6 : Int) + (IntKind.i64.wrap (Int.tdiv y0.1 (11 : Int))))) ∧ (IntKind.i64.wrap ((6 : Int) + (IntKind.i64.wrap (Int.tdiv y0.1 (11 : Int))))) ≤ (([(0 : Int), (99 : Int), (100 : Int), (101 : Int), (901 : Int), (20000 : Int), (-1 : Int), (20001 : Int)] : List Int).length : Int)) <|
  (M.spec_l1Cur_among y0.2 (slc ([(0 : Int), (99 : Int), (100 : Int), (101 : Int), (901 : Int), (20000 : Int), (-1 : Int), (20001 : Int)] : List Int) (0 : Int) (IntKind.i64.wrap ((6 : Int) + (IntKind.i64.wrap (Int.tdiv y0.1 (11 : Int))))))).bind fun y1 =>
  some (y1.1, y1.2)

def M.spec_DrawLostRecords (code : List Int) : Option (List Format × List Copy × Int) :=
  (M.spec_l1Cur_formats (⟨code, (0 : Int), (0 : Int)⟩ : Cur)).bind fun y0 =>
  (M.spec_l1Cur_copies7 y0.2 y0.1).bind fun y1 =>
  (M.spec_l1Cur_day7 y1.2).bind fun y2 =>
  some (y0.1, y1.1, y2.1)

def M.cmp_isNaN_int (x : Int) : Option Bool :=
  some (x != x)

def M.cmp_Compare_int (x : Int) (y : Int) : Option Int :=
  (M.cmp_isNaN_int x).bind fun y0 =>
  (M.cmp_isNaN_int y).bind fun y1 =>
  bif y0 then (
    bif y1 then (
      some (0 : Int))
    else (
      some (-1 : Int)))
  else (
    bif y1 then (
      some (1 : Int))
    else (
      bif (decide (x < y)) then (
        some (-1 : Int))
      else (
        bif (decide (x > y)) then (
          some (1 : Int))
        else (
          some (0 : Int)))))

def M.cmp_Or_int_l0 (vals : List Int) : (Int) → Option ((Int) ⊕ ((Unit) ⊕ (Int))) := fun st_ => match st_ with
| v =>
  bif (decide (v < (vals.length : Int))) then (
    asrt ((0 : Int) ≤ v ∧ v < (vals.length : Int)) <|
    bif ((vals.getD (Int.toNat v) default) != (0 : Int)) then (
      some (.inr (.inr (vals.getD (Int.toNat v) default))))
    else (
      some (.inl (IntKind.i64.wrap (v + (1 : Int))))))
  else (
    some (.inr (.inl ())))

def M.cmp_Or_int (vals : List Int) : Option Int :=
  (iterO (M.cmp_Or_int_l0 vals) (0 : Int)).bind fun e => match e with
  | .inl () =>
    (some (0 : Int))
  | .inr r => some r

def M.impl_AreCopies_l0 (list : List Format) (copies : List Copy) : (Int) → Option ((Int) ⊕ ((Unit) ⊕ (Bool))) := fun st_ => match st_ with
| v =>
  bif (decide (v < (copies.length : Int))) then (
    asrt ((0 : Int) ≤ v ∧ v < (copies.length : Int)) <|
    (M.impl_within ((copies.getD (Int.toNat v) default).Record) (1 : Int) (999 : Int)).bind fun y2 =>
    ((bif (!y2) then some default else M.impl_formatAt list ((copies.getD (Int.toNat v) default).Format))).bind fun y3 =>
    ((bif ((!y2) || (decide (y3 < (0 : Int)))) then some default else M.impl_within ((copies.getD (Int.toNat v) default).Size) (1 : Int) (1000000 : Int))).bind fun y4 =>
    ((bif (((!y2) || (decide (y3 < (0 : Int)))) || (!y4)) then some default else M.impl_isDay ((copies.getD (Int.toNat v) default).Seen))).bind fun y5 =>
    bif ((((!y2) || (decide (y3 < (0 : Int)))) || (!y4)) || (!y5)) then (
      some (.inr (.inr false)))
    else (
      asrt ((decide (v > (0 : Int))) = true → ((0 : Int) ≤ (IntKind.i64.wrap (v - (1 : Int))) ∧ (IntKind.i64.wrap (v - (1 : Int))) < (copies.length : Int))) <|
      ((bif (decide (v > (0 : Int))) then M.cmp_Compare_int ((copies.getD (Int.toNat (IntKind.i64.wrap (v - (1 : Int)))) default).Record) ((copies.getD (Int.toNat v) default).Record) else some default)).bind fun y6 =>
      asrt ((decide (v > (0 : Int))) = true → ((0 : Int) ≤ (IntKind.i64.wrap (v - (1 : Int))) ∧ (IntKind.i64.wrap (v - (1 : Int))) < (copies.length : Int))) <|
      ((bif (decide (v > (0 : Int))) then M.cmp_Compare_int ((copies.getD (Int.toNat (IntKind.i64.wrap (v - (1 : Int)))) default).Format) ((copies.getD (Int.toNat v) default).Format) else some default)).bind fun y7 =>
      ((bif (decide (v > (0 : Int))) then M.cmp_Or_int ([y6, y7] : List Int) else some default)).bind fun y8 =>
      bif ((decide (v > (0 : Int))) && (decide (y8 ≥ (0 : Int)))) then (
        some (.inr (.inr false)))
      else (
        some (.inl (IntKind.i64.wrap (v + (1 : Int)))))))
  else (
    some (.inr (.inl ())))

def M.impl_AreCopies (list : List Format) (copies : List Copy) : Option Bool :=
  (M.impl_AreFormats list).bind fun y0 =>
  bif ((!y0) || (decide ((copies.length : Int) > (15 : Int)))) then (
    some false)
  else (
    (iterO (M.impl_AreCopies_l0 list copies) (0 : Int)).bind fun e => match e with
    | .inl () =>
      (some true)
    | .inr r => some r)

def M.impl_LostRecords_1 (d : Copy) (c_c : Copy) (list : List Format) (day : Int) : Option Bool :=
  ((bif (d.Record == c_c.Record) then M.impl_lastReadable list d.Format else some default)).bind fun y0 =>
  some ((d.Record == c_c.Record) && (decide (y0 ≥ day)))

def M.slices_IndexFunc_impl_Copy_impl_Copy_l0 (s : List Copy) (fm : Copy → Option Bool) : (Int) → Option ((Int) ⊕ ((Unit) ⊕ (Int))) := fun st_ => match st_ with
| v =>
  bif (decide (v < (s.length : Int))) then (
    asrt ((0 : Int) ≤ v ∧ v < (s.length : Int)) <|
    (fm (s.getD (Int.toNat v) default)).bind fun y1 =>
    bif y1 then (
      some (.inr (.inr v)))
    else (
      some (.inl (IntKind.i64.wrap (v + (1 : Int))))))
  else (
    some (.inr (.inl ())))

def M.slices_IndexFunc_impl_Copy_impl_Copy (s : List Copy) (fm : Copy → Option Bool) : Option Int :=
  (iterO (M.slices_IndexFunc_impl_Copy_impl_Copy_l0 s fm) (0 : Int)).bind fun e => match e with
  | .inl () =>
    (some (-1 : Int))
  | .inr r => some r

def M.slices_ContainsFunc_impl_Copy_impl_Copy (s : List Copy) (fm : Copy → Option Bool) : Option Bool :=
  (M.slices_IndexFunc_impl_Copy_impl_Copy s fm).bind fun y0 =>
  some (decide (y0 ≥ (0 : Int)))

def M.impl_LostRecords_l0 (list : List Format) (copies : List Copy) (day : Int) : (List Int × Int) → Option ((List Int × Int) ⊕ (List Int)) := fun st_ => match st_ with
| (lost0, v) =>
  bif (decide (v < (copies.length : Int))) then (
    (((
      asrt ((0 : Int) ≤ v ∧ v < (copies.length : Int)) <|
      asrt ((decide (v > (0 : Int))) = true → ((0 : Int) ≤ (IntKind.i64.wrap (v - (1 : Int))) ∧ (IntKind.i64.wrap (v - (1 : Int))) < (copies.length : Int))) <|
      bif ((decide (v > (0 : Int))) && (((copies.getD (Int.toNat (IntKind.i64.wrap (v - (1 : Int)))) default).Record) == ((copies.getD (Int.toNat v) default).Record))) then (
        some lost0)
      else (
        (M.slices_ContainsFunc_impl_Copy_impl_Copy copies (fun x0 => M.impl_LostRecords_1 x0 (copies.getD (Int.toNat v) default) list day)).bind fun y3 =>
        bif (!y3) then (
          asrt ((lost0.length : Int) + (([(copies.getD (Int.toNat v) default).Record] : List Int).length : Int) ≤ 2147483648) <|
          some (lost0 ++ ([(copies.getD (Int.toNat v) default).Record] : List Int)))
        else (
          some lost0))) : Option (List Int))).bind fun e => match e with
    | lost1 =>
      (some (.inl (lost1, (IntKind.i64.wrap (v + (1 : Int)))))))
  else (
    some (.inr lost0))

def M.impl_LostRecords (list : List Format) (copies : List Copy) (day : Int) : Option (List Int × Bool) :=
  (M.impl_AreCopies list copies).bind fun y0 =>
  ((bif (!y0) then some default else M.impl_isDay day)).bind fun y1 =>
  bif ((!y0) || (!y1)) then (
    some (([] : List Int), false))
  else (
    (iterO (M.impl_LostRecords_l0 list copies day) (([] : List Int), (0 : Int))).bind fun e => match e with
    | lost =>
      (some (lost, true)))

def M.spec_LostRecords_l1 (list : List Format) (copies : List Copy) (day : Int) (i : Int) : (Bool × Int) → Option ((Bool × Int) ⊕ (Bool)) := fun st_ => match st_ with
| (lost0, k) =>
  bif (decide (k < (copies.length : Int))) then (
    (((
      asrt ((0 : Int) ≤ k ∧ k < (copies.length : Int)) <|
      asrt ((0 : Int) ≤ i ∧ i < (copies.length : Int)) <|
      asrt ((((copies.getD (Int.toNat k) default).Record) == ((copies.getD (Int.toNat i) default).Record)) = true → ((0 : Int) ≤ k ∧ k < (copies.length : Int))) <|
      ((bif (((copies.getD (Int.toNat k) default).Record) == ((copies.getD (Int.toNat i) default).Record)) then M.spec_l7Last list ((copies.getD (Int.toNat k) default).Format) else some default)).bind fun y4 =>
      bif ((((copies.getD (Int.toNat k) default).Record) == ((copies.getD (Int.toNat i) default).Record)) && (decide (y4 ≥ day))) then (
        some false)
      else (
        some lost0)) : Option Bool)).bind fun e => match e with
    | lost1 =>
      (some (.inl (lost1, (IntKind.i64.wrap (k + (1 : Int)))))))
  else (
    some (.inr lost0))

def M.spec_LostRecords_l0 (list : List Format) (copies : List Copy) (day : Int) : (List Int × Int) → Option ((List Int × Int) ⊕ (List Int)) := fun st_ => match st_ with
| (out_0, i) =>
  bif (decide (i < (copies.length : Int))) then (
    (((
      (iterO (M.spec_LostRecords_l1 list copies day i) (true, (0 : Int))).bind fun e => match e with
      | lost =>
        (asrt (lost = true → ((0 : Int) ≤ i ∧ i < (copies.length : Int))) <|
        ((bif lost then M.spec_l1Has out_0 ((copies.getD (Int.toNat i) default).Record) else some default)).bind fun y5 =>
        bif (lost && (!y5)) then (
          asrt ((0 : Int) ≤ i ∧ i < (copies.length : Int)) <|
          asrt ((out_0.length : Int) + (([(copies.getD (Int.toNat i) default).Record] : List Int).length : Int) ≤ 2147483648) <|
          some (out_0 ++ ([(copies.getD (Int.toNat i) default).Record] : List Int)))
        else (
          some out_0))) : Option (List Int))).bind fun e => match e with
    | out_1 =>
      (some (.inl (out_1, (IntKind.i64.wrap (i + (1 : Int)))))))
  else (
    some (.inr out_0))

def M.spec_LostRecords (list : List Format) (copies : List Copy) (day : Int) : Option (List Int × Bool) :=
  (M.spec_l7Copies list copies).bind fun y0 =>
  ((bif (!y0) then some default else M.spec_l2Day day)).bind fun y1 =>
  bif ((!y0) || (!y1)) then (
    some (([] : List Int), false))
  else (
    (iterO (M.spec_LostRecords_l0 list copies day) (([] : List Int), (0 : Int))).bind fun e => match e with
    | out_ =>
      (some (out_, true)))

def M.laws_rInts_l0 (a : List Int) (b_ : List Int) : (Int) → Option ((Int) ⊕ ((Unit) ⊕ (Bool))) := fun st_ => match st_ with
| i =>
  bif (decide (i < (a.length : Int))) then (
    asrt ((0 : Int) ≤ i ∧ i < (a.length : Int)) <|
    asrt ((0 : Int) ≤ i ∧ i < (b_.length : Int)) <|
    bif ((a.getD (Int.toNat i) default) != (b_.getD (Int.toNat i) default)) then (
      some (.inr (.inr false)))
    else (
      some (.inl (IntKind.i64.wrap (i + (1 : Int))))))
  else (
    some (.inr (.inl ())))

def M.laws_rInts (a : List Int) (b_ : List Int) : Option Bool :=
  bif ((a.length : Int) != (b_.length : Int)) then (
    some false)
  else (
    (iterO (M.laws_rInts_l0 a b_) (0 : Int)).bind fun e => match e with
    | .inl () =>
      (some true)
    | .inr r => some r)

def M.laws_rHas_l0 (list : List Int) (x : Int) : (Int) → Option ((Int) ⊕ ((Unit) ⊕ (Bool))) := fun st_ => match st_ with
| i =>
  bif (decide (i < (list.length : Int))) then (
    asrt ((0 : Int) ≤ i ∧ i < (list.length : Int)) <|
    bif ((list.getD (Int.toNat i) default) == x) then (
      some (.inr (.inr true)))
    else (
      some (.inl (IntKind.i64.wrap (i + (1 : Int))))))
  else (
    some (.inr (.inl ())))

def M.laws_rHas (list : List Int) (x : Int) : Option Bool :=
  (iterO (M.laws_rHas_l0 list x) (0 : Int)).bind fun e => match e with
  | .inl () =>
    (some false)
  | .inr r => some r

def M.spec_DrawAreCopies (code : List Int) : Option (List Format × List Copy) :=
  (M.spec_l1Cur_formats (⟨code, (0 : Int), (0 : Int)⟩ : Cur)).bind fun y0 =>
  (M.spec_l1Cur_copies7 y0.2 y0.1).bind fun y1 =>
  some (y0.1, y1.1)

def M.spec_DrawSizeByFormat (code : List Int) : Option (List Format × List Copy) :=
  (M.spec_DrawAreCopies code).bind fun y0 =>
  some (y0.1, y0.2)

def M.impl_SizeByFormat_l0 (list : List Format) (copies : List Copy) : (List Int × Int) → Option ((List Int × Int) ⊕ (List Int)) := fun st_ => match st_ with
| (sums0, v) =>
  bif (decide (v < (copies.length : Int))) then (
    asrt ((0 : Int) ≤ v ∧ v < (copies.length : Int)) <|
    (M.impl_formatAt list ((copies.getD (Int.toNat v) default).Format)).bind fun y2 =>
    asrt ((0 : Int) ≤ y2 ∧ y2 < (sums0.length : Int)) <|
    asrt ((0 : Int) ≤ y2 ∧ y2 < (sums0.length : Int)) <|
    some (.inl ((sums0.set (Int.toNat y2) (IntKind.i64.wrap ((sums0.getD (Int.toNat y2) default) + ((copies.getD (Int.toNat v) default).Size)))), (IntKind.i64.wrap (v + (1 : Int))))))
  else (
    some (.inr sums0))

def M.impl_SizeByFormat (list : List Format) (copies : List Copy) : Option (List Int × Bool) :=
  (M.impl_AreCopies list copies).bind fun y0 =>
  bif (!y0) then (
    some (([] : List Int), false))
  else (
    asrt ((0 : Int) ≤ (list.length : Int) ∧ (list.length : Int) ≤ (list.length : Int) ∧ (list.length : Int) ≤ 2147483648) <|
    (iterO (M.impl_SizeByFormat_l0 list copies) ((List.replicate (Int.toNat (list.length : Int)) (0 : Int)), (0 : Int))).bind fun e => match e with
    | sums =>
      (some (sums, true)))

def M.spec_SizeByFormat_l1 (list : List Format) (copies : List Copy) (i : Int) : (Int × Int) → Option ((Int × Int) ⊕ (Int)) := fun st_ => match st_ with
| (sum_0, k) =>
  bif (decide (k < (copies.length : Int))) then (
    (((
      asrt ((0 : Int) ≤ k ∧ k < (copies.length : Int)) <|
      asrt ((0 : Int) ≤ i ∧ i < (list.length : Int)) <|
      bif (((copies.getD (Int.toNat k) default).Format) == ((list.getD (Int.toNat i) default).Id)) then (
        asrt ((0 : Int) ≤ k ∧ k < (copies.length : Int)) <|
        some (IntKind.i64.wrap (sum_0 + ((copies.getD (Int.toNat k) default).Size))))
      else (
        some sum_0)) : Option Int)).bind fun e => match e with
    | sum_1 =>
      (some (.inl (sum_1, (IntKind.i64.wrap (k + (1 : Int)))))))
  else (
    some (.inr sum_0))

def M.spec_SizeByFormat_l0 (list : List Format) (copies : List Copy) : (List Int × Int) → Option ((List Int × Int) ⊕ (List Int)) := fun st_ => match st_ with
| (out_0, i) =>
  bif (decide (i < (list.length : Int))) then (
    (iterO (M.spec_SizeByFormat_l1 list copies i) ((0 : Int), (0 : Int))).bind fun e => match e with
    | sum_ =>
      (asrt ((out_0.length : Int) + (([sum_] : List Int).length : Int) ≤ 2147483648) <|
      some (.inl ((out_0 ++ ([sum_] : List Int)), (IntKind.i64.wrap (i + (1 : Int)))))))
  else (
    some (.inr out_0))

def M.spec_SizeByFormat (list : List Format) (copies : List Copy) : Option (List Int × Bool) :=
  (M.spec_l7Copies list copies).bind fun y0 =>
  bif (!y0) then (
    some (([] : List Int), false))
  else (
    (iterO (M.spec_SizeByFormat_l0 list copies) (([] : List Int), (0 : Int))).bind fun e => match e with
    | out_ =>
      (some (out_, true)))

def M.laws_rSum_l0 (list : List Int) : (Int × Int) → Option ((Int × Int) ⊕ (Int)) := fun st_ => match st_ with
| (n_0, i) =>
  bif (decide (i < (list.length : Int))) then (
    asrt ((0 : Int) ≤ i ∧ i < (list.length : Int)) <|
    some (.inl ((IntKind.i64.wrap (n_0 + (list.getD (Int.toNat i) default))), (IntKind.i64.wrap (i + (1 : Int))))))
  else (
    some (.inr n_0))

def M.laws_rSum (list : List Int) : Option Int :=
  (iterO (M.laws_rSum_l0 list) ((0 : Int), (0 : Int))).bind fun e => match e with
  | n_ =>
    (some n_)

def M.spec_DrawUnseen (code : List Int) : Option (List Format × List Copy × Int × Int) :=
  (M.spec_l1Cur_formats (⟨code, (0 : Int), (0 : Int)⟩ : Cur)).bind fun y0 =>
  (M.spec_l1Cur_copies7 y0.2 y0.1).bind fun y1 =>
  (M.spec_l1Cur_pick y1.2 (24 : Int)).bind fun y2 =>
  asrt ((0 : Int) ≤ (0 : Int) ∧ (0 : Int) ≤ (IntKind.i64.wrap ((5 : Int) + (IntKind.i64.wrap (Int.tdiv y2.1 (23 : Int))))) ∧ (IntKind.i64.wrap ((5 : Int) + (IntKind.i64.wrap (Int.tdiv y2.1 (23 : Int))))) ≤ (([(101 : Int), (20000 : Int), (20000 : Int), (20000 : Int), (0 : Int), (20001 : Int)] : List Int).length : Int)) <|
  (M.spec_l1Cur_among y2.2 (slc ([(101 : Int), (20000 : Int), (20000 : Int), (20000 : Int), (0 : Int), (20001 : Int)] : List Int) (0 : Int) (IntKind.i64.wrap ((5 : Int) + (IntKind.i64.wrap (Int.tdiv y2.1 (23 : Int))))))).bind fun y3 =>
  (M.spec_l1Cur_pick y3.2 (24 : Int)).bind fun y4 =>
  asrt ((0 : Int) ≤ (0 : Int) ∧ (0 : Int) ≤ (IntKind.i64.wrap ((4 : Int) + (IntKind.i64.wrap (Int.tdiv y4.1 (11 : Int))))) ∧ (IntKind.i64.wrap ((4 : Int) + (IntKind.i64.wrap (Int.tdiv y4.1 (11 : Int))))) ≤ (([(0 : Int), (10 : Int), (19900 : Int), (20000 : Int), (-1 : Int), (20001 : Int)] : List Int).length : Int)) <|
  (M.spec_l1Cur_among y4.2 (slc ([(0 : Int), (10 : Int), (19900 : Int), (20000 : Int), (-1 : Int), (20001 : Int)] : List Int) (0 : Int) (IntKind.i64.wrap ((4 : Int) + (IntKind.i64.wrap (Int.tdiv y4.1 (11 : Int))))))).bind fun y5 =>
  some (y0.1, y1.1, y3.1, y5.1)

def M.impl_Unseen_l0 (copies : List Copy) (day : Int) (days : Int) : (List Int × Int) → Option ((List Int × Int) ⊕ ((List Int) ⊕ (List Int × Bool))) := fun st_ => match st_ with
| (out_0, v) =>
  bif (decide (v < (copies.length : Int))) then (
    (((
      asrt ((0 : Int) ≤ v ∧ v < (copies.length : Int)) <|
      bif (decide (((copies.getD (Int.toNat v) default).Seen) > day)) then (
        some (.inr (([] : List Int), false)))
      else (
        bif (decide ((IntKind.i64.wrap (day - ((copies.getD (Int.toNat v) default).Seen))) > days)) then (
          asrt ((out_0.length : Int) + (([v] : List Int).length : Int) ≤ 2147483648) <|
          some (.inl (out_0 ++ ([v] : List Int))))
        else (
          some (.inl out_0)))) : Option ((List Int) ⊕ (List Int × Bool)))).bind fun e => match e with
    | .inl out_1 =>
      (some (.inl (out_1, (IntKind.i64.wrap (v + (1 : Int))))))
    | .inr r => some (.inr (.inr r)))
  else (
    some (.inr (.inl out_0)))

def M.impl_Unseen (list : List Format) (copies : List Copy) (day : Int) (days : Int) : Option (List Int × Bool) :=
  (M.impl_AreCopies list copies).bind fun y0 =>
  ((bif (!y0) then some default else M.impl_isDay day)).bind fun y1 =>
  ((bif ((!y0) || (!y1)) then some default else M.impl_isDay days)).bind fun y2 =>
  bif (((!y0) || (!y1)) || (!y2)) then (
    some (([] : List Int), false))
  else (
    (iterO (M.impl_Unseen_l0 copies day days) (([] : List Int), (0 : Int))).bind fun e => match e with
    | .inl out_ =>
      (some (out_, true))
    | .inr r => some r)

def M.spec_Unseen_l0 (copies : List Copy) (day : Int) (days : Int) : (List Int × Int) → Option ((List Int × Int) ⊕ ((List Int) ⊕ (List Int × Bool))) := fun st_ => match st_ with
| (out_0, i) =>
  bif (decide (i < (copies.length : Int))) then (
    (((
      asrt ((0 : Int) ≤ i ∧ i < (copies.length : Int)) <|
      bif (decide (((copies.getD (Int.toNat i) default).Seen) > day)) then (
        some (.inr (([] : List Int), false)))
      else (
        asrt ((0 : Int) ≤ i ∧ i < (copies.length : Int)) <|
        bif (decide ((IntKind.i64.wrap (day - ((copies.getD (Int.toNat i) default).Seen))) > days)) then (
          asrt ((out_0.length : Int) + (([i] : List Int).length : Int) ≤ 2147483648) <|
          some (.inl (out_0 ++ ([i] : List Int))))
        else (
          some (.inl out_0)))) : Option ((List Int) ⊕ (List Int × Bool)))).bind fun e => match e with
    | .inl out_1 =>
      (some (.inl (out_1, (IntKind.i64.wrap (i + (1 : Int))))))
    | .inr r => some (.inr (.inr r)))
  else (
    some (.inr (.inl out_0)))

def M.spec_Unseen (list : List Format) (copies : List Copy) (day : Int) (days : Int) : Option (List Int × Bool) :=
  (M.spec_l7Copies list copies).bind fun y0 =>
  ((bif (!y0) then some default else M.spec_l2Day day)).bind fun y1 =>
  ((bif ((!y0) || (!y1)) then some default else M.spec_l2Day days)).bind fun y2 =>
  bif (((!y0) || (!y1)) || (!y2)) then (
    some (([] : List Int), false))
  else (
    (iterO (M.spec_Unseen_l0 copies day days) (([] : List Int), (0 : Int))).bind fun e => match e with
    | .inl out_ =>
      (some (out_, true))
    | .inr r => some r)

def M.spec_AreFormats (list : List Format) : Option Bool :=
  (M.spec_l7Good list).bind fun y0 =>
  some y0

def M.laws_FnFormats_l0 (y7 : List Int × Bool) (y10 : List Int × Bool) : (Int) → Option ((Int) ⊕ ((Unit) ⊕ (Bool))) := fun st_ => match st_ with
| i =>
  bif (decide (i < (y7.1.length : Int))) then (
    asrt ((0 : Int) ≤ i ∧ i < (y7.1.length : Int)) <|
    (M.laws_rHas y10.1 (y7.1.getD (Int.toNat i) default)).bind fun y12 =>
    bif (!y12) then (
      some (.inr (.inr false)))
    else (
      some (.inl (IntKind.i64.wrap (i + (1 : Int))))))
  else (
    some (.inr (.inl ())))

def M.laws_FnFormats_l1 (y13 : List Format × List Copy) (y14 : List Int × Bool) : (Int × Int) → Option ((Int × Int) ⊕ (Int)) := fun st_ => match st_ with
| (sum_0, i0) =>
  bif ((decide (i0 < (y13.2.length : Int))) && y14.2) then (
    asrt ((0 : Int) ≤ i0 ∧ i0 < (y13.2.length : Int)) <|
    some (.inl ((IntKind.i64.wrap (sum_0 + ((y13.2.getD (Int.toNat i0) default).Size))), (IntKind.i64.wrap (i0 + (1 : Int))))))
  else (
    some (.inr sum_0))

def M.laws_FnFormats (code : List Int) : Option Bool :=
  (M.laws_rBig code).bind fun y0 =>
  bif y0 then (
    some true)
  else (
    (M.spec_DrawLastReadable code).bind fun y1 =>
    (M.impl_LastReadable y1.1 y1.2).bind fun y2 =>
    (M.spec_LastReadable y1.1 y1.2).bind fun y3 =>
    bif ((y2.1 != y3.1) || (!(y2.2 == y3.2))) then (
      some false)
    else (
      (((
        bif y2.2 then (
          (M.impl_IsReadable y1.1 y1.2 y2.1).bind fun y4 =>
          (M.impl_IsReadable y1.1 y1.2 (IntKind.i64.wrap (y2.1 + (1 : Int)))).bind fun y5 =>
          bif (((!y4.2) || (!y4.1)) || (y5.2 && y5.1)) then (
            some (.inr false))
          else (
            some (.inl ())))
        else (
          some (.inl ()))) : Option ((Unit) ⊕ (Bool)))).bind fun e => match e with
      | .inl () =>
        ((M.spec_DrawLostRecords code).bind fun y6 =>
        (M.impl_LostRecords y6.1 y6.2.1 y6.2.2).bind fun y7 =>
        (M.spec_LostRecords y6.1 y6.2.1 y6.2.2).bind fun y8 =>
        ((bif (!(y7.2 == y8.2)) then some default else M.laws_rInts y7.1 y8.1)).bind fun y9 =>
        bif ((!(y7.2 == y8.2)) || (!y9)) then (
          some false)
        else (
          (((
            (M.impl_LostRecords y6.1 y6.2.1 (IntKind.i64.wrap (y6.2.2 + (1 : Int)))).bind fun y10 =>
            bif (y7.2 && y10.2) then (
              (iterO (M.laws_FnFormats_l0 y7 y10) (0 : Int)).bind fun e => match e with
              | .inl () =>
                (some (.inl ()))
              | .inr r => some (.inr r))
            else (
              some (.inl ()))) : Option ((Unit) ⊕ (Bool)))).bind fun e => match e with
          | .inl () =>
            ((M.spec_DrawSizeByFormat code).bind fun y13 =>
            (M.impl_SizeByFormat y13.1 y13.2).bind fun y14 =>
            (M.spec_SizeByFormat y13.1 y13.2).bind fun y15 =>
            ((bif (!(y14.2 == y15.2)) then some default else M.laws_rInts y14.1 y15.1)).bind fun y16 =>
            ((bif ((!(y14.2 == y15.2)) || (!y16)) then some default else M.impl_AreCopies y13.1 y13.2)).bind fun y17 =>
            bif (((!(y14.2 == y15.2)) || (!y16)) || (!(y14.2 == y17))) then (
              some false)
            else (
              (iterO (M.laws_FnFormats_l1 y13 y14) ((0 : Int), (0 : Int))).bind fun e => match e with
              | sum_ =>
                ((M.laws_rSum y14.1).bind fun y19 =>
                bif (y19 != sum_) then (
                  some false)
                else (
                  (M.spec_DrawUnseen code).bind fun y20 =>
                  (M.impl_Unseen y20.1 y20.2.1 y20.2.2.1 y20.2.2.2).bind fun y21 =>
                  (M.spec_Unseen y20.1 y20.2.1 y20.2.2.1 y20.2.2.2).bind fun y22 =>
                  ((bif (y21.2 == y22.2) then M.laws_rInts y21.1 y22.1 else some default)).bind fun y23 =>
                  ((bif ((y21.2 == y22.2) && y23) then M.impl_AreFormats y20.1 else some default)).bind fun y24 =>
                  ((bif ((y21.2 == y22.2) && y23) then M.spec_AreFormats y20.1 else some default)).bind fun y25 =>
                  some (((y21.2 == y22.2) && y23) && (y24 == y25))))))
          | .inr r => some r))
      | .inr r => some r))
end Go.Proofs.YtjfpdbhjoofllaaDoor
