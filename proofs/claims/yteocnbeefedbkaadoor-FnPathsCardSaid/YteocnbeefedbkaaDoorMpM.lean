/- models of the functions -/
import Derived.Test.YteocnbeefedbkaaDoorWp
set_option linter.unusedSimpArgs false
set_option linter.unusedVariables false
set_option maxRecDepth 100000
namespace Go.Proofs.YteocnbeefedbkaaDoor
open Go.VS

structure Cur where
  Code : List Int
  At : Int
  Seed : Int
  deriving Inhabited, DecidableEq

abbrev encCur (ρ : Nat) (c : Cur) : PV := .agg [.vl ρ 1 (List.map encU8 c.Code), .int .i64 c.At, .int .u64 c.Seed]

structure Format where
  Id : Int
  Name : List UInt8
  Until : Int
  Reads : List Int
  deriving Inhabited, DecidableEq

abbrev encFormat (ρ : Nat) (c : Format) : PV := .agg [.int .i64 c.Id, .str c.Name, .int .i64 c.Until, .vl ρ 1 (List.map encInt c.Reads)]

abbrev cellFormat (t_ : PV) (c : Format) : PV := .agg [.int .i64 c.Id, .str c.Name, .int .i64 c.Until, t_]

theorem cokFormat : CellOK 4 3 1 (fun c_ : Format => List.map encInt c_.Reads) cellFormat where
  good := fun t x h => rfl
  isl := fun t x h => rfl
  set := fun t t' x h h' => rfl
  no := fun τ t x h => by simp [PV.no, PV.noL, h]
  rep := fun w S S' own own' t t' x h => Rep.aggTo ((.cons (fun u hu => by unfold Rep at hu ⊢; exact hu) (.cons (fun u hu => by unfold Rep at hu ⊢; exact hu) (.cons (fun u hu => by unfold Rep at hu ⊢; exact hu) (.cons h .nil)))))

def M.laws_rBig (code : List Int) : Option Bool :=
  some (decide ((code.length : Int) > (65536 : Int)))

def M.spec_l1Cur_next (c : Cur) : Option (Int × Cur) :=
  (((
    bif (decide (c.At < (c.Code.length : Int))) then (
      asrt ((0 : Int) ≤ c.At ∧ c.At < (c.Code.length : Int)) <|
      some (IntKind.i64.wrap (c.Code.getD (Int.toNat c.At) default)))
    else (
      some (0 : Int))) : Option Int)).bind fun e => match e with
  | b_ =>
    (bif (decide ((IntKind.i64.wrap (c.At + (1 : Int))) ≤ (c.Code.length : Int))) then (
      some (b_, (⟨c.Code, (IntKind.i64.wrap (c.At + (1 : Int))), (IntKind.u64.wrap ((IntKind.u64.wrap ((IntKind.u64.wrap (c.Seed * (6364136223846793005 : Int))) + (IntKind.u64.wrap b_))) + (103535 : Int)))⟩ : Cur)))
    else (
      some ((IntKind.i64.wrap (IntKind.u64.wrap (BitVec.ofInt IntKind.u64.bits (Int.fdiv (IntKind.u64.wrap ((IntKind.u64.wrap ((IntKind.u64.wrap (c.Seed * (6364136223846793005 : Int))) + (IntKind.u64.wrap b_))) + (103535 : Int))) (2 ^ (min (Int.toNat (40 : Int)) IntKind.u64.bits))) &&& BitVec.ofInt IntKind.u64.bits (255 : Int)).toNat)), (⟨c.Code, (IntKind.i64.wrap (c.At + (1 : Int))), (IntKind.u64.wrap ((IntKind.u64.wrap ((IntKind.u64.wrap (c.Seed * (6364136223846793005 : Int))) + (IntKind.u64.wrap b_))) + (103535 : Int)))⟩ : Cur))))

def M.spec_l1Cur_pick (c : Cur) (n : Int) : Option (Int × Cur) :=
  bif (decide (n ≤ (1 : Int))) then (
    some ((0 : Int), c))
  else (
    (M.spec_l1Cur_next c).bind fun y0 =>
    (((
      bif (decide (n > (200 : Int))) then (
        (M.spec_l1Cur_next y0.2).bind fun y1 =>
        some ((IntKind.i64.wrap ((IntKind.i64.wrap (y0.1 * (256 : Int))) + y1.1)), y1.2))
      else (
        some (y0.1, y0.2))) : Option (Int × Cur))).bind fun e => match e with
    | (x, c_) =>
      (asrt (n ≠ 0) <|
      some ((Int.tmod x n), c_)))

def M.spec_l1Cur_among (c : Cur) (list : List Int) : Option (Int × Cur) :=
  (M.spec_l1Cur_pick c (list.length : Int)).bind fun y0 =>
  asrt ((0 : Int) ≤ y0.1 ∧ y0.1 < (list.length : Int)) <|
  some ((list.getD (Int.toNat y0.1) default), y0.2)

def M.spec_l1Cur_one (c : Cur) (n : Int) : Option (Bool × Cur) :=
  (M.spec_l1Cur_pick c n).bind fun y0 =>
  some ((y0.1 == (0 : Int)), y0.2)

def M.spec_l1Cur_of (c : Cur) (list : List (List UInt8)) : Option (List UInt8 × Cur) :=
  (M.spec_l1Cur_pick c (list.length : Int)).bind fun y0 =>
  asrt ((0 : Int) ≤ y0.1 ∧ y0.1 < (list.length : Int)) <|
  some ((list.getD (Int.toNat y0.1) default), y0.2)

def M.spec_l1Cur_formats_l1 (out_0 : List Format) : (Int × List Int × Cur) → Option ((Int × List Int × Cur) ⊕ (List Int × Cur)) := fun st_ => match st_ with
| (i, f_Reads0, c_3) =>
  bif (decide (i < (out_0.length : Int))) then (
    (((
      (M.spec_l1Cur_one c_3 (2 : Int)).bind fun y5 =>
      bif y5.1 then (
        asrt ((0 : Int) ≤ i ∧ i < (out_0.length : Int)) <|
        asrt ((f_Reads0.length : Int) + (([(out_0.getD (Int.toNat i) default).Id] : List Int).length : Int) ≤ 2147483648) <|
        (((
          some (f_Reads0 ++ ([(out_0.getD (Int.toNat i) default).Id] : List Int))) : Option (List Int))).bind fun e => match e with
        | f_Reads2 =>
          (some (f_Reads2, y5.2)))
      else (
        some (f_Reads0, y5.2))) : Option (List Int × Cur))).bind fun e => match e with
    | (f_Reads1, c_4) =>
      (some (.inl ((IntKind.i64.wrap (i + (1 : Int))), f_Reads1, c_4))))
  else (
    some (.inr (f_Reads0, c_3)))

def M.spec_l1Cur_formats_l0 : (List Format × Int × Int × Cur) → Option ((List Format × Int × Int × Cur) ⊕ (List Format × Int × Cur)) := fun st_ => match st_ with
| (out_0, id_0, n_, c_0) =>
  bif (decide (n_ > (0 : Int))) then (
    (M.spec_l1Cur_pick c_0 (2 : Int)).bind fun y2 =>
    (M.spec_l1Cur_among y2.2 ([(0 : Int), (100 : Int), (100 : Int), (900 : Int), (20000 : Int)] : List Int)).bind fun y3 =>
    (((
      some y3.2) : Option Cur)).bind fun e => match e with
    | c_1 =>
      ((iterO (M.spec_l1Cur_formats_l1 out_0) ((0 : Int), ([] : List Int), c_1)).bind fun e => match e with
      | (f_Reads, c_2) =>
        (asrt ((out_0.length : Int) + (([(⟨(IntKind.i64.wrap ((IntKind.i64.wrap (id_0 + (1 : Int))) + y2.1)), (toBytes ([(IntKind.u8.wrap (IntKind.i64.wrap ((97 : Int) + (out_0.length : Int)))), (120 : Int)] : List Int)), y3.1, f_Reads⟩ : Format)] : List Format).length : Int) ≤ 2147483648) <|
        some (.inl ((out_0 ++ ([(⟨(IntKind.i64.wrap ((IntKind.i64.wrap (id_0 + (1 : Int))) + y2.1)), (toBytes ([(IntKind.u8.wrap (IntKind.i64.wrap ((97 : Int) + (out_0.length : Int)))), (120 : Int)] : List Int)), y3.1, f_Reads⟩ : Format)] : List Format)), (IntKind.i64.wrap ((IntKind.i64.wrap (id_0 + (1 : Int))) + y2.1)), (IntKind.i64.wrap (n_ - (1 : Int))), c_2)))))
  else (
    some (.inr (out_0, id_0, c_0)))

def M.spec_l1Cur_formats_l2 : (List Format × Int × Cur) → Option ((List Format × Int × Cur) ⊕ (List Format × Cur)) := fun st_ => match st_ with
| (out_4, id_1, c_7) =>
  (M.spec_l1Cur_pick c_7 (2 : Int)).bind fun y13 =>
  bif (decide ((out_4.length : Int) < (IntKind.i64.wrap ((10 : Int) + y13.1)))) then (
    asrt ((out_4.length : Int) + (([(⟨(IntKind.i64.wrap (id_1 + (1 : Int))), (toBytes ([(IntKind.u8.wrap (IntKind.i64.wrap ((97 : Int) + (out_4.length : Int)))), (121 : Int)] : List Int)), (50 : Int), ([] : List Int)⟩ : Format)] : List Format).length : Int) ≤ 2147483648) <|
    some (.inl ((out_4 ++ ([(⟨(IntKind.i64.wrap (id_1 + (1 : Int))), (toBytes ([(IntKind.u8.wrap (IntKind.i64.wrap ((97 : Int) + (out_4.length : Int)))), (121 : Int)] : List Int)), (50 : Int), ([] : List Int)⟩ : Format)] : List Format)), (IntKind.i64.wrap (id_1 + (1 : Int))), y13.2)))
  else (
    some (.inr (out_4, y13.2)))

def M.spec_l1Cur_formats (c : Cur) : Option (List Format × Cur) :=
  (M.spec_l1Cur_pick c (7 : Int)).bind fun y0 =>
  (iterO (M.spec_l1Cur_formats_l0) (([] : List Format), (0 : Int), y0.1, y0.2)).bind fun e => match e with
  | (out_, id_, c_) =>
    (bif ((out_.length : Int) == (0 : Int)) then (
      some (out_, c_))
    else (
      (M.spec_l1Cur_pick c_ (out_.length : Int)).bind fun y6 =>
      asrt ((0 : Int) ≤ y6.1 ∧ y6.1 < (out_.length : Int)) <|
      (((
        (M.spec_l1Cur_pick y6.2 (60 : Int)).bind fun y7 =>
        (((
          bif (y7.1 == (0 : Int)) then (
            (M.spec_l1Cur_among y7.2 ([(0 : Int), (50 : Int), (51 : Int)] : List Int)).bind fun y8 =>
            some (out_, y8.1, (out_.getD (Int.toNat y6.1) default).Name, (out_.getD (Int.toNat y6.1) default).Until, (out_.getD (Int.toNat y6.1) default).Reads, y8.2))
          else (
            bif (y7.1 == (1 : Int)) then (
              (M.spec_l1Cur_of y7.2 ([[], [65], [97, 120]] : List (List UInt8))).bind fun y9 =>
              some (out_, (out_.getD (Int.toNat y6.1) default).Id, y9.1, (out_.getD (Int.toNat y6.1) default).Until, (out_.getD (Int.toNat y6.1) default).Reads, y9.2))
            else (
              bif (y7.1 == (2 : Int)) then (
                (M.spec_l1Cur_among y7.2 ([(-1 : Int), (20001 : Int)] : List Int)).bind fun y10 =>
                some (out_, (out_.getD (Int.toNat y6.1) default).Id, (out_.getD (Int.toNat y6.1) default).Name, y10.1, (out_.getD (Int.toNat y6.1) default).Reads, y10.2))
              else (
                bif (y7.1 == (3 : Int)) then (
                  (M.spec_l1Cur_among y7.2 ([(out_.getD (Int.toNat y6.1) default).Id, (49 : Int), (0 : Int)] : List Int)).bind fun y11 =>
                  some (out_, (out_.getD (Int.toNat y6.1) default).Id, (out_.getD (Int.toNat y6.1) default).Name, (out_.getD (Int.toNat y6.1) default).Until, ([y11.1] : List Int), y11.2))
                else (
                  bif (y7.1 == (4 : Int)) then (
                    (iterO (M.spec_l1Cur_formats_l2) (out_, id_, y7.2)).bind fun e => match e with
                    | (out_3, c_6) =>
                      (some (out_3, (out_.getD (Int.toNat y6.1) default).Id, (out_.getD (Int.toNat y6.1) default).Name, (out_.getD (Int.toNat y6.1) default).Until, (out_.getD (Int.toNat y6.1) default).Reads, c_6)))
                  else (
                    (((
                      bif (y7.1 == (5 : Int)) then (
                        some (y7.1 == (5 : Int)))
                      else (
                        bif (y7.1 == (6 : Int)) then (
                          some (y7.1 == (6 : Int)))
                        else (
                          bif (y7.1 == (7 : Int)) then (
                            some (y7.1 == (7 : Int)))
                          else (
                            bif (y7.1 == (8 : Int)) then (
                              some (y7.1 == (8 : Int)))
                            else (
                              bif (y7.1 == (9 : Int)) then (
                                some (y7.1 == (9 : Int)))
                              else (
                                some (y7.1 == (10 : Int)))))))) : Option Bool)).bind fun e => match e with
                    | v =>
                      (bif v then (
                        bif (decide ((IntKind.i64.wrap (y6.1 + (1 : Int))) < (out_.length : Int))) then (
                          asrt ((0 : Int) ≤ (IntKind.i64.wrap (y6.1 + (1 : Int))) ∧ (IntKind.i64.wrap (y6.1 + (1 : Int))) < (out_.length : Int)) <|
                          some (out_, (out_.getD (Int.toNat y6.1) default).Id, (out_.getD (Int.toNat y6.1) default).Name, (out_.getD (Int.toNat y6.1) default).Until, ([(out_.getD (Int.toNat (IntKind.i64.wrap (y6.1 + (1 : Int)))) default).Id] : List Int), y7.2))
                        else (
                          some (out_, (out_.getD (Int.toNat y6.1) default).Id, (out_.getD (Int.toNat y6.1) default).Name, (out_.getD (Int.toNat y6.1) default).Until, (out_.getD (Int.toNat y6.1) default).Reads, y7.2)))
                      else (
                        some (out_, (out_.getD (Int.toNat y6.1) default).Id, (out_.getD (Int.toNat y6.1) default).Name, (out_.getD (Int.toNat y6.1) default).Until, (out_.getD (Int.toNat y6.1) default).Reads, y7.2))))))))) : Option (List Format × Int × List UInt8 × Int × List Int × Cur))).bind fun e => match e with
        | (out_2, f_Id, f_Name, f_Until, f_Reads3, c_5) =>
          (some (out_2, c_5, (⟨f_Id, f_Name, f_Until, f_Reads3⟩ : Format)))) : Option (List Format × Cur × Format))).bind fun e => match e with
      | (out_1, o, f_) =>
        (asrt ((0 : Int) ≤ y6.1 ∧ y6.1 < (out_1.length : Int)) <|
        some ((out_1.set (Int.toNat y6.1) f_), o))))

def M.spec_l1Cur_formatId (c : Cur) (list : List Format) : Option (Int × Cur) :=
  ((bif ((list.length : Int) == (0 : Int)) then some default else M.spec_l1Cur_one c (12 : Int))).bind fun y0 =>
  bif (((list.length : Int) == (0 : Int)) || y0.1) then (
    (M.spec_l1Cur_among (bif ((list.length : Int) == (0 : Int)) then c else y0.2) ([(0 : Int), (1 : Int), (48 : Int)] : List Int)).bind fun y1 =>
    some (y1.1, y1.2))
  else (
    (M.spec_l1Cur_pick (bif ((list.length : Int) == (0 : Int)) then c else y0.2) (list.length : Int)).bind fun y2 =>
    asrt ((0 : Int) ≤ y2.1 ∧ y2.1 < (list.length : Int)) <|
    some ((list.getD (Int.toNat y2.1) default).Id, y2.2))

def M.spec_l1Cur_day7 (c : Cur) : Option (Int × Cur) :=
  (M.spec_l1Cur_pick c (24 : Int)).bind fun y0 =>
  asrt ((0 : Int) ≤ (0 : Int) ∧ (0 : Int) ≤ (IntKind.i64.wrap ((6 : Int) + (IntKind.i64.wrap (Int.tdiv y0.1 (11 : Int))))) ∧ (IntKind.i64.wrap ((6 : Int) + (IntKind.i64.wrap (Int.tdiv y0.1 (11 : Int))))) ≤ (([(0 : Int), (99 : Int), (100 : Int), (101 : Int), (901 : Int), (20000 : Int), (-1 : Int), (20001 : Int)] : List Int).length : Int)) <|
  (M.spec_l1Cur_among y0.2 (slc ([(0 : Int), (99 : Int), (100 : Int), (101 : Int), (901 : Int), (20000 : Int), (-1 : Int), (20001 : Int)] : List Int) (0 : Int) (IntKind.i64.wrap ((6 : Int) + (IntKind.i64.wrap (Int.tdiv y0.1 (11 : Int))))))).bind fun y1 =>
  some (y1.1, y1.2)

def M.spec_DrawShortestPath (code : List Int) : Option (List Format × Int × Int × Int) :=
  (M.spec_l1Cur_formats (⟨code, (0 : Int), (0 : Int)⟩ : Cur)).bind fun y0 =>
  (M.spec_l1Cur_formatId y0.2 y0.1).bind fun y1 =>
  (M.spec_l1Cur_formatId y1.2 y0.1).bind fun y2 =>
  (M.spec_l1Cur_day7 y2.2).bind fun y3 =>
  some (y0.1, y1.1, y2.1, y3.1)

def M.impl_within (n : Int) (low : Int) (high : Int) : Option Bool :=
  some ((decide (low ≤ n)) && (decide (n ≤ high)))

def M.strings_Trim (s cutset : List UInt8) : Option (List UInt8) := asrt (s.length ≤ 9223372036854775807 ∧ cutset.length < 4294967281 ∧ cutset.all (fun b => decide (b.toNat < 128)) = true) <| some (Go.Lib.trimS s cutset)

def M.impl_isWord (s : List UInt8) : Option Bool :=
  (M.impl_within (s.length : Int) (1 : Int) (10 : Int)).bind fun y0 =>
  ((bif y0 then M.strings_Trim s ([97, 98, 99, 100, 101, 102, 103, 104, 105, 106, 107, 108, 109, 110, 111, 112, 113, 114, 115, 116, 117, 118, 119, 120, 121, 122]) else some default)).bind fun y1 =>
  some (y0 && (y1 == ([])))

def M.impl_isDay (day : Int) : Option Bool :=
  (M.impl_within day (0 : Int) (20000 : Int)).bind fun y0 =>
  some y0

def M.impl_formatAt_1 (f : Format) (id_c : Int) : Option Bool :=
  some (f.Id == id_c)

def M.slices_IndexFunc_impl_Format_impl_Format_l0 (s : List Format) (fm : Format → Option Bool) : (Int) → Option ((Int) ⊕ ((Unit) ⊕ (Int))) := fun st_ => match st_ with
| v =>
  bif (decide (v < (s.length : Int))) then (
    asrt ((0 : Int) ≤ v ∧ v < (s.length : Int)) <|
    (fm (s.getD (Int.toNat v) default)).bind fun y1 =>
    bif y1 then (
      some (.inr (.inr v)))
    else (
      some (.inl (IntKind.i64.wrap (v + (1 : Int))))))
  else (
    some (.inr (.inl ())))

def M.slices_IndexFunc_impl_Format_impl_Format (s : List Format) (fm : Format → Option Bool) : Option Int :=
  (iterO (M.slices_IndexFunc_impl_Format_impl_Format_l0 s fm) (0 : Int)).bind fun e => match e with
  | .inl () =>
    (some (-1 : Int))
  | .inr r => some r

def M.impl_formatAt (list : List Format) (id_ : Int) : Option Int :=
  (M.slices_IndexFunc_impl_Format_impl_Format list (fun x0 => M.impl_formatAt_1 x0 id_)).bind fun y0 =>
  some y0

def M.impl_areReads_l0 (list : List Format) (f : Format) : (Int) → Option ((Int) ⊕ ((Unit) ⊕ (Bool))) := fun st_ => match st_ with
| v =>
  bif (decide (v < (f.Reads.length : Int))) then (
    asrt ((0 : Int) ≤ v ∧ v < (f.Reads.length : Int)) <|
    ((bif ((f.Reads.getD (Int.toNat v) default) == f.Id) then some default else M.impl_formatAt list (f.Reads.getD (Int.toNat v) default))).bind fun y1 =>
    asrt ((((f.Reads.getD (Int.toNat v) default) == f.Id) || (decide (y1 < (0 : Int)))) = false → (decide (v > (0 : Int))) = true → ((0 : Int) ≤ (IntKind.i64.wrap (v - (1 : Int))) ∧ (IntKind.i64.wrap (v - (1 : Int))) < (f.Reads.length : Int))) <|
    bif ((((f.Reads.getD (Int.toNat v) default) == f.Id) || (decide (y1 < (0 : Int)))) || ((decide (v > (0 : Int))) && (decide ((f.Reads.getD (Int.toNat (IntKind.i64.wrap (v - (1 : Int)))) default) ≥ (f.Reads.getD (Int.toNat v) default))))) then (
      some (.inr (.inr false)))
    else (
      some (.inl (IntKind.i64.wrap (v + (1 : Int))))))
  else (
    some (.inr (.inl ())))

def M.impl_areReads (list : List Format) (f : Format) : Option Bool :=
  (iterO (M.impl_areReads_l0 list f) (0 : Int)).bind fun e => match e with
  | .inl () =>
    (some (decide ((f.Reads.length : Int) ≤ (10 : Int))))
  | .inr r => some r

def M.impl_AreFormats_1 (g : Format) (f_c : Format) : Option Bool :=
  some (g.Name == f_c.Name)

def M.slices_ContainsFunc_impl_Format_impl_Format (s : List Format) (fm : Format → Option Bool) : Option Bool :=
  (M.slices_IndexFunc_impl_Format_impl_Format s fm).bind fun y0 =>
  some (decide (y0 ≥ (0 : Int)))

def M.impl_AreFormats_l0 (list : List Format) : (Int) → Option ((Int) ⊕ ((Unit) ⊕ (Bool))) := fun st_ => match st_ with
| v =>
  bif (decide (v < (list.length : Int))) then (
    asrt ((0 : Int) ≤ v ∧ v < (list.length : Int)) <|
    (M.impl_within ((list.getD (Int.toNat v) default).Id) (1 : Int) (50 : Int)).bind fun y1 =>
    ((bif (!y1) then some default else M.impl_isWord ((list.getD (Int.toNat v) default).Name))).bind fun y2 =>
    ((bif ((!y1) || (!y2)) then some default else M.impl_isDay ((list.getD (Int.toNat v) default).Until))).bind fun y3 =>
    asrt ((((!y1) || (!y2)) || (!y3)) = false → (decide (v > (0 : Int))) = true → ((0 : Int) ≤ (IntKind.i64.wrap (v - (1 : Int))) ∧ (IntKind.i64.wrap (v - (1 : Int))) < (list.length : Int))) <|
    ((bif ((((!y1) || (!y2)) || (!y3)) || ((decide (v > (0 : Int))) && (decide (((list.getD (Int.toNat (IntKind.i64.wrap (v - (1 : Int)))) default).Id) ≥ ((list.getD (Int.toNat v) default).Id))))) then some default else M.impl_areReads list (list.getD (Int.toNat v) default))).bind fun y4 =>
    bif (((((!y1) || (!y2)) || (!y3)) || ((decide (v > (0 : Int))) && (decide (((list.getD (Int.toNat (IntKind.i64.wrap (v - (1 : Int)))) default).Id) ≥ ((list.getD (Int.toNat v) default).Id))))) || (!y4)) then (
      some (.inr (.inr false)))
    else (
      asrt ((0 : Int) ≤ (0 : Int) ∧ (0 : Int) ≤ v ∧ v ≤ (list.length : Int)) <|
      (M.slices_ContainsFunc_impl_Format_impl_Format (slc list (0 : Int) v) (fun x0 => M.impl_AreFormats_1 x0 (list.getD (Int.toNat v) default))).bind fun y5 =>
      bif y5 then (
        some (.inr (.inr false)))
      else (
        some (.inl (IntKind.i64.wrap (v + (1 : Int)))))))
  else (
    some (.inr (.inl ())))

def M.impl_AreFormats (list : List Format) : Option Bool :=
  bif (decide ((list.length : Int) > (10 : Int))) then (
    some false)
  else (
    (iterO (M.impl_AreFormats_l0 list) (0 : Int)).bind fun e => match e with
    | .inl () =>
      (some true)
    | .inr r => some r)

def M.impl_isOnDay (list : List Format) (id_ : Int) (day : Int) : Option Bool :=
  (M.impl_AreFormats list).bind fun y0 =>
  ((bif y0 then M.impl_formatAt list id_ else some default)).bind fun y1 =>
  ((bif (y0 && (decide (y1 ≥ (0 : Int)))) then M.impl_isDay day else some default)).bind fun y2 =>
  some ((y0 && (decide (y1 ≥ (0 : Int)))) && y2)

def M.slices_Index_int_int_l0 (s : List Int) (v : Int) : (Int) → Option ((Int) ⊕ ((Unit) ⊕ (Int))) := fun st_ => match st_ with
| v0 =>
  bif (decide (v0 < (s.length : Int))) then (
    asrt ((0 : Int) ≤ v0 ∧ v0 < (s.length : Int)) <|
    bif (v == (s.getD (Int.toNat v0) default)) then (
      some (.inr (.inr v0)))
    else (
      some (.inl (IntKind.i64.wrap (v0 + (1 : Int))))))
  else (
    some (.inr (.inl ())))

def M.slices_Index_int_int (s : List Int) (v : Int) : Option Int :=
  (iterO (M.slices_Index_int_int_l0 s v) (0 : Int)).bind fun e => match e with
  | .inl () =>
    (some (-1 : Int))
  | .inr r => some r

def M.slices_Contains_int_int (s : List Int) (v : Int) : Option Bool :=
  (M.slices_Index_int_int s v).bind fun y0 =>
  some (decide (y0 ≥ (0 : Int)))

def M.impl_leads (from_ : Format) (to_ : Format) (day : Int) : Option Bool :=
  (M.slices_Contains_int_int to_.Reads from_.Id).bind fun y0 =>
  some (y0 && (decide (to_.Until ≥ day)))

def M.slices_Clone_int_int (s : List Int) : Option (List Int) := asrt ((s.length : Int) ≤ 2147483648) <| some s

def M.impl_ShortestPath_l2 (list : List Format) (day : Int) (paths : List (List Int)) (v : Int) : (List Int × List (List Int) × Int) → Option ((List Int × List (List Int) × Int) ⊕ (List Int × List (List Int))) := fun st_ => match st_ with
| (seen3, next2, v0) =>
  bif (decide (v0 < (list.length : Int))) then (
    (((
      asrt ((0 : Int) ≤ v0 ∧ v0 < (list.length : Int)) <|
      (M.impl_formatAt list ((paths.getD (Int.toNat v) default).getD (Int.toNat (IntKind.i64.wrap (((paths.getD (Int.toNat v) default).length : Int) - (1 : Int)))) default)).bind fun y5 =>
      asrt ((0 : Int) ≤ y5 ∧ y5 < (list.length : Int)) <|
      (M.impl_leads (list.getD (Int.toNat y5) default) (list.getD (Int.toNat v0) default) day).bind fun y6 =>
      ((bif y6 then M.slices_Contains_int_int seen3 ((list.getD (Int.toNat v0) default).Id) else some default)).bind fun y7 =>
      bif (y6 && (!y7)) then (
        asrt ((seen3.length : Int) + (([(list.getD (Int.toNat v0) default).Id] : List Int).length : Int) ≤ 2147483648) <|
        (M.slices_Clone_int_int (paths.getD (Int.toNat v) default)).bind fun y8 =>
        asrt ((y8.length : Int) + (([(list.getD (Int.toNat v0) default).Id] : List Int).length : Int) ≤ 2147483648) <|
        asrt ((next2.length : Int) + (([(y8 ++ ([(list.getD (Int.toNat v0) default).Id] : List Int))] : List (List Int)).length : Int) ≤ 2147483648) <|
        some ((seen3 ++ ([(list.getD (Int.toNat v0) default).Id] : List Int)), (next2 ++ ([(y8 ++ ([(list.getD (Int.toNat v0) default).Id] : List Int))] : List (List Int)))))
      else (
        some (seen3, next2))) : Option (List Int × List (List Int)))).bind fun e => match e with
    | (seen4, next3) =>
      (some (.inl (seen4, next3, (IntKind.i64.wrap (v0 + (1 : Int)))))))
  else (
    some (.inr (seen3, next2)))

def M.impl_ShortestPath_l1 (list : List Format) (to_ : Int) (day : Int) (paths : List (List Int)) : (List Int × List (List Int) × Int) → Option ((List Int × List (List Int) × Int) ⊕ ((List Int × List (List Int)) ⊕ (List Int × Bool))) := fun st_ => match st_ with
| (seen1, next0, v) =>
  bif (decide (v < (paths.length : Int))) then (
    asrt ((0 : Int) ≤ v ∧ v < (paths.length : Int)) <|
    asrt ((0 : Int) ≤ (IntKind.i64.wrap (((paths.getD (Int.toNat v) default).length : Int) - (1 : Int))) ∧ (IntKind.i64.wrap (((paths.getD (Int.toNat v) default).length : Int) - (1 : Int))) < ((paths.getD (Int.toNat v) default).length : Int)) <|
    bif (((paths.getD (Int.toNat v) default).getD (Int.toNat (IntKind.i64.wrap (((paths.getD (Int.toNat v) default).length : Int) - (1 : Int)))) default) == to_) then (
      some (.inr (.inr ((paths.getD (Int.toNat v) default), true))))
    else (
      (iterO (M.impl_ShortestPath_l2 list day paths v) (seen1, next0, (0 : Int))).bind fun e => match e with
      | (seen2, next1) =>
        (some (.inl (seen2, next1, (IntKind.i64.wrap (v + (1 : Int))))))))
  else (
    some (.inr (.inl (seen1, next0))))

def M.impl_ShortestPath_l0 (list : List Format) (to_ : Int) (day : Int) : (List (List Int) × List Int) → Option ((List (List Int) × List Int) ⊕ ((Unit) ⊕ (List Int × Bool))) := fun st_ => match st_ with
| (paths, seen) =>
  bif (decide ((paths.length : Int) > (0 : Int))) then (
    (iterO (M.impl_ShortestPath_l1 list to_ day paths) (seen, ([] : List (List Int)), (0 : Int))).bind fun e => match e with
    | .inl (seen0, next) =>
      (some (.inl (next, seen0)))
    | .inr r => some (.inr (.inr r)))
  else (
    some (.inr (.inl ())))

def M.impl_ShortestPath (list : List Format) (from_ : Int) (to_ : Int) (day : Int) : Option (List Int × Bool) :=
  (M.impl_isOnDay list from_ day).bind fun y0 =>
  ((bif (!y0) then some default else M.impl_formatAt list to_)).bind fun y1 =>
  bif ((!y0) || (decide (y1 < (0 : Int)))) then (
    some (([] : List Int), false))
  else (
    (iterO (M.impl_ShortestPath_l0 list to_ day) (([([from_] : List Int)] : List (List Int)), ([from_] : List Int))).bind fun e => match e with
    | .inl () =>
      (some (([] : List Int), false))
    | .inr r => some r)

def M.spec_l1In (x : Int) (a : Int) (b_ : Int) : Option Bool :=
  some ((decide (x ≥ a)) && (decide (x ≤ b_)))

def M.spec_l2Word_l0 (s : List UInt8) : (Int) → Option ((Int) ⊕ ((Unit) ⊕ (Bool))) := fun st_ => match st_ with
| i =>
  bif (decide (i < (s.length : Int))) then (
    asrt ((0 : Int) ≤ i ∧ i < (s.length : Int)) <|
    asrt ((decide (((s.getD (Int.toNat i) 0).toNat : Int) < (97 : Int))) = false → ((0 : Int) ≤ i ∧ i < (s.length : Int))) <|
    bif ((decide (((s.getD (Int.toNat i) 0).toNat : Int) < (97 : Int))) || (decide (((s.getD (Int.toNat i) 0).toNat : Int) > (122 : Int)))) then (
      some (.inr (.inr false)))
    else (
      some (.inl (IntKind.i64.wrap (i + (1 : Int))))))
  else (
    some (.inr (.inl ())))

def M.spec_l2Word (s : List UInt8) : Option Bool :=
  (iterO (M.spec_l2Word_l0 s) (0 : Int)).bind fun e => match e with
  | .inl () =>
    ((M.spec_l1In (s.length : Int) (1 : Int) (10 : Int)).bind fun y1 =>
    some y1)
  | .inr r => some r

def M.spec_l2Day (d : Int) : Option Bool :=
  (M.spec_l1In d (0 : Int) (20000 : Int)).bind fun y0 =>
  some y0

def M.spec_l1Rising_l0 (l : List Int) (lo : Int) (hi : Int) : (Int) → Option ((Int) ⊕ ((Unit) ⊕ (Bool))) := fun st_ => match st_ with
| i =>
  bif (decide (i < (l.length : Int))) then (
    asrt ((0 : Int) ≤ i ∧ i < (l.length : Int)) <|
    (M.spec_l1In (l.getD (Int.toNat i) default) lo hi).bind fun y1 =>
    asrt ((!y1) = false → (decide (i > (0 : Int))) = true → ((0 : Int) ≤ (IntKind.i64.wrap (i - (1 : Int))) ∧ (IntKind.i64.wrap (i - (1 : Int))) < (l.length : Int))) <|
    asrt ((!y1) = false → (decide (i > (0 : Int))) = true → ((0 : Int) ≤ i ∧ i < (l.length : Int))) <|
    bif ((!y1) || ((decide (i > (0 : Int))) && (decide ((l.getD (Int.toNat (IntKind.i64.wrap (i - (1 : Int)))) default) ≥ (l.getD (Int.toNat i) default))))) then (
      some (.inr (.inr false)))
    else (
      some (.inl (IntKind.i64.wrap (i + (1 : Int))))))
  else (
    some (.inr (.inl ())))

def M.spec_l1Rising (l : List Int) (lo : Int) (hi : Int) : Option Bool :=
  (iterO (M.spec_l1Rising_l0 l lo hi) (0 : Int)).bind fun e => match e with
  | .inl () =>
    (some true)
  | .inr r => some r

def M.spec_l1Has_l0 (l : List Int) (n : Int) : (Int) → Option ((Int) ⊕ ((Unit) ⊕ (Bool))) := fun st_ => match st_ with
| i =>
  bif (decide (i < (l.length : Int))) then (
    asrt ((0 : Int) ≤ i ∧ i < (l.length : Int)) <|
    bif ((l.getD (Int.toNat i) default) == n) then (
      some (.inr (.inr true)))
    else (
      some (.inl (IntKind.i64.wrap (i + (1 : Int))))))
  else (
    some (.inr (.inl ())))

def M.spec_l1Has (l : List Int) (n : Int) : Option Bool :=
  (iterO (M.spec_l1Has_l0 l n) (0 : Int)).bind fun e => match e with
  | .inl () =>
    (some false)
  | .inr r => some r

def M.spec_l7Find_l0 (list : List Format) (id_ : Int) : (Int) → Option ((Int) ⊕ ((Unit) ⊕ (Int))) := fun st_ => match st_ with
| i =>
  bif (decide (i < (list.length : Int))) then (
    asrt ((0 : Int) ≤ i ∧ i < (list.length : Int)) <|
    bif (((list.getD (Int.toNat i) default).Id) == id_) then (
      some (.inr (.inr i)))
    else (
      some (.inl (IntKind.i64.wrap (i + (1 : Int))))))
  else (
    some (.inr (.inl ())))

def M.spec_l7Find (list : List Format) (id_ : Int) : Option Int :=
  (iterO (M.spec_l7Find_l0 list id_) (0 : Int)).bind fun e => match e with
  | .inl () =>
    (some (-1 : Int))
  | .inr r => some r

def M.spec_l7Good_l1 (list : List Format) (i : Int) : (Int) → Option ((Int) ⊕ ((Unit) ⊕ (Bool))) := fun st_ => match st_ with
| k =>
  bif (decide (k < i)) then (
    asrt ((0 : Int) ≤ k ∧ k < (list.length : Int)) <|
    bif (((list.getD (Int.toNat k) default).Name) == ((list.getD (Int.toNat i) default).Name)) then (
      some (.inr (.inr false)))
    else (
      some (.inl (IntKind.i64.wrap (k + (1 : Int))))))
  else (
    some (.inr (.inl ())))

def M.spec_l7Good_l2 (list : List Format) (i : Int) : (Int) → Option ((Int) ⊕ ((Unit) ⊕ (Bool))) := fun st_ => match st_ with
| k0 =>
  bif (decide (k0 < (((list.getD (Int.toNat i) default).Reads).length : Int))) then (
    asrt ((0 : Int) ≤ k0 ∧ k0 < (((list.getD (Int.toNat i) default).Reads).length : Int)) <|
    (M.spec_l7Find list (((list.getD (Int.toNat i) default).Reads).getD (Int.toNat k0) default)).bind fun y8 =>
    bif (decide (y8 < (0 : Int))) then (
      some (.inr (.inr false)))
    else (
      some (.inl (IntKind.i64.wrap (k0 + (1 : Int))))))
  else (
    some (.inr (.inl ())))

def M.spec_l7Good_l0 (list : List Format) : (Int) → Option ((Int) ⊕ ((Unit) ⊕ (Bool))) := fun st_ => match st_ with
| i =>
  bif ((decide (i < (list.length : Int))) && (decide (i ≤ (10 : Int)))) then (
    asrt ((0 : Int) ≤ i ∧ i < (list.length : Int)) <|
    (M.spec_l1In ((list.getD (Int.toNat i) default).Id) (1 : Int) (50 : Int)).bind fun y1 =>
    ((bif (!y1) then some default else M.spec_l2Word ((list.getD (Int.toNat i) default).Name))).bind fun y2 =>
    ((bif ((!y1) || (!y2)) then some default else M.spec_l2Day ((list.getD (Int.toNat i) default).Until))).bind fun y3 =>
    ((bif ((((!y1) || (!y2)) || (!y3)) || (decide ((((list.getD (Int.toNat i) default).Reads).length : Int) > (10 : Int)))) then some default else M.spec_l1Rising ((list.getD (Int.toNat i) default).Reads) (1 : Int) (50 : Int))).bind fun y4 =>
    bif (((((!y1) || (!y2)) || (!y3)) || (decide ((((list.getD (Int.toNat i) default).Reads).length : Int) > (10 : Int)))) || (!y4)) then (
      some (.inr (.inr false)))
    else (
      asrt ((decide (i > (0 : Int))) = true → ((0 : Int) ≤ (IntKind.i64.wrap (i - (1 : Int))) ∧ (IntKind.i64.wrap (i - (1 : Int))) < (list.length : Int))) <|
      ((bif ((decide (i > (0 : Int))) && (decide (((list.getD (Int.toNat (IntKind.i64.wrap (i - (1 : Int)))) default).Id) ≥ ((list.getD (Int.toNat i) default).Id)))) then some default else M.spec_l1Has ((list.getD (Int.toNat i) default).Reads) ((list.getD (Int.toNat i) default).Id))).bind fun y5 =>
      bif (((decide (i > (0 : Int))) && (decide (((list.getD (Int.toNat (IntKind.i64.wrap (i - (1 : Int)))) default).Id) ≥ ((list.getD (Int.toNat i) default).Id)))) || y5) then (
        some (.inr (.inr false)))
      else (
        (iterO (M.spec_l7Good_l1 list i) (0 : Int)).bind fun e => match e with
        | .inl () =>
          ((iterO (M.spec_l7Good_l2 list i) (0 : Int)).bind fun e => match e with
          | .inl () =>
            (some (.inl (IntKind.i64.wrap (i + (1 : Int)))))
          | .inr r => some (.inr (.inr r)))
        | .inr r => some (.inr (.inr r)))))
  else (
    some (.inr (.inl ())))

def M.spec_l7Good (list : List Format) : Option Bool :=
  (iterO (M.spec_l7Good_l0 list) (0 : Int)).bind fun e => match e with
  | .inl () =>
    (some (decide ((list.length : Int) ≤ (10 : Int))))
  | .inr r => some r

def M.spec_l1Put_l0 (l : List Int) (n : Int) : (Int) → Option ((Int) ⊕ (Int)) := fun st_ => match st_ with
| k0 =>
  asrt ((decide (k0 < (l.length : Int))) = true → ((0 : Int) ≤ k0 ∧ k0 < (l.length : Int))) <|
  bif ((decide (k0 < (l.length : Int))) && (decide ((l.getD (Int.toNat k0) default) < n))) then (
    some (.inl (IntKind.i64.wrap (k0 + (1 : Int)))))
  else (
    some (.inr k0))

def M.spec_l1Put (l : List Int) (n : Int) : Option (List Int) :=
  (iterO (M.spec_l1Put_l0 l n) (0 : Int)).bind fun e => match e with
  | k =>
    (asrt ((decide (k < (l.length : Int))) = true → ((0 : Int) ≤ k ∧ k < (l.length : Int))) <|
    bif ((decide (k < (l.length : Int))) && ((l.getD (Int.toNat k) default) == n)) then (
      some l)
    else (
      asrt ((0 : Int) ≤ (0 : Int) ∧ (0 : Int) ≤ k ∧ k ≤ (l.length : Int)) <|
      asrt ((([] : List Int).length : Int) + ((slc l (0 : Int) k).length : Int) ≤ 2147483648) <|
      asrt (((([] : List Int) ++ (slc l (0 : Int) k)).length : Int) + (([n] : List Int).length : Int) ≤ 2147483648) <|
      asrt ((0 : Int) ≤ k ∧ k ≤ (l.length : Int) ∧ (l.length : Int) ≤ (l.length : Int)) <|
      asrt ((((([] : List Int) ++ (slc l (0 : Int) k)) ++ ([n] : List Int)).length : Int) + ((slc l k (l.length : Int)).length : Int) ≤ 2147483648) <|
      some (((([] : List Int) ++ (slc l (0 : Int) k)) ++ ([n] : List Int)) ++ (slc l k (l.length : Int)))))

def M.spec_l7Ways_l2 (list : List Format) (i : Int) : (List Int × Bool × Int) → Option ((List Int × Bool × Int) ⊕ (List Int × Bool)) := fun st_ => match st_ with
| (out_5, again4, k) =>
  asrt ((0 : Int) ≤ i ∧ i < (list.length : Int)) <|
  bif (decide (k < (((list.getD (Int.toNat i) default).Reads).length : Int))) then (
    (((
      asrt ((0 : Int) ≤ i ∧ i < (list.length : Int)) <|
      asrt ((0 : Int) ≤ k ∧ k < (((list.getD (Int.toNat i) default).Reads).length : Int)) <|
      (M.spec_l1Has out_5 (((list.getD (Int.toNat i) default).Reads).getD (Int.toNat k) default)).bind fun y4 =>
      asrt (y4 = true → ((0 : Int) ≤ i ∧ i < (list.length : Int))) <|
      ((bif y4 then M.spec_l1Has out_5 ((list.getD (Int.toNat i) default).Id) else some default)).bind fun y5 =>
      bif (y4 && (!y5)) then (
        asrt ((0 : Int) ≤ i ∧ i < (list.length : Int)) <|
        (M.spec_l1Put out_5 ((list.getD (Int.toNat i) default).Id)).bind fun y6 =>
        some (y6, true))
      else (
        some (out_5, again4))) : Option (List Int × Bool))).bind fun e => match e with
    | (out_6, again5) =>
      (some (.inl (out_6, again5, (IntKind.i64.wrap (k + (1 : Int)))))))
  else (
    some (.inr (out_5, again4)))

def M.spec_l7Ways_l1 (list : List Format) (day : Int) : (List Int × Bool × Int) → Option ((List Int × Bool × Int) ⊕ (List Int × Bool)) := fun st_ => match st_ with
| (out_2, again1, i) =>
  bif (decide (i < (list.length : Int))) then (
    (((
      asrt ((0 : Int) ≤ i ∧ i < (list.length : Int)) <|
      (M.spec_l1Has out_2 ((list.getD (Int.toNat i) default).Id)).bind fun y2 =>
      asrt (y2 = false → ((0 : Int) ≤ i ∧ i < (list.length : Int))) <|
      bif (y2 || (decide (((list.getD (Int.toNat i) default).Until) < day))) then (
        some (out_2, again1))
      else (
        (iterO (M.spec_l7Ways_l2 list i) (out_2, again1, (0 : Int))).bind fun e => match e with
        | (out_4, again3) =>
          (some (out_4, again3)))) : Option (List Int × Bool))).bind fun e => match e with
    | (out_3, again2) =>
      (some (.inl (out_3, again2, (IntKind.i64.wrap (i + (1 : Int)))))))
  else (
    some (.inr (out_2, again1)))

def M.spec_l7Ways_l0 (list : List Format) (day : Int) : (List Int × Bool) → Option ((List Int × Bool) ⊕ (List Int)) := fun st_ => match st_ with
| (out_0, again) =>
  bif again then (
    (iterO (M.spec_l7Ways_l1 list day) (out_0, false, (0 : Int))).bind fun e => match e with
    | (out_1, again0) =>
      (some (.inl (out_1, again0))))
  else (
    some (.inr out_0))

def M.spec_l7Ways (list : List Format) (id_ : Int) (day : Int) : Option (List Int) :=
  (iterO (M.spec_l7Ways_l0 list day) (([id_] : List Int), true)).bind fun e => match e with
  | out_ =>
    (some out_)

def M.spec_WaysTo (list : List Format) (id_ : Int) (day : Int) : Option (List Int × Bool) :=
  (M.spec_l7Good list).bind fun y0 =>
  ((bif (!y0) then some default else M.spec_l7Find list id_)).bind fun y1 =>
  ((bif ((!y0) || (decide (y1 < (0 : Int)))) then some default else M.spec_l2Day day)).bind fun y2 =>
  bif (((!y0) || (decide (y1 < (0 : Int)))) || (!y2)) then (
    some (([] : List Int), false))
  else (
    (M.spec_l7Ways list id_ day).bind fun y3 =>
    some (y3, true))

def M.spec_l7Path_l0 (list : List Format) (from_ : Int) (to_ : Int) (day : Int) (more : Int) (rec_ : (List Format) → Int → Int → Int → Int → Option (List Int × Bool)) : (Int) → Option ((Int) ⊕ ((Unit) ⊕ (List Int × Bool))) := fun st_ => match st_ with
| i =>
  bif (decide (i < (list.length : Int))) then (
    (((
      asrt ((0 : Int) ≤ i ∧ i < (list.length : Int)) <|
      asrt ((decide (((list.getD (Int.toNat i) default).Until) < day)) = false → ((0 : Int) ≤ i ∧ i < (list.length : Int))) <|
      ((bif (decide (((list.getD (Int.toNat i) default).Until) < day)) then some default else M.spec_l1Has ((list.getD (Int.toNat i) default).Reads) from_)).bind fun y1 =>
      bif ((decide (((list.getD (Int.toNat i) default).Until) < day)) || (!y1)) then (
        some (.inl ()))
      else (
        asrt ((0 : Int) ≤ i ∧ i < (list.length : Int)) <|
        (rec_ list ((list.getD (Int.toNat i) default).Id) to_ day (IntKind.i64.wrap (more - (1 : Int)))).bind fun y2 =>
        bif y2.2 then (
          asrt ((([from_] : List Int).length : Int) + (y2.1.length : Int) ≤ 2147483648) <|
          some (.inr ((([from_] : List Int) ++ y2.1), true)))
        else (
          some (.inl ())))) : Option ((Unit) ⊕ (List Int × Bool)))).bind fun e => match e with
    | .inl () =>
      (some (.inl (IntKind.i64.wrap (i + (1 : Int)))))
    | .inr r => some (.inr (.inr r)))
  else (
    some (.inr (.inl ())))

def M.spec_l7Path_s (rec_ : (List Format) → Int → Int → Int → Int → Option (List Int × Bool)) (list : List Format) (from_ : Int) (to_ : Int) (day : Int) (more : Int) : Option (List Int × Bool) :=
  bif (more == (0 : Int)) then (
    some (([from_] : List Int), (from_ == to_)))
  else (
    (iterO (M.spec_l7Path_l0 list from_ to_ day more rec_) (0 : Int)).bind fun e => match e with
    | .inl () =>
      (some (([] : List Int), false))
    | .inr r => some r)

def M.spec_l7Path_r : Nat → (List Format) → Int → Int → Int → Int → Option (List Int × Bool)
  | 0 => fun _ _ _ _ _ => none
  | k_ + 1 => M.spec_l7Path_s (M.spec_l7Path_r k_)

def M.spec_l7Path (list : List Format) (from_ : Int) (to_ : Int) (day : Int) (more : Int) : Option (List Int × Bool) := M.spec_l7Path_r rounds list from_ to_ day more

def M.spec_ShortestPath_l0 (list : List Format) (from_ : Int) (to_ : Int) (day : Int) (y0 : List Int × Bool) : (Int) → Option ((Int) ⊕ ((Unit) ⊕ (List Int × Bool))) := fun st_ => match st_ with
| more =>
  bif (decide (more < (y0.1.length : Int))) then (
    (M.spec_l7Path list from_ to_ day more).bind fun y3 =>
    bif y3.2 then (
      some (.inr (.inr (y3.1, true))))
    else (
      some (.inl (IntKind.i64.wrap (more + (1 : Int))))))
  else (
    some (.inr (.inl ())))

def M.spec_ShortestPath (list : List Format) (from_ : Int) (to_ : Int) (day : Int) : Option (List Int × Bool) :=
  (M.spec_WaysTo list from_ day).bind fun y0 =>
  ((bif (!y0.2) then some default else M.spec_l1Has y0.1 to_)).bind fun y1 =>
  bif ((!y0.2) || (!y1)) then (
    some (([] : List Int), false))
  else (
    (iterO (M.spec_ShortestPath_l0 list from_ to_ day y0) (0 : Int)).bind fun e => match e with
    | .inl () =>
      (some (([] : List Int), false))
    | .inr r => some r)

def M.laws_rInts_l0 (a : List Int) (b_ : List Int) : (Int) → Option ((Int) ⊕ ((Unit) ⊕ (Bool))) := fun st_ => match st_ with
| i =>
  bif (decide (i < (a.length : Int))) then (
    asrt ((0 : Int) ≤ i ∧ i < (a.length : Int)) <|
    asrt ((0 : Int) ≤ i ∧ i < (b_.length : Int)) <|
    bif ((a.getD (Int.toNat i) default) != (b_.getD (Int.toNat i) default)) then (
      some (.inr (.inr false)))
    else (
      some (.inl (IntKind.i64.wrap (i + (1 : Int))))))
  else (
    some (.inr (.inl ())))

def M.laws_rInts (a : List Int) (b_ : List Int) : Option Bool :=
  bif ((a.length : Int) != (b_.length : Int)) then (
    some false)
  else (
    (iterO (M.laws_rInts_l0 a b_) (0 : Int)).bind fun e => match e with
    | .inl () =>
      (some true)
    | .inr r => some r)

def M.slices_Sort_int_int (s : List Int) : Option (List Int) := asrt (s.length < 4611686018427387904) <| some (sortL s)

def M.impl_waysTo_l1 (list : List Format) (day : Int) (y1 : Int) : (List Int × Int) → Option ((List Int × Int) ⊕ (List Int)) := fun st_ => match st_ with
| (ids2, v) =>
  bif (decide (v < (list.length : Int))) then (
    (((
      asrt ((0 : Int) ≤ v ∧ v < (list.length : Int)) <|
      (M.impl_leads (list.getD (Int.toNat y1) default) (list.getD (Int.toNat v) default) day).bind fun y3 =>
      ((bif y3 then M.slices_Contains_int_int ids2 ((list.getD (Int.toNat v) default).Id) else some default)).bind fun y4 =>
      bif (y3 && (!y4)) then (
        asrt ((ids2.length : Int) + (([(list.getD (Int.toNat v) default).Id] : List Int).length : Int) ≤ 2147483648) <|
        some (ids2 ++ ([(list.getD (Int.toNat v) default).Id] : List Int)))
      else (
        some ids2)) : Option (List Int))).bind fun e => match e with
    | ids3 =>
      (some (.inl (ids3, (IntKind.i64.wrap (v + (1 : Int)))))))
  else (
    some (.inr ids2))

def M.impl_waysTo_l0 (list : List Format) (day : Int) : (List Int × Int) → Option ((List Int × Int) ⊕ (List Int)) := fun st_ => match st_ with
| (ids0, at_) =>
  bif (decide (at_ < (ids0.length : Int))) then (
    asrt ((0 : Int) ≤ at_ ∧ at_ < (ids0.length : Int)) <|
    (M.impl_formatAt list (ids0.getD (Int.toNat at_) default)).bind fun y1 =>
    asrt ((0 : Int) ≤ y1 ∧ y1 < (list.length : Int)) <|
    (iterO (M.impl_waysTo_l1 list day y1) (ids0, (0 : Int))).bind fun e => match e with
    | ids1 =>
      (some (.inl (ids1, (IntKind.i64.wrap (at_ + (1 : Int)))))))
  else (
    some (.inr ids0))

def M.impl_waysTo (list : List Format) (id_ : Int) (day : Int) : Option (List Int) :=
  (iterO (M.impl_waysTo_l0 list day) (([id_] : List Int), (0 : Int))).bind fun e => match e with
  | ids =>
    ((M.slices_Sort_int_int ids).bind fun y5 =>
    asrt (y5.length = ids.length) <|
    some y5)

def M.impl_WaysTo (list : List Format) (id_ : Int) (day : Int) : Option (List Int × Bool) :=
  (M.impl_isOnDay list id_ day).bind fun y0 =>
  bif (!y0) then (
    some (([] : List Int), false))
  else (
    (M.impl_waysTo list id_ day).bind fun y1 =>
    some (y1, true))

def M.laws_rHas_l0 (list : List Int) (x : Int) : (Int) → Option ((Int) ⊕ ((Unit) ⊕ (Bool))) := fun st_ => match st_ with
| i =>
  bif (decide (i < (list.length : Int))) then (
    asrt ((0 : Int) ≤ i ∧ i < (list.length : Int)) <|
    bif ((list.getD (Int.toNat i) default) == x) then (
      some (.inr (.inr true)))
    else (
      some (.inl (IntKind.i64.wrap (i + (1 : Int))))))
  else (
    some (.inr (.inl ())))

def M.laws_rHas (list : List Int) (x : Int) : Option Bool :=
  (iterO (M.laws_rHas_l0 list x) (0 : Int)).bind fun e => match e with
  | .inl () =>
    (some false)
  | .inr r => some r

def M.spec_DrawIsReadable (code : List Int) : Option (List Format × Int × Int) :=
  (M.spec_l1Cur_formats (⟨code, (0 : Int), (0 : Int)⟩ : Cur)).bind fun y0 =>
  (M.spec_l1Cur_formatId y0.2 y0.1).bind fun y1 =>
  (M.spec_l1Cur_day7 y1.2).bind fun y2 =>
  some (y0.1, y1.1, y2.1)

def M.spec_DrawLongestLived (code : List Int) : Option (List Format × Int × Int) :=
  (M.spec_DrawIsReadable code).bind fun y0 =>
  some (y0.1, y0.2.1, y0.2.2)

def M.impl_LongestLived_l0 (list : List Format) (y1 : List Int) : (Int × Int × Int) → Option ((Int × Int × Int) ⊕ (Int)) := fun st_ => match st_ with
| (best0, until_, v) =>
  bif (decide (v < (y1.length : Int))) then (
    (((
      asrt ((0 : Int) ≤ v ∧ v < (y1.length : Int)) <|
      (M.impl_formatAt list (y1.getD (Int.toNat v) default)).bind fun y3 =>
      asrt ((0 : Int) ≤ y3 ∧ y3 < (list.length : Int)) <|
      bif (decide (((list.getD (Int.toNat y3) default).Until) > until_)) then (
        some ((y1.getD (Int.toNat v) default), (list.getD (Int.toNat y3) default).Until))
      else (
        some (best0, until_))) : Option (Int × Int))).bind fun e => match e with
    | (best1, until_0) =>
      (some (.inl (best1, until_0, (IntKind.i64.wrap (v + (1 : Int)))))))
  else (
    some (.inr best0))

def M.impl_LongestLived (list : List Format) (id_ : Int) (day : Int) : Option (Int × Bool) :=
  (M.impl_isOnDay list id_ day).bind fun y0 =>
  bif (!y0) then (
    some ((0 : Int), false))
  else (
    (M.impl_waysTo list id_ day).bind fun y1 =>
    (iterO (M.impl_LongestLived_l0 list y1) ((0 : Int), (-1 : Int), (0 : Int))).bind fun e => match e with
    | best =>
      (some (best, true)))

def M.spec_LongestLived_l0 (list : List Format) (y0 : List Int × Bool) : (Int × Int) → Option ((Int × Int) ⊕ (Int)) := fun st_ => match st_ with
| (best0, i) =>
  bif (decide (i < (y0.1.length : Int))) then (
    (((
      asrt ((0 : Int) ≤ i ∧ i < (y0.1.length : Int)) <|
      (M.spec_l7Find list (y0.1.getD (Int.toNat i) default)).bind fun y2 =>
      asrt ((0 : Int) ≤ y2 ∧ y2 < (list.length : Int)) <|
      (M.spec_l7Find list best0).bind fun y3 =>
      asrt ((0 : Int) ≤ y3 ∧ y3 < (list.length : Int)) <|
      bif (decide (((list.getD (Int.toNat y2) default).Until) > ((list.getD (Int.toNat y3) default).Until))) then (
        asrt ((0 : Int) ≤ i ∧ i < (y0.1.length : Int)) <|
        some (y0.1.getD (Int.toNat i) default))
      else (
        some best0)) : Option Int)).bind fun e => match e with
    | best1 =>
      (some (.inl (best1, (IntKind.i64.wrap (i + (1 : Int)))))))
  else (
    some (.inr best0))

def M.spec_LongestLived (list : List Format) (id_ : Int) (day : Int) : Option (Int × Bool) :=
  (M.spec_WaysTo list id_ day).bind fun y0 =>
  bif (!y0.2) then (
    some ((0 : Int), false))
  else (
    asrt ((0 : Int) ≤ (0 : Int) ∧ (0 : Int) < (y0.1.length : Int)) <|
    (iterO (M.spec_LongestLived_l0 list y0) ((y0.1.getD (Int.toNat (0 : Int)) default), (1 : Int))).bind fun e => match e with
    | best =>
      (some (best, true)))

def M.impl_lastReadable_l0 (list : List Format) (id_ : Int) : (Int × Int) → Option ((Int × Int) ⊕ (Int)) := fun st_ => match st_ with
| (last0, v) =>
  bif (decide (v < (list.length : Int))) then (
    (((
      asrt ((0 : Int) ≤ v ∧ v < (list.length : Int)) <|
      (M.slices_Contains_int_int ((list.getD (Int.toNat v) default).Reads) id_).bind fun y2 =>
      bif y2 then (
        some (bif decide (last0 < ((list.getD (Int.toNat v) default).Until)) then ((list.getD (Int.toNat v) default).Until) else last0))
      else (
        some last0)) : Option Int)).bind fun e => match e with
    | last1 =>
      (some (.inl (last1, (IntKind.i64.wrap (v + (1 : Int)))))))
  else (
    some (.inr last0))

def M.impl_lastReadable (list : List Format) (id_ : Int) : Option Int :=
  (M.impl_formatAt list id_).bind fun y0 =>
  asrt ((0 : Int) ≤ y0 ∧ y0 < (list.length : Int)) <|
  (iterO (M.impl_lastReadable_l0 list id_) ((list.getD (Int.toNat y0) default).Until, (0 : Int))).bind fun e => match e with
  | last =>
    (some last)

def M.impl_IsReadable (list : List Format) (id_ : Int) (day : Int) : Option (Bool × Bool) :=
  (M.impl_isOnDay list id_ day).bind fun y0 =>
  bif (!y0) then (
    some (false, false))
  else (
    (M.impl_lastReadable list id_).bind fun y1 =>
    some ((decide (y1 ≥ day)), true))

def M.spec_l1Most (a : Int) (b_ : Int) : Option Int :=
  bif (decide (a > b_)) then (
    some a)
  else (
    some b_)

def M.spec_l7Last_l0 (list : List Format) (id_ : Int) : (Int × Int) → Option ((Int × Int) ⊕ (Int)) := fun st_ => match st_ with
| (last0, i) =>
  bif (decide (i < (list.length : Int))) then (
    (((
      asrt ((0 : Int) ≤ i ∧ i < (list.length : Int)) <|
      (M.spec_l1Has ((list.getD (Int.toNat i) default).Reads) id_).bind fun y2 =>
      bif y2 then (
        asrt ((0 : Int) ≤ i ∧ i < (list.length : Int)) <|
        (M.spec_l1Most last0 ((list.getD (Int.toNat i) default).Until)).bind fun y3 =>
        some y3)
      else (
        some last0)) : Option Int)).bind fun e => match e with
    | last1 =>
      (some (.inl (last1, (IntKind.i64.wrap (i + (1 : Int)))))))
  else (
    some (.inr last0))

def M.spec_l7Last (list : List Format) (id_ : Int) : Option Int :=
  (M.spec_l7Find list id_).bind fun y0 =>
  asrt ((0 : Int) ≤ y0 ∧ y0 < (list.length : Int)) <|
  (iterO (M.spec_l7Last_l0 list id_) ((list.getD (Int.toNat y0) default).Until, (0 : Int))).bind fun e => match e with
  | last =>
    (some last)

def M.spec_IsReadable (list : List Format) (id_ : Int) (day : Int) : Option (Bool × Bool) :=
  (M.spec_l7Good list).bind fun y0 =>
  ((bif (!y0) then some default else M.spec_l7Find list id_)).bind fun y1 =>
  ((bif ((!y0) || (decide (y1 < (0 : Int)))) then some default else M.spec_l2Day day)).bind fun y2 =>
  bif (((!y0) || (decide (y1 < (0 : Int)))) || (!y2)) then (
    some (false, false))
  else (
    (M.spec_l7Last list id_).bind fun y3 =>
    some ((decide (y3 ≥ day)), true))

def M.laws_FnPaths_l1 (y1 : List Format × Int × Int × Int) (y2 : List Int × Bool) (k : Int) : (Int) → Option ((Int) ⊕ ((Unit) ⊕ (Bool))) := fun st_ => match st_ with
| i =>
  bif (decide (i < (y1.1.length : Int))) then (
    asrt ((0 : Int) ≤ i ∧ i < (y1.1.length : Int)) <|
    asrt ((0 : Int) ≤ k ∧ k < (y2.1.length : Int)) <|
    asrt ((((y1.1.getD (Int.toNat i) default).Id) == (y2.1.getD (Int.toNat k) default)) = true → ((0 : Int) ≤ i ∧ i < (y1.1.length : Int))) <|
    asrt ((((y1.1.getD (Int.toNat i) default).Id) == (y2.1.getD (Int.toNat k) default)) = true → ((0 : Int) ≤ (IntKind.i64.wrap (k - (1 : Int))) ∧ (IntKind.i64.wrap (k - (1 : Int))) < (y2.1.length : Int))) <|
    ((bif (((y1.1.getD (Int.toNat i) default).Id) == (y2.1.getD (Int.toNat k) default)) then M.laws_rHas ((y1.1.getD (Int.toNat i) default).Reads) (y2.1.getD (Int.toNat (IntKind.i64.wrap (k - (1 : Int)))) default) else some default)).bind fun y11 =>
    asrt ((((y1.1.getD (Int.toNat i) default).Id) == (y2.1.getD (Int.toNat k) default)) = true → (!y11) = false → ((0 : Int) ≤ i ∧ i < (y1.1.length : Int))) <|
    bif ((((y1.1.getD (Int.toNat i) default).Id) == (y2.1.getD (Int.toNat k) default)) && ((!y11) || (decide (((y1.1.getD (Int.toNat i) default).Until) < y1.2.2.2)))) then (
      some (.inr (.inr false)))
    else (
      some (.inl (IntKind.i64.wrap (i + (1 : Int))))))
  else (
    some (.inr (.inl ())))

def M.laws_FnPaths_l0 (y1 : List Format × Int × Int × Int) (y2 : List Int × Bool) : (Int) → Option ((Int) ⊕ ((Unit) ⊕ (Bool))) := fun st_ => match st_ with
| k =>
  bif (decide (k < (y2.1.length : Int))) then (
    (iterO (M.laws_FnPaths_l1 y1 y2 k) (0 : Int)).bind fun e => match e with
    | .inl () =>
      (some (.inl (IntKind.i64.wrap (k + (1 : Int)))))
    | .inr r => some (.inr (.inr r)))
  else (
    some (.inr (.inl ())))

def M.laws_FnPaths_l2 (y1 : List Format × Int × Int × Int) (y5 : List Int × Bool) : (Int) → Option ((Int) ⊕ ((Unit) ⊕ (Bool))) := fun st_ => match st_ with
| i0 =>
  bif (decide (i0 < (y5.1.length : Int))) then (
    asrt ((0 : Int) ≤ i0 ∧ i0 < (y5.1.length : Int)) <|
    (M.impl_ShortestPath y1.1 y1.2.1 (y5.1.getD (Int.toNat i0) default) y1.2.2.2).bind fun y13 =>
    bif (!y13.2) then (
      some (.inr (.inr false)))
    else (
      some (.inl (IntKind.i64.wrap (i0 + (1 : Int))))))
  else (
    some (.inr (.inl ())))

def M.laws_FnPaths (code : List Int) : Option Bool :=
  (M.laws_rBig code).bind fun y0 =>
  bif y0 then (
    some true)
  else (
    (M.spec_DrawShortestPath code).bind fun y1 =>
    (M.impl_ShortestPath y1.1 y1.2.1 y1.2.2.1 y1.2.2.2).bind fun y2 =>
    (M.spec_ShortestPath y1.1 y1.2.1 y1.2.2.1 y1.2.2.2).bind fun y3 =>
    ((bif (!(y2.2 == y3.2)) then some default else M.laws_rInts y2.1 y3.1)).bind fun y4 =>
    bif ((!(y2.2 == y3.2)) || (!y4)) then (
      some false)
    else (
      (M.impl_WaysTo y1.1 y1.2.1 y1.2.2.2).bind fun y5 =>
      (M.spec_WaysTo y1.1 y1.2.1 y1.2.2.2).bind fun y6 =>
      ((bif (!(y5.2 == y6.2)) then some default else M.laws_rInts y5.1 y6.1)).bind fun y7 =>
      ((bif ((!(y5.2 == y6.2)) || (!y7)) then some default else (bif y5.2 then M.laws_rHas y5.1 y1.2.2.1 else some default))).bind fun y8 =>
      bif (((!(y5.2 == y6.2)) || (!y7)) || (!(y2.2 == (y5.2 && y8)))) then (
        some false)
      else (
        (iterO (M.laws_FnPaths_l0 y1 y2) (1 : Int)).bind fun e => match e with
        | .inl () =>
          ((iterO (M.laws_FnPaths_l2 y1 y5) (0 : Int)).bind fun e => match e with
          | .inl () =>
            ((M.spec_DrawLongestLived code).bind fun y14 =>
            (M.impl_LongestLived y14.1 y14.2.1 y14.2.2).bind fun y15 =>
            (M.spec_LongestLived y14.1 y14.2.1 y14.2.2).bind fun y16 =>
            bif ((y15.1 != y16.1) || (!(y15.2 == y16.2))) then (
              some false)
            else (
              (M.impl_WaysTo y14.1 y14.2.1 y14.2.2).bind fun y17 =>
              ((bif (!(y17.2 == y15.2)) then some default else (bif y15.2 then M.laws_rHas y17.1 y15.1 else some default))).bind fun y18 =>
              bif ((!(y17.2 == y15.2)) || (y15.2 && (!y18))) then (
                some false)
              else (
                (M.spec_DrawIsReadable code).bind fun y19 =>
                (M.impl_IsReadable y19.1 y19.2.1 y19.2.2).bind fun y20 =>
                (M.spec_IsReadable y19.1 y19.2.1 y19.2.2).bind fun y21 =>
                some ((y20.1 == y21.1) && (y20.2 == y21.2)))))
          | .inr r => some r)
        | .inr r => some r)))
end Go.Proofs.YteocnbeefedbkaaDoor
