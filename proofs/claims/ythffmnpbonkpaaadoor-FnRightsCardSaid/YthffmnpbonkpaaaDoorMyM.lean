/- models of the functions -/
import Derived.Test.YthffmnpbonkpaaaDoorWi
set_option linter.unusedSimpArgs false
set_option linter.unusedVariables false
set_option maxRecDepth 100000
namespace Go.Proofs.YthffmnpbonkpaaaDoor
open Go.VS

structure Cur where
  Code : List Int
  At : Int
  Seed : Int
  deriving Inhabited, DecidableEq

abbrev encCur (ρ : Nat) (c : Cur) : PV := .agg [.vl ρ 1 (List.map encU8 c.Code), .int .i64 c.At, .int .u64 c.Seed]

structure Clerk where
  Id : Int
  Name : List UInt8
  Rights : Int
  From : Int
  Until : Int
  Stands : Int
  deriving Inhabited, DecidableEq

abbrev encClerk (c : Clerk) : PV := .agg [.int .i64 c.Id, .str c.Name, .int .i64 c.Rights, .int .i64 c.From, .int .i64 c.Until, .int .i64 c.Stands]

def M.laws_rBig (code : List Int) : Option Bool :=
  some (decide ((code.length : Int) > (65536 : Int)))

def M.spec_l1Cur_next (c : Cur) : Option (Int × Cur) :=
  (((
    bif (decide (c.At < (c.Code.length : Int))) then (
      asrt ((0 : Int) ≤ c.At ∧ c.At < (c.Code.length : Int)) <|
      some (IntKind.i64.wrap (c.Code.getD (Int.toNat c.At) default)))
    else (
      some (0 : Int))) : Option Int)).bind fun e => match e with
  | b_ =>
    (bif (decide ((IntKind.i64.wrap (c.At + (1 : Int))) ≤ (c.Code.length : Int))) then (
      some (b_, (⟨c.Code, (IntKind.i64.wrap (c.At + (1 : Int))), (IntKind.u64.wrap ((IntKind.u64.wrap ((IntKind.u64.wrap (c.Seed * (6364136223846793005 : Int))) + (IntKind.u64.wrap b_))) + (103535 : Int)))⟩ : Cur)))
    else (
      some ((IntKind.i64.wrap (IntKind.u64.wrap (BitVec.ofInt IntKind.u64.bits (Int.fdiv (IntKind.u64.wrap ((IntKind.u64.wrap ((IntKind.u64.wrap (c.Seed * (6364136223846793005 : Int))) + (IntKind.u64.wrap b_))) + (103535 : Int))) (2 ^ (min (Int.toNat (40 : Int)) IntKind.u64.bits))) &&& BitVec.ofInt IntKind.u64.bits (255 : Int)).toNat)), (⟨c.Code, (IntKind.i64.wrap (c.At + (1 : Int))), (IntKind.u64.wrap ((IntKind.u64.wrap ((IntKind.u64.wrap (c.Seed * (6364136223846793005 : Int))) + (IntKind.u64.wrap b_))) + (103535 : Int)))⟩ : Cur))))

def M.spec_l1Cur_pick (c : Cur) (n : Int) : Option (Int × Cur) :=
  bif (decide (n ≤ (1 : Int))) then (
    some ((0 : Int), c))
  else (
    (M.spec_l1Cur_next c).bind fun y0 =>
    (((
      bif (decide (n > (200 : Int))) then (
        (M.spec_l1Cur_next y0.2).bind fun y1 =>
        some ((IntKind.i64.wrap ((IntKind.i64.wrap (y0.1 * (256 : Int))) + y1.1)), y1.2))
      else (
        some (y0.1, y0.2))) : Option (Int × Cur))).bind fun e => match e with
    | (x, c_) =>
      (asrt (n ≠ 0) <|
      some ((Int.tmod x n), c_)))

def M.spec_l1Cur_of (c : Cur) (list : List (List UInt8)) : Option (List UInt8 × Cur) :=
  (M.spec_l1Cur_pick c (list.length : Int)).bind fun y0 =>
  asrt ((0 : Int) ≤ y0.1 ∧ y0.1 < (list.length : Int)) <|
  some ((list.getD (Int.toNat y0.1) default), y0.2)

def M.spec_l1Cur_word (c : Cur) : Option (List UInt8 × Cur) :=
  (M.spec_l1Cur_of c ([[116, 97, 120], [108, 101, 116, 116, 101, 114], [99, 111, 117, 114, 116], [97, 110, 110, 97], [98, 111], [110, 111, 114, 116, 104], [112, 108, 97, 110], [97], [97, 98, 99, 100, 101, 102, 103, 104, 105, 106]] : List (List UInt8))).bind fun y0 =>
  some (y0.1, y0.2)

def M.spec_l1Cur_among (c : Cur) (list : List Int) : Option (Int × Cur) :=
  (M.spec_l1Cur_pick c (list.length : Int)).bind fun y0 =>
  asrt ((0 : Int) ≤ y0.1 ∧ y0.1 < (list.length : Int)) <|
  some ((list.getD (Int.toNat y0.1) default), y0.2)

def M.spec_l1Most (a : Int) (b_ : Int) : Option Int :=
  bif (decide (a > b_)) then (
    some a)
  else (
    some b_)

def M.spec_l1Cur_clerk (c : Cur) (id_ : Int) : Option (Clerk × Cur) :=
  (M.spec_l1Cur_word c).bind fun y0 =>
  (M.spec_l1Cur_among y0.2 ([(0 : Int), (1 : Int), (2 : Int), (3 : Int), (4 : Int), (5 : Int), (7 : Int), (8 : Int), (9 : Int), (13 : Int)] : List Int)).bind fun y1 =>
  (M.spec_l1Cur_among y1.2 ([(0 : Int), (0 : Int), (10 : Int), (50 : Int)] : List Int)).bind fun y2 =>
  (M.spec_l1Cur_among y2.2 ([(9 : Int), (60 : Int), (60 : Int), (20000 : Int)] : List Int)).bind fun y3 =>
  (M.spec_l1Most y3.1 y2.1).bind fun y4 =>
  (M.spec_l1Cur_pick y3.2 (80 : Int)).bind fun y5 =>
  (((
    bif (y5.1 == (0 : Int)) then (
      (M.spec_l1Cur_among y5.2 ([(0 : Int), (99 : Int), (100 : Int)] : List Int)).bind fun y6 =>
      some (y6.2, (⟨y6.1, y0.1, y1.1, y2.1, y4, (0 : Int)⟩ : Clerk)))
    else (
      bif (y5.1 == (1 : Int)) then (
        (M.spec_l1Cur_of y5.2 ([[], [65], [97, 98, 99, 100, 101, 102, 103, 104, 105, 106, 107]] : List (List UInt8))).bind fun y7 =>
        some (y7.2, (⟨id_, y7.1, y1.1, y2.1, y4, (0 : Int)⟩ : Clerk)))
      else (
        bif (y5.1 == (2 : Int)) then (
          (M.spec_l1Cur_among y5.2 ([(-1 : Int), (10 : Int), (16 : Int)] : List Int)).bind fun y8 =>
          some (y8.2, (⟨id_, y0.1, y8.1, y2.1, y4, (0 : Int)⟩ : Clerk)))
        else (
          bif (y5.1 == (3 : Int)) then (
            (M.spec_l1Cur_among y5.2 ([(-1 : Int), (IntKind.i64.wrap (y4 + (1 : Int)))] : List Int)).bind fun y9 =>
            some (y9.2, (⟨id_, y0.1, y1.1, y9.1, y4, (0 : Int)⟩ : Clerk)))
          else (
            bif (y5.1 == (4 : Int)) then (
              some (y5.2, (⟨id_, y0.1, y1.1, y2.1, (20001 : Int), (0 : Int)⟩ : Clerk)))
            else (
              bif (y5.1 == (5 : Int)) then (
                (M.spec_l1Cur_among y5.2 ([(-1 : Int), id_, (98 : Int)] : List Int)).bind fun y10 =>
                some (y10.2, (⟨id_, y0.1, y1.1, y2.1, y4, y10.1⟩ : Clerk)))
              else (
                some (y5.2, (⟨id_, y0.1, y1.1, y2.1, y4, (0 : Int)⟩ : Clerk))))))))) : Option (Cur × Clerk))).bind fun e => match e with
  | (c_, x) =>
    (some (x, c_))

def M.spec_l1Cur_one (c : Cur) (n : Int) : Option (Bool × Cur) :=
  (M.spec_l1Cur_pick c n).bind fun y0 =>
  some ((y0.1 == (0 : Int)), y0.2)

def M.spec_l1In (x : Int) (a : Int) (b_ : Int) : Option Bool :=
  some ((decide (x ≥ a)) && (decide (x ≤ b_)))

def M.spec_l2Word_l0 (s : List UInt8) : (Int) → Option ((Int) ⊕ ((Unit) ⊕ (Bool))) := fun st_ => match st_ with
| i =>
  bif (decide (i < (s.length : Int))) then (
    asrt ((0 : Int) ≤ i ∧ i < (s.length : Int)) <|
    asrt ((decide (((s.getD (Int.toNat i) 0).toNat : Int) < (97 : Int))) = false → ((0 : Int) ≤ i ∧ i < (s.length : Int))) <|
    bif ((decide (((s.getD (Int.toNat i) 0).toNat : Int) < (97 : Int))) || (decide (((s.getD (Int.toNat i) 0).toNat : Int) > (122 : Int)))) then (
      some (.inr (.inr false)))
    else (
      some (.inl (IntKind.i64.wrap (i + (1 : Int))))))
  else (
    some (.inr (.inl ())))

def M.spec_l2Word (s : List UInt8) : Option Bool :=
  (iterO (M.spec_l2Word_l0 s) (0 : Int)).bind fun e => match e with
  | .inl () =>
    ((M.spec_l1In (s.length : Int) (1 : Int) (10 : Int)).bind fun y1 =>
    some y1)
  | .inr r => some r

def M.spec_l11Both (rights : Int) : Option Bool :=
  some ((IntKind.i64.wrap (BitVec.ofInt IntKind.i64.bits rights &&& BitVec.ofInt IntKind.i64.bits (10 : Int)).toNat) == (10 : Int))

def M.spec_l2Day (d : Int) : Option Bool :=
  (M.spec_l1In d (0 : Int) (20000 : Int)).bind fun y0 =>
  some y0

def M.spec_l11One (x : Clerk) : Option Bool :=
  (M.spec_l1In x.Id (1 : Int) (99 : Int)).bind fun y0 =>
  ((bif y0 then M.spec_l2Word x.Name else some default)).bind fun y1 =>
  ((bif (y0 && y1) then M.spec_l1In x.Rights (0 : Int) (15 : Int) else some default)).bind fun y2 =>
  ((bif ((y0 && y1) && y2) then M.spec_l11Both x.Rights else some default)).bind fun y3 =>
  ((bif (((y0 && y1) && y2) && (!y3)) then M.spec_l2Day x.Until else some default)).bind fun y4 =>
  ((bif ((((y0 && y1) && y2) && (!y3)) && y4) then M.spec_l1In x.From (0 : Int) x.Until else some default)).bind fun y5 =>
  ((bif (((((y0 && y1) && y2) && (!y3)) && y4) && y5) then M.spec_l1In x.Stands (0 : Int) (99 : Int) else some default)).bind fun y6 =>
  some (((((((y0 && y1) && y2) && (!y3)) && y4) && y5) && y6) && (x.Stands != x.Id))

def M.spec_l11Find_l0 (list : List Clerk) (id_ : Int) : (Int) → Option ((Int) ⊕ ((Unit) ⊕ (Int))) := fun st_ => match st_ with
| i =>
  bif (decide (i < (list.length : Int))) then (
    asrt ((0 : Int) ≤ i ∧ i < (list.length : Int)) <|
    bif (((list.getD (Int.toNat i) default).Id) == id_) then (
      some (.inr (.inr i)))
    else (
      some (.inl (IntKind.i64.wrap (i + (1 : Int))))))
  else (
    some (.inr (.inl ())))

def M.spec_l11Find (list : List Clerk) (id_ : Int) : Option Int :=
  (iterO (M.spec_l11Find_l0 list id_) (0 : Int)).bind fun e => match e with
  | .inl () =>
    (some (-1 : Int))
  | .inr r => some r

def M.spec_l11Good_l0 (list : List Clerk) : (Int) → Option ((Int) ⊕ ((Unit) ⊕ (Bool))) := fun st_ => match st_ with
| i =>
  bif ((decide (i < (list.length : Int))) && (decide (i ≤ (8 : Int)))) then (
    asrt ((0 : Int) ≤ i ∧ i < (list.length : Int)) <|
    (M.spec_l11One (list.getD (Int.toNat i) default)).bind fun y1 =>
    asrt ((!y1) = false → (decide (i > (0 : Int))) = true → ((0 : Int) ≤ (IntKind.i64.wrap (i - (1 : Int))) ∧ (IntKind.i64.wrap (i - (1 : Int))) < (list.length : Int))) <|
    bif ((!y1) || ((decide (i > (0 : Int))) && (decide (((list.getD (Int.toNat (IntKind.i64.wrap (i - (1 : Int)))) default).Id) ≥ ((list.getD (Int.toNat i) default).Id))))) then (
      some (.inr (.inr false)))
    else (
      (M.spec_l11Find list ((list.getD (Int.toNat i) default).Stands)).bind fun y2 =>
      asrt ((decide (((list.getD (Int.toNat i) default).Stands) > (0 : Int))) = true → ((decide (y2 < (0 : Int))) || (y2 == i)) = false → ((0 : Int) ≤ y2 ∧ y2 < (list.length : Int))) <|
      bif ((decide (((list.getD (Int.toNat i) default).Stands) > (0 : Int))) && (((decide (y2 < (0 : Int))) || (y2 == i)) || (((list.getD (Int.toNat y2) default).Stands) != (0 : Int)))) then (
        some (.inr (.inr false)))
      else (
        some (.inl (IntKind.i64.wrap (i + (1 : Int)))))))
  else (
    some (.inr (.inl ())))

def M.spec_l11Good (list : List Clerk) : Option Bool :=
  (iterO (M.spec_l11Good_l0 list) (0 : Int)).bind fun e => match e with
  | .inl () =>
    (some (decide ((list.length : Int) ≤ (8 : Int))))
  | .inr r => some r

def M.spec_l1Cur_clerks_l0 : (List Clerk × Int × Int × Cur) → Option ((List Clerk × Int × Int × Cur) ⊕ (List Clerk × Cur)) := fun st_ => match st_ with
| (out_0, id_, n_, c_0) =>
  bif (decide (n_ > (0 : Int))) then (
    (((
      (M.spec_l1Cur_pick c_0 (3 : Int)).bind fun y2 =>
      (M.spec_l1Cur_clerk y2.2 (IntKind.i64.wrap ((IntKind.i64.wrap (id_ + (1 : Int))) + y2.1))).bind fun y3 =>
      (((
        ((bif (decide ((out_0.length : Int) > (0 : Int))) then M.spec_l1Cur_one y3.2 (2 : Int) else some default)).bind fun y4 =>
        bif ((decide ((out_0.length : Int) > (0 : Int))) && y4.1) then (
          (M.spec_l1Cur_pick (bif (decide ((out_0.length : Int) > (0 : Int))) then y4.2 else y3.2) (out_0.length : Int)).bind fun y5 =>
          asrt ((0 : Int) ≤ y5.1 ∧ y5.1 < (out_0.length : Int)) <|
          some (y5.2, (⟨y3.1.Id, y3.1.Name, y3.1.Rights, y3.1.From, y3.1.Until, (out_0.getD (Int.toNat y5.1) default).Id⟩ : Clerk)))
        else (
          some ((bif (decide ((out_0.length : Int) > (0 : Int))) then y4.2 else y3.2), y3.1))) : Option (Cur × Clerk))).bind fun e => match e with
      | (c_2, x) =>
        (asrt ((([] : List Clerk).length : Int) + (out_0.length : Int) ≤ 2147483648) <|
        asrt (((([] : List Clerk) ++ out_0).length : Int) + (([x] : List Clerk).length : Int) ≤ 2147483648) <|
        (((
          some ((([] : List Clerk) ++ out_0) ++ ([x] : List Clerk))) : Option (List Clerk))).bind fun e => match e with
        | next =>
          ((M.spec_l11Good next).bind fun y6 =>
          ((bif y6 then some default else M.spec_l1Cur_one c_2 (40 : Int))).bind fun y7 =>
          bif (y6 || y7.1) then (
            some (next, (IntKind.i64.wrap ((IntKind.i64.wrap (id_ + (1 : Int))) + y2.1)), (bif y6 then c_2 else y7.2)))
          else (
            some (out_0, (IntKind.i64.wrap ((IntKind.i64.wrap (id_ + (1 : Int))) + y2.1)), (bif y6 then c_2 else y7.2)))))) : Option (List Clerk × Int × Cur))).bind fun e => match e with
    | (out_1, id_0, c_1) =>
      (some (.inl (out_1, id_0, (IntKind.i64.wrap (n_ - (1 : Int))), c_1))))
  else (
    some (.inr (out_0, c_0)))

def M.spec_l1Cur_clerks_l1 : (List Clerk × Int × Cur) → Option ((List Clerk × Int × Cur) ⊕ (List Clerk × Cur)) := fun st_ => match st_ with
| (out_3, n_0, c_4) =>
  (M.spec_l1Cur_pick c_4 (2 : Int)).bind fun y10 =>
  bif (decide (n_0 < (IntKind.i64.wrap ((8 : Int) + y10.1)))) then (
    asrt ((out_3.length : Int) + (([(⟨(IntKind.i64.wrap (n_0 + (1 : Int))), [120], (1 : Int), (0 : Int), (5 : Int), (0 : Int)⟩ : Clerk)] : List Clerk).length : Int) ≤ 2147483648) <|
    some (.inl ((out_3 ++ ([(⟨(IntKind.i64.wrap (n_0 + (1 : Int))), [120], (1 : Int), (0 : Int), (5 : Int), (0 : Int)⟩ : Clerk)] : List Clerk)), (IntKind.i64.wrap (n_0 + (1 : Int))), y10.2)))
  else (
    some (.inr (out_3, y10.2)))

def M.spec_l1Cur_clerks (c : Cur) : Option (List Clerk × Cur) :=
  (M.spec_l1Cur_pick c (7 : Int)).bind fun y0 =>
  (iterO (M.spec_l1Cur_clerks_l0) (([] : List Clerk), (0 : Int), y0.1, y0.2)).bind fun e => match e with
  | (out_, c_) =>
    ((M.spec_l1Cur_one c_ (24 : Int)).bind fun y8 =>
    bif y8.1 then (
      (iterO (M.spec_l1Cur_clerks_l1) (([] : List Clerk), (0 : Int), y8.2)).bind fun e => match e with
      | (out_2, c_3) =>
        (some (out_2, c_3)))
    else (
      some (out_, y8.2)))

def M.spec_l1Cur_clerkId (c : Cur) (list : List Clerk) : Option (Int × Cur) :=
  ((bif ((list.length : Int) == (0 : Int)) then some default else M.spec_l1Cur_one c (10 : Int))).bind fun y0 =>
  bif (((list.length : Int) == (0 : Int)) || y0.1) then (
    (M.spec_l1Cur_among (bif ((list.length : Int) == (0 : Int)) then c else y0.2) ([(0 : Int), (1 : Int), (50 : Int)] : List Int)).bind fun y1 =>
    some (y1.1, y1.2))
  else (
    (M.spec_l1Cur_pick (bif ((list.length : Int) == (0 : Int)) then c else y0.2) (list.length : Int)).bind fun y2 =>
    asrt ((0 : Int) ≤ y2.1 ∧ y2.1 < (list.length : Int)) <|
    some ((list.getD (Int.toNat y2.1) default).Id, y2.2))

def M.spec_DrawGiveRight (code : List Int) : Option (List Clerk × Int × Int) :=
  (M.spec_l1Cur_clerks (⟨code, (0 : Int), (0 : Int)⟩ : Cur)).bind fun y0 =>
  (M.spec_l1Cur_clerkId y0.2 y0.1).bind fun y1 =>
  (M.spec_l1Cur_pick y1.2 (24 : Int)).bind fun y2 =>
  asrt ((0 : Int) ≤ (0 : Int) ∧ (0 : Int) ≤ (IntKind.i64.wrap ((4 : Int) + (IntKind.i64.wrap (Int.tdiv y2.1 (11 : Int))))) ∧ (IntKind.i64.wrap ((4 : Int) + (IntKind.i64.wrap (Int.tdiv y2.1 (11 : Int))))) ≤ (([(1 : Int), (2 : Int), (4 : Int), (8 : Int), (3 : Int), (0 : Int)] : List Int).length : Int)) <|
  (M.spec_l1Cur_among y2.2 (slc ([(1 : Int), (2 : Int), (4 : Int), (8 : Int), (3 : Int), (0 : Int)] : List Int) (0 : Int) (IntKind.i64.wrap ((4 : Int) + (IntKind.i64.wrap (Int.tdiv y2.1 (11 : Int))))))).bind fun y3 =>
  some (y0.1, y1.1, y3.1)

def M.spec_DrawTakeRight (code : List Int) : Option (List Clerk × Int × Int) :=
  (M.spec_DrawGiveRight code).bind fun y0 =>
  some (y0.1, y0.2.1, y0.2.2)

def M.impl_clerkAt_1 (x : Clerk) (id_c : Int) : Option Bool :=
  some (x.Id == id_c)

def M.slices_IndexFunc_impl_Clerk_impl_Clerk_l0 (s : List Clerk) (fm : Clerk → Option Bool) : (Int) → Option ((Int) ⊕ ((Unit) ⊕ (Int))) := fun st_ => match st_ with
| v =>
  bif (decide (v < (s.length : Int))) then (
    asrt ((0 : Int) ≤ v ∧ v < (s.length : Int)) <|
    (fm (s.getD (Int.toNat v) default)).bind fun y1 =>
    bif y1 then (
      some (.inr (.inr v)))
    else (
      some (.inl (IntKind.i64.wrap (v + (1 : Int))))))
  else (
    some (.inr (.inl ())))

def M.slices_IndexFunc_impl_Clerk_impl_Clerk (s : List Clerk) (fm : Clerk → Option Bool) : Option Int :=
  (iterO (M.slices_IndexFunc_impl_Clerk_impl_Clerk_l0 s fm) (0 : Int)).bind fun e => match e with
  | .inl () =>
    (some (-1 : Int))
  | .inr r => some r

def M.impl_clerkAt (list : List Clerk) (id_ : Int) : Option Int :=
  (M.slices_IndexFunc_impl_Clerk_impl_Clerk list (fun x0 => M.impl_clerkAt_1 x0 id_)).bind fun y0 =>
  some y0

def M.impl_isRight (right : Int) : Option Bool :=
  some ((((right == (1 : Int)) || (right == (2 : Int))) || (right == (4 : Int))) || (right == (8 : Int)))

def M.impl_TakeRight_1 (x : Clerk) (right : Int) : Option Clerk :=
  some (⟨x.Id, x.Name, (IntKind.i64.wrap (BitVec.ofInt IntKind.i64.bits (x.Rights) &&& ~~~BitVec.ofInt IntKind.i64.bits right).toNat), x.From, x.Until, x.Stands⟩ : Clerk)

def M.impl_within (n : Int) (low : Int) (high : Int) : Option Bool :=
  some ((decide (low ≤ n)) && (decide (n ≤ high)))

def M.impl_isId (id_ : Int) : Option Bool :=
  (M.impl_within id_ (1 : Int) (99 : Int)).bind fun y0 =>
  some y0

def M.strings_Trim (s cutset : List UInt8) : Option (List UInt8) := asrt (s.length ≤ 9223372036854775807 ∧ cutset.length < 4294967281 ∧ cutset.all (fun b => decide (b.toNat < 128)) = true) <| some (Go.Lib.trimS s cutset)

def M.impl_isWord (s : List UInt8) : Option Bool :=
  (M.impl_within (s.length : Int) (1 : Int) (10 : Int)).bind fun y0 =>
  ((bif y0 then M.strings_Trim s ([97, 98, 99, 100, 101, 102, 103, 104, 105, 106, 107, 108, 109, 110, 111, 112, 113, 114, 115, 116, 117, 118, 119, 120, 121, 122]) else some default)).bind fun y1 =>
  some (y0 && (y1 == ([])))

def M.impl_areRights (rights : Int) : Option Bool :=
  (M.impl_within rights (0 : Int) (15 : Int)).bind fun y0 =>
  some (y0 && ((IntKind.i64.wrap (BitVec.ofInt IntKind.i64.bits rights &&& BitVec.ofInt IntKind.i64.bits (10 : Int)).toNat) != (10 : Int)))

def M.impl_isDay (day : Int) : Option Bool :=
  (M.impl_within day (0 : Int) (20000 : Int)).bind fun y0 =>
  some y0

def M.impl_areDays (from_ : Int) (to_ : Int) : Option Bool :=
  (M.impl_isDay from_).bind fun y0 =>
  ((bif y0 then M.impl_isDay to_ else some default)).bind fun y1 =>
  some ((y0 && y1) && (decide (from_ ≤ to_)))

def M.impl_IsClerk (x : Clerk) : Option Bool :=
  (M.impl_isId x.Id).bind fun y0 =>
  ((bif y0 then M.impl_isWord x.Name else some default)).bind fun y1 =>
  ((bif (y0 && y1) then M.impl_areRights x.Rights else some default)).bind fun y2 =>
  ((bif ((y0 && y1) && y2) then M.impl_areDays x.From x.Until else some default)).bind fun y3 =>
  ((bif (((y0 && y1) && y2) && y3) then M.impl_within x.Stands (0 : Int) (99 : Int) else some default)).bind fun y4 =>
  some (((((y0 && y1) && y2) && y3) && y4) && (x.Stands != x.Id))

def M.impl_AreClerks_l0 (list : List Clerk) : (Int) → Option ((Int) ⊕ ((Unit) ⊕ (Bool))) := fun st_ => match st_ with
| v =>
  bif (decide (v < (list.length : Int))) then (
    (((
      asrt ((0 : Int) ≤ v ∧ v < (list.length : Int)) <|
      (M.impl_IsClerk (list.getD (Int.toNat v) default)).bind fun y1 =>
      asrt ((!y1) = false → (decide (v > (0 : Int))) = true → ((0 : Int) ≤ (IntKind.i64.wrap (v - (1 : Int))) ∧ (IntKind.i64.wrap (v - (1 : Int))) < (list.length : Int))) <|
      bif ((!y1) || ((decide (v > (0 : Int))) && (decide (((list.getD (Int.toNat (IntKind.i64.wrap (v - (1 : Int)))) default).Id) ≥ ((list.getD (Int.toNat v) default).Id))))) then (
        some (.inr false))
      else (
        bif (decide (((list.getD (Int.toNat v) default).Stands) > (0 : Int))) then (
          (M.impl_clerkAt list ((list.getD (Int.toNat v) default).Stands)).bind fun y2 =>
          asrt ((decide (y2 < (0 : Int))) = false → ((0 : Int) ≤ y2 ∧ y2 < (list.length : Int))) <|
          bif ((decide (y2 < (0 : Int))) || (((list.getD (Int.toNat y2) default).Stands) != (0 : Int))) then (
            some (.inr false))
          else (
            some (.inl ())))
        else (
          some (.inl ())))) : Option ((Unit) ⊕ (Bool)))).bind fun e => match e with
    | .inl () =>
      (some (.inl (IntKind.i64.wrap (v + (1 : Int)))))
    | .inr r => some (.inr (.inr r)))
  else (
    some (.inr (.inl ())))

def M.impl_AreClerks (list : List Clerk) : Option Bool :=
  (iterO (M.impl_AreClerks_l0 list) (0 : Int)).bind fun e => match e with
  | .inl () =>
    (some (decide ((list.length : Int) ≤ (8 : Int))))
  | .inr r => some r

def M.slices_Clone_impl_Clerk_impl_Clerk (s : List Clerk) : Option (List Clerk) := asrt ((s.length : Int) ≤ 2147483648) <| some s

def M.impl_changed (list : List Clerk) (id_ : Int) (fm : Clerk → Option Clerk) : Option (List Clerk × Bool) :=
  (M.impl_clerkAt list id_).bind fun y0 =>
  (M.impl_AreClerks list).bind fun y1 =>
  bif ((!y1) || (decide (y0 < (0 : Int)))) then (
    some (([] : List Clerk), false))
  else (
    (M.slices_Clone_impl_Clerk_impl_Clerk list).bind fun y2 =>
    asrt ((0 : Int) ≤ y0 ∧ y0 < (y2.length : Int)) <|
    (fm (y2.getD (Int.toNat y0) default)).bind fun y3 =>
    (M.impl_AreClerks (y2.set (Int.toNat y0) y3)).bind fun y4 =>
    bif (!y4) then (
      some (([] : List Clerk), false))
    else (
      some ((y2.set (Int.toNat y0) y3), true)))

def M.impl_TakeRight (list : List Clerk) (id_ : Int) (right : Int) : Option (List Clerk × Bool) :=
  (M.impl_clerkAt list id_).bind fun y0 =>
  (M.impl_isRight right).bind fun y1 =>
  asrt (((!y1) || (decide (y0 < (0 : Int)))) = false → ((0 : Int) ≤ y0 ∧ y0 < (list.length : Int))) <|
  bif (((!y1) || (decide (y0 < (0 : Int)))) || ((IntKind.i64.wrap (BitVec.ofInt IntKind.i64.bits ((list.getD (Int.toNat y0) default).Rights) &&& BitVec.ofInt IntKind.i64.bits right).toNat) == (0 : Int))) then (
    some (([] : List Clerk), false))
  else (
    (M.impl_changed list id_ (fun x0 => M.impl_TakeRight_1 x0 right)).bind fun y2 =>
    some (y2.1, y2.2))

def M.spec_l11Right (right : Int) : Option Bool :=
  some ((((right == (1 : Int)) || (right == (2 : Int))) || (right == (4 : Int))) || (right == (8 : Int)))

def M.spec_l11With (list : List Clerk) (i : Int) (x : Clerk) : Option (List Clerk × Bool) :=
  asrt ((([] : List Clerk).length : Int) + (list.length : Int) ≤ 2147483648) <|
  asrt ((0 : Int) ≤ i ∧ i < ((([] : List Clerk) ++ list).length : Int)) <|
  (M.spec_l11Good ((([] : List Clerk) ++ list).set (Int.toNat i) x)).bind fun y0 =>
  bif (!y0) then (
    some (([] : List Clerk), false))
  else (
    some (((([] : List Clerk) ++ list).set (Int.toNat i) x), true))

def M.spec_TakeRight (list : List Clerk) (id_ : Int) (right : Int) : Option (List Clerk × Bool) :=
  (M.spec_l11Find list id_).bind fun y0 =>
  (M.spec_l11Good list).bind fun y1 =>
  ((bif ((!y1) || (decide (y0 < (0 : Int)))) then some default else M.spec_l11Right right)).bind fun y2 =>
  asrt ((((!y1) || (decide (y0 < (0 : Int)))) || (!y2)) = false → ((0 : Int) ≤ y0 ∧ y0 < (list.length : Int))) <|
  bif ((((!y1) || (decide (y0 < (0 : Int)))) || (!y2)) || ((IntKind.i64.wrap (BitVec.ofInt IntKind.i64.bits ((list.getD (Int.toNat y0) default).Rights) &&& BitVec.ofInt IntKind.i64.bits right).toNat) == (0 : Int))) then (
    some (([] : List Clerk), false))
  else (
    asrt ((0 : Int) ≤ y0 ∧ y0 < (list.length : Int)) <|
    (M.spec_l11With list y0 (⟨(list.getD (Int.toNat y0) default).Id, (list.getD (Int.toNat y0) default).Name, (IntKind.i64.wrap (((list.getD (Int.toNat y0) default).Rights) - right)), (list.getD (Int.toNat y0) default).From, (list.getD (Int.toNat y0) default).Until, (list.getD (Int.toNat y0) default).Stands⟩ : Clerk)).bind fun y3 =>
    some (y3.1, y3.2))

def M.laws_rClerks_l0 (a : List Clerk) (b_ : List Clerk) : (Int) → Option ((Int) ⊕ ((Unit) ⊕ (Bool))) := fun st_ => match st_ with
| i =>
  bif (decide (i < (a.length : Int))) then (
    asrt ((0 : Int) ≤ i ∧ i < (a.length : Int)) <|
    asrt ((0 : Int) ≤ i ∧ i < (b_.length : Int)) <|
    bif (!((((a.getD (Int.toNat i) default).Id) == ((b_.getD (Int.toNat i) default).Id)) && ((((a.getD (Int.toNat i) default).Name) == ((b_.getD (Int.toNat i) default).Name)) && ((((a.getD (Int.toNat i) default).Rights) == ((b_.getD (Int.toNat i) default).Rights)) && ((((a.getD (Int.toNat i) default).From) == ((b_.getD (Int.toNat i) default).From)) && ((((a.getD (Int.toNat i) default).Until) == ((b_.getD (Int.toNat i) default).Until)) && ((((a.getD (Int.toNat i) default).Stands) == ((b_.getD (Int.toNat i) default).Stands)) && true))))))) then (
      some (.inr (.inr false)))
    else (
      some (.inl (IntKind.i64.wrap (i + (1 : Int))))))
  else (
    some (.inr (.inl ())))

def M.laws_rClerks (a : List Clerk) (b_ : List Clerk) : Option Bool :=
  bif ((a.length : Int) != (b_.length : Int)) then (
    some false)
  else (
    (iterO (M.laws_rClerks_l0 a b_) (0 : Int)).bind fun e => match e with
    | .inl () =>
      (some true)
    | .inr r => some r)

def M.impl_GiveRight_1 (x : Clerk) (right : Int) : Option Clerk :=
  some (⟨x.Id, x.Name, (IntKind.i64.wrap (BitVec.ofInt IntKind.i64.bits (x.Rights) ||| BitVec.ofInt IntKind.i64.bits right).toNat), x.From, x.Until, x.Stands⟩ : Clerk)

def M.impl_GiveRight (list : List Clerk) (id_ : Int) (right : Int) : Option (List Clerk × Bool) :=
  (M.impl_isRight right).bind fun y0 =>
  bif (!y0) then (
    some (([] : List Clerk), false))
  else (
    (M.impl_changed list id_ (fun x0 => M.impl_GiveRight_1 x0 right)).bind fun y1 =>
    some (y1.1, y1.2))

def M.spec_GiveRight (list : List Clerk) (id_ : Int) (right : Int) : Option (List Clerk × Bool) :=
  (M.spec_l11Find list id_).bind fun y0 =>
  (M.spec_l11Good list).bind fun y1 =>
  ((bif ((!y1) || (decide (y0 < (0 : Int)))) then some default else M.spec_l11Right right)).bind fun y2 =>
  bif (((!y1) || (decide (y0 < (0 : Int)))) || (!y2)) then (
    some (([] : List Clerk), false))
  else (
    asrt ((0 : Int) ≤ y0 ∧ y0 < (list.length : Int)) <|
    (M.spec_l11With list y0 (⟨(list.getD (Int.toNat y0) default).Id, (list.getD (Int.toNat y0) default).Name, (IntKind.i64.wrap (BitVec.ofInt IntKind.i64.bits ((list.getD (Int.toNat y0) default).Rights) ||| BitVec.ofInt IntKind.i64.bits right).toNat), (list.getD (Int.toNat y0) default).From, (list.getD (Int.toNat y0) default).Until, (list.getD (Int.toNat y0) default).Stands⟩ : Clerk)).bind fun y3 =>
    some (y3.1, y3.2))

def M.spec_l1Cur_day11 (c : Cur) : Option (Int × Cur) :=
  (M.spec_l1Cur_pick c (24 : Int)).bind fun y0 =>
  asrt ((0 : Int) ≤ (0 : Int) ∧ (0 : Int) ≤ (IntKind.i64.wrap ((7 : Int) + (IntKind.i64.wrap (Int.tdiv y0.1 (11 : Int))))) ∧ (IntKind.i64.wrap ((7 : Int) + (IntKind.i64.wrap (Int.tdiv y0.1 (11 : Int))))) ≤ (([(0 : Int), (9 : Int), (10 : Int), (55 : Int), (60 : Int), (61 : Int), (20000 : Int), (-1 : Int), (20001 : Int)] : List Int).length : Int)) <|
  (M.spec_l1Cur_among y0.2 (slc ([(0 : Int), (9 : Int), (10 : Int), (55 : Int), (60 : Int), (61 : Int), (20000 : Int), (-1 : Int), (20001 : Int)] : List Int) (0 : Int) (IntKind.i64.wrap ((7 : Int) + (IntKind.i64.wrap (Int.tdiv y0.1 (11 : Int))))))).bind fun y1 =>
  some (y1.1, y1.2)

def M.spec_l1Cur_rights11 (c : Cur) : Option (Int × Cur) :=
  (M.spec_l1Cur_pick c (24 : Int)).bind fun y0 =>
  asrt ((0 : Int) ≤ (0 : Int) ∧ (0 : Int) ≤ (IntKind.i64.wrap ((7 : Int) + (IntKind.i64.wrap (Int.tdiv y0.1 (11 : Int))))) ∧ (IntKind.i64.wrap ((7 : Int) + (IntKind.i64.wrap (Int.tdiv y0.1 (11 : Int))))) ≤ (([(1 : Int), (2 : Int), (3 : Int), (4 : Int), (8 : Int), (10 : Int), (15 : Int), (0 : Int), (16 : Int)] : List Int).length : Int)) <|
  (M.spec_l1Cur_among y0.2 (slc ([(1 : Int), (2 : Int), (3 : Int), (4 : Int), (8 : Int), (10 : Int), (15 : Int), (0 : Int), (16 : Int)] : List Int) (0 : Int) (IntKind.i64.wrap ((7 : Int) + (IntKind.i64.wrap (Int.tdiv y0.1 (11 : Int))))))).bind fun y1 =>
  some (y1.1, y1.2)

def M.spec_DrawDaysWithout (code : List Int) : Option (List Clerk × Int × Int × Int) :=
  (M.spec_l1Cur_clerks (⟨code, (0 : Int), (0 : Int)⟩ : Cur)).bind fun y0 =>
  (M.spec_l1Cur_day11 y0.2).bind fun y1 =>
  (M.spec_l1Cur_rights11 y1.2).bind fun y2 =>
  (M.spec_l1Cur_pick y2.2 (24 : Int)).bind fun y3 =>
  asrt ((0 : Int) ≤ (0 : Int) ∧ (0 : Int) ≤ (IntKind.i64.wrap ((4 : Int) + (IntKind.i64.wrap (Int.tdiv y3.1 (11 : Int))))) ∧ (IntKind.i64.wrap ((4 : Int) + (IntKind.i64.wrap (Int.tdiv y3.1 (11 : Int))))) ≤ (([(0 : Int), (5 : Int), (60 : Int), (200 : Int), (-1 : Int), (201 : Int)] : List Int).length : Int)) <|
  (M.spec_l1Cur_among y3.2 (slc ([(0 : Int), (5 : Int), (60 : Int), (200 : Int), (-1 : Int), (201 : Int)] : List Int) (0 : Int) (IntKind.i64.wrap ((4 : Int) + (IntKind.i64.wrap (Int.tdiv y3.1 (11 : Int))))))).bind fun y4 =>
  some (y0.1, y2.1, y1.1, (IntKind.i64.wrap (y1.1 + y4.1)))

def M.impl_isNeed (rights : Int) : Option Bool :=
  (M.impl_within rights (1 : Int) (15 : Int)).bind fun y0 =>
  some y0

def M.impl_rightsOn (list : List Clerk) (x : Clerk) (day : Int) : Option Int :=
  (M.impl_within day x.From x.Until).bind fun y0 =>
  bif (!y0) then (
    some (0 : Int))
  else (
    bif (decide (x.Stands > (0 : Int))) then (
      (M.impl_clerkAt list x.Stands).bind fun y1 =>
      asrt ((0 : Int) ≤ y1 ∧ y1 < (list.length : Int)) <|
      (M.impl_within day ((list.getD (Int.toNat y1) default).From) ((list.getD (Int.toNat y1) default).Until)).bind fun y2 =>
      ((bif (!y2) then M.impl_areRights (IntKind.i64.wrap (BitVec.ofInt IntKind.i64.bits x.Rights ||| BitVec.ofInt IntKind.i64.bits ((list.getD (Int.toNat y1) default).Rights)).toNat) else some default)).bind fun y3 =>
      bif ((!y2) && y3) then (
        some (IntKind.i64.wrap (BitVec.ofInt IntKind.i64.bits x.Rights ||| BitVec.ofInt IntKind.i64.bits ((list.getD (Int.toNat y1) default).Rights)).toNat))
      else (
        some x.Rights))
    else (
      some x.Rights))

def M.impl_whoMay_l0 (list : List Clerk) (rights : Int) (day : Int) : (List Int × Int) → Option ((List Int × Int) ⊕ (List Int)) := fun st_ => match st_ with
| (ids0, v) =>
  bif (decide (v < (list.length : Int))) then (
    (((
      asrt ((0 : Int) ≤ v ∧ v < (list.length : Int)) <|
      (M.impl_rightsOn list (list.getD (Int.toNat v) default) day).bind fun y1 =>
      bif ((IntKind.i64.wrap (BitVec.ofInt IntKind.i64.bits y1 &&& BitVec.ofInt IntKind.i64.bits rights).toNat) == rights) then (
        asrt ((ids0.length : Int) + (([(list.getD (Int.toNat v) default).Id] : List Int).length : Int) ≤ 2147483648) <|
        some (ids0 ++ ([(list.getD (Int.toNat v) default).Id] : List Int)))
      else (
        some ids0)) : Option (List Int))).bind fun e => match e with
    | ids1 =>
      (some (.inl (ids1, (IntKind.i64.wrap (v + (1 : Int)))))))
  else (
    some (.inr ids0))

def M.impl_whoMay (list : List Clerk) (rights : Int) (day : Int) : Option (List Int) :=
  (iterO (M.impl_whoMay_l0 list rights day) (([] : List Int), (0 : Int))).bind fun e => match e with
  | ids =>
    (some ids)

def M.impl_DaysWithout_l0 (list : List Clerk) (rights : Int) (to_ : Int) : (List Int × Int) → Option ((List Int × Int) ⊕ (List Int)) := fun st_ => match st_ with
| (days0, day) =>
  bif (decide (day ≤ to_)) then (
    (((
      (M.impl_whoMay list rights day).bind fun y4 =>
      bif ((y4.length : Int) == (0 : Int)) then (
        asrt ((days0.length : Int) + (([day] : List Int).length : Int) ≤ 2147483648) <|
        some (days0 ++ ([day] : List Int)))
      else (
        some days0)) : Option (List Int))).bind fun e => match e with
    | days1 =>
      (some (.inl (days1, (IntKind.i64.wrap (day + (1 : Int)))))))
  else (
    some (.inr days0))

def M.impl_DaysWithout (list : List Clerk) (rights : Int) (from_ : Int) (to_ : Int) : Option (List Int × Bool) :=
  (M.impl_AreClerks list).bind fun y0 =>
  ((bif (!y0) then some default else M.impl_isNeed rights)).bind fun y1 =>
  ((bif ((!y0) || (!y1)) then some default else M.impl_areDays from_ to_)).bind fun y2 =>
  bif ((((!y0) || (!y1)) || (!y2)) || (decide ((IntKind.i64.wrap (to_ - from_)) > (200 : Int)))) then (
    some (([] : List Int), false))
  else (
    (iterO (M.impl_DaysWithout_l0 list rights to_) (([] : List Int), from_)).bind fun e => match e with
    | days =>
      (some (days, true)))

def M.spec_l11Sum (rights : Int) : Option Bool :=
  (M.spec_l1In rights (1 : Int) (15 : Int)).bind fun y0 =>
  some y0

def M.spec_l11On (x : Clerk) (day : Int) : Option Bool :=
  (M.spec_l1In day x.From x.Until).bind fun y0 =>
  some y0

def M.spec_l11Rights (list : List Clerk) (i : Int) (day : Int) : Option Int :=
  asrt ((0 : Int) ≤ i ∧ i < (list.length : Int)) <|
  (M.spec_l11On (list.getD (Int.toNat i) default) day).bind fun y0 =>
  bif (!y0) then (
    some (0 : Int))
  else (
    bif (decide (((list.getD (Int.toNat i) default).Stands) > (0 : Int))) then (
      (M.spec_l11Find list ((list.getD (Int.toNat i) default).Stands)).bind fun y1 =>
      asrt ((0 : Int) ≤ y1 ∧ y1 < (list.length : Int)) <|
      (M.spec_l11On (list.getD (Int.toNat y1) default) day).bind fun y2 =>
      ((bif (!y2) then M.spec_l11Both (IntKind.i64.wrap (BitVec.ofInt IntKind.i64.bits ((list.getD (Int.toNat i) default).Rights) ||| BitVec.ofInt IntKind.i64.bits ((list.getD (Int.toNat y1) default).Rights)).toNat) else some default)).bind fun y3 =>
      bif ((!y2) && (!y3)) then (
        some (IntKind.i64.wrap (BitVec.ofInt IntKind.i64.bits ((list.getD (Int.toNat i) default).Rights) ||| BitVec.ofInt IntKind.i64.bits ((list.getD (Int.toNat y1) default).Rights)).toNat))
      else (
        some ((list.getD (Int.toNat i) default).Rights)))
    else (
      some ((list.getD (Int.toNat i) default).Rights)))

def M.spec_l11Who_l0 (list : List Clerk) (rights : Int) (day : Int) : (List Int × Int) → Option ((List Int × Int) ⊕ (List Int)) := fun st_ => match st_ with
| (out_0, i) =>
  bif (decide (i < (list.length : Int))) then (
    (((
      (M.spec_l11Rights list i day).bind fun y1 =>
      bif ((IntKind.i64.wrap (BitVec.ofInt IntKind.i64.bits y1 &&& BitVec.ofInt IntKind.i64.bits rights).toNat) == rights) then (
        asrt ((0 : Int) ≤ i ∧ i < (list.length : Int)) <|
        asrt ((out_0.length : Int) + (([(list.getD (Int.toNat i) default).Id] : List Int).length : Int) ≤ 2147483648) <|
        some (out_0 ++ ([(list.getD (Int.toNat i) default).Id] : List Int)))
      else (
        some out_0)) : Option (List Int))).bind fun e => match e with
    | out_1 =>
      (some (.inl (out_1, (IntKind.i64.wrap (i + (1 : Int)))))))
  else (
    some (.inr out_0))

def M.spec_l11Who (list : List Clerk) (rights : Int) (day : Int) : Option (List Int) :=
  (iterO (M.spec_l11Who_l0 list rights day) (([] : List Int), (0 : Int))).bind fun e => match e with
  | out_ =>
    (some out_)

def M.spec_DaysWithout_l0 (list : List Clerk) (rights : Int) (to_ : Int) : (List Int × Int) → Option ((List Int × Int) ⊕ (List Int)) := fun st_ => match st_ with
| (out_0, day) =>
  bif (decide (day ≤ to_)) then (
    (((
      (M.spec_l11Who list rights day).bind fun y5 =>
      bif ((y5.length : Int) == (0 : Int)) then (
        asrt ((out_0.length : Int) + (([day] : List Int).length : Int) ≤ 2147483648) <|
        some (out_0 ++ ([day] : List Int)))
      else (
        some out_0)) : Option (List Int))).bind fun e => match e with
    | out_1 =>
      (some (.inl (out_1, (IntKind.i64.wrap (day + (1 : Int)))))))
  else (
    some (.inr out_0))

def M.spec_DaysWithout (list : List Clerk) (rights : Int) (from_ : Int) (to_ : Int) : Option (List Int × Bool) :=
  (M.spec_l11Good list).bind fun y0 =>
  ((bif (!y0) then some default else M.spec_l11Sum rights)).bind fun y1 =>
  ((bif ((!y0) || (!y1)) then some default else M.spec_l2Day to_)).bind fun y2 =>
  ((bif (((!y0) || (!y1)) || (!y2)) then some default else M.spec_l1In from_ (0 : Int) to_)).bind fun y3 =>
  bif (((((!y0) || (!y1)) || (!y2)) || (!y3)) || (decide ((IntKind.i64.wrap (to_ - from_)) > (200 : Int)))) then (
    some (([] : List Int), false))
  else (
    (iterO (M.spec_DaysWithout_l0 list rights to_) (([] : List Int), from_)).bind fun e => match e with
    | out_ =>
      (some (out_, true)))

def M.laws_rInts_l0 (a : List Int) (b_ : List Int) : (Int) → Option ((Int) ⊕ ((Unit) ⊕ (Bool))) := fun st_ => match st_ with
| i =>
  bif (decide (i < (a.length : Int))) then (
    asrt ((0 : Int) ≤ i ∧ i < (a.length : Int)) <|
    asrt ((0 : Int) ≤ i ∧ i < (b_.length : Int)) <|
    bif ((a.getD (Int.toNat i) default) != (b_.getD (Int.toNat i) default)) then (
      some (.inr (.inr false)))
    else (
      some (.inl (IntKind.i64.wrap (i + (1 : Int))))))
  else (
    some (.inr (.inl ())))

def M.laws_rInts (a : List Int) (b_ : List Int) : Option Bool :=
  bif ((a.length : Int) != (b_.length : Int)) then (
    some false)
  else (
    (iterO (M.laws_rInts_l0 a b_) (0 : Int)).bind fun e => match e with
    | .inl () =>
      (some true)
    | .inr r => some r)

def M.impl_WhoMay (list : List Clerk) (rights : Int) (day : Int) : Option (List Int × Bool) :=
  (M.impl_AreClerks list).bind fun y0 =>
  ((bif (!y0) then some default else M.impl_isNeed rights)).bind fun y1 =>
  ((bif ((!y0) || (!y1)) then some default else M.impl_isDay day)).bind fun y2 =>
  bif (((!y0) || (!y1)) || (!y2)) then (
    some (([] : List Int), false))
  else (
    (M.impl_whoMay list rights day).bind fun y3 =>
    some (y3, true))

def M.laws_rHas_l0 (list : List Int) (x : Int) : (Int) → Option ((Int) ⊕ ((Unit) ⊕ (Bool))) := fun st_ => match st_ with
| i =>
  bif (decide (i < (list.length : Int))) then (
    asrt ((0 : Int) ≤ i ∧ i < (list.length : Int)) <|
    bif ((list.getD (Int.toNat i) default) == x) then (
      some (.inr (.inr true)))
    else (
      some (.inl (IntKind.i64.wrap (i + (1 : Int))))))
  else (
    some (.inr (.inl ())))

def M.laws_rHas (list : List Int) (x : Int) : Option Bool :=
  (iterO (M.laws_rHas_l0 list x) (0 : Int)).bind fun e => match e with
  | .inl () =>
    (some false)
  | .inr r => some r

def M.spec_DrawStandFor (code : List Int) : Option (List Clerk × Int × Int) :=
  (M.spec_l1Cur_clerks (⟨code, (0 : Int), (0 : Int)⟩ : Cur)).bind fun y0 =>
  (M.spec_l1Cur_clerkId y0.2 y0.1).bind fun y1 =>
  (M.spec_l1Cur_one y1.2 (4 : Int)).bind fun y2 =>
  bif y2.1 then (
    some (y0.1, y1.1, (0 : Int)))
  else (
    (M.spec_l1Cur_clerkId y2.2 y0.1).bind fun y3 =>
    some (y0.1, y1.1, y3.1))

def M.impl_StandFor_1 (x : Clerk) (other : Int) : Option Clerk :=
  some (⟨x.Id, x.Name, x.Rights, x.From, x.Until, other⟩ : Clerk)

def M.impl_StandFor (list : List Clerk) (id_ : Int) (other : Int) : Option (List Clerk × Bool) :=
  (M.impl_changed list id_ (fun x0 => M.impl_StandFor_1 x0 other)).bind fun y0 =>
  some (y0.1, y0.2)

def M.spec_StandFor (list : List Clerk) (id_ : Int) (other : Int) : Option (List Clerk × Bool) :=
  (M.spec_l11Find list id_).bind fun y0 =>
  (M.spec_l11Good list).bind fun y1 =>
  bif ((!y1) || (decide (y0 < (0 : Int)))) then (
    some (([] : List Clerk), false))
  else (
    asrt ((0 : Int) ≤ y0 ∧ y0 < (list.length : Int)) <|
    (M.spec_l11With list y0 (⟨(list.getD (Int.toNat y0) default).Id, (list.getD (Int.toNat y0) default).Name, (list.getD (Int.toNat y0) default).Rights, (list.getD (Int.toNat y0) default).From, (list.getD (Int.toNat y0) default).Until, other⟩ : Clerk)).bind fun y2 =>
    some (y2.1, y2.2))

def M.impl_RightsOn (list : List Clerk) (id_ : Int) (day : Int) : Option (Int × Bool) :=
  (M.impl_clerkAt list id_).bind fun y0 =>
  (M.impl_AreClerks list).bind fun y1 =>
  ((bif ((!y1) || (decide (y0 < (0 : Int)))) then some default else M.impl_isDay day)).bind fun y2 =>
  bif (((!y1) || (decide (y0 < (0 : Int)))) || (!y2)) then (
    some ((0 : Int), false))
  else (
    asrt ((0 : Int) ≤ y0 ∧ y0 < (list.length : Int)) <|
    (M.impl_rightsOn list (list.getD (Int.toNat y0) default) day).bind fun y3 =>
    some (y3, true))

def M.spec_DrawIsClerk (code : List Int) : Option Clerk :=
  (M.spec_l1Cur_among (⟨code, (0 : Int), (0 : Int)⟩ : Cur) ([(1 : Int), (42 : Int), (99 : Int)] : List Int)).bind fun y0 =>
  (M.spec_l1Cur_clerk y0.2 y0.1).bind fun y1 =>
  some y1.1

def M.spec_IsClerk (x : Clerk) : Option Bool :=
  (M.spec_l11One x).bind fun y0 =>
  some y0

def M.laws_FnRights_l0 (y17 : List Clerk × Int × Int) (y18 : List Clerk × Bool) : (Int) → Option ((Int) ⊕ ((Unit) ⊕ (Bool))) := fun st_ => match st_ with
| i =>
  bif (((decide (i < (y17.1.length : Int))) && y18.2) && (y17.2.2 == (0 : Int))) then (
    (((
      asrt ((0 : Int) ≤ i ∧ i < (y17.1.length : Int)) <|
      bif (((y17.1.getD (Int.toNat i) default).Id) == y17.2.1) then (
        asrt ((0 : Int) ≤ i ∧ i < (y17.1.length : Int)) <|
        (M.impl_RightsOn y18.1 y17.2.1 ((y17.1.getD (Int.toNat i) default).From)).bind fun y22 =>
        asrt ((!y22.2) = false → ((0 : Int) ≤ i ∧ i < (y17.1.length : Int))) <|
        bif ((!y22.2) || (y22.1 != ((y17.1.getD (Int.toNat i) default).Rights))) then (
          some (.inr false))
        else (
          some (.inl ())))
      else (
        some (.inl ()))) : Option ((Unit) ⊕ (Bool)))).bind fun e => match e with
    | .inl () =>
      (some (.inl (IntKind.i64.wrap (i + (1 : Int)))))
    | .inr r => some (.inr (.inr r)))
  else (
    some (.inr (.inl ())))

def M.laws_FnRights (code : List Int) : Option Bool :=
  (M.laws_rBig code).bind fun y0 =>
  bif y0 then (
    some true)
  else (
    (M.spec_DrawTakeRight code).bind fun y1 =>
    (M.impl_TakeRight y1.1 y1.2.1 y1.2.2).bind fun y2 =>
    (M.spec_TakeRight y1.1 y1.2.1 y1.2.2).bind fun y3 =>
    ((bif (!(y2.2 == y3.2)) then some default else M.laws_rClerks y2.1 y3.1)).bind fun y4 =>
    bif ((!(y2.2 == y3.2)) || (!y4)) then (
      some false)
    else (
      (((
        bif y2.2 then (
          (M.impl_GiveRight y2.1 y1.2.1 y1.2.2).bind fun y5 =>
          ((bif (!y5.2) then some default else M.laws_rClerks y5.1 y1.1)).bind fun y6 =>
          bif ((!y5.2) || (!y6)) then (
            some (.inr false))
          else (
            some (.inl ())))
        else (
          some (.inl ()))) : Option ((Unit) ⊕ (Bool)))).bind fun e => match e with
      | .inl () =>
        ((M.impl_GiveRight y1.1 y1.2.1 y1.2.2).bind fun y7 =>
        (M.spec_GiveRight y1.1 y1.2.1 y1.2.2).bind fun y8 =>
        ((bif (!(y7.2 == y8.2)) then some default else M.laws_rClerks y7.1 y8.1)).bind fun y9 =>
        ((bif ((!(y7.2 == y8.2)) || (!y9)) then some default else (bif y7.2 then M.impl_AreClerks y7.1 else some default))).bind fun y10 =>
        bif (((!(y7.2 == y8.2)) || (!y9)) || (y7.2 && (!y10))) then (
          some false)
        else (
          (M.spec_DrawDaysWithout code).bind fun y11 =>
          (M.impl_DaysWithout y11.1 y11.2.1 y11.2.2.1 y11.2.2.2).bind fun y12 =>
          (M.spec_DaysWithout y11.1 y11.2.1 y11.2.2.1 y11.2.2.2).bind fun y13 =>
          ((bif (!(y12.2 == y13.2)) then some default else M.laws_rInts y12.1 y13.1)).bind fun y14 =>
          bif ((!(y12.2 == y13.2)) || (!y14)) then (
            some false)
          else (
            (((
              bif y12.2 then (
                (M.impl_WhoMay y11.1 y11.2.1 y11.2.2.1).bind fun y15 =>
                ((bif (!y15.2) then some default else M.laws_rHas y12.1 y11.2.2.1)).bind fun y16 =>
                bif ((!y15.2) || (!(y16 == ((y15.1.length : Int) == (0 : Int))))) then (
                  some (.inr false))
                else (
                  some (.inl ())))
              else (
                some (.inl ()))) : Option ((Unit) ⊕ (Bool)))).bind fun e => match e with
            | .inl () =>
              ((M.spec_DrawStandFor code).bind fun y17 =>
              (M.impl_StandFor y17.1 y17.2.1 y17.2.2).bind fun y18 =>
              (M.spec_StandFor y17.1 y17.2.1 y17.2.2).bind fun y19 =>
              ((bif (!(y18.2 == y19.2)) then some default else M.laws_rClerks y18.1 y19.1)).bind fun y20 =>
              bif ((!(y18.2 == y19.2)) || (!y20)) then (
                some false)
              else (
                (iterO (M.laws_FnRights_l0 y17 y18) (0 : Int)).bind fun e => match e with
                | .inl () =>
                  ((M.spec_DrawIsClerk code).bind fun y23 =>
                  (M.impl_IsClerk y23).bind fun y24 =>
                  (M.spec_IsClerk y23).bind fun y25 =>
                  some (y24 == y25))
                | .inr r => some r))
            | .inr r => some r)))
      | .inr r => some r))
end Go.Proofs.YthffmnpbonkpaaaDoor
