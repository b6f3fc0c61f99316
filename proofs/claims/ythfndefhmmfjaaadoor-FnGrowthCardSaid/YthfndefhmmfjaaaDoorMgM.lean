/- models of the functions -/
import Derived.Test.YthfndefhmmfjaaaDoorWj
set_option linter.unusedSimpArgs false
set_option linter.unusedVariables false
set_option maxRecDepth 100000
namespace Go.Proofs.YthfndefhmmfjaaaDoor
open Go.VS

structure Cur where
  Code : List Int
  At : Int
  Seed : Int
  deriving Inhabited, DecidableEq

abbrev encCur (ρ : Nat) (c : Cur) : PV := .agg [.vl ρ 1 (List.map encU8 c.Code), .int .i64 c.At, .int .u64 c.Seed]

structure Function where
  Id : Int
  Parent : Int
  Name : List UInt8
  deriving Inhabited, DecidableEq

abbrev encFunction (c : Function) : PV := .agg [.int .i64 c.Id, .int .i64 c.Parent, .str c.Name]

def M.laws_rBig (code : List Int) : Option Bool :=
  some (decide ((code.length : Int) > (65536 : Int)))

def M.spec_l1Cur_next (c : Cur) : Option (Int × Cur) :=
  (((
    bif (decide (c.At < (c.Code.length : Int))) then (
      asrt ((0 : Int) ≤ c.At ∧ c.At < (c.Code.length : Int)) <|
      some (IntKind.i64.wrap (c.Code.getD (Int.toNat c.At) default)))
    else (
      some (0 : Int))) : Option Int)).bind fun e => match e with
  | b_ =>
    (bif (decide ((IntKind.i64.wrap (c.At + (1 : Int))) ≤ (c.Code.length : Int))) then (
      some (b_, (⟨c.Code, (IntKind.i64.wrap (c.At + (1 : Int))), (IntKind.u64.wrap ((IntKind.u64.wrap ((IntKind.u64.wrap (c.Seed * (6364136223846793005 : Int))) + (IntKind.u64.wrap b_))) + (103535 : Int)))⟩ : Cur)))
    else (
      some ((IntKind.i64.wrap (IntKind.u64.wrap (BitVec.ofInt IntKind.u64.bits (Int.fdiv (IntKind.u64.wrap ((IntKind.u64.wrap ((IntKind.u64.wrap (c.Seed * (6364136223846793005 : Int))) + (IntKind.u64.wrap b_))) + (103535 : Int))) (2 ^ (min (Int.toNat (40 : Int)) IntKind.u64.bits))) &&& BitVec.ofInt IntKind.u64.bits (255 : Int)).toNat)), (⟨c.Code, (IntKind.i64.wrap (c.At + (1 : Int))), (IntKind.u64.wrap ((IntKind.u64.wrap ((IntKind.u64.wrap (c.Seed * (6364136223846793005 : Int))) + (IntKind.u64.wrap b_))) + (103535 : Int)))⟩ : Cur))))

def M.spec_l1Cur_pick (c : Cur) (n : Int) : Option (Int × Cur) :=
  bif (decide (n ≤ (1 : Int))) then (
    some ((0 : Int), c))
  else (
    (M.spec_l1Cur_next c).bind fun y0 =>
    (((
      bif (decide (n > (200 : Int))) then (
        (M.spec_l1Cur_next y0.2).bind fun y1 =>
        some ((IntKind.i64.wrap ((IntKind.i64.wrap (y0.1 * (256 : Int))) + y1.1)), y1.2))
      else (
        some (y0.1, y0.2))) : Option (Int × Cur))).bind fun e => match e with
    | (x, c_) =>
      (asrt (n ≠ 0) <|
      some ((Int.tmod x n), c_)))

def M.spec_l1Cur_of (c : Cur) (list : List (List UInt8)) : Option (List UInt8 × Cur) :=
  (M.spec_l1Cur_pick c (list.length : Int)).bind fun y0 =>
  asrt ((0 : Int) ≤ y0.1 ∧ y0.1 < (list.length : Int)) <|
  some ((list.getD (Int.toNat y0.1) default), y0.2)

def M.spec_l1Cur_one (c : Cur) (n : Int) : Option (Bool × Cur) :=
  (M.spec_l1Cur_pick c n).bind fun y0 =>
  some ((y0.1 == (0 : Int)), y0.2)

def M.spec_l1Cur_among (c : Cur) (list : List Int) : Option (Int × Cur) :=
  (M.spec_l1Cur_pick c (list.length : Int)).bind fun y0 =>
  asrt ((0 : Int) ≤ y0.1 ∧ y0.1 < (list.length : Int)) <|
  some ((list.getD (Int.toNat y0.1) default), y0.2)

def M.spec_l1In (x : Int) (a : Int) (b_ : Int) : Option Bool :=
  some ((decide (x ≥ a)) && (decide (x ≤ b_)))

def M.spec_l2Word_l0 (s : List UInt8) : (Int) → Option ((Int) ⊕ ((Unit) ⊕ (Bool))) := fun st_ => match st_ with
| i =>
  bif (decide (i < (s.length : Int))) then (
    asrt ((0 : Int) ≤ i ∧ i < (s.length : Int)) <|
    asrt ((decide (((s.getD (Int.toNat i) 0).toNat : Int) < (97 : Int))) = false → ((0 : Int) ≤ i ∧ i < (s.length : Int))) <|
    bif ((decide (((s.getD (Int.toNat i) 0).toNat : Int) < (97 : Int))) || (decide (((s.getD (Int.toNat i) 0).toNat : Int) > (122 : Int)))) then (
      some (.inr (.inr false)))
    else (
      some (.inl (IntKind.i64.wrap (i + (1 : Int))))))
  else (
    some (.inr (.inl ())))

def M.spec_l2Word (s : List UInt8) : Option Bool :=
  (iterO (M.spec_l2Word_l0 s) (0 : Int)).bind fun e => match e with
  | .inl () =>
    ((M.spec_l1In (s.length : Int) (1 : Int) (10 : Int)).bind fun y1 =>
    some y1)
  | .inr r => some r

def M.spec_l3One (f : Function) : Option Bool :=
  (M.spec_l1In f.Id (1 : Int) (99 : Int)).bind fun y0 =>
  ((bif y0 then M.spec_l1In f.Parent (0 : Int) (IntKind.i64.wrap (f.Id - (1 : Int))) else some default)).bind fun y1 =>
  ((bif (y0 && y1) then M.spec_l2Word f.Name else some default)).bind fun y2 =>
  some ((y0 && y1) && y2)

def M.spec_l3Find_l0 (tree : List Function) (id_ : Int) : (Int) → Option ((Int) ⊕ ((Unit) ⊕ (Int))) := fun st_ => match st_ with
| i =>
  bif (decide (i < (tree.length : Int))) then (
    asrt ((0 : Int) ≤ i ∧ i < (tree.length : Int)) <|
    bif (((tree.getD (Int.toNat i) default).Id) == id_) then (
      some (.inr (.inr i)))
    else (
      some (.inl (IntKind.i64.wrap (i + (1 : Int))))))
  else (
    some (.inr (.inl ())))

def M.spec_l3Find (tree : List Function) (id_ : Int) : Option Int :=
  (iterO (M.spec_l3Find_l0 tree id_) (0 : Int)).bind fun e => match e with
  | .inl () =>
    (some (-1 : Int))
  | .inr r => some r

def M.spec_l3Good_l1 (tree : List Function) (i : Int) : (Int) → Option ((Int) ⊕ ((Unit) ⊕ (Bool))) := fun st_ => match st_ with
| k =>
  bif (decide (k < i)) then (
    asrt ((0 : Int) ≤ k ∧ k < (tree.length : Int)) <|
    asrt ((((tree.getD (Int.toNat k) default).Parent) == ((tree.getD (Int.toNat i) default).Parent)) = true → ((0 : Int) ≤ k ∧ k < (tree.length : Int))) <|
    bif ((((tree.getD (Int.toNat k) default).Parent) == ((tree.getD (Int.toNat i) default).Parent)) && (((tree.getD (Int.toNat k) default).Name) == ((tree.getD (Int.toNat i) default).Name))) then (
      some (.inr (.inr false)))
    else (
      some (.inl (IntKind.i64.wrap (k + (1 : Int))))))
  else (
    some (.inr (.inl ())))

def M.spec_l3Good_l0 (tree : List Function) : (Int) → Option ((Int) ⊕ ((Unit) ⊕ (Bool))) := fun st_ => match st_ with
| i =>
  bif ((decide (i < (tree.length : Int))) && (decide (i ≤ (15 : Int)))) then (
    asrt ((0 : Int) ≤ i ∧ i < (tree.length : Int)) <|
    (M.spec_l3One (tree.getD (Int.toNat i) default)).bind fun y1 =>
    asrt ((!y1) = false → (decide (i > (0 : Int))) = true → ((0 : Int) ≤ (IntKind.i64.wrap (i - (1 : Int))) ∧ (IntKind.i64.wrap (i - (1 : Int))) < (tree.length : Int))) <|
    asrt (((!y1) || ((decide (i > (0 : Int))) && (decide (((tree.getD (Int.toNat (IntKind.i64.wrap (i - (1 : Int)))) default).Id) ≥ ((tree.getD (Int.toNat i) default).Id))))) = false → (decide (((tree.getD (Int.toNat i) default).Parent) > (0 : Int))) = true → ((0 : Int) ≤ (0 : Int) ∧ (0 : Int) ≤ i ∧ i ≤ (tree.length : Int))) <|
    ((bif ((!y1) || ((decide (i > (0 : Int))) && (decide (((tree.getD (Int.toNat (IntKind.i64.wrap (i - (1 : Int)))) default).Id) ≥ ((tree.getD (Int.toNat i) default).Id))))) then some default else (bif (decide (((tree.getD (Int.toNat i) default).Parent) > (0 : Int))) then M.spec_l3Find (slc tree (0 : Int) i) ((tree.getD (Int.toNat i) default).Parent) else some default))).bind fun y2 =>
    bif (((!y1) || ((decide (i > (0 : Int))) && (decide (((tree.getD (Int.toNat (IntKind.i64.wrap (i - (1 : Int)))) default).Id) ≥ ((tree.getD (Int.toNat i) default).Id))))) || ((decide (((tree.getD (Int.toNat i) default).Parent) > (0 : Int))) && (decide (y2 < (0 : Int))))) then (
      some (.inr (.inr false)))
    else (
      (iterO (M.spec_l3Good_l1 tree i) (0 : Int)).bind fun e => match e with
      | .inl () =>
        (some (.inl (IntKind.i64.wrap (i + (1 : Int)))))
      | .inr r => some (.inr (.inr r))))
  else (
    some (.inr (.inl ())))

def M.spec_l3Good (tree : List Function) : Option Bool :=
  (iterO (M.spec_l3Good_l0 tree) (0 : Int)).bind fun e => match e with
  | .inl () =>
    (some (decide ((tree.length : Int) ≤ (15 : Int))))
  | .inr r => some r

def M.spec_l1Cur_tree3_l0 : (List Function × Int × Int × Cur) → Option ((List Function × Int × Int × Cur) ⊕ (List Function × Cur)) := fun st_ => match st_ with
| (out_0, id_, n_, c_0) =>
  bif (decide (n_ > (0 : Int))) then (
    (((
      (M.spec_l1Cur_pick c_0 (2 : Int)).bind fun y2 =>
      (M.spec_l1Cur_of y2.2 ([[108, 97, 119], [116, 97, 120], [115, 116, 97, 102, 102], [114, 111, 97, 100, 115], [104, 101, 97, 108, 116, 104]] : List (List UInt8))).bind fun y3 =>
      (((
        ((bif (decide ((out_0.length : Int) > (0 : Int))) then M.spec_l1Cur_one y3.2 (4 : Int) else some default)).bind fun y4 =>
        bif ((decide ((out_0.length : Int) > (0 : Int))) && (!y4.1)) then (
          (M.spec_l1Cur_pick (bif (decide ((out_0.length : Int) > (0 : Int))) then y4.2 else y3.2) (out_0.length : Int)).bind fun y5 =>
          asrt ((0 : Int) ≤ y5.1 ∧ y5.1 < (out_0.length : Int)) <|
          some (y5.2, (⟨(IntKind.i64.wrap ((IntKind.i64.wrap (id_ + (1 : Int))) + y2.1)), (out_0.getD (Int.toNat y5.1) default).Id, y3.1⟩ : Function)))
        else (
          some ((bif (decide ((out_0.length : Int) > (0 : Int))) then y4.2 else y3.2), (⟨(IntKind.i64.wrap ((IntKind.i64.wrap (id_ + (1 : Int))) + y2.1)), (0 : Int), y3.1⟩ : Function)))) : Option (Cur × Function))).bind fun e => match e with
      | (c_2, f_) =>
        ((((
          (M.spec_l1Cur_pick c_2 (90 : Int)).bind fun y6 =>
          (((
            bif (y6.1 == (0 : Int)) then (
              (M.spec_l1Cur_among y6.2 ([(0 : Int), (99 : Int), (100 : Int)] : List Int)).bind fun y7 =>
              some (y7.2, (⟨y7.1, f_.Parent, f_.Name⟩ : Function)))
            else (
              bif (y6.1 == (1 : Int)) then (
                (M.spec_l1Cur_among y6.2 ([(-1 : Int), f_.Id, (90 : Int)] : List Int)).bind fun y8 =>
                some (y8.2, (⟨f_.Id, y8.1, f_.Name⟩ : Function)))
              else (
                bif (y6.1 == (2 : Int)) then (
                  (M.spec_l1Cur_of y6.2 ([[], [65], [97, 98, 99, 100, 101, 102, 103, 104, 105, 106, 107]] : List (List UInt8))).bind fun y9 =>
                  some (y9.2, (⟨f_.Id, f_.Parent, y9.1⟩ : Function)))
                else (
                  some (y6.2, f_))))) : Option (Cur × Function))).bind fun e => match e with
          | (c_4, f_1) =>
            (some (c_4, f_1))) : Option (Cur × Function))).bind fun e => match e with
        | (c_3, f_0) =>
          (asrt ((([] : List Function).length : Int) + (out_0.length : Int) ≤ 2147483648) <|
          asrt (((([] : List Function) ++ out_0).length : Int) + (([f_0] : List Function).length : Int) ≤ 2147483648) <|
          (((
            some ((([] : List Function) ++ out_0) ++ ([f_0] : List Function))) : Option (List Function))).bind fun e => match e with
          | next =>
            ((M.spec_l3Good next).bind fun y10 =>
            ((bif y10 then some default else M.spec_l1Cur_one c_3 (40 : Int))).bind fun y11 =>
            bif (y10 || y11.1) then (
              some (next, (IntKind.i64.wrap ((IntKind.i64.wrap (id_ + (1 : Int))) + y2.1)), (bif y10 then c_3 else y11.2)))
            else (
              some (out_0, (IntKind.i64.wrap ((IntKind.i64.wrap (id_ + (1 : Int))) + y2.1)), (bif y10 then c_3 else y11.2))))))) : Option (List Function × Int × Cur))).bind fun e => match e with
    | (out_1, id_0, c_1) =>
      (some (.inl (out_1, id_0, (IntKind.i64.wrap (n_ - (1 : Int))), c_1))))
  else (
    some (.inr (out_0, c_0)))

def M.spec_l1Cur_tree3_l1 : (List Function × Int × Cur) → Option ((List Function × Int × Cur) ⊕ (List Function × Cur)) := fun st_ => match st_ with
| (out_3, n_0, c_6) =>
  (M.spec_l1Cur_pick c_6 (2 : Int)).bind fun y14 =>
  bif (decide (n_0 < (IntKind.i64.wrap ((15 : Int) + y14.1)))) then (
    asrt ((out_3.length : Int) + (([(⟨(IntKind.i64.wrap (n_0 + (1 : Int))), n_0, [97]⟩ : Function)] : List Function).length : Int) ≤ 2147483648) <|
    some (.inl ((out_3 ++ ([(⟨(IntKind.i64.wrap (n_0 + (1 : Int))), n_0, [97]⟩ : Function)] : List Function)), (IntKind.i64.wrap (n_0 + (1 : Int))), y14.2)))
  else (
    some (.inr (out_3, y14.2)))

def M.spec_l1Cur_tree3 (c : Cur) : Option (List Function × Cur) :=
  (M.spec_l1Cur_pick c (10 : Int)).bind fun y0 =>
  (iterO (M.spec_l1Cur_tree3_l0) (([] : List Function), (0 : Int), y0.1, y0.2)).bind fun e => match e with
  | (out_, c_) =>
    ((M.spec_l1Cur_one c_ (24 : Int)).bind fun y12 =>
    bif y12.1 then (
      (iterO (M.spec_l1Cur_tree3_l1) (([] : List Function), (0 : Int), y12.2)).bind fun e => match e with
      | (out_2, c_5) =>
        (some (out_2, c_5)))
    else (
      some (out_, y12.2)))

def M.spec_l1Cur_functionId (c : Cur) (tree : List Function) : Option (Int × Cur) :=
  ((bif ((tree.length : Int) == (0 : Int)) then some default else M.spec_l1Cur_one c (10 : Int))).bind fun y0 =>
  bif (((tree.length : Int) == (0 : Int)) || y0.1) then (
    (M.spec_l1Cur_among (bif ((tree.length : Int) == (0 : Int)) then c else y0.2) ([(0 : Int), (1 : Int), (50 : Int)] : List Int)).bind fun y1 =>
    some (y1.1, y1.2))
  else (
    (M.spec_l1Cur_pick (bif ((tree.length : Int) == (0 : Int)) then c else y0.2) (tree.length : Int)).bind fun y2 =>
    asrt ((0 : Int) ≤ y2.1 ∧ y2.1 < (tree.length : Int)) <|
    some ((tree.getD (Int.toNat y2.1) default).Id, y2.2))

def M.spec_DrawAddFunction (code : List Int) : Option (List Function × Int × List UInt8) :=
  (M.spec_l1Cur_tree3 (⟨code, (0 : Int), (0 : Int)⟩ : Cur)).bind fun y0 =>
  (M.spec_l1Cur_functionId y0.2 y0.1).bind fun y1 =>
  (((
    (M.spec_l1Cur_one y1.2 (4 : Int)).bind fun y2 =>
    bif y2.1 then (
      some ((0 : Int), y2.2))
    else (
      some (y1.1, y2.2))) : Option (Int × Cur))).bind fun e => match e with
  | (parent, c_) =>
    ((M.spec_l1Cur_of c_ ([[108, 97, 119], [116, 97, 120], [119, 97, 116, 101, 114], [114, 111, 97, 100, 115], [], [65]] : List (List UInt8))).bind fun y3 =>
    some (y0.1, parent, y3.1))

def M.impl_within (n : Int) (low : Int) (high : Int) : Option Bool :=
  some ((decide (low ≤ n)) && (decide (n ≤ high)))

def M.impl_isId (id_ : Int) : Option Bool :=
  (M.impl_within id_ (1 : Int) (99 : Int)).bind fun y0 =>
  some y0

def M.strings_Trim (s cutset : List UInt8) : Option (List UInt8) := asrt (s.length ≤ 9223372036854775807 ∧ cutset.length < 4294967281 ∧ cutset.all (fun b => decide (b.toNat < 128)) = true) <| some (Go.Lib.trimS s cutset)

def M.impl_isWord (s : List UInt8) : Option Bool :=
  (M.impl_within (s.length : Int) (1 : Int) (10 : Int)).bind fun y0 =>
  ((bif y0 then M.strings_Trim s ([97, 98, 99, 100, 101, 102, 103, 104, 105, 106, 107, 108, 109, 110, 111, 112, 113, 114, 115, 116, 117, 118, 119, 120, 121, 122]) else some default)).bind fun y1 =>
  some (y0 && (y1 == ([])))

def M.impl_IsFunction (f : Function) : Option Bool :=
  (M.impl_isId f.Id).bind fun y0 =>
  ((bif y0 then M.impl_within f.Parent (0 : Int) (IntKind.i64.wrap (f.Id - (1 : Int))) else some default)).bind fun y1 =>
  ((bif (y0 && y1) then M.impl_isWord f.Name else some default)).bind fun y2 =>
  some ((y0 && y1) && y2)

def M.impl_functionAt_1 (f : Function) (id_c : Int) : Option Bool :=
  some (f.Id == id_c)

def M.slices_IndexFunc_impl_Function_impl_Function_l0 (s : List Function) (fm : Function → Option Bool) : (Int) → Option ((Int) ⊕ ((Unit) ⊕ (Int))) := fun st_ => match st_ with
| v =>
  bif (decide (v < (s.length : Int))) then (
    asrt ((0 : Int) ≤ v ∧ v < (s.length : Int)) <|
    (fm (s.getD (Int.toNat v) default)).bind fun y1 =>
    bif y1 then (
      some (.inr (.inr v)))
    else (
      some (.inl (IntKind.i64.wrap (v + (1 : Int))))))
  else (
    some (.inr (.inl ())))

def M.slices_IndexFunc_impl_Function_impl_Function (s : List Function) (fm : Function → Option Bool) : Option Int :=
  (iterO (M.slices_IndexFunc_impl_Function_impl_Function_l0 s fm) (0 : Int)).bind fun e => match e with
  | .inl () =>
    (some (-1 : Int))
  | .inr r => some r

def M.impl_functionAt (tree : List Function) (id_ : Int) : Option Int :=
  (M.slices_IndexFunc_impl_Function_impl_Function tree (fun x0 => M.impl_functionAt_1 x0 id_)).bind fun y0 =>
  some y0

def M.impl_IsTree_1 (g : Function) (f_c : Function) : Option Bool :=
  some ((g.Parent == f_c.Parent) && (g.Name == f_c.Name))

def M.slices_ContainsFunc_impl_Function_impl_Function (s : List Function) (fm : Function → Option Bool) : Option Bool :=
  (M.slices_IndexFunc_impl_Function_impl_Function s fm).bind fun y0 =>
  some (decide (y0 ≥ (0 : Int)))

def M.impl_IsTree_l0 (tree : List Function) : (Int) → Option ((Int) ⊕ ((Unit) ⊕ (Bool))) := fun st_ => match st_ with
| v =>
  bif (decide (v < (tree.length : Int))) then (
    asrt ((0 : Int) ≤ v ∧ v < (tree.length : Int)) <|
    (M.impl_IsFunction (tree.getD (Int.toNat v) default)).bind fun y1 =>
    asrt ((!y1) = false → (decide (v > (0 : Int))) = true → ((0 : Int) ≤ (IntKind.i64.wrap (v - (1 : Int))) ∧ (IntKind.i64.wrap (v - (1 : Int))) < (tree.length : Int))) <|
    ((bif ((!y1) || ((decide (v > (0 : Int))) && (decide (((tree.getD (Int.toNat (IntKind.i64.wrap (v - (1 : Int)))) default).Id) ≥ ((tree.getD (Int.toNat v) default).Id))))) then some default else (bif (decide (((tree.getD (Int.toNat v) default).Parent) > (0 : Int))) then M.impl_functionAt tree ((tree.getD (Int.toNat v) default).Parent) else some default))).bind fun y2 =>
    bif (((!y1) || ((decide (v > (0 : Int))) && (decide (((tree.getD (Int.toNat (IntKind.i64.wrap (v - (1 : Int)))) default).Id) ≥ ((tree.getD (Int.toNat v) default).Id))))) || ((decide (((tree.getD (Int.toNat v) default).Parent) > (0 : Int))) && (decide (y2 < (0 : Int))))) then (
      some (.inr (.inr false)))
    else (
      asrt ((0 : Int) ≤ (0 : Int) ∧ (0 : Int) ≤ v ∧ v ≤ (tree.length : Int)) <|
      (M.slices_ContainsFunc_impl_Function_impl_Function (slc tree (0 : Int) v) (fun x0 => M.impl_IsTree_1 x0 (tree.getD (Int.toNat v) default))).bind fun y3 =>
      bif y3 then (
        some (.inr (.inr false)))
      else (
        some (.inl (IntKind.i64.wrap (v + (1 : Int)))))))
  else (
    some (.inr (.inl ())))

def M.impl_IsTree (tree : List Function) : Option Bool :=
  (iterO (M.impl_IsTree_l0 tree) (0 : Int)).bind fun e => match e with
  | .inl () =>
    (some (decide ((tree.length : Int) ≤ (15 : Int))))
  | .inr r => some r

def M.slices_Clone_impl_Function_impl_Function (s : List Function) : Option (List Function) := asrt ((s.length : Int) ≤ 2147483648) <| some s

def M.impl_AddFunction (tree : List Function) (parent : Int) (name : List UInt8) : Option (List Function × Int × Bool) :=
  (M.impl_IsTree tree).bind fun y0 =>
  bif (!y0) then (
    some (([] : List Function), (0 : Int), false))
  else (
    (((
      bif (decide ((tree.length : Int) > (0 : Int))) then (
        asrt ((0 : Int) ≤ (IntKind.i64.wrap ((tree.length : Int) - (1 : Int))) ∧ (IntKind.i64.wrap ((tree.length : Int) - (1 : Int))) < (tree.length : Int)) <|
        some (IntKind.i64.wrap (((tree.getD (Int.toNat (IntKind.i64.wrap ((tree.length : Int) - (1 : Int)))) default).Id) + (1 : Int))))
      else (
        some (1 : Int))) : Option Int)).bind fun e => match e with
    | id_ =>
      ((M.slices_Clone_impl_Function_impl_Function tree).bind fun y1 =>
      asrt ((y1.length : Int) + (([(⟨id_, parent, name⟩ : Function)] : List Function).length : Int) ≤ 2147483648) <|
      (M.impl_IsTree (y1 ++ ([(⟨id_, parent, name⟩ : Function)] : List Function))).bind fun y2 =>
      bif (!y2) then (
        some (([] : List Function), (0 : Int), false))
      else (
        some ((y1 ++ ([(⟨id_, parent, name⟩ : Function)] : List Function)), id_, true))))

def M.spec_AddFunction (tree : List Function) (parent : Int) (name : List UInt8) : Option (List Function × Int × Bool) :=
  (((
    bif (decide ((tree.length : Int) > (0 : Int))) then (
      asrt ((0 : Int) ≤ (IntKind.i64.wrap ((tree.length : Int) - (1 : Int))) ∧ (IntKind.i64.wrap ((tree.length : Int) - (1 : Int))) < (tree.length : Int)) <|
      some (IntKind.i64.wrap (((tree.getD (Int.toNat (IntKind.i64.wrap ((tree.length : Int) - (1 : Int)))) default).Id) + (1 : Int))))
    else (
      some (1 : Int))) : Option Int)).bind fun e => match e with
  | id_ =>
    (asrt ((([] : List Function).length : Int) + (tree.length : Int) ≤ 2147483648) <|
    asrt (((([] : List Function) ++ tree).length : Int) + (([(⟨id_, parent, name⟩ : Function)] : List Function).length : Int) ≤ 2147483648) <|
    (M.spec_l3Good ((([] : List Function) ++ tree) ++ ([(⟨id_, parent, name⟩ : Function)] : List Function))).bind fun y0 =>
    bif (!y0) then (
      some (([] : List Function), (0 : Int), false))
    else (
      some (((([] : List Function) ++ tree) ++ ([(⟨id_, parent, name⟩ : Function)] : List Function)), id_, true)))

def M.laws_rTree_l0 (a : List Function) (b_ : List Function) : (Int) → Option ((Int) ⊕ ((Unit) ⊕ (Bool))) := fun st_ => match st_ with
| i =>
  bif (decide (i < (a.length : Int))) then (
    asrt ((0 : Int) ≤ i ∧ i < (a.length : Int)) <|
    asrt ((0 : Int) ≤ i ∧ i < (b_.length : Int)) <|
    bif (!((((a.getD (Int.toNat i) default).Id) == ((b_.getD (Int.toNat i) default).Id)) && ((((a.getD (Int.toNat i) default).Parent) == ((b_.getD (Int.toNat i) default).Parent)) && ((((a.getD (Int.toNat i) default).Name) == ((b_.getD (Int.toNat i) default).Name)) && true)))) then (
      some (.inr (.inr false)))
    else (
      some (.inl (IntKind.i64.wrap (i + (1 : Int))))))
  else (
    some (.inr (.inl ())))

def M.laws_rTree (a : List Function) (b_ : List Function) : Option Bool :=
  bif ((a.length : Int) != (b_.length : Int)) then (
    some false)
  else (
    (iterO (M.laws_rTree_l0 a b_) (0 : Int)).bind fun e => match e with
    | .inl () =>
      (some true)
    | .inr r => some r)

def M.impl_WithoutLeaf_1 (f : Function) (id_c : Int) : Option Bool :=
  some (f.Parent == id_c)

def M.slices_Delete_impl_Function_impl_Function (s : List Function) (i : Int) (j_ : Int) : Option (List Function) :=
  asrt ((0 : Int) ≤ i ∧ i ≤ j_ ∧ j_ ≤ (s.length : Int) ∧ (s.length : Int) ≤ (s.length : Int)) <|
  bif (i == j_) then (
    some s)
  else (
    asrt ((0 : Int) ≤ (0 : Int) ∧ (0 : Int) ≤ i ∧ i ≤ (s.length : Int)) <|
    asrt ((0 : Int) ≤ j_ ∧ j_ ≤ (((List.length s) : Nat) : Int) ∧ (((List.length s) : Nat) : Int) ≤ (((List.length s) : Nat) : Int)) <|
    asrt ((0 + Int.toNat j_) + (Int.toNat (((List.length s) : Nat) : Int) - Int.toNat j_) ≤ s.length) <|
    asrt ((Int.toNat i - Int.toNat (0 : Int)) + (List.take (Int.toNat (((List.length s) : Nat) : Int) - Int.toNat j_) (List.drop (0 + Int.toNat j_) s)).length ≤ s.length) <|
    asrt ((0 : Int) ≤ ((((Int.toNat i - Int.toNat (0 : Int)) + List.length (List.take (Int.toNat (((List.length s) : Nat) : Int) - Int.toNat j_) (List.drop (0 + Int.toNat j_) s))) : Nat) : Int) ∧ ((((Int.toNat i - Int.toNat (0 : Int)) + List.length (List.take (Int.toNat (((List.length s) : Nat) : Int) - Int.toNat j_) (List.drop (0 + Int.toNat j_) s))) : Nat) : Int) ≤ (s.length : Int) ∧ (((0 : Nat) : Int) : Int) + (s.length : Int) ≤ ((List.take (Int.toNat i - Int.toNat (0 : Int)) s ++ (List.take (Int.toNat (((List.length s) : Nat) : Int) - Int.toNat j_) (List.drop (0 + Int.toNat j_) s)) ++ List.drop ((Int.toNat i - Int.toNat (0 : Int)) + List.length (List.take (Int.toNat (((List.length s) : Nat) : Int) - Int.toNat j_) (List.drop (0 + Int.toNat j_) s))) s).length : Int)) <|
    asrt ((0 + Int.toNat ((((Int.toNat i - Int.toNat (0 : Int)) + List.length (List.take (Int.toNat (((List.length s) : Nat) : Int) - Int.toNat j_) (List.drop (0 + Int.toNat j_) s))) : Nat) : Int)) + (Int.toNat (s.length : Int) - Int.toNat ((((Int.toNat i - Int.toNat (0 : Int)) + List.length (List.take (Int.toNat (((List.length s) : Nat) : Int) - Int.toNat j_) (List.drop (0 + Int.toNat j_) s))) : Nat) : Int)) ≤ (List.take (Int.toNat i - Int.toNat (0 : Int)) s ++ (List.take (Int.toNat (((List.length s) : Nat) : Int) - Int.toNat j_) (List.drop (0 + Int.toNat j_) s)) ++ List.drop ((Int.toNat i - Int.toNat (0 : Int)) + List.length (List.take (Int.toNat (((List.length s) : Nat) : Int) - Int.toNat j_) (List.drop (0 + Int.toNat j_) s))) s).length) <|
    asrt (((Int.toNat i - Int.toNat (0 : Int)) + List.length (List.take (Int.toNat (((List.length s) : Nat) : Int) - Int.toNat j_) (List.drop (0 + Int.toNat j_) s))) ≤ (List.take (0 + Int.toNat ((((Int.toNat i - Int.toNat (0 : Int)) + List.length (List.take (Int.toNat (((List.length s) : Nat) : Int) - Int.toNat j_) (List.drop (0 + Int.toNat j_) s))) : Nat) : Int)) (List.take (Int.toNat i - Int.toNat (0 : Int)) s ++ (List.take (Int.toNat (((List.length s) : Nat) : Int) - Int.toNat j_) (List.drop (0 + Int.toNat j_) s)) ++ List.drop ((Int.toNat i - Int.toNat (0 : Int)) + List.length (List.take (Int.toNat (((List.length s) : Nat) : Int) - Int.toNat j_) (List.drop (0 + Int.toNat j_) s))) s) ++ List.replicate (Int.toNat (s.length : Int) - Int.toNat ((((Int.toNat i - Int.toNat (0 : Int)) + List.length (List.take (Int.toNat (((List.length s) : Nat) : Int) - Int.toNat j_) (List.drop (0 + Int.toNat j_) s))) : Nat) : Int)) (⟨(0 : Int), (0 : Int), []⟩ : Function) ++ List.drop ((0 + Int.toNat ((((Int.toNat i - Int.toNat (0 : Int)) + List.length (List.take (Int.toNat (((List.length s) : Nat) : Int) - Int.toNat j_) (List.drop (0 + Int.toNat j_) s))) : Nat) : Int)) + (Int.toNat (s.length : Int) - Int.toNat ((((Int.toNat i - Int.toNat (0 : Int)) + List.length (List.take (Int.toNat (((List.length s) : Nat) : Int) - Int.toNat j_) (List.drop (0 + Int.toNat j_) s))) : Nat) : Int))) (List.take (Int.toNat i - Int.toNat (0 : Int)) s ++ (List.take (Int.toNat (((List.length s) : Nat) : Int) - Int.toNat j_) (List.drop (0 + Int.toNat j_) s)) ++ List.drop ((Int.toNat i - Int.toNat (0 : Int)) + List.length (List.take (Int.toNat (((List.length s) : Nat) : Int) - Int.toNat j_) (List.drop (0 + Int.toNat j_) s))) s)).length) <|
    some (List.take ((Int.toNat i - Int.toNat (0 : Int)) + List.length (List.take (Int.toNat (((List.length s) : Nat) : Int) - Int.toNat j_) (List.drop (0 + Int.toNat j_) s))) (List.take (0 + Int.toNat ((((Int.toNat i - Int.toNat (0 : Int)) + List.length (List.take (Int.toNat (((List.length s) : Nat) : Int) - Int.toNat j_) (List.drop (0 + Int.toNat j_) s))) : Nat) : Int)) (List.take (Int.toNat i - Int.toNat (0 : Int)) s ++ (List.take (Int.toNat (((List.length s) : Nat) : Int) - Int.toNat j_) (List.drop (0 + Int.toNat j_) s)) ++ List.drop ((Int.toNat i - Int.toNat (0 : Int)) + List.length (List.take (Int.toNat (((List.length s) : Nat) : Int) - Int.toNat j_) (List.drop (0 + Int.toNat j_) s))) s) ++ List.replicate (Int.toNat (s.length : Int) - Int.toNat ((((Int.toNat i - Int.toNat (0 : Int)) + List.length (List.take (Int.toNat (((List.length s) : Nat) : Int) - Int.toNat j_) (List.drop (0 + Int.toNat j_) s))) : Nat) : Int)) (⟨(0 : Int), (0 : Int), []⟩ : Function) ++ List.drop ((0 + Int.toNat ((((Int.toNat i - Int.toNat (0 : Int)) + List.length (List.take (Int.toNat (((List.length s) : Nat) : Int) - Int.toNat j_) (List.drop (0 + Int.toNat j_) s))) : Nat) : Int)) + (Int.toNat (s.length : Int) - Int.toNat ((((Int.toNat i - Int.toNat (0 : Int)) + List.length (List.take (Int.toNat (((List.length s) : Nat) : Int) - Int.toNat j_) (List.drop (0 + Int.toNat j_) s))) : Nat) : Int))) (List.take (Int.toNat i - Int.toNat (0 : Int)) s ++ (List.take (Int.toNat (((List.length s) : Nat) : Int) - Int.toNat j_) (List.drop (0 + Int.toNat j_) s)) ++ List.drop ((Int.toNat i - Int.toNat (0 : Int)) + List.length (List.take (Int.toNat (((List.length s) : Nat) : Int) - Int.toNat j_) (List.drop (0 + Int.toNat j_) s))) s))))

def M.impl_WithoutLeaf (tree : List Function) (id_ : Int) : Option (List Function × Bool) :=
  (M.impl_functionAt tree id_).bind fun y0 =>
  (M.impl_IsTree tree).bind fun y1 =>
  ((bif ((!y1) || (decide (y0 < (0 : Int)))) then some default else M.slices_ContainsFunc_impl_Function_impl_Function tree (fun x0 => M.impl_WithoutLeaf_1 x0 id_))).bind fun y2 =>
  bif (((!y1) || (decide (y0 < (0 : Int)))) || y2) then (
    some (([] : List Function), false))
  else (
    (M.slices_Clone_impl_Function_impl_Function tree).bind fun y3 =>
    (M.slices_Delete_impl_Function_impl_Function y3 y0 (IntKind.i64.wrap (y0 + (1 : Int)))).bind fun y4 =>
    some (y4, true))

def M.spec_DrawMoveUnder (code : List Int) : Option (List Function × Int × Int) :=
  (M.spec_l1Cur_tree3 (⟨code, (0 : Int), (0 : Int)⟩ : Cur)).bind fun y0 =>
  (M.spec_l1Cur_functionId y0.2 y0.1).bind fun y1 =>
  (M.spec_l1Cur_one y1.2 (4 : Int)).bind fun y2 =>
  bif y2.1 then (
    some (y0.1, y1.1, (0 : Int)))
  else (
    (M.spec_l1Cur_functionId y2.2 y0.1).bind fun y3 =>
    some (y0.1, y1.1, y3.1))

def M.impl_MoveUnder (tree : List Function) (id_ : Int) (parent : Int) : Option (List Function × Bool) :=
  (M.impl_functionAt tree id_).bind fun y0 =>
  (M.impl_IsTree tree).bind fun y1 =>
  bif ((!y1) || (decide (y0 < (0 : Int)))) then (
    some (([] : List Function), false))
  else (
    (M.slices_Clone_impl_Function_impl_Function tree).bind fun y2 =>
    asrt ((0 : Int) ≤ y0 ∧ y0 < (y2.length : Int)) <|
    (M.impl_IsTree (y2.set (Int.toNat y0) (⟨(y2.getD (Int.toNat y0) default).Id, parent, (y2.getD (Int.toNat y0) default).Name⟩ : Function))).bind fun y3 =>
    bif (!y3) then (
      some (([] : List Function), false))
    else (
      some ((y2.set (Int.toNat y0) (⟨(y2.getD (Int.toNat y0) default).Id, parent, (y2.getD (Int.toNat y0) default).Name⟩ : Function)), true)))

def M.spec_MoveUnder (tree : List Function) (id_ : Int) (parent : Int) : Option (List Function × Bool) :=
  (M.spec_l3Find tree id_).bind fun y0 =>
  (M.spec_l3Good tree).bind fun y1 =>
  bif ((!y1) || (decide (y0 < (0 : Int)))) then (
    some (([] : List Function), false))
  else (
    asrt ((([] : List Function).length : Int) + (tree.length : Int) ≤ 2147483648) <|
    asrt ((0 : Int) ≤ y0 ∧ y0 < (tree.length : Int)) <|
    asrt ((0 : Int) ≤ y0 ∧ y0 < ((([] : List Function) ++ tree).length : Int)) <|
    (M.spec_l3Good ((([] : List Function) ++ tree).set (Int.toNat y0) (⟨(tree.getD (Int.toNat y0) default).Id, parent, (tree.getD (Int.toNat y0) default).Name⟩ : Function))).bind fun y2 =>
    bif (!y2) then (
      some (([] : List Function), false))
    else (
      some (((([] : List Function) ++ tree).set (Int.toNat y0) (⟨(tree.getD (Int.toNat y0) default).Id, parent, (tree.getD (Int.toNat y0) default).Name⟩ : Function)), true)))

def M.slices_Reverse_int_int_l0 : (List Int × Int × Int) → Option ((List Int × Int × Int) ⊕ (List Int)) := fun st_ => match st_ with
| (s1, i, j_) =>
  bif (decide (i < j_)) then (
    asrt ((0 : Int) ≤ j_ ∧ j_ < (s1.length : Int)) <|
    asrt ((0 : Int) ≤ i ∧ i < (s1.length : Int)) <|
    asrt ((0 : Int) ≤ i ∧ i < (s1.length : Int)) <|
    asrt ((0 : Int) ≤ j_ ∧ j_ < ((s1.set (Int.toNat i) (s1.getD (Int.toNat j_) default)).length : Int)) <|
    (((
      some ((s1.set (Int.toNat i) (s1.getD (Int.toNat j_) default)).set (Int.toNat j_) (s1.getD (Int.toNat i) default))) : Option (List Int))).bind fun e => match e with
    | s2 =>
      (some (.inl (s2, (IntKind.i64.wrap (i + (1 : Int))), (IntKind.i64.wrap (j_ - (1 : Int)))))))
  else (
    some (.inr s1))

def M.slices_Reverse_int_int (s : List Int) : Option (List Int) :=
  (iterO (M.slices_Reverse_int_int_l0) (s, (0 : Int), (IntKind.i64.wrap ((s.length : Int) - (1 : Int))))).bind fun e => match e with
  | s0 =>
    (some s0)

def M.impl_pathTo_l0 (tree : List Function) : (Int × List Int) → Option ((Int × List Int) ⊕ (List Int)) := fun st_ => match st_ with
| (id_0, path0) =>
  bif (decide (id_0 > (0 : Int))) then (
    asrt ((path0.length : Int) + (([id_0] : List Int).length : Int) ≤ 2147483648) <|
    (M.impl_functionAt tree id_0).bind fun y1 =>
    asrt ((0 : Int) ≤ y1 ∧ y1 < (tree.length : Int)) <|
    some (.inl ((tree.getD (Int.toNat y1) default).Parent, (path0 ++ ([id_0] : List Int)))))
  else (
    some (.inr path0))

def M.impl_pathTo (tree : List Function) (id_ : Int) : Option (List Int) :=
  (iterO (M.impl_pathTo_l0 tree) (id_, ([] : List Int))).bind fun e => match e with
  | path =>
    ((M.slices_Reverse_int_int path).bind fun y2 =>
    asrt (y2.length = path.length) <|
    some y2)

def M.impl_PathTo (tree : List Function) (id_ : Int) : Option (List Int × Bool) :=
  (M.impl_IsTree tree).bind fun y0 =>
  ((bif (!y0) then some default else M.impl_functionAt tree id_)).bind fun y1 =>
  bif ((!y0) || (decide (y1 < (0 : Int)))) then (
    some (([] : List Int), false))
  else (
    (M.impl_pathTo tree id_).bind fun y2 =>
    some (y2, true))

def M.spec_DrawIsTree (code : List Int) : Option (List Function) :=
  (M.spec_l1Cur_tree3 (⟨code, (0 : Int), (0 : Int)⟩ : Cur)).bind fun y0 =>
  some y0.1

def M.spec_DrawDeepestFunctions (code : List Int) : Option (List Function) :=
  (M.spec_DrawIsTree code).bind fun y0 =>
  some y0

def M.impl_DeepestFunctions_l0 (tree : List Function) : (List Int × Int × Int) → Option ((List Int × Int × Int) ⊕ (List Int × Int)) := fun st_ => match st_ with
| (ids0, greatest0, v) =>
  bif (decide (v < (tree.length : Int))) then (
    (((
      asrt ((0 : Int) ≤ v ∧ v < (tree.length : Int)) <|
      (M.impl_pathTo tree ((tree.getD (Int.toNat v) default).Id)).bind fun y2 =>
      (((
        bif (decide ((y2.length : Int) > greatest0)) then (
          some (([] : List Int), (y2.length : Int)))
        else (
          some (ids0, greatest0))) : Option (List Int × Int))).bind fun e => match e with
      | (ids2, greatest2) =>
        (bif ((y2.length : Int) == greatest2) then (
          asrt ((ids2.length : Int) + (([(tree.getD (Int.toNat v) default).Id] : List Int).length : Int) ≤ 2147483648) <|
          some ((ids2 ++ ([(tree.getD (Int.toNat v) default).Id] : List Int)), greatest2))
        else (
          some (ids2, greatest2)))) : Option (List Int × Int))).bind fun e => match e with
    | (ids1, greatest1) =>
      (some (.inl (ids1, greatest1, (IntKind.i64.wrap (v + (1 : Int)))))))
  else (
    some (.inr (ids0, greatest0)))

def M.impl_DeepestFunctions (tree : List Function) : Option (List Int × Int × Bool) :=
  (M.impl_IsTree tree).bind fun y0 =>
  bif (!y0) then (
    some (([] : List Int), (0 : Int), false))
  else (
    (iterO (M.impl_DeepestFunctions_l0 tree) (([] : List Int), (0 : Int), (0 : Int))).bind fun e => match e with
    | (ids, greatest) =>
      (some (ids, greatest, true)))

def M.spec_l3Path_l0 (tree : List Function) : (Int × List Int) → Option ((Int × List Int) ⊕ (List Int)) := fun st_ => match st_ with
| (id_0, out_0) =>
  bif (decide (id_0 > (0 : Int))) then (
    asrt ((([id_0] : List Int).length : Int) + (out_0.length : Int) ≤ 2147483648) <|
    (M.spec_l3Find tree id_0).bind fun y1 =>
    asrt ((0 : Int) ≤ y1 ∧ y1 < (tree.length : Int)) <|
    some (.inl ((tree.getD (Int.toNat y1) default).Parent, (([id_0] : List Int) ++ out_0))))
  else (
    some (.inr out_0))

def M.spec_l3Path (tree : List Function) (id_ : Int) : Option (List Int) :=
  (iterO (M.spec_l3Path_l0 tree) (id_, ([] : List Int))).bind fun e => match e with
  | out_ =>
    (some out_)

def M.spec_DeepestFunctions_l0 (tree : List Function) : (List Int × Int × Int) → Option ((List Int × Int × Int) ⊕ (List Int × Int)) := fun st_ => match st_ with
| (out_0, most0, i) =>
  bif (decide (i < (tree.length : Int))) then (
    (((
      asrt ((0 : Int) ≤ i ∧ i < (tree.length : Int)) <|
      (M.spec_l3Path tree ((tree.getD (Int.toNat i) default).Id)).bind fun y2 =>
      (((
        bif (decide ((y2.length : Int) > most0)) then (
          some (([] : List Int), (y2.length : Int)))
        else (
          some (out_0, most0))) : Option (List Int × Int))).bind fun e => match e with
      | (out_2, most2) =>
        (bif ((y2.length : Int) == most2) then (
          asrt ((0 : Int) ≤ i ∧ i < (tree.length : Int)) <|
          asrt ((out_2.length : Int) + (([(tree.getD (Int.toNat i) default).Id] : List Int).length : Int) ≤ 2147483648) <|
          some ((out_2 ++ ([(tree.getD (Int.toNat i) default).Id] : List Int)), most2))
        else (
          some (out_2, most2)))) : Option (List Int × Int))).bind fun e => match e with
    | (out_1, most1) =>
      (some (.inl (out_1, most1, (IntKind.i64.wrap (i + (1 : Int)))))))
  else (
    some (.inr (out_0, most0)))

def M.spec_DeepestFunctions (tree : List Function) : Option (List Int × Int × Bool) :=
  (M.spec_l3Good tree).bind fun y0 =>
  bif (!y0) then (
    some (([] : List Int), (0 : Int), false))
  else (
    (iterO (M.spec_DeepestFunctions_l0 tree) (([] : List Int), (0 : Int), (0 : Int))).bind fun e => match e with
    | (out_, most) =>
      (some (out_, most, true)))

def M.laws_rInts_l0 (a : List Int) (b_ : List Int) : (Int) → Option ((Int) ⊕ ((Unit) ⊕ (Bool))) := fun st_ => match st_ with
| i =>
  bif (decide (i < (a.length : Int))) then (
    asrt ((0 : Int) ≤ i ∧ i < (a.length : Int)) <|
    asrt ((0 : Int) ≤ i ∧ i < (b_.length : Int)) <|
    bif ((a.getD (Int.toNat i) default) != (b_.getD (Int.toNat i) default)) then (
      some (.inr (.inr false)))
    else (
      some (.inl (IntKind.i64.wrap (i + (1 : Int))))))
  else (
    some (.inr (.inl ())))

def M.laws_rInts (a : List Int) (b_ : List Int) : Option Bool :=
  bif ((a.length : Int) != (b_.length : Int)) then (
    some false)
  else (
    (iterO (M.laws_rInts_l0 a b_) (0 : Int)).bind fun e => match e with
    | .inl () =>
      (some true)
    | .inr r => some r)

def M.laws_rHas_l0 (list : List Int) (x : Int) : (Int) → Option ((Int) ⊕ ((Unit) ⊕ (Bool))) := fun st_ => match st_ with
| i =>
  bif (decide (i < (list.length : Int))) then (
    asrt ((0 : Int) ≤ i ∧ i < (list.length : Int)) <|
    bif ((list.getD (Int.toNat i) default) == x) then (
      some (.inr (.inr true)))
    else (
      some (.inl (IntKind.i64.wrap (i + (1 : Int))))))
  else (
    some (.inr (.inl ())))

def M.laws_rHas (list : List Int) (x : Int) : Option Bool :=
  (iterO (M.laws_rHas_l0 list x) (0 : Int)).bind fun e => match e with
  | .inl () =>
    (some false)
  | .inr r => some r

def M.spec_DrawPathTo (code : List Int) : Option (List Function × Int) :=
  (M.spec_l1Cur_tree3 (⟨code, (0 : Int), (0 : Int)⟩ : Cur)).bind fun y0 =>
  (M.spec_l1Cur_functionId y0.2 y0.1).bind fun y1 =>
  some (y0.1, y1.1)

def M.spec_DrawWithoutLeaf (code : List Int) : Option (List Function × Int) :=
  (M.spec_DrawPathTo code).bind fun y0 =>
  some (y0.1, y0.2)

def M.spec_WithoutLeaf_l0 (tree : List Function) (id_ : Int) : (List Function × Int) → Option ((List Function × Int) ⊕ ((List Function) ⊕ (List Function × Bool))) := fun st_ => match st_ with
| (out_0, i) =>
  bif (decide (i < (tree.length : Int))) then (
    (((
      asrt ((0 : Int) ≤ i ∧ i < (tree.length : Int)) <|
      bif (((tree.getD (Int.toNat i) default).Parent) == id_) then (
        some (.inr (([] : List Function), false)))
      else (
        asrt ((0 : Int) ≤ i ∧ i < (tree.length : Int)) <|
        bif (((tree.getD (Int.toNat i) default).Id) != id_) then (
          asrt ((0 : Int) ≤ i ∧ i < (tree.length : Int)) <|
          asrt ((out_0.length : Int) + (([(tree.getD (Int.toNat i) default)] : List Function).length : Int) ≤ 2147483648) <|
          some (.inl (out_0 ++ ([(tree.getD (Int.toNat i) default)] : List Function))))
        else (
          some (.inl out_0)))) : Option ((List Function) ⊕ (List Function × Bool)))).bind fun e => match e with
    | .inl out_1 =>
      (some (.inl (out_1, (IntKind.i64.wrap (i + (1 : Int))))))
    | .inr r => some (.inr (.inr r)))
  else (
    some (.inr (.inl out_0)))

def M.spec_WithoutLeaf (tree : List Function) (id_ : Int) : Option (List Function × Bool) :=
  (M.spec_l3Good tree).bind fun y0 =>
  ((bif (!y0) then some default else M.spec_l3Find tree id_)).bind fun y1 =>
  bif ((!y0) || (decide (y1 < (0 : Int)))) then (
    some (([] : List Function), false))
  else (
    (iterO (M.spec_WithoutLeaf_l0 tree id_) (([] : List Function), (0 : Int))).bind fun e => match e with
    | .inl out_ =>
      (some (out_, true))
    | .inr r => some r)

def M.spec_l1Cur_word (c : Cur) : Option (List UInt8 × Cur) :=
  (M.spec_l1Cur_of c ([[116, 97, 120], [108, 101, 116, 116, 101, 114], [99, 111, 117, 114, 116], [97, 110, 110, 97], [98, 111], [110, 111, 114, 116, 104], [112, 108, 97, 110], [97], [97, 98, 99, 100, 101, 102, 103, 104, 105, 106]] : List (List UInt8))).bind fun y0 =>
  some (y0.1, y0.2)

def M.spec_DrawIsFunction (code : List Int) : Option Function :=
  (M.spec_l1Cur_tree3 (⟨code, (0 : Int), (0 : Int)⟩ : Cur)).bind fun y0 =>
  bif ((y0.1.length : Int) == (0 : Int)) then (
    (M.spec_l1Cur_word y0.2).bind fun y1 =>
    some (⟨(1 : Int), (0 : Int), y1.1⟩ : Function))
  else (
    asrt ((0 : Int) ≤ (IntKind.i64.wrap ((y0.1.length : Int) - (1 : Int))) ∧ (IntKind.i64.wrap ((y0.1.length : Int) - (1 : Int))) < (y0.1.length : Int)) <|
    some (y0.1.getD (Int.toNat (IntKind.i64.wrap ((y0.1.length : Int) - (1 : Int)))) default))

def M.spec_IsFunction (f : Function) : Option Bool :=
  (M.spec_l3One f).bind fun y0 =>
  some y0

def M.laws_FnGrowth_l0 (y13 : List Function) (y14 : List Int × Int × Bool) : (Int) → Option ((Int) ⊕ ((Unit) ⊕ (Bool))) := fun st_ => match st_ with
| i =>
  bif ((decide (i < (y13.length : Int))) && y14.2.2) then (
    asrt ((0 : Int) ≤ i ∧ i < (y13.length : Int)) <|
    (M.impl_PathTo y13 ((y13.getD (Int.toNat i) default).Id)).bind fun y18 =>
    asrt (((!y18.2) || (decide ((y18.1.length : Int) > y14.2.1))) = false → ((0 : Int) ≤ i ∧ i < (y13.length : Int))) <|
    ((bif ((!y18.2) || (decide ((y18.1.length : Int) > y14.2.1))) then some default else M.laws_rHas y14.1 ((y13.getD (Int.toNat i) default).Id))).bind fun y19 =>
    bif (((!y18.2) || (decide ((y18.1.length : Int) > y14.2.1))) || (!(y19 == ((y18.1.length : Int) == y14.2.1)))) then (
      some (.inr (.inr false)))
    else (
      some (.inl (IntKind.i64.wrap (i + (1 : Int))))))
  else (
    some (.inr (.inl ())))

def M.laws_FnGrowth (code : List Int) : Option Bool :=
  (M.laws_rBig code).bind fun y0 =>
  bif y0 then (
    some true)
  else (
    (M.spec_DrawAddFunction code).bind fun y1 =>
    (M.impl_AddFunction y1.1 y1.2.1 y1.2.2).bind fun y2 =>
    (M.spec_AddFunction y1.1 y1.2.1 y1.2.2).bind fun y3 =>
    ((bif ((!(y2.2.2 == y3.2.2)) || (y2.2.1 != y3.2.1)) then some default else M.laws_rTree y2.1 y3.1)).bind fun y4 =>
    bif (((!(y2.2.2 == y3.2.2)) || (y2.2.1 != y3.2.1)) || (!y4)) then (
      some false)
    else (
      (((
        bif y2.2.2 then (
          (M.impl_WithoutLeaf y2.1 y2.2.1).bind fun y5 =>
          ((bif (!y5.2) then some default else M.laws_rTree y5.1 y1.1)).bind fun y6 =>
          bif ((!y5.2) || (!y6)) then (
            some (.inr false))
          else (
            some (.inl ())))
        else (
          some (.inl ()))) : Option ((Unit) ⊕ (Bool)))).bind fun e => match e with
      | .inl () =>
        ((M.spec_DrawMoveUnder code).bind fun y7 =>
        (M.impl_MoveUnder y7.1 y7.2.1 y7.2.2).bind fun y8 =>
        (M.spec_MoveUnder y7.1 y7.2.1 y7.2.2).bind fun y9 =>
        ((bif (!(y8.2 == y9.2)) then some default else M.laws_rTree y8.1 y9.1)).bind fun y10 =>
        bif ((!(y8.2 == y9.2)) || (!y10)) then (
          some false)
        else (
          (((
            bif y8.2 then (
              (M.impl_PathTo y8.1 y7.2.1).bind fun y11 =>
              (M.impl_PathTo y8.1 y7.2.2).bind fun y12 =>
              bif (((!y11.2) || (!(y12.2 == (decide (y7.2.2 > (0 : Int)))))) || ((y11.1.length : Int) != (IntKind.i64.wrap ((y12.1.length : Int) + (1 : Int))))) then (
                some (.inr false))
              else (
                some (.inl ())))
            else (
              some (.inl ()))) : Option ((Unit) ⊕ (Bool)))).bind fun e => match e with
          | .inl () =>
            ((M.spec_DrawDeepestFunctions code).bind fun y13 =>
            (M.impl_DeepestFunctions y13).bind fun y14 =>
            (M.spec_DeepestFunctions y13).bind fun y15 =>
            ((bif ((!(y14.2.2 == y15.2.2)) || (y14.2.1 != y15.2.1)) then some default else M.laws_rInts y14.1 y15.1)).bind fun y16 =>
            bif (((!(y14.2.2 == y15.2.2)) || (y14.2.1 != y15.2.1)) || (!y16)) then (
              some false)
            else (
              (iterO (M.laws_FnGrowth_l0 y13 y14) (0 : Int)).bind fun e => match e with
              | .inl () =>
                ((M.spec_DrawWithoutLeaf code).bind fun y20 =>
                (M.impl_WithoutLeaf y20.1 y20.2).bind fun y21 =>
                (M.spec_WithoutLeaf y20.1 y20.2).bind fun y22 =>
                (M.spec_DrawIsFunction code).bind fun y23 =>
                ((bif (y21.2 == y22.2) then M.laws_rTree y21.1 y22.1 else some default)).bind fun y24 =>
                ((bif ((y21.2 == y22.2) && y24) then M.impl_IsFunction y23 else some default)).bind fun y25 =>
                ((bif ((y21.2 == y22.2) && y24) then M.spec_IsFunction y23 else some default)).bind fun y26 =>
                some (((y21.2 == y22.2) && y24) && (y25 == y26)))
              | .inr r => some r))
          | .inr r => some r))
      | .inr r => some r))
end Go.Proofs.YthfndefhmmfjaaaDoor
