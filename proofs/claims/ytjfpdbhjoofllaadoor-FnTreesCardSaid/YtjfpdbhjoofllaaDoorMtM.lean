/- models of the functions -/
import Derived.Test.YtjfpdbhjoofllaaDoorWk
set_option linter.unusedSimpArgs false
set_option linter.unusedVariables false
set_option maxRecDepth 100000
namespace Go.Proofs.YtjfpdbhjoofllaaDoor
open Go.VS

structure Cur where
  Code : List Int
  At : Int
  Seed : Int
  deriving Inhabited, DecidableEq

abbrev encCur (ρ : Nat) (c : Cur) : PV := .agg [.vl ρ 1 (List.map encU8 c.Code), .int .i64 c.At, .int .u64 c.Seed]

structure Function where
  Id : Int
  Parent : Int
  Name : List UInt8
  deriving Inhabited, DecidableEq

abbrev encFunction (c : Function) : PV := .agg [.int .i64 c.Id, .int .i64 c.Parent, .str c.Name]

def M.laws_rBig (code : List Int) : Option Bool :=
  some (decide ((code.length : Int) > (65536 : Int)))

def M.spec_l1Cur_next (c : Cur) : Option (Int × Cur) :=
  (((
    bif (decide (c.At < (c.Code.length : Int))) then (
      asrt ((0 : Int) ≤ c.At ∧ c.At < (c.Code.length : Int)) <|
      some (IntKind.i64.wrap (c.Code.getD (Int.toNat c.At) default)))
    else (
      some (0 : Int))) : Option Int)).bind fun e => match e with
  | b_ =>
    (bif (decide ((IntKind.i64.wrap (c.At + (1 : Int))) ≤ (c.Code.length : Int))) then (
      some (b_, (⟨c.Code, (IntKind.i64.wrap (c.At + (1 : Int))), (IntKind.u64.wrap ((IntKind.u64.wrap ((IntKind.u64.wrap (c.Seed * (6364136223846793005 : Int))) + (IntKind.u64.wrap b_))) + (103535 : Int)))⟩ : Cur)))
    else (
      some ((IntKind.i64.wrap (IntKind.u64.wrap (BitVec.ofInt IntKind.u64.bits (Int.fdiv (IntKind.u64.wrap ((IntKind.u64.wrap ((IntKind.u64.wrap (c.Seed * (6364136223846793005 : Int))) + (IntKind.u64.wrap b_))) + (103535 : Int))) (2 ^ (min (Int.toNat (40 : Int)) IntKind.u64.bits))) &&& BitVec.ofInt IntKind.u64.bits (255 : Int)).toNat)), (⟨c.Code, (IntKind.i64.wrap (c.At + (1 : Int))), (IntKind.u64.wrap ((IntKind.u64.wrap ((IntKind.u64.wrap (c.Seed * (6364136223846793005 : Int))) + (IntKind.u64.wrap b_))) + (103535 : Int)))⟩ : Cur))))

def M.spec_l1Cur_pick (c : Cur) (n : Int) : Option (Int × Cur) :=
  bif (decide (n ≤ (1 : Int))) then (
    some ((0 : Int), c))
  else (
    (M.spec_l1Cur_next c).bind fun y0 =>
    (((
      bif (decide (n > (200 : Int))) then (
        (M.spec_l1Cur_next y0.2).bind fun y1 =>
        some ((IntKind.i64.wrap ((IntKind.i64.wrap (y0.1 * (256 : Int))) + y1.1)), y1.2))
      else (
        some (y0.1, y0.2))) : Option (Int × Cur))).bind fun e => match e with
    | (x, c_) =>
      (asrt (n ≠ 0) <|
      some ((Int.tmod x n), c_)))

def M.spec_l1Cur_of (c : Cur) (list : List (List UInt8)) : Option (List UInt8 × Cur) :=
  (M.spec_l1Cur_pick c (list.length : Int)).bind fun y0 =>
  asrt ((0 : Int) ≤ y0.1 ∧ y0.1 < (list.length : Int)) <|
  some ((list.getD (Int.toNat y0.1) default), y0.2)

def M.spec_l1Cur_one (c : Cur) (n : Int) : Option (Bool × Cur) :=
  (M.spec_l1Cur_pick c n).bind fun y0 =>
  some ((y0.1 == (0 : Int)), y0.2)

def M.spec_l1Cur_among (c : Cur) (list : List Int) : Option (Int × Cur) :=
  (M.spec_l1Cur_pick c (list.length : Int)).bind fun y0 =>
  asrt ((0 : Int) ≤ y0.1 ∧ y0.1 < (list.length : Int)) <|
  some ((list.getD (Int.toNat y0.1) default), y0.2)

def M.spec_l1In (x : Int) (a : Int) (b_ : Int) : Option Bool :=
  some ((decide (x ≥ a)) && (decide (x ≤ b_)))

def M.spec_l2Word_l0 (s : List UInt8) : (Int) → Option ((Int) ⊕ ((Unit) ⊕ (Bool))) := fun st_ => match st_ with
| i =>
  bif (decide (i < (s.length : Int))) then (
    asrt ((0 : Int) ≤ i ∧ i < (s.length : Int)) <|
    asrt ((decide (((s.getD (Int.toNat i) 0).toNat : Int) < (97 : Int))) = false → ((0 : Int) ≤ i ∧ i < (s.length : Int))) <|
    bif ((decide (((s.getD (Int.toNat i) 0).toNat : Int) < (97 : Int))) || (decide (((s.getD (Int.toNat i) 0).toNat : Int) > (122 : Int)))) then (
      some (.inr (.inr false)))
    else (
      some (.inl (IntKind.i64.wrap (i + (1 : Int))))))
  else (
    some (.inr (.inl ())))

def M.spec_l2Word (s : List UInt8) : Option Bool :=
  (iterO (M.spec_l2Word_l0 s) (0 : Int)).bind fun e => match e with
  | .inl () =>
    ((M.spec_l1In (s.length : Int) (1 : Int) (10 : Int)).bind fun y1 =>
    some y1)
  | .inr r => some r

def M.spec_l3One (f : Function) : Option Bool :=
  (M.spec_l1In f.Id (1 : Int) (99 : Int)).bind fun y0 =>
  ((bif y0 then M.spec_l1In f.Parent (0 : Int) (IntKind.i64.wrap (f.Id - (1 : Int))) else some default)).bind fun y1 =>
  ((bif (y0 && y1) then M.spec_l2Word f.Name else some default)).bind fun y2 =>
  some ((y0 && y1) && y2)

def M.spec_l3Find_l0 (tree : List Function) (id_ : Int) : (Int) → Option ((Int) ⊕ ((Unit) ⊕ (Int))) := fun st_ => match st_ with
| i =>
  bif (decide (i < (tree.length : Int))) then (
    asrt ((0 : Int) ≤ i ∧ i < (tree.length : Int)) <|
    bif (((tree.getD (Int.toNat i) default).Id) == id_) then (
      some (.inr (.inr i)))
    else (
      some (.inl (IntKind.i64.wrap (i + (1 : Int))))))
  else (
    some (.inr (.inl ())))

def M.spec_l3Find (tree : List Function) (id_ : Int) : Option Int :=
  (iterO (M.spec_l3Find_l0 tree id_) (0 : Int)).bind fun e => match e with
  | .inl () =>
    (some (-1 : Int))
  | .inr r => some r

def M.spec_l3Good_l1 (tree : List Function) (i : Int) : (Int) → Option ((Int) ⊕ ((Unit) ⊕ (Bool))) := fun st_ => match st_ with
| k =>
  bif (decide (k < i)) then (
    asrt ((0 : Int) ≤ k ∧ k < (tree.length : Int)) <|
    asrt ((((tree.getD (Int.toNat k) default).Parent) == ((tree.getD (Int.toNat i) default).Parent)) = true → ((0 : Int) ≤ k ∧ k < (tree.length : Int))) <|
    bif ((((tree.getD (Int.toNat k) default).Parent) == ((tree.getD (Int.toNat i) default).Parent)) && (((tree.getD (Int.toNat k) default).Name) == ((tree.getD (Int.toNat i) default).Name))) then (
      some (.inr (.inr false)))
    else (
      some (.inl (IntKind.i64.wrap (k + (1 : Int))))))
  else (
    some (.inr (.inl ())))

def M.spec_l3Good_l0 (tree : List Function) : (Int) → Option ((Int) ⊕ ((Unit) ⊕ (Bool))) := fun st_ => match st_ with
| i =>
  bif ((decide (i < (tree.length : Int))) && (decide (i ≤ (15 : Int)))) then (
    asrt ((0 : Int) ≤ i ∧ i < (tree.length : Int)) <|
    (M.spec_l3One (tree.getD (Int.toNat i) default)).bind fun y1 =>
    asrt ((!y1) = false → (decide (i > (0 : Int))) = true → ((0 : Int) ≤ (IntKind.i64.wrap (i - (1 : Int))) ∧ (IntKind.i64.wrap (i - (1 : Int))) < (tree.length : Int))) <|
    asrt (((!y1) || ((decide (i > (0 : Int))) && (decide (((tree.getD (Int.toNat (IntKind.i64.wrap (i - (1 : Int)))) default).Id) ≥ ((tree.getD (Int.toNat i) default).Id))))) = false → (decide (((tree.getD (Int.toNat i) default).Parent) > (0 : Int))) = true → ((0 : Int) ≤ (0 : Int) ∧ (0 : Int) ≤ i ∧ i ≤ (tree.length : Int))) <|
    ((bif ((!y1) || ((decide (i > (0 : Int))) && (decide (((tree.getD (Int.toNat (IntKind.i64.wrap (i - (1 : Int)))) default).Id) ≥ ((tree.getD (Int.toNat i) default).Id))))) then some default else (bif (decide (((tree.getD (Int.toNat i) default).Parent) > (0 : Int))) then M.spec_l3Find (slc tree (0 : Int) i) ((tree.getD (Int.toNat i) default).Parent) else some default))).bind fun y2 =>
    bif (((!y1) || ((decide (i > (0 : Int))) && (decide (((tree.getD (Int.toNat (IntKind.i64.wrap (i - (1 : Int)))) default).Id) ≥ ((tree.getD (Int.toNat i) default).Id))))) || ((decide (((tree.getD (Int.toNat i) default).Parent) > (0 : Int))) && (decide (y2 < (0 : Int))))) then (
      some (.inr (.inr false)))
    else (
      (iterO (M.spec_l3Good_l1 tree i) (0 : Int)).bind fun e => match e with
      | .inl () =>
        (some (.inl (IntKind.i64.wrap (i + (1 : Int)))))
      | .inr r => some (.inr (.inr r))))
  else (
    some (.inr (.inl ())))

def M.spec_l3Good (tree : List Function) : Option Bool :=
  (iterO (M.spec_l3Good_l0 tree) (0 : Int)).bind fun e => match e with
  | .inl () =>
    (some (decide ((tree.length : Int) ≤ (15 : Int))))
  | .inr r => some r

def M.spec_l1Cur_tree3_l0 : (List Function × Int × Int × Cur) → Option ((List Function × Int × Int × Cur) ⊕ (List Function × Cur)) := fun st_ => match st_ with
| (out_0, id_, n_, c_0) =>
  bif (decide (n_ > (0 : Int))) then (
    (((
      (M.spec_l1Cur_pick c_0 (2 : Int)).bind fun y2 =>
      (M.spec_l1Cur_of y2.2 ([[108, 97, 119], [116, 97, 120], [115, 116, 97, 102, 102], [114, 111, 97, 100, 115], [104, 101, 97, 108, 116, 104]] : List (List UInt8))).bind fun y3 =>
      (((
        ((bif (decide ((out_0.length : Int) > (0 : Int))) then M.spec_l1Cur_one y3.2 (4 : Int) else some default)).bind fun y4 =>
        bif ((decide ((out_0.length : Int) > (0 : Int))) && (!y4.1)) then (
          (M.spec_l1Cur_pick (bif (decide ((out_0.length : Int) > (0 : Int))) then y4.2 else y3.2) (out_0.length : Int)).bind fun y5 =>
          asrt ((0 : Int) ≤ y5.1 ∧ y5.1 < (out_0.length : Int)) <|
          some (y5.2, (⟨(IntKind.i64.wrap ((IntKind.i64.wrap (id_ + (1 : Int))) + y2.1)), (out_0.getD (Int.toNat y5.1) default).Id, y3.1⟩ : Function)))
        else (
          some ((bif (decide ((out_0.length : Int) > (0 : Int))) then y4.2 else y3.2), (⟨(IntKind.i64.wrap ((IntKind.i64.wrap (id_ + (1 : Int))) + y2.1)), (0 : Int), y3.1⟩ : Function)))) : Option (Cur × Function))).bind fun e => match e with
      | (c_2, f_) =>
        ((((
          (M.spec_l1Cur_pick c_2 (90 : Int)).bind fun y6 =>
          (((
            bif (y6.1 == (0 : Int)) then (
              (M.spec_l1Cur_among y6.2 ([(0 : Int), (99 : Int), (100 : Int)] : List Int)).bind fun y7 =>
              some (y7.2, (⟨y7.1, f_.Parent, f_.Name⟩ : Function)))
            else (
              bif (y6.1 == (1 : Int)) then (
                (M.spec_l1Cur_among y6.2 ([(-1 : Int), f_.Id, (90 : Int)] : List Int)).bind fun y8 =>
                some (y8.2, (⟨f_.Id, y8.1, f_.Name⟩ : Function)))
              else (
                bif (y6.1 == (2 : Int)) then (
                  (M.spec_l1Cur_of y6.2 ([[], [65], [97, 98, 99, 100, 101, 102, 103, 104, 105, 106, 107]] : List (List UInt8))).bind fun y9 =>
                  some (y9.2, (⟨f_.Id, f_.Parent, y9.1⟩ : Function)))
                else (
                  some (y6.2, f_))))) : Option (Cur × Function))).bind fun e => match e with
          | (c_4, f_1) =>
            (some (c_4, f_1))) : Option (Cur × Function))).bind fun e => match e with
        | (c_3, f_0) =>
          (asrt ((([] : List Function).length : Int) + (out_0.length : Int) ≤ 2147483648) <|
          asrt (((([] : List Function) ++ out_0).length : Int) + (([f_0] : List Function).length : Int) ≤ 2147483648) <|
          (((
            some ((([] : List Function) ++ out_0) ++ ([f_0] : List Function))) : Option (List Function))).bind fun e => match e with
          | next =>
            ((M.spec_l3Good next).bind fun y10 =>
            ((bif y10 then some default else M.spec_l1Cur_one c_3 (40 : Int))).bind fun y11 =>
            bif (y10 || y11.1) then (
              some (next, (IntKind.i64.wrap ((IntKind.i64.wrap (id_ + (1 : Int))) + y2.1)), (bif y10 then c_3 else y11.2)))
            else (
              some (out_0, (IntKind.i64.wrap ((IntKind.i64.wrap (id_ + (1 : Int))) + y2.1)), (bif y10 then c_3 else y11.2))))))) : Option (List Function × Int × Cur))).bind fun e => match e with
    | (out_1, id_0, c_1) =>
      (some (.inl (out_1, id_0, (IntKind.i64.wrap (n_ - (1 : Int))), c_1))))
  else (
    some (.inr (out_0, c_0)))

def M.spec_l1Cur_tree3_l1 : (List Function × Int × Cur) → Option ((List Function × Int × Cur) ⊕ (List Function × Cur)) := fun st_ => match st_ with
| (out_3, n_0, c_6) =>
  (M.spec_l1Cur_pick c_6 (2 : Int)).bind fun y14 =>
  bif (decide (n_0 < (IntKind.i64.wrap ((15 : Int) + y14.1)))) then (
    asrt ((out_3.length : Int) + (([(⟨(IntKind.i64.wrap (n_0 + (1 : Int))), n_0, [97]⟩ : Function)] : List Function).length : Int) ≤ 2147483648) <|
    some (.inl ((out_3 ++ ([(⟨(IntKind.i64.wrap (n_0 + (1 : Int))), n_0, [97]⟩ : Function)] : List Function)), (IntKind.i64.wrap (n_0 + (1 : Int))), y14.2)))
  else (
    some (.inr (out_3, y14.2)))

def M.spec_l1Cur_tree3 (c : Cur) : Option (List Function × Cur) :=
  (M.spec_l1Cur_pick c (10 : Int)).bind fun y0 =>
  (iterO (M.spec_l1Cur_tree3_l0) (([] : List Function), (0 : Int), y0.1, y0.2)).bind fun e => match e with
  | (out_, c_) =>
    ((M.spec_l1Cur_one c_ (24 : Int)).bind fun y12 =>
    bif y12.1 then (
      (iterO (M.spec_l1Cur_tree3_l1) (([] : List Function), (0 : Int), y12.2)).bind fun e => match e with
      | (out_2, c_5) =>
        (some (out_2, c_5)))
    else (
      some (out_, y12.2)))

def M.spec_l1Cur_functionId (c : Cur) (tree : List Function) : Option (Int × Cur) :=
  ((bif ((tree.length : Int) == (0 : Int)) then some default else M.spec_l1Cur_one c (10 : Int))).bind fun y0 =>
  bif (((tree.length : Int) == (0 : Int)) || y0.1) then (
    (M.spec_l1Cur_among (bif ((tree.length : Int) == (0 : Int)) then c else y0.2) ([(0 : Int), (1 : Int), (50 : Int)] : List Int)).bind fun y1 =>
    some (y1.1, y1.2))
  else (
    (M.spec_l1Cur_pick (bif ((tree.length : Int) == (0 : Int)) then c else y0.2) (tree.length : Int)).bind fun y2 =>
    asrt ((0 : Int) ≤ y2.1 ∧ y2.1 < (tree.length : Int)) <|
    some ((tree.getD (Int.toNat y2.1) default).Id, y2.2))

def M.spec_DrawPathTo (code : List Int) : Option (List Function × Int) :=
  (M.spec_l1Cur_tree3 (⟨code, (0 : Int), (0 : Int)⟩ : Cur)).bind fun y0 =>
  (M.spec_l1Cur_functionId y0.2 y0.1).bind fun y1 =>
  some (y0.1, y1.1)

def M.spec_DrawNamedPath (code : List Int) : Option (List Function × Int) :=
  (M.spec_DrawPathTo code).bind fun y0 =>
  some (y0.1, y0.2)

def M.impl_within (n : Int) (low : Int) (high : Int) : Option Bool :=
  some ((decide (low ≤ n)) && (decide (n ≤ high)))

def M.impl_isId (id_ : Int) : Option Bool :=
  (M.impl_within id_ (1 : Int) (99 : Int)).bind fun y0 =>
  some y0

def M.strings_Trim (s cutset : List UInt8) : Option (List UInt8) := asrt (s.length ≤ 9223372036854775807 ∧ cutset.length < 4294967281 ∧ cutset.all (fun b => decide (b.toNat < 128)) = true) <| some (Go.Lib.trimS s cutset)

def M.impl_isWord (s : List UInt8) : Option Bool :=
  (M.impl_within (s.length : Int) (1 : Int) (10 : Int)).bind fun y0 =>
  ((bif y0 then M.strings_Trim s ([97, 98, 99, 100, 101, 102, 103, 104, 105, 106, 107, 108, 109, 110, 111, 112, 113, 114, 115, 116, 117, 118, 119, 120, 121, 122]) else some default)).bind fun y1 =>
  some (y0 && (y1 == ([])))

def M.impl_IsFunction (f : Function) : Option Bool :=
  (M.impl_isId f.Id).bind fun y0 =>
  ((bif y0 then M.impl_within f.Parent (0 : Int) (IntKind.i64.wrap (f.Id - (1 : Int))) else some default)).bind fun y1 =>
  ((bif (y0 && y1) then M.impl_isWord f.Name else some default)).bind fun y2 =>
  some ((y0 && y1) && y2)

def M.impl_functionAt_1 (f : Function) (id_c : Int) : Option Bool :=
  some (f.Id == id_c)

def M.slices_IndexFunc_impl_Function_impl_Function_l0 (s : List Function) (fm : Function → Option Bool) : (Int) → Option ((Int) ⊕ ((Unit) ⊕ (Int))) := fun st_ => match st_ with
| v =>
  bif (decide (v < (s.length : Int))) then (
    asrt ((0 : Int) ≤ v ∧ v < (s.length : Int)) <|
    (fm (s.getD (Int.toNat v) default)).bind fun y1 =>
    bif y1 then (
      some (.inr (.inr v)))
    else (
      some (.inl (IntKind.i64.wrap (v + (1 : Int))))))
  else (
    some (.inr (.inl ())))

def M.slices_IndexFunc_impl_Function_impl_Function (s : List Function) (fm : Function → Option Bool) : Option Int :=
  (iterO (M.slices_IndexFunc_impl_Function_impl_Function_l0 s fm) (0 : Int)).bind fun e => match e with
  | .inl () =>
    (some (-1 : Int))
  | .inr r => some r

def M.impl_functionAt (tree : List Function) (id_ : Int) : Option Int :=
  (M.slices_IndexFunc_impl_Function_impl_Function tree (fun x0 => M.impl_functionAt_1 x0 id_)).bind fun y0 =>
  some y0

def M.impl_IsTree_1 (g : Function) (f_c : Function) : Option Bool :=
  some ((g.Parent == f_c.Parent) && (g.Name == f_c.Name))

def M.slices_ContainsFunc_impl_Function_impl_Function (s : List Function) (fm : Function → Option Bool) : Option Bool :=
  (M.slices_IndexFunc_impl_Function_impl_Function s fm).bind fun y0 =>
  some (decide (y0 ≥ (0 : Int)))

def M.impl_IsTree_l0 (tree : List Function) : (Int) → Option ((Int) ⊕ ((Unit) ⊕ (Bool))) := fun st_ => match st_ with
| v =>
  bif (decide (v < (tree.length : Int))) then (
    asrt ((0 : Int) ≤ v ∧ v < (tree.length : Int)) <|
    (M.impl_IsFunction (tree.getD (Int.toNat v) default)).bind fun y1 =>
    asrt ((!y1) = false → (decide (v > (0 : Int))) = true → ((0 : Int) ≤ (IntKind.i64.wrap (v - (1 : Int))) ∧ (IntKind.i64.wrap (v - (1 : Int))) < (tree.length : Int))) <|
    ((bif ((!y1) || ((decide (v > (0 : Int))) && (decide (((tree.getD (Int.toNat (IntKind.i64.wrap (v - (1 : Int)))) default).Id) ≥ ((tree.getD (Int.toNat v) default).Id))))) then some default else (bif (decide (((tree.getD (Int.toNat v) default).Parent) > (0 : Int))) then M.impl_functionAt tree ((tree.getD (Int.toNat v) default).Parent) else some default))).bind fun y2 =>
    bif (((!y1) || ((decide (v > (0 : Int))) && (decide (((tree.getD (Int.toNat (IntKind.i64.wrap (v - (1 : Int)))) default).Id) ≥ ((tree.getD (Int.toNat v) default).Id))))) || ((decide (((tree.getD (Int.toNat v) default).Parent) > (0 : Int))) && (decide (y2 < (0 : Int))))) then (
      some (.inr (.inr false)))
    else (
      asrt ((0 : Int) ≤ (0 : Int) ∧ (0 : Int) ≤ v ∧ v ≤ (tree.length : Int)) <|
      (M.slices_ContainsFunc_impl_Function_impl_Function (slc tree (0 : Int) v) (fun x0 => M.impl_IsTree_1 x0 (tree.getD (Int.toNat v) default))).bind fun y3 =>
      bif y3 then (
        some (.inr (.inr false)))
      else (
        some (.inl (IntKind.i64.wrap (v + (1 : Int)))))))
  else (
    some (.inr (.inl ())))

def M.impl_IsTree (tree : List Function) : Option Bool :=
  (iterO (M.impl_IsTree_l0 tree) (0 : Int)).bind fun e => match e with
  | .inl () =>
    (some (decide ((tree.length : Int) ≤ (15 : Int))))
  | .inr r => some r

def M.slices_Reverse_int_int_l0 : (List Int × Int × Int) → Option ((List Int × Int × Int) ⊕ (List Int)) := fun st_ => match st_ with
| (s1, i, j_) =>
  bif (decide (i < j_)) then (
    asrt ((0 : Int) ≤ j_ ∧ j_ < (s1.length : Int)) <|
    asrt ((0 : Int) ≤ i ∧ i < (s1.length : Int)) <|
    asrt ((0 : Int) ≤ i ∧ i < (s1.length : Int)) <|
    asrt ((0 : Int) ≤ j_ ∧ j_ < ((s1.set (Int.toNat i) (s1.getD (Int.toNat j_) default)).length : Int)) <|
    (((
      some ((s1.set (Int.toNat i) (s1.getD (Int.toNat j_) default)).set (Int.toNat j_) (s1.getD (Int.toNat i) default))) : Option (List Int))).bind fun e => match e with
    | s2 =>
      (some (.inl (s2, (IntKind.i64.wrap (i + (1 : Int))), (IntKind.i64.wrap (j_ - (1 : Int)))))))
  else (
    some (.inr s1))

def M.slices_Reverse_int_int (s : List Int) : Option (List Int) :=
  (iterO (M.slices_Reverse_int_int_l0) (s, (0 : Int), (IntKind.i64.wrap ((s.length : Int) - (1 : Int))))).bind fun e => match e with
  | s0 =>
    (some s0)

def M.impl_pathTo_l0 (tree : List Function) : (Int × List Int) → Option ((Int × List Int) ⊕ (List Int)) := fun st_ => match st_ with
| (id_0, path0) =>
  bif (decide (id_0 > (0 : Int))) then (
    asrt ((path0.length : Int) + (([id_0] : List Int).length : Int) ≤ 2147483648) <|
    (M.impl_functionAt tree id_0).bind fun y1 =>
    asrt ((0 : Int) ≤ y1 ∧ y1 < (tree.length : Int)) <|
    some (.inl ((tree.getD (Int.toNat y1) default).Parent, (path0 ++ ([id_0] : List Int)))))
  else (
    some (.inr path0))

def M.impl_pathTo (tree : List Function) (id_ : Int) : Option (List Int) :=
  (iterO (M.impl_pathTo_l0 tree) (id_, ([] : List Int))).bind fun e => match e with
  | path =>
    ((M.slices_Reverse_int_int path).bind fun y2 =>
    asrt (y2.length = path.length) <|
    some y2)

def M.strings_Join (elems : List (List UInt8)) (sep : List UInt8) : Option (List UInt8) := asrt (elems.length ≤ 140737488355328 ∧ (Go.Lib.join elems sep).length ≤ 140737488355328) <| some (Go.Lib.join elems sep)

def M.impl_namedPath_l0 (tree : List Function) (y0 : List Int) : (List (List UInt8) × Int) → Option ((List (List UInt8) × Int) ⊕ (List (List UInt8))) := fun st_ => match st_ with
| (names0, v) =>
  bif (decide (v < (y0.length : Int))) then (
    asrt ((0 : Int) ≤ v ∧ v < (y0.length : Int)) <|
    (M.impl_functionAt tree (y0.getD (Int.toNat v) default)).bind fun y2 =>
    asrt ((0 : Int) ≤ y2 ∧ y2 < (tree.length : Int)) <|
    asrt ((names0.length : Int) + (([(tree.getD (Int.toNat y2) default).Name] : List (List UInt8)).length : Int) ≤ 2147483648) <|
    some (.inl ((names0 ++ ([(tree.getD (Int.toNat y2) default).Name] : List (List UInt8))), (IntKind.i64.wrap (v + (1 : Int))))))
  else (
    some (.inr names0))

def M.impl_namedPath (tree : List Function) (id_ : Int) : Option (List UInt8) :=
  (M.impl_pathTo tree id_).bind fun y0 =>
  (iterO (M.impl_namedPath_l0 tree y0) (([] : List (List UInt8)), (0 : Int))).bind fun e => match e with
  | names =>
    ((M.strings_Join names ([47])).bind fun y3 =>
    some y3)

def M.impl_NamedPath (tree : List Function) (id_ : Int) : Option (List UInt8 × Bool) :=
  (M.impl_IsTree tree).bind fun y0 =>
  ((bif (!y0) then some default else M.impl_functionAt tree id_)).bind fun y1 =>
  bif ((!y0) || (decide (y1 < (0 : Int)))) then (
    some ([], false))
  else (
    (M.impl_namedPath tree id_).bind fun y2 =>
    some (y2, true))

def M.spec_l3Path_l0 (tree : List Function) : (Int × List Int) → Option ((Int × List Int) ⊕ (List Int)) := fun st_ => match st_ with
| (id_0, out_0) =>
  bif (decide (id_0 > (0 : Int))) then (
    asrt ((([id_0] : List Int).length : Int) + (out_0.length : Int) ≤ 2147483648) <|
    (M.spec_l3Find tree id_0).bind fun y1 =>
    asrt ((0 : Int) ≤ y1 ∧ y1 < (tree.length : Int)) <|
    some (.inl ((tree.getD (Int.toNat y1) default).Parent, (([id_0] : List Int) ++ out_0))))
  else (
    some (.inr out_0))

def M.spec_l3Path (tree : List Function) (id_ : Int) : Option (List Int) :=
  (iterO (M.spec_l3Path_l0 tree) (id_, ([] : List Int))).bind fun e => match e with
  | out_ =>
    (some out_)

def M.spec_l3Named_l0 (tree : List Function) (y0 : List Int) : (List UInt8 × Int) → Option ((List UInt8 × Int) ⊕ (List UInt8)) := fun st_ => match st_ with
| (s0, i) =>
  bif (decide (i < (y0.length : Int))) then (
    (((
      (((
        bif (decide (i > (0 : Int))) then (
          asrt (s0.length + ([47]).length ≤ 9223372036854775807) <|
          some (s0 ++ ([47])))
        else (
          some s0)) : Option (List UInt8))).bind fun e => match e with
      | s2 =>
        (asrt ((0 : Int) ≤ i ∧ i < (y0.length : Int)) <|
        (M.spec_l3Find tree (y0.getD (Int.toNat i) default)).bind fun y2 =>
        asrt ((0 : Int) ≤ y2 ∧ y2 < (tree.length : Int)) <|
        asrt (s2.length + ((tree.getD (Int.toNat y2) default).Name).length ≤ 9223372036854775807) <|
        some (s2 ++ ((tree.getD (Int.toNat y2) default).Name)))) : Option (List UInt8))).bind fun e => match e with
    | s1 =>
      (some (.inl (s1, (IntKind.i64.wrap (i + (1 : Int)))))))
  else (
    some (.inr s0))

def M.spec_l3Named (tree : List Function) (id_ : Int) : Option (List UInt8) :=
  (M.spec_l3Path tree id_).bind fun y0 =>
  (iterO (M.spec_l3Named_l0 tree y0) ([], (0 : Int))).bind fun e => match e with
  | s =>
    (some s)

def M.spec_NamedPath (tree : List Function) (id_ : Int) : Option (List UInt8 × Bool) :=
  (M.spec_l3Good tree).bind fun y0 =>
  ((bif (!y0) then some default else M.spec_l3Find tree id_)).bind fun y1 =>
  bif ((!y0) || (decide (y1 < (0 : Int)))) then (
    some ([], false))
  else (
    (M.spec_l3Named tree id_).bind fun y2 =>
    some (y2, true))

def M.impl_FindPath_l0 (tree : List Function) (path : List UInt8) : (Int) → Option ((Int) ⊕ ((Unit) ⊕ (Int × Bool))) := fun st_ => match st_ with
| v =>
  bif (decide (v < (tree.length : Int))) then (
    asrt ((0 : Int) ≤ v ∧ v < (tree.length : Int)) <|
    (M.impl_namedPath tree ((tree.getD (Int.toNat v) default).Id)).bind fun y2 =>
    bif (y2 == path) then (
      some (.inr (.inr ((tree.getD (Int.toNat v) default).Id, true))))
    else (
      some (.inl (IntKind.i64.wrap (v + (1 : Int))))))
  else (
    some (.inr (.inl ())))

def M.impl_FindPath (tree : List Function) (path : List UInt8) : Option (Int × Bool) :=
  (M.impl_IsTree tree).bind fun y0 =>
  bif (!y0) then (
    some ((0 : Int), false))
  else (
    (iterO (M.impl_FindPath_l0 tree path) (0 : Int)).bind fun e => match e with
    | .inl () =>
      (some ((0 : Int), false))
    | .inr r => some r)

def M.slices_Index_int_int_l0 (s : List Int) (v : Int) : (Int) → Option ((Int) ⊕ ((Unit) ⊕ (Int))) := fun st_ => match st_ with
| v0 =>
  bif (decide (v0 < (s.length : Int))) then (
    asrt ((0 : Int) ≤ v0 ∧ v0 < (s.length : Int)) <|
    bif (v == (s.getD (Int.toNat v0) default)) then (
      some (.inr (.inr v0)))
    else (
      some (.inl (IntKind.i64.wrap (v0 + (1 : Int))))))
  else (
    some (.inr (.inl ())))

def M.slices_Index_int_int (s : List Int) (v : Int) : Option Int :=
  (iterO (M.slices_Index_int_int_l0 s v) (0 : Int)).bind fun e => match e with
  | .inl () =>
    (some (-1 : Int))
  | .inr r => some r

def M.slices_Contains_int_int (s : List Int) (v : Int) : Option Bool :=
  (M.slices_Index_int_int s v).bind fun y0 =>
  some (decide (y0 ≥ (0 : Int)))

def M.impl_UnderOf_l0 (tree : List Function) (id_ : Int) : (List Int × Int) → Option ((List Int × Int) ⊕ (List Int)) := fun st_ => match st_ with
| (ids0, v) =>
  bif (decide (v < (tree.length : Int))) then (
    (((
      asrt ((0 : Int) ≤ v ∧ v < (tree.length : Int)) <|
      (M.impl_pathTo tree ((tree.getD (Int.toNat v) default).Id)).bind fun y3 =>
      (M.slices_Contains_int_int y3 id_).bind fun y4 =>
      bif y4 then (
        asrt ((ids0.length : Int) + (([(tree.getD (Int.toNat v) default).Id] : List Int).length : Int) ≤ 2147483648) <|
        some (ids0 ++ ([(tree.getD (Int.toNat v) default).Id] : List Int)))
      else (
        some ids0)) : Option (List Int))).bind fun e => match e with
    | ids1 =>
      (some (.inl (ids1, (IntKind.i64.wrap (v + (1 : Int)))))))
  else (
    some (.inr ids0))

def M.impl_UnderOf (tree : List Function) (id_ : Int) : Option (List Int × Bool) :=
  (M.impl_IsTree tree).bind fun y0 =>
  ((bif (!y0) then some default else M.impl_functionAt tree id_)).bind fun y1 =>
  bif ((!y0) || (decide (y1 < (0 : Int)))) then (
    some (([] : List Int), false))
  else (
    (iterO (M.impl_UnderOf_l0 tree id_) (([] : List Int), (0 : Int))).bind fun e => match e with
    | ids =>
      (some (ids, true)))

def M.spec_l1Has_l0 (l : List Int) (n : Int) : (Int) → Option ((Int) ⊕ ((Unit) ⊕ (Bool))) := fun st_ => match st_ with
| i =>
  bif (decide (i < (l.length : Int))) then (
    asrt ((0 : Int) ≤ i ∧ i < (l.length : Int)) <|
    bif ((l.getD (Int.toNat i) default) == n) then (
      some (.inr (.inr true)))
    else (
      some (.inl (IntKind.i64.wrap (i + (1 : Int))))))
  else (
    some (.inr (.inl ())))

def M.spec_l1Has (l : List Int) (n : Int) : Option Bool :=
  (iterO (M.spec_l1Has_l0 l n) (0 : Int)).bind fun e => match e with
  | .inl () =>
    (some false)
  | .inr r => some r

def M.spec_UnderOf_l0 (tree : List Function) (id_ : Int) : (List Int × Int) → Option ((List Int × Int) ⊕ (List Int)) := fun st_ => match st_ with
| (out_0, i) =>
  bif (decide (i < (tree.length : Int))) then (
    (((
      asrt ((0 : Int) ≤ i ∧ i < (tree.length : Int)) <|
      (M.spec_l3Path tree ((tree.getD (Int.toNat i) default).Id)).bind fun y3 =>
      (M.spec_l1Has y3 id_).bind fun y4 =>
      bif y4 then (
        asrt ((0 : Int) ≤ i ∧ i < (tree.length : Int)) <|
        asrt ((out_0.length : Int) + (([(tree.getD (Int.toNat i) default).Id] : List Int).length : Int) ≤ 2147483648) <|
        some (out_0 ++ ([(tree.getD (Int.toNat i) default).Id] : List Int)))
      else (
        some out_0)) : Option (List Int))).bind fun e => match e with
    | out_1 =>
      (some (.inl (out_1, (IntKind.i64.wrap (i + (1 : Int)))))))
  else (
    some (.inr out_0))

def M.spec_UnderOf (tree : List Function) (id_ : Int) : Option (List Int × Bool) :=
  (M.spec_l3Good tree).bind fun y0 =>
  ((bif (!y0) then some default else M.spec_l3Find tree id_)).bind fun y1 =>
  bif ((!y0) || (decide (y1 < (0 : Int)))) then (
    some (([] : List Int), false))
  else (
    (iterO (M.spec_UnderOf_l0 tree id_) (([] : List Int), (0 : Int))).bind fun e => match e with
    | out_ =>
      (some (out_, true)))

def M.laws_rInts_l0 (a : List Int) (b_ : List Int) : (Int) → Option ((Int) ⊕ ((Unit) ⊕ (Bool))) := fun st_ => match st_ with
| i =>
  bif (decide (i < (a.length : Int))) then (
    asrt ((0 : Int) ≤ i ∧ i < (a.length : Int)) <|
    asrt ((0 : Int) ≤ i ∧ i < (b_.length : Int)) <|
    bif ((a.getD (Int.toNat i) default) != (b_.getD (Int.toNat i) default)) then (
      some (.inr (.inr false)))
    else (
      some (.inl (IntKind.i64.wrap (i + (1 : Int))))))
  else (
    some (.inr (.inl ())))

def M.laws_rInts (a : List Int) (b_ : List Int) : Option Bool :=
  bif ((a.length : Int) != (b_.length : Int)) then (
    some false)
  else (
    (iterO (M.laws_rInts_l0 a b_) (0 : Int)).bind fun e => match e with
    | .inl () =>
      (some true)
    | .inr r => some r)

def M.impl_PathTo (tree : List Function) (id_ : Int) : Option (List Int × Bool) :=
  (M.impl_IsTree tree).bind fun y0 =>
  ((bif (!y0) then some default else M.impl_functionAt tree id_)).bind fun y1 =>
  bif ((!y0) || (decide (y1 < (0 : Int)))) then (
    some (([] : List Int), false))
  else (
    (M.impl_pathTo tree id_).bind fun y2 =>
    some (y2, true))

def M.laws_rHas_l0 (list : List Int) (x : Int) : (Int) → Option ((Int) ⊕ ((Unit) ⊕ (Bool))) := fun st_ => match st_ with
| i =>
  bif (decide (i < (list.length : Int))) then (
    asrt ((0 : Int) ≤ i ∧ i < (list.length : Int)) <|
    bif ((list.getD (Int.toNat i) default) == x) then (
      some (.inr (.inr true)))
    else (
      some (.inl (IntKind.i64.wrap (i + (1 : Int))))))
  else (
    some (.inr (.inl ())))

def M.laws_rHas (list : List Int) (x : Int) : Option Bool :=
  (iterO (M.laws_rHas_l0 list x) (0 : Int)).bind fun e => match e with
  | .inl () =>
    (some false)
  | .inr r => some r

def M.spec_DrawSharedPath (code : List Int) : Option (List Function × Int × Int) :=
  (M.spec_l1Cur_tree3 (⟨code, (0 : Int), (0 : Int)⟩ : Cur)).bind fun y0 =>
  (M.spec_l1Cur_functionId y0.2 y0.1).bind fun y1 =>
  (M.spec_l1Cur_functionId y1.2 y0.1).bind fun y2 =>
  some (y0.1, y1.1, y2.1)

def M.impl_SharedPath_l0 (y3 : List Int) (y4 : List Int) : (Int) → Option ((Int) ⊕ (Int)) := fun st_ => match st_ with
| n_0 =>
  asrt (((decide (n_0 < (y3.length : Int))) && (decide (n_0 < (y4.length : Int)))) = true → ((0 : Int) ≤ n_0 ∧ n_0 < (y3.length : Int))) <|
  asrt (((decide (n_0 < (y3.length : Int))) && (decide (n_0 < (y4.length : Int)))) = true → ((0 : Int) ≤ n_0 ∧ n_0 < (y4.length : Int))) <|
  bif (((decide (n_0 < (y3.length : Int))) && (decide (n_0 < (y4.length : Int)))) && ((y3.getD (Int.toNat n_0) default) == (y4.getD (Int.toNat n_0) default))) then (
    some (.inl (IntKind.i64.wrap (n_0 + (1 : Int)))))
  else (
    some (.inr n_0))

def M.impl_SharedPath (tree : List Function) (a : Int) (b_ : Int) : Option (List Int × Bool) :=
  (M.impl_IsTree tree).bind fun y0 =>
  ((bif (!y0) then some default else M.impl_functionAt tree a)).bind fun y1 =>
  ((bif ((!y0) || (decide (y1 < (0 : Int)))) then some default else M.impl_functionAt tree b_)).bind fun y2 =>
  bif (((!y0) || (decide (y1 < (0 : Int)))) || (decide (y2 < (0 : Int)))) then (
    some (([] : List Int), false))
  else (
    (M.impl_pathTo tree a).bind fun y3 =>
    (M.impl_pathTo tree b_).bind fun y4 =>
    (iterO (M.impl_SharedPath_l0 y3 y4) (0 : Int)).bind fun e => match e with
    | n_ =>
      (asrt ((0 : Int) ≤ (0 : Int) ∧ (0 : Int) ≤ n_ ∧ n_ ≤ (y3.length : Int)) <|
      some ((slc y3 (0 : Int) n_), true)))

def M.spec_SharedPath_l0 (y3 : List Int) (y4 : List Int) : (List Int × Int) → Option ((List Int × Int) ⊕ (List Int)) := fun st_ => match st_ with
| (out_0, i) =>
  asrt (((decide (i < (y3.length : Int))) && (decide (i < (y4.length : Int)))) = true → ((0 : Int) ≤ i ∧ i < (y3.length : Int))) <|
  asrt (((decide (i < (y3.length : Int))) && (decide (i < (y4.length : Int)))) = true → ((0 : Int) ≤ i ∧ i < (y4.length : Int))) <|
  bif (((decide (i < (y3.length : Int))) && (decide (i < (y4.length : Int)))) && ((y3.getD (Int.toNat i) default) == (y4.getD (Int.toNat i) default))) then (
    asrt ((0 : Int) ≤ i ∧ i < (y3.length : Int)) <|
    asrt ((out_0.length : Int) + (([(y3.getD (Int.toNat i) default)] : List Int).length : Int) ≤ 2147483648) <|
    some (.inl ((out_0 ++ ([(y3.getD (Int.toNat i) default)] : List Int)), (IntKind.i64.wrap (i + (1 : Int))))))
  else (
    some (.inr out_0))

def M.spec_SharedPath (tree : List Function) (a : Int) (b_ : Int) : Option (List Int × Bool) :=
  (M.spec_l3Good tree).bind fun y0 =>
  ((bif (!y0) then some default else M.spec_l3Find tree a)).bind fun y1 =>
  ((bif ((!y0) || (decide (y1 < (0 : Int)))) then some default else M.spec_l3Find tree b_)).bind fun y2 =>
  bif (((!y0) || (decide (y1 < (0 : Int)))) || (decide (y2 < (0 : Int)))) then (
    some (([] : List Int), false))
  else (
    (M.spec_l3Path tree a).bind fun y3 =>
    (M.spec_l3Path tree b_).bind fun y4 =>
    (iterO (M.spec_SharedPath_l0 y3 y4) (([] : List Int), (0 : Int))).bind fun e => match e with
    | out_ =>
      (some (out_, true)))

def M.spec_l1Cur_spoilt (c : Cur) (t : List UInt8) (with_ : List UInt8) : Option (List UInt8 × Cur) :=
  bif (t == ([])) then (
    asrt ((0 : Int) ≤ (0 : Int) ∧ (0 : Int) ≤ (1 : Int) ∧ (1 : Int) ≤ (with_.length : Int)) <|
    some ((slc with_ (0 : Int) (1 : Int)), c))
  else (
    (M.spec_l1Cur_pick c (t.length : Int)).bind fun y0 =>
    (M.spec_l1Cur_pick y0.2 (with_.length : Int)).bind fun y1 =>
    asrt ((0 : Int) ≤ y1.1 ∧ y1.1 ≤ (with_.length : Int) ∧ (with_.length : Int) ≤ (with_.length : Int)) <|
    asrt ((0 : Int) ≤ (0 : Int) ∧ (0 : Int) ≤ (1 : Int) ∧ (1 : Int) ≤ ((slc with_ y1.1 (with_.length : Int)).length : Int)) <|
    (M.spec_l1Cur_pick y1.2 (3 : Int)).bind fun y2 =>
    bif (y2.1 == (0 : Int)) then (
      asrt ((0 : Int) ≤ (0 : Int) ∧ (0 : Int) ≤ y0.1 ∧ y0.1 ≤ (t.length : Int)) <|
      asrt ((slc t (0 : Int) y0.1).length + (slc (slc with_ y1.1 (with_.length : Int)) (0 : Int) (1 : Int)).length ≤ 9223372036854775807) <|
      asrt ((0 : Int) ≤ y0.1 ∧ y0.1 ≤ (t.length : Int) ∧ (t.length : Int) ≤ (t.length : Int)) <|
      asrt (((slc t (0 : Int) y0.1) ++ (slc (slc with_ y1.1 (with_.length : Int)) (0 : Int) (1 : Int))).length + (slc t y0.1 (t.length : Int)).length ≤ 9223372036854775807) <|
      some ((((slc t (0 : Int) y0.1) ++ (slc (slc with_ y1.1 (with_.length : Int)) (0 : Int) (1 : Int))) ++ (slc t y0.1 (t.length : Int))), y2.2))
    else (
      bif (y2.1 == (1 : Int)) then (
        asrt ((0 : Int) ≤ (0 : Int) ∧ (0 : Int) ≤ y0.1 ∧ y0.1 ≤ (t.length : Int)) <|
        asrt ((slc t (0 : Int) y0.1).length + (slc (slc with_ y1.1 (with_.length : Int)) (0 : Int) (1 : Int)).length ≤ 9223372036854775807) <|
        asrt ((0 : Int) ≤ (IntKind.i64.wrap (y0.1 + (1 : Int))) ∧ (IntKind.i64.wrap (y0.1 + (1 : Int))) ≤ (t.length : Int) ∧ (t.length : Int) ≤ (t.length : Int)) <|
        asrt (((slc t (0 : Int) y0.1) ++ (slc (slc with_ y1.1 (with_.length : Int)) (0 : Int) (1 : Int))).length + (slc t (IntKind.i64.wrap (y0.1 + (1 : Int))) (t.length : Int)).length ≤ 9223372036854775807) <|
        some ((((slc t (0 : Int) y0.1) ++ (slc (slc with_ y1.1 (with_.length : Int)) (0 : Int) (1 : Int))) ++ (slc t (IntKind.i64.wrap (y0.1 + (1 : Int))) (t.length : Int))), y2.2))
      else (
        asrt ((0 : Int) ≤ (0 : Int) ∧ (0 : Int) ≤ y0.1 ∧ y0.1 ≤ (t.length : Int)) <|
        asrt ((0 : Int) ≤ (IntKind.i64.wrap (y0.1 + (1 : Int))) ∧ (IntKind.i64.wrap (y0.1 + (1 : Int))) ≤ (t.length : Int) ∧ (t.length : Int) ≤ (t.length : Int)) <|
        asrt ((slc t (0 : Int) y0.1).length + (slc t (IntKind.i64.wrap (y0.1 + (1 : Int))) (t.length : Int)).length ≤ 9223372036854775807) <|
        some (((slc t (0 : Int) y0.1) ++ (slc t (IntKind.i64.wrap (y0.1 + (1 : Int))) (t.length : Int))), y2.2))))

def M.spec_DrawFindPath (code : List Int) : Option (List Function × List UInt8) :=
  (M.spec_l1Cur_tree3 (⟨code, (0 : Int), (0 : Int)⟩ : Cur)).bind fun y0 =>
  (M.spec_l1Cur_functionId y0.2 y0.1).bind fun y1 =>
  (M.spec_NamedPath y0.1 y1.1).bind fun y2 =>
  (((
    (M.spec_l1Cur_one y1.2 (4 : Int)).bind fun y3 =>
    bif y3.1 then (
      (M.spec_l1Cur_spoilt y3.2 y2.1 ([47, 108, 97, 119, 32])).bind fun y4 =>
      some (y4.1, y4.2))
    else (
      some (y2.1, y3.2))) : Option (List UInt8 × Cur))).bind fun e => match e with
  | (s, c_) =>
    (some (y0.1, s))

def M.spec_FindPath_l0 (tree : List Function) (path : List UInt8) : (Int) → Option ((Int) ⊕ ((Unit) ⊕ (Int × Bool))) := fun st_ => match st_ with
| i =>
  ((bif (decide (i < (tree.length : Int))) then M.spec_l3Good tree else some default)).bind fun y1 =>
  bif ((decide (i < (tree.length : Int))) && y1) then (
    asrt ((0 : Int) ≤ i ∧ i < (tree.length : Int)) <|
    (M.spec_l3Named tree ((tree.getD (Int.toNat i) default).Id)).bind fun y2 =>
    bif (y2 == path) then (
      asrt ((0 : Int) ≤ i ∧ i < (tree.length : Int)) <|
      some (.inr (.inr ((tree.getD (Int.toNat i) default).Id, true))))
    else (
      some (.inl (IntKind.i64.wrap (i + (1 : Int))))))
  else (
    some (.inr (.inl ())))

def M.spec_FindPath (tree : List Function) (path : List UInt8) : Option (Int × Bool) :=
  (iterO (M.spec_FindPath_l0 tree path) (0 : Int)).bind fun e => match e with
  | .inl () =>
    (some ((0 : Int), false))
  | .inr r => some r

def M.spec_IsTree (tree : List Function) : Option Bool :=
  (M.spec_l3Good tree).bind fun y0 =>
  some y0

def M.laws_FnTrees_l0 (y1 : List Function × Int) (y5 : List Int × Bool) : (Int) → Option ((Int) ⊕ ((Unit) ⊕ (Bool))) := fun st_ => match st_ with
| i =>
  bif ((decide (i < (y1.1.length : Int))) && y5.2) then (
    asrt ((0 : Int) ≤ i ∧ i < (y1.1.length : Int)) <|
    (M.impl_PathTo y1.1 ((y1.1.getD (Int.toNat i) default).Id)).bind fun y9 =>
    asrt ((!y9.2) = false → ((0 : Int) ≤ i ∧ i < (y1.1.length : Int))) <|
    ((bif (!y9.2) then some default else M.laws_rHas y5.1 ((y1.1.getD (Int.toNat i) default).Id))).bind fun y10 =>
    ((bif (!y9.2) then some default else M.laws_rHas y9.1 y1.2)).bind fun y11 =>
    bif ((!y9.2) || (!(y10 == y11))) then (
      some (.inr (.inr false)))
    else (
      some (.inl (IntKind.i64.wrap (i + (1 : Int))))))
  else (
    some (.inr (.inl ())))

def M.laws_FnTrees (code : List Int) : Option Bool :=
  (M.laws_rBig code).bind fun y0 =>
  bif y0 then (
    some true)
  else (
    (M.spec_DrawNamedPath code).bind fun y1 =>
    (M.impl_NamedPath y1.1 y1.2).bind fun y2 =>
    (M.spec_NamedPath y1.1 y1.2).bind fun y3 =>
    bif ((!(y2.1 == y3.1)) || (!(y2.2 == y3.2))) then (
      some false)
    else (
      (M.impl_FindPath y1.1 y2.1).bind fun y4 =>
      bif (y2.2 && ((!y4.2) || (y4.1 != y1.2))) then (
        some false)
      else (
        (M.impl_UnderOf y1.1 y1.2).bind fun y5 =>
        (M.spec_UnderOf y1.1 y1.2).bind fun y6 =>
        ((bif ((!(y5.2 == y6.2)) || (!(y5.2 == y2.2))) then some default else M.laws_rInts y5.1 y6.1)).bind fun y7 =>
        bif (((!(y5.2 == y6.2)) || (!(y5.2 == y2.2))) || (!y7)) then (
          some false)
        else (
          (iterO (M.laws_FnTrees_l0 y1 y5) (0 : Int)).bind fun e => match e with
          | .inl () =>
            ((M.spec_DrawSharedPath code).bind fun y12 =>
            (M.impl_SharedPath y12.1 y12.2.1 y12.2.2).bind fun y13 =>
            (M.spec_SharedPath y12.1 y12.2.1 y12.2.2).bind fun y14 =>
            ((bif (!(y13.2 == y14.2)) then some default else M.laws_rInts y13.1 y14.1)).bind fun y15 =>
            bif ((!(y13.2 == y14.2)) || (!y15)) then (
              some false)
            else (
              (((
                bif y13.2 then (
                  (M.impl_PathTo y12.1 y12.2.1).bind fun y16 =>
                  (M.impl_PathTo y12.1 y12.2.2).bind fun y17 =>
                  asrt (((((!y16.2) || (!y17.2)) || (decide ((y16.1.length : Int) < (y13.1.length : Int)))) || (decide ((y17.1.length : Int) < (y13.1.length : Int)))) = false → ((0 : Int) ≤ (0 : Int) ∧ (0 : Int) ≤ (y13.1.length : Int) ∧ (y13.1.length : Int) ≤ (y16.1.length : Int))) <|
                  ((bif ((((!y16.2) || (!y17.2)) || (decide ((y16.1.length : Int) < (y13.1.length : Int)))) || (decide ((y17.1.length : Int) < (y13.1.length : Int)))) then some default else M.laws_rInts (slc y16.1 (0 : Int) (y13.1.length : Int)) y13.1)).bind fun y18 =>
                  asrt ((((((!y16.2) || (!y17.2)) || (decide ((y16.1.length : Int) < (y13.1.length : Int)))) || (decide ((y17.1.length : Int) < (y13.1.length : Int)))) || (!y18)) = false → ((0 : Int) ≤ (0 : Int) ∧ (0 : Int) ≤ (y13.1.length : Int) ∧ (y13.1.length : Int) ≤ (y17.1.length : Int))) <|
                  ((bif (((((!y16.2) || (!y17.2)) || (decide ((y16.1.length : Int) < (y13.1.length : Int)))) || (decide ((y17.1.length : Int) < (y13.1.length : Int)))) || (!y18)) then some default else M.laws_rInts (slc y17.1 (0 : Int) (y13.1.length : Int)) y13.1)).bind fun y19 =>
                  asrt (((((((!y16.2) || (!y17.2)) || (decide ((y16.1.length : Int) < (y13.1.length : Int)))) || (decide ((y17.1.length : Int) < (y13.1.length : Int)))) || (!y18)) || (!y19)) = false → ((decide ((y16.1.length : Int) > (y13.1.length : Int))) && (decide ((y17.1.length : Int) > (y13.1.length : Int)))) = true → ((0 : Int) ≤ (y13.1.length : Int) ∧ (y13.1.length : Int) < (y16.1.length : Int))) <|
                  asrt (((((((!y16.2) || (!y17.2)) || (decide ((y16.1.length : Int) < (y13.1.length : Int)))) || (decide ((y17.1.length : Int) < (y13.1.length : Int)))) || (!y18)) || (!y19)) = false → ((decide ((y16.1.length : Int) > (y13.1.length : Int))) && (decide ((y17.1.length : Int) > (y13.1.length : Int)))) = true → ((0 : Int) ≤ (y13.1.length : Int) ∧ (y13.1.length : Int) < (y17.1.length : Int))) <|
                  bif (((((((!y16.2) || (!y17.2)) || (decide ((y16.1.length : Int) < (y13.1.length : Int)))) || (decide ((y17.1.length : Int) < (y13.1.length : Int)))) || (!y18)) || (!y19)) || (((decide ((y16.1.length : Int) > (y13.1.length : Int))) && (decide ((y17.1.length : Int) > (y13.1.length : Int)))) && ((y16.1.getD (Int.toNat (y13.1.length : Int)) default) == (y17.1.getD (Int.toNat (y13.1.length : Int)) default)))) then (
                    some (.inr false))
                  else (
                    some (.inl ())))
                else (
                  some (.inl ()))) : Option ((Unit) ⊕ (Bool)))).bind fun e => match e with
              | .inl () =>
                ((M.spec_DrawFindPath code).bind fun y20 =>
                (M.impl_FindPath y20.1 y20.2).bind fun y21 =>
                (M.spec_FindPath y20.1 y20.2).bind fun y22 =>
                ((bif ((y21.1 == y22.1) && (y21.2 == y22.2)) then M.impl_IsTree y20.1 else some default)).bind fun y23 =>
                ((bif ((y21.1 == y22.1) && (y21.2 == y22.2)) then M.spec_IsTree y20.1 else some default)).bind fun y24 =>
                some (((y21.1 == y22.1) && (y21.2 == y22.2)) && (y23 == y24)))
              | .inr r => some r))
          | .inr r => some r))))
end Go.Proofs.YtjfpdbhjoofllaaDoor
