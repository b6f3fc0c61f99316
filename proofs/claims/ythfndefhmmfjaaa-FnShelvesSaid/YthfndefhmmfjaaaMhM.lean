/- models of the functions -/
import Derived.Test.YthfndefhmmfjaaaWj
set_option linter.unusedSimpArgs false
set_option linter.unusedVariables false
set_option maxRecDepth 100000
namespace Go.Proofs.Ythfndefhmmfjaaa
open Go.VS

structure Cur where
  Code : List Int
  At : Int
  Seed : Int
  deriving Inhabited, DecidableEq

abbrev encCur (ρ : Nat) (c : Cur) : PV := .agg [.vl ρ 1 (List.map encU8 c.Code), .int .i64 c.At, .int .u64 c.Seed]

structure Carton where
  Id : Int
  Shelf : Int
  Room : Int
  Files : List Int
  Thick : Int
  deriving Inhabited, DecidableEq

abbrev encCarton (ρ : Nat) (c : Carton) : PV := .agg [.int .i64 c.Id, .int .i64 c.Shelf, .int .i64 c.Room, .vl ρ 1 (List.map encInt c.Files), .int .i64 c.Thick]

def M.laws_rBig (code : List Int) : Option Bool :=
  some (decide ((code.length : Int) > (65536 : Int)))

def M.spec_l1Cur_next (c : Cur) : Option (Int × Cur) :=
  (((
    bif (decide (c.At < (c.Code.length : Int))) then (
      asrt ((0 : Int) ≤ c.At ∧ c.At < (c.Code.length : Int)) <|
      some (IntKind.i64.wrap (c.Code.getD (Int.toNat c.At) default)))
    else (
      some (0 : Int))) : Option Int)).bind fun e => match e with
  | b_ =>
    (bif (decide ((IntKind.i64.wrap (c.At + (1 : Int))) ≤ (c.Code.length : Int))) then (
      some (b_, (⟨c.Code, (IntKind.i64.wrap (c.At + (1 : Int))), (IntKind.u64.wrap ((IntKind.u64.wrap ((IntKind.u64.wrap (c.Seed * (6364136223846793005 : Int))) + (IntKind.u64.wrap b_))) + (103535 : Int)))⟩ : Cur)))
    else (
      some ((IntKind.i64.wrap (IntKind.u64.wrap (BitVec.ofInt IntKind.u64.bits (Int.fdiv (IntKind.u64.wrap ((IntKind.u64.wrap ((IntKind.u64.wrap (c.Seed * (6364136223846793005 : Int))) + (IntKind.u64.wrap b_))) + (103535 : Int))) (2 ^ (min (Int.toNat (40 : Int)) IntKind.u64.bits))) &&& BitVec.ofInt IntKind.u64.bits (255 : Int)).toNat)), (⟨c.Code, (IntKind.i64.wrap (c.At + (1 : Int))), (IntKind.u64.wrap ((IntKind.u64.wrap ((IntKind.u64.wrap (c.Seed * (6364136223846793005 : Int))) + (IntKind.u64.wrap b_))) + (103535 : Int)))⟩ : Cur))))

def M.spec_l1Cur_pick (c : Cur) (n : Int) : Option (Int × Cur) :=
  bif (decide (n ≤ (1 : Int))) then (
    some ((0 : Int), c))
  else (
    (M.spec_l1Cur_next c).bind fun y0 =>
    (((
      bif (decide (n > (200 : Int))) then (
        (M.spec_l1Cur_next y0.2).bind fun y1 =>
        some ((IntKind.i64.wrap ((IntKind.i64.wrap (y0.1 * (256 : Int))) + y1.1)), y1.2))
      else (
        some (y0.1, y0.2))) : Option (Int × Cur))).bind fun e => match e with
    | (x, c_) =>
      (asrt (n ≠ 0) <|
      some ((Int.tmod x n), c_)))

def M.spec_l1Cur_among (c : Cur) (list : List Int) : Option (Int × Cur) :=
  (M.spec_l1Cur_pick c (list.length : Int)).bind fun y0 =>
  asrt ((0 : Int) ≤ y0.1 ∧ y0.1 < (list.length : Int)) <|
  some ((list.getD (Int.toNat y0.1) default), y0.2)

def M.spec_l1Cur_carton_l0 : (Int × Int × List Int × Cur) → Option ((Int × Int × List Int × Cur) ⊕ (Int × List Int × Cur)) := fun st_ => match st_ with
| (first1, n_, x_Files0, c_0) =>
  bif (decide (n_ > (0 : Int))) then (
    asrt ((x_Files0.length : Int) + (([first1] : List Int).length : Int) ≤ 2147483648) <|
    (M.spec_l1Cur_pick c_0 (2 : Int)).bind fun y5 =>
    some (.inl ((IntKind.i64.wrap ((IntKind.i64.wrap (first1 + (1 : Int))) + y5.1)), (IntKind.i64.wrap (n_ - (1 : Int))), (x_Files0 ++ ([first1] : List Int)), y5.2)))
  else (
    some (.inr (first1, x_Files0, c_0)))

def M.spec_l1Cur_carton_l1 : (Int × List Int × Cur) → Option ((Int × List Int × Cur) ⊕ (List Int × Cur)) := fun st_ => match st_ with
| (first2, x_Files4, c_3) =>
  (M.spec_l1Cur_pick c_3 (2 : Int)).bind fun y13 =>
  bif (decide ((x_Files4.length : Int) < (IntKind.i64.wrap ((12 : Int) + y13.1)))) then (
    asrt ((x_Files4.length : Int) + (([first2] : List Int).length : Int) ≤ 2147483648) <|
    some (.inl ((IntKind.i64.wrap (first2 + (1 : Int))), (x_Files4 ++ ([first2] : List Int)), y13.2)))
  else (
    some (.inr (x_Files4, y13.2)))

def M.spec_l1Cur_carton (c : Cur) (id_ : Int) (first : Int) : Option (Carton × Cur) :=
  (M.spec_l1Cur_among c ([(1 : Int), (1 : Int), (2 : Int), (30 : Int)] : List Int)).bind fun y0 =>
  (M.spec_l1Cur_among y0.2 ([(1 : Int), (1 : Int), (2 : Int), (9 : Int)] : List Int)).bind fun y1 =>
  (M.spec_l1Cur_among y1.2 ([(1 : Int), (10 : Int), (20 : Int), (30 : Int), (40 : Int)] : List Int)).bind fun y2 =>
  (M.spec_l1Cur_pick y2.2 (6 : Int)).bind fun y3 =>
  (iterO (M.spec_l1Cur_carton_l0) (first, y3.1, ([] : List Int), y3.2)).bind fun e => match e with
  | (first0, x_Files, c_) =>
    ((M.spec_l1Cur_pick c_ (70 : Int)).bind fun y6 =>
    (((
      bif (y6.1 == (0 : Int)) then (
        (M.spec_l1Cur_among y6.2 ([(0 : Int), (99 : Int), (100 : Int)] : List Int)).bind fun y7 =>
        some (y7.1, y0.1, y1.1, x_Files, y2.1, y7.2))
      else (
        bif (y6.1 == (1 : Int)) then (
          (M.spec_l1Cur_among y6.2 ([(0 : Int), (31 : Int)] : List Int)).bind fun y8 =>
          some (id_, y8.1, y1.1, x_Files, y2.1, y8.2))
        else (
          bif (y6.1 == (2 : Int)) then (
            (M.spec_l1Cur_among y6.2 ([(0 : Int), (10 : Int)] : List Int)).bind fun y9 =>
            some (id_, y0.1, y9.1, x_Files, y2.1, y9.2))
          else (
            bif (y6.1 == (3 : Int)) then (
              (M.spec_l1Cur_among y6.2 ([(0 : Int), (41 : Int)] : List Int)).bind fun y10 =>
              some (id_, y0.1, y1.1, x_Files, y10.1, y10.2))
            else (
              bif (y6.1 == (4 : Int)) then (
                (M.spec_l1Cur_among y6.2 ([(0 : Int), (5 : Int), (1000 : Int)] : List Int)).bind fun y11 =>
                asrt ((x_Files.length : Int) + (([y11.1] : List Int).length : Int) ≤ 2147483648) <|
                (((
                  some ((x_Files ++ ([y11.1] : List Int)), y11.2)) : Option (List Int × Cur))).bind fun e => match e with
                | (x_Files2, o) =>
                  (some (id_, y0.1, y1.1, x_Files2, y2.1, o)))
              else (
                bif (y6.1 == (5 : Int)) then (
                  (iterO (M.spec_l1Cur_carton_l1) (first0, x_Files, y6.2)).bind fun e => match e with
                  | (x_Files3, c_2) =>
                    (some (id_, y0.1, y1.1, x_Files3, y2.1, c_2)))
                else (
                  some (id_, y0.1, y1.1, x_Files, y2.1, y6.2)))))))) : Option (Int × Int × Int × List Int × Int × Cur))).bind fun e => match e with
    | (x_Id, x_Shelf, x_Room, x_Files1, x_Thick, c_1) =>
      (some ((⟨x_Id, x_Shelf, x_Room, x_Files1, x_Thick⟩ : Carton), c_1)))

def M.spec_l1In (x : Int) (a : Int) (b_ : Int) : Option Bool :=
  some ((decide (x ≥ a)) && (decide (x ≤ b_)))

def M.spec_l18Place (room : Int) (shelf : Int) : Option Bool :=
  (M.spec_l1In room (1 : Int) (9 : Int)).bind fun y0 =>
  ((bif y0 then M.spec_l1In shelf (1 : Int) (30 : Int) else some default)).bind fun y1 =>
  some (y0 && y1)

def M.spec_l1Rising_l0 (l : List Int) (lo : Int) (hi : Int) : (Int) → Option ((Int) ⊕ ((Unit) ⊕ (Bool))) := fun st_ => match st_ with
| i =>
  bif (decide (i < (l.length : Int))) then (
    asrt ((0 : Int) ≤ i ∧ i < (l.length : Int)) <|
    (M.spec_l1In (l.getD (Int.toNat i) default) lo hi).bind fun y1 =>
    asrt ((!y1) = false → (decide (i > (0 : Int))) = true → ((0 : Int) ≤ (IntKind.i64.wrap (i - (1 : Int))) ∧ (IntKind.i64.wrap (i - (1 : Int))) < (l.length : Int))) <|
    asrt ((!y1) = false → (decide (i > (0 : Int))) = true → ((0 : Int) ≤ i ∧ i < (l.length : Int))) <|
    bif ((!y1) || ((decide (i > (0 : Int))) && (decide ((l.getD (Int.toNat (IntKind.i64.wrap (i - (1 : Int)))) default) ≥ (l.getD (Int.toNat i) default))))) then (
      some (.inr (.inr false)))
    else (
      some (.inl (IntKind.i64.wrap (i + (1 : Int))))))
  else (
    some (.inr (.inl ())))

def M.spec_l1Rising (l : List Int) (lo : Int) (hi : Int) : Option Bool :=
  (iterO (M.spec_l1Rising_l0 l lo hi) (0 : Int)).bind fun e => match e with
  | .inl () =>
    (some true)
  | .inr r => some r

def M.spec_l18One (x : Carton) : Option Bool :=
  (M.spec_l1In x.Id (1 : Int) (99 : Int)).bind fun y0 =>
  ((bif y0 then M.spec_l18Place x.Room x.Shelf else some default)).bind fun y1 =>
  ((bif ((y0 && y1) && (decide ((x.Files.length : Int) ≤ (12 : Int)))) then M.spec_l1Rising x.Files (1 : Int) (999 : Int) else some default)).bind fun y2 =>
  ((bif (((y0 && y1) && (decide ((x.Files.length : Int) ≤ (12 : Int)))) && y2) then M.spec_l1In x.Thick (1 : Int) (40 : Int) else some default)).bind fun y3 =>
  some ((((y0 && y1) && (decide ((x.Files.length : Int) ≤ (12 : Int)))) && y2) && y3)

def M.spec_l18Taken_l0 (list : List Carton) (room : Int) (shelf : Int) : (Int × Int) → Option ((Int × Int) ⊕ (Int)) := fun st_ => match st_ with
| (sum_0, i) =>
  bif (decide (i < (list.length : Int))) then (
    (((
      asrt ((0 : Int) ≤ i ∧ i < (list.length : Int)) <|
      asrt ((((list.getD (Int.toNat i) default).Room) == room) = true → ((0 : Int) ≤ i ∧ i < (list.length : Int))) <|
      bif ((((list.getD (Int.toNat i) default).Room) == room) && (((list.getD (Int.toNat i) default).Shelf) == shelf)) then (
        asrt ((0 : Int) ≤ i ∧ i < (list.length : Int)) <|
        some (IntKind.i64.wrap (sum_0 + ((list.getD (Int.toNat i) default).Thick))))
      else (
        some sum_0)) : Option Int)).bind fun e => match e with
    | sum_1 =>
      (some (.inl (sum_1, (IntKind.i64.wrap (i + (1 : Int)))))))
  else (
    some (.inr sum_0))

def M.spec_l18Taken (list : List Carton) (room : Int) (shelf : Int) : Option Int :=
  (iterO (M.spec_l18Taken_l0 list room shelf) ((0 : Int), (0 : Int))).bind fun e => match e with
  | sum_ =>
    (some sum_)

def M.spec_l1Has_l0 (l : List Int) (n : Int) : (Int) → Option ((Int) ⊕ ((Unit) ⊕ (Bool))) := fun st_ => match st_ with
| i =>
  bif (decide (i < (l.length : Int))) then (
    asrt ((0 : Int) ≤ i ∧ i < (l.length : Int)) <|
    bif ((l.getD (Int.toNat i) default) == n) then (
      some (.inr (.inr true)))
    else (
      some (.inl (IntKind.i64.wrap (i + (1 : Int))))))
  else (
    some (.inr (.inl ())))

def M.spec_l1Has (l : List Int) (n : Int) : Option Bool :=
  (iterO (M.spec_l1Has_l0 l n) (0 : Int)).bind fun e => match e with
  | .inl () =>
    (some false)
  | .inr r => some r

def M.spec_l18Holds_l0 (list : List Carton) (file : Int) : (Int) → Option ((Int) ⊕ ((Unit) ⊕ (Int))) := fun st_ => match st_ with
| i =>
  bif (decide (i < (list.length : Int))) then (
    asrt ((0 : Int) ≤ i ∧ i < (list.length : Int)) <|
    (M.spec_l1Has ((list.getD (Int.toNat i) default).Files) file).bind fun y1 =>
    bif y1 then (
      some (.inr (.inr i)))
    else (
      some (.inl (IntKind.i64.wrap (i + (1 : Int))))))
  else (
    some (.inr (.inl ())))

def M.spec_l18Holds (list : List Carton) (file : Int) : Option Int :=
  (iterO (M.spec_l18Holds_l0 list file) (0 : Int)).bind fun e => match e with
  | .inl () =>
    (some (-1 : Int))
  | .inr r => some r

def M.spec_l18Good_l1 (list : List Carton) (i : Int) : (Int) → Option ((Int) ⊕ ((Unit) ⊕ (Bool))) := fun st_ => match st_ with
| k =>
  bif (decide (k < (((list.getD (Int.toNat i) default).Files).length : Int))) then (
    asrt ((0 : Int) ≤ (0 : Int) ∧ (0 : Int) ≤ i ∧ i ≤ (list.length : Int)) <|
    asrt ((0 : Int) ≤ k ∧ k < (((list.getD (Int.toNat i) default).Files).length : Int)) <|
    (M.spec_l18Holds (slc list (0 : Int) i) (((list.getD (Int.toNat i) default).Files).getD (Int.toNat k) default)).bind fun y4 =>
    bif (decide (y4 ≥ (0 : Int))) then (
      some (.inr (.inr false)))
    else (
      some (.inl (IntKind.i64.wrap (k + (1 : Int))))))
  else (
    some (.inr (.inl ())))

def M.spec_l18Good_l0 (list : List Carton) : (Int) → Option ((Int) ⊕ ((Unit) ⊕ (Bool))) := fun st_ => match st_ with
| i =>
  bif ((decide (i < (list.length : Int))) && (decide (i ≤ (10 : Int)))) then (
    asrt ((0 : Int) ≤ i ∧ i < (list.length : Int)) <|
    (M.spec_l18One (list.getD (Int.toNat i) default)).bind fun y1 =>
    asrt ((!y1) = false → (decide (i > (0 : Int))) = true → ((0 : Int) ≤ (IntKind.i64.wrap (i - (1 : Int))) ∧ (IntKind.i64.wrap (i - (1 : Int))) < (list.length : Int))) <|
    asrt (((!y1) || ((decide (i > (0 : Int))) && (decide (((list.getD (Int.toNat (IntKind.i64.wrap (i - (1 : Int)))) default).Id) ≥ ((list.getD (Int.toNat i) default).Id))))) = false → ((0 : Int) ≤ (0 : Int) ∧ (0 : Int) ≤ (IntKind.i64.wrap (i + (1 : Int))) ∧ (IntKind.i64.wrap (i + (1 : Int))) ≤ (list.length : Int))) <|
    ((bif ((!y1) || ((decide (i > (0 : Int))) && (decide (((list.getD (Int.toNat (IntKind.i64.wrap (i - (1 : Int)))) default).Id) ≥ ((list.getD (Int.toNat i) default).Id))))) then some default else M.spec_l18Taken (slc list (0 : Int) (IntKind.i64.wrap (i + (1 : Int)))) ((list.getD (Int.toNat i) default).Room) ((list.getD (Int.toNat i) default).Shelf))).bind fun y2 =>
    bif (((!y1) || ((decide (i > (0 : Int))) && (decide (((list.getD (Int.toNat (IntKind.i64.wrap (i - (1 : Int)))) default).Id) ≥ ((list.getD (Int.toNat i) default).Id))))) || (decide (y2 > (100 : Int)))) then (
      some (.inr (.inr false)))
    else (
      (iterO (M.spec_l18Good_l1 list i) (0 : Int)).bind fun e => match e with
      | .inl () =>
        (some (.inl (IntKind.i64.wrap (i + (1 : Int)))))
      | .inr r => some (.inr (.inr r))))
  else (
    some (.inr (.inl ())))

def M.spec_l18Good (list : List Carton) : Option Bool :=
  (iterO (M.spec_l18Good_l0 list) (0 : Int)).bind fun e => match e with
  | .inl () =>
    (some (decide ((list.length : Int) ≤ (10 : Int))))
  | .inr r => some r

def M.spec_l1Cur_one (c : Cur) (n : Int) : Option (Bool × Cur) :=
  (M.spec_l1Cur_pick c n).bind fun y0 =>
  some ((y0.1 == (0 : Int)), y0.2)

def M.spec_l1Cur_cartons_l0 : (List Carton × Int × Int × Cur) → Option ((List Carton × Int × Int × Cur) ⊕ (List Carton × Cur)) := fun st_ => match st_ with
| (out_0, id_, n_, c_0) =>
  bif (decide (n_ > (0 : Int))) then (
    (((
      (M.spec_l1Cur_pick c_0 (3 : Int)).bind fun y2 =>
      asrt ((([] : List Carton).length : Int) + (out_0.length : Int) ≤ 2147483648) <|
      (M.spec_l1Cur_pick y2.2 (60 : Int)).bind fun y3 =>
      (M.spec_l1Cur_carton y3.2 (IntKind.i64.wrap ((IntKind.i64.wrap (id_ + (1 : Int))) + y2.1)) (IntKind.i64.wrap ((IntKind.i64.wrap ((IntKind.i64.wrap ((30 : Int) * (out_0.length : Int))) + (1 : Int))) - (IntKind.i64.wrap ((IntKind.i64.wrap (Int.tdiv y3.1 (59 : Int))) * (20 : Int)))))).bind fun y4 =>
      asrt (((([] : List Carton) ++ out_0).length : Int) + (([y4.1] : List Carton).length : Int) ≤ 2147483648) <|
      (M.spec_l18Good ((([] : List Carton) ++ out_0) ++ ([y4.1] : List Carton))).bind fun y5 =>
      ((bif y5 then some default else M.spec_l1Cur_one y4.2 (40 : Int))).bind fun y6 =>
      bif (y5 || y6.1) then (
        some (((([] : List Carton) ++ out_0) ++ ([y4.1] : List Carton)), (IntKind.i64.wrap ((IntKind.i64.wrap (id_ + (1 : Int))) + y2.1)), (bif y5 then y4.2 else y6.2)))
      else (
        some (out_0, (IntKind.i64.wrap ((IntKind.i64.wrap (id_ + (1 : Int))) + y2.1)), (bif y5 then y4.2 else y6.2)))) : Option (List Carton × Int × Cur))).bind fun e => match e with
    | (out_1, id_0, c_1) =>
      (some (.inl (out_1, id_0, (IntKind.i64.wrap (n_ - (1 : Int))), c_1))))
  else (
    some (.inr (out_0, c_0)))

def M.spec_l1Cur_cartons_l1 : (List Carton × Int × Cur) → Option ((List Carton × Int × Cur) ⊕ (List Carton × Cur)) := fun st_ => match st_ with
| (out_3, n_0, c_3) =>
  (M.spec_l1Cur_pick c_3 (2 : Int)).bind fun y9 =>
  bif (decide (n_0 < (IntKind.i64.wrap ((10 : Int) + y9.1)))) then (
    asrt ((out_3.length : Int) + (([(⟨(IntKind.i64.wrap (n_0 + (1 : Int))), (IntKind.i64.wrap ((1 : Int) + (IntKind.i64.wrap (Int.tdiv n_0 (3 : Int))))), (1 : Int), ([] : List Int), (30 : Int)⟩ : Carton)] : List Carton).length : Int) ≤ 2147483648) <|
    some (.inl ((out_3 ++ ([(⟨(IntKind.i64.wrap (n_0 + (1 : Int))), (IntKind.i64.wrap ((1 : Int) + (IntKind.i64.wrap (Int.tdiv n_0 (3 : Int))))), (1 : Int), ([] : List Int), (30 : Int)⟩ : Carton)] : List Carton)), (IntKind.i64.wrap (n_0 + (1 : Int))), y9.2)))
  else (
    some (.inr (out_3, y9.2)))

def M.spec_l1Cur_cartons (c : Cur) : Option (List Carton × Cur) :=
  (M.spec_l1Cur_pick c (7 : Int)).bind fun y0 =>
  (iterO (M.spec_l1Cur_cartons_l0) (([] : List Carton), (0 : Int), y0.1, y0.2)).bind fun e => match e with
  | (out_, c_) =>
    ((M.spec_l1Cur_one c_ (24 : Int)).bind fun y7 =>
    bif y7.1 then (
      (iterO (M.spec_l1Cur_cartons_l1) (([] : List Carton), (0 : Int), y7.2)).bind fun e => match e with
      | (out_2, c_2) =>
        (some (out_2, c_2)))
    else (
      some (out_, y7.2)))

def M.spec_DrawBestShelf (code : List Int) : Option (List Carton × Int × Int) :=
  (M.spec_l1Cur_cartons (⟨code, (0 : Int), (0 : Int)⟩ : Cur)).bind fun y0 =>
  (M.spec_l1Cur_pick y0.2 (24 : Int)).bind fun y1 =>
  asrt ((0 : Int) ≤ (0 : Int) ∧ (0 : Int) ≤ (IntKind.i64.wrap ((4 : Int) + (IntKind.i64.wrap (Int.tdiv y1.1 (11 : Int))))) ∧ (IntKind.i64.wrap ((4 : Int) + (IntKind.i64.wrap (Int.tdiv y1.1 (11 : Int))))) ≤ (([(1 : Int), (1 : Int), (2 : Int), (9 : Int), (0 : Int), (10 : Int)] : List Int).length : Int)) <|
  (M.spec_l1Cur_among y1.2 (slc ([(1 : Int), (1 : Int), (2 : Int), (9 : Int), (0 : Int), (10 : Int)] : List Int) (0 : Int) (IntKind.i64.wrap ((4 : Int) + (IntKind.i64.wrap (Int.tdiv y1.1 (11 : Int))))))).bind fun y2 =>
  (M.spec_l1Cur_pick y2.2 (24 : Int)).bind fun y3 =>
  asrt ((0 : Int) ≤ (0 : Int) ∧ (0 : Int) ≤ (IntKind.i64.wrap ((3 : Int) + (IntKind.i64.wrap (Int.tdiv y3.1 (11 : Int))))) ∧ (IntKind.i64.wrap ((3 : Int) + (IntKind.i64.wrap (Int.tdiv y3.1 (11 : Int))))) ≤ (([(1 : Int), (10 : Int), (40 : Int), (0 : Int), (41 : Int)] : List Int).length : Int)) <|
  (M.spec_l1Cur_among y3.2 (slc ([(1 : Int), (10 : Int), (40 : Int), (0 : Int), (41 : Int)] : List Int) (0 : Int) (IntKind.i64.wrap ((3 : Int) + (IntKind.i64.wrap (Int.tdiv y3.1 (11 : Int))))))).bind fun y4 =>
  some (y0.1, y2.1, y4.1)

def M.impl_within (n : Int) (low : Int) (high : Int) : Option Bool :=
  some ((decide (low ≤ n)) && (decide (n ≤ high)))

def M.impl_isId (id_ : Int) : Option Bool :=
  (M.impl_within id_ (1 : Int) (99 : Int)).bind fun y0 =>
  some y0

def M.impl_isShelf (shelf : Int) : Option Bool :=
  (M.impl_within shelf (1 : Int) (30 : Int)).bind fun y0 =>
  some y0

def M.impl_isRoom (room : Int) : Option Bool :=
  (M.impl_within room (1 : Int) (9 : Int)).bind fun y0 =>
  some y0

def M.impl_areRising_l0 (list : List Int) : (Int) → Option ((Int) ⊕ ((Unit) ⊕ (Bool))) := fun st_ => match st_ with
| i =>
  bif (decide (i < (list.length : Int))) then (
    asrt ((0 : Int) ≤ (IntKind.i64.wrap (i - (1 : Int))) ∧ (IntKind.i64.wrap (i - (1 : Int))) < (list.length : Int)) <|
    asrt ((0 : Int) ≤ i ∧ i < (list.length : Int)) <|
    bif (decide ((list.getD (Int.toNat (IntKind.i64.wrap (i - (1 : Int)))) default) ≥ (list.getD (Int.toNat i) default))) then (
      some (.inr (.inr false)))
    else (
      some (.inl (IntKind.i64.wrap (i + (1 : Int))))))
  else (
    some (.inr (.inl ())))

def M.impl_areRising (list : List Int) : Option Bool :=
  (iterO (M.impl_areRising_l0 list) (1 : Int)).bind fun e => match e with
  | .inl () =>
    (some true)
  | .inr r => some r

def M.slices_IndexFunc_int_int_l0 (s : List Int) (fm : Int → Option Bool) : (Int) → Option ((Int) ⊕ ((Unit) ⊕ (Int))) := fun st_ => match st_ with
| v =>
  bif (decide (v < (s.length : Int))) then (
    asrt ((0 : Int) ≤ v ∧ v < (s.length : Int)) <|
    (fm (s.getD (Int.toNat v) default)).bind fun y1 =>
    bif y1 then (
      some (.inr (.inr v)))
    else (
      some (.inl (IntKind.i64.wrap (v + (1 : Int))))))
  else (
    some (.inr (.inl ())))

def M.slices_IndexFunc_int_int (s : List Int) (fm : Int → Option Bool) : Option Int :=
  (iterO (M.slices_IndexFunc_int_int_l0 s fm) (0 : Int)).bind fun e => match e with
  | .inl () =>
    (some (-1 : Int))
  | .inr r => some r

def M.slices_ContainsFunc_int_int (s : List Int) (fm : Int → Option Bool) : Option Bool :=
  (M.slices_IndexFunc_int_int s fm).bind fun y0 =>
  some (decide (y0 ≥ (0 : Int)))

def M.impl_IsCarton_1 (id_ : Int) : Option Bool :=
  (M.impl_within id_ (1 : Int) (999 : Int)).bind fun y0 =>
  some (!y0)

def M.impl_IsCarton (x : Carton) : Option Bool :=
  (M.impl_isId x.Id).bind fun y0 =>
  ((bif y0 then M.impl_isShelf x.Shelf else some default)).bind fun y1 =>
  ((bif (y0 && y1) then M.impl_isRoom x.Room else some default)).bind fun y2 =>
  ((bif (((y0 && y1) && y2) && (decide ((x.Files.length : Int) ≤ (12 : Int)))) then M.impl_areRising x.Files else some default)).bind fun y3 =>
  ((bif ((((y0 && y1) && y2) && (decide ((x.Files.length : Int) ≤ (12 : Int)))) && y3) then M.slices_ContainsFunc_int_int x.Files (fun x0 => M.impl_IsCarton_1 x0) else some default)).bind fun y4 =>
  ((bif (((((y0 && y1) && y2) && (decide ((x.Files.length : Int) ≤ (12 : Int)))) && y3) && (!y4)) then M.impl_within x.Thick (1 : Int) (40 : Int) else some default)).bind fun y5 =>
  some ((((((y0 && y1) && y2) && (decide ((x.Files.length : Int) ≤ (12 : Int)))) && y3) && (!y4)) && y5)

def M.slices_Index_int_int_l0 (s : List Int) (v : Int) : (Int) → Option ((Int) ⊕ ((Unit) ⊕ (Int))) := fun st_ => match st_ with
| v0 =>
  bif (decide (v0 < (s.length : Int))) then (
    asrt ((0 : Int) ≤ v0 ∧ v0 < (s.length : Int)) <|
    bif (v == (s.getD (Int.toNat v0) default)) then (
      some (.inr (.inr v0)))
    else (
      some (.inl (IntKind.i64.wrap (v0 + (1 : Int))))))
  else (
    some (.inr (.inl ())))

def M.slices_Index_int_int (s : List Int) (v : Int) : Option Int :=
  (iterO (M.slices_Index_int_int_l0 s v) (0 : Int)).bind fun e => match e with
  | .inl () =>
    (some (-1 : Int))
  | .inr r => some r

def M.slices_Contains_int_int (s : List Int) (v : Int) : Option Bool :=
  (M.slices_Index_int_int s v).bind fun y0 =>
  some (decide (y0 ≥ (0 : Int)))

def M.impl_AreCartons_1 (id_ : Int) (y_c : Carton) : Option Bool :=
  (M.slices_Contains_int_int y_c.Files id_).bind fun y0 =>
  some y0

def M.impl_freeOn_l0 (list : List Carton) (room : Int) (shelf : Int) : (Int × Int) → Option ((Int × Int) ⊕ (Int)) := fun st_ => match st_ with
| (free0, v) =>
  bif (decide (v < (list.length : Int))) then (
    (((
      asrt ((0 : Int) ≤ v ∧ v < (list.length : Int)) <|
      bif ((((list.getD (Int.toNat v) default).Room) == room) && (((list.getD (Int.toNat v) default).Shelf) == shelf)) then (
        some (IntKind.i64.wrap (free0 - ((list.getD (Int.toNat v) default).Thick))))
      else (
        some free0)) : Option Int)).bind fun e => match e with
    | free1 =>
      (some (.inl (free1, (IntKind.i64.wrap (v + (1 : Int)))))))
  else (
    some (.inr free0))

def M.impl_freeOn (list : List Carton) (room : Int) (shelf : Int) : Option Int :=
  (iterO (M.impl_freeOn_l0 list room shelf) ((100 : Int), (0 : Int))).bind fun e => match e with
  | free =>
    (some free)

def M.impl_AreCartons_l1 (list : List Carton) (v : Int) : (Int) → Option ((Int) ⊕ ((Unit) ⊕ (Bool))) := fun st_ => match st_ with
| v0 =>
  bif (decide (v0 < ((slc list (0 : Int) v).length : Int))) then (
    asrt ((0 : Int) ≤ v0 ∧ v0 < ((slc list (0 : Int) v).length : Int)) <|
    (M.slices_ContainsFunc_int_int ((list.getD (Int.toNat v) default).Files) (fun x0 => M.impl_AreCartons_1 x0 ((slc list (0 : Int) v).getD (Int.toNat v0) default))).bind fun y3 =>
    bif y3 then (
      some (.inr (.inr false)))
    else (
      some (.inl (IntKind.i64.wrap (v0 + (1 : Int))))))
  else (
    some (.inr (.inl ())))

def M.impl_AreCartons_l0 (list : List Carton) : (Int) → Option ((Int) ⊕ ((Unit) ⊕ (Bool))) := fun st_ => match st_ with
| v =>
  bif (decide (v < (list.length : Int))) then (
    asrt ((0 : Int) ≤ v ∧ v < (list.length : Int)) <|
    (M.impl_IsCarton (list.getD (Int.toNat v) default)).bind fun y1 =>
    asrt ((!y1) = false → (decide (v > (0 : Int))) = true → ((0 : Int) ≤ (IntKind.i64.wrap (v - (1 : Int))) ∧ (IntKind.i64.wrap (v - (1 : Int))) < (list.length : Int))) <|
    bif ((!y1) || ((decide (v > (0 : Int))) && (decide (((list.getD (Int.toNat (IntKind.i64.wrap (v - (1 : Int)))) default).Id) ≥ ((list.getD (Int.toNat v) default).Id))))) then (
      some (.inr (.inr false)))
    else (
      asrt ((0 : Int) ≤ (0 : Int) ∧ (0 : Int) ≤ v ∧ v ≤ (list.length : Int)) <|
      (iterO (M.impl_AreCartons_l1 list v) (0 : Int)).bind fun e => match e with
      | .inl () =>
        (asrt ((0 : Int) ≤ (0 : Int) ∧ (0 : Int) ≤ (IntKind.i64.wrap (v + (1 : Int))) ∧ (IntKind.i64.wrap (v + (1 : Int))) ≤ (list.length : Int)) <|
        (M.impl_freeOn (slc list (0 : Int) (IntKind.i64.wrap (v + (1 : Int)))) ((list.getD (Int.toNat v) default).Room) ((list.getD (Int.toNat v) default).Shelf)).bind fun y4 =>
        bif (decide (y4 < (0 : Int))) then (
          some (.inr (.inr false)))
        else (
          some (.inl (IntKind.i64.wrap (v + (1 : Int))))))
      | .inr r => some (.inr (.inr r))))
  else (
    some (.inr (.inl ())))

def M.impl_AreCartons (list : List Carton) : Option Bool :=
  bif (decide ((list.length : Int) > (10 : Int))) then (
    some false)
  else (
    (iterO (M.impl_AreCartons_l0 list) (0 : Int)).bind fun e => match e with
    | .inl () =>
      (some true)
    | .inr r => some r)

def M.impl_BestShelf_l0 (list : List Carton) (room : Int) (thick : Int) : (Int × Int × Int) → Option ((Int × Int × Int) ⊕ (Int)) := fun st_ => match st_ with
| (best0, least, shelf) =>
  bif (decide (shelf ≤ (30 : Int))) then (
    (((
      (M.impl_freeOn list room shelf).bind fun y4 =>
      bif ((decide ((IntKind.i64.wrap (y4 - thick)) ≥ (0 : Int))) && (decide ((IntKind.i64.wrap (y4 - thick)) < least))) then (
        some (shelf, (IntKind.i64.wrap (y4 - thick))))
      else (
        some (best0, least))) : Option (Int × Int))).bind fun e => match e with
    | (best1, least0) =>
      (some (.inl (best1, least0, (IntKind.i64.wrap (shelf + (1 : Int)))))))
  else (
    some (.inr best0))

def M.impl_BestShelf (list : List Carton) (room : Int) (thick : Int) : Option (Int × Bool) :=
  (M.impl_AreCartons list).bind fun y0 =>
  ((bif (!y0) then some default else M.impl_isRoom room)).bind fun y1 =>
  ((bif ((!y0) || (!y1)) then some default else M.impl_within thick (1 : Int) (40 : Int))).bind fun y2 =>
  bif (((!y0) || (!y1)) || (!y2)) then (
    some ((0 : Int), false))
  else (
    (iterO (M.impl_BestShelf_l0 list room thick) ((0 : Int), (101 : Int), (1 : Int))).bind fun e => match e with
    | best =>
      (some (best, (decide (best > (0 : Int))))))

def M.spec_BestShelf_l0 (list : List Carton) (room : Int) (thick : Int) : (Int × Int) → Option ((Int × Int) ⊕ (Int)) := fun st_ => match st_ with
| (best0, shelf) =>
  bif (decide (shelf ≤ (30 : Int))) then (
    (((
      (M.spec_l18Taken list room shelf).bind fun y4 =>
      ((bif (decide ((IntKind.i64.wrap (y4 + thick)) ≤ (100 : Int))) then (bif (best0 == (0 : Int)) then some default else M.spec_l18Taken list room best0) else some default)).bind fun y5 =>
      bif ((decide ((IntKind.i64.wrap (y4 + thick)) ≤ (100 : Int))) && ((best0 == (0 : Int)) || (decide (y4 > y5)))) then (
        some shelf)
      else (
        some best0)) : Option Int)).bind fun e => match e with
    | best1 =>
      (some (.inl (best1, (IntKind.i64.wrap (shelf + (1 : Int)))))))
  else (
    some (.inr best0))

def M.spec_BestShelf (list : List Carton) (room : Int) (thick : Int) : Option (Int × Bool) :=
  (M.spec_l18Good list).bind fun y0 =>
  ((bif (!y0) then some default else M.spec_l18Place room (1 : Int))).bind fun y1 =>
  ((bif ((!y0) || (!y1)) then some default else M.spec_l1In thick (1 : Int) (40 : Int))).bind fun y2 =>
  bif (((!y0) || (!y1)) || (!y2)) then (
    some ((0 : Int), false))
  else (
    (iterO (M.spec_BestShelf_l0 list room thick) ((0 : Int), (1 : Int))).bind fun e => match e with
    | best =>
      (some (best, (decide (best > (0 : Int))))))

def M.impl_FreeOn (list : List Carton) (room : Int) (shelf : Int) : Option (Int × Bool) :=
  (M.impl_AreCartons list).bind fun y0 =>
  ((bif (!y0) then some default else M.impl_isRoom room)).bind fun y1 =>
  ((bif ((!y0) || (!y1)) then some default else M.impl_isShelf shelf)).bind fun y2 =>
  bif (((!y0) || (!y1)) || (!y2)) then (
    some ((0 : Int), false))
  else (
    (M.impl_freeOn list room shelf).bind fun y3 =>
    some (y3, true))

def M.spec_DrawPullList_l1 (y0 : List Carton × Cur) (i : Int) : (List Int × Int × Cur) → Option ((List Int × Int × Cur) ⊕ (List Int × Cur)) := fun st_ => match st_ with
| (files2, k, c_2) =>
  asrt ((0 : Int) ≤ i ∧ i < (y0.1.length : Int)) <|
  bif (decide (k < (((y0.1.getD (Int.toNat i) default).Files).length : Int))) then (
    (((
      (M.spec_l1Cur_one c_2 (3 : Int)).bind fun y3 =>
      bif (y3.1 && (decide ((files2.length : Int) < (20 : Int)))) then (
        asrt ((0 : Int) ≤ i ∧ i < (y0.1.length : Int)) <|
        asrt ((0 : Int) ≤ k ∧ k < (((y0.1.getD (Int.toNat i) default).Files).length : Int)) <|
        asrt ((files2.length : Int) + (([(((y0.1.getD (Int.toNat i) default).Files).getD (Int.toNat k) default)] : List Int).length : Int) ≤ 2147483648) <|
        some ((files2 ++ ([(((y0.1.getD (Int.toNat i) default).Files).getD (Int.toNat k) default)] : List Int)), y3.2))
      else (
        some (files2, y3.2))) : Option (List Int × Cur))).bind fun e => match e with
    | (files3, c_3) =>
      (some (.inl (files3, (IntKind.i64.wrap (k + (1 : Int))), c_3))))
  else (
    some (.inr (files2, c_2)))

def M.spec_DrawPullList_l0 (y0 : List Carton × Cur) : (List Int × Int × Cur) → Option ((List Int × Int × Cur) ⊕ (List Int × Cur)) := fun st_ => match st_ with
| (files0, i, c_0) =>
  bif (decide (i < (y0.1.length : Int))) then (
    (iterO (M.spec_DrawPullList_l1 y0 i) (files0, (0 : Int), c_0)).bind fun e => match e with
    | (files1, c_1) =>
      (some (.inl (files1, (IntKind.i64.wrap (i + (1 : Int))), c_1))))
  else (
    some (.inr (files0, c_0)))

def M.spec_DrawPullList (code : List Int) : Option (List Carton × List Int) :=
  (M.spec_l1Cur_cartons (⟨code, (0 : Int), (0 : Int)⟩ : Cur)).bind fun y0 =>
  (iterO (M.spec_DrawPullList_l0 y0) (([] : List Int), (0 : Int), y0.2)).bind fun e => match e with
  | (files, c_) =>
    ((((
      (M.spec_l1Cur_one c_ (16 : Int)).bind fun y4 =>
      bif y4.1 then (
        (M.spec_l1Cur_among y4.2 ([(1 : Int), (998 : Int), (1000 : Int)] : List Int)).bind fun y5 =>
        asrt ((files.length : Int) + (([y5.1] : List Int).length : Int) ≤ 2147483648) <|
        some ((files ++ ([y5.1] : List Int)), y5.2))
      else (
        some (files, y4.2))) : Option (List Int × Cur))).bind fun e => match e with
    | (files4, c_4) =>
      (some (y0.1, files4)))

def M.impl_cartonWith_1 (x : Carton) (file : Int) : Option Bool :=
  (M.slices_Contains_int_int x.Files file).bind fun y0 =>
  some y0

def M.slices_IndexFunc_impl_Carton_impl_Carton_l0 (s : List Carton) (fm : Carton → Option Bool) : (Int) → Option ((Int) ⊕ ((Unit) ⊕ (Int))) := fun st_ => match st_ with
| v =>
  bif (decide (v < (s.length : Int))) then (
    asrt ((0 : Int) ≤ v ∧ v < (s.length : Int)) <|
    (fm (s.getD (Int.toNat v) default)).bind fun y1 =>
    bif y1 then (
      some (.inr (.inr v)))
    else (
      some (.inl (IntKind.i64.wrap (v + (1 : Int))))))
  else (
    some (.inr (.inl ())))

def M.slices_IndexFunc_impl_Carton_impl_Carton (s : List Carton) (fm : Carton → Option Bool) : Option Int :=
  (iterO (M.slices_IndexFunc_impl_Carton_impl_Carton_l0 s fm) (0 : Int)).bind fun e => match e with
  | .inl () =>
    (some (-1 : Int))
  | .inr r => some r

def M.impl_cartonWith (list : List Carton) (file : Int) : Option Int :=
  (M.slices_IndexFunc_impl_Carton_impl_Carton list (fun x0 => M.impl_cartonWith_1 x0 file)).bind fun y0 =>
  some y0

def M.impl_cartonAt_1 (x : Carton) (id_c : Int) : Option Bool :=
  some (x.Id == id_c)

def M.impl_cartonAt (list : List Carton) (id_ : Int) : Option Int :=
  (M.slices_IndexFunc_impl_Carton_impl_Carton list (fun x0 => M.impl_cartonAt_1 x0 id_)).bind fun y0 =>
  some y0

def M.math_bits_Len32 (x : Int) : Option Int :=
  (((
    bif (decide (x ≥ (65536 : Int))) then (
      some ((Int.fdiv x (2 ^ (min (Int.toNat (16 : Int)) IntKind.u32.bits))), (16 : Int)))
    else (
      some (x, (0 : Int)))) : Option (Int × Int))).bind fun e => match e with
  | (x0, n_) =>
    ((((
      bif (decide (x0 ≥ (256 : Int))) then (
        some ((Int.fdiv x0 (2 ^ (min (Int.toNat (8 : Int)) IntKind.u32.bits))), (IntKind.i64.wrap (n_ + (8 : Int)))))
      else (
        some (x0, n_))) : Option (Int × Int))).bind fun e => match e with
    | (x1, n_0) =>
      (asrt ((0 : Int) ≤ (IntKind.u8.wrap x1) ∧ (IntKind.u8.wrap x1) < (([0, 1, 2, 2, 3, 3, 3, 3, 4, 4, 4, 4, 4, 4, 4, 4, 5, 5, 5, 5, 5, 5, 5, 5, 5, 5, 5, 5, 5, 5, 5, 5, 6, 6, 6, 6, 6, 6, 6, 6, 6, 6, 6, 6, 6, 6, 6, 6, 6, 6, 6, 6, 6, 6, 6, 6, 6, 6, 6, 6, 6, 6, 6, 6, 7, 7, 7, 7, 7, 7, 7, 7, 7, 7, 7, 7, 7, 7, 7, 7, 7, 7, 7, 7, 7, 7, 7, 7, 7, 7, 7, 7, 7, 7, 7, 7, 7, 7, 7, 7, 7, 7, 7, 7, 7, 7, 7, 7, 7, 7, 7, 7, 7, 7, 7, 7, 7, 7, 7, 7, 7, 7, 7, 7, 7, 7, 7, 7, 8, 8, 8, 8, 8, 8, 8, 8, 8, 8, 8, 8, 8, 8, 8, 8, 8, 8, 8, 8, 8, 8, 8, 8, 8, 8, 8, 8, 8, 8, 8, 8, 8, 8, 8, 8, 8, 8, 8, 8, 8, 8, 8, 8, 8, 8, 8, 8, 8, 8, 8, 8, 8, 8, 8, 8, 8, 8, 8, 8, 8, 8, 8, 8, 8, 8, 8, 8, 8, 8, 8, 8, 8, 8, 8, 8, 8, 8, 8, 8, 8, 8, 8, 8, 8, 8, 8, 8, 8, 8, 8, 8, 8, 8, 8, 8, 8, 8, 8, 8, 8, 8, 8, 8, 8, 8, 8, 8, 8, 8, 8, 8, 8, 8, 8, 8, 8, 8, 8, 8, 8, 8, 8, 8, 8, 8, 8, 8] : List UInt8).length : Int)) <|
      some (IntKind.i64.wrap (n_0 + (IntKind.i64.wrap ((([0, 1, 2, 2, 3, 3, 3, 3, 4, 4, 4, 4, 4, 4, 4, 4, 5, 5, 5, 5, 5, 5, 5, 5, 5, 5, 5, 5, 5, 5, 5, 5, 6, 6, 6, 6, 6, 6, 6, 6, 6, 6, 6, 6, 6, 6, 6, 6, 6, 6, 6, 6, 6, 6, 6, 6, 6, 6, 6, 6, 6, 6, 6, 6, 7, 7, 7, 7, 7, 7, 7, 7, 7, 7, 7, 7, 7, 7, 7, 7, 7, 7, 7, 7, 7, 7, 7, 7, 7, 7, 7, 7, 7, 7, 7, 7, 7, 7, 7, 7, 7, 7, 7, 7, 7, 7, 7, 7, 7, 7, 7, 7, 7, 7, 7, 7, 7, 7, 7, 7, 7, 7, 7, 7, 7, 7, 7, 7, 8, 8, 8, 8, 8, 8, 8, 8, 8, 8, 8, 8, 8, 8, 8, 8, 8, 8, 8, 8, 8, 8, 8, 8, 8, 8, 8, 8, 8, 8, 8, 8, 8, 8, 8, 8, 8, 8, 8, 8, 8, 8, 8, 8, 8, 8, 8, 8, 8, 8, 8, 8, 8, 8, 8, 8, 8, 8, 8, 8, 8, 8, 8, 8, 8, 8, 8, 8, 8, 8, 8, 8, 8, 8, 8, 8, 8, 8, 8, 8, 8, 8, 8, 8, 8, 8, 8, 8, 8, 8, 8, 8, 8, 8, 8, 8, 8, 8, 8, 8, 8, 8, 8, 8, 8, 8, 8, 8, 8, 8, 8, 8, 8, 8, 8, 8, 8, 8, 8, 8, 8, 8, 8, 8, 8, 8, 8, 8] : List UInt8).getD (Int.toNat (IntKind.u8.wrap x1)) 0).toNat : Int))))))

def M.math_bits_Len64 (x : Int) : Option Int :=
  (((
    bif (decide (x ≥ (4294967296 : Int))) then (
      some ((Int.fdiv x (2 ^ (min (Int.toNat (32 : Int)) IntKind.u64.bits))), (32 : Int)))
    else (
      some (x, (0 : Int)))) : Option (Int × Int))).bind fun e => match e with
  | (x0, n_) =>
    ((((
      bif (decide (x0 ≥ (65536 : Int))) then (
        some ((Int.fdiv x0 (2 ^ (min (Int.toNat (16 : Int)) IntKind.u64.bits))), (IntKind.i64.wrap (n_ + (16 : Int)))))
      else (
        some (x0, n_))) : Option (Int × Int))).bind fun e => match e with
    | (x1, n_0) =>
      ((((
        bif (decide (x1 ≥ (256 : Int))) then (
          some ((Int.fdiv x1 (2 ^ (min (Int.toNat (8 : Int)) IntKind.u64.bits))), (IntKind.i64.wrap (n_0 + (8 : Int)))))
        else (
          some (x1, n_0))) : Option (Int × Int))).bind fun e => match e with
      | (x2, n_1) =>
        (asrt ((0 : Int) ≤ (IntKind.u8.wrap x2) ∧ (IntKind.u8.wrap x2) < (([0, 1, 2, 2, 3, 3, 3, 3, 4, 4, 4, 4, 4, 4, 4, 4, 5, 5, 5, 5, 5, 5, 5, 5, 5, 5, 5, 5, 5, 5, 5, 5, 6, 6, 6, 6, 6, 6, 6, 6, 6, 6, 6, 6, 6, 6, 6, 6, 6, 6, 6, 6, 6, 6, 6, 6, 6, 6, 6, 6, 6, 6, 6, 6, 7, 7, 7, 7, 7, 7, 7, 7, 7, 7, 7, 7, 7, 7, 7, 7, 7, 7, 7, 7, 7, 7, 7, 7, 7, 7, 7, 7, 7, 7, 7, 7, 7, 7, 7, 7, 7, 7, 7, 7, 7, 7, 7, 7, 7, 7, 7, 7, 7, 7, 7, 7, 7, 7, 7, 7, 7, 7, 7, 7, 7, 7, 7, 7, 8, 8, 8, 8, 8, 8, 8, 8, 8, 8, 8, 8, 8, 8, 8, 8, 8, 8, 8, 8, 8, 8, 8, 8, 8, 8, 8, 8, 8, 8, 8, 8, 8, 8, 8, 8, 8, 8, 8, 8, 8, 8, 8, 8, 8, 8, 8, 8, 8, 8, 8, 8, 8, 8, 8, 8, 8, 8, 8, 8, 8, 8, 8, 8, 8, 8, 8, 8, 8, 8, 8, 8, 8, 8, 8, 8, 8, 8, 8, 8, 8, 8, 8, 8, 8, 8, 8, 8, 8, 8, 8, 8, 8, 8, 8, 8, 8, 8, 8, 8, 8, 8, 8, 8, 8, 8, 8, 8, 8, 8, 8, 8, 8, 8, 8, 8, 8, 8, 8, 8, 8, 8, 8, 8, 8, 8, 8, 8] : List UInt8).length : Int)) <|
        some (IntKind.i64.wrap (n_1 + (IntKind.i64.wrap ((([0, 1, 2, 2, 3, 3, 3, 3, 4, 4, 4, 4, 4, 4, 4, 4, 5, 5, 5, 5, 5, 5, 5, 5, 5, 5, 5, 5, 5, 5, 5, 5, 6, 6, 6, 6, 6, 6, 6, 6, 6, 6, 6, 6, 6, 6, 6, 6, 6, 6, 6, 6, 6, 6, 6, 6, 6, 6, 6, 6, 6, 6, 6, 6, 7, 7, 7, 7, 7, 7, 7, 7, 7, 7, 7, 7, 7, 7, 7, 7, 7, 7, 7, 7, 7, 7, 7, 7, 7, 7, 7, 7, 7, 7, 7, 7, 7, 7, 7, 7, 7, 7, 7, 7, 7, 7, 7, 7, 7, 7, 7, 7, 7, 7, 7, 7, 7, 7, 7, 7, 7, 7, 7, 7, 7, 7, 7, 7, 8, 8, 8, 8, 8, 8, 8, 8, 8, 8, 8, 8, 8, 8, 8, 8, 8, 8, 8, 8, 8, 8, 8, 8, 8, 8, 8, 8, 8, 8, 8, 8, 8, 8, 8, 8, 8, 8, 8, 8, 8, 8, 8, 8, 8, 8, 8, 8, 8, 8, 8, 8, 8, 8, 8, 8, 8, 8, 8, 8, 8, 8, 8, 8, 8, 8, 8, 8, 8, 8, 8, 8, 8, 8, 8, 8, 8, 8, 8, 8, 8, 8, 8, 8, 8, 8, 8, 8, 8, 8, 8, 8, 8, 8, 8, 8, 8, 8, 8, 8, 8, 8, 8, 8, 8, 8, 8, 8, 8, 8, 8, 8, 8, 8, 8, 8, 8, 8, 8, 8, 8, 8, 8, 8, 8, 8, 8, 8] : List UInt8).getD (Int.toNat (IntKind.u8.wrap x2)) 0).toNat : Int)))))))

def M.math_bits_Len (x : Int) : Option Int :=
  bif false then (
    (M.math_bits_Len32 (IntKind.u32.wrap x)).bind fun y0 =>
    some y0)
  else (
    (M.math_bits_Len64 x).bind fun y1 =>
    some y1)

def M.slices_insertionSortCmpFunc_impl_Carton_l1 (a : Int) (fm : Carton → Carton → Option Int) : (List Carton × Int) → Option ((List Carton × Int) ⊕ (List Carton)) := fun st_ => match st_ with
| (data3, j_) =>
  asrt ((decide (j_ > a)) = true → ((0 : Int) ≤ j_ ∧ j_ < (data3.length : Int))) <|
  asrt ((decide (j_ > a)) = true → ((0 : Int) ≤ (IntKind.i64.wrap (j_ - (1 : Int))) ∧ (IntKind.i64.wrap (j_ - (1 : Int))) < (data3.length : Int))) <|
  ((bif (decide (j_ > a)) then fm (data3.getD (Int.toNat j_) default) (data3.getD (Int.toNat (IntKind.i64.wrap (j_ - (1 : Int)))) default) else some default)).bind fun y2 =>
  bif ((decide (j_ > a)) && (decide (y2 < (0 : Int)))) then (
    asrt ((0 : Int) ≤ (IntKind.i64.wrap (j_ - (1 : Int))) ∧ (IntKind.i64.wrap (j_ - (1 : Int))) < (data3.length : Int)) <|
    asrt ((0 : Int) ≤ j_ ∧ j_ < (data3.length : Int)) <|
    asrt ((0 : Int) ≤ j_ ∧ j_ < (data3.length : Int)) <|
    asrt ((0 : Int) ≤ (IntKind.i64.wrap (j_ - (1 : Int))) ∧ (IntKind.i64.wrap (j_ - (1 : Int))) < ((data3.set (Int.toNat j_) (data3.getD (Int.toNat (IntKind.i64.wrap (j_ - (1 : Int)))) default)).length : Int)) <|
    (((
      some ((data3.set (Int.toNat j_) (data3.getD (Int.toNat (IntKind.i64.wrap (j_ - (1 : Int)))) default)).set (Int.toNat (IntKind.i64.wrap (j_ - (1 : Int)))) (data3.getD (Int.toNat j_) default))) : Option (List Carton))).bind fun e => match e with
    | data4 =>
      (some (.inl (data4, (IntKind.i64.wrap (j_ - (1 : Int)))))))
  else (
    some (.inr data3))

def M.slices_insertionSortCmpFunc_impl_Carton_l0 (a : Int) (b_ : Int) (fm : Carton → Carton → Option Int) : (List Carton × Int) → Option ((List Carton × Int) ⊕ (List Carton)) := fun st_ => match st_ with
| (data1, i) =>
  bif (decide (i < b_)) then (
    (iterO (M.slices_insertionSortCmpFunc_impl_Carton_l1 a fm) (data1, i)).bind fun e => match e with
    | data2 =>
      (some (.inl (data2, (IntKind.i64.wrap (i + (1 : Int)))))))
  else (
    some (.inr data1))

def M.slices_insertionSortCmpFunc_impl_Carton (data : List Carton) (a : Int) (b_ : Int) (fm : Carton → Carton → Option Int) : Option (List Carton) :=
  (iterO (M.slices_insertionSortCmpFunc_impl_Carton_l0 a b_ fm) (data, (IntKind.i64.wrap (a + (1 : Int))))).bind fun e => match e with
  | data0 =>
    (some data0)

def M.slices_pdqsortCmpFunc_impl_Carton_l0 (data : List Carton) (fm : Carton → Carton → Option Int) : (Int × Int × Int × Bool × Bool) → Option ((Int × Int × Int × Bool × Bool) ⊕ (List Carton)) := fun st_ => match st_ with
| (a0, b_0, limit0, wasBalanced, wasPartitioned) =>
  asrt ((decide ((IntKind.i64.wrap (b_0 - a0)) ≤ (12 : Int))) = true) <|
  (M.slices_insertionSortCmpFunc_impl_Carton data a0 b_0 fm).bind fun y1 =>
  asrt (y1.length = data.length) <|
  some (.inr y1)

def M.slices_pdqsortCmpFunc_impl_Carton (data : List Carton) (a : Int) (b_ : Int) (limit : Int) (fm : Carton → Carton → Option Int) : Option (List Carton) :=
  (iterO (M.slices_pdqsortCmpFunc_impl_Carton_l0 data fm) (a, b_, limit, true, true)).bind fun e => match e with
  | r => some r

def M.slices_SortFunc_impl_Carton_impl_Carton (x : List Carton) (fm : Carton → Carton → Option Int) : Option (List Carton) :=
  (M.math_bits_Len (IntKind.u64.wrap (x.length : Int))).bind fun y0 =>
  (M.slices_pdqsortCmpFunc_impl_Carton x (0 : Int) (x.length : Int) y0 fm).bind fun y1 =>
  asrt (y1.length = x.length) <|
  some y1

def M.cmp_isNaN_int (x : Int) : Option Bool :=
  some (x != x)

def M.cmp_Compare_int (x : Int) (y : Int) : Option Int :=
  (M.cmp_isNaN_int x).bind fun y0 =>
  (M.cmp_isNaN_int y).bind fun y1 =>
  bif y0 then (
    bif y1 then (
      some (0 : Int))
    else (
      some (-1 : Int)))
  else (
    bif y1 then (
      some (1 : Int))
    else (
      bif (decide (x < y)) then (
        some (-1 : Int))
      else (
        bif (decide (x > y)) then (
          some (1 : Int))
        else (
          some (0 : Int)))))

def M.cmp_Or_int_l0 (vals : List Int) : (Int) → Option ((Int) ⊕ ((Unit) ⊕ (Int))) := fun st_ => match st_ with
| v =>
  bif (decide (v < (vals.length : Int))) then (
    asrt ((0 : Int) ≤ v ∧ v < (vals.length : Int)) <|
    bif ((vals.getD (Int.toNat v) default) != (0 : Int)) then (
      some (.inr (.inr (vals.getD (Int.toNat v) default))))
    else (
      some (.inl (IntKind.i64.wrap (v + (1 : Int))))))
  else (
    some (.inr (.inl ())))

def M.cmp_Or_int (vals : List Int) : Option Int :=
  (iterO (M.cmp_Or_int_l0 vals) (0 : Int)).bind fun e => match e with
  | .inl () =>
    (some (0 : Int))
  | .inr r => some r

def M.impl_PullList_1 (a : Carton) (b_ : Carton) : Option Int :=
  (M.cmp_Compare_int a.Room b_.Room).bind fun y0 =>
  (M.cmp_Compare_int a.Shelf b_.Shelf).bind fun y1 =>
  (M.cmp_Compare_int a.Id b_.Id).bind fun y2 =>
  (M.cmp_Or_int ([y0, y1, y2] : List Int)).bind fun y3 =>
  some y3

def M.impl_PullList_l0 (list : List Carton) (files : List Int) : (List Carton × Int) → Option ((List Carton × Int) ⊕ ((List Carton) ⊕ (List Int × Bool))) := fun st_ => match st_ with
| (cartons0, v) =>
  bif (decide (v < (files.length : Int))) then (
    (((
      asrt ((0 : Int) ≤ v ∧ v < (files.length : Int)) <|
      (M.impl_cartonWith list (files.getD (Int.toNat v) default)).bind fun y4 =>
      bif (decide (y4 < (0 : Int))) then (
        some (.inr (([] : List Int), false)))
      else (
        asrt ((0 : Int) ≤ y4 ∧ y4 < (list.length : Int)) <|
        (M.impl_cartonAt cartons0 ((list.getD (Int.toNat y4) default).Id)).bind fun y5 =>
        bif (decide (y5 < (0 : Int))) then (
          asrt ((0 : Int) ≤ y4 ∧ y4 < (list.length : Int)) <|
          asrt ((cartons0.length : Int) + (([(list.getD (Int.toNat y4) default)] : List Carton).length : Int) ≤ 2147483648) <|
          some (.inl (cartons0 ++ ([(list.getD (Int.toNat y4) default)] : List Carton))))
        else (
          some (.inl cartons0)))) : Option ((List Carton) ⊕ (List Int × Bool)))).bind fun e => match e with
    | .inl cartons1 =>
      (some (.inl (cartons1, (IntKind.i64.wrap (v + (1 : Int))))))
    | .inr r => some (.inr (.inr r)))
  else (
    some (.inr (.inl cartons0)))

def M.impl_PullList_l1 (y6 : List Carton) : (List Int × Int) → Option ((List Int × Int) ⊕ (List Int)) := fun st_ => match st_ with
| (ids0, v0) =>
  bif (decide (v0 < (y6.length : Int))) then (
    asrt ((0 : Int) ≤ v0 ∧ v0 < (y6.length : Int)) <|
    asrt ((ids0.length : Int) + (([(y6.getD (Int.toNat v0) default).Id] : List Int).length : Int) ≤ 2147483648) <|
    some (.inl ((ids0 ++ ([(y6.getD (Int.toNat v0) default).Id] : List Int)), (IntKind.i64.wrap (v0 + (1 : Int))))))
  else (
    some (.inr ids0))

def M.impl_PullList (list : List Carton) (files : List Int) : Option (List Int × Bool) :=
  (M.impl_AreCartons list).bind fun y0 =>
  ((bif (!y0) then some default else M.impl_within (files.length : Int) (1 : Int) (20 : Int))).bind fun y1 =>
  ((bif ((!y0) || (!y1)) then some default else M.impl_areRising files)).bind fun y2 =>
  bif (((!y0) || (!y1)) || (!y2)) then (
    some (([] : List Int), false))
  else (
    (iterO (M.impl_PullList_l0 list files) (([] : List Carton), (0 : Int))).bind fun e => match e with
    | .inl cartons =>
      ((M.slices_SortFunc_impl_Carton_impl_Carton cartons (fun x0 x1 => M.impl_PullList_1 x0 x1)).bind fun y6 =>
      asrt (y6.length = cartons.length) <|
      (iterO (M.impl_PullList_l1 y6) (([] : List Int), (0 : Int))).bind fun e => match e with
      | ids =>
        (some (ids, true)))
    | .inr r => some r)

def M.spec_l1Put_l0 (l : List Int) (n : Int) : (Int) → Option ((Int) ⊕ (Int)) := fun st_ => match st_ with
| k0 =>
  asrt ((decide (k0 < (l.length : Int))) = true → ((0 : Int) ≤ k0 ∧ k0 < (l.length : Int))) <|
  bif ((decide (k0 < (l.length : Int))) && (decide ((l.getD (Int.toNat k0) default) < n))) then (
    some (.inl (IntKind.i64.wrap (k0 + (1 : Int)))))
  else (
    some (.inr k0))

def M.spec_l1Put (l : List Int) (n : Int) : Option (List Int) :=
  (iterO (M.spec_l1Put_l0 l n) (0 : Int)).bind fun e => match e with
  | k =>
    (asrt ((decide (k < (l.length : Int))) = true → ((0 : Int) ≤ k ∧ k < (l.length : Int))) <|
    bif ((decide (k < (l.length : Int))) && ((l.getD (Int.toNat k) default) == n)) then (
      some l)
    else (
      asrt ((0 : Int) ≤ (0 : Int) ∧ (0 : Int) ≤ k ∧ k ≤ (l.length : Int)) <|
      asrt ((([] : List Int).length : Int) + ((slc l (0 : Int) k).length : Int) ≤ 2147483648) <|
      asrt (((([] : List Int) ++ (slc l (0 : Int) k)).length : Int) + (([n] : List Int).length : Int) ≤ 2147483648) <|
      asrt ((0 : Int) ≤ k ∧ k ≤ (l.length : Int) ∧ (l.length : Int) ≤ (l.length : Int)) <|
      asrt ((((([] : List Int) ++ (slc l (0 : Int) k)) ++ ([n] : List Int)).length : Int) + ((slc l k (l.length : Int)).length : Int) ≤ 2147483648) <|
      (((
        some (((([] : List Int) ++ (slc l (0 : Int) k)) ++ ([n] : List Int)) ++ (slc l k (l.length : Int)))) : Option (List Int))).bind fun e => match e with
      | v =>
        (some v)))

def M.spec_PullList_l0 (list : List Carton) (files : List Int) : (List Int × Int) → Option ((List Int × Int) ⊕ ((List Int) ⊕ (List Int × Bool))) := fun st_ => match st_ with
| (some_0, i) =>
  bif (decide (i < (files.length : Int))) then (
    (((
      asrt ((0 : Int) ≤ i ∧ i < (files.length : Int)) <|
      (M.spec_l18Holds list (files.getD (Int.toNat i) default)).bind fun y4 =>
      bif (decide (y4 < (0 : Int))) then (
        some (.inr (([] : List Int), false)))
      else (
        (M.spec_l1Has some_0 y4).bind fun y5 =>
        bif (!y5) then (
          (M.spec_l1Put some_0 y4).bind fun y6 =>
          some (.inl y6))
        else (
          some (.inl some_0)))) : Option ((List Int) ⊕ (List Int × Bool)))).bind fun e => match e with
    | .inl some_1 =>
      (some (.inl (some_1, (IntKind.i64.wrap (i + (1 : Int))))))
    | .inr r => some (.inr (.inr r)))
  else (
    some (.inr (.inl some_0)))

def M.spec_PullList_l3 (list : List Carton) (some_ : List Int) (room : Int) (shelf : Int) : (List Int × Int) → Option ((List Int × Int) ⊕ (List Int)) := fun st_ => match st_ with
| (out_4, i0) =>
  bif (decide (i0 < (some_.length : Int))) then (
    (((
      asrt ((0 : Int) ≤ i0 ∧ i0 < (some_.length : Int)) <|
      asrt ((0 : Int) ≤ (some_.getD (Int.toNat i0) default) ∧ (some_.getD (Int.toNat i0) default) < (list.length : Int)) <|
      bif ((((list.getD (Int.toNat (some_.getD (Int.toNat i0) default)) default).Room) == room) && (((list.getD (Int.toNat (some_.getD (Int.toNat i0) default)) default).Shelf) == shelf)) then (
        asrt ((out_4.length : Int) + (([(list.getD (Int.toNat (some_.getD (Int.toNat i0) default)) default).Id] : List Int).length : Int) ≤ 2147483648) <|
        some (out_4 ++ ([(list.getD (Int.toNat (some_.getD (Int.toNat i0) default)) default).Id] : List Int)))
      else (
        some out_4)) : Option (List Int))).bind fun e => match e with
    | out_5 =>
      (some (.inl (out_5, (IntKind.i64.wrap (i0 + (1 : Int)))))))
  else (
    some (.inr out_4))

def M.spec_PullList_l2 (list : List Carton) (some_ : List Int) (room : Int) : (List Int × Int) → Option ((List Int × Int) ⊕ (List Int)) := fun st_ => match st_ with
| (out_2, shelf) =>
  bif (decide (shelf ≤ (30 : Int))) then (
    (iterO (M.spec_PullList_l3 list some_ room shelf) (out_2, (0 : Int))).bind fun e => match e with
    | out_3 =>
      (some (.inl (out_3, (IntKind.i64.wrap (shelf + (1 : Int)))))))
  else (
    some (.inr out_2))

def M.spec_PullList_l1 (list : List Carton) (some_ : List Int) : (List Int × Int) → Option ((List Int × Int) ⊕ (List Int)) := fun st_ => match st_ with
| (out_0, room) =>
  bif (decide (room ≤ (9 : Int))) then (
    (iterO (M.spec_PullList_l2 list some_ room) (out_0, (1 : Int))).bind fun e => match e with
    | out_1 =>
      (some (.inl (out_1, (IntKind.i64.wrap (room + (1 : Int)))))))
  else (
    some (.inr out_0))

def M.spec_PullList (list : List Carton) (files : List Int) : Option (List Int × Bool) :=
  (M.spec_l18Good list).bind fun y0 =>
  ((bif (!y0) then some default else M.spec_l1In (files.length : Int) (1 : Int) (20 : Int))).bind fun y1 =>
  ((bif ((!y0) || (!y1)) then some default else M.spec_l1Rising files (1 : Int) (999 : Int))).bind fun y2 =>
  bif (((!y0) || (!y1)) || (!y2)) then (
    some (([] : List Int), false))
  else (
    (iterO (M.spec_PullList_l0 list files) (([] : List Int), (0 : Int))).bind fun e => match e with
    | .inl some_ =>
      ((iterO (M.spec_PullList_l1 list some_) (([] : List Int), (1 : Int))).bind fun e => match e with
      | out_ =>
        (some (out_, true)))
    | .inr r => some r)

def M.laws_rInts_l0 (a : List Int) (b_ : List Int) : (Int) → Option ((Int) ⊕ ((Unit) ⊕ (Bool))) := fun st_ => match st_ with
| i =>
  bif (decide (i < (a.length : Int))) then (
    asrt ((0 : Int) ≤ i ∧ i < (a.length : Int)) <|
    asrt ((0 : Int) ≤ i ∧ i < (b_.length : Int)) <|
    bif ((a.getD (Int.toNat i) default) != (b_.getD (Int.toNat i) default)) then (
      some (.inr (.inr false)))
    else (
      some (.inl (IntKind.i64.wrap (i + (1 : Int))))))
  else (
    some (.inr (.inl ())))

def M.laws_rInts (a : List Int) (b_ : List Int) : Option Bool :=
  bif ((a.length : Int) != (b_.length : Int)) then (
    some false)
  else (
    (iterO (M.laws_rInts_l0 a b_) (0 : Int)).bind fun e => match e with
    | .inl () =>
      (some true)
    | .inr r => some r)

def M.impl_FindFile (list : List Carton) (file : Int) : Option (Int × Int × Int × Bool) :=
  (M.impl_cartonWith list file).bind fun y0 =>
  (M.impl_AreCartons list).bind fun y1 =>
  bif ((!y1) || (decide (y0 < (0 : Int)))) then (
    some ((0 : Int), (0 : Int), (0 : Int), false))
  else (
    asrt ((0 : Int) ≤ y0 ∧ y0 < (list.length : Int)) <|
    asrt ((0 : Int) ≤ y0 ∧ y0 < (list.length : Int)) <|
    asrt ((0 : Int) ≤ y0 ∧ y0 < (list.length : Int)) <|
    some ((list.getD (Int.toNat y0) default).Id, (list.getD (Int.toNat y0) default).Room, (list.getD (Int.toNat y0) default).Shelf, true))

def M.laws_rHas_l0 (list : List Int) (x : Int) : (Int) → Option ((Int) ⊕ ((Unit) ⊕ (Bool))) := fun st_ => match st_ with
| i =>
  bif (decide (i < (list.length : Int))) then (
    asrt ((0 : Int) ≤ i ∧ i < (list.length : Int)) <|
    bif ((list.getD (Int.toNat i) default) == x) then (
      some (.inr (.inr true)))
    else (
      some (.inl (IntKind.i64.wrap (i + (1 : Int))))))
  else (
    some (.inr (.inl ())))

def M.laws_rHas (list : List Int) (x : Int) : Option Bool :=
  (iterO (M.laws_rHas_l0 list x) (0 : Int)).bind fun e => match e with
  | .inl () =>
    (some false)
  | .inr r => some r

def M.spec_DrawAreCartons (code : List Int) : Option (List Carton) :=
  (M.spec_l1Cur_cartons (⟨code, (0 : Int), (0 : Int)⟩ : Cur)).bind fun y0 =>
  some y0.1

def M.spec_DrawRoomLoad (code : List Int) : Option (List Carton) :=
  (M.spec_DrawAreCartons code).bind fun y0 =>
  some y0

def M.impl_RoomLoad_l1 (list : List Carton) (room : Int) : (List Int × Int) → Option ((List Int × Int) ⊕ (List Int)) := fun st_ => match st_ with
| (row0, v) =>
  bif (decide (v < (list.length : Int))) then (
    (((
      asrt ((0 : Int) ≤ v ∧ v < (list.length : Int)) <|
      bif (((list.getD (Int.toNat v) default).Room) == room) then (
        asrt ((0 : Int) ≤ (1 : Int) ∧ (1 : Int) < (row0.length : Int)) <|
        asrt ((0 : Int) ≤ (1 : Int) ∧ (1 : Int) < (row0.length : Int)) <|
        asrt ((0 : Int) ≤ (2 : Int) ∧ (2 : Int) < ((row0.set (Int.toNat (1 : Int)) (IntKind.i64.wrap ((row0.getD (Int.toNat (1 : Int)) default) + (1 : Int)))).length : Int)) <|
        asrt ((0 : Int) ≤ (2 : Int) ∧ (2 : Int) < ((row0.set (Int.toNat (1 : Int)) (IntKind.i64.wrap ((row0.getD (Int.toNat (1 : Int)) default) + (1 : Int)))).length : Int)) <|
        some ((row0.set (Int.toNat (1 : Int)) (IntKind.i64.wrap ((row0.getD (Int.toNat (1 : Int)) default) + (1 : Int)))).set (Int.toNat (2 : Int)) (IntKind.i64.wrap (((row0.set (Int.toNat (1 : Int)) (IntKind.i64.wrap ((row0.getD (Int.toNat (1 : Int)) default) + (1 : Int)))).getD (Int.toNat (2 : Int)) default) + ((list.getD (Int.toNat v) default).Thick)))))
      else (
        some row0)) : Option (List Int))).bind fun e => match e with
    | row1 =>
      (some (.inl (row1, (IntKind.i64.wrap (v + (1 : Int)))))))
  else (
    some (.inr row0))

def M.impl_RoomLoad_l0 (list : List Carton) : (List (List Int) × Int) → Option ((List (List Int) × Int) ⊕ (List (List Int))) := fun st_ => match st_ with
| (rows0, room) =>
  bif (decide (room ≤ (9 : Int))) then (
    (((
      (iterO (M.impl_RoomLoad_l1 list room) (([room, (0 : Int), (0 : Int)] : List Int), (0 : Int))).bind fun e => match e with
      | row =>
        (asrt ((0 : Int) ≤ (1 : Int) ∧ (1 : Int) < (row.length : Int)) <|
        bif (decide ((row.getD (Int.toNat (1 : Int)) default) > (0 : Int))) then (
          asrt ((rows0.length : Int) + (([row] : List (List Int)).length : Int) ≤ 2147483648) <|
          some (rows0 ++ ([row] : List (List Int))))
        else (
          some rows0))) : Option (List (List Int)))).bind fun e => match e with
    | rows1 =>
      (some (.inl (rows1, (IntKind.i64.wrap (room + (1 : Int)))))))
  else (
    some (.inr rows0))

def M.impl_RoomLoad (list : List Carton) : Option (List (List Int) × Bool) :=
  (M.impl_AreCartons list).bind fun y0 =>
  bif (!y0) then (
    some (([] : List (List Int)), false))
  else (
    (iterO (M.impl_RoomLoad_l0 list) (([] : List (List Int)), (1 : Int))).bind fun e => match e with
    | rows =>
      (some (rows, true)))

def M.spec_RoomLoad_l1 (list : List Carton) (room : Int) : (Int × Int × Int) → Option ((Int × Int × Int) ⊕ (Int × Int)) := fun st_ => match st_ with
| (n_0, thick0, i) =>
  bif (decide (i < (list.length : Int))) then (
    (((
      asrt ((0 : Int) ≤ i ∧ i < (list.length : Int)) <|
      bif (((list.getD (Int.toNat i) default).Room) == room) then (
        asrt ((0 : Int) ≤ i ∧ i < (list.length : Int)) <|
        some ((IntKind.i64.wrap (n_0 + (1 : Int))), (IntKind.i64.wrap (thick0 + ((list.getD (Int.toNat i) default).Thick)))))
      else (
        some (n_0, thick0))) : Option (Int × Int))).bind fun e => match e with
    | (n_1, thick1) =>
      (some (.inl (n_1, thick1, (IntKind.i64.wrap (i + (1 : Int)))))))
  else (
    some (.inr (n_0, thick0)))

def M.spec_RoomLoad_l0 (list : List Carton) : (List (List Int) × Int) → Option ((List (List Int) × Int) ⊕ (List (List Int))) := fun st_ => match st_ with
| (out_0, room) =>
  bif (decide (room ≤ (9 : Int))) then (
    (((
      (iterO (M.spec_RoomLoad_l1 list room) ((0 : Int), (0 : Int), (0 : Int))).bind fun e => match e with
      | (n_, thick) =>
        (bif (decide (n_ > (0 : Int))) then (
          asrt ((out_0.length : Int) + (([([room, n_, thick] : List Int)] : List (List Int)).length : Int) ≤ 2147483648) <|
          some (out_0 ++ ([([room, n_, thick] : List Int)] : List (List Int))))
        else (
          some out_0))) : Option (List (List Int)))).bind fun e => match e with
    | out_1 =>
      (some (.inl (out_1, (IntKind.i64.wrap (room + (1 : Int)))))))
  else (
    some (.inr out_0))

def M.spec_RoomLoad (list : List Carton) : Option (List (List Int) × Bool) :=
  (M.spec_l18Good list).bind fun y0 =>
  bif (!y0) then (
    some (([] : List (List Int)), false))
  else (
    (iterO (M.spec_RoomLoad_l0 list) (([] : List (List Int)), (1 : Int))).bind fun e => match e with
    | out_ =>
      (some (out_, true)))

def M.laws_rTable_l0 (a : List (List Int)) (b_ : List (List Int)) : (Int) → Option ((Int) ⊕ ((Unit) ⊕ (Bool))) := fun st_ => match st_ with
| i =>
  bif (decide (i < (a.length : Int))) then (
    asrt ((0 : Int) ≤ i ∧ i < (a.length : Int)) <|
    asrt ((0 : Int) ≤ i ∧ i < (b_.length : Int)) <|
    (M.laws_rInts (a.getD (Int.toNat i) default) (b_.getD (Int.toNat i) default)).bind fun y1 =>
    bif (!y1) then (
      some (.inr (.inr false)))
    else (
      some (.inl (IntKind.i64.wrap (i + (1 : Int))))))
  else (
    some (.inr (.inl ())))

def M.laws_rTable (a : List (List Int)) (b_ : List (List Int)) : Option Bool :=
  bif ((a.length : Int) != (b_.length : Int)) then (
    some false)
  else (
    (iterO (M.laws_rTable_l0 a b_) (0 : Int)).bind fun e => match e with
    | .inl () =>
      (some true)
    | .inr r => some r)

def M.impl_EmptyCartons_l0 (list : List Carton) : (List Int × Int) → Option ((List Int × Int) ⊕ (List Int)) := fun st_ => match st_ with
| (ids0, v) =>
  bif (decide (v < (list.length : Int))) then (
    (((
      asrt ((0 : Int) ≤ v ∧ v < (list.length : Int)) <|
      bif ((((list.getD (Int.toNat v) default).Files).length : Int) == (0 : Int)) then (
        asrt ((ids0.length : Int) + (([(list.getD (Int.toNat v) default).Id] : List Int).length : Int) ≤ 2147483648) <|
        some (ids0 ++ ([(list.getD (Int.toNat v) default).Id] : List Int)))
      else (
        some ids0)) : Option (List Int))).bind fun e => match e with
    | ids1 =>
      (some (.inl (ids1, (IntKind.i64.wrap (v + (1 : Int)))))))
  else (
    some (.inr ids0))

def M.impl_EmptyCartons (list : List Carton) : Option (List Int × Bool) :=
  (M.impl_AreCartons list).bind fun y0 =>
  bif (!y0) then (
    some (([] : List Int), false))
  else (
    (iterO (M.impl_EmptyCartons_l0 list) (([] : List Int), (0 : Int))).bind fun e => match e with
    | ids =>
      (some (ids, true)))

def M.spec_EmptyCartons_l0 (list : List Carton) : (List Int × Int) → Option ((List Int × Int) ⊕ (List Int)) := fun st_ => match st_ with
| (out_0, i) =>
  bif (decide (i < (list.length : Int))) then (
    (((
      asrt ((0 : Int) ≤ i ∧ i < (list.length : Int)) <|
      bif ((((list.getD (Int.toNat i) default).Files).length : Int) == (0 : Int)) then (
        asrt ((0 : Int) ≤ i ∧ i < (list.length : Int)) <|
        asrt ((out_0.length : Int) + (([(list.getD (Int.toNat i) default).Id] : List Int).length : Int) ≤ 2147483648) <|
        some (out_0 ++ ([(list.getD (Int.toNat i) default).Id] : List Int)))
      else (
        some out_0)) : Option (List Int))).bind fun e => match e with
    | out_1 =>
      (some (.inl (out_1, (IntKind.i64.wrap (i + (1 : Int)))))))
  else (
    some (.inr out_0))

def M.spec_EmptyCartons (list : List Carton) : Option (List Int × Bool) :=
  (M.spec_l18Good list).bind fun y0 =>
  bif (!y0) then (
    some (([] : List Int), false))
  else (
    (iterO (M.spec_EmptyCartons_l0 list) (([] : List Int), (0 : Int))).bind fun e => match e with
    | out_ =>
      (some (out_, true)))

def M.spec_DrawFreeOn (code : List Int) : Option (List Carton × Int × Int) :=
  (M.spec_l1Cur_cartons (⟨code, (0 : Int), (0 : Int)⟩ : Cur)).bind fun y0 =>
  (M.spec_l1Cur_pick y0.2 (24 : Int)).bind fun y1 =>
  asrt ((0 : Int) ≤ (0 : Int) ∧ (0 : Int) ≤ (IntKind.i64.wrap ((4 : Int) + (IntKind.i64.wrap (Int.tdiv y1.1 (11 : Int))))) ∧ (IntKind.i64.wrap ((4 : Int) + (IntKind.i64.wrap (Int.tdiv y1.1 (11 : Int))))) ≤ (([(1 : Int), (1 : Int), (2 : Int), (9 : Int), (0 : Int), (10 : Int)] : List Int).length : Int)) <|
  (M.spec_l1Cur_among y1.2 (slc ([(1 : Int), (1 : Int), (2 : Int), (9 : Int), (0 : Int), (10 : Int)] : List Int) (0 : Int) (IntKind.i64.wrap ((4 : Int) + (IntKind.i64.wrap (Int.tdiv y1.1 (11 : Int))))))).bind fun y2 =>
  (M.spec_l1Cur_pick y2.2 (24 : Int)).bind fun y3 =>
  asrt ((0 : Int) ≤ (0 : Int) ∧ (0 : Int) ≤ (IntKind.i64.wrap ((4 : Int) + (IntKind.i64.wrap (Int.tdiv y3.1 (11 : Int))))) ∧ (IntKind.i64.wrap ((4 : Int) + (IntKind.i64.wrap (Int.tdiv y3.1 (11 : Int))))) ≤ (([(1 : Int), (1 : Int), (2 : Int), (30 : Int), (0 : Int), (31 : Int)] : List Int).length : Int)) <|
  (M.spec_l1Cur_among y3.2 (slc ([(1 : Int), (1 : Int), (2 : Int), (30 : Int), (0 : Int), (31 : Int)] : List Int) (0 : Int) (IntKind.i64.wrap ((4 : Int) + (IntKind.i64.wrap (Int.tdiv y3.1 (11 : Int))))))).bind fun y4 =>
  some (y0.1, y2.1, y4.1)

def M.spec_FreeOn (list : List Carton) (room : Int) (shelf : Int) : Option (Int × Bool) :=
  (M.spec_l18Good list).bind fun y0 =>
  ((bif (!y0) then some default else M.spec_l18Place room shelf)).bind fun y1 =>
  bif ((!y0) || (!y1)) then (
    some ((0 : Int), false))
  else (
    (M.spec_l18Taken list room shelf).bind fun y2 =>
    some ((IntKind.i64.wrap ((100 : Int) - y2)), true))

def M.spec_DrawIsCarton (code : List Int) : Option Carton :=
  (M.spec_l1Cur_among (⟨code, (0 : Int), (0 : Int)⟩ : Cur) ([(1 : Int), (42 : Int), (99 : Int)] : List Int)).bind fun y0 =>
  (M.spec_l1Cur_carton y0.2 y0.1 (7 : Int)).bind fun y1 =>
  some y1.1

def M.spec_IsCarton (x : Carton) : Option Bool :=
  (M.spec_l18One x).bind fun y0 =>
  some y0

def M.laws_FnShelves_l0 (y1 : List Carton × Int × Int) (y4 : Int × Bool) : (Int) → Option ((Int) ⊕ ((Unit) ⊕ (Bool))) := fun st_ => match st_ with
| shelf =>
  bif (decide (shelf ≤ (30 : Int))) then (
    (M.impl_FreeOn y1.1 y1.2.1 shelf).bind fun y6 =>
    bif ((!y6.2) || ((decide (y6.1 ≥ y1.2.2)) && (decide (y6.1 < y4.1)))) then (
      some (.inr (.inr false)))
    else (
      some (.inl (IntKind.i64.wrap (shelf + (1 : Int))))))
  else (
    some (.inr (.inl ())))

def M.laws_FnShelves_l1 (y7 : List Carton × List Int) (y8 : List Int × Bool) : (Int) → Option ((Int) ⊕ ((Unit) ⊕ (Bool))) := fun st_ => match st_ with
| i =>
  bif ((decide (i < (y7.2.length : Int))) && y8.2) then (
    asrt ((0 : Int) ≤ i ∧ i < (y7.2.length : Int)) <|
    (M.impl_FindFile y7.1 (y7.2.getD (Int.toNat i) default)).bind fun y12 =>
    ((bif (!y12.2.2.2) then some default else M.laws_rHas y8.1 y12.1)).bind fun y13 =>
    bif ((!y12.2.2.2) || (!y13)) then (
      some (.inr (.inr false)))
    else (
      some (.inl (IntKind.i64.wrap (i + (1 : Int))))))
  else (
    some (.inr (.inl ())))

def M.laws_FnShelves_l2 (y15 : List (List Int) × Bool) : (Int × Int) → Option ((Int × Int) ⊕ (Int)) := fun st_ => match st_ with
| (n_0, i0) =>
  bif (decide (i0 < (y15.1.length : Int))) then (
    asrt ((0 : Int) ≤ i0 ∧ i0 < (y15.1.length : Int)) <|
    asrt ((0 : Int) ≤ (1 : Int) ∧ (1 : Int) < ((y15.1.getD (Int.toNat i0) default).length : Int)) <|
    some (.inl ((IntKind.i64.wrap (n_0 + ((y15.1.getD (Int.toNat i0) default).getD (Int.toNat (1 : Int)) default))), (IntKind.i64.wrap (i0 + (1 : Int))))))
  else (
    some (.inr n_0))

def M.laws_FnShelves (code : List Int) : Option Bool :=
  (M.laws_rBig code).bind fun y0 =>
  bif y0 then (
    some true)
  else (
    (M.spec_DrawBestShelf code).bind fun y1 =>
    (M.impl_BestShelf y1.1 y1.2.1 y1.2.2).bind fun y2 =>
    (M.spec_BestShelf y1.1 y1.2.1 y1.2.2).bind fun y3 =>
    bif ((y2.1 != y3.1) || (!(y2.2 == y3.2))) then (
      some false)
    else (
      (((
        bif y2.2 then (
          (M.impl_FreeOn y1.1 y1.2.1 y2.1).bind fun y4 =>
          bif ((!y4.2) || (decide (y4.1 < y1.2.2))) then (
            some (.inr false))
          else (
            (iterO (M.laws_FnShelves_l0 y1 y4) (1 : Int)).bind fun e => match e with
            | .inl () =>
              (some (.inl ()))
            | .inr r => some (.inr r)))
        else (
          some (.inl ()))) : Option ((Unit) ⊕ (Bool)))).bind fun e => match e with
      | .inl () =>
        ((M.spec_DrawPullList code).bind fun y7 =>
        (M.impl_PullList y7.1 y7.2).bind fun y8 =>
        (M.spec_PullList y7.1 y7.2).bind fun y9 =>
        ((bif (!(y8.2 == y9.2)) then some default else M.laws_rInts y8.1 y9.1)).bind fun y10 =>
        bif ((!(y8.2 == y9.2)) || (!y10)) then (
          some false)
        else (
          (iterO (M.laws_FnShelves_l1 y7 y8) (0 : Int)).bind fun e => match e with
          | .inl () =>
            ((M.spec_DrawRoomLoad code).bind fun y14 =>
            (M.impl_RoomLoad y14).bind fun y15 =>
            (M.spec_RoomLoad y14).bind fun y16 =>
            ((bif (!(y15.2 == y16.2)) then some default else M.laws_rTable y15.1 y16.1)).bind fun y17 =>
            ((bif ((!(y15.2 == y16.2)) || (!y17)) then some default else M.impl_AreCartons y14)).bind fun y18 =>
            bif (((!(y15.2 == y16.2)) || (!y17)) || (!(y15.2 == y18))) then (
              some false)
            else (
              (iterO (M.laws_FnShelves_l2 y15) ((0 : Int), (0 : Int))).bind fun e => match e with
              | n_ =>
                (bif (y15.2 && (n_ != (y14.length : Int))) then (
                  some false)
                else (
                  (M.impl_EmptyCartons y14).bind fun y20 =>
                  (M.spec_EmptyCartons y14).bind fun y21 =>
                  ((bif (!(y20.2 == y21.2)) then some default else M.laws_rInts y20.1 y21.1)).bind fun y22 =>
                  bif ((!(y20.2 == y21.2)) || (!y22)) then (
                    some false)
                  else (
                    (M.spec_DrawFreeOn code).bind fun y23 =>
                    (M.impl_FreeOn y23.1 y23.2.1 y23.2.2).bind fun y24 =>
                    (M.spec_FreeOn y23.1 y23.2.1 y23.2.2).bind fun y25 =>
                    (M.spec_DrawIsCarton code).bind fun y26 =>
                    ((bif ((y24.1 == y25.1) && (y24.2 == y25.2)) then M.impl_IsCarton y26 else some default)).bind fun y27 =>
                    ((bif ((y24.1 == y25.1) && (y24.2 == y25.2)) then M.spec_IsCarton y26 else some default)).bind fun y28 =>
                    some (((y24.1 == y25.1) && (y24.2 == y25.2)) && (y27 == y28)))))))
          | .inr r => some r))
      | .inr r => some r))
end Go.Proofs.Ythfndefhmmfjaaa
