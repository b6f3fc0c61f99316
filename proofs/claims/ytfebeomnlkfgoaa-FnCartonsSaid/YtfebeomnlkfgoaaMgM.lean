/- models of the functions -/
import Derived.Test.YtfebeomnlkfgoaaWn
set_option linter.unusedSimpArgs false
set_option linter.unusedVariables false
set_option maxRecDepth 100000
namespace Go.Proofs.Ytfebeomnlkfgoaa
open Go.VS
structure Cur where
 Code : List Int
 At : Int
 Seed : Int
 deriving Inhabited, DecidableEq
abbrev encCur (ρ : Nat) (c : Cur) : PV := .agg [.vl ρ 1 (List.map encU8 c.Code), .int .i64 c.At, .int .u64 c.Seed]
structure Carton where
 Id : Int
 Shelf : Int
 Room : Int
 Files : List Int
 Thick : Int
 deriving Inhabited, DecidableEq
abbrev encCarton (ρ : Nat) (c : Carton) : PV := .agg [.int .i64 c.Id, .int .i64 c.Shelf, .int .i64 c.Room, .vl ρ 1 (List.map encInt c.Files), .int .i64 c.Thick]
abbrev cellCarton (t_ : PV) (c : Carton) : PV := .agg [.int .i64 c.Id, .int .i64 c.Shelf, .int .i64 c.Room, t_, .int .i64 c.Thick]
theorem cokCarton : CellOK 5 3 1 (fun c_ : Carton => List.map encInt c_.Files) cellCarton where
 good := fun t x h => rfl
 isl := fun t x h => rfl
 set := fun t t' x h h' => rfl
 no := fun τ t x h => by simp [PV.no, PV.noL, h]
 rep := fun w S S' own own' t t' x h => Rep.aggTo ((.cons (fun u hu => by unfold Rep at hu ⊢; exact hu) (.cons (fun u hu => by unfold Rep at hu ⊢; exact hu) (.cons (fun u hu => by unfold Rep at hu ⊢; exact hu) (.cons h (.cons (fun u hu => by unfold Rep at hu ⊢; exact hu) .nil))))))
def M.laws_rBig (code : List Int) : Option Bool :=
 some (decide ((code.length : Int) > (65536 : Int)))
def M.spec_l1Cur_next (c : Cur) : Option (Int × Cur) :=
 (((
  bif (decide (c.At < (c.Code.length : Int))) then (
   asrt ((0 : Int) ≤ c.At ∧ c.At < (c.Code.length : Int)) <|
   some (IntKind.i64.wrap (c.Code.getD (Int.toNat c.At) default)))
  else (
   some (0 : Int))) : Option Int)).bind fun e => match e with
 | b_ =>
  (bif (decide ((IntKind.i64.wrap (c.At + (1 : Int))) ≤ (c.Code.length : Int))) then (
   some (b_, (⟨c.Code, (IntKind.i64.wrap (c.At + (1 : Int))), (IntKind.u64.wrap ((IntKind.u64.wrap ((IntKind.u64.wrap (c.Seed * (6364136223846793005 : Int))) + (IntKind.u64.wrap b_))) + (103535 : Int)))⟩ : Cur)))
  else (
   some ((IntKind.i64.wrap (IntKind.u64.wrap (BitVec.ofInt IntKind.u64.bits (Int.fdiv (IntKind.u64.wrap ((IntKind.u64.wrap ((IntKind.u64.wrap (c.Seed * (6364136223846793005 : Int))) + (IntKind.u64.wrap b_))) + (103535 : Int))) (2 ^ (min (Int.toNat (40 : Int)) IntKind.u64.bits))) &&& BitVec.ofInt IntKind.u64.bits (255 : Int)).toNat)), (⟨c.Code, (IntKind.i64.wrap (c.At + (1 : Int))), (IntKind.u64.wrap ((IntKind.u64.wrap ((IntKind.u64.wrap (c.Seed * (6364136223846793005 : Int))) + (IntKind.u64.wrap b_))) + (103535 : Int)))⟩ : Cur))))
def M.spec_l1Cur_pick (c : Cur) (n : Int) : Option (Int × Cur) :=
 bif (decide (n ≤ (1 : Int))) then (
  some ((0 : Int), c))
 else (
  (M.spec_l1Cur_next c).bind fun y0 =>
  (((
   bif (decide (n > (200 : Int))) then (
    (M.spec_l1Cur_next y0.2).bind fun y1 =>
    some ((IntKind.i64.wrap ((IntKind.i64.wrap (y0.1 * (256 : Int))) + y1.1)), y1.2))
   else (
    some (y0.1, y0.2))) : Option (Int × Cur))).bind fun e => match e with
  | (x, c_) =>
   (asrt (n ≠ 0) <|
   some ((Int.tmod x n), c_)))
def M.spec_l1Cur_among (c : Cur) (list : List Int) : Option (Int × Cur) :=
 (M.spec_l1Cur_pick c (list.length : Int)).bind fun y0 =>
 asrt ((0 : Int) ≤ y0.1 ∧ y0.1 < (list.length : Int)) <|
 some ((list.getD (Int.toNat y0.1) default), y0.2)
def M.spec_l1Cur_carton_l0 : (Int × Int × List Int × Cur) → Option ((Int × Int × List Int × Cur) ⊕ (Int × List Int × Cur)) := fun st_ => match st_ with
| (first1, n_, x_Files0, c_0) =>
 bif (decide (n_ > (0 : Int))) then (
  asrt ((x_Files0.length : Int) + (([first1] : List Int).length : Int) ≤ 2147483648) <|
  (M.spec_l1Cur_pick c_0 (2 : Int)).bind fun y5 =>
  some (.inl ((IntKind.i64.wrap ((IntKind.i64.wrap (first1 + (1 : Int))) + y5.1)), (IntKind.i64.wrap (n_ - (1 : Int))), (x_Files0 ++ ([first1] : List Int)), y5.2)))
 else (
  some (.inr (first1, x_Files0, c_0)))
def M.spec_l1Cur_carton_l1 : (Int × List Int × Cur) → Option ((Int × List Int × Cur) ⊕ (List Int × Cur)) := fun st_ => match st_ with
| (first2, x_Files4, c_3) =>
 (M.spec_l1Cur_pick c_3 (2 : Int)).bind fun y13 =>
 bif (decide ((x_Files4.length : Int) < (IntKind.i64.wrap ((12 : Int) + y13.1)))) then (
  asrt ((x_Files4.length : Int) + (([first2] : List Int).length : Int) ≤ 2147483648) <|
  some (.inl ((IntKind.i64.wrap (first2 + (1 : Int))), (x_Files4 ++ ([first2] : List Int)), y13.2)))
 else (
  some (.inr (x_Files4, y13.2)))
def M.spec_l1Cur_carton (c : Cur) (id_ : Int) (first : Int) : Option (Carton × Cur) :=
 (M.spec_l1Cur_among c ([(1 : Int), (1 : Int), (2 : Int), (30 : Int)] : List Int)).bind fun y0 =>
 (M.spec_l1Cur_among y0.2 ([(1 : Int), (1 : Int), (2 : Int), (9 : Int)] : List Int)).bind fun y1 =>
 (M.spec_l1Cur_among y1.2 ([(1 : Int), (10 : Int), (20 : Int), (30 : Int), (40 : Int)] : List Int)).bind fun y2 =>
 (M.spec_l1Cur_pick y2.2 (6 : Int)).bind fun y3 =>
 (iterO (M.spec_l1Cur_carton_l0) (first, y3.1, ([] : List Int), y3.2)).bind fun e => match e with
 | (first0, x_Files, c_) =>
  ((M.spec_l1Cur_pick c_ (70 : Int)).bind fun y6 =>
  (((
   bif (y6.1 == (0 : Int)) then (
    (M.spec_l1Cur_among y6.2 ([(0 : Int), (99 : Int), (100 : Int)] : List Int)).bind fun y7 =>
    some (y7.1, y0.1, y1.1, x_Files, y2.1, y7.2))
   else (
    bif (y6.1 == (1 : Int)) then (
     (M.spec_l1Cur_among y6.2 ([(0 : Int), (31 : Int)] : List Int)).bind fun y8 =>
     some (id_, y8.1, y1.1, x_Files, y2.1, y8.2))
    else (
     bif (y6.1 == (2 : Int)) then (
      (M.spec_l1Cur_among y6.2 ([(0 : Int), (10 : Int)] : List Int)).bind fun y9 =>
      some (id_, y0.1, y9.1, x_Files, y2.1, y9.2))
     else (
      bif (y6.1 == (3 : Int)) then (
       (M.spec_l1Cur_among y6.2 ([(0 : Int), (41 : Int)] : List Int)).bind fun y10 =>
       some (id_, y0.1, y1.1, x_Files, y10.1, y10.2))
      else (
       bif (y6.1 == (4 : Int)) then (
        (M.spec_l1Cur_among y6.2 ([(0 : Int), (5 : Int), (1000 : Int)] : List Int)).bind fun y11 =>
        asrt ((x_Files.length : Int) + (([y11.1] : List Int).length : Int) ≤ 2147483648) <|
        (((
         some ((x_Files ++ ([y11.1] : List Int)), y11.2)) : Option (List Int × Cur))).bind fun e => match e with
        | (x_Files2, o) =>
         (some (id_, y0.1, y1.1, x_Files2, y2.1, o)))
       else (
        bif (y6.1 == (5 : Int)) then (
         (iterO (M.spec_l1Cur_carton_l1) (first0, x_Files, y6.2)).bind fun e => match e with
         | (x_Files3, c_2) =>
          (some (id_, y0.1, y1.1, x_Files3, y2.1, c_2)))
        else (
         some (id_, y0.1, y1.1, x_Files, y2.1, y6.2)))))))) : Option (Int × Int × Int × List Int × Int × Cur))).bind fun e => match e with
  | (x_Id, x_Shelf, x_Room, x_Files1, x_Thick, c_1) =>
   (some ((⟨x_Id, x_Shelf, x_Room, x_Files1, x_Thick⟩ : Carton), c_1)))
def M.spec_l1In (x : Int) (a : Int) (b_ : Int) : Option Bool :=
 some ((decide (x ≥ a)) && (decide (x ≤ b_)))
def M.spec_l18Place (room : Int) (shelf : Int) : Option Bool :=
 (M.spec_l1In room (1 : Int) (9 : Int)).bind fun y0 =>
 ((bif y0 then M.spec_l1In shelf (1 : Int) (30 : Int) else some default)).bind fun y1 =>
 some (y0 && y1)
def M.spec_l1Rising_l0 (l : List Int) (lo : Int) (hi : Int) : (Int) → Option ((Int) ⊕ ((Unit) ⊕ (Bool))) := fun st_ => match st_ with
| i =>
 bif (decide (i < (l.length : Int))) then (
  asrt ((0 : Int) ≤ i ∧ i < (l.length : Int)) <|
  (M.spec_l1In (l.getD (Int.toNat i) default) lo hi).bind fun y1 =>
  asrt ((!y1) = false → (decide (i > (0 : Int))) = true → ((0 : Int) ≤ (IntKind.i64.wrap (i - (1 : Int))) ∧ (IntKind.i64.wrap (i - (1 : Int))) < (l.length : Int))) <|
  asrt ((!y1) = false → (decide (i > (0 : Int))) = true → ((0 : Int) ≤ i ∧ i < (l.length : Int))) <|
  bif ((!y1) || ((decide (i > (0 : Int))) && (decide ((l.getD (Int.toNat (IntKind.i64.wrap (i - (1 : Int)))) default) ≥ (l.getD (Int.toNat i) default))))) then (
   some (.inr (.inr false)))
  else (
   some (.inl (IntKind.i64.wrap (i + (1 : Int))))))
 else (
  some (.inr (.inl ())))
def M.spec_l1Rising (l : List Int) (lo : Int) (hi : Int) : Option Bool :=
 (iterO (M.spec_l1Rising_l0 l lo hi) (0 : Int)).bind fun e => match e with
 | .inl () =>
  (some true)
 | .inr r => some r
def M.spec_l18One (x : Carton) : Option Bool :=
 (M.spec_l1In x.Id (1 : Int) (99 : Int)).bind fun y0 =>
 ((bif y0 then M.spec_l18Place x.Room x.Shelf else some default)).bind fun y1 =>
 ((bif ((y0 && y1) && (decide ((x.Files.length : Int) ≤ (12 : Int)))) then M.spec_l1Rising x.Files (1 : Int) (999 : Int) else some default)).bind fun y2 =>
 ((bif (((y0 && y1) && (decide ((x.Files.length : Int) ≤ (12 : Int)))) && y2) then M.spec_l1In x.Thick (1 : Int) (40 : Int) else some default)).bind fun y3 =>
 some ((((y0 && y1) && (decide ((x.Files.length : Int) ≤ (12 : Int)))) && y2) && y3)
def M.spec_l18Taken_l0 (list : List Carton) (room : Int) (shelf : Int) : (Int × Int) → Option ((Int × Int) ⊕ (Int)) := fun st_ => match st_ with
| (sum_0, i) =>
 bif (decide (i < (list.length : Int))) then (
  (((
   asrt ((0 : Int) ≤ i ∧ i < (list.length : Int)) <|
   asrt ((((list.getD (Int.toNat i) default).Room) == room) = true → ((0 : Int) ≤ i ∧ i < (list.length : Int))) <|
   bif ((((list.getD (Int.toNat i) default).Room) == room) && (((list.getD (Int.toNat i) default).Shelf) == shelf)) then (
    asrt ((0 : Int) ≤ i ∧ i < (list.length : Int)) <|
    some (IntKind.i64.wrap (sum_0 + ((list.getD (Int.toNat i) default).Thick))))
   else (
    some sum_0)) : Option Int)).bind fun e => match e with
  | sum_1 =>
   (some (.inl (sum_1, (IntKind.i64.wrap (i + (1 : Int)))))))
 else (
  some (.inr sum_0))
def M.spec_l18Taken (list : List Carton) (room : Int) (shelf : Int) : Option Int :=
 (iterO (M.spec_l18Taken_l0 list room shelf) ((0 : Int), (0 : Int))).bind fun e => match e with
 | sum_ =>
  (some sum_)
def M.spec_l1Has_l0 (l : List Int) (n : Int) : (Int) → Option ((Int) ⊕ ((Unit) ⊕ (Bool))) := fun st_ => match st_ with
| i =>
 bif (decide (i < (l.length : Int))) then (
  asrt ((0 : Int) ≤ i ∧ i < (l.length : Int)) <|
  bif ((l.getD (Int.toNat i) default) == n) then (
   some (.inr (.inr true)))
  else (
   some (.inl (IntKind.i64.wrap (i + (1 : Int))))))
 else (
  some (.inr (.inl ())))
def M.spec_l1Has (l : List Int) (n : Int) : Option Bool :=
 (iterO (M.spec_l1Has_l0 l n) (0 : Int)).bind fun e => match e with
 | .inl () =>
  (some false)
 | .inr r => some r
def M.spec_l18Holds_l0 (list : List Carton) (file : Int) : (Int) → Option ((Int) ⊕ ((Unit) ⊕ (Int))) := fun st_ => match st_ with
| i =>
 bif (decide (i < (list.length : Int))) then (
  asrt ((0 : Int) ≤ i ∧ i < (list.length : Int)) <|
  (M.spec_l1Has ((list.getD (Int.toNat i) default).Files) file).bind fun y1 =>
  bif y1 then (
   some (.inr (.inr i)))
  else (
   some (.inl (IntKind.i64.wrap (i + (1 : Int))))))
 else (
  some (.inr (.inl ())))
def M.spec_l18Holds (list : List Carton) (file : Int) : Option Int :=
 (iterO (M.spec_l18Holds_l0 list file) (0 : Int)).bind fun e => match e with
 | .inl () =>
  (some (-1 : Int))
 | .inr r => some r
def M.spec_l18Good_l1 (list : List Carton) (i : Int) : (Int) → Option ((Int) ⊕ ((Unit) ⊕ (Bool))) := fun st_ => match st_ with
| k =>
 bif (decide (k < (((list.getD (Int.toNat i) default).Files).length : Int))) then (
  asrt ((0 : Int) ≤ (0 : Int) ∧ (0 : Int) ≤ i ∧ i ≤ (list.length : Int)) <|
  asrt ((0 : Int) ≤ k ∧ k < (((list.getD (Int.toNat i) default).Files).length : Int)) <|
  (M.spec_l18Holds (slc list (0 : Int) i) (((list.getD (Int.toNat i) default).Files).getD (Int.toNat k) default)).bind fun y4 =>
  bif (decide (y4 ≥ (0 : Int))) then (
   some (.inr (.inr false)))
  else (
   some (.inl (IntKind.i64.wrap (k + (1 : Int))))))
 else (
  some (.inr (.inl ())))
def M.spec_l18Good_l0 (list : List Carton) : (Int) → Option ((Int) ⊕ ((Unit) ⊕ (Bool))) := fun st_ => match st_ with
| i =>
 bif ((decide (i < (list.length : Int))) && (decide (i ≤ (10 : Int)))) then (
  asrt ((0 : Int) ≤ i ∧ i < (list.length : Int)) <|
  (M.spec_l18One (list.getD (Int.toNat i) default)).bind fun y1 =>
  asrt ((!y1) = false → (decide (i > (0 : Int))) = true → ((0 : Int) ≤ (IntKind.i64.wrap (i - (1 : Int))) ∧ (IntKind.i64.wrap (i - (1 : Int))) < (list.length : Int))) <|
  asrt (((!y1) || ((decide (i > (0 : Int))) && (decide (((list.getD (Int.toNat (IntKind.i64.wrap (i - (1 : Int)))) default).Id) ≥ ((list.getD (Int.toNat i) default).Id))))) = false → ((0 : Int) ≤ (0 : Int) ∧ (0 : Int) ≤ (IntKind.i64.wrap (i + (1 : Int))) ∧ (IntKind.i64.wrap (i + (1 : Int))) ≤ (list.length : Int))) <|
  ((bif ((!y1) || ((decide (i > (0 : Int))) && (decide (((list.getD (Int.toNat (IntKind.i64.wrap (i - (1 : Int)))) default).Id) ≥ ((list.getD (Int.toNat i) default).Id))))) then some default else M.spec_l18Taken (slc list (0 : Int) (IntKind.i64.wrap (i + (1 : Int)))) ((list.getD (Int.toNat i) default).Room) ((list.getD (Int.toNat i) default).Shelf))).bind fun y2 =>
  bif (((!y1) || ((decide (i > (0 : Int))) && (decide (((list.getD (Int.toNat (IntKind.i64.wrap (i - (1 : Int)))) default).Id) ≥ ((list.getD (Int.toNat i) default).Id))))) || (decide (y2 > (100 : Int)))) then (
   some (.inr (.inr false)))
  else (
   (iterO (M.spec_l18Good_l1 list i) (0 : Int)).bind fun e => match e with
   | .inl () =>
    (some (.inl (IntKind.i64.wrap (i + (1 : Int)))))
   | .inr r => some (.inr (.inr r))))
 else (
  some (.inr (.inl ())))
def M.spec_l18Good (list : List Carton) : Option Bool :=
 (iterO (M.spec_l18Good_l0 list) (0 : Int)).bind fun e => match e with
 | .inl () =>
  (some (decide ((list.length : Int) ≤ (10 : Int))))
 | .inr r => some r
def M.spec_l1Cur_one (c : Cur) (n : Int) : Option (Bool × Cur) :=
 (M.spec_l1Cur_pick c n).bind fun y0 =>
 some ((y0.1 == (0 : Int)), y0.2)
def M.spec_l1Cur_cartons_l0 : (List Carton × Int × Int × Cur) → Option ((List Carton × Int × Int × Cur) ⊕ (List Carton × Cur)) := fun st_ => match st_ with
| (out_0, id_, n_, c_0) =>
 bif (decide (n_ > (0 : Int))) then (
  (((
   (M.spec_l1Cur_pick c_0 (3 : Int)).bind fun y2 =>
   asrt ((([] : List Carton).length : Int) + (out_0.length : Int) ≤ 2147483648) <|
   (M.spec_l1Cur_pick y2.2 (60 : Int)).bind fun y3 =>
   (M.spec_l1Cur_carton y3.2 (IntKind.i64.wrap ((IntKind.i64.wrap (id_ + (1 : Int))) + y2.1)) (IntKind.i64.wrap ((IntKind.i64.wrap ((IntKind.i64.wrap ((30 : Int) * (out_0.length : Int))) + (1 : Int))) - (IntKind.i64.wrap ((IntKind.i64.wrap (Int.tdiv y3.1 (59 : Int))) * (20 : Int)))))).bind fun y4 =>
   asrt (((([] : List Carton) ++ out_0).length : Int) + (([y4.1] : List Carton).length : Int) ≤ 2147483648) <|
   (M.spec_l18Good ((([] : List Carton) ++ out_0) ++ ([y4.1] : List Carton))).bind fun y5 =>
   ((bif y5 then some default else M.spec_l1Cur_one y4.2 (40 : Int))).bind fun y6 =>
   bif (y5 || y6.1) then (
    some (((([] : List Carton) ++ out_0) ++ ([y4.1] : List Carton)), (IntKind.i64.wrap ((IntKind.i64.wrap (id_ + (1 : Int))) + y2.1)), (bif y5 then y4.2 else y6.2)))
   else (
    some (out_0, (IntKind.i64.wrap ((IntKind.i64.wrap (id_ + (1 : Int))) + y2.1)), (bif y5 then y4.2 else y6.2)))) : Option (List Carton × Int × Cur))).bind fun e => match e with
  | (out_1, id_0, c_1) =>
   (some (.inl (out_1, id_0, (IntKind.i64.wrap (n_ - (1 : Int))), c_1))))
 else (
  some (.inr (out_0, c_0)))
def M.spec_l1Cur_cartons_l1 : (List Carton × Int × Cur) → Option ((List Carton × Int × Cur) ⊕ (List Carton × Cur)) := fun st_ => match st_ with
| (out_3, n_0, c_3) =>
 (M.spec_l1Cur_pick c_3 (2 : Int)).bind fun y9 =>
 bif (decide (n_0 < (IntKind.i64.wrap ((10 : Int) + y9.1)))) then (
  asrt ((out_3.length : Int) + (([(⟨(IntKind.i64.wrap (n_0 + (1 : Int))), (IntKind.i64.wrap ((1 : Int) + (IntKind.i64.wrap (Int.tdiv n_0 (3 : Int))))), (1 : Int), ([] : List Int), (30 : Int)⟩ : Carton)] : List Carton).length : Int) ≤ 2147483648) <|
  some (.inl ((out_3 ++ ([(⟨(IntKind.i64.wrap (n_0 + (1 : Int))), (IntKind.i64.wrap ((1 : Int) + (IntKind.i64.wrap (Int.tdiv n_0 (3 : Int))))), (1 : Int), ([] : List Int), (30 : Int)⟩ : Carton)] : List Carton)), (IntKind.i64.wrap (n_0 + (1 : Int))), y9.2)))
 else (
  some (.inr (out_3, y9.2)))
def M.spec_l1Cur_cartons (c : Cur) : Option (List Carton × Cur) :=
 (M.spec_l1Cur_pick c (7 : Int)).bind fun y0 =>
 (iterO (M.spec_l1Cur_cartons_l0) (([] : List Carton), (0 : Int), y0.1, y0.2)).bind fun e => match e with
 | (out_, c_) =>
  ((M.spec_l1Cur_one c_ (24 : Int)).bind fun y7 =>
  bif y7.1 then (
   (iterO (M.spec_l1Cur_cartons_l1) (([] : List Carton), (0 : Int), y7.2)).bind fun e => match e with
   | (out_2, c_2) =>
    (some (out_2, c_2)))
  else (
   some (out_, y7.2)))
def M.spec_l1Cur_filed_l0 (list : List Carton) : (Int × Cur) → Option ((Int × Cur) ⊕ ((Cur) ⊕ (Int × Cur))) := fun st_ => match st_ with
| (i, c_0) =>
 bif (decide (i < (list.length : Int))) then (
  asrt ((0 : Int) ≤ i ∧ i < (list.length : Int)) <|
  ((bif (decide ((((list.getD (Int.toNat i) default).Files).length : Int) > (0 : Int))) then M.spec_l1Cur_one c_0 (2 : Int) else some default)).bind fun y1 =>
  bif ((decide ((((list.getD (Int.toNat i) default).Files).length : Int) > (0 : Int))) && y1.1) then (
   asrt ((0 : Int) ≤ i ∧ i < (list.length : Int)) <|
   (M.spec_l1Cur_pick (bif (decide ((((list.getD (Int.toNat i) default).Files).length : Int) > (0 : Int))) then y1.2 else c_0) (((list.getD (Int.toNat i) default).Files).length : Int)).bind fun y2 =>
   asrt ((0 : Int) ≤ y2.1 ∧ y2.1 < (((list.getD (Int.toNat i) default).Files).length : Int)) <|
   some (.inr (.inr ((((list.getD (Int.toNat i) default).Files).getD (Int.toNat y2.1) default), y2.2))))
  else (
   some (.inl ((IntKind.i64.wrap (i + (1 : Int))), (bif (decide ((((list.getD (Int.toNat i) default).Files).length : Int) > (0 : Int))) then y1.2 else c_0)))))
 else (
  some (.inr (.inl c_0)))
def M.spec_l1Cur_filed (c : Cur) (list : List Carton) : Option (Int × Cur) :=
 (iterO (M.spec_l1Cur_filed_l0 list) ((0 : Int), c)).bind fun e => match e with
 | .inl c_ =>
  ((M.spec_l1Cur_among c_ ([(1 : Int), (500 : Int), (999 : Int), (0 : Int), (1000 : Int)] : List Int)).bind fun y3 =>
  some (y3.1, y3.2))
 | .inr r => some r
def M.spec_l1Cur_cartonId (c : Cur) (list : List Carton) : Option (Int × Cur) :=
 ((bif ((list.length : Int) == (0 : Int)) then some default else M.spec_l1Cur_one c (10 : Int))).bind fun y0 =>
 bif (((list.length : Int) == (0 : Int)) || y0.1) then (
  (M.spec_l1Cur_among (bif ((list.length : Int) == (0 : Int)) then c else y0.2) ([(0 : Int), (1 : Int), (50 : Int)] : List Int)).bind fun y1 =>
  some (y1.1, y1.2))
 else (
  (M.spec_l1Cur_pick (bif ((list.length : Int) == (0 : Int)) then c else y0.2) (list.length : Int)).bind fun y2 =>
  asrt ((0 : Int) ≤ y2.1 ∧ y2.1 < (list.length : Int)) <|
  some ((list.getD (Int.toNat y2.1) default).Id, y2.2))
def M.spec_DrawRefileTo (code : List Int) : Option (List Carton × Int × Int) :=
 (M.spec_l1Cur_cartons (⟨code, (0 : Int), (0 : Int)⟩ : Cur)).bind fun y0 =>
 (M.spec_l1Cur_filed y0.2 y0.1).bind fun y1 =>
 (M.spec_l1Cur_cartonId y1.2 y0.1).bind fun y2 =>
 some (y0.1, y1.1, y2.1)
def M.slices_Index_int_int_l0 (s : List Int) (v : Int) : (Int) → Option ((Int) ⊕ ((Unit) ⊕ (Int))) := fun st_ => match st_ with
| v0 =>
 bif (decide (v0 < (s.length : Int))) then (
  asrt ((0 : Int) ≤ v0 ∧ v0 < (s.length : Int)) <|
  bif (v == (s.getD (Int.toNat v0) default)) then (
   some (.inr (.inr v0)))
  else (
   some (.inl (IntKind.i64.wrap (v0 + (1 : Int))))))
 else (
  some (.inr (.inl ())))
def M.slices_Index_int_int (s : List Int) (v : Int) : Option Int :=
 (iterO (M.slices_Index_int_int_l0 s v) (0 : Int)).bind fun e => match e with
 | .inl () =>
  (some (-1 : Int))
 | .inr r => some r
def M.slices_Contains_int_int (s : List Int) (v : Int) : Option Bool :=
 (M.slices_Index_int_int s v).bind fun y0 =>
 some (decide (y0 ≥ (0 : Int)))
def M.impl_cartonWith_1 (x : Carton) (file : Int) : Option Bool :=
 (M.slices_Contains_int_int x.Files file).bind fun y0 =>
 some y0
def M.slices_IndexFunc_impl_Carton_impl_Carton_l0 (s : List Carton) (fm : Carton → Option Bool) : (Int) → Option ((Int) ⊕ ((Unit) ⊕ (Int))) := fun st_ => match st_ with
| v =>
 bif (decide (v < (s.length : Int))) then (
  asrt ((0 : Int) ≤ v ∧ v < (s.length : Int)) <|
  (fm (s.getD (Int.toNat v) default)).bind fun y1 =>
  bif y1 then (
   some (.inr (.inr v)))
  else (
   some (.inl (IntKind.i64.wrap (v + (1 : Int))))))
 else (
  some (.inr (.inl ())))
def M.slices_IndexFunc_impl_Carton_impl_Carton (s : List Carton) (fm : Carton → Option Bool) : Option Int :=
 (iterO (M.slices_IndexFunc_impl_Carton_impl_Carton_l0 s fm) (0 : Int)).bind fun e => match e with
 | .inl () =>
  (some (-1 : Int))
 | .inr r => some r
def M.impl_cartonWith (list : List Carton) (file : Int) : Option Int :=
 (M.slices_IndexFunc_impl_Carton_impl_Carton list (fun x0 => M.impl_cartonWith_1 x0 file)).bind fun y0 =>
 some y0
def M.impl_cartonAt_1 (x : Carton) (id_c : Int) : Option Bool :=
 some (x.Id == id_c)
def M.impl_cartonAt (list : List Carton) (id_ : Int) : Option Int :=
 (M.slices_IndexFunc_impl_Carton_impl_Carton list (fun x0 => M.impl_cartonAt_1 x0 id_)).bind fun y0 =>
 some y0
def M.impl_within (n : Int) (low : Int) (high : Int) : Option Bool :=
 some ((decide (low ≤ n)) && (decide (n ≤ high)))
def M.impl_isId (id_ : Int) : Option Bool :=
 (M.impl_within id_ (1 : Int) (99 : Int)).bind fun y0 =>
 some y0
def M.impl_isShelf (shelf : Int) : Option Bool :=
 (M.impl_within shelf (1 : Int) (30 : Int)).bind fun y0 =>
 some y0
def M.impl_isRoom (room : Int) : Option Bool :=
 (M.impl_within room (1 : Int) (9 : Int)).bind fun y0 =>
 some y0
def M.impl_areRising_l0 (list : List Int) : (Int) → Option ((Int) ⊕ ((Unit) ⊕ (Bool))) := fun st_ => match st_ with
| i =>
 bif (decide (i < (list.length : Int))) then (
  asrt ((0 : Int) ≤ (IntKind.i64.wrap (i - (1 : Int))) ∧ (IntKind.i64.wrap (i - (1 : Int))) < (list.length : Int)) <|
  asrt ((0 : Int) ≤ i ∧ i < (list.length : Int)) <|
  bif (decide ((list.getD (Int.toNat (IntKind.i64.wrap (i - (1 : Int)))) default) ≥ (list.getD (Int.toNat i) default))) then (
   some (.inr (.inr false)))
  else (
   some (.inl (IntKind.i64.wrap (i + (1 : Int))))))
 else (
  some (.inr (.inl ())))
def M.impl_areRising (list : List Int) : Option Bool :=
 (iterO (M.impl_areRising_l0 list) (1 : Int)).bind fun e => match e with
 | .inl () =>
  (some true)
 | .inr r => some r
def M.slices_IndexFunc_int_int_l0 (s : List Int) (fm : Int → Option Bool) : (Int) → Option ((Int) ⊕ ((Unit) ⊕ (Int))) := fun st_ => match st_ with
| v =>
 bif (decide (v < (s.length : Int))) then (
  asrt ((0 : Int) ≤ v ∧ v < (s.length : Int)) <|
  (fm (s.getD (Int.toNat v) default)).bind fun y1 =>
  bif y1 then (
   some (.inr (.inr v)))
  else (
   some (.inl (IntKind.i64.wrap (v + (1 : Int))))))
 else (
  some (.inr (.inl ())))
def M.slices_IndexFunc_int_int (s : List Int) (fm : Int → Option Bool) : Option Int :=
 (iterO (M.slices_IndexFunc_int_int_l0 s fm) (0 : Int)).bind fun e => match e with
 | .inl () =>
  (some (-1 : Int))
 | .inr r => some r
def M.slices_ContainsFunc_int_int (s : List Int) (fm : Int → Option Bool) : Option Bool :=
 (M.slices_IndexFunc_int_int s fm).bind fun y0 =>
 some (decide (y0 ≥ (0 : Int)))
def M.impl_IsCarton_1 (id_ : Int) : Option Bool :=
 (M.impl_within id_ (1 : Int) (999 : Int)).bind fun y0 =>
 some (!y0)
def M.impl_IsCarton (x : Carton) : Option Bool :=
 (M.impl_isId x.Id).bind fun y0 =>
 ((bif y0 then M.impl_isShelf x.Shelf else some default)).bind fun y1 =>
 ((bif (y0 && y1) then M.impl_isRoom x.Room else some default)).bind fun y2 =>
 ((bif (((y0 && y1) && y2) && (decide ((x.Files.length : Int) ≤ (12 : Int)))) then M.impl_areRising x.Files else some default)).bind fun y3 =>
 ((bif ((((y0 && y1) && y2) && (decide ((x.Files.length : Int) ≤ (12 : Int)))) && y3) then M.slices_ContainsFunc_int_int x.Files (fun x0 => M.impl_IsCarton_1 x0) else some default)).bind fun y4 =>
 ((bif (((((y0 && y1) && y2) && (decide ((x.Files.length : Int) ≤ (12 : Int)))) && y3) && (!y4)) then M.impl_within x.Thick (1 : Int) (40 : Int) else some default)).bind fun y5 =>
 some ((((((y0 && y1) && y2) && (decide ((x.Files.length : Int) ≤ (12 : Int)))) && y3) && (!y4)) && y5)
def M.impl_AreCartons_1 (id_ : Int) (y_c : Carton) : Option Bool :=
 (M.slices_Contains_int_int y_c.Files id_).bind fun y0 =>
 some y0
def M.impl_freeOn_l0 (list : List Carton) (room : Int) (shelf : Int) : (Int × Int) → Option ((Int × Int) ⊕ (Int)) := fun st_ => match st_ with
| (free0, v) =>
 bif (decide (v < (list.length : Int))) then (
  (((
   asrt ((0 : Int) ≤ v ∧ v < (list.length : Int)) <|
   bif ((((list.getD (Int.toNat v) default).Room) == room) && (((list.getD (Int.toNat v) default).Shelf) == shelf)) then (
    some (IntKind.i64.wrap (free0 - ((list.getD (Int.toNat v) default).Thick))))
   else (
    some free0)) : Option Int)).bind fun e => match e with
  | free1 =>
   (some (.inl (free1, (IntKind.i64.wrap (v + (1 : Int)))))))
 else (
  some (.inr free0))
def M.impl_freeOn (list : List Carton) (room : Int) (shelf : Int) : Option Int :=
 (iterO (M.impl_freeOn_l0 list room shelf) ((100 : Int), (0 : Int))).bind fun e => match e with
 | free =>
  (some free)
def M.impl_AreCartons_l1 (list : List Carton) (v : Int) : (Int) → Option ((Int) ⊕ ((Unit) ⊕ (Bool))) := fun st_ => match st_ with
| v0 =>
 bif (decide (v0 < ((slc list (0 : Int) v).length : Int))) then (
  asrt ((0 : Int) ≤ v0 ∧ v0 < ((slc list (0 : Int) v).length : Int)) <|
  (M.slices_ContainsFunc_int_int ((list.getD (Int.toNat v) default).Files) (fun x0 => M.impl_AreCartons_1 x0 ((slc list (0 : Int) v).getD (Int.toNat v0) default))).bind fun y3 =>
  bif y3 then (
   some (.inr (.inr false)))
  else (
   some (.inl (IntKind.i64.wrap (v0 + (1 : Int))))))
 else (
  some (.inr (.inl ())))
def M.impl_AreCartons_l0 (list : List Carton) : (Int) → Option ((Int) ⊕ ((Unit) ⊕ (Bool))) := fun st_ => match st_ with
| v =>
 bif (decide (v < (list.length : Int))) then (
  asrt ((0 : Int) ≤ v ∧ v < (list.length : Int)) <|
  (M.impl_IsCarton (list.getD (Int.toNat v) default)).bind fun y1 =>
  asrt ((!y1) = false → (decide (v > (0 : Int))) = true → ((0 : Int) ≤ (IntKind.i64.wrap (v - (1 : Int))) ∧ (IntKind.i64.wrap (v - (1 : Int))) < (list.length : Int))) <|
  bif ((!y1) || ((decide (v > (0 : Int))) && (decide (((list.getD (Int.toNat (IntKind.i64.wrap (v - (1 : Int)))) default).Id) ≥ ((list.getD (Int.toNat v) default).Id))))) then (
   some (.inr (.inr false)))
  else (
   asrt ((0 : Int) ≤ (0 : Int) ∧ (0 : Int) ≤ v ∧ v ≤ (list.length : Int)) <|
   (iterO (M.impl_AreCartons_l1 list v) (0 : Int)).bind fun e => match e with
   | .inl () =>
    (asrt ((0 : Int) ≤ (0 : Int) ∧ (0 : Int) ≤ (IntKind.i64.wrap (v + (1 : Int))) ∧ (IntKind.i64.wrap (v + (1 : Int))) ≤ (list.length : Int)) <|
    (M.impl_freeOn (slc list (0 : Int) (IntKind.i64.wrap (v + (1 : Int)))) ((list.getD (Int.toNat v) default).Room) ((list.getD (Int.toNat v) default).Shelf)).bind fun y4 =>
    bif (decide (y4 < (0 : Int))) then (
     some (.inr (.inr false)))
    else (
     some (.inl (IntKind.i64.wrap (v + (1 : Int))))))
   | .inr r => some (.inr (.inr r))))
 else (
  some (.inr (.inl ())))
def M.impl_AreCartons (list : List Carton) : Option Bool :=
 bif (decide ((list.length : Int) > (10 : Int))) then (
  some false)
 else (
  (iterO (M.impl_AreCartons_l0 list) (0 : Int)).bind fun e => match e with
  | .inl () =>
   (some true)
  | .inr r => some r)
def M.slices_Clone_impl_Carton_impl_Carton (s : List Carton) : Option (List Carton) := asrt ((s.length : Int) ≤ 2147483648) <| some s
def M.slices_Clone_int_int (s : List Int) : Option (List Int) := asrt ((s.length : Int) ≤ 2147483648) <| some s
def M.impl_copyCartons_l0 (y0 : List Carton) : (List Carton × Int) → Option ((List Carton × Int) ⊕ (List Carton)) := fun st_ => match st_ with
| (out_0, v) =>
 bif (decide (v < (y0.length : Int))) then (
  asrt ((0 : Int) ≤ v ∧ v < (out_0.length : Int)) <|
  (M.slices_Clone_int_int ((out_0.getD (Int.toNat v) default).Files)).bind fun y2 =>
  asrt ((0 : Int) ≤ v ∧ v < (out_0.length : Int)) <|
  some (.inl ((out_0.set (Int.toNat v) (⟨(out_0.getD (Int.toNat v) default).Id, (out_0.getD (Int.toNat v) default).Shelf, (out_0.getD (Int.toNat v) default).Room, y2, (out_0.getD (Int.toNat v) default).Thick⟩ : Carton)), (IntKind.i64.wrap (v + (1 : Int))))))
 else (
  some (.inr out_0))
def M.impl_copyCartons (list : List Carton) : Option (List Carton) :=
 (M.slices_Clone_impl_Carton_impl_Carton list).bind fun y0 =>
 (iterO (M.impl_copyCartons_l0 y0) (y0, (0 : Int))).bind fun e => match e with
 | out_ =>
  (some out_)
def M.impl_RefileTo_1 (n : Int) (file : Int) : Option Bool :=
 some (n == file)
def M.slices_DeleteFunc_int_int_l0 (fm : Int → Option Bool) : (List Int × Int × Int) → Option ((List Int × Int × Int) ⊕ (List Int × Int)) := fun st_ => match st_ with
| (s1, i0, j_) =>
 bif (decide (j_ < (s1.length : Int))) then (
  (((
   asrt ((0 : Int) ≤ j_ ∧ j_ < (s1.length : Int)) <|
   (fm (s1.getD (Int.toNat j_) default)).bind fun y2 =>
   bif (!y2) then (
    asrt ((0 : Int) ≤ i0 ∧ i0 < (s1.length : Int)) <|
    some ((s1.set (Int.toNat i0) (s1.getD (Int.toNat j_) default)), (IntKind.i64.wrap (i0 + (1 : Int)))))
   else (
    some (s1, i0))) : Option (List Int × Int))).bind fun e => match e with
  | (s2, i1) =>
   (some (.inl (s2, i1, (IntKind.i64.wrap (j_ + (1 : Int)))))))
 else (
  some (.inr (s1, i0)))
def M.slices_DeleteFunc_int_int (s : List Int) (fm : Int → Option Bool) : Option (List Int) :=
 (M.slices_IndexFunc_int_int s fm).bind fun y0 =>
 bif (y0 == (-1 : Int)) then (
  some s)
 else (
  (iterO (M.slices_DeleteFunc_int_int_l0 fm) (s, y0, (IntKind.i64.wrap (y0 + (1 : Int))))).bind fun e => match e with
  | (s0, i) =>
   (asrt ((0 : Int) ≤ i ∧ i ≤ (((List.length s0) : Nat) : Int) ∧ (((List.length s0) : Nat) : Int) ≤ (((List.length s0) : Nat) : Int)) <|
   asrt ((0 + Int.toNat i) + (Int.toNat (((List.length s0) : Nat) : Int) - Int.toNat i) ≤ s0.length) <|
   asrt ((0 : Int) ≤ (0 : Int) ∧ (0 : Int) ≤ i ∧ i ≤ ((List.take (0 + Int.toNat i) s0 ++ List.replicate (Int.toNat (((List.length s0) : Nat) : Int) - Int.toNat i) (0 : Int) ++ List.drop ((0 + Int.toNat i) + (Int.toNat (((List.length s0) : Nat) : Int) - Int.toNat i)) s0).length : Int)) <|
   asrt ((Int.toNat i - Int.toNat (0 : Int)) ≤ (List.take (0 + Int.toNat i) s0 ++ List.replicate (Int.toNat (((List.length s0) : Nat) : Int) - Int.toNat i) (0 : Int) ++ List.drop ((0 + Int.toNat i) + (Int.toNat (((List.length s0) : Nat) : Int) - Int.toNat i)) s0).length) <|
   some (List.take (Int.toNat i - Int.toNat (0 : Int)) (List.take (0 + Int.toNat i) s0 ++ List.replicate (Int.toNat (((List.length s0) : Nat) : Int) - Int.toNat i) (0 : Int) ++ List.drop ((0 + Int.toNat i) + (Int.toNat (((List.length s0) : Nat) : Int) - Int.toNat i)) s0))))
def M.slices_Sort_int_int (s : List Int) : Option (List Int) := asrt (s.length < 4611686018427387904) <| some (sortL s)
def M.impl_RefileTo (list : List Carton) (file : Int) (id_ : Int) : Option (List Carton × Bool) :=
 (M.impl_cartonWith list file).bind fun y0 =>
 (M.impl_cartonAt list id_).bind fun y1 =>
 (M.impl_AreCartons list).bind fun y2 =>
 bif ((((!y2) || (decide (y0 < (0 : Int)))) || (decide (y1 < (0 : Int)))) || (y0 == y1)) then (
  some (([] : List Carton), false))
 else (
  (M.impl_copyCartons list).bind fun y3 =>
  asrt ((0 : Int) ≤ y0 ∧ y0 < (y3.length : Int)) <|
  (M.slices_DeleteFunc_int_int ((y3.getD (Int.toNat y0) default).Files) (fun x0 => M.impl_RefileTo_1 x0 file)).bind fun y4 =>
  asrt ((0 : Int) ≤ y0 ∧ y0 < (y3.length : Int)) <|
  asrt ((0 : Int) ≤ y1 ∧ y1 < ((y3.set (Int.toNat y0) (⟨(y3.getD (Int.toNat y0) default).Id, (y3.getD (Int.toNat y0) default).Shelf, (y3.getD (Int.toNat y0) default).Room, y4, (y3.getD (Int.toNat y0) default).Thick⟩ : Carton)).length : Int)) <|
  asrt ((0 : Int) ≤ y1 ∧ y1 < ((y3.set (Int.toNat y0) (⟨(y3.getD (Int.toNat y0) default).Id, (y3.getD (Int.toNat y0) default).Shelf, (y3.getD (Int.toNat y0) default).Room, y4, (y3.getD (Int.toNat y0) default).Thick⟩ : Carton)).length : Int)) <|
  asrt (((((y3.set (Int.toNat y0) (⟨(y3.getD (Int.toNat y0) default).Id, (y3.getD (Int.toNat y0) default).Shelf, (y3.getD (Int.toNat y0) default).Room, y4, (y3.getD (Int.toNat y0) default).Thick⟩ : Carton)).getD (Int.toNat y1) default).Files).length : Int) + (([file] : List Int).length : Int) ≤ 2147483648) <|
  asrt ((0 : Int) ≤ y1 ∧ y1 < ((y3.set (Int.toNat y0) (⟨(y3.getD (Int.toNat y0) default).Id, (y3.getD (Int.toNat y0) default).Shelf, (y3.getD (Int.toNat y0) default).Room, y4, (y3.getD (Int.toNat y0) default).Thick⟩ : Carton)).length : Int)) <|
  (((
   some ((y3.set (Int.toNat y0) (⟨(y3.getD (Int.toNat y0) default).Id, (y3.getD (Int.toNat y0) default).Shelf, (y3.getD (Int.toNat y0) default).Room, y4, (y3.getD (Int.toNat y0) default).Thick⟩ : Carton)).set (Int.toNat y1) (⟨((y3.set (Int.toNat y0) (⟨(y3.getD (Int.toNat y0) default).Id, (y3.getD (Int.toNat y0) default).Shelf, (y3.getD (Int.toNat y0) default).Room, y4, (y3.getD (Int.toNat y0) default).Thick⟩ : Carton)).getD (Int.toNat y1) default).Id, ((y3.set (Int.toNat y0) (⟨(y3.getD (Int.toNat y0) default).Id, (y3.getD (Int.toNat y0) default).Shelf, (y3.getD (Int.toNat y0) default).Room, y4, (y3.getD (Int.toNat y0) default).Thick⟩ : Carton)).getD (Int.toNat y1) default).Shelf, ((y3.set (Int.toNat y0) (⟨(y3.getD (Int.toNat y0) default).Id, (y3.getD (Int.toNat y0) default).Shelf, (y3.getD (Int.toNat y0) default).Room, y4, (y3.getD (Int.toNat y0) default).Thick⟩ : Carton)).getD (Int.toNat y1) default).Room, ((((y3.set (Int.toNat y0) (⟨(y3.getD (Int.toNat y0) default).Id, (y3.getD (Int.toNat y0) default).Shelf, (y3.getD (Int.toNat y0) default).Room, y4, (y3.getD (Int.toNat y0) default).Thick⟩ : Carton)).getD (Int.toNat y1) default).Files) ++ ([file] : List Int)), ((y3.set (Int.toNat y0) (⟨(y3.getD (Int.toNat y0) default).Id, (y3.getD (Int.toNat y0) default).Shelf, (y3.getD (Int.toNat y0) default).Room, y4, (y3.getD (Int.toNat y0) default).Thick⟩ : Carton)).getD (Int.toNat y1) default).Thick⟩ : Carton))) : Option (List Carton))).bind fun e => match e with
  | out_ =>
   (asrt ((0 : Int) ≤ y1 ∧ y1 < (out_.length : Int)) <|
   (M.slices_Sort_int_int ((out_.getD (Int.toNat y1) default).Files)).bind fun y5 =>
   asrt (y5.length = ((out_.getD (Int.toNat y1) default).Files).length) <|
   (M.impl_AreCartons (out_.set (Int.toNat y1) (⟨(out_.getD (Int.toNat y1) default).Id, (out_.getD (Int.toNat y1) default).Shelf, (out_.getD (Int.toNat y1) default).Room, y5, (out_.getD (Int.toNat y1) default).Thick⟩ : Carton))).bind fun y6 =>
   bif (!y6) then (
    some (([] : List Carton), false))
   else (
    some ((out_.set (Int.toNat y1) (⟨(out_.getD (Int.toNat y1) default).Id, (out_.getD (Int.toNat y1) default).Shelf, (out_.getD (Int.toNat y1) default).Room, y5, (out_.getD (Int.toNat y1) default).Thick⟩ : Carton)), true))))
def M.spec_l18Find_l0 (list : List Carton) (id_ : Int) : (Int) → Option ((Int) ⊕ ((Unit) ⊕ (Int))) := fun st_ => match st_ with
| i =>
 bif (decide (i < (list.length : Int))) then (
  asrt ((0 : Int) ≤ i ∧ i < (list.length : Int)) <|
  bif (((list.getD (Int.toNat i) default).Id) == id_) then (
   some (.inr (.inr i)))
  else (
   some (.inl (IntKind.i64.wrap (i + (1 : Int))))))
 else (
  some (.inr (.inl ())))
def M.spec_l18Find (list : List Carton) (id_ : Int) : Option Int :=
 (iterO (M.spec_l18Find_l0 list id_) (0 : Int)).bind fun e => match e with
 | .inl () =>
  (some (-1 : Int))
 | .inr r => some r
def M.spec_l1Own (l : List Int) : Option (List Int) :=
 asrt ((([] : List Int).length : Int) + (l.length : Int) ≤ 2147483648) <|
 some (([] : List Int) ++ l)
def M.spec_l18Own_l0 (list : List Carton) : (List Carton × Int) → Option ((List Carton × Int) ⊕ (List Carton)) := fun st_ => match st_ with
| (out_0, i) =>
 bif (decide (i < (list.length : Int))) then (
  asrt ((0 : Int) ≤ i ∧ i < (list.length : Int)) <|
  (M.spec_l1Own ((list.getD (Int.toNat i) default).Files)).bind fun y1 =>
  asrt ((out_0.length : Int) + (([(⟨(list.getD (Int.toNat i) default).Id, (list.getD (Int.toNat i) default).Shelf, (list.getD (Int.toNat i) default).Room, y1, (list.getD (Int.toNat i) default).Thick⟩ : Carton)] : List Carton).length : Int) ≤ 2147483648) <|
  some (.inl ((out_0 ++ ([(⟨(list.getD (Int.toNat i) default).Id, (list.getD (Int.toNat i) default).Shelf, (list.getD (Int.toNat i) default).Room, y1, (list.getD (Int.toNat i) default).Thick⟩ : Carton)] : List Carton)), (IntKind.i64.wrap (i + (1 : Int))))))
 else (
  some (.inr out_0))
def M.spec_l18Own (list : List Carton) : Option (List Carton) :=
 (iterO (M.spec_l18Own_l0 list) (([] : List Carton), (0 : Int))).bind fun e => match e with
 | out_ =>
  (some out_)
def M.spec_l18Without_l0 (files : List Int) (file : Int) : (List Int × Int) → Option ((List Int × Int) ⊕ (List Int)) := fun st_ => match st_ with
| (out_0, i) =>
 bif (decide (i < (files.length : Int))) then (
  (((
   asrt ((0 : Int) ≤ i ∧ i < (files.length : Int)) <|
   bif ((files.getD (Int.toNat i) default) != file) then (
    asrt ((0 : Int) ≤ i ∧ i < (files.length : Int)) <|
    asrt ((out_0.length : Int) + (([(files.getD (Int.toNat i) default)] : List Int).length : Int) ≤ 2147483648) <|
    some (out_0 ++ ([(files.getD (Int.toNat i) default)] : List Int)))
   else (
    some out_0)) : Option (List Int))).bind fun e => match e with
  | out_1 =>
   (some (.inl (out_1, (IntKind.i64.wrap (i + (1 : Int)))))))
 else (
  some (.inr out_0))
def M.spec_l18Without (files : List Int) (file : Int) : Option (List Int) :=
 (iterO (M.spec_l18Without_l0 files file) (([] : List Int), (0 : Int))).bind fun e => match e with
 | out_ =>
  (some out_)
def M.spec_l1Put_l0 (l : List Int) (n : Int) : (Int) → Option ((Int) ⊕ (Int)) := fun st_ => match st_ with
| k0 =>
 asrt ((decide (k0 < (l.length : Int))) = true → ((0 : Int) ≤ k0 ∧ k0 < (l.length : Int))) <|
 bif ((decide (k0 < (l.length : Int))) && (decide ((l.getD (Int.toNat k0) default) < n))) then (
  some (.inl (IntKind.i64.wrap (k0 + (1 : Int)))))
 else (
  some (.inr k0))
def M.spec_l1Put (l : List Int) (n : Int) : Option (List Int) :=
 (iterO (M.spec_l1Put_l0 l n) (0 : Int)).bind fun e => match e with
 | k =>
  (asrt ((decide (k < (l.length : Int))) = true → ((0 : Int) ≤ k ∧ k < (l.length : Int))) <|
  bif ((decide (k < (l.length : Int))) && ((l.getD (Int.toNat k) default) == n)) then (
   some l)
  else (
   asrt ((0 : Int) ≤ (0 : Int) ∧ (0 : Int) ≤ k ∧ k ≤ (l.length : Int)) <|
   asrt ((([] : List Int).length : Int) + ((slc l (0 : Int) k).length : Int) ≤ 2147483648) <|
   asrt (((([] : List Int) ++ (slc l (0 : Int) k)).length : Int) + (([n] : List Int).length : Int) ≤ 2147483648) <|
   asrt ((0 : Int) ≤ k ∧ k ≤ (l.length : Int) ∧ (l.length : Int) ≤ (l.length : Int)) <|
   asrt ((((([] : List Int) ++ (slc l (0 : Int) k)) ++ ([n] : List Int)).length : Int) + ((slc l k (l.length : Int)).length : Int) ≤ 2147483648) <|
   (((
    some (((([] : List Int) ++ (slc l (0 : Int) k)) ++ ([n] : List Int)) ++ (slc l k (l.length : Int)))) : Option (List Int))).bind fun e => match e with
   | v =>
    (some v)))
def M.spec_RefileTo (list : List Carton) (file : Int) (id_ : Int) : Option (List Carton × Bool) :=
 (M.spec_l18Holds list file).bind fun y0 =>
 (M.spec_l18Find list id_).bind fun y1 =>
 (M.spec_l18Good list).bind fun y2 =>
 bif ((((!y2) || (decide (y0 < (0 : Int)))) || (decide (y1 < (0 : Int)))) || (y0 == y1)) then (
  some (([] : List Carton), false))
 else (
  (M.spec_l18Own list).bind fun y3 =>
  asrt ((0 : Int) ≤ y0 ∧ y0 < (y3.length : Int)) <|
  asrt ((0 : Int) ≤ y1 ∧ y1 < (y3.length : Int)) <|
  (((
   some ()) : Option Unit)).bind fun e => match e with
  | () =>
   ((M.spec_l18Without ((y3.getD (Int.toNat y0) default).Files) file).bind fun y4 =>
   (M.spec_l1Put ((y3.getD (Int.toNat y1) default).Files) file).bind fun y5 =>
   asrt ((0 : Int) ≤ y0 ∧ y0 < (y3.length : Int)) <|
   asrt ((0 : Int) ≤ y1 ∧ y1 < ((y3.set (Int.toNat y0) (⟨(y3.getD (Int.toNat y0) default).Id, (y3.getD (Int.toNat y0) default).Shelf, (y3.getD (Int.toNat y0) default).Room, y4, (y3.getD (Int.toNat y0) default).Thick⟩ : Carton)).length : Int)) <|
   (M.spec_l18Good ((y3.set (Int.toNat y0) (⟨(y3.getD (Int.toNat y0) default).Id, (y3.getD (Int.toNat y0) default).Shelf, (y3.getD (Int.toNat y0) default).Room, y4, (y3.getD (Int.toNat y0) default).Thick⟩ : Carton)).set (Int.toNat y1) (⟨(y3.getD (Int.toNat y1) default).Id, (y3.getD (Int.toNat y1) default).Shelf, (y3.getD (Int.toNat y1) default).Room, y5, (y3.getD (Int.toNat y1) default).Thick⟩ : Carton))).bind fun y6 =>
   bif (!y6) then (
    some (([] : List Carton), false))
   else (
    some (((y3.set (Int.toNat y0) (⟨(y3.getD (Int.toNat y0) default).Id, (y3.getD (Int.toNat y0) default).Shelf, (y3.getD (Int.toNat y0) default).Room, y4, (y3.getD (Int.toNat y0) default).Thick⟩ : Carton)).set (Int.toNat y1) (⟨(y3.getD (Int.toNat y1) default).Id, (y3.getD (Int.toNat y1) default).Shelf, (y3.getD (Int.toNat y1) default).Room, y5, (y3.getD (Int.toNat y1) default).Thick⟩ : Carton)), true))))
def M.laws_rInts_l0 (a : List Int) (b_ : List Int) : (Int) → Option ((Int) ⊕ ((Unit) ⊕ (Bool))) := fun st_ => match st_ with
| i =>
 bif (decide (i < (a.length : Int))) then (
  asrt ((0 : Int) ≤ i ∧ i < (a.length : Int)) <|
  asrt ((0 : Int) ≤ i ∧ i < (b_.length : Int)) <|
  bif ((a.getD (Int.toNat i) default) != (b_.getD (Int.toNat i) default)) then (
   some (.inr (.inr false)))
  else (
   some (.inl (IntKind.i64.wrap (i + (1 : Int))))))
 else (
  some (.inr (.inl ())))
def M.laws_rInts (a : List Int) (b_ : List Int) : Option Bool :=
 bif ((a.length : Int) != (b_.length : Int)) then (
  some false)
 else (
  (iterO (M.laws_rInts_l0 a b_) (0 : Int)).bind fun e => match e with
  | .inl () =>
   (some true)
  | .inr r => some r)
def M.laws_rCartons_l0 (a : List Carton) (b_ : List Carton) : (Int) → Option ((Int) ⊕ ((Unit) ⊕ (Bool))) := fun st_ => match st_ with
| i =>
 bif (decide (i < (a.length : Int))) then (
  asrt ((0 : Int) ≤ i ∧ i < (a.length : Int)) <|
  asrt ((0 : Int) ≤ i ∧ i < (b_.length : Int)) <|
  asrt ((((a.getD (Int.toNat i) default).Id) != ((b_.getD (Int.toNat i) default).Id)) = false → ((0 : Int) ≤ i ∧ i < (a.length : Int))) <|
  asrt ((((a.getD (Int.toNat i) default).Id) != ((b_.getD (Int.toNat i) default).Id)) = false → ((0 : Int) ≤ i ∧ i < (b_.length : Int))) <|
  asrt (((((a.getD (Int.toNat i) default).Id) != ((b_.getD (Int.toNat i) default).Id)) || (((a.getD (Int.toNat i) default).Shelf) != ((b_.getD (Int.toNat i) default).Shelf))) = false → ((0 : Int) ≤ i ∧ i < (a.length : Int))) <|
  asrt (((((a.getD (Int.toNat i) default).Id) != ((b_.getD (Int.toNat i) default).Id)) || (((a.getD (Int.toNat i) default).Shelf) != ((b_.getD (Int.toNat i) default).Shelf))) = false → ((0 : Int) ≤ i ∧ i < (b_.length : Int))) <|
  asrt ((((((a.getD (Int.toNat i) default).Id) != ((b_.getD (Int.toNat i) default).Id)) || (((a.getD (Int.toNat i) default).Shelf) != ((b_.getD (Int.toNat i) default).Shelf))) || (((a.getD (Int.toNat i) default).Room) != ((b_.getD (Int.toNat i) default).Room))) = false → ((0 : Int) ≤ i ∧ i < (a.length : Int))) <|
  asrt ((((((a.getD (Int.toNat i) default).Id) != ((b_.getD (Int.toNat i) default).Id)) || (((a.getD (Int.toNat i) default).Shelf) != ((b_.getD (Int.toNat i) default).Shelf))) || (((a.getD (Int.toNat i) default).Room) != ((b_.getD (Int.toNat i) default).Room))) = false → ((0 : Int) ≤ i ∧ i < (b_.length : Int))) <|
  asrt (((((((a.getD (Int.toNat i) default).Id) != ((b_.getD (Int.toNat i) default).Id)) || (((a.getD (Int.toNat i) default).Shelf) != ((b_.getD (Int.toNat i) default).Shelf))) || (((a.getD (Int.toNat i) default).Room) != ((b_.getD (Int.toNat i) default).Room))) || (((a.getD (Int.toNat i) default).Thick) != ((b_.getD (Int.toNat i) default).Thick))) = false → ((0 : Int) ≤ i ∧ i < (a.length : Int))) <|
  asrt (((((((a.getD (Int.toNat i) default).Id) != ((b_.getD (Int.toNat i) default).Id)) || (((a.getD (Int.toNat i) default).Shelf) != ((b_.getD (Int.toNat i) default).Shelf))) || (((a.getD (Int.toNat i) default).Room) != ((b_.getD (Int.toNat i) default).Room))) || (((a.getD (Int.toNat i) default).Thick) != ((b_.getD (Int.toNat i) default).Thick))) = false → ((0 : Int) ≤ i ∧ i < (b_.length : Int))) <|
  ((bif ((((((a.getD (Int.toNat i) default).Id) != ((b_.getD (Int.toNat i) default).Id)) || (((a.getD (Int.toNat i) default).Shelf) != ((b_.getD (Int.toNat i) default).Shelf))) || (((a.getD (Int.toNat i) default).Room) != ((b_.getD (Int.toNat i) default).Room))) || (((a.getD (Int.toNat i) default).Thick) != ((b_.getD (Int.toNat i) default).Thick))) then some default else M.laws_rInts ((a.getD (Int.toNat i) default).Files) ((b_.getD (Int.toNat i) default).Files))).bind fun y1 =>
  bif (((((((a.getD (Int.toNat i) default).Id) != ((b_.getD (Int.toNat i) default).Id)) || (((a.getD (Int.toNat i) default).Shelf) != ((b_.getD (Int.toNat i) default).Shelf))) || (((a.getD (Int.toNat i) default).Room) != ((b_.getD (Int.toNat i) default).Room))) || (((a.getD (Int.toNat i) default).Thick) != ((b_.getD (Int.toNat i) default).Thick))) || (!y1)) then (
   some (.inr (.inr false)))
  else (
   some (.inl (IntKind.i64.wrap (i + (1 : Int))))))
 else (
  some (.inr (.inl ())))
def M.laws_rCartons (a : List Carton) (b_ : List Carton) : Option Bool :=
 bif ((a.length : Int) != (b_.length : Int)) then (
  some false)
 else (
  (iterO (M.laws_rCartons_l0 a b_) (0 : Int)).bind fun e => match e with
  | .inl () =>
   (some true)
  | .inr r => some r)
def M.impl_FindFile (list : List Carton) (file : Int) : Option (Int × Int × Int × Bool) :=
 (M.impl_cartonWith list file).bind fun y0 =>
 (M.impl_AreCartons list).bind fun y1 =>
 bif ((!y1) || (decide (y0 < (0 : Int)))) then (
  some ((0 : Int), (0 : Int), (0 : Int), false))
 else (
  asrt ((0 : Int) ≤ y0 ∧ y0 < (list.length : Int)) <|
  asrt ((0 : Int) ≤ y0 ∧ y0 < (list.length : Int)) <|
  asrt ((0 : Int) ≤ y0 ∧ y0 < (list.length : Int)) <|
  some ((list.getD (Int.toNat y0) default).Id, (list.getD (Int.toNat y0) default).Room, (list.getD (Int.toNat y0) default).Shelf, true))
def M.spec_DrawMoveCarton (code : List Int) : Option (List Carton × Int × Int × Int) :=
 (M.spec_l1Cur_cartons (⟨code, (0 : Int), (0 : Int)⟩ : Cur)).bind fun y0 =>
 (M.spec_l1Cur_cartonId y0.2 y0.1).bind fun y1 =>
 (M.spec_l1Cur_pick y1.2 (24 : Int)).bind fun y2 =>
 asrt ((0 : Int) ≤ (0 : Int) ∧ (0 : Int) ≤ (IntKind.i64.wrap ((4 : Int) + (IntKind.i64.wrap (Int.tdiv y2.1 (11 : Int))))) ∧ (IntKind.i64.wrap ((4 : Int) + (IntKind.i64.wrap (Int.tdiv y2.1 (11 : Int))))) ≤ (([(1 : Int), (1 : Int), (2 : Int), (9 : Int), (0 : Int), (10 : Int)] : List Int).length : Int)) <|
 (M.spec_l1Cur_among y2.2 (slc ([(1 : Int), (1 : Int), (2 : Int), (9 : Int), (0 : Int), (10 : Int)] : List Int) (0 : Int) (IntKind.i64.wrap ((4 : Int) + (IntKind.i64.wrap (Int.tdiv y2.1 (11 : Int))))))).bind fun y3 =>
 (M.spec_l1Cur_pick y3.2 (24 : Int)).bind fun y4 =>
 asrt ((0 : Int) ≤ (0 : Int) ∧ (0 : Int) ≤ (IntKind.i64.wrap ((4 : Int) + (IntKind.i64.wrap (Int.tdiv y4.1 (11 : Int))))) ∧ (IntKind.i64.wrap ((4 : Int) + (IntKind.i64.wrap (Int.tdiv y4.1 (11 : Int))))) ≤ (([(1 : Int), (1 : Int), (2 : Int), (30 : Int), (0 : Int), (31 : Int)] : List Int).length : Int)) <|
 (M.spec_l1Cur_among y4.2 (slc ([(1 : Int), (1 : Int), (2 : Int), (30 : Int), (0 : Int), (31 : Int)] : List Int) (0 : Int) (IntKind.i64.wrap ((4 : Int) + (IntKind.i64.wrap (Int.tdiv y4.1 (11 : Int))))))).bind fun y5 =>
 some (y0.1, y1.1, y3.1, y5.1)
def M.impl_MoveCarton (list : List Carton) (id_ : Int) (room : Int) (shelf : Int) : Option (List Carton × Bool) :=
 (M.impl_cartonAt list id_).bind fun y0 =>
 (M.impl_AreCartons list).bind fun y1 =>
 bif ((!y1) || (decide (y0 < (0 : Int)))) then (
  some (([] : List Carton), false))
 else (
  (M.impl_copyCartons list).bind fun y2 =>
  asrt ((0 : Int) ≤ y0 ∧ y0 < (y2.length : Int)) <|
  asrt ((0 : Int) ≤ y0 ∧ y0 < ((y2.set (Int.toNat y0) (⟨(y2.getD (Int.toNat y0) default).Id, (y2.getD (Int.toNat y0) default).Shelf, room, (y2.getD (Int.toNat y0) default).Files, (y2.getD (Int.toNat y0) default).Thick⟩ : Carton)).length : Int)) <|
  (M.impl_AreCartons (y2.set (Int.toNat y0) (⟨(y2.getD (Int.toNat y0) default).Id, shelf, room, (y2.getD (Int.toNat y0) default).Files, (y2.getD (Int.toNat y0) default).Thick⟩ : Carton))).bind fun y3 =>
  bif (!y3) then (
   some (([] : List Carton), false))
  else (
   some ((y2.set (Int.toNat y0) (⟨(y2.getD (Int.toNat y0) default).Id, shelf, room, (y2.getD (Int.toNat y0) default).Files, (y2.getD (Int.toNat y0) default).Thick⟩ : Carton)), true)))
def M.spec_MoveCarton (list : List Carton) (id_ : Int) (room : Int) (shelf : Int) : Option (List Carton × Bool) :=
 (M.spec_l18Find list id_).bind fun y0 =>
 (M.spec_l18Good list).bind fun y1 =>
 bif ((!y1) || (decide (y0 < (0 : Int)))) then (
  some (([] : List Carton), false))
 else (
  (M.spec_l18Own list).bind fun y2 =>
  asrt ((0 : Int) ≤ y0 ∧ y0 < (y2.length : Int)) <|
  asrt ((0 : Int) ≤ y0 ∧ y0 < (y2.length : Int)) <|
  (M.spec_l18Good (y2.set (Int.toNat y0) (⟨(y2.getD (Int.toNat y0) default).Id, shelf, room, (y2.getD (Int.toNat y0) default).Files, (y2.getD (Int.toNat y0) default).Thick⟩ : Carton))).bind fun y3 =>
  bif (!y3) then (
   some (([] : List Carton), false))
  else (
   some ((y2.set (Int.toNat y0) (⟨(y2.getD (Int.toNat y0) default).Id, shelf, room, (y2.getD (Int.toNat y0) default).Files, (y2.getD (Int.toNat y0) default).Thick⟩ : Carton)), true)))
def M.impl_FreeOn (list : List Carton) (room : Int) (shelf : Int) : Option (Int × Bool) :=
 (M.impl_AreCartons list).bind fun y0 =>
 ((bif (!y0) then some default else M.impl_isRoom room)).bind fun y1 =>
 ((bif ((!y0) || (!y1)) then some default else M.impl_isShelf shelf)).bind fun y2 =>
 bif (((!y0) || (!y1)) || (!y2)) then (
  some ((0 : Int), false))
 else (
  (M.impl_freeOn list room shelf).bind fun y3 =>
  some (y3, true))
def M.spec_DrawMergeCartons (code : List Int) : Option (List Carton × Int × Int) :=
 (M.spec_l1Cur_cartons (⟨code, (0 : Int), (0 : Int)⟩ : Cur)).bind fun y0 =>
 (M.spec_l1Cur_cartonId y0.2 y0.1).bind fun y1 =>
 (M.spec_l1Cur_cartonId y1.2 y0.1).bind fun y2 =>
 some (y0.1, y1.1, y2.1)
def M.slices_Delete_impl_Carton_impl_Carton (s : List Carton) (i : Int) (j_ : Int) : Option (List Carton) := delM (⟨(0 : Int), (0 : Int), (0 : Int), ([] : List Int), (0 : Int)⟩ : Carton) s i j_
def M.impl_MergeCartons (list : List Carton) (a : Int) (b_ : Int) : Option (List Carton × Bool) :=
 (M.impl_cartonAt list a).bind fun y0 =>
 (M.impl_cartonAt list b_).bind fun y1 =>
 (M.impl_AreCartons list).bind fun y2 =>
 bif ((((!y2) || (decide (y0 < (0 : Int)))) || (decide (y1 < (0 : Int)))) || (y0 == y1)) then (
  some (([] : List Carton), false))
 else (
  (M.impl_copyCartons list).bind fun y3 =>
  asrt ((0 : Int) ≤ y0 ∧ y0 < (y3.length : Int)) <|
  asrt ((0 : Int) ≤ y1 ∧ y1 < (y3.length : Int)) <|
  asrt (Int.toNat y1 ≠ Int.toNat y0) <|
  asrt ((0 : Int) ≤ y0 ∧ y0 < (y3.length : Int)) <|
  asrt ((0 : Int) ≤ y1 ∧ y1 < (y3.length : Int)) <|
  asrt ((((y3.getD (Int.toNat y0) default).Files).length : Int) + (((y3.getD (Int.toNat y1) default).Files).length : Int) ≤ 2147483648) <|
  asrt ((0 : Int) ≤ y0 ∧ y0 < (y3.length : Int)) <|
  (((
   some (y3.set (Int.toNat y0) (⟨(y3.getD (Int.toNat y0) default).Id, (y3.getD (Int.toNat y0) default).Shelf, (y3.getD (Int.toNat y0) default).Room, (((y3.getD (Int.toNat y0) default).Files) ++ ((y3.getD (Int.toNat y1) default).Files)), (y3.getD (Int.toNat y0) default).Thick⟩ : Carton))) : Option (List Carton))).bind fun e => match e with
  | out_ =>
   (asrt ((0 : Int) ≤ y0 ∧ y0 < (out_.length : Int)) <|
   (M.slices_Sort_int_int ((out_.getD (Int.toNat y0) default).Files)).bind fun y4 =>
   asrt (y4.length = ((out_.getD (Int.toNat y0) default).Files).length) <|
   asrt ((0 : Int) ≤ y0 ∧ y0 < ((out_.set (Int.toNat y0) (⟨(out_.getD (Int.toNat y0) default).Id, (out_.getD (Int.toNat y0) default).Shelf, (out_.getD (Int.toNat y0) default).Room, y4, (out_.getD (Int.toNat y0) default).Thick⟩ : Carton)).length : Int)) <|
   asrt ((0 : Int) ≤ y1 ∧ y1 < ((out_.set (Int.toNat y0) (⟨(out_.getD (Int.toNat y0) default).Id, (out_.getD (Int.toNat y0) default).Shelf, (out_.getD (Int.toNat y0) default).Room, y4, (out_.getD (Int.toNat y0) default).Thick⟩ : Carton)).length : Int)) <|
   asrt ((0 : Int) ≤ y0 ∧ y0 < ((out_.set (Int.toNat y0) (⟨(out_.getD (Int.toNat y0) default).Id, (out_.getD (Int.toNat y0) default).Shelf, (out_.getD (Int.toNat y0) default).Room, y4, (out_.getD (Int.toNat y0) default).Thick⟩ : Carton)).length : Int)) <|
   (M.slices_Delete_impl_Carton_impl_Carton ((out_.set (Int.toNat y0) (⟨(out_.getD (Int.toNat y0) default).Id, (out_.getD (Int.toNat y0) default).Shelf, (out_.getD (Int.toNat y0) default).Room, y4, (out_.getD (Int.toNat y0) default).Thick⟩ : Carton)).set (Int.toNat y0) (⟨((out_.set (Int.toNat y0) (⟨(out_.getD (Int.toNat y0) default).Id, (out_.getD (Int.toNat y0) default).Shelf, (out_.getD (Int.toNat y0) default).Room, y4, (out_.getD (Int.toNat y0) default).Thick⟩ : Carton)).getD (Int.toNat y0) default).Id, ((out_.set (Int.toNat y0) (⟨(out_.getD (Int.toNat y0) default).Id, (out_.getD (Int.toNat y0) default).Shelf, (out_.getD (Int.toNat y0) default).Room, y4, (out_.getD (Int.toNat y0) default).Thick⟩ : Carton)).getD (Int.toNat y0) default).Shelf, ((out_.set (Int.toNat y0) (⟨(out_.getD (Int.toNat y0) default).Id, (out_.getD (Int.toNat y0) default).Shelf, (out_.getD (Int.toNat y0) default).Room, y4, (out_.getD (Int.toNat y0) default).Thick⟩ : Carton)).getD (Int.toNat y0) default).Room, ((out_.set (Int.toNat y0) (⟨(out_.getD (Int.toNat y0) default).Id, (out_.getD (Int.toNat y0) default).Shelf, (out_.getD (Int.toNat y0) default).Room, y4, (out_.getD (Int.toNat y0) default).Thick⟩ : Carton)).getD (Int.toNat y0) default).Files, (IntKind.i64.wrap ((((out_.set (Int.toNat y0) (⟨(out_.getD (Int.toNat y0) default).Id, (out_.getD (Int.toNat y0) default).Shelf, (out_.getD (Int.toNat y0) default).Room, y4, (out_.getD (Int.toNat y0) default).Thick⟩ : Carton)).getD (Int.toNat y0) default).Thick) + (((out_.set (Int.toNat y0) (⟨(out_.getD (Int.toNat y0) default).Id, (out_.getD (Int.toNat y0) default).Shelf, (out_.getD (Int.toNat y0) default).Room, y4, (out_.getD (Int.toNat y0) default).Thick⟩ : Carton)).getD (Int.toNat y1) default).Thick)))⟩ : Carton)) y1 (IntKind.i64.wrap (y1 + (1 : Int)))).bind fun y5 =>
   (M.impl_AreCartons y5).bind fun y6 =>
   bif (!y6) then (
    some (([] : List Carton), false))
   else (
    some (y5, true))))
def M.spec_MergeCartons_l1 (list : List Carton) (y1 : Int) : (Int × Carton) → Option ((Int × Carton) ⊕ (Carton)) := fun st_ => match st_ with
| (m_, x1) =>
 asrt ((0 : Int) ≤ y1 ∧ y1 < (list.length : Int)) <|
 bif (decide (m_ < (((list.getD (Int.toNat y1) default).Files).length : Int))) then (
  asrt ((0 : Int) ≤ y1 ∧ y1 < (list.length : Int)) <|
  asrt ((0 : Int) ≤ m_ ∧ m_ < (((list.getD (Int.toNat y1) default).Files).length : Int)) <|
  (M.spec_l1Put x1.Files (((list.getD (Int.toNat y1) default).Files).getD (Int.toNat m_) default)).bind fun y6 =>
  some (.inl ((IntKind.i64.wrap (m_ + (1 : Int))), (⟨x1.Id, x1.Shelf, x1.Room, y6, x1.Thick⟩ : Carton))))
 else (
  some (.inr x1))
def M.spec_MergeCartons_l0 (list : List Carton) (y0 : Int) (y1 : Int) (y3 : List Carton) : (List Carton × Int) → Option ((List Carton × Int) ⊕ (List Carton)) := fun st_ => match st_ with
| (out_0, n_) =>
 bif (decide (n_ < (y3.length : Int))) then (
  (((
   asrt ((0 : Int) ≤ n_ ∧ n_ < (y3.length : Int)) <|
   (((
    bif (n_ == y0) then (
     asrt ((0 : Int) ≤ y1 ∧ y1 < (list.length : Int)) <|
     (iterO (M.spec_MergeCartons_l1 list y1) ((0 : Int), (⟨(y3.getD (Int.toNat n_) default).Id, (y3.getD (Int.toNat n_) default).Shelf, (y3.getD (Int.toNat n_) default).Room, (y3.getD (Int.toNat n_) default).Files, (IntKind.i64.wrap (((y3.getD (Int.toNat n_) default).Thick) + ((list.getD (Int.toNat y1) default).Thick)))⟩ : Carton))).bind fun e => match e with
     | x0 =>
      (some x0))
    else (
     some (y3.getD (Int.toNat n_) default))) : Option Carton)).bind fun e => match e with
   | x =>
    (bif (n_ != y1) then (
     asrt ((out_0.length : Int) + (([x] : List Carton).length : Int) ≤ 2147483648) <|
     some (out_0 ++ ([x] : List Carton)))
    else (
     some out_0))) : Option (List Carton))).bind fun e => match e with
  | out_1 =>
   (some (.inl (out_1, (IntKind.i64.wrap (n_ + (1 : Int)))))))
 else (
  some (.inr out_0))
def M.spec_MergeCartons (list : List Carton) (a : Int) (b_ : Int) : Option (List Carton × Bool) :=
 (M.spec_l18Find list a).bind fun y0 =>
 (M.spec_l18Find list b_).bind fun y1 =>
 (M.spec_l18Good list).bind fun y2 =>
 bif ((((!y2) || (decide (y0 < (0 : Int)))) || (decide (y1 < (0 : Int)))) || (y0 == y1)) then (
  some (([] : List Carton), false))
 else (
  (M.spec_l18Own list).bind fun y3 =>
  (iterO (M.spec_MergeCartons_l0 list y0 y1 y3) (([] : List Carton), (0 : Int))).bind fun e => match e with
  | out_ =>
   ((M.spec_l18Good out_).bind fun y7 =>
   bif (!y7) then (
    some (([] : List Carton), false))
   else (
    some (out_, true))))
def M.spec_DrawFindFile (code : List Int) : Option (List Carton × Int) :=
 (M.spec_l1Cur_cartons (⟨code, (0 : Int), (0 : Int)⟩ : Cur)).bind fun y0 =>
 (M.spec_l1Cur_filed y0.2 y0.1).bind fun y1 =>
 some (y0.1, y1.1)
def M.spec_FindFile (list : List Carton) (file : Int) : Option (Int × Int × Int × Bool) :=
 (M.spec_l18Holds list file).bind fun y0 =>
 (M.spec_l18Good list).bind fun y1 =>
 bif ((!y1) || (decide (y0 < (0 : Int)))) then (
  some ((0 : Int), (0 : Int), (0 : Int), false))
 else (
  asrt ((0 : Int) ≤ y0 ∧ y0 < (list.length : Int)) <|
  asrt ((0 : Int) ≤ y0 ∧ y0 < (list.length : Int)) <|
  asrt ((0 : Int) ≤ y0 ∧ y0 < (list.length : Int)) <|
  some ((list.getD (Int.toNat y0) default).Id, (list.getD (Int.toNat y0) default).Room, (list.getD (Int.toNat y0) default).Shelf, true))
def M.laws_FnCartons_l1 (y12 : List Carton × Int × Int) (y13 : List Carton × Bool) (i : Int) : (Int) → Option ((Int) ⊕ ((Unit) ⊕ (Bool))) := fun st_ => match st_ with
| k =>
 asrt ((0 : Int) ≤ i ∧ i < (y12.1.length : Int)) <|
 bif (decide (k < (((y12.1.getD (Int.toNat i) default).Files).length : Int))) then (
  asrt ((0 : Int) ≤ i ∧ i < (y12.1.length : Int)) <|
  asrt ((0 : Int) ≤ k ∧ k < (((y12.1.getD (Int.toNat i) default).Files).length : Int)) <|
  (M.impl_FindFile y13.1 (((y12.1.getD (Int.toNat i) default).Files).getD (Int.toNat k) default)).bind fun y18 =>
  asrt ((!y18.2.2.2) = false → ((0 : Int) ≤ i ∧ i < (y12.1.length : Int))) <|
  asrt ((!y18.2.2.2) = false → (((y12.1.getD (Int.toNat i) default).Id) == y12.2.1) = false → ((0 : Int) ≤ i ∧ i < (y12.1.length : Int))) <|
  bif ((!y18.2.2.2) || (!(((((y12.1.getD (Int.toNat i) default).Id) == y12.2.1) || (((y12.1.getD (Int.toNat i) default).Id) == y12.2.2)) == (y18.1 == y12.2.1)))) then (
   some (.inr (.inr false)))
  else (
   some (.inl (IntKind.i64.wrap (k + (1 : Int))))))
 else (
  some (.inr (.inl ())))
def M.laws_FnCartons_l0 (y12 : List Carton × Int × Int) (y13 : List Carton × Bool) : (Int) → Option ((Int) ⊕ ((Unit) ⊕ (Bool))) := fun st_ => match st_ with
| i =>
 bif ((decide (i < (y12.1.length : Int))) && y13.2) then (
  (iterO (M.laws_FnCartons_l1 y12 y13 i) (0 : Int)).bind fun e => match e with
  | .inl () =>
   (some (.inl (IntKind.i64.wrap (i + (1 : Int)))))
  | .inr r => some (.inr (.inr r)))
 else (
  some (.inr (.inl ())))
def M.laws_FnCartons (code : List Int) : Option Bool :=
 (M.laws_rBig code).bind fun y0 =>
 bif y0 then (
  some true)
 else (
  (M.spec_DrawRefileTo code).bind fun y1 =>
  (M.impl_RefileTo y1.1 y1.2.1 y1.2.2).bind fun y2 =>
  (M.spec_RefileTo y1.1 y1.2.1 y1.2.2).bind fun y3 =>
  ((bif (!(y2.2 == y3.2)) then some default else M.laws_rCartons y2.1 y3.1)).bind fun y4 =>
  bif ((!(y2.2 == y3.2)) || (!y4)) then (
   some false)
  else (
   (((
    bif y2.2 then (
     (M.impl_FindFile y2.1 y1.2.1).bind fun y5 =>
     ((bif ((!y5.2.2.2) || (y5.1 != y1.2.2)) then some default else M.impl_AreCartons y2.1)).bind fun y6 =>
     bif (((!y5.2.2.2) || (y5.1 != y1.2.2)) || (!y6)) then (
      some (.inr false))
     else (
      some (.inl ())))
    else (
     some (.inl ()))) : Option ((Unit) ⊕ (Bool)))).bind fun e => match e with
   | .inl () =>
    ((M.spec_DrawMoveCarton code).bind fun y7 =>
    (M.impl_MoveCarton y7.1 y7.2.1 y7.2.2.1 y7.2.2.2).bind fun y8 =>
    (M.spec_MoveCarton y7.1 y7.2.1 y7.2.2.1 y7.2.2.2).bind fun y9 =>
    ((bif (!(y8.2 == y9.2)) then some default else M.laws_rCartons y8.1 y9.1)).bind fun y10 =>
    bif ((!(y8.2 == y9.2)) || (!y10)) then (
     some false)
    else (
     (((
      bif y8.2 then (
       (M.impl_FreeOn y8.1 y7.2.2.1 y7.2.2.2).bind fun y11 =>
       bif (((!y11.2) || (decide (y11.1 < (0 : Int)))) || (decide (y11.1 > (99 : Int)))) then (
        some (.inr false))
       else (
        some (.inl ())))
      else (
       some (.inl ()))) : Option ((Unit) ⊕ (Bool)))).bind fun e => match e with
     | .inl () =>
      ((M.spec_DrawMergeCartons code).bind fun y12 =>
      (M.impl_MergeCartons y12.1 y12.2.1 y12.2.2).bind fun y13 =>
      (M.spec_MergeCartons y12.1 y12.2.1 y12.2.2).bind fun y14 =>
      ((bif (!(y13.2 == y14.2)) then some default else M.laws_rCartons y13.1 y14.1)).bind fun y15 =>
      bif ((!(y13.2 == y14.2)) || (!y15)) then (
       some false)
      else (
       (iterO (M.laws_FnCartons_l0 y12 y13) (0 : Int)).bind fun e => match e with
       | .inl () =>
        ((M.spec_DrawFindFile code).bind fun y19 =>
        (M.impl_FindFile y19.1 y19.2).bind fun y20 =>
        (M.spec_FindFile y19.1 y19.2).bind fun y21 =>
        some ((((y20.1 == y21.1) && (y20.2.1 == y21.2.1)) && (y20.2.2.1 == y21.2.2.1)) && (y20.2.2.2 == y21.2.2.2)))
       | .inr r => some r))
     | .inr r => some r))
   | .inr r => some r))
end Go.Proofs.Ytfebeomnlkfgoaa
