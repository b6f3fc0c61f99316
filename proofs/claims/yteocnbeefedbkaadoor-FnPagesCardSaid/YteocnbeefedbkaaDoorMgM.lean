/- models of the functions -/
import Derived.Test.YteocnbeefedbkaaDoorWx
set_option linter.unusedSimpArgs false
set_option linter.unusedVariables false
set_option maxRecDepth 100000
namespace Go.Proofs.YteocnbeefedbkaaDoor
open Go.VS

structure Cur where
  Code : List Int
  At : Int
  Seed : Int
  deriving Inhabited, DecidableEq

abbrev encCur (ρ : Nat) (c : Cur) : PV := .agg [.vl ρ 1 (List.map encU8 c.Code), .int .i64 c.At, .int .u64 c.Seed]

structure File where
  Id : Int
  Series : Int
  Title : List UInt8
  Opened : Int
  Closed : Int
  State : Int
  Pages : Int
  deriving Inhabited, DecidableEq

abbrev encFile (c : File) : PV := .agg [.int .i64 c.Id, .int .i64 c.Series, .str c.Title, .int .i64 c.Opened, .int .i64 c.Closed, .int .i64 c.State, .int .i64 c.Pages]

def M.laws_rBig (code : List Int) : Option Bool :=
  some (decide ((code.length : Int) > (65536 : Int)))

def M.spec_l1Cur_next (c : Cur) : Option (Int × Cur) :=
  (((
    bif (decide (c.At < (c.Code.length : Int))) then (
      asrt ((0 : Int) ≤ c.At ∧ c.At < (c.Code.length : Int)) <|
      some (IntKind.i64.wrap (c.Code.getD (Int.toNat c.At) default)))
    else (
      some (0 : Int))) : Option Int)).bind fun e => match e with
  | b_ =>
    (bif (decide ((IntKind.i64.wrap (c.At + (1 : Int))) ≤ (c.Code.length : Int))) then (
      some (b_, (⟨c.Code, (IntKind.i64.wrap (c.At + (1 : Int))), (IntKind.u64.wrap ((IntKind.u64.wrap ((IntKind.u64.wrap (c.Seed * (6364136223846793005 : Int))) + (IntKind.u64.wrap b_))) + (103535 : Int)))⟩ : Cur)))
    else (
      some ((IntKind.i64.wrap (IntKind.u64.wrap (BitVec.ofInt IntKind.u64.bits (Int.fdiv (IntKind.u64.wrap ((IntKind.u64.wrap ((IntKind.u64.wrap (c.Seed * (6364136223846793005 : Int))) + (IntKind.u64.wrap b_))) + (103535 : Int))) (2 ^ (min (Int.toNat (40 : Int)) IntKind.u64.bits))) &&& BitVec.ofInt IntKind.u64.bits (255 : Int)).toNat)), (⟨c.Code, (IntKind.i64.wrap (c.At + (1 : Int))), (IntKind.u64.wrap ((IntKind.u64.wrap ((IntKind.u64.wrap (c.Seed * (6364136223846793005 : Int))) + (IntKind.u64.wrap b_))) + (103535 : Int)))⟩ : Cur))))

def M.spec_l1Cur_pick (c : Cur) (n : Int) : Option (Int × Cur) :=
  bif (decide (n ≤ (1 : Int))) then (
    some ((0 : Int), c))
  else (
    (M.spec_l1Cur_next c).bind fun y0 =>
    (((
      bif (decide (n > (200 : Int))) then (
        (M.spec_l1Cur_next y0.2).bind fun y1 =>
        some ((IntKind.i64.wrap ((IntKind.i64.wrap (y0.1 * (256 : Int))) + y1.1)), y1.2))
      else (
        some (y0.1, y0.2))) : Option (Int × Cur))).bind fun e => match e with
    | (x, c_) =>
      (asrt (n ≠ 0) <|
      some ((Int.tmod x n), c_)))

def M.spec_l1Cur_among (c : Cur) (list : List Int) : Option (Int × Cur) :=
  (M.spec_l1Cur_pick c (list.length : Int)).bind fun y0 =>
  asrt ((0 : Int) ≤ y0.1 ∧ y0.1 < (list.length : Int)) <|
  some ((list.getD (Int.toNat y0.1) default), y0.2)

def M.spec_l1Cur_of (c : Cur) (list : List (List UInt8)) : Option (List UInt8 × Cur) :=
  (M.spec_l1Cur_pick c (list.length : Int)).bind fun y0 =>
  asrt ((0 : Int) ≤ y0.1 ∧ y0.1 < (list.length : Int)) <|
  some ((list.getD (Int.toNat y0.1) default), y0.2)

def M.spec_l1Least (a : Int) (b_ : Int) : Option Int :=
  bif (decide (a < b_)) then (
    some a)
  else (
    some b_)

def M.spec_l1Cur_file5 (c : Cur) (id_ : Int) : Option (File × Cur) :=
  (M.spec_l1Cur_among c ([(1 : Int), (1 : Int), (2 : Int), (99 : Int)] : List Int)).bind fun y0 =>
  (M.spec_l1Cur_of y0.2 ([[97, 112, 112, 101, 97, 108, 115], [98, 117, 100, 103, 101, 116], [99, 108, 97, 105, 109, 115], [100, 101, 101, 100, 115], [101, 118, 101, 110, 116, 115]] : List (List UInt8))).bind fun y1 =>
  (M.spec_l1Cur_among y1.2 ([(0 : Int), (10 : Int), (10 : Int), (500 : Int), (20000 : Int)] : List Int)).bind fun y2 =>
  (M.spec_l1Cur_among y2.2 ([(0 : Int), (0 : Int), (1 : Int), (1 : Int), (2 : Int)] : List Int)).bind fun y3 =>
  (M.spec_l1Cur_among y3.2 ([(0 : Int), (1 : Int), (2 : Int), (300 : Int), (4900 : Int), (5000 : Int)] : List Int)).bind fun y4 =>
  (((
    bif (y3.1 != (0 : Int)) then (
      (M.spec_l1Cur_among y4.2 ([(0 : Int), (5 : Int), (400 : Int)] : List Int)).bind fun y5 =>
      (M.spec_l1Least (20000 : Int) (IntKind.i64.wrap (y2.1 + y5.1))).bind fun y6 =>
      (((
        some (y5.2, (⟨id_, y0.1, y1.1, y2.1, y6, y3.1, y4.1⟩ : File))) : Option (Cur × File))).bind fun e => match e with
      | (c_0, f_0) =>
        (some (c_0, f_0)))
    else (
      some (y4.2, (⟨id_, y0.1, y1.1, y2.1, (0 : Int), y3.1, y4.1⟩ : File)))) : Option (Cur × File))).bind fun e => match e with
  | (c_, f_) =>
    ((M.spec_l1Cur_pick c_ (80 : Int)).bind fun y7 =>
    (((
      bif (y7.1 == (0 : Int)) then (
        (M.spec_l1Cur_among y7.2 ([(0 : Int), (999 : Int), (1000 : Int)] : List Int)).bind fun y8 =>
        some (y8.2, (⟨y8.1, f_.Series, f_.Title, f_.Opened, f_.Closed, f_.State, f_.Pages⟩ : File)))
      else (
        bif (y7.1 == (1 : Int)) then (
          (M.spec_l1Cur_among y7.2 ([(0 : Int), (100 : Int)] : List Int)).bind fun y9 =>
          some (y9.2, (⟨f_.Id, y9.1, f_.Title, f_.Opened, f_.Closed, f_.State, f_.Pages⟩ : File)))
        else (
          bif (y7.1 == (2 : Int)) then (
            (M.spec_l1Cur_of y7.2 ([[], [65], [97, 98, 99, 100, 101, 102, 103, 104, 105, 106, 107]] : List (List UInt8))).bind fun y10 =>
            some (y10.2, (⟨f_.Id, f_.Series, y10.1, f_.Opened, f_.Closed, f_.State, f_.Pages⟩ : File)))
          else (
            bif (y7.1 == (3 : Int)) then (
              (M.spec_l1Cur_among y7.2 ([(-1 : Int), (20001 : Int)] : List Int)).bind fun y11 =>
              some (y11.2, (⟨f_.Id, f_.Series, f_.Title, y11.1, f_.Closed, f_.State, f_.Pages⟩ : File)))
            else (
              bif (y7.1 == (4 : Int)) then (
                (M.spec_l1Cur_among y7.2 ([(-1 : Int), (5 : Int), (20001 : Int)] : List Int)).bind fun y12 =>
                some (y12.2, (⟨f_.Id, f_.Series, f_.Title, f_.Opened, y12.1, f_.State, f_.Pages⟩ : File)))
              else (
                bif (y7.1 == (5 : Int)) then (
                  (M.spec_l1Cur_among y7.2 ([(-1 : Int), (3 : Int)] : List Int)).bind fun y13 =>
                  some (y13.2, (⟨f_.Id, f_.Series, f_.Title, f_.Opened, f_.Closed, y13.1, f_.Pages⟩ : File)))
                else (
                  bif (y7.1 == (6 : Int)) then (
                    (M.spec_l1Cur_among y7.2 ([(-1 : Int), (5001 : Int)] : List Int)).bind fun y14 =>
                    some (y14.2, (⟨f_.Id, f_.Series, f_.Title, f_.Opened, f_.Closed, f_.State, y14.1⟩ : File)))
                  else (
                    some (y7.2, f_))))))))) : Option (Cur × File))).bind fun e => match e with
    | (c_1, f_1) =>
      (some (f_1, c_1)))

def M.spec_l1In (x : Int) (a : Int) (b_ : Int) : Option Bool :=
  some ((decide (x ≥ a)) && (decide (x ≤ b_)))

def M.spec_l2Word_l0 (s : List UInt8) : (Int) → Option ((Int) ⊕ ((Unit) ⊕ (Bool))) := fun st_ => match st_ with
| i =>
  bif (decide (i < (s.length : Int))) then (
    asrt ((0 : Int) ≤ i ∧ i < (s.length : Int)) <|
    asrt ((decide (((s.getD (Int.toNat i) 0).toNat : Int) < (97 : Int))) = false → ((0 : Int) ≤ i ∧ i < (s.length : Int))) <|
    bif ((decide (((s.getD (Int.toNat i) 0).toNat : Int) < (97 : Int))) || (decide (((s.getD (Int.toNat i) 0).toNat : Int) > (122 : Int)))) then (
      some (.inr (.inr false)))
    else (
      some (.inl (IntKind.i64.wrap (i + (1 : Int))))))
  else (
    some (.inr (.inl ())))

def M.spec_l2Word (s : List UInt8) : Option Bool :=
  (iterO (M.spec_l2Word_l0 s) (0 : Int)).bind fun e => match e with
  | .inl () =>
    ((M.spec_l1In (s.length : Int) (1 : Int) (10 : Int)).bind fun y1 =>
    some y1)
  | .inr r => some r

def M.spec_l2Day (d : Int) : Option Bool :=
  (M.spec_l1In d (0 : Int) (20000 : Int)).bind fun y0 =>
  some y0

def M.spec_l5One (f : File) : Option Bool :=
  (M.spec_l1In f.Id (1 : Int) (999 : Int)).bind fun y0 =>
  ((bif (!y0) then some default else M.spec_l1In f.Series (1 : Int) (99 : Int))).bind fun y1 =>
  ((bif ((!y0) || (!y1)) then some default else M.spec_l2Word f.Title)).bind fun y2 =>
  ((bif (((!y0) || (!y1)) || (!y2)) then some default else M.spec_l2Day f.Opened)).bind fun y3 =>
  ((bif ((((!y0) || (!y1)) || (!y2)) || (!y3)) then some default else M.spec_l1In f.State (0 : Int) (2 : Int))).bind fun y4 =>
  ((bif (((((!y0) || (!y1)) || (!y2)) || (!y3)) || (!y4)) then some default else M.spec_l1In f.Pages (0 : Int) (5000 : Int))).bind fun y5 =>
  bif ((((((!y0) || (!y1)) || (!y2)) || (!y3)) || (!y4)) || (!y5)) then (
    some false)
  else (
    bif (f.State == (0 : Int)) then (
      some (f.Closed == (0 : Int)))
    else (
      (M.spec_l2Day f.Closed).bind fun y6 =>
      some (y6 && (decide (f.Closed ≥ f.Opened)))))

def M.spec_l5Good_l1 (list : List File) (i : Int) : (Int) → Option ((Int) ⊕ ((Unit) ⊕ (Bool))) := fun st_ => match st_ with
| k =>
  bif (decide (k < i)) then (
    asrt ((0 : Int) ≤ k ∧ k < (list.length : Int)) <|
    asrt ((0 : Int) ≤ i ∧ i < (list.length : Int)) <|
    asrt ((((list.getD (Int.toNat k) default).Series) == ((list.getD (Int.toNat i) default).Series)) = true → ((0 : Int) ≤ k ∧ k < (list.length : Int))) <|
    asrt ((((list.getD (Int.toNat k) default).Series) == ((list.getD (Int.toNat i) default).Series)) = true → ((0 : Int) ≤ i ∧ i < (list.length : Int))) <|
    bif ((((list.getD (Int.toNat k) default).Series) == ((list.getD (Int.toNat i) default).Series)) && (((list.getD (Int.toNat k) default).Title) == ((list.getD (Int.toNat i) default).Title))) then (
      some (.inr (.inr false)))
    else (
      some (.inl (IntKind.i64.wrap (k + (1 : Int))))))
  else (
    some (.inr (.inl ())))

def M.spec_l5Good_l0 (list : List File) : (Int) → Option ((Int) ⊕ ((Unit) ⊕ (Bool))) := fun st_ => match st_ with
| i =>
  bif ((decide (i < (list.length : Int))) && (decide (i ≤ (10 : Int)))) then (
    asrt ((0 : Int) ≤ i ∧ i < (list.length : Int)) <|
    (M.spec_l5One (list.getD (Int.toNat i) default)).bind fun y1 =>
    asrt ((!y1) = false → (decide (i > (0 : Int))) = true → ((0 : Int) ≤ (IntKind.i64.wrap (i - (1 : Int))) ∧ (IntKind.i64.wrap (i - (1 : Int))) < (list.length : Int))) <|
    asrt ((!y1) = false → (decide (i > (0 : Int))) = true → ((0 : Int) ≤ i ∧ i < (list.length : Int))) <|
    bif ((!y1) || ((decide (i > (0 : Int))) && (decide (((list.getD (Int.toNat (IntKind.i64.wrap (i - (1 : Int)))) default).Id) ≥ ((list.getD (Int.toNat i) default).Id))))) then (
      some (.inr (.inr false)))
    else (
      (iterO (M.spec_l5Good_l1 list i) (0 : Int)).bind fun e => match e with
      | .inl () =>
        (some (.inl (IntKind.i64.wrap (i + (1 : Int)))))
      | .inr r => some (.inr (.inr r))))
  else (
    some (.inr (.inl ())))

def M.spec_l5Good (list : List File) : Option Bool :=
  (iterO (M.spec_l5Good_l0 list) (0 : Int)).bind fun e => match e with
  | .inl () =>
    (some (decide ((list.length : Int) ≤ (10 : Int))))
  | .inr r => some r

def M.spec_l1Cur_one (c : Cur) (n : Int) : Option (Bool × Cur) :=
  (M.spec_l1Cur_pick c n).bind fun y0 =>
  some ((y0.1 == (0 : Int)), y0.2)

def M.spec_l1Cur_files5_l0 : (List File × Int × Int × Cur) → Option ((List File × Int × Int × Cur) ⊕ (List File × Cur)) := fun st_ => match st_ with
| (out_0, id_, n_, c_0) =>
  bif (decide (n_ > (0 : Int))) then (
    (((
      (M.spec_l1Cur_pick c_0 (3 : Int)).bind fun y2 =>
      asrt ((([] : List File).length : Int) + (out_0.length : Int) ≤ 2147483648) <|
      (M.spec_l1Cur_file5 y2.2 (IntKind.i64.wrap ((IntKind.i64.wrap (id_ + (1 : Int))) + y2.1))).bind fun y3 =>
      asrt (((([] : List File) ++ out_0).length : Int) + (([y3.1] : List File).length : Int) ≤ 2147483648) <|
      (M.spec_l5Good ((([] : List File) ++ out_0) ++ ([y3.1] : List File))).bind fun y4 =>
      ((bif y4 then some default else M.spec_l1Cur_one y3.2 (40 : Int))).bind fun y5 =>
      bif (y4 || y5.1) then (
        some (((([] : List File) ++ out_0) ++ ([y3.1] : List File)), (IntKind.i64.wrap ((IntKind.i64.wrap (id_ + (1 : Int))) + y2.1)), (bif y4 then y3.2 else y5.2)))
      else (
        some (out_0, (IntKind.i64.wrap ((IntKind.i64.wrap (id_ + (1 : Int))) + y2.1)), (bif y4 then y3.2 else y5.2)))) : Option (List File × Int × Cur))).bind fun e => match e with
    | (out_1, id_0, c_1) =>
      (some (.inl (out_1, id_0, (IntKind.i64.wrap (n_ - (1 : Int))), c_1))))
  else (
    some (.inr (out_0, c_0)))

def M.spec_l1Cur_files5_l1 : (List File × Int × Cur) → Option ((List File × Int × Cur) ⊕ (List File × Cur)) := fun st_ => match st_ with
| (out_3, n_0, c_3) =>
  (M.spec_l1Cur_pick c_3 (2 : Int)).bind fun y8 =>
  bif (decide (n_0 < (IntKind.i64.wrap ((10 : Int) + y8.1)))) then (
    asrt ((out_3.length : Int) + (([(⟨(IntKind.i64.wrap (n_0 + (1 : Int))), (IntKind.i64.wrap (n_0 + (1 : Int))), [120], (0 : Int), (0 : Int), (0 : Int), (9 : Int)⟩ : File)] : List File).length : Int) ≤ 2147483648) <|
    some (.inl ((out_3 ++ ([(⟨(IntKind.i64.wrap (n_0 + (1 : Int))), (IntKind.i64.wrap (n_0 + (1 : Int))), [120], (0 : Int), (0 : Int), (0 : Int), (9 : Int)⟩ : File)] : List File)), (IntKind.i64.wrap (n_0 + (1 : Int))), y8.2)))
  else (
    some (.inr (out_3, y8.2)))

def M.spec_l1Cur_files5 (c : Cur) : Option (List File × Cur) :=
  (M.spec_l1Cur_pick c (8 : Int)).bind fun y0 =>
  (iterO (M.spec_l1Cur_files5_l0) (([] : List File), (0 : Int), y0.1, y0.2)).bind fun e => match e with
  | (out_, c_) =>
    ((M.spec_l1Cur_one c_ (24 : Int)).bind fun y6 =>
    bif y6.1 then (
      (iterO (M.spec_l1Cur_files5_l1) (([] : List File), (0 : Int), y6.2)).bind fun e => match e with
      | (out_2, c_2) =>
        (some (out_2, c_2)))
    else (
      some (out_, y6.2)))

def M.spec_l1Cur_fileId_l0 (list : List File) (state : Int) : (List Int × Int × Cur) → Option ((List Int × Int × Cur) ⊕ (List Int × Cur)) := fun st_ => match st_ with
| (ids0, i, c_0) =>
  bif (decide (i < (list.length : Int))) then (
    (((
      asrt ((0 : Int) ≤ i ∧ i < (list.length : Int)) <|
      ((bif (((list.getD (Int.toNat i) default).State) == state) then some default else M.spec_l1Cur_one c_0 (6 : Int))).bind fun y1 =>
      bif ((((list.getD (Int.toNat i) default).State) == state) || y1.1) then (
        asrt ((0 : Int) ≤ i ∧ i < (list.length : Int)) <|
        asrt ((ids0.length : Int) + (([(list.getD (Int.toNat i) default).Id] : List Int).length : Int) ≤ 2147483648) <|
        some ((ids0 ++ ([(list.getD (Int.toNat i) default).Id] : List Int)), (bif (((list.getD (Int.toNat i) default).State) == state) then c_0 else y1.2)))
      else (
        some (ids0, (bif (((list.getD (Int.toNat i) default).State) == state) then c_0 else y1.2)))) : Option (List Int × Cur))).bind fun e => match e with
    | (ids1, c_1) =>
      (some (.inl (ids1, (IntKind.i64.wrap (i + (1 : Int))), c_1))))
  else (
    some (.inr (ids0, c_0)))

def M.spec_l1Cur_fileId (c : Cur) (list : List File) (state : Int) : Option (Int × Cur) :=
  (iterO (M.spec_l1Cur_fileId_l0 list state) (([] : List Int), (0 : Int), c)).bind fun e => match e with
  | (ids, c_) =>
    (bif ((ids.length : Int) == (0 : Int)) then (
      (M.spec_l1Cur_among c_ ([(0 : Int), (1 : Int), (2 : Int), (500 : Int)] : List Int)).bind fun y2 =>
      some (y2.1, y2.2))
    else (
      (M.spec_l1Cur_pick c_ (ids.length : Int)).bind fun y3 =>
      asrt ((0 : Int) ≤ y3.1 ∧ y3.1 < (ids.length : Int)) <|
      some ((ids.getD (Int.toNat y3.1) default), y3.2)))

def M.spec_DrawSplitFile (code : List Int) : Option (List File × Int × Int × List UInt8) :=
  (M.spec_l1Cur_files5 (⟨code, (0 : Int), (0 : Int)⟩ : Cur)).bind fun y0 =>
  (M.spec_l1Cur_fileId y0.2 y0.1 (0 : Int)).bind fun y1 =>
  (M.spec_l1Cur_among y1.2 ([(1 : Int), (2 : Int), (299 : Int), (4999 : Int), (0 : Int)] : List Int)).bind fun y2 =>
  (M.spec_l1Cur_of y2.2 ([[109, 111, 114, 101], [114, 101, 115, 116], [98, 117, 100, 103, 101, 116], [], [65]] : List (List UInt8))).bind fun y3 =>
  some (y0.1, y1.1, y2.1, y3.1)

def M.impl_fileAt_1 (f : File) (id_c : Int) : Option Bool :=
  some (f.Id == id_c)

def M.slices_IndexFunc_impl_File_impl_File_l0 (s : List File) (fm : File → Option Bool) : (Int) → Option ((Int) ⊕ ((Unit) ⊕ (Int))) := fun st_ => match st_ with
| v =>
  bif (decide (v < (s.length : Int))) then (
    asrt ((0 : Int) ≤ v ∧ v < (s.length : Int)) <|
    (fm (s.getD (Int.toNat v) default)).bind fun y1 =>
    bif y1 then (
      some (.inr (.inr v)))
    else (
      some (.inl (IntKind.i64.wrap (v + (1 : Int))))))
  else (
    some (.inr (.inl ())))

def M.slices_IndexFunc_impl_File_impl_File (s : List File) (fm : File → Option Bool) : Option Int :=
  (iterO (M.slices_IndexFunc_impl_File_impl_File_l0 s fm) (0 : Int)).bind fun e => match e with
  | .inl () =>
    (some (-1 : Int))
  | .inr r => some r

def M.impl_fileAt (list : List File) (id_ : Int) : Option Int :=
  (M.slices_IndexFunc_impl_File_impl_File list (fun x0 => M.impl_fileAt_1 x0 id_)).bind fun y0 =>
  some y0

def M.impl_within (n : Int) (low : Int) (high : Int) : Option Bool :=
  some ((decide (low ≤ n)) && (decide (n ≤ high)))

def M.impl_isId (id_ : Int) : Option Bool :=
  (M.impl_within id_ (1 : Int) (99 : Int)).bind fun y0 =>
  some y0

def M.strings_Trim (s cutset : List UInt8) : Option (List UInt8) := asrt (s.length ≤ 9223372036854775807 ∧ cutset.length < 4294967281 ∧ cutset.all (fun b => decide (b.toNat < 128)) = true) <| some (Go.Lib.trimS s cutset)

def M.impl_isWord (s : List UInt8) : Option Bool :=
  (M.impl_within (s.length : Int) (1 : Int) (10 : Int)).bind fun y0 =>
  ((bif y0 then M.strings_Trim s ([97, 98, 99, 100, 101, 102, 103, 104, 105, 106, 107, 108, 109, 110, 111, 112, 113, 114, 115, 116, 117, 118, 119, 120, 121, 122]) else some default)).bind fun y1 =>
  some (y0 && (y1 == ([])))

def M.impl_isDay (day : Int) : Option Bool :=
  (M.impl_within day (0 : Int) (20000 : Int)).bind fun y0 =>
  some y0

def M.impl_areDays (from_ : Int) (to_ : Int) : Option Bool :=
  (M.impl_isDay from_).bind fun y0 =>
  ((bif y0 then M.impl_isDay to_ else some default)).bind fun y1 =>
  some ((y0 && y1) && (decide (from_ ≤ to_)))

def M.impl_IsFile (f : File) : Option Bool :=
  (M.impl_within f.Id (1 : Int) (999 : Int)).bind fun y0 =>
  ((bif (!y0) then some default else M.impl_isId f.Series)).bind fun y1 =>
  ((bif ((!y0) || (!y1)) then some default else M.impl_isWord f.Title)).bind fun y2 =>
  ((bif (((!y0) || (!y1)) || (!y2)) then some default else M.impl_isDay f.Opened)).bind fun y3 =>
  ((bif ((((!y0) || (!y1)) || (!y2)) || (!y3)) then some default else M.impl_within f.Pages (0 : Int) (5000 : Int))).bind fun y4 =>
  bif (((((!y0) || (!y1)) || (!y2)) || (!y3)) || (!y4)) then (
    some false)
  else (
    bif (f.State == (0 : Int)) then (
      some (f.Closed == (0 : Int)))
    else (
      (M.impl_within f.State (1 : Int) (2 : Int)).bind fun y5 =>
      ((bif y5 then M.impl_areDays f.Opened f.Closed else some default)).bind fun y6 =>
      some (y5 && y6)))

def M.impl_AreFiles_1 (g : File) (f_c : File) : Option Bool :=
  some ((g.Series == f_c.Series) && (g.Title == f_c.Title))

def M.slices_ContainsFunc_impl_File_impl_File (s : List File) (fm : File → Option Bool) : Option Bool :=
  (M.slices_IndexFunc_impl_File_impl_File s fm).bind fun y0 =>
  some (decide (y0 ≥ (0 : Int)))

def M.impl_AreFiles_l0 (list : List File) : (Int) → Option ((Int) ⊕ ((Unit) ⊕ (Bool))) := fun st_ => match st_ with
| v =>
  bif (decide (v < (list.length : Int))) then (
    asrt ((0 : Int) ≤ v ∧ v < (list.length : Int)) <|
    (M.impl_IsFile (list.getD (Int.toNat v) default)).bind fun y1 =>
    asrt ((!y1) = false → (decide (v > (0 : Int))) = true → ((0 : Int) ≤ (IntKind.i64.wrap (v - (1 : Int))) ∧ (IntKind.i64.wrap (v - (1 : Int))) < (list.length : Int))) <|
    bif ((!y1) || ((decide (v > (0 : Int))) && (decide (((list.getD (Int.toNat (IntKind.i64.wrap (v - (1 : Int)))) default).Id) ≥ ((list.getD (Int.toNat v) default).Id))))) then (
      some (.inr (.inr false)))
    else (
      asrt ((0 : Int) ≤ (0 : Int) ∧ (0 : Int) ≤ v ∧ v ≤ (list.length : Int)) <|
      (M.slices_ContainsFunc_impl_File_impl_File (slc list (0 : Int) v) (fun x0 => M.impl_AreFiles_1 x0 (list.getD (Int.toNat v) default))).bind fun y2 =>
      bif y2 then (
        some (.inr (.inr false)))
      else (
        some (.inl (IntKind.i64.wrap (v + (1 : Int)))))))
  else (
    some (.inr (.inl ())))

def M.impl_AreFiles (list : List File) : Option Bool :=
  (iterO (M.impl_AreFiles_l0 list) (0 : Int)).bind fun e => match e with
  | .inl () =>
    (some (decide ((list.length : Int) ≤ (10 : Int))))
  | .inr r => some r

def M.impl_inState (list : List File) (id_ : Int) (state : Int) : Option (Int × Bool) :=
  (M.impl_fileAt list id_).bind fun y0 =>
  (M.impl_AreFiles list).bind fun y1 =>
  asrt ((y1 && (decide (y0 ≥ (0 : Int)))) = true → ((0 : Int) ≤ y0 ∧ y0 < (list.length : Int))) <|
  some (y0, ((y1 && (decide (y0 ≥ (0 : Int)))) && (((list.getD (Int.toNat y0) default).State) == state)))

def M.slices_Clone_impl_File_impl_File (s : List File) : Option (List File) := asrt ((s.length : Int) ≤ 2147483648) <| some s

def M.impl_SplitFile (list : List File) (id_ : Int) (pages : Int) (title : List UInt8) : Option (List File × Int × Bool) :=
  (M.impl_inState list id_ (0 : Int)).bind fun y0 =>
  asrt ((!y0.2) = false → ((0 : Int) ≤ y0.1 ∧ y0.1 < (list.length : Int))) <|
  ((bif (!y0.2) then some default else M.impl_within pages (1 : Int) (IntKind.i64.wrap (((list.getD (Int.toNat y0.1) default).Pages) - (1 : Int))))).bind fun y1 =>
  bif ((!y0.2) || (!y1)) then (
    some (([] : List File), (0 : Int), false))
  else (
    (M.slices_Clone_impl_File_impl_File list).bind fun y2 =>
    asrt ((0 : Int) ≤ y0.1 ∧ y0.1 < (y2.length : Int)) <|
    asrt ((0 : Int) ≤ y0.1 ∧ y0.1 < (y2.length : Int)) <|
    asrt ((0 : Int) ≤ (IntKind.i64.wrap (((y2.set (Int.toNat y0.1) (⟨(y2.getD (Int.toNat y0.1) default).Id, (y2.getD (Int.toNat y0.1) default).Series, (y2.getD (Int.toNat y0.1) default).Title, (y2.getD (Int.toNat y0.1) default).Opened, (y2.getD (Int.toNat y0.1) default).Closed, (y2.getD (Int.toNat y0.1) default).State, (IntKind.i64.wrap (((y2.getD (Int.toNat y0.1) default).Pages) - pages))⟩ : File)).length : Int) - (1 : Int))) ∧ (IntKind.i64.wrap (((y2.set (Int.toNat y0.1) (⟨(y2.getD (Int.toNat y0.1) default).Id, (y2.getD (Int.toNat y0.1) default).Series, (y2.getD (Int.toNat y0.1) default).Title, (y2.getD (Int.toNat y0.1) default).Opened, (y2.getD (Int.toNat y0.1) default).Closed, (y2.getD (Int.toNat y0.1) default).State, (IntKind.i64.wrap (((y2.getD (Int.toNat y0.1) default).Pages) - pages))⟩ : File)).length : Int) - (1 : Int))) < ((y2.set (Int.toNat y0.1) (⟨(y2.getD (Int.toNat y0.1) default).Id, (y2.getD (Int.toNat y0.1) default).Series, (y2.getD (Int.toNat y0.1) default).Title, (y2.getD (Int.toNat y0.1) default).Opened, (y2.getD (Int.toNat y0.1) default).Closed, (y2.getD (Int.toNat y0.1) default).State, (IntKind.i64.wrap (((y2.getD (Int.toNat y0.1) default).Pages) - pages))⟩ : File)).length : Int)) <|
    asrt ((0 : Int) ≤ y0.1 ∧ y0.1 < ((y2.set (Int.toNat y0.1) (⟨(y2.getD (Int.toNat y0.1) default).Id, (y2.getD (Int.toNat y0.1) default).Series, (y2.getD (Int.toNat y0.1) default).Title, (y2.getD (Int.toNat y0.1) default).Opened, (y2.getD (Int.toNat y0.1) default).Closed, (y2.getD (Int.toNat y0.1) default).State, (IntKind.i64.wrap (((y2.getD (Int.toNat y0.1) default).Pages) - pages))⟩ : File)).length : Int)) <|
    asrt ((0 : Int) ≤ y0.1 ∧ y0.1 < ((y2.set (Int.toNat y0.1) (⟨(y2.getD (Int.toNat y0.1) default).Id, (y2.getD (Int.toNat y0.1) default).Series, (y2.getD (Int.toNat y0.1) default).Title, (y2.getD (Int.toNat y0.1) default).Opened, (y2.getD (Int.toNat y0.1) default).Closed, (y2.getD (Int.toNat y0.1) default).State, (IntKind.i64.wrap (((y2.getD (Int.toNat y0.1) default).Pages) - pages))⟩ : File)).length : Int)) <|
    asrt (((y2.set (Int.toNat y0.1) (⟨(y2.getD (Int.toNat y0.1) default).Id, (y2.getD (Int.toNat y0.1) default).Series, (y2.getD (Int.toNat y0.1) default).Title, (y2.getD (Int.toNat y0.1) default).Opened, (y2.getD (Int.toNat y0.1) default).Closed, (y2.getD (Int.toNat y0.1) default).State, (IntKind.i64.wrap (((y2.getD (Int.toNat y0.1) default).Pages) - pages))⟩ : File)).length : Int) + (([(⟨(IntKind.i64.wrap ((((y2.set (Int.toNat y0.1) (⟨(y2.getD (Int.toNat y0.1) default).Id, (y2.getD (Int.toNat y0.1) default).Series, (y2.getD (Int.toNat y0.1) default).Title, (y2.getD (Int.toNat y0.1) default).Opened, (y2.getD (Int.toNat y0.1) default).Closed, (y2.getD (Int.toNat y0.1) default).State, (IntKind.i64.wrap (((y2.getD (Int.toNat y0.1) default).Pages) - pages))⟩ : File)).getD (Int.toNat (IntKind.i64.wrap (((y2.set (Int.toNat y0.1) (⟨(y2.getD (Int.toNat y0.1) default).Id, (y2.getD (Int.toNat y0.1) default).Series, (y2.getD (Int.toNat y0.1) default).Title, (y2.getD (Int.toNat y0.1) default).Opened, (y2.getD (Int.toNat y0.1) default).Closed, (y2.getD (Int.toNat y0.1) default).State, (IntKind.i64.wrap (((y2.getD (Int.toNat y0.1) default).Pages) - pages))⟩ : File)).length : Int) - (1 : Int)))) default).Id) + (1 : Int))), ((y2.set (Int.toNat y0.1) (⟨(y2.getD (Int.toNat y0.1) default).Id, (y2.getD (Int.toNat y0.1) default).Series, (y2.getD (Int.toNat y0.1) default).Title, (y2.getD (Int.toNat y0.1) default).Opened, (y2.getD (Int.toNat y0.1) default).Closed, (y2.getD (Int.toNat y0.1) default).State, (IntKind.i64.wrap (((y2.getD (Int.toNat y0.1) default).Pages) - pages))⟩ : File)).getD (Int.toNat y0.1) default).Series, title, ((y2.set (Int.toNat y0.1) (⟨(y2.getD (Int.toNat y0.1) default).Id, (y2.getD (Int.toNat y0.1) default).Series, (y2.getD (Int.toNat y0.1) default).Title, (y2.getD (Int.toNat y0.1) default).Opened, (y2.getD (Int.toNat y0.1) default).Closed, (y2.getD (Int.toNat y0.1) default).State, (IntKind.i64.wrap (((y2.getD (Int.toNat y0.1) default).Pages) - pages))⟩ : File)).getD (Int.toNat y0.1) default).Opened, (0 : Int), (0 : Int), pages⟩ : File)] : List File).length : Int) ≤ 2147483648) <|
    (M.impl_AreFiles ((y2.set (Int.toNat y0.1) (⟨(y2.getD (Int.toNat y0.1) default).Id, (y2.getD (Int.toNat y0.1) default).Series, (y2.getD (Int.toNat y0.1) default).Title, (y2.getD (Int.toNat y0.1) default).Opened, (y2.getD (Int.toNat y0.1) default).Closed, (y2.getD (Int.toNat y0.1) default).State, (IntKind.i64.wrap (((y2.getD (Int.toNat y0.1) default).Pages) - pages))⟩ : File)) ++ ([(⟨(IntKind.i64.wrap ((((y2.set (Int.toNat y0.1) (⟨(y2.getD (Int.toNat y0.1) default).Id, (y2.getD (Int.toNat y0.1) default).Series, (y2.getD (Int.toNat y0.1) default).Title, (y2.getD (Int.toNat y0.1) default).Opened, (y2.getD (Int.toNat y0.1) default).Closed, (y2.getD (Int.toNat y0.1) default).State, (IntKind.i64.wrap (((y2.getD (Int.toNat y0.1) default).Pages) - pages))⟩ : File)).getD (Int.toNat (IntKind.i64.wrap (((y2.set (Int.toNat y0.1) (⟨(y2.getD (Int.toNat y0.1) default).Id, (y2.getD (Int.toNat y0.1) default).Series, (y2.getD (Int.toNat y0.1) default).Title, (y2.getD (Int.toNat y0.1) default).Opened, (y2.getD (Int.toNat y0.1) default).Closed, (y2.getD (Int.toNat y0.1) default).State, (IntKind.i64.wrap (((y2.getD (Int.toNat y0.1) default).Pages) - pages))⟩ : File)).length : Int) - (1 : Int)))) default).Id) + (1 : Int))), ((y2.set (Int.toNat y0.1) (⟨(y2.getD (Int.toNat y0.1) default).Id, (y2.getD (Int.toNat y0.1) default).Series, (y2.getD (Int.toNat y0.1) default).Title, (y2.getD (Int.toNat y0.1) default).Opened, (y2.getD (Int.toNat y0.1) default).Closed, (y2.getD (Int.toNat y0.1) default).State, (IntKind.i64.wrap (((y2.getD (Int.toNat y0.1) default).Pages) - pages))⟩ : File)).getD (Int.toNat y0.1) default).Series, title, ((y2.set (Int.toNat y0.1) (⟨(y2.getD (Int.toNat y0.1) default).Id, (y2.getD (Int.toNat y0.1) default).Series, (y2.getD (Int.toNat y0.1) default).Title, (y2.getD (Int.toNat y0.1) default).Opened, (y2.getD (Int.toNat y0.1) default).Closed, (y2.getD (Int.toNat y0.1) default).State, (IntKind.i64.wrap (((y2.getD (Int.toNat y0.1) default).Pages) - pages))⟩ : File)).getD (Int.toNat y0.1) default).Opened, (0 : Int), (0 : Int), pages⟩ : File)] : List File))).bind fun y3 =>
    bif (!y3) then (
      some (([] : List File), (0 : Int), false))
    else (
      some (((y2.set (Int.toNat y0.1) (⟨(y2.getD (Int.toNat y0.1) default).Id, (y2.getD (Int.toNat y0.1) default).Series, (y2.getD (Int.toNat y0.1) default).Title, (y2.getD (Int.toNat y0.1) default).Opened, (y2.getD (Int.toNat y0.1) default).Closed, (y2.getD (Int.toNat y0.1) default).State, (IntKind.i64.wrap (((y2.getD (Int.toNat y0.1) default).Pages) - pages))⟩ : File)) ++ ([(⟨(IntKind.i64.wrap ((((y2.set (Int.toNat y0.1) (⟨(y2.getD (Int.toNat y0.1) default).Id, (y2.getD (Int.toNat y0.1) default).Series, (y2.getD (Int.toNat y0.1) default).Title, (y2.getD (Int.toNat y0.1) default).Opened, (y2.getD (Int.toNat y0.1) default).Closed, (y2.getD (Int.toNat y0.1) default).State, (IntKind.i64.wrap (((y2.getD (Int.toNat y0.1) default).Pages) - pages))⟩ : File)).getD (Int.toNat (IntKind.i64.wrap (((y2.set (Int.toNat y0.1) (⟨(y2.getD (Int.toNat y0.1) default).Id, (y2.getD (Int.toNat y0.1) default).Series, (y2.getD (Int.toNat y0.1) default).Title, (y2.getD (Int.toNat y0.1) default).Opened, (y2.getD (Int.toNat y0.1) default).Closed, (y2.getD (Int.toNat y0.1) default).State, (IntKind.i64.wrap (((y2.getD (Int.toNat y0.1) default).Pages) - pages))⟩ : File)).length : Int) - (1 : Int)))) default).Id) + (1 : Int))), ((y2.set (Int.toNat y0.1) (⟨(y2.getD (Int.toNat y0.1) default).Id, (y2.getD (Int.toNat y0.1) default).Series, (y2.getD (Int.toNat y0.1) default).Title, (y2.getD (Int.toNat y0.1) default).Opened, (y2.getD (Int.toNat y0.1) default).Closed, (y2.getD (Int.toNat y0.1) default).State, (IntKind.i64.wrap (((y2.getD (Int.toNat y0.1) default).Pages) - pages))⟩ : File)).getD (Int.toNat y0.1) default).Series, title, ((y2.set (Int.toNat y0.1) (⟨(y2.getD (Int.toNat y0.1) default).Id, (y2.getD (Int.toNat y0.1) default).Series, (y2.getD (Int.toNat y0.1) default).Title, (y2.getD (Int.toNat y0.1) default).Opened, (y2.getD (Int.toNat y0.1) default).Closed, (y2.getD (Int.toNat y0.1) default).State, (IntKind.i64.wrap (((y2.getD (Int.toNat y0.1) default).Pages) - pages))⟩ : File)).getD (Int.toNat y0.1) default).Opened, (0 : Int), (0 : Int), pages⟩ : File)] : List File)), (IntKind.i64.wrap ((((y2.set (Int.toNat y0.1) (⟨(y2.getD (Int.toNat y0.1) default).Id, (y2.getD (Int.toNat y0.1) default).Series, (y2.getD (Int.toNat y0.1) default).Title, (y2.getD (Int.toNat y0.1) default).Opened, (y2.getD (Int.toNat y0.1) default).Closed, (y2.getD (Int.toNat y0.1) default).State, (IntKind.i64.wrap (((y2.getD (Int.toNat y0.1) default).Pages) - pages))⟩ : File)).getD (Int.toNat (IntKind.i64.wrap (((y2.set (Int.toNat y0.1) (⟨(y2.getD (Int.toNat y0.1) default).Id, (y2.getD (Int.toNat y0.1) default).Series, (y2.getD (Int.toNat y0.1) default).Title, (y2.getD (Int.toNat y0.1) default).Opened, (y2.getD (Int.toNat y0.1) default).Closed, (y2.getD (Int.toNat y0.1) default).State, (IntKind.i64.wrap (((y2.getD (Int.toNat y0.1) default).Pages) - pages))⟩ : File)).length : Int) - (1 : Int)))) default).Id) + (1 : Int))), true)))

def M.spec_l5Find_l0 (list : List File) (id_ : Int) (state : Int) : (Int) → Option ((Int) ⊕ ((Unit) ⊕ (Int))) := fun st_ => match st_ with
| i =>
  ((bif (decide (i < (list.length : Int))) then M.spec_l5Good list else some default)).bind fun y1 =>
  bif ((decide (i < (list.length : Int))) && y1) then (
    asrt ((0 : Int) ≤ i ∧ i < (list.length : Int)) <|
    asrt ((((list.getD (Int.toNat i) default).Id) == id_) = true → (decide (state < (0 : Int))) = false → ((0 : Int) ≤ i ∧ i < (list.length : Int))) <|
    bif ((((list.getD (Int.toNat i) default).Id) == id_) && ((decide (state < (0 : Int))) || (((list.getD (Int.toNat i) default).State) == state))) then (
      some (.inr (.inr i)))
    else (
      some (.inl (IntKind.i64.wrap (i + (1 : Int))))))
  else (
    some (.inr (.inl ())))

def M.spec_l5Find (list : List File) (id_ : Int) (state : Int) : Option Int :=
  (iterO (M.spec_l5Find_l0 list id_ state) (0 : Int)).bind fun e => match e with
  | .inl () =>
    (some (-1 : Int))
  | .inr r => some r

def M.spec_SplitFile (list : List File) (id_ : Int) (pages : Int) (title : List UInt8) : Option (List File × Int × Bool) :=
  (M.spec_l5Find list id_ (0 : Int)).bind fun y0 =>
  asrt ((decide (y0 < (0 : Int))) = false → ((0 : Int) ≤ y0 ∧ y0 < (list.length : Int))) <|
  ((bif (decide (y0 < (0 : Int))) then some default else M.spec_l1In pages (1 : Int) (IntKind.i64.wrap (((list.getD (Int.toNat y0) default).Pages) - (1 : Int))))).bind fun y1 =>
  bif ((decide (y0 < (0 : Int))) || (!y1)) then (
    some (([] : List File), (0 : Int), false))
  else (
    asrt ((0 : Int) ≤ y0 ∧ y0 < (list.length : Int)) <|
    asrt ((0 : Int) ≤ (IntKind.i64.wrap ((list.length : Int) - (1 : Int))) ∧ (IntKind.i64.wrap ((list.length : Int) - (1 : Int))) < (list.length : Int)) <|
    asrt ((([] : List File).length : Int) + (list.length : Int) ≤ 2147483648) <|
    asrt ((0 : Int) ≤ y0 ∧ y0 < ((([] : List File) ++ list).length : Int)) <|
    asrt ((((([] : List File) ++ list).set (Int.toNat y0) (⟨(list.getD (Int.toNat y0) default).Id, (list.getD (Int.toNat y0) default).Series, (list.getD (Int.toNat y0) default).Title, (list.getD (Int.toNat y0) default).Opened, (list.getD (Int.toNat y0) default).Closed, (list.getD (Int.toNat y0) default).State, (IntKind.i64.wrap (((list.getD (Int.toNat y0) default).Pages) - pages))⟩ : File)).length : Int) + (([(⟨(IntKind.i64.wrap (((list.getD (Int.toNat (IntKind.i64.wrap ((list.length : Int) - (1 : Int)))) default).Id) + (1 : Int))), (list.getD (Int.toNat y0) default).Series, title, (list.getD (Int.toNat y0) default).Opened, (0 : Int), (0 : Int), pages⟩ : File)] : List File).length : Int) ≤ 2147483648) <|
    (M.spec_l5Good (((([] : List File) ++ list).set (Int.toNat y0) (⟨(list.getD (Int.toNat y0) default).Id, (list.getD (Int.toNat y0) default).Series, (list.getD (Int.toNat y0) default).Title, (list.getD (Int.toNat y0) default).Opened, (list.getD (Int.toNat y0) default).Closed, (list.getD (Int.toNat y0) default).State, (IntKind.i64.wrap (((list.getD (Int.toNat y0) default).Pages) - pages))⟩ : File)) ++ ([(⟨(IntKind.i64.wrap (((list.getD (Int.toNat (IntKind.i64.wrap ((list.length : Int) - (1 : Int)))) default).Id) + (1 : Int))), (list.getD (Int.toNat y0) default).Series, title, (list.getD (Int.toNat y0) default).Opened, (0 : Int), (0 : Int), pages⟩ : File)] : List File))).bind fun y2 =>
    bif (!y2) then (
      some (([] : List File), (0 : Int), false))
    else (
      some ((((([] : List File) ++ list).set (Int.toNat y0) (⟨(list.getD (Int.toNat y0) default).Id, (list.getD (Int.toNat y0) default).Series, (list.getD (Int.toNat y0) default).Title, (list.getD (Int.toNat y0) default).Opened, (list.getD (Int.toNat y0) default).Closed, (list.getD (Int.toNat y0) default).State, (IntKind.i64.wrap (((list.getD (Int.toNat y0) default).Pages) - pages))⟩ : File)) ++ ([(⟨(IntKind.i64.wrap (((list.getD (Int.toNat (IntKind.i64.wrap ((list.length : Int) - (1 : Int)))) default).Id) + (1 : Int))), (list.getD (Int.toNat y0) default).Series, title, (list.getD (Int.toNat y0) default).Opened, (0 : Int), (0 : Int), pages⟩ : File)] : List File)), (IntKind.i64.wrap (((list.getD (Int.toNat (IntKind.i64.wrap ((list.length : Int) - (1 : Int)))) default).Id) + (1 : Int))), true)))

def M.laws_rFiles_l0 (a : List File) (b_ : List File) : (Int) → Option ((Int) ⊕ ((Unit) ⊕ (Bool))) := fun st_ => match st_ with
| i =>
  bif (decide (i < (a.length : Int))) then (
    asrt ((0 : Int) ≤ i ∧ i < (a.length : Int)) <|
    asrt ((0 : Int) ≤ i ∧ i < (b_.length : Int)) <|
    bif (!((((a.getD (Int.toNat i) default).Id) == ((b_.getD (Int.toNat i) default).Id)) && ((((a.getD (Int.toNat i) default).Series) == ((b_.getD (Int.toNat i) default).Series)) && ((((a.getD (Int.toNat i) default).Title) == ((b_.getD (Int.toNat i) default).Title)) && ((((a.getD (Int.toNat i) default).Opened) == ((b_.getD (Int.toNat i) default).Opened)) && ((((a.getD (Int.toNat i) default).Closed) == ((b_.getD (Int.toNat i) default).Closed)) && ((((a.getD (Int.toNat i) default).State) == ((b_.getD (Int.toNat i) default).State)) && ((((a.getD (Int.toNat i) default).Pages) == ((b_.getD (Int.toNat i) default).Pages)) && true)))))))) then (
      some (.inr (.inr false)))
    else (
      some (.inl (IntKind.i64.wrap (i + (1 : Int))))))
  else (
    some (.inr (.inl ())))

def M.laws_rFiles (a : List File) (b_ : List File) : Option Bool :=
  bif ((a.length : Int) != (b_.length : Int)) then (
    some false)
  else (
    (iterO (M.laws_rFiles_l0 a b_) (0 : Int)).bind fun e => match e with
    | .inl () =>
      (some true)
    | .inr r => some r)

def M.slices_BinarySearchFunc_int_int_int_l0 (x : List (List Int)) (target : Int) (fm : (List Int) → Int → Option Int) : (Int × Int) → Option ((Int × Int) ⊕ (Int)) := fun st_ => match st_ with
| (i0, j_) =>
  bif (decide (i0 < j_)) then (
    (((
      asrt ((0 : Int) ≤ (IntKind.i64.wrap (Int.fdiv (IntKind.u64.wrap (IntKind.i64.wrap (i0 + j_))) (2 ^ (min (Int.toNat (1 : Int)) IntKind.u64.bits)))) ∧ (IntKind.i64.wrap (Int.fdiv (IntKind.u64.wrap (IntKind.i64.wrap (i0 + j_))) (2 ^ (min (Int.toNat (1 : Int)) IntKind.u64.bits)))) < (x.length : Int)) <|
      (fm (x.getD (Int.toNat (IntKind.i64.wrap (Int.fdiv (IntKind.u64.wrap (IntKind.i64.wrap (i0 + j_))) (2 ^ (min (Int.toNat (1 : Int)) IntKind.u64.bits))))) default) target).bind fun y1 =>
      bif (decide (y1 < (0 : Int))) then (
        some ((IntKind.i64.wrap ((IntKind.i64.wrap (Int.fdiv (IntKind.u64.wrap (IntKind.i64.wrap (i0 + j_))) (2 ^ (min (Int.toNat (1 : Int)) IntKind.u64.bits)))) + (1 : Int))), j_))
      else (
        some (i0, (IntKind.i64.wrap (Int.fdiv (IntKind.u64.wrap (IntKind.i64.wrap (i0 + j_))) (2 ^ (min (Int.toNat (1 : Int)) IntKind.u64.bits))))))) : Option (Int × Int))).bind fun e => match e with
    | (i1, j_0) =>
      (some (.inl (i1, j_0))))
  else (
    some (.inr i0))

def M.slices_BinarySearchFunc_int_int_int (x : List (List Int)) (target : Int) (fm : (List Int) → Int → Option Int) : Option (Int × Bool) :=
  (iterO (M.slices_BinarySearchFunc_int_int_int_l0 x target fm) ((0 : Int), (x.length : Int))).bind fun e => match e with
  | i =>
    (asrt ((decide (i < (x.length : Int))) = true → ((0 : Int) ≤ i ∧ i < (x.length : Int))) <|
    ((bif (decide (i < (x.length : Int))) then fm (x.getD (Int.toNat i) default) target else some default)).bind fun y2 =>
    some (i, ((decide (i < (x.length : Int))) && (y2 == (0 : Int)))))

def M.cmp_isNaN_int (x : Int) : Option Bool :=
  some (x != x)

def M.cmp_Compare_int (x : Int) (y : Int) : Option Int :=
  (M.cmp_isNaN_int x).bind fun y0 =>
  (M.cmp_isNaN_int y).bind fun y1 =>
  bif y0 then (
    bif y1 then (
      some (0 : Int))
    else (
      some (-1 : Int)))
  else (
    bif y1 then (
      some (1 : Int))
    else (
      bif (decide (x < y)) then (
        some (-1 : Int))
      else (
        bif (decide (x > y)) then (
          some (1 : Int))
        else (
          some (0 : Int)))))

def M.impl_SeriesPages_1 (row : List Int) (series : Int) : Option Int :=
  asrt ((0 : Int) ≤ (0 : Int) ∧ (0 : Int) < (row.length : Int)) <|
  (M.cmp_Compare_int (row.getD (Int.toNat (0 : Int)) default) series).bind fun y0 =>
  some y0

def M.slices_Insert_int_int (s : List (List Int)) (i : Int) (v : List (List Int)) : Option (List (List Int)) := insM s i v

def M.impl_SeriesPages_l0 (list : List File) : (List (List Int) × Int) → Option ((List (List Int) × Int) ⊕ (List (List Int))) := fun st_ => match st_ with
| (rows0, v) =>
  bif (decide (v < (list.length : Int))) then (
    (((
      asrt ((0 : Int) ≤ v ∧ v < (list.length : Int)) <|
      (M.slices_BinarySearchFunc_int_int_int rows0 ((list.getD (Int.toNat v) default).Series) (fun x0 x1 => M.impl_SeriesPages_1 x0 x1)).bind fun y2 =>
      (((
        bif (!y2.2) then (
          (M.slices_Insert_int_int rows0 y2.1 ([([(list.getD (Int.toNat v) default).Series, (0 : Int), (0 : Int)] : List Int)] : List (List Int))).bind fun y3 =>
          some y3)
        else (
          some rows0)) : Option (List (List Int)))).bind fun e => match e with
      | rows2 =>
        (asrt ((0 : Int) ≤ y2.1 ∧ y2.1 < (rows2.length : Int)) <|
        asrt ((0 : Int) ≤ (1 : Int) ∧ (1 : Int) < ((rows2.getD (Int.toNat y2.1) default).length : Int)) <|
        asrt ((0 : Int) ≤ (1 : Int) ∧ (1 : Int) < ((rows2.getD (Int.toNat y2.1) default).length : Int)) <|
        asrt ((0 : Int) ≤ y2.1 ∧ y2.1 < ((rows2.set (Int.toNat y2.1) ((rows2.getD (Int.toNat y2.1) default).set (Int.toNat (1 : Int)) (IntKind.i64.wrap (((rows2.getD (Int.toNat y2.1) default).getD (Int.toNat (1 : Int)) default) + (1 : Int))))).length : Int)) <|
        asrt ((0 : Int) ≤ (2 : Int) ∧ (2 : Int) < (((rows2.set (Int.toNat y2.1) ((rows2.getD (Int.toNat y2.1) default).set (Int.toNat (1 : Int)) (IntKind.i64.wrap (((rows2.getD (Int.toNat y2.1) default).getD (Int.toNat (1 : Int)) default) + (1 : Int))))).getD (Int.toNat y2.1) default).length : Int)) <|
        asrt ((0 : Int) ≤ y2.1 ∧ y2.1 < ((rows2.set (Int.toNat y2.1) ((rows2.getD (Int.toNat y2.1) default).set (Int.toNat (1 : Int)) (IntKind.i64.wrap (((rows2.getD (Int.toNat y2.1) default).getD (Int.toNat (1 : Int)) default) + (1 : Int))))).length : Int)) <|
        asrt ((0 : Int) ≤ (2 : Int) ∧ (2 : Int) < (((rows2.set (Int.toNat y2.1) ((rows2.getD (Int.toNat y2.1) default).set (Int.toNat (1 : Int)) (IntKind.i64.wrap (((rows2.getD (Int.toNat y2.1) default).getD (Int.toNat (1 : Int)) default) + (1 : Int))))).getD (Int.toNat y2.1) default).length : Int)) <|
        asrt ((0 : Int) ≤ (2 : Int) ∧ (2 : Int) < (((rows2.set (Int.toNat y2.1) ((rows2.getD (Int.toNat y2.1) default).set (Int.toNat (1 : Int)) (IntKind.i64.wrap (((rows2.getD (Int.toNat y2.1) default).getD (Int.toNat (1 : Int)) default) + (1 : Int))))).getD (Int.toNat y2.1) default).length : Int)) <|
        some ((rows2.set (Int.toNat y2.1) ((rows2.getD (Int.toNat y2.1) default).set (Int.toNat (1 : Int)) (IntKind.i64.wrap (((rows2.getD (Int.toNat y2.1) default).getD (Int.toNat (1 : Int)) default) + (1 : Int))))).set (Int.toNat y2.1) (((rows2.set (Int.toNat y2.1) ((rows2.getD (Int.toNat y2.1) default).set (Int.toNat (1 : Int)) (IntKind.i64.wrap (((rows2.getD (Int.toNat y2.1) default).getD (Int.toNat (1 : Int)) default) + (1 : Int))))).getD (Int.toNat y2.1) default).set (Int.toNat (2 : Int)) (IntKind.i64.wrap ((((rows2.set (Int.toNat y2.1) ((rows2.getD (Int.toNat y2.1) default).set (Int.toNat (1 : Int)) (IntKind.i64.wrap (((rows2.getD (Int.toNat y2.1) default).getD (Int.toNat (1 : Int)) default) + (1 : Int))))).getD (Int.toNat y2.1) default).getD (Int.toNat (2 : Int)) default) + ((list.getD (Int.toNat v) default).Pages))))))) : Option (List (List Int)))).bind fun e => match e with
    | rows1 =>
      (some (.inl (rows1, (IntKind.i64.wrap (v + (1 : Int)))))))
  else (
    some (.inr rows0))

def M.impl_SeriesPages (list : List File) : Option (List (List Int) × Bool) :=
  (M.impl_AreFiles list).bind fun y0 =>
  bif (!y0) then (
    some (([] : List (List Int)), false))
  else (
    (iterO (M.impl_SeriesPages_l0 list) (([] : List (List Int)), (0 : Int))).bind fun e => match e with
    | rows =>
      (some (rows, true)))

def M.spec_DrawClosedSince (code : List Int) : Option (List File × Int × Int) :=
  (M.spec_l1Cur_files5 (⟨code, (0 : Int), (0 : Int)⟩ : Cur)).bind fun y0 =>
  (M.spec_l1Cur_among y0.2 ([(0 : Int), (0 : Int), (10 : Int), (11 : Int), (20000 : Int), (-1 : Int)] : List Int)).bind fun y1 =>
  (M.spec_l1Cur_pick y1.2 (24 : Int)).bind fun y2 =>
  asrt ((0 : Int) ≤ (0 : Int) ∧ (0 : Int) ≤ (IntKind.i64.wrap ((5 : Int) + (IntKind.i64.wrap (Int.tdiv y2.1 (23 : Int))))) ∧ (IntKind.i64.wrap ((5 : Int) + (IntKind.i64.wrap (Int.tdiv y2.1 (23 : Int))))) ≤ (([(15 : Int), (20000 : Int), (20000 : Int), (20000 : Int), (410 : Int), (20001 : Int)] : List Int).length : Int)) <|
  (M.spec_l1Cur_among y2.2 (slc ([(15 : Int), (20000 : Int), (20000 : Int), (20000 : Int), (410 : Int), (20001 : Int)] : List Int) (0 : Int) (IntKind.i64.wrap ((5 : Int) + (IntKind.i64.wrap (Int.tdiv y2.1 (23 : Int))))))).bind fun y3 =>
  some (y0.1, y1.1, y3.1)

def M.slices_insertionSortCmpFunc_impl_File_l1 (a : Int) (fm : File → File → Option Int) : (List File × Int) → Option ((List File × Int) ⊕ (List File)) := fun st_ => match st_ with
| (data3, j_) =>
  asrt ((decide (j_ > a)) = true → ((0 : Int) ≤ j_ ∧ j_ < (data3.length : Int))) <|
  asrt ((decide (j_ > a)) = true → ((0 : Int) ≤ (IntKind.i64.wrap (j_ - (1 : Int))) ∧ (IntKind.i64.wrap (j_ - (1 : Int))) < (data3.length : Int))) <|
  ((bif (decide (j_ > a)) then fm (data3.getD (Int.toNat j_) default) (data3.getD (Int.toNat (IntKind.i64.wrap (j_ - (1 : Int)))) default) else some default)).bind fun y2 =>
  bif ((decide (j_ > a)) && (decide (y2 < (0 : Int)))) then (
    asrt ((0 : Int) ≤ (IntKind.i64.wrap (j_ - (1 : Int))) ∧ (IntKind.i64.wrap (j_ - (1 : Int))) < (data3.length : Int)) <|
    asrt ((0 : Int) ≤ j_ ∧ j_ < (data3.length : Int)) <|
    asrt ((0 : Int) ≤ j_ ∧ j_ < (data3.length : Int)) <|
    asrt ((0 : Int) ≤ (IntKind.i64.wrap (j_ - (1 : Int))) ∧ (IntKind.i64.wrap (j_ - (1 : Int))) < ((data3.set (Int.toNat j_) (data3.getD (Int.toNat (IntKind.i64.wrap (j_ - (1 : Int)))) default)).length : Int)) <|
    (((
      some ((data3.set (Int.toNat j_) (data3.getD (Int.toNat (IntKind.i64.wrap (j_ - (1 : Int)))) default)).set (Int.toNat (IntKind.i64.wrap (j_ - (1 : Int)))) (data3.getD (Int.toNat j_) default))) : Option (List File))).bind fun e => match e with
    | data4 =>
      (some (.inl (data4, (IntKind.i64.wrap (j_ - (1 : Int)))))))
  else (
    some (.inr data3))

def M.slices_insertionSortCmpFunc_impl_File_l0 (a : Int) (b_ : Int) (fm : File → File → Option Int) : (List File × Int) → Option ((List File × Int) ⊕ (List File)) := fun st_ => match st_ with
| (data1, i) =>
  bif (decide (i < b_)) then (
    (iterO (M.slices_insertionSortCmpFunc_impl_File_l1 a fm) (data1, i)).bind fun e => match e with
    | data2 =>
      (some (.inl (data2, (IntKind.i64.wrap (i + (1 : Int)))))))
  else (
    some (.inr data1))

def M.slices_insertionSortCmpFunc_impl_File (data : List File) (a : Int) (b_ : Int) (fm : File → File → Option Int) : Option (List File) :=
  (iterO (M.slices_insertionSortCmpFunc_impl_File_l0 a b_ fm) (data, (IntKind.i64.wrap (a + (1 : Int))))).bind fun e => match e with
  | data0 =>
    (some data0)

def M.slices_stableCmpFunc_impl_File_l0 (n : Int) : (Int × Int) → Option ((Int × Int) ⊕ (Int)) := fun st_ => match st_ with
| (a0, b_) =>
  asrt ((decide (b_ ≤ n)) = false) <|
  some (.inr a0)

def M.slices_stableCmpFunc_impl_File_l1 (n : Int) : (Int) → Option ((Int) ⊕ (Unit)) := fun st_ => match st_ with
| blockSize =>
  asrt ((decide (blockSize < n)) = false) <|
  some (.inr ())

def M.slices_stableCmpFunc_impl_File (data : List File) (n : Int) (fm : File → File → Option Int) : Option (List File) :=
  (iterO (M.slices_stableCmpFunc_impl_File_l0 n) ((0 : Int), (20 : Int))).bind fun e => match e with
  | a =>
    ((M.slices_insertionSortCmpFunc_impl_File data a n fm).bind fun y1 =>
    asrt (y1.length = data.length) <|
    (iterO (M.slices_stableCmpFunc_impl_File_l1 n) (20 : Int)).bind fun e => match e with
    | () =>
      (some y1))

def M.slices_SortStableFunc_impl_File_impl_File (x : List File) (fm : File → File → Option Int) : Option (List File) :=
  (M.slices_stableCmpFunc_impl_File x (x.length : Int) fm).bind fun y0 =>
  asrt (y0.length = x.length) <|
  some y0

def M.impl_ClosedSince_1 (a : File) (b_ : File) : Option Int :=
  (M.cmp_Compare_int a.Closed b_.Closed).bind fun y0 =>
  some y0

def M.impl_ClosedSince_l0 (list : List File) (from_ : Int) (to_ : Int) : (List File × Int) → Option ((List File × Int) ⊕ (List File)) := fun st_ => match st_ with
| (closed0, v) =>
  bif (decide (v < (list.length : Int))) then (
    (((
      asrt ((0 : Int) ≤ v ∧ v < (list.length : Int)) <|
      ((bif (((list.getD (Int.toNat v) default).State) != (0 : Int)) then M.impl_within ((list.getD (Int.toNat v) default).Closed) from_ to_ else some default)).bind fun y3 =>
      bif ((((list.getD (Int.toNat v) default).State) != (0 : Int)) && y3) then (
        asrt ((closed0.length : Int) + (([(list.getD (Int.toNat v) default)] : List File).length : Int) ≤ 2147483648) <|
        some (closed0 ++ ([(list.getD (Int.toNat v) default)] : List File)))
      else (
        some closed0)) : Option (List File))).bind fun e => match e with
    | closed1 =>
      (some (.inl (closed1, (IntKind.i64.wrap (v + (1 : Int)))))))
  else (
    some (.inr closed0))

def M.impl_ClosedSince_l1 (y4 : List File) : (List Int × Int) → Option ((List Int × Int) ⊕ (List Int)) := fun st_ => match st_ with
| (ids0, v0) =>
  bif (decide (v0 < (y4.length : Int))) then (
    asrt ((0 : Int) ≤ v0 ∧ v0 < (y4.length : Int)) <|
    asrt ((ids0.length : Int) + (([(y4.getD (Int.toNat v0) default).Id] : List Int).length : Int) ≤ 2147483648) <|
    some (.inl ((ids0 ++ ([(y4.getD (Int.toNat v0) default).Id] : List Int)), (IntKind.i64.wrap (v0 + (1 : Int))))))
  else (
    some (.inr ids0))

def M.impl_ClosedSince (list : List File) (from_ : Int) (to_ : Int) : Option (List Int × Bool) :=
  (M.impl_AreFiles list).bind fun y0 =>
  ((bif (!y0) then some default else M.impl_areDays from_ to_)).bind fun y1 =>
  bif ((!y0) || (!y1)) then (
    some (([] : List Int), false))
  else (
    (iterO (M.impl_ClosedSince_l0 list from_ to_) (([] : List File), (0 : Int))).bind fun e => match e with
    | closed =>
      ((M.slices_SortStableFunc_impl_File_impl_File closed (fun x0 x1 => M.impl_ClosedSince_1 x0 x1)).bind fun y4 =>
      asrt (y4.length = closed.length) <|
      (iterO (M.impl_ClosedSince_l1 y4) (([] : List Int), (0 : Int))).bind fun e => match e with
      | ids =>
        (some (ids, true))))

def M.spec_ClosedSince_l1 (list : List File) (order0 : List File) (i : Int) : (Int) → Option ((Int) ⊕ (Int)) := fun st_ => match st_ with
| k0 =>
  asrt ((decide (k0 > (0 : Int))) = true → ((0 : Int) ≤ (IntKind.i64.wrap (k0 - (1 : Int))) ∧ (IntKind.i64.wrap (k0 - (1 : Int))) < (order0.length : Int))) <|
  asrt ((decide (k0 > (0 : Int))) = true → ((0 : Int) ≤ i ∧ i < (list.length : Int))) <|
  bif ((decide (k0 > (0 : Int))) && (decide (((order0.getD (Int.toNat (IntKind.i64.wrap (k0 - (1 : Int)))) default).Closed) > ((list.getD (Int.toNat i) default).Closed)))) then (
    some (.inl (IntKind.i64.wrap (k0 - (1 : Int)))))
  else (
    some (.inr k0))

def M.spec_ClosedSince_l0 (list : List File) (from_ : Int) (to_ : Int) : (List File × Int) → Option ((List File × Int) ⊕ (List File)) := fun st_ => match st_ with
| (order0, i) =>
  bif (decide (i < (list.length : Int))) then (
    (((
      asrt ((0 : Int) ≤ i ∧ i < (list.length : Int)) <|
      asrt ((((list.getD (Int.toNat i) default).State) == (0 : Int)) = false → ((0 : Int) ≤ i ∧ i < (list.length : Int))) <|
      ((bif (((list.getD (Int.toNat i) default).State) == (0 : Int)) then some default else M.spec_l1In ((list.getD (Int.toNat i) default).Closed) from_ to_)).bind fun y4 =>
      bif ((((list.getD (Int.toNat i) default).State) == (0 : Int)) || (!y4)) then (
        some order0)
      else (
        (iterO (M.spec_ClosedSince_l1 list order0 i) (order0.length : Int)).bind fun e => match e with
        | k =>
          (asrt ((0 : Int) ≤ (0 : Int) ∧ (0 : Int) ≤ k ∧ k ≤ (order0.length : Int)) <|
          asrt ((([] : List File).length : Int) + ((slc order0 (0 : Int) k).length : Int) ≤ 2147483648) <|
          asrt ((0 : Int) ≤ i ∧ i < (list.length : Int)) <|
          asrt (((([] : List File) ++ (slc order0 (0 : Int) k)).length : Int) + (([(list.getD (Int.toNat i) default)] : List File).length : Int) ≤ 2147483648) <|
          asrt ((0 : Int) ≤ k ∧ k ≤ (order0.length : Int) ∧ (order0.length : Int) ≤ (order0.length : Int)) <|
          asrt ((((([] : List File) ++ (slc order0 (0 : Int) k)) ++ ([(list.getD (Int.toNat i) default)] : List File)).length : Int) + ((slc order0 k (order0.length : Int)).length : Int) ≤ 2147483648) <|
          some (((([] : List File) ++ (slc order0 (0 : Int) k)) ++ ([(list.getD (Int.toNat i) default)] : List File)) ++ (slc order0 k (order0.length : Int)))))) : Option (List File))).bind fun e => match e with
    | order1 =>
      (some (.inl (order1, (IntKind.i64.wrap (i + (1 : Int)))))))
  else (
    some (.inr order0))

def M.spec_ClosedSince_l2 (order : List File) : (List Int × Int) → Option ((List Int × Int) ⊕ (List Int)) := fun st_ => match st_ with
| (out_0, i0) =>
  bif (decide (i0 < (order.length : Int))) then (
    asrt ((0 : Int) ≤ i0 ∧ i0 < (order.length : Int)) <|
    asrt ((out_0.length : Int) + (([(order.getD (Int.toNat i0) default).Id] : List Int).length : Int) ≤ 2147483648) <|
    some (.inl ((out_0 ++ ([(order.getD (Int.toNat i0) default).Id] : List Int)), (IntKind.i64.wrap (i0 + (1 : Int))))))
  else (
    some (.inr out_0))

def M.spec_ClosedSince (list : List File) (from_ : Int) (to_ : Int) : Option (List Int × Bool) :=
  (M.spec_l5Good list).bind fun y0 =>
  ((bif (!y0) then some default else M.spec_l2Day to_)).bind fun y1 =>
  ((bif ((!y0) || (!y1)) then some default else M.spec_l1In from_ (0 : Int) to_)).bind fun y2 =>
  bif (((!y0) || (!y1)) || (!y2)) then (
    some (([] : List Int), false))
  else (
    (iterO (M.spec_ClosedSince_l0 list from_ to_) (([] : List File), (0 : Int))).bind fun e => match e with
    | order =>
      ((iterO (M.spec_ClosedSince_l2 order) (([] : List Int), (0 : Int))).bind fun e => match e with
      | out_ =>
        (some (out_, true))))

def M.laws_rInts_l0 (a : List Int) (b_ : List Int) : (Int) → Option ((Int) ⊕ ((Unit) ⊕ (Bool))) := fun st_ => match st_ with
| i =>
  bif (decide (i < (a.length : Int))) then (
    asrt ((0 : Int) ≤ i ∧ i < (a.length : Int)) <|
    asrt ((0 : Int) ≤ i ∧ i < (b_.length : Int)) <|
    bif ((a.getD (Int.toNat i) default) != (b_.getD (Int.toNat i) default)) then (
      some (.inr (.inr false)))
    else (
      some (.inl (IntKind.i64.wrap (i + (1 : Int))))))
  else (
    some (.inr (.inl ())))

def M.laws_rInts (a : List Int) (b_ : List Int) : Option Bool :=
  bif ((a.length : Int) != (b_.length : Int)) then (
    some false)
  else (
    (iterO (M.laws_rInts_l0 a b_) (0 : Int)).bind fun e => match e with
    | .inl () =>
      (some true)
    | .inr r => some r)

def M.spec_DrawAddPages (code : List Int) : Option (List File × Int × Int) :=
  (M.spec_l1Cur_files5 (⟨code, (0 : Int), (0 : Int)⟩ : Cur)).bind fun y0 =>
  (M.spec_l1Cur_fileId y0.2 y0.1 (0 : Int)).bind fun y1 =>
  (M.spec_l1Cur_pick y1.2 (24 : Int)).bind fun y2 =>
  asrt ((0 : Int) ≤ (0 : Int) ∧ (0 : Int) ≤ (IntKind.i64.wrap ((4 : Int) + (IntKind.i64.wrap (Int.tdiv y2.1 (11 : Int))))) ∧ (IntKind.i64.wrap ((4 : Int) + (IntKind.i64.wrap (Int.tdiv y2.1 (11 : Int))))) ≤ (([(1 : Int), (100 : Int), (101 : Int), (500 : Int), (0 : Int), (501 : Int)] : List Int).length : Int)) <|
  (M.spec_l1Cur_among y2.2 (slc ([(1 : Int), (100 : Int), (101 : Int), (500 : Int), (0 : Int), (501 : Int)] : List Int) (0 : Int) (IntKind.i64.wrap ((4 : Int) + (IntKind.i64.wrap (Int.tdiv y2.1 (11 : Int))))))).bind fun y3 =>
  some (y0.1, y1.1, y3.1)

def M.impl_AddPages (list : List File) (id_ : Int) (pages : Int) : Option (List File × Bool) :=
  (M.impl_inState list id_ (0 : Int)).bind fun y0 =>
  ((bif (!y0.2) then some default else M.impl_within pages (1 : Int) (500 : Int))).bind fun y1 =>
  bif ((!y0.2) || (!y1)) then (
    some (([] : List File), false))
  else (
    (M.slices_Clone_impl_File_impl_File list).bind fun y2 =>
    asrt ((0 : Int) ≤ y0.1 ∧ y0.1 < (y2.length : Int)) <|
    asrt ((0 : Int) ≤ y0.1 ∧ y0.1 < (y2.length : Int)) <|
    (M.impl_AreFiles (y2.set (Int.toNat y0.1) (⟨(y2.getD (Int.toNat y0.1) default).Id, (y2.getD (Int.toNat y0.1) default).Series, (y2.getD (Int.toNat y0.1) default).Title, (y2.getD (Int.toNat y0.1) default).Opened, (y2.getD (Int.toNat y0.1) default).Closed, (y2.getD (Int.toNat y0.1) default).State, (IntKind.i64.wrap (((y2.getD (Int.toNat y0.1) default).Pages) + pages))⟩ : File))).bind fun y3 =>
    bif (!y3) then (
      some (([] : List File), false))
    else (
      some ((y2.set (Int.toNat y0.1) (⟨(y2.getD (Int.toNat y0.1) default).Id, (y2.getD (Int.toNat y0.1) default).Series, (y2.getD (Int.toNat y0.1) default).Title, (y2.getD (Int.toNat y0.1) default).Opened, (y2.getD (Int.toNat y0.1) default).Closed, (y2.getD (Int.toNat y0.1) default).State, (IntKind.i64.wrap (((y2.getD (Int.toNat y0.1) default).Pages) + pages))⟩ : File)), true)))

def M.spec_l5With (list : List File) (i : Int) (f : File) : Option (List File × Bool) :=
  asrt ((([] : List File).length : Int) + (list.length : Int) ≤ 2147483648) <|
  asrt ((0 : Int) ≤ i ∧ i < ((([] : List File) ++ list).length : Int)) <|
  (M.spec_l5Good ((([] : List File) ++ list).set (Int.toNat i) f)).bind fun y0 =>
  bif (!y0) then (
    some (([] : List File), false))
  else (
    some (((([] : List File) ++ list).set (Int.toNat i) f), true))

def M.spec_AddPages (list : List File) (id_ : Int) (pages : Int) : Option (List File × Bool) :=
  (M.spec_l5Find list id_ (0 : Int)).bind fun y0 =>
  ((bif (decide (y0 < (0 : Int))) then some default else M.spec_l1In pages (1 : Int) (500 : Int))).bind fun y1 =>
  bif ((decide (y0 < (0 : Int))) || (!y1)) then (
    some (([] : List File), false))
  else (
    asrt ((0 : Int) ≤ y0 ∧ y0 < (list.length : Int)) <|
    (M.spec_l5With list y0 (⟨(list.getD (Int.toNat y0) default).Id, (list.getD (Int.toNat y0) default).Series, (list.getD (Int.toNat y0) default).Title, (list.getD (Int.toNat y0) default).Opened, (list.getD (Int.toNat y0) default).Closed, (list.getD (Int.toNat y0) default).State, (IntKind.i64.wrap (((list.getD (Int.toNat y0) default).Pages) + pages))⟩ : File)).bind fun y2 =>
    some (y2.1, y2.2))

def M.spec_DrawAreFiles (code : List Int) : Option (List File) :=
  (M.spec_l1Cur_files5 (⟨code, (0 : Int), (0 : Int)⟩ : Cur)).bind fun y0 =>
  some y0.1

def M.spec_DrawSeriesPages (code : List Int) : Option (List File) :=
  (M.spec_DrawAreFiles code).bind fun y0 =>
  some y0

def M.spec_SeriesPages_l1 (list : List File) (series : Int) : (Int × Int × Int) → Option ((Int × Int × Int) ⊕ (Int × Int)) := fun st_ => match st_ with
| (n_0, pages0, i) =>
  bif (decide (i < (list.length : Int))) then (
    (((
      asrt ((0 : Int) ≤ i ∧ i < (list.length : Int)) <|
      bif (((list.getD (Int.toNat i) default).Series) == series) then (
        asrt ((0 : Int) ≤ i ∧ i < (list.length : Int)) <|
        some ((IntKind.i64.wrap (n_0 + (1 : Int))), (IntKind.i64.wrap (pages0 + ((list.getD (Int.toNat i) default).Pages)))))
      else (
        some (n_0, pages0))) : Option (Int × Int))).bind fun e => match e with
    | (n_1, pages1) =>
      (some (.inl (n_1, pages1, (IntKind.i64.wrap (i + (1 : Int)))))))
  else (
    some (.inr (n_0, pages0)))

def M.spec_SeriesPages_l0 (list : List File) : (List (List Int) × Int) → Option ((List (List Int) × Int) ⊕ (List (List Int))) := fun st_ => match st_ with
| (out_0, series) =>
  bif (decide (series ≤ (99 : Int))) then (
    (((
      (iterO (M.spec_SeriesPages_l1 list series) ((0 : Int), (0 : Int), (0 : Int))).bind fun e => match e with
      | (n_, pages) =>
        (bif (decide (n_ > (0 : Int))) then (
          asrt ((out_0.length : Int) + (([([series, n_, pages] : List Int)] : List (List Int)).length : Int) ≤ 2147483648) <|
          some (out_0 ++ ([([series, n_, pages] : List Int)] : List (List Int))))
        else (
          some out_0))) : Option (List (List Int)))).bind fun e => match e with
    | out_1 =>
      (some (.inl (out_1, (IntKind.i64.wrap (series + (1 : Int)))))))
  else (
    some (.inr out_0))

def M.spec_SeriesPages (list : List File) : Option (List (List Int) × Bool) :=
  (M.spec_l5Good list).bind fun y0 =>
  bif (!y0) then (
    some (([] : List (List Int)), false))
  else (
    (iterO (M.spec_SeriesPages_l0 list) (([] : List (List Int)), (1 : Int))).bind fun e => match e with
    | out_ =>
      (some (out_, true)))

def M.laws_rTable_l0 (a : List (List Int)) (b_ : List (List Int)) : (Int) → Option ((Int) ⊕ ((Unit) ⊕ (Bool))) := fun st_ => match st_ with
| i =>
  bif (decide (i < (a.length : Int))) then (
    asrt ((0 : Int) ≤ i ∧ i < (a.length : Int)) <|
    asrt ((0 : Int) ≤ i ∧ i < (b_.length : Int)) <|
    (M.laws_rInts (a.getD (Int.toNat i) default) (b_.getD (Int.toNat i) default)).bind fun y1 =>
    bif (!y1) then (
      some (.inr (.inr false)))
    else (
      some (.inl (IntKind.i64.wrap (i + (1 : Int))))))
  else (
    some (.inr (.inl ())))

def M.laws_rTable (a : List (List Int)) (b_ : List (List Int)) : Option Bool :=
  bif ((a.length : Int) != (b_.length : Int)) then (
    some false)
  else (
    (iterO (M.laws_rTable_l0 a b_) (0 : Int)).bind fun e => match e with
    | .inl () =>
      (some true)
    | .inr r => some r)

def M.laws_FnPages_l0 (y5 : List (List Int) × Bool) (y6 : List (List Int) × Bool) : (Int) → Option ((Int) ⊕ ((Unit) ⊕ (Bool))) := fun st_ => match st_ with
| i =>
  bif (decide (i < (y5.1.length : Int))) then (
    asrt ((0 : Int) ≤ i ∧ i < (y5.1.length : Int)) <|
    asrt ((((y5.1.getD (Int.toNat i) default).length : Int) != (3 : Int)) = false → ((0 : Int) ≤ i ∧ i < (y6.1.length : Int))) <|
    asrt (((((y5.1.getD (Int.toNat i) default).length : Int) != (3 : Int)) || (((y6.1.getD (Int.toNat i) default).length : Int) != (3 : Int))) = false → ((0 : Int) ≤ i ∧ i < (y5.1.length : Int))) <|
    asrt (((((y5.1.getD (Int.toNat i) default).length : Int) != (3 : Int)) || (((y6.1.getD (Int.toNat i) default).length : Int) != (3 : Int))) = false → ((0 : Int) ≤ (0 : Int) ∧ (0 : Int) < ((y5.1.getD (Int.toNat i) default).length : Int))) <|
    asrt (((((y5.1.getD (Int.toNat i) default).length : Int) != (3 : Int)) || (((y6.1.getD (Int.toNat i) default).length : Int) != (3 : Int))) = false → ((0 : Int) ≤ i ∧ i < (y6.1.length : Int))) <|
    asrt (((((y5.1.getD (Int.toNat i) default).length : Int) != (3 : Int)) || (((y6.1.getD (Int.toNat i) default).length : Int) != (3 : Int))) = false → ((0 : Int) ≤ (0 : Int) ∧ (0 : Int) < ((y6.1.getD (Int.toNat i) default).length : Int))) <|
    asrt ((((((y5.1.getD (Int.toNat i) default).length : Int) != (3 : Int)) || (((y6.1.getD (Int.toNat i) default).length : Int) != (3 : Int))) || (((y5.1.getD (Int.toNat i) default).getD (Int.toNat (0 : Int)) default) != ((y6.1.getD (Int.toNat i) default).getD (Int.toNat (0 : Int)) default))) = false → ((0 : Int) ≤ i ∧ i < (y5.1.length : Int))) <|
    asrt ((((((y5.1.getD (Int.toNat i) default).length : Int) != (3 : Int)) || (((y6.1.getD (Int.toNat i) default).length : Int) != (3 : Int))) || (((y5.1.getD (Int.toNat i) default).getD (Int.toNat (0 : Int)) default) != ((y6.1.getD (Int.toNat i) default).getD (Int.toNat (0 : Int)) default))) = false → ((0 : Int) ≤ (2 : Int) ∧ (2 : Int) < ((y5.1.getD (Int.toNat i) default).length : Int))) <|
    asrt ((((((y5.1.getD (Int.toNat i) default).length : Int) != (3 : Int)) || (((y6.1.getD (Int.toNat i) default).length : Int) != (3 : Int))) || (((y5.1.getD (Int.toNat i) default).getD (Int.toNat (0 : Int)) default) != ((y6.1.getD (Int.toNat i) default).getD (Int.toNat (0 : Int)) default))) = false → ((0 : Int) ≤ i ∧ i < (y6.1.length : Int))) <|
    asrt ((((((y5.1.getD (Int.toNat i) default).length : Int) != (3 : Int)) || (((y6.1.getD (Int.toNat i) default).length : Int) != (3 : Int))) || (((y5.1.getD (Int.toNat i) default).getD (Int.toNat (0 : Int)) default) != ((y6.1.getD (Int.toNat i) default).getD (Int.toNat (0 : Int)) default))) = false → ((0 : Int) ≤ (2 : Int) ∧ (2 : Int) < ((y6.1.getD (Int.toNat i) default).length : Int))) <|
    bif ((((((y5.1.getD (Int.toNat i) default).length : Int) != (3 : Int)) || (((y6.1.getD (Int.toNat i) default).length : Int) != (3 : Int))) || (((y5.1.getD (Int.toNat i) default).getD (Int.toNat (0 : Int)) default) != ((y6.1.getD (Int.toNat i) default).getD (Int.toNat (0 : Int)) default))) || (((y5.1.getD (Int.toNat i) default).getD (Int.toNat (2 : Int)) default) != ((y6.1.getD (Int.toNat i) default).getD (Int.toNat (2 : Int)) default))) then (
      some (.inr (.inr false)))
    else (
      some (.inl (IntKind.i64.wrap (i + (1 : Int))))))
  else (
    some (.inr (.inl ())))

def M.laws_FnPages (code : List Int) : Option Bool :=
  (M.laws_rBig code).bind fun y0 =>
  bif y0 then (
    some true)
  else (
    (M.spec_DrawSplitFile code).bind fun y1 =>
    (M.impl_SplitFile y1.1 y1.2.1 y1.2.2.1 y1.2.2.2).bind fun y2 =>
    (M.spec_SplitFile y1.1 y1.2.1 y1.2.2.1 y1.2.2.2).bind fun y3 =>
    ((bif ((!(y2.2.2 == y3.2.2)) || (y2.2.1 != y3.2.1)) then some default else M.laws_rFiles y2.1 y3.1)).bind fun y4 =>
    bif (((!(y2.2.2 == y3.2.2)) || (y2.2.1 != y3.2.1)) || (!y4)) then (
      some false)
    else (
      (((
        bif y2.2.2 then (
          (M.impl_SeriesPages y1.1).bind fun y5 =>
          (M.impl_SeriesPages y2.1).bind fun y6 =>
          ((bif (((!y5.2) || (!y6.2)) || ((y5.1.length : Int) != (y6.1.length : Int))) then some default else M.impl_AreFiles y2.1)).bind fun y7 =>
          bif ((((!y5.2) || (!y6.2)) || ((y5.1.length : Int) != (y6.1.length : Int))) || (!y7)) then (
            some (.inr false))
          else (
            (iterO (M.laws_FnPages_l0 y5 y6) (0 : Int)).bind fun e => match e with
            | .inl () =>
              (some (.inl ()))
            | .inr r => some (.inr r)))
        else (
          some (.inl ()))) : Option ((Unit) ⊕ (Bool)))).bind fun e => match e with
      | .inl () =>
        ((M.spec_DrawClosedSince code).bind fun y9 =>
        (M.impl_ClosedSince y9.1 y9.2.1 y9.2.2).bind fun y10 =>
        (M.spec_ClosedSince y9.1 y9.2.1 y9.2.2).bind fun y11 =>
        ((bif (!(y10.2 == y11.2)) then some default else M.laws_rInts y10.1 y11.1)).bind fun y12 =>
        bif ((!(y10.2 == y11.2)) || (!y12)) then (
          some false)
        else (
          (M.impl_ClosedSince y9.1 (0 : Int) y9.2.2).bind fun y13 =>
          bif (y10.2 && ((!y13.2) || (decide ((y13.1.length : Int) < (y10.1.length : Int))))) then (
            some false)
          else (
            (M.spec_DrawAddPages code).bind fun y14 =>
            (M.impl_AddPages y14.1 y14.2.1 y14.2.2).bind fun y15 =>
            (M.spec_AddPages y14.1 y14.2.1 y14.2.2).bind fun y16 =>
            ((bif (!(y15.2 == y16.2)) then some default else M.laws_rFiles y15.1 y16.1)).bind fun y17 =>
            bif ((!(y15.2 == y16.2)) || (!y17)) then (
              some false)
            else (
              (M.spec_DrawSeriesPages code).bind fun y18 =>
              (M.impl_SeriesPages y18).bind fun y19 =>
              (M.spec_SeriesPages y18).bind fun y20 =>
              ((bif (y19.2 == y20.2) then M.laws_rTable y19.1 y20.1 else some default)).bind fun y21 =>
              ((bif ((y19.2 == y20.2) && y21) then M.impl_AreFiles y18 else some default)).bind fun y22 =>
              some (((y19.2 == y20.2) && y21) && (y19.2 == y22))))))
      | .inr r => some r))
end Go.Proofs.YteocnbeefedbkaaDoor
