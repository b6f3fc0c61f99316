/- models of the functions -/
import Derived.Test.YthcmelnpcaijaaaDoorWt
set_option linter.unusedSimpArgs false
set_option linter.unusedVariables false
set_option maxRecDepth 100000
namespace Go.Proofs.YthcmelnpcaijaaaDoor
open Go.VS

structure Cur where
  Code : List Int
  At : Int
  Seed : Int
  deriving Inhabited, DecidableEq

abbrev encCur (ρ : Nat) (c : Cur) : PV := .agg [.vl ρ 1 (List.map encU8 c.Code), .int .i64 c.At, .int .u64 c.Seed]

structure Event where
  Kind : Int
  Day : Int
  deriving Inhabited, DecidableEq

abbrev encEvent (c : Event) : PV := .agg [.int .i64 c.Kind, .int .i64 c.Day]

structure Record where
  Id : Int
  Series : Int
  Made : Int
  Events : List Event
  deriving Inhabited, DecidableEq

abbrev encRecord (ρ : Nat) (c : Record) : PV := .agg [.int .i64 c.Id, .int .i64 c.Series, .int .i64 c.Made, .vl ρ 2 (List.map encEvent c.Events)]

abbrev cellRecord (t_ : PV) (c : Record) : PV := .agg [.int .i64 c.Id, .int .i64 c.Series, .int .i64 c.Made, t_]

theorem cokRecord : CellOK 4 3 2 (fun c_ : Record => List.map encEvent c_.Events) cellRecord where
  good := fun t x h => rfl
  isl := fun t x h => rfl
  set := fun t t' x h h' => rfl
  no := fun τ t x h => by simp [PV.no, PV.noL, h]
  rep := fun w S S' own own' t t' x h => Rep.aggTo ((.cons (fun u hu => by unfold Rep at hu ⊢; exact hu) (.cons (fun u hu => by unfold Rep at hu ⊢; exact hu) (.cons (fun u hu => by unfold Rep at hu ⊢; exact hu) (.cons h .nil)))))

def M.laws_vBig (code : List Int) : Option Bool :=
  some (decide ((code.length : Int) > (65536 : Int)))

def M.spec_l1Cur_next (c : Cur) : Option (Int × Cur) :=
  (((
    bif (decide (c.At < (c.Code.length : Int))) then (
      asrt ((0 : Int) ≤ c.At ∧ c.At < (c.Code.length : Int)) <|
      some (IntKind.i64.wrap (c.Code.getD (Int.toNat c.At) default)))
    else (
      some (0 : Int))) : Option Int)).bind fun e => match e with
  | b_ =>
    (bif (decide ((IntKind.i64.wrap (c.At + (1 : Int))) ≤ (c.Code.length : Int))) then (
      some (b_, (⟨c.Code, (IntKind.i64.wrap (c.At + (1 : Int))), (IntKind.u64.wrap ((IntKind.u64.wrap ((IntKind.u64.wrap (c.Seed * (6364136223846793005 : Int))) + (IntKind.u64.wrap b_))) + (103535 : Int)))⟩ : Cur)))
    else (
      some ((IntKind.i64.wrap (IntKind.u64.wrap (BitVec.ofInt IntKind.u64.bits (Int.fdiv (IntKind.u64.wrap ((IntKind.u64.wrap ((IntKind.u64.wrap (c.Seed * (6364136223846793005 : Int))) + (IntKind.u64.wrap b_))) + (103535 : Int))) (2 ^ (min (Int.toNat (40 : Int)) IntKind.u64.bits))) &&& BitVec.ofInt IntKind.u64.bits (255 : Int)).toNat)), (⟨c.Code, (IntKind.i64.wrap (c.At + (1 : Int))), (IntKind.u64.wrap ((IntKind.u64.wrap ((IntKind.u64.wrap (c.Seed * (6364136223846793005 : Int))) + (IntKind.u64.wrap b_))) + (103535 : Int)))⟩ : Cur))))

def M.spec_l1Cur_pick (c : Cur) (n : Int) : Option (Int × Cur) :=
  bif (decide (n ≤ (1 : Int))) then (
    some ((0 : Int), c))
  else (
    (M.spec_l1Cur_next c).bind fun y0 =>
    (((
      bif (decide (n > (200 : Int))) then (
        (M.spec_l1Cur_next y0.2).bind fun y1 =>
        some ((IntKind.i64.wrap ((IntKind.i64.wrap (y0.1 * (256 : Int))) + y1.1)), y1.2))
      else (
        some (y0.1, y0.2))) : Option (Int × Cur))).bind fun e => match e with
    | (x, c_) =>
      (asrt (n ≠ 0) <|
      some ((Int.tmod x n), c_)))

def M.spec_l1Cur_among (c : Cur) (list : List Int) : Option (Int × Cur) :=
  (M.spec_l1Cur_pick c (list.length : Int)).bind fun y0 =>
  asrt ((0 : Int) ≤ y0.1 ∧ y0.1 < (list.length : Int)) <|
  some ((list.getD (Int.toNat y0.1) default), y0.2)

def M.spec_l1Cur_one (c : Cur) (n : Int) : Option (Bool × Cur) :=
  (M.spec_l1Cur_pick c n).bind fun y0 =>
  some ((y0.1 == (0 : Int)), y0.2)

def M.spec_l1Cur_record_l0 (y1 : Int × Cur) : (Int × List Event × Cur) → Option ((Int × List Event × Cur) ⊕ (List Event × Cur)) := fun st_ => match st_ with
| (k, r_Events0, c_0) =>
  bif (decide (k ≤ (6 : Int))) then (
    (((
      (M.spec_l1Cur_one c_0 (3 : Int)).bind fun y3 =>
      bif y3.1 then (
        (M.spec_l1Cur_among y3.2 ([(0 : Int), (1 : Int), (30 : Int), (365 : Int), (1000 : Int)] : List Int)).bind fun y4 =>
        asrt ((r_Events0.length : Int) + (([(⟨k, (IntKind.i64.wrap (y1.1 + y4.1))⟩ : Event)] : List Event).length : Int) ≤ 2147483648) <|
        (((
          some ((r_Events0 ++ ([(⟨k, (IntKind.i64.wrap (y1.1 + y4.1))⟩ : Event)] : List Event)), y4.2)) : Option (List Event × Cur))).bind fun e => match e with
        | (r_Events2, c_2) =>
          (some (r_Events2, c_2)))
      else (
        some (r_Events0, y3.2))) : Option (List Event × Cur))).bind fun e => match e with
    | (r_Events1, c_1) =>
      (some (.inl ((IntKind.i64.wrap (k + (1 : Int))), r_Events1, c_1))))
  else (
    some (.inr (r_Events0, c_0)))

def M.spec_l1Cur_record (c : Cur) (id_ : Int) : Option (Record × Cur) :=
  (M.spec_l1Cur_among c ([(1 : Int), (2 : Int), (3 : Int), (3 : Int), (7 : Int), (99 : Int)] : List Int)).bind fun y0 =>
  (M.spec_l1Cur_among y0.2 ([(0 : Int), (100 : Int), (100 : Int), (500 : Int), (3000 : Int)] : List Int)).bind fun y1 =>
  (iterO (M.spec_l1Cur_record_l0 y1) ((1 : Int), ([] : List Event), y1.2)).bind fun e => match e with
  | (r_Events, c_) =>
    ((M.spec_l1Cur_pick c_ (48 : Int)).bind fun y5 =>
    (((
      bif (y5.1 == (0 : Int)) then (
        (M.spec_l1Cur_among y5.2 ([(0 : Int), (100 : Int)] : List Int)).bind fun y6 =>
        some (y6.1, y1.1, r_Events, y6.2))
      else (
        bif (y5.1 == (1 : Int)) then (
          (M.spec_l1Cur_among y5.2 ([(-1 : Int), (20001 : Int), (19999 : Int)] : List Int)).bind fun y7 =>
          some (y0.1, y7.1, r_Events, y7.2))
        else (
          bif (y5.1 == (2 : Int)) then (
            (M.spec_l1Cur_among y5.2 ([(1 : Int), (9 : Int), (10 : Int)] : List Int)).bind fun y8 =>
            (M.spec_l1Cur_among y8.2 ([(0 : Int), (20000 : Int)] : List Int)).bind fun y9 =>
            asrt ((r_Events.length : Int) + (([(⟨y8.1, y9.1⟩ : Event)] : List Event).length : Int) ≤ 2147483648) <|
            (((
              some ((r_Events ++ ([(⟨y8.1, y9.1⟩ : Event)] : List Event)), y9.2)) : Option (List Event × Cur))).bind fun e => match e with
            | (r_Events4, o) =>
              (some (y0.1, y1.1, r_Events4, o)))
          else (
            some (y0.1, y1.1, r_Events, y5.2))))) : Option (Int × Int × List Event × Cur))).bind fun e => match e with
    | (r_Series, r_Made, r_Events3, c_3) =>
      (some ((⟨id_, r_Series, r_Made, r_Events3⟩ : Record), c_3)))

def M.spec_DrawIsRecord (code : List Int) : Option Record :=
  (M.spec_l1Cur_among (⟨code, (0 : Int), (0 : Int)⟩ : Cur) ([(1 : Int), (12 : Int), (999 : Int), (0 : Int), (1000 : Int)] : List Int)).bind fun y0 =>
  (M.spec_l1Cur_record y0.2 y0.1).bind fun y1 =>
  some y1.1

def M.spec_DrawRecordText (code : List Int) : Option Record :=
  (M.spec_DrawIsRecord code).bind fun y0 =>
  some y0

def M.impl_within (n : Int) (low : Int) (high : Int) : Option Bool :=
  some ((decide (low ≤ n)) && (decide (n ≤ high)))

def M.impl_isId (id_ : Int) : Option Bool :=
  (M.impl_within id_ (1 : Int) (99 : Int)).bind fun y0 =>
  some y0

def M.impl_isDay (day : Int) : Option Bool :=
  (M.impl_within day (0 : Int) (20000 : Int)).bind fun y0 =>
  some y0

def M.impl_IsEvent (e_ : Event) : Option Bool :=
  (M.impl_within e_.Kind (1 : Int) (9 : Int)).bind fun y0 =>
  ((bif y0 then M.impl_isDay e_.Day else some default)).bind fun y1 =>
  some (y0 && y1)

def M.impl_IsRecord_l0 (r_ : Record) : (Int) → Option ((Int) ⊕ ((Unit) ⊕ (Bool))) := fun st_ => match st_ with
| v =>
  bif (decide (v < (r_.Events.length : Int))) then (
    asrt ((0 : Int) ≤ v ∧ v < (r_.Events.length : Int)) <|
    (M.impl_IsEvent (r_.Events.getD (Int.toNat v) default)).bind fun y4 =>
    asrt (((!y4) || (decide (((r_.Events.getD (Int.toNat v) default).Day) < r_.Made))) = false → (decide (v > (0 : Int))) = true → ((0 : Int) ≤ (IntKind.i64.wrap (v - (1 : Int))) ∧ (IntKind.i64.wrap (v - (1 : Int))) < (r_.Events.length : Int))) <|
    bif (((!y4) || (decide (((r_.Events.getD (Int.toNat v) default).Day) < r_.Made))) || ((decide (v > (0 : Int))) && (decide (((r_.Events.getD (Int.toNat (IntKind.i64.wrap (v - (1 : Int)))) default).Kind) ≥ ((r_.Events.getD (Int.toNat v) default).Kind))))) then (
      some (.inr (.inr false)))
    else (
      some (.inl (IntKind.i64.wrap (v + (1 : Int))))))
  else (
    some (.inr (.inl ())))

def M.impl_IsRecord (r_ : Record) : Option Bool :=
  (M.impl_within r_.Id (1 : Int) (999 : Int)).bind fun y0 =>
  ((bif (!y0) then some default else M.impl_isId r_.Series)).bind fun y1 =>
  ((bif ((!y0) || (!y1)) then some default else M.impl_isDay r_.Made)).bind fun y2 =>
  bif ((((!y0) || (!y1)) || (!y2)) || (decide ((r_.Events.length : Int) > (6 : Int)))) then (
    some false)
  else (
    (iterO (M.impl_IsRecord_l0 r_) (0 : Int)).bind fun e => match e with
    | .inl () =>
      (some true)
    | .inr r => some r)

def M.strconv_Itoa (n : Int) : Option (List UInt8) := asrt (-9223372036854775808 ≤ n ∧ n ≤ 9223372036854775807) <| some (Go.Lib.itoa n)

def M.impl_decimal (n : Int) : Option (List UInt8) :=
  (M.strconv_Itoa n).bind fun y0 =>
  some y0

def M.impl_recordText_l0 (r_ : Record) : (List UInt8 × Int) → Option ((List UInt8 × Int) ⊕ (List UInt8)) := fun st_ => match st_ with
| (text0, v) =>
  bif (decide (v < (r_.Events.length : Int))) then (
    asrt ((0 : Int) ≤ v ∧ v < (r_.Events.length : Int)) <|
    (M.impl_decimal ((r_.Events.getD (Int.toNat v) default).Kind)).bind fun y4 =>
    asrt (([32]).length + y4.length ≤ 9223372036854775807) <|
    asrt ((([32]) ++ y4).length + ([64]).length ≤ 9223372036854775807) <|
    (M.impl_decimal ((r_.Events.getD (Int.toNat v) default).Day)).bind fun y5 =>
    asrt (((([32]) ++ y4) ++ ([64])).length + y5.length ≤ 9223372036854775807) <|
    asrt (text0.length + (((([32]) ++ y4) ++ ([64])) ++ y5).length ≤ 9223372036854775807) <|
    some (.inl ((text0 ++ (((([32]) ++ y4) ++ ([64])) ++ y5)), (IntKind.i64.wrap (v + (1 : Int))))))
  else (
    some (.inr text0))

def M.impl_recordText (r_ : Record) : Option (List UInt8) :=
  (M.impl_decimal r_.Id).bind fun y0 =>
  asrt (y0.length + ([115]).length ≤ 9223372036854775807) <|
  (M.impl_decimal r_.Series).bind fun y1 =>
  asrt ((y0 ++ ([115])).length + y1.length ≤ 9223372036854775807) <|
  asrt (((y0 ++ ([115])) ++ y1).length + ([64]).length ≤ 9223372036854775807) <|
  (M.impl_decimal r_.Made).bind fun y2 =>
  asrt ((((y0 ++ ([115])) ++ y1) ++ ([64])).length + y2.length ≤ 9223372036854775807) <|
  (iterO (M.impl_recordText_l0 r_) (((((y0 ++ ([115])) ++ y1) ++ ([64])) ++ y2), (0 : Int))).bind fun e => match e with
  | text =>
    (some text)

def M.impl_RecordText (r_ : Record) : Option (List UInt8 × Bool) :=
  (M.impl_IsRecord r_).bind fun y0 =>
  bif (!y0) then (
    some ([], false))
  else (
    (M.impl_recordText r_).bind fun y1 =>
    some (y1, true))

def M.strings_Cut (s sep : List UInt8) : Option (List UInt8 × List UInt8 × Bool) := asrt (s.length < 4294967281) <| some (Go.Lib.cut s sep)

def M.strings_Trim (s cutset : List UInt8) : Option (List UInt8) := asrt (s.length ≤ 9223372036854775807 ∧ cutset.length < 4294967281 ∧ cutset.all (fun b => decide (b.toNat < 128)) = true) <| some (Go.Lib.trimS s cutset)

def M.impl_digitsOf_l0 (s : List UInt8) : (Int × Int) → Option ((Int × Int) ⊕ (Int)) := fun st_ => match st_ with
| (n_0, v) =>
  bif (decide (v < (s.length : Int))) then (
    asrt ((0 : Int) ≤ v ∧ v < (s.length : Int)) <|
    some (.inl ((IntKind.i64.wrap ((IntKind.i64.wrap (n_0 * (10 : Int))) + (IntKind.i64.wrap (IntKind.u8.wrap (((s.getD (Int.toNat v) 0).toNat : Int) - (48 : Int)))))), (IntKind.i64.wrap (v + (1 : Int))))))
  else (
    some (.inr n_0))

def M.impl_digitsOf (s : List UInt8) : Option Int :=
  ((bif ((s == ([])) || (decide ((s.length : Int) > (7 : Int)))) then some default else M.strings_Trim s ([48, 49, 50, 51, 52, 53, 54, 55, 56, 57]))).bind fun y0 =>
  bif (((s == ([])) || (decide ((s.length : Int) > (7 : Int)))) || (!(y0 == ([])))) then (
    some (-1 : Int))
  else (
    (iterO (M.impl_digitsOf_l0 s) ((0 : Int), (0 : Int))).bind fun e => match e with
    | n_ =>
      (some n_))

def M.strings_SplitSeq (s sep : List UInt8) : Option (List (List UInt8)) := asrt (sep.length = 1 ∧ s.length ≤ 2147483648) <| some (splitC (sep.getD 0 0) s)

def M.impl_ParseRecord_l0 : (List Event) → (List UInt8) → Option (List Event) := fun st_ y_ => match st_ with
| r_Events0 =>
  (M.strings_Cut y_ ([64])).bind fun y7 =>
  (M.impl_digitsOf y7.1).bind fun y8 =>
  (M.impl_digitsOf y7.2.1).bind fun y9 =>
  asrt ((r_Events0.length : Int) + (([(⟨y8, y9⟩ : Event)] : List Event).length : Int) ≤ 2147483648) <|
  some (r_Events0 ++ ([(⟨y8, y9⟩ : Event)] : List Event))

def M.impl_ParseRecord (s : List UInt8) : Option (Record × Bool) :=
  (M.strings_Cut s ([32])).bind fun y0 =>
  (M.strings_Cut y0.1 ([115])).bind fun y1 =>
  (M.strings_Cut y1.2.1 ([64])).bind fun y2 =>
  (M.impl_digitsOf y1.1).bind fun y3 =>
  (M.impl_digitsOf y2.1).bind fun y4 =>
  (M.impl_digitsOf y2.2.1).bind fun y5 =>
  (((
    bif y0.2.2 then (
      (M.strings_SplitSeq y0.2.1 ([32])).bind fun y6 =>
      (foldO (M.impl_ParseRecord_l0) y6 ([] : List Event)).bind fun e => match e with
      | r_Events0 =>
        (some r_Events0))
    else (
      some ([] : List Event))) : Option (List Event))).bind fun e => match e with
  | r_Events =>
    ((M.impl_IsRecord (⟨y3, y4, y5, r_Events⟩ : Record)).bind fun y10 =>
    ((bif (!y10) then some default else M.impl_recordText (⟨y3, y4, y5, r_Events⟩ : Record))).bind fun y11 =>
    bif ((!y10) || (!(y11 == s))) then (
      some ((⟨(0 : Int), (0 : Int), (0 : Int), ([] : List Event)⟩ : Record), false))
    else (
      some ((⟨y3, y4, y5, r_Events⟩ : Record), true)))

def M.spec_l1In (x : Int) (a : Int) (b_ : Int) : Option Bool :=
  some ((decide (x ≥ a)) && (decide (x ≤ b_)))

def M.spec_l2Day (d : Int) : Option Bool :=
  (M.spec_l1In d (0 : Int) (20000 : Int)).bind fun y0 =>
  some y0

def M.spec_l2Event (e_ : Event) : Option Bool :=
  (M.spec_l1In e_.Kind (1 : Int) (9 : Int)).bind fun y0 =>
  ((bif y0 then M.spec_l2Day e_.Day else some default)).bind fun y1 =>
  some (y0 && y1)

def M.spec_l2Record_l0 (r_ : Record) : (Int) → Option ((Int) ⊕ ((Unit) ⊕ (Bool))) := fun st_ => match st_ with
| i =>
  bif (decide (i < (r_.Events.length : Int))) then (
    asrt ((0 : Int) ≤ i ∧ i < (r_.Events.length : Int)) <|
    (M.spec_l2Event (r_.Events.getD (Int.toNat i) default)).bind fun y1 =>
    asrt (((!y1) || (decide (((r_.Events.getD (Int.toNat i) default).Day) < r_.Made))) = false → (decide (i > (0 : Int))) = true → ((0 : Int) ≤ (IntKind.i64.wrap (i - (1 : Int))) ∧ (IntKind.i64.wrap (i - (1 : Int))) < (r_.Events.length : Int))) <|
    bif (((!y1) || (decide (((r_.Events.getD (Int.toNat i) default).Day) < r_.Made))) || ((decide (i > (0 : Int))) && (decide (((r_.Events.getD (Int.toNat (IntKind.i64.wrap (i - (1 : Int)))) default).Kind) ≥ ((r_.Events.getD (Int.toNat i) default).Kind))))) then (
      some (.inr (.inr false)))
    else (
      some (.inl (IntKind.i64.wrap (i + (1 : Int))))))
  else (
    some (.inr (.inl ())))

def M.spec_l2Record (r_ : Record) : Option Bool :=
  (iterO (M.spec_l2Record_l0 r_) (0 : Int)).bind fun e => match e with
  | .inl () =>
    ((M.spec_l1In r_.Id (1 : Int) (999 : Int)).bind fun y2 =>
    ((bif y2 then M.spec_l1In r_.Series (1 : Int) (99 : Int) else some default)).bind fun y3 =>
    ((bif (y2 && y3) then M.spec_l2Day r_.Made else some default)).bind fun y4 =>
    some (((y2 && y3) && y4) && (decide ((r_.Events.length : Int) ≤ (6 : Int)))))
  | .inr r => some r

def M.spec_l1Num_s (rec_ : Int → Option (List UInt8)) (n : Int) : Option (List UInt8) :=
  bif (decide (n < (0 : Int))) then (
    (rec_ (IntKind.i64.wrap (0 - n))).bind fun y0 =>
    asrt (([45]).length + y0.length ≤ 9223372036854775807) <|
    some (([45]) ++ y0))
  else (
    bif (decide (n < (10 : Int))) then (
      asrt ((0 : Int) ≤ n ∧ n ≤ (IntKind.i64.wrap (n + (1 : Int))) ∧ (IntKind.i64.wrap (n + (1 : Int))) ≤ (([48, 49, 50, 51, 52, 53, 54, 55, 56, 57] : List UInt8).length : Int)) <|
      some (slc ([48, 49, 50, 51, 52, 53, 54, 55, 56, 57] : List UInt8) n (IntKind.i64.wrap (n + (1 : Int)))))
    else (
      (rec_ (IntKind.i64.wrap (Int.tdiv n (10 : Int)))).bind fun y1 =>
      asrt ((0 : Int) ≤ (Int.tmod n (10 : Int)) ∧ (Int.tmod n (10 : Int)) ≤ (IntKind.i64.wrap ((Int.tmod n (10 : Int)) + (1 : Int))) ∧ (IntKind.i64.wrap ((Int.tmod n (10 : Int)) + (1 : Int))) ≤ (([48, 49, 50, 51, 52, 53, 54, 55, 56, 57] : List UInt8).length : Int)) <|
      asrt (y1.length + (slc ([48, 49, 50, 51, 52, 53, 54, 55, 56, 57] : List UInt8) (Int.tmod n (10 : Int)) (IntKind.i64.wrap ((Int.tmod n (10 : Int)) + (1 : Int)))).length ≤ 9223372036854775807) <|
      some (y1 ++ (slc ([48, 49, 50, 51, 52, 53, 54, 55, 56, 57] : List UInt8) (Int.tmod n (10 : Int)) (IntKind.i64.wrap ((Int.tmod n (10 : Int)) + (1 : Int)))))))

def M.spec_l1Num_r : Nat → Int → Option (List UInt8)
  | 0 => fun _ => none
  | k_ + 1 => M.spec_l1Num_s (M.spec_l1Num_r k_)

def M.spec_l1Num (n : Int) : Option (List UInt8) := M.spec_l1Num_r rounds n

def M.spec_l2Text_l0 (r_ : Record) : (List UInt8 × Int) → Option ((List UInt8 × Int) ⊕ (List UInt8)) := fun st_ => match st_ with
| (s0, i) =>
  bif (decide (i < (r_.Events.length : Int))) then (
    asrt (s0.length + ([32]).length ≤ 9223372036854775807) <|
    asrt ((0 : Int) ≤ i ∧ i < (r_.Events.length : Int)) <|
    (M.spec_l1Num ((r_.Events.getD (Int.toNat i) default).Kind)).bind fun y4 =>
    asrt ((s0 ++ ([32])).length + y4.length ≤ 9223372036854775807) <|
    asrt (((s0 ++ ([32])) ++ y4).length + ([64]).length ≤ 9223372036854775807) <|
    asrt ((0 : Int) ≤ i ∧ i < (r_.Events.length : Int)) <|
    (M.spec_l1Num ((r_.Events.getD (Int.toNat i) default).Day)).bind fun y5 =>
    asrt ((((s0 ++ ([32])) ++ y4) ++ ([64])).length + y5.length ≤ 9223372036854775807) <|
    some (.inl (((((s0 ++ ([32])) ++ y4) ++ ([64])) ++ y5), (IntKind.i64.wrap (i + (1 : Int))))))
  else (
    some (.inr s0))

def M.spec_l2Text (r_ : Record) : Option (List UInt8) :=
  (M.spec_l1Num r_.Id).bind fun y0 =>
  asrt (y0.length + ([115]).length ≤ 9223372036854775807) <|
  (M.spec_l1Num r_.Series).bind fun y1 =>
  asrt ((y0 ++ ([115])).length + y1.length ≤ 9223372036854775807) <|
  asrt (((y0 ++ ([115])) ++ y1).length + ([64]).length ≤ 9223372036854775807) <|
  (M.spec_l1Num r_.Made).bind fun y2 =>
  asrt ((((y0 ++ ([115])) ++ y1) ++ ([64])).length + y2.length ≤ 9223372036854775807) <|
  (iterO (M.spec_l2Text_l0 r_) (((((y0 ++ ([115])) ++ y1) ++ ([64])) ++ y2), (0 : Int))).bind fun e => match e with
  | s =>
    (some s)

def M.spec_RecordText (r_ : Record) : Option (List UInt8 × Bool) :=
  (M.spec_l2Record r_).bind fun y0 =>
  bif (!y0) then (
    some ([], false))
  else (
    (M.spec_l2Text r_).bind fun y1 =>
    some (y1, true))

def M.laws_vEvents_l0 (a : List Event) (b_ : List Event) : (Int) → Option ((Int) ⊕ ((Unit) ⊕ (Bool))) := fun st_ => match st_ with
| i =>
  bif (decide (i < (a.length : Int))) then (
    asrt ((0 : Int) ≤ i ∧ i < (a.length : Int)) <|
    asrt ((0 : Int) ≤ i ∧ i < (b_.length : Int)) <|
    bif (!((((a.getD (Int.toNat i) default).Kind) == ((b_.getD (Int.toNat i) default).Kind)) && ((((a.getD (Int.toNat i) default).Day) == ((b_.getD (Int.toNat i) default).Day)) && true))) then (
      some (.inr (.inr false)))
    else (
      some (.inl (IntKind.i64.wrap (i + (1 : Int))))))
  else (
    some (.inr (.inl ())))

def M.laws_vEvents (a : List Event) (b_ : List Event) : Option Bool :=
  bif ((a.length : Int) != (b_.length : Int)) then (
    some false)
  else (
    (iterO (M.laws_vEvents_l0 a b_) (0 : Int)).bind fun e => match e with
    | .inl () =>
      (some true)
    | .inr r => some r)

def M.laws_vRecord (a : Record) (b_ : Record) : Option Bool :=
  ((bif (((a.Id == b_.Id) && (a.Series == b_.Series)) && (a.Made == b_.Made)) then M.laws_vEvents a.Events b_.Events else some default)).bind fun y0 =>
  some ((((a.Id == b_.Id) && (a.Series == b_.Series)) && (a.Made == b_.Made)) && y0)

def M.spec_l1Cur_spoilt (c : Cur) (t : List UInt8) (with_ : List UInt8) : Option (List UInt8 × Cur) :=
  bif (t == ([])) then (
    asrt ((0 : Int) ≤ (0 : Int) ∧ (0 : Int) ≤ (1 : Int) ∧ (1 : Int) ≤ (with_.length : Int)) <|
    some ((slc with_ (0 : Int) (1 : Int)), c))
  else (
    (M.spec_l1Cur_pick c (t.length : Int)).bind fun y0 =>
    (M.spec_l1Cur_pick y0.2 (with_.length : Int)).bind fun y1 =>
    asrt ((0 : Int) ≤ y1.1 ∧ y1.1 ≤ (with_.length : Int) ∧ (with_.length : Int) ≤ (with_.length : Int)) <|
    asrt ((0 : Int) ≤ (0 : Int) ∧ (0 : Int) ≤ (1 : Int) ∧ (1 : Int) ≤ ((slc with_ y1.1 (with_.length : Int)).length : Int)) <|
    (M.spec_l1Cur_pick y1.2 (3 : Int)).bind fun y2 =>
    bif (y2.1 == (0 : Int)) then (
      asrt ((0 : Int) ≤ (0 : Int) ∧ (0 : Int) ≤ y0.1 ∧ y0.1 ≤ (t.length : Int)) <|
      asrt ((slc t (0 : Int) y0.1).length + (slc (slc with_ y1.1 (with_.length : Int)) (0 : Int) (1 : Int)).length ≤ 9223372036854775807) <|
      asrt ((0 : Int) ≤ y0.1 ∧ y0.1 ≤ (t.length : Int) ∧ (t.length : Int) ≤ (t.length : Int)) <|
      asrt (((slc t (0 : Int) y0.1) ++ (slc (slc with_ y1.1 (with_.length : Int)) (0 : Int) (1 : Int))).length + (slc t y0.1 (t.length : Int)).length ≤ 9223372036854775807) <|
      some ((((slc t (0 : Int) y0.1) ++ (slc (slc with_ y1.1 (with_.length : Int)) (0 : Int) (1 : Int))) ++ (slc t y0.1 (t.length : Int))), y2.2))
    else (
      bif (y2.1 == (1 : Int)) then (
        asrt ((0 : Int) ≤ (0 : Int) ∧ (0 : Int) ≤ y0.1 ∧ y0.1 ≤ (t.length : Int)) <|
        asrt ((slc t (0 : Int) y0.1).length + (slc (slc with_ y1.1 (with_.length : Int)) (0 : Int) (1 : Int)).length ≤ 9223372036854775807) <|
        asrt ((0 : Int) ≤ (IntKind.i64.wrap (y0.1 + (1 : Int))) ∧ (IntKind.i64.wrap (y0.1 + (1 : Int))) ≤ (t.length : Int) ∧ (t.length : Int) ≤ (t.length : Int)) <|
        asrt (((slc t (0 : Int) y0.1) ++ (slc (slc with_ y1.1 (with_.length : Int)) (0 : Int) (1 : Int))).length + (slc t (IntKind.i64.wrap (y0.1 + (1 : Int))) (t.length : Int)).length ≤ 9223372036854775807) <|
        some ((((slc t (0 : Int) y0.1) ++ (slc (slc with_ y1.1 (with_.length : Int)) (0 : Int) (1 : Int))) ++ (slc t (IntKind.i64.wrap (y0.1 + (1 : Int))) (t.length : Int))), y2.2))
      else (
        asrt ((0 : Int) ≤ (0 : Int) ∧ (0 : Int) ≤ y0.1 ∧ y0.1 ≤ (t.length : Int)) <|
        asrt ((0 : Int) ≤ (IntKind.i64.wrap (y0.1 + (1 : Int))) ∧ (IntKind.i64.wrap (y0.1 + (1 : Int))) ≤ (t.length : Int) ∧ (t.length : Int) ≤ (t.length : Int)) <|
        asrt ((slc t (0 : Int) y0.1).length + (slc t (IntKind.i64.wrap (y0.1 + (1 : Int))) (t.length : Int)).length ≤ 9223372036854775807) <|
        some (((slc t (0 : Int) y0.1) ++ (slc t (IntKind.i64.wrap (y0.1 + (1 : Int))) (t.length : Int))), y2.2))))

def M.spec_DrawParseRecord (code : List Int) : Option (List UInt8) :=
  (((
    (M.spec_l1Cur_among (⟨code, (0 : Int), (0 : Int)⟩ : Cur) ([(1 : Int), (12 : Int), (999 : Int)] : List Int)).bind fun y0 =>
    (M.spec_l1Cur_record y0.2 y0.1).bind fun y1 =>
    (M.spec_l2Record y1.1).bind fun y2 =>
    bif y2 then (
      (M.spec_l2Text y1.1).bind fun y3 =>
      some (y3, y1.2))
    else (
      some ([49, 50, 115, 51, 64, 49, 48, 48, 32, 49, 64, 49, 52, 48, 32, 52, 64, 50, 48, 48], y1.2))) : Option (List UInt8 × Cur))).bind fun e => match e with
  | (s, c_) =>
    ((M.spec_l1Cur_one c_ (4 : Int)).bind fun y4 =>
    bif y4.1 then (
      (M.spec_l1Cur_spoilt y4.2 s ([115, 64, 32, 48, 49, 57])).bind fun y5 =>
      some y5.1)
    else (
      some s))

def M.spec_l1Split_l0 (s : List UInt8) (b_ : Int) : (List (List UInt8) × Int × Int) → Option ((List (List UInt8) × Int × Int) ⊕ (List (List UInt8) × Int)) := fun st_ => match st_ with
| (out_0, from_0, i) =>
  bif (decide (i < (s.length : Int))) then (
    (((
      asrt ((0 : Int) ≤ i ∧ i < (s.length : Int)) <|
      bif (((s.getD (Int.toNat i) 0).toNat : Int) == b_) then (
        asrt ((0 : Int) ≤ from_0 ∧ from_0 ≤ i ∧ i ≤ (s.length : Int)) <|
        asrt ((out_0.length : Int) + (([(slc s from_0 i)] : List (List UInt8)).length : Int) ≤ 2147483648) <|
        some ((out_0 ++ ([(slc s from_0 i)] : List (List UInt8))), (IntKind.i64.wrap (i + (1 : Int)))))
      else (
        some (out_0, from_0))) : Option (List (List UInt8) × Int))).bind fun e => match e with
    | (out_1, from_1) =>
      (some (.inl (out_1, from_1, (IntKind.i64.wrap (i + (1 : Int)))))))
  else (
    some (.inr (out_0, from_0)))

def M.spec_l1Split (s : List UInt8) (b_ : Int) : Option (List (List UInt8)) :=
  (iterO (M.spec_l1Split_l0 s b_) (([] : List (List UInt8)), (0 : Int), (0 : Int))).bind fun e => match e with
  | (out_, from_) =>
    (asrt ((0 : Int) ≤ from_ ∧ from_ ≤ (s.length : Int) ∧ (s.length : Int) ≤ (s.length : Int)) <|
    asrt ((out_.length : Int) + (([(slc s from_ (s.length : Int))] : List (List UInt8)).length : Int) ≤ 2147483648) <|
    some (out_ ++ ([(slc s from_ (s.length : Int))] : List (List UInt8))))

def M.spec_l1Read_l0 (t_ : List UInt8) : (Int × Int) → Option ((Int × Int) ⊕ ((Int) ⊕ (Int × Bool))) := fun st_ => match st_ with
| (n_0, i) =>
  bif (decide (i < (t_.length : Int))) then (
    asrt ((0 : Int) ≤ i ∧ i < (t_.length : Int)) <|
    asrt ((decide (((t_.getD (Int.toNat i) 0).toNat : Int) < (48 : Int))) = false → ((0 : Int) ≤ i ∧ i < (t_.length : Int))) <|
    bif ((decide (((t_.getD (Int.toNat i) 0).toNat : Int) < (48 : Int))) || (decide (((t_.getD (Int.toNat i) 0).toNat : Int) > (57 : Int)))) then (
      some (.inr (.inr ((0 : Int), false))))
    else (
      asrt ((0 : Int) ≤ i ∧ i < (t_.length : Int)) <|
      some (.inl ((IntKind.i64.wrap ((IntKind.i64.wrap ((10 : Int) * n_0)) + (IntKind.i64.wrap (IntKind.u8.wrap (((t_.getD (Int.toNat i) 0).toNat : Int) - (48 : Int)))))), (IntKind.i64.wrap (i + (1 : Int)))))))
  else (
    some (.inr (.inl n_0)))

def M.spec_l1Read (s : List UInt8) : Option (Int × Bool) :=
  (((
    asrt ((decide ((s.length : Int) > (1 : Int))) = true → ((0 : Int) ≤ (0 : Int) ∧ (0 : Int) < (s.length : Int))) <|
    bif ((decide ((s.length : Int) > (1 : Int))) && (((s.getD (Int.toNat (0 : Int)) 0).toNat : Int) == (45 : Int))) then (
      asrt ((0 : Int) ≤ (1 : Int) ∧ (1 : Int) ≤ (s.length : Int) ∧ (s.length : Int) ≤ (s.length : Int)) <|
      some (slc s (1 : Int) (s.length : Int)))
    else (
      some s)) : Option (List UInt8))).bind fun e => match e with
  | t_ =>
    ((M.spec_l1In (t_.length : Int) (1 : Int) (6 : Int)).bind fun y0 =>
    bif (!y0) then (
      some ((0 : Int), false))
    else (
      (iterO (M.spec_l1Read_l0 t_) ((0 : Int), (0 : Int))).bind fun e => match e with
      | .inl n_ =>
        ((((
          bif (decide ((t_.length : Int) < (s.length : Int))) then (
            some (IntKind.i64.wrap (0 - n_)))
          else (
            some n_)) : Option Int)).bind fun e => match e with
        | n_1 =>
          ((M.spec_l1Num n_1).bind fun y2 =>
          bif (!(y2 == s)) then (
            some ((0 : Int), false))
          else (
            some (n_1, true))))
      | .inr r => some r))

def M.spec_ParseRecord_l0 (y0 : List (List UInt8)) : (Int × List Event) → Option ((Int × List Event) ⊕ ((List Event) ⊕ (Record × Bool))) := fun st_ => match st_ with
| (i, out_Events0) =>
  bif (decide (i < (y0.length : Int))) then (
    asrt ((0 : Int) ≤ i ∧ i < (y0.length : Int)) <|
    (M.spec_l1Split (y0.getD (Int.toNat i) default) (64 : Int)).bind fun y7 =>
    bif ((y7.length : Int) != (2 : Int)) then (
      some (.inr (.inr ((⟨(0 : Int), (0 : Int), (0 : Int), ([] : List Event)⟩ : Record), false))))
    else (
      asrt ((0 : Int) ≤ (0 : Int) ∧ (0 : Int) < (y7.length : Int)) <|
      (M.spec_l1Read (y7.getD (Int.toNat (0 : Int)) default)).bind fun y8 =>
      asrt ((0 : Int) ≤ (1 : Int) ∧ (1 : Int) < (y7.length : Int)) <|
      (M.spec_l1Read (y7.getD (Int.toNat (1 : Int)) default)).bind fun y9 =>
      asrt ((out_Events0.length : Int) + (([(⟨y8.1, y9.1⟩ : Event)] : List Event).length : Int) ≤ 2147483648) <|
      some (.inl ((IntKind.i64.wrap (i + (1 : Int))), (out_Events0 ++ ([(⟨y8.1, y9.1⟩ : Event)] : List Event))))))
  else (
    some (.inr (.inl out_Events0)))

def M.spec_ParseRecord (s : List UInt8) : Option (Record × Bool) :=
  bif (decide ((s.length : Int) > (80 : Int))) then (
    some ((⟨(0 : Int), (0 : Int), (0 : Int), ([] : List Event)⟩ : Record), false))
  else (
    (M.spec_l1Split s (32 : Int)).bind fun y0 =>
    asrt ((0 : Int) ≤ (0 : Int) ∧ (0 : Int) < (y0.length : Int)) <|
    (M.spec_l1Split (y0.getD (Int.toNat (0 : Int)) default) (64 : Int)).bind fun y1 =>
    asrt ((0 : Int) ≤ (0 : Int) ∧ (0 : Int) < (y1.length : Int)) <|
    (M.spec_l1Split (y1.getD (Int.toNat (0 : Int)) default) (115 : Int)).bind fun y2 =>
    bif (((y1.length : Int) != (2 : Int)) || ((y2.length : Int) != (2 : Int))) then (
      some ((⟨(0 : Int), (0 : Int), (0 : Int), ([] : List Event)⟩ : Record), false))
    else (
      asrt ((0 : Int) ≤ (0 : Int) ∧ (0 : Int) < (y2.length : Int)) <|
      (M.spec_l1Read (y2.getD (Int.toNat (0 : Int)) default)).bind fun y3 =>
      asrt ((0 : Int) ≤ (1 : Int) ∧ (1 : Int) < (y2.length : Int)) <|
      (M.spec_l1Read (y2.getD (Int.toNat (1 : Int)) default)).bind fun y4 =>
      asrt ((0 : Int) ≤ (1 : Int) ∧ (1 : Int) < (y1.length : Int)) <|
      (M.spec_l1Read (y1.getD (Int.toNat (1 : Int)) default)).bind fun y5 =>
      (iterO (M.spec_ParseRecord_l0 y0) ((1 : Int), ([] : List Event))).bind fun e => match e with
      | .inl out_Events =>
        ((M.spec_l2Record (⟨y3.1, y4.1, y5.1, out_Events⟩ : Record)).bind fun y10 =>
        ((bif (!y10) then some default else M.spec_l2Text (⟨y3.1, y4.1, y5.1, out_Events⟩ : Record))).bind fun y11 =>
        bif ((!y10) || (!(y11 == s))) then (
          some ((⟨(0 : Int), (0 : Int), (0 : Int), ([] : List Event)⟩ : Record), false))
        else (
          some ((⟨y3.1, y4.1, y5.1, out_Events⟩ : Record), true)))
      | .inr r => some r))

def M.spec_DrawLastDay (code : List Int) : Option Record :=
  (M.spec_DrawIsRecord code).bind fun y0 =>
  some y0

def M.impl_LastDay_l0 (r_ : Record) : (Int × Int) → Option ((Int × Int) ⊕ (Int)) := fun st_ => match st_ with
| (last0, v) =>
  bif (decide (v < (r_.Events.length : Int))) then (
    asrt ((0 : Int) ≤ v ∧ v < (r_.Events.length : Int)) <|
    some (.inl ((bif decide (last0 < ((r_.Events.getD (Int.toNat v) default).Day)) then ((r_.Events.getD (Int.toNat v) default).Day) else last0), (IntKind.i64.wrap (v + (1 : Int))))))
  else (
    some (.inr last0))

def M.impl_LastDay (r_ : Record) : Option (Int × Bool) :=
  (M.impl_IsRecord r_).bind fun y0 =>
  bif (!y0) then (
    some ((0 : Int), false))
  else (
    (iterO (M.impl_LastDay_l0 r_) (r_.Made, (0 : Int))).bind fun e => match e with
    | last =>
      (some (last, true)))

def M.spec_l1Most (a : Int) (b_ : Int) : Option Int :=
  bif (decide (a > b_)) then (
    some a)
  else (
    some b_)

def M.spec_LastDay_l0 (r_ : Record) : (Int × Int) → Option ((Int × Int) ⊕ (Int)) := fun st_ => match st_ with
| (most0, i) =>
  bif (decide (i < (r_.Events.length : Int))) then (
    asrt ((0 : Int) ≤ i ∧ i < (r_.Events.length : Int)) <|
    (M.spec_l1Most most0 ((r_.Events.getD (Int.toNat i) default).Day)).bind fun y2 =>
    some (.inl (y2, (IntKind.i64.wrap (i + (1 : Int))))))
  else (
    some (.inr most0))

def M.spec_LastDay (r_ : Record) : Option (Int × Bool) :=
  (M.spec_l2Record r_).bind fun y0 =>
  bif (!y0) then (
    some ((0 : Int), false))
  else (
    (iterO (M.spec_LastDay_l0 r_) (r_.Made, (0 : Int))).bind fun e => match e with
    | most =>
      (some (most, true)))

def M.impl_eventAt_1 (e_ : Event) (kind : Int) : Option Bool :=
  some (e_.Kind == kind)

def M.slices_IndexFunc_impl_Event_impl_Event_l0 (s : List Event) (fm : Event → Option Bool) : (Int) → Option ((Int) ⊕ ((Unit) ⊕ (Int))) := fun st_ => match st_ with
| v =>
  bif (decide (v < (s.length : Int))) then (
    asrt ((0 : Int) ≤ v ∧ v < (s.length : Int)) <|
    (fm (s.getD (Int.toNat v) default)).bind fun y1 =>
    bif y1 then (
      some (.inr (.inr v)))
    else (
      some (.inl (IntKind.i64.wrap (v + (1 : Int))))))
  else (
    some (.inr (.inl ())))

def M.slices_IndexFunc_impl_Event_impl_Event (s : List Event) (fm : Event → Option Bool) : Option Int :=
  (iterO (M.slices_IndexFunc_impl_Event_impl_Event_l0 s fm) (0 : Int)).bind fun e => match e with
  | .inl () =>
    (some (-1 : Int))
  | .inr r => some r

def M.impl_eventAt (r_ : Record) (kind : Int) : Option Int :=
  (M.slices_IndexFunc_impl_Event_impl_Event r_.Events (fun x0 => M.impl_eventAt_1 x0 kind)).bind fun y0 =>
  some y0

def M.impl_dayOf (r_ : Record) (kind : Int) : Option (Int × Bool) :=
  bif (kind == (0 : Int)) then (
    some (r_.Made, true))
  else (
    (M.impl_eventAt r_ kind).bind fun y0 =>
    bif (decide (y0 < (0 : Int))) then (
      some ((0 : Int), false))
    else (
      asrt ((0 : Int) ≤ y0 ∧ y0 < (r_.Events.length : Int)) <|
      some ((r_.Events.getD (Int.toNat y0) default).Day, true)))

def M.impl_DayOf (r_ : Record) (kind : Int) : Option (Int × Bool) :=
  (M.impl_IsRecord r_).bind fun y0 =>
  bif (!y0) then (
    some ((0 : Int), false))
  else (
    (M.impl_dayOf r_ kind).bind fun y1 =>
    some (y1.1, y1.2))

def M.spec_l1Cur_held_l0 : (List Record × Int × Cur) → Option ((List Record × Int × Cur) ⊕ (List Record × Cur)) := fun st_ => match st_ with
| (list0, n_, c_0) =>
  bif (decide (n_ < (8 : Int))) then (
    (((
      (M.spec_l1Cur_one c_0 (2 : Int)).bind fun y1 =>
      bif y1.1 then (
        (M.spec_l1Cur_record y1.2 (IntKind.i64.wrap ((11 : Int) * n_))).bind fun y2 =>
        asrt ((list0.length : Int) + (([y2.1] : List Record).length : Int) ≤ 2147483648) <|
        some ((list0 ++ ([y2.1] : List Record)), y2.2))
      else (
        some (list0, y1.2))) : Option (List Record × Cur))).bind fun e => match e with
    | (list1, c_1) =>
      (some (.inl (list1, (IntKind.i64.wrap (n_ + (1 : Int))), c_1))))
  else (
    some (.inr (list0, c_0)))

def M.spec_l1Cur_held_l1 : (List Record × Cur) → Option ((List Record × Cur) ⊕ (List Record × Cur)) := fun st_ => match st_ with
| (list4, c_4) =>
  (M.spec_l1Cur_pick c_4 (2 : Int)).bind fun y7 =>
  bif (decide ((list4.length : Int) < (IntKind.i64.wrap ((10 : Int) + y7.1)))) then (
    asrt ((list4.length : Int) + (([(⟨(IntKind.i64.wrap ((200 : Int) + (list4.length : Int))), (1 : Int), (0 : Int), ([] : List Event)⟩ : Record)] : List Record).length : Int) ≤ 2147483648) <|
    some (.inl ((list4 ++ ([(⟨(IntKind.i64.wrap ((200 : Int) + (list4.length : Int))), (1 : Int), (0 : Int), ([] : List Event)⟩ : Record)] : List Record)), y7.2)))
  else (
    some (.inr (list4, y7.2)))

def M.spec_l1Cur_held (c : Cur) : Option (List Record × Cur) :=
  (iterO (M.spec_l1Cur_held_l0) (([] : List Record), (1 : Int), c)).bind fun e => match e with
  | (list, c_) =>
    ((M.spec_l1Cur_pick c_ (32 : Int)).bind fun y3 =>
    (((
      bif (y3.1 == (0 : Int)) then (
        (M.spec_l1Cur_among y3.2 ([(0 : Int), (11 : Int), (999 : Int), (1000 : Int)] : List Int)).bind fun y4 =>
        (M.spec_l1Cur_record y4.2 y4.1).bind fun y5 =>
        asrt ((list.length : Int) + (([y5.1] : List Record).length : Int) ≤ 2147483648) <|
        some ((list ++ ([y5.1] : List Record)), y5.2))
      else (
        bif (y3.1 == (1 : Int)) then (
          (iterO (M.spec_l1Cur_held_l1) (list, y3.2)).bind fun e => match e with
          | (list3, c_3) =>
            (some (list3, c_3)))
        else (
          some (list, y3.2)))) : Option (List Record × Cur))).bind fun e => match e with
    | (list2, c_2) =>
      (some (list2, c_2)))

def M.spec_DrawInSeries (code : List Int) : Option (List Record × Int) :=
  (M.spec_l1Cur_held (⟨code, (0 : Int), (0 : Int)⟩ : Cur)).bind fun y0 =>
  (M.spec_l1Cur_among y0.2 ([(1 : Int), (2 : Int), (3 : Int), (3 : Int), (7 : Int), (99 : Int), (0 : Int), (100 : Int)] : List Int)).bind fun y1 =>
  some (y0.1, y1.1)

def M.impl_AreRecords_l0 (list : List Record) : (Int) → Option ((Int) ⊕ ((Unit) ⊕ (Bool))) := fun st_ => match st_ with
| v =>
  bif (decide (v < (list.length : Int))) then (
    asrt ((0 : Int) ≤ v ∧ v < (list.length : Int)) <|
    (M.impl_IsRecord (list.getD (Int.toNat v) default)).bind fun y1 =>
    asrt ((!y1) = false → (decide (v > (0 : Int))) = true → ((0 : Int) ≤ (IntKind.i64.wrap (v - (1 : Int))) ∧ (IntKind.i64.wrap (v - (1 : Int))) < (list.length : Int))) <|
    bif ((!y1) || ((decide (v > (0 : Int))) && (decide (((list.getD (Int.toNat (IntKind.i64.wrap (v - (1 : Int)))) default).Id) ≥ ((list.getD (Int.toNat v) default).Id))))) then (
      some (.inr (.inr false)))
    else (
      some (.inl (IntKind.i64.wrap (v + (1 : Int))))))
  else (
    some (.inr (.inl ())))

def M.impl_AreRecords (list : List Record) : Option Bool :=
  (iterO (M.impl_AreRecords_l0 list) (0 : Int)).bind fun e => match e with
  | .inl () =>
    (some (decide ((list.length : Int) ≤ (10 : Int))))
  | .inr r => some r

def M.impl_InSeries_l0 (list : List Record) (series : Int) : (List Int × Int) → Option ((List Int × Int) ⊕ (List Int)) := fun st_ => match st_ with
| (ids0, v) =>
  bif (decide (v < (list.length : Int))) then (
    (((
      asrt ((0 : Int) ≤ v ∧ v < (list.length : Int)) <|
      bif (((list.getD (Int.toNat v) default).Series) == series) then (
        asrt ((ids0.length : Int) + (([(list.getD (Int.toNat v) default).Id] : List Int).length : Int) ≤ 2147483648) <|
        some (ids0 ++ ([(list.getD (Int.toNat v) default).Id] : List Int)))
      else (
        some ids0)) : Option (List Int))).bind fun e => match e with
    | ids1 =>
      (some (.inl (ids1, (IntKind.i64.wrap (v + (1 : Int)))))))
  else (
    some (.inr ids0))

def M.impl_InSeries (list : List Record) (series : Int) : Option (List Int × Bool) :=
  (M.impl_AreRecords list).bind fun y0 =>
  ((bif (!y0) then some default else M.impl_isId series)).bind fun y1 =>
  bif ((!y0) || (!y1)) then (
    some (([] : List Int), false))
  else (
    (iterO (M.impl_InSeries_l0 list series) (([] : List Int), (0 : Int))).bind fun e => match e with
    | ids =>
      (some (ids, true)))

def M.spec_l2Records_l0 (list : List Record) : (Int) → Option ((Int) ⊕ ((Unit) ⊕ (Bool))) := fun st_ => match st_ with
| i =>
  bif (decide (i < (list.length : Int))) then (
    asrt ((0 : Int) ≤ i ∧ i < (list.length : Int)) <|
    (M.spec_l2Record (list.getD (Int.toNat i) default)).bind fun y1 =>
    asrt ((!y1) = false → (decide (i > (0 : Int))) = true → ((0 : Int) ≤ (IntKind.i64.wrap (i - (1 : Int))) ∧ (IntKind.i64.wrap (i - (1 : Int))) < (list.length : Int))) <|
    asrt ((!y1) = false → (decide (i > (0 : Int))) = true → ((0 : Int) ≤ i ∧ i < (list.length : Int))) <|
    bif ((!y1) || ((decide (i > (0 : Int))) && (decide (((list.getD (Int.toNat (IntKind.i64.wrap (i - (1 : Int)))) default).Id) ≥ ((list.getD (Int.toNat i) default).Id))))) then (
      some (.inr (.inr false)))
    else (
      some (.inl (IntKind.i64.wrap (i + (1 : Int))))))
  else (
    some (.inr (.inl ())))

def M.spec_l2Records (list : List Record) : Option Bool :=
  (iterO (M.spec_l2Records_l0 list) (0 : Int)).bind fun e => match e with
  | .inl () =>
    (some (decide ((list.length : Int) ≤ (10 : Int))))
  | .inr r => some r

def M.spec_InSeries_l0 (list : List Record) (series : Int) : (List Int × Int) → Option ((List Int × Int) ⊕ (List Int)) := fun st_ => match st_ with
| (out_0, i) =>
  bif (decide (i < (list.length : Int))) then (
    (((
      asrt ((0 : Int) ≤ i ∧ i < (list.length : Int)) <|
      bif (((list.getD (Int.toNat i) default).Series) == series) then (
        asrt ((0 : Int) ≤ i ∧ i < (list.length : Int)) <|
        asrt ((out_0.length : Int) + (([(list.getD (Int.toNat i) default).Id] : List Int).length : Int) ≤ 2147483648) <|
        some (out_0 ++ ([(list.getD (Int.toNat i) default).Id] : List Int)))
      else (
        some out_0)) : Option (List Int))).bind fun e => match e with
    | out_1 =>
      (some (.inl (out_1, (IntKind.i64.wrap (i + (1 : Int)))))))
  else (
    some (.inr out_0))

def M.spec_InSeries (list : List Record) (series : Int) : Option (List Int × Bool) :=
  (M.spec_l2Records list).bind fun y0 =>
  ((bif (!y0) then some default else M.spec_l1In series (1 : Int) (99 : Int))).bind fun y1 =>
  bif ((!y0) || (!y1)) then (
    some (([] : List Int), false))
  else (
    (iterO (M.spec_InSeries_l0 list series) (([] : List Int), (0 : Int))).bind fun e => match e with
    | out_ =>
      (some (out_, true)))

def M.laws_vInts_l0 (a : List Int) (b_ : List Int) : (Int) → Option ((Int) ⊕ ((Unit) ⊕ (Bool))) := fun st_ => match st_ with
| i =>
  bif (decide (i < (a.length : Int))) then (
    asrt ((0 : Int) ≤ i ∧ i < (a.length : Int)) <|
    asrt ((0 : Int) ≤ i ∧ i < (b_.length : Int)) <|
    bif ((a.getD (Int.toNat i) default) != (b_.getD (Int.toNat i) default)) then (
      some (.inr (.inr false)))
    else (
      some (.inl (IntKind.i64.wrap (i + (1 : Int))))))
  else (
    some (.inr (.inl ())))

def M.laws_vInts (a : List Int) (b_ : List Int) : Option Bool :=
  bif ((a.length : Int) != (b_.length : Int)) then (
    some false)
  else (
    (iterO (M.laws_vInts_l0 a b_) (0 : Int)).bind fun e => match e with
    | .inl () =>
      (some true)
    | .inr r => some r)

def M.spec_AreRecords (list : List Record) : Option Bool :=
  (M.spec_l2Records list).bind fun y0 =>
  some y0

def M.laws_FnRecords_l0 (y12 : Record) (y13 : Int × Bool) : (Int) → Option ((Int) ⊕ ((Unit) ⊕ (Bool))) := fun st_ => match st_ with
| i =>
  bif ((decide (i < (y12.Events.length : Int))) && y13.2) then (
    asrt ((0 : Int) ≤ i ∧ i < (y12.Events.length : Int)) <|
    (M.impl_DayOf y12 ((y12.Events.getD (Int.toNat i) default).Kind)).bind fun y16 =>
    bif (((!y16.2) || (decide (y16.1 > y13.1))) || (decide (y16.1 < y12.Made))) then (
      some (.inr (.inr false)))
    else (
      some (.inl (IntKind.i64.wrap (i + (1 : Int))))))
  else (
    some (.inr (.inl ())))

def M.laws_FnRecords (code : List Int) : Option Bool :=
  (M.laws_vBig code).bind fun y0 =>
  bif y0 then (
    some true)
  else (
    (M.spec_DrawRecordText code).bind fun y1 =>
    (M.impl_RecordText y1).bind fun y2 =>
    (M.impl_ParseRecord y2.1).bind fun y3 =>
    (M.spec_RecordText y1).bind fun y4 =>
    ((bif ((!(y2.1 == y4.1)) || (!(y2.2 == y4.2))) then some default else M.impl_IsRecord y1)).bind fun y5 =>
    ((bif (((!(y2.1 == y4.1)) || (!(y2.2 == y4.2))) || (!(y2.2 == y5))) then some default else (bif y2.2 then (bif (!y3.2) then some default else M.laws_vRecord y3.1 y1) else some default))).bind fun y6 =>
    bif ((((!(y2.1 == y4.1)) || (!(y2.2 == y4.2))) || (!(y2.2 == y5))) || (y2.2 && ((!y3.2) || (!y6)))) then (
      some false)
    else (
      (M.spec_DrawParseRecord code).bind fun y7 =>
      (M.impl_ParseRecord y7).bind fun y8 =>
      (M.impl_RecordText y8.1).bind fun y9 =>
      (M.spec_ParseRecord y7).bind fun y10 =>
      ((bif (!(y8.2 == y10.2)) then some default else M.laws_vRecord y8.1 y10.1)).bind fun y11 =>
      bif (((!(y8.2 == y10.2)) || (!y11)) || (y8.2 && ((!y9.2) || (!(y9.1 == y7))))) then (
        some false)
      else (
        (M.spec_DrawLastDay code).bind fun y12 =>
        (M.impl_LastDay y12).bind fun y13 =>
        (M.spec_LastDay y12).bind fun y14 =>
        bif ((y13.1 != y14.1) || (!(y13.2 == y14.2))) then (
          some false)
        else (
          (iterO (M.laws_FnRecords_l0 y12 y13) (0 : Int)).bind fun e => match e with
          | .inl () =>
            ((M.spec_DrawInSeries code).bind fun y17 =>
            (M.impl_InSeries y17.1 y17.2).bind fun y18 =>
            (M.spec_InSeries y17.1 y17.2).bind fun y19 =>
            ((bif (y18.2 == y19.2) then M.laws_vInts y18.1 y19.1 else some default)).bind fun y20 =>
            ((bif ((y18.2 == y19.2) && y20) then M.impl_AreRecords y17.1 else some default)).bind fun y21 =>
            ((bif ((y18.2 == y19.2) && y20) then M.spec_AreRecords y17.1 else some default)).bind fun y22 =>
            some (((y18.2 == y19.2) && y20) && (y21 == y22)))
          | .inr r => some r))))
end Go.Proofs.YthcmelnpcaijaaaDoor
