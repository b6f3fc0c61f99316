/- models of the functions -/
import Derived.Test.YtjfpdbhjoofllaaWj
set_option linter.unusedSimpArgs false
set_option linter.unusedVariables false
set_option maxRecDepth 100000
namespace Go.Proofs.Ytjfpdbhjoofllaa
open Go.VS

structure Cur where
  Code : List Int
  At : Int
  Seed : Int
  deriving Inhabited, DecidableEq

abbrev encCur (ρ : Nat) (c : Cur) : PV := .agg [.vl ρ 1 (List.map encU8 c.Code), .int .i64 c.At, .int .u64 c.Seed]

structure Event where
  Kind : Int
  Day : Int
  deriving Inhabited, DecidableEq

abbrev encEvent (c : Event) : PV := .agg [.int .i64 c.Kind, .int .i64 c.Day]

structure Record where
  Id : Int
  Series : Int
  Made : Int
  Events : List Event
  deriving Inhabited, DecidableEq

abbrev encRecord (ρ : Nat) (c : Record) : PV := .agg [.int .i64 c.Id, .int .i64 c.Series, .int .i64 c.Made, .vl ρ 2 (List.map encEvent c.Events)]

def M.laws_vBig (code : List Int) : Option Bool :=
  some (decide ((code.length : Int) > (65536 : Int)))

def M.spec_l1Cur_next (c : Cur) : Option (Int × Cur) :=
  (((
    bif (decide (c.At < (c.Code.length : Int))) then (
      asrt ((0 : Int) ≤ c.At ∧ c.At < (c.Code.length : Int)) <|
      some (IntKind.i64.wrap (c.Code.getD (Int.toNat c.At) default)))
    else (
      some (0 : Int))) : Option Int)).bind fun e => match e with
  | b_ =>
    (bif (decide ((IntKind.i64.wrap (c.At + (1 : Int))) ≤ (c.Code.length : Int))) then (
      some (b_, (⟨c.Code, (IntKind.i64.wrap (c.At + (1 : Int))), (IntKind.u64.wrap ((IntKind.u64.wrap ((IntKind.u64.wrap (c.Seed * (6364136223846793005 : Int))) + (IntKind.u64.wrap b_))) + (103535 : Int)))⟩ : Cur)))
    else (
      some ((IntKind.i64.wrap (IntKind.u64.wrap (BitVec.ofInt IntKind.u64.bits (Int.fdiv (IntKind.u64.wrap ((IntKind.u64.wrap ((IntKind.u64.wrap (c.Seed * (6364136223846793005 : Int))) + (IntKind.u64.wrap b_))) + (103535 : Int))) (2 ^ (min (Int.toNat (40 : Int)) IntKind.u64.bits))) &&& BitVec.ofInt IntKind.u64.bits (255 : Int)).toNat)), (⟨c.Code, (IntKind.i64.wrap (c.At + (1 : Int))), (IntKind.u64.wrap ((IntKind.u64.wrap ((IntKind.u64.wrap (c.Seed * (6364136223846793005 : Int))) + (IntKind.u64.wrap b_))) + (103535 : Int)))⟩ : Cur))))

def M.spec_l1Cur_pick (c : Cur) (n : Int) : Option (Int × Cur) :=
  bif (decide (n ≤ (1 : Int))) then (
    some ((0 : Int), c))
  else (
    (M.spec_l1Cur_next c).bind fun y0 =>
    (((
      bif (decide (n > (200 : Int))) then (
        (M.spec_l1Cur_next y0.2).bind fun y1 =>
        some ((IntKind.i64.wrap ((IntKind.i64.wrap (y0.1 * (256 : Int))) + y1.1)), y1.2))
      else (
        some (y0.1, y0.2))) : Option (Int × Cur))).bind fun e => match e with
    | (x, c_) =>
      (asrt (n ≠ 0) <|
      some ((Int.tmod x n), c_)))

def M.spec_l1Cur_among (c : Cur) (list : List Int) : Option (Int × Cur) :=
  (M.spec_l1Cur_pick c (list.length : Int)).bind fun y0 =>
  asrt ((0 : Int) ≤ y0.1 ∧ y0.1 < (list.length : Int)) <|
  some ((list.getD (Int.toNat y0.1) default), y0.2)

def M.spec_l1Cur_one (c : Cur) (n : Int) : Option (Bool × Cur) :=
  (M.spec_l1Cur_pick c n).bind fun y0 =>
  some ((y0.1 == (0 : Int)), y0.2)

def M.spec_l1Cur_record_l0 (y1 : Int × Cur) : (Int × List Event × Cur) → Option ((Int × List Event × Cur) ⊕ (List Event × Cur)) := fun st_ => match st_ with
| (k, r_Events0, c_0) =>
  bif (decide (k ≤ (6 : Int))) then (
    (((
      (M.spec_l1Cur_one c_0 (3 : Int)).bind fun y3 =>
      bif y3.1 then (
        (M.spec_l1Cur_among y3.2 ([(0 : Int), (1 : Int), (30 : Int), (365 : Int), (1000 : Int)] : List Int)).bind fun y4 =>
        asrt ((r_Events0.length : Int) + (([(⟨k, (IntKind.i64.wrap (y1.1 + y4.1))⟩ : Event)] : List Event).length : Int) ≤ 2147483648) <|
        (((
          some ((r_Events0 ++ ([(⟨k, (IntKind.i64.wrap (y1.1 + y4.1))⟩ : Event)] : List Event)), y4.2)) : Option (List Event × Cur))).bind fun e => match e with
        | (r_Events2, c_2) =>
          (some (r_Events2, c_2)))
      else (
        some (r_Events0, y3.2))) : Option (List Event × Cur))).bind fun e => match e with
    | (r_Events1, c_1) =>
      (some (.inl ((IntKind.i64.wrap (k + (1 : Int))), r_Events1, c_1))))
  else (
    some (.inr (r_Events0, c_0)))

def M.spec_l1Cur_record (c : Cur) (id_ : Int) : Option (Record × Cur) :=
  (M.spec_l1Cur_among c ([(1 : Int), (2 : Int), (3 : Int), (3 : Int), (7 : Int), (99 : Int)] : List Int)).bind fun y0 =>
  (M.spec_l1Cur_among y0.2 ([(0 : Int), (100 : Int), (100 : Int), (500 : Int), (3000 : Int)] : List Int)).bind fun y1 =>
  (iterO (M.spec_l1Cur_record_l0 y1) ((1 : Int), ([] : List Event), y1.2)).bind fun e => match e with
  | (r_Events, c_) =>
    ((M.spec_l1Cur_pick c_ (48 : Int)).bind fun y5 =>
    (((
      bif (y5.1 == (0 : Int)) then (
        (M.spec_l1Cur_among y5.2 ([(0 : Int), (100 : Int)] : List Int)).bind fun y6 =>
        some (y6.1, y1.1, r_Events, y6.2))
      else (
        bif (y5.1 == (1 : Int)) then (
          (M.spec_l1Cur_among y5.2 ([(-1 : Int), (20001 : Int), (19999 : Int)] : List Int)).bind fun y7 =>
          some (y0.1, y7.1, r_Events, y7.2))
        else (
          bif (y5.1 == (2 : Int)) then (
            (M.spec_l1Cur_among y5.2 ([(1 : Int), (9 : Int), (10 : Int)] : List Int)).bind fun y8 =>
            (M.spec_l1Cur_among y8.2 ([(0 : Int), (20000 : Int)] : List Int)).bind fun y9 =>
            asrt ((r_Events.length : Int) + (([(⟨y8.1, y9.1⟩ : Event)] : List Event).length : Int) ≤ 2147483648) <|
            (((
              some ((r_Events ++ ([(⟨y8.1, y9.1⟩ : Event)] : List Event)), y9.2)) : Option (List Event × Cur))).bind fun e => match e with
            | (r_Events4, o) =>
              (some (y0.1, y1.1, r_Events4, o)))
          else (
            some (y0.1, y1.1, r_Events, y5.2))))) : Option (Int × Int × List Event × Cur))).bind fun e => match e with
    | (r_Series, r_Made, r_Events3, c_3) =>
      (some ((⟨id_, r_Series, r_Made, r_Events3⟩ : Record), c_3)))

def M.spec_l1Cur_event (c : Cur) (from_ : Int) : Option (Event × Cur) :=
  (M.spec_l1Cur_pick c (5 : Int)).bind fun y0 =>
  (M.spec_l1Cur_among y0.2 ([(0 : Int), (1 : Int), (30 : Int), (365 : Int), (400 : Int), (1000 : Int)] : List Int)).bind fun y1 =>
  (M.spec_l1Cur_pick y1.2 (48 : Int)).bind fun y2 =>
  (((
    bif (y2.1 == (0 : Int)) then (
      (M.spec_l1Cur_among y2.2 ([(0 : Int), (9 : Int), (10 : Int)] : List Int)).bind fun y3 =>
      some (y3.2, (⟨y3.1, (IntKind.i64.wrap (from_ + y1.1))⟩ : Event)))
    else (
      bif (y2.1 == (1 : Int)) then (
        (M.spec_l1Cur_among y2.2 ([(-1 : Int), (0 : Int), (20001 : Int)] : List Int)).bind fun y4 =>
        some (y4.2, (⟨(IntKind.i64.wrap ((1 : Int) + y0.1)), y4.1⟩ : Event)))
      else (
        some (y2.2, (⟨(IntKind.i64.wrap ((1 : Int) + y0.1)), (IntKind.i64.wrap (from_ + y1.1))⟩ : Event))))) : Option (Cur × Event))).bind fun e => match e with
  | (c_, e_) =>
    (some (e_, c_))

def M.spec_DrawAddEvent (code : List Int) : Option (Record × Event) :=
  (M.spec_l1Cur_record (⟨code, (0 : Int), (0 : Int)⟩ : Cur) (12 : Int)).bind fun y0 =>
  (M.spec_l1Cur_among y0.2 ([(0 : Int), (0 : Int), (5 : Int), (-1 : Int)] : List Int)).bind fun y1 =>
  (M.spec_l1Cur_event y1.2 (IntKind.i64.wrap (y0.1.Made + y1.1))).bind fun y2 =>
  some (y0.1, y2.1)

def M.impl_within (n : Int) (low : Int) (high : Int) : Option Bool :=
  some ((decide (low ≤ n)) && (decide (n ≤ high)))

def M.impl_isId (id_ : Int) : Option Bool :=
  (M.impl_within id_ (1 : Int) (99 : Int)).bind fun y0 =>
  some y0

def M.impl_isDay (day : Int) : Option Bool :=
  (M.impl_within day (0 : Int) (20000 : Int)).bind fun y0 =>
  some y0

def M.impl_IsEvent (e_ : Event) : Option Bool :=
  (M.impl_within e_.Kind (1 : Int) (9 : Int)).bind fun y0 =>
  ((bif y0 then M.impl_isDay e_.Day else some default)).bind fun y1 =>
  some (y0 && y1)

def M.impl_IsRecord_l0 (r_ : Record) : (Int) → Option ((Int) ⊕ ((Unit) ⊕ (Bool))) := fun st_ => match st_ with
| v =>
  bif (decide (v < (r_.Events.length : Int))) then (
    asrt ((0 : Int) ≤ v ∧ v < (r_.Events.length : Int)) <|
    (M.impl_IsEvent (r_.Events.getD (Int.toNat v) default)).bind fun y4 =>
    asrt (((!y4) || (decide (((r_.Events.getD (Int.toNat v) default).Day) < r_.Made))) = false → (decide (v > (0 : Int))) = true → ((0 : Int) ≤ (IntKind.i64.wrap (v - (1 : Int))) ∧ (IntKind.i64.wrap (v - (1 : Int))) < (r_.Events.length : Int))) <|
    bif (((!y4) || (decide (((r_.Events.getD (Int.toNat v) default).Day) < r_.Made))) || ((decide (v > (0 : Int))) && (decide (((r_.Events.getD (Int.toNat (IntKind.i64.wrap (v - (1 : Int)))) default).Kind) ≥ ((r_.Events.getD (Int.toNat v) default).Kind))))) then (
      some (.inr (.inr false)))
    else (
      some (.inl (IntKind.i64.wrap (v + (1 : Int))))))
  else (
    some (.inr (.inl ())))

def M.impl_IsRecord (r_ : Record) : Option Bool :=
  (M.impl_within r_.Id (1 : Int) (999 : Int)).bind fun y0 =>
  ((bif (!y0) then some default else M.impl_isId r_.Series)).bind fun y1 =>
  ((bif ((!y0) || (!y1)) then some default else M.impl_isDay r_.Made)).bind fun y2 =>
  bif ((((!y0) || (!y1)) || (!y2)) || (decide ((r_.Events.length : Int) > (6 : Int)))) then (
    some false)
  else (
    (iterO (M.impl_IsRecord_l0 r_) (0 : Int)).bind fun e => match e with
    | .inl () =>
      (some true)
    | .inr r => some r)

def M.slices_Clone_impl_Event_impl_Event (s : List Event) : Option (List Event) := asrt ((s.length : Int) ≤ 2147483648) <| some s

def M.slices_Insert_impl_Event_impl_Event (s : List Event) (i : Int) (v : List Event) : Option (List Event) := asrt ((0 : Int) ≤ i ∧ i ≤ (s.length : Int) ∧ (s.length : Int) ≤ 2147483647 ∧ v.length = 1) <| some (s.take i.toNat ++ v ++ s.drop i.toNat)

def M.impl_AddEvent_l0 (r_ : Record) (e_ : Event) : (Int) → Option ((Int) ⊕ (Int)) := fun st_ => match st_ with
| at_0 =>
  asrt ((decide (at_0 < (r_.Events.length : Int))) = true → ((0 : Int) ≤ at_0 ∧ at_0 < (r_.Events.length : Int))) <|
  bif ((decide (at_0 < (r_.Events.length : Int))) && (decide (((r_.Events.getD (Int.toNat at_0) default).Kind) < e_.Kind))) then (
    some (.inl (IntKind.i64.wrap (at_0 + (1 : Int)))))
  else (
    some (.inr at_0))

def M.impl_AddEvent (r_ : Record) (e_ : Event) : Option (Record × Bool) :=
  (M.impl_IsRecord r_).bind fun y0 =>
  ((bif (!y0) then some default else M.impl_IsEvent e_)).bind fun y1 =>
  bif ((!y0) || (!y1)) then (
    some ((⟨(0 : Int), (0 : Int), (0 : Int), ([] : List Event)⟩ : Record), false))
  else (
    (iterO (M.impl_AddEvent_l0 r_ e_) (0 : Int)).bind fun e => match e with
    | at_ =>
      ((M.slices_Clone_impl_Event_impl_Event r_.Events).bind fun y3 =>
      (M.slices_Insert_impl_Event_impl_Event y3 at_ ([e_] : List Event)).bind fun y4 =>
      (((
        some (⟨r_.Id, r_.Series, r_.Made, y4⟩ : Record)) : Option Record)).bind fun e => match e with
      | out_ =>
        ((M.impl_IsRecord out_).bind fun y5 =>
        bif (!y5) then (
          some ((⟨(0 : Int), (0 : Int), (0 : Int), ([] : List Event)⟩ : Record), false))
        else (
          some (out_, true)))))

def M.spec_l1In (x : Int) (a : Int) (b_ : Int) : Option Bool :=
  some ((decide (x ≥ a)) && (decide (x ≤ b_)))

def M.spec_l2Day (d : Int) : Option Bool :=
  (M.spec_l1In d (0 : Int) (20000 : Int)).bind fun y0 =>
  some y0

def M.spec_l2Event (e_ : Event) : Option Bool :=
  (M.spec_l1In e_.Kind (1 : Int) (9 : Int)).bind fun y0 =>
  ((bif y0 then M.spec_l2Day e_.Day else some default)).bind fun y1 =>
  some (y0 && y1)

def M.spec_l2Record_l0 (r_ : Record) : (Int) → Option ((Int) ⊕ ((Unit) ⊕ (Bool))) := fun st_ => match st_ with
| i =>
  bif (decide (i < (r_.Events.length : Int))) then (
    asrt ((0 : Int) ≤ i ∧ i < (r_.Events.length : Int)) <|
    (M.spec_l2Event (r_.Events.getD (Int.toNat i) default)).bind fun y1 =>
    asrt (((!y1) || (decide (((r_.Events.getD (Int.toNat i) default).Day) < r_.Made))) = false → (decide (i > (0 : Int))) = true → ((0 : Int) ≤ (IntKind.i64.wrap (i - (1 : Int))) ∧ (IntKind.i64.wrap (i - (1 : Int))) < (r_.Events.length : Int))) <|
    bif (((!y1) || (decide (((r_.Events.getD (Int.toNat i) default).Day) < r_.Made))) || ((decide (i > (0 : Int))) && (decide (((r_.Events.getD (Int.toNat (IntKind.i64.wrap (i - (1 : Int)))) default).Kind) ≥ ((r_.Events.getD (Int.toNat i) default).Kind))))) then (
      some (.inr (.inr false)))
    else (
      some (.inl (IntKind.i64.wrap (i + (1 : Int))))))
  else (
    some (.inr (.inl ())))

def M.spec_l2Record (r_ : Record) : Option Bool :=
  (iterO (M.spec_l2Record_l0 r_) (0 : Int)).bind fun e => match e with
  | .inl () =>
    ((M.spec_l1In r_.Id (1 : Int) (999 : Int)).bind fun y2 =>
    ((bif y2 then M.spec_l1In r_.Series (1 : Int) (99 : Int) else some default)).bind fun y3 =>
    ((bif (y2 && y3) then M.spec_l2Day r_.Made else some default)).bind fun y4 =>
    some (((y2 && y3) && y4) && (decide ((r_.Events.length : Int) ≤ (6 : Int)))))
  | .inr r => some r

def M.spec_l2DayOf_l0 (r_ : Record) (kind : Int) : (Int) → Option ((Int) ⊕ ((Unit) ⊕ (Int))) := fun st_ => match st_ with
| i =>
  bif (decide (i < (r_.Events.length : Int))) then (
    asrt ((0 : Int) ≤ i ∧ i < (r_.Events.length : Int)) <|
    bif (((r_.Events.getD (Int.toNat i) default).Kind) == kind) then (
      asrt ((0 : Int) ≤ i ∧ i < (r_.Events.length : Int)) <|
      some (.inr (.inr ((r_.Events.getD (Int.toNat i) default).Day))))
    else (
      some (.inl (IntKind.i64.wrap (i + (1 : Int))))))
  else (
    some (.inr (.inl ())))

def M.spec_l2DayOf (r_ : Record) (kind : Int) : Option Int :=
  bif (kind == (0 : Int)) then (
    some r_.Made)
  else (
    (iterO (M.spec_l2DayOf_l0 r_ kind) (0 : Int)).bind fun e => match e with
    | .inl () =>
      (some (-1 : Int))
    | .inr r => some r)

def M.spec_AddEvent_l0 (r_ : Record) (e_ : Event) : (Int) → Option ((Int) ⊕ (Int)) := fun st_ => match st_ with
| i0 =>
  asrt ((decide (i0 < (r_.Events.length : Int))) = true → ((0 : Int) ≤ i0 ∧ i0 < (r_.Events.length : Int))) <|
  bif ((decide (i0 < (r_.Events.length : Int))) && (decide (((r_.Events.getD (Int.toNat i0) default).Kind) < e_.Kind))) then (
    some (.inl (IntKind.i64.wrap (i0 + (1 : Int)))))
  else (
    some (.inr i0))

def M.spec_AddEvent (r_ : Record) (e_ : Event) : Option (Record × Bool) :=
  (M.spec_l2Record r_).bind fun y0 =>
  ((bif (!y0) then some default else M.spec_l2Event e_)).bind fun y1 =>
  ((bif ((!y0) || (!y1)) then some default else M.spec_l2DayOf r_ e_.Kind)).bind fun y2 =>
  bif (((!y0) || (!y1)) || (decide (y2 ≥ (0 : Int)))) then (
    some ((⟨(0 : Int), (0 : Int), (0 : Int), ([] : List Event)⟩ : Record), false))
  else (
    (iterO (M.spec_AddEvent_l0 r_ e_) (0 : Int)).bind fun e => match e with
    | i =>
      (asrt ((0 : Int) ≤ (0 : Int) ∧ (0 : Int) ≤ i ∧ i ≤ (r_.Events.length : Int)) <|
      asrt ((([] : List Event).length : Int) + ((slc r_.Events (0 : Int) i).length : Int) ≤ 2147483648) <|
      asrt (((([] : List Event) ++ (slc r_.Events (0 : Int) i)).length : Int) + (([e_] : List Event).length : Int) ≤ 2147483648) <|
      asrt ((0 : Int) ≤ i ∧ i ≤ (r_.Events.length : Int) ∧ (r_.Events.length : Int) ≤ (r_.Events.length : Int)) <|
      asrt ((((([] : List Event) ++ (slc r_.Events (0 : Int) i)) ++ ([e_] : List Event)).length : Int) + ((slc r_.Events i (r_.Events.length : Int)).length : Int) ≤ 2147483648) <|
      (((
        some ()) : Option Unit)).bind fun e => match e with
      | () =>
        ((M.spec_l2Record (⟨r_.Id, r_.Series, r_.Made, (((([] : List Event) ++ (slc r_.Events (0 : Int) i)) ++ ([e_] : List Event)) ++ (slc r_.Events i (r_.Events.length : Int)))⟩ : Record)).bind fun y4 =>
        bif (!y4) then (
          some ((⟨(0 : Int), (0 : Int), (0 : Int), ([] : List Event)⟩ : Record), false))
        else (
          some ((⟨r_.Id, r_.Series, r_.Made, (((([] : List Event) ++ (slc r_.Events (0 : Int) i)) ++ ([e_] : List Event)) ++ (slc r_.Events i (r_.Events.length : Int)))⟩ : Record), true)))))

def M.laws_vEvents_l0 (a : List Event) (b_ : List Event) : (Int) → Option ((Int) ⊕ ((Unit) ⊕ (Bool))) := fun st_ => match st_ with
| i =>
  bif (decide (i < (a.length : Int))) then (
    asrt ((0 : Int) ≤ i ∧ i < (a.length : Int)) <|
    asrt ((0 : Int) ≤ i ∧ i < (b_.length : Int)) <|
    bif (!((((a.getD (Int.toNat i) default).Kind) == ((b_.getD (Int.toNat i) default).Kind)) && ((((a.getD (Int.toNat i) default).Day) == ((b_.getD (Int.toNat i) default).Day)) && true))) then (
      some (.inr (.inr false)))
    else (
      some (.inl (IntKind.i64.wrap (i + (1 : Int))))))
  else (
    some (.inr (.inl ())))

def M.laws_vEvents (a : List Event) (b_ : List Event) : Option Bool :=
  bif ((a.length : Int) != (b_.length : Int)) then (
    some false)
  else (
    (iterO (M.laws_vEvents_l0 a b_) (0 : Int)).bind fun e => match e with
    | .inl () =>
      (some true)
    | .inr r => some r)

def M.laws_vRecord (a : Record) (b_ : Record) : Option Bool :=
  ((bif (((a.Id == b_.Id) && (a.Series == b_.Series)) && (a.Made == b_.Made)) then M.laws_vEvents a.Events b_.Events else some default)).bind fun y0 =>
  some ((((a.Id == b_.Id) && (a.Series == b_.Series)) && (a.Made == b_.Made)) && y0)

def M.spec_IsEvent (e_ : Event) : Option Bool :=
  (M.spec_l2Event e_).bind fun y0 =>
  some y0

def M.impl_eventAt_1 (e_ : Event) (kind : Int) : Option Bool :=
  some (e_.Kind == kind)

def M.slices_IndexFunc_impl_Event_impl_Event_l0 (s : List Event) (fm : Event → Option Bool) : (Int) → Option ((Int) ⊕ ((Unit) ⊕ (Int))) := fun st_ => match st_ with
| v =>
  bif (decide (v < (s.length : Int))) then (
    asrt ((0 : Int) ≤ v ∧ v < (s.length : Int)) <|
    (fm (s.getD (Int.toNat v) default)).bind fun y1 =>
    bif y1 then (
      some (.inr (.inr v)))
    else (
      some (.inl (IntKind.i64.wrap (v + (1 : Int))))))
  else (
    some (.inr (.inl ())))

def M.slices_IndexFunc_impl_Event_impl_Event (s : List Event) (fm : Event → Option Bool) : Option Int :=
  (iterO (M.slices_IndexFunc_impl_Event_impl_Event_l0 s fm) (0 : Int)).bind fun e => match e with
  | .inl () =>
    (some (-1 : Int))
  | .inr r => some r

def M.impl_eventAt (r_ : Record) (kind : Int) : Option Int :=
  (M.slices_IndexFunc_impl_Event_impl_Event r_.Events (fun x0 => M.impl_eventAt_1 x0 kind)).bind fun y0 =>
  some y0

def M.impl_copyRecord (r_ : Record) : Option Record :=
  (M.slices_Clone_impl_Event_impl_Event r_.Events).bind fun y0 =>
  some (⟨r_.Id, r_.Series, r_.Made, y0⟩ : Record)

def M.slices_Delete_impl_Event_impl_Event (s : List Event) (i : Int) (j_ : Int) : Option (List Event) :=
  asrt ((0 : Int) ≤ i ∧ i ≤ j_ ∧ j_ ≤ (s.length : Int) ∧ (s.length : Int) ≤ (s.length : Int)) <|
  bif (i == j_) then (
    some s)
  else (
    asrt ((0 : Int) ≤ (0 : Int) ∧ (0 : Int) ≤ i ∧ i ≤ (s.length : Int)) <|
    asrt ((0 : Int) ≤ j_ ∧ j_ ≤ (((List.length s) : Nat) : Int) ∧ (((List.length s) : Nat) : Int) ≤ (((List.length s) : Nat) : Int)) <|
    asrt ((0 + Int.toNat j_) + (Int.toNat (((List.length s) : Nat) : Int) - Int.toNat j_) ≤ s.length) <|
    asrt ((Int.toNat i - Int.toNat (0 : Int)) + (List.take (Int.toNat (((List.length s) : Nat) : Int) - Int.toNat j_) (List.drop (0 + Int.toNat j_) s)).length ≤ s.length) <|
    asrt ((0 : Int) ≤ ((((Int.toNat i - Int.toNat (0 : Int)) + List.length (List.take (Int.toNat (((List.length s) : Nat) : Int) - Int.toNat j_) (List.drop (0 + Int.toNat j_) s))) : Nat) : Int) ∧ ((((Int.toNat i - Int.toNat (0 : Int)) + List.length (List.take (Int.toNat (((List.length s) : Nat) : Int) - Int.toNat j_) (List.drop (0 + Int.toNat j_) s))) : Nat) : Int) ≤ (s.length : Int) ∧ (((0 : Nat) : Int) : Int) + (s.length : Int) ≤ ((List.take (Int.toNat i - Int.toNat (0 : Int)) s ++ (List.take (Int.toNat (((List.length s) : Nat) : Int) - Int.toNat j_) (List.drop (0 + Int.toNat j_) s)) ++ List.drop ((Int.toNat i - Int.toNat (0 : Int)) + List.length (List.take (Int.toNat (((List.length s) : Nat) : Int) - Int.toNat j_) (List.drop (0 + Int.toNat j_) s))) s).length : Int)) <|
    asrt ((0 + Int.toNat ((((Int.toNat i - Int.toNat (0 : Int)) + List.length (List.take (Int.toNat (((List.length s) : Nat) : Int) - Int.toNat j_) (List.drop (0 + Int.toNat j_) s))) : Nat) : Int)) + (Int.toNat (s.length : Int) - Int.toNat ((((Int.toNat i - Int.toNat (0 : Int)) + List.length (List.take (Int.toNat (((List.length s) : Nat) : Int) - Int.toNat j_) (List.drop (0 + Int.toNat j_) s))) : Nat) : Int)) ≤ (List.take (Int.toNat i - Int.toNat (0 : Int)) s ++ (List.take (Int.toNat (((List.length s) : Nat) : Int) - Int.toNat j_) (List.drop (0 + Int.toNat j_) s)) ++ List.drop ((Int.toNat i - Int.toNat (0 : Int)) + List.length (List.take (Int.toNat (((List.length s) : Nat) : Int) - Int.toNat j_) (List.drop (0 + Int.toNat j_) s))) s).length) <|
    asrt (((Int.toNat i - Int.toNat (0 : Int)) + List.length (List.take (Int.toNat (((List.length s) : Nat) : Int) - Int.toNat j_) (List.drop (0 + Int.toNat j_) s))) ≤ (List.take (0 + Int.toNat ((((Int.toNat i - Int.toNat (0 : Int)) + List.length (List.take (Int.toNat (((List.length s) : Nat) : Int) - Int.toNat j_) (List.drop (0 + Int.toNat j_) s))) : Nat) : Int)) (List.take (Int.toNat i - Int.toNat (0 : Int)) s ++ (List.take (Int.toNat (((List.length s) : Nat) : Int) - Int.toNat j_) (List.drop (0 + Int.toNat j_) s)) ++ List.drop ((Int.toNat i - Int.toNat (0 : Int)) + List.length (List.take (Int.toNat (((List.length s) : Nat) : Int) - Int.toNat j_) (List.drop (0 + Int.toNat j_) s))) s) ++ List.replicate (Int.toNat (s.length : Int) - Int.toNat ((((Int.toNat i - Int.toNat (0 : Int)) + List.length (List.take (Int.toNat (((List.length s) : Nat) : Int) - Int.toNat j_) (List.drop (0 + Int.toNat j_) s))) : Nat) : Int)) (⟨(0 : Int), (0 : Int)⟩ : Event) ++ List.drop ((0 + Int.toNat ((((Int.toNat i - Int.toNat (0 : Int)) + List.length (List.take (Int.toNat (((List.length s) : Nat) : Int) - Int.toNat j_) (List.drop (0 + Int.toNat j_) s))) : Nat) : Int)) + (Int.toNat (s.length : Int) - Int.toNat ((((Int.toNat i - Int.toNat (0 : Int)) + List.length (List.take (Int.toNat (((List.length s) : Nat) : Int) - Int.toNat j_) (List.drop (0 + Int.toNat j_) s))) : Nat) : Int))) (List.take (Int.toNat i - Int.toNat (0 : Int)) s ++ (List.take (Int.toNat (((List.length s) : Nat) : Int) - Int.toNat j_) (List.drop (0 + Int.toNat j_) s)) ++ List.drop ((Int.toNat i - Int.toNat (0 : Int)) + List.length (List.take (Int.toNat (((List.length s) : Nat) : Int) - Int.toNat j_) (List.drop (0 + Int.toNat j_) s))) s)).length) <|
    some (List.take ((Int.toNat i - Int.toNat (0 : Int)) + List.length (List.take (Int.toNat (((List.length s) : Nat) : Int) - Int.toNat j_) (List.drop (0 + Int.toNat j_) s))) (List.take (0 + Int.toNat ((((Int.toNat i - Int.toNat (0 : Int)) + List.length (List.take (Int.toNat (((List.length s) : Nat) : Int) - Int.toNat j_) (List.drop (0 + Int.toNat j_) s))) : Nat) : Int)) (List.take (Int.toNat i - Int.toNat (0 : Int)) s ++ (List.take (Int.toNat (((List.length s) : Nat) : Int) - Int.toNat j_) (List.drop (0 + Int.toNat j_) s)) ++ List.drop ((Int.toNat i - Int.toNat (0 : Int)) + List.length (List.take (Int.toNat (((List.length s) : Nat) : Int) - Int.toNat j_) (List.drop (0 + Int.toNat j_) s))) s) ++ List.replicate (Int.toNat (s.length : Int) - Int.toNat ((((Int.toNat i - Int.toNat (0 : Int)) + List.length (List.take (Int.toNat (((List.length s) : Nat) : Int) - Int.toNat j_) (List.drop (0 + Int.toNat j_) s))) : Nat) : Int)) (⟨(0 : Int), (0 : Int)⟩ : Event) ++ List.drop ((0 + Int.toNat ((((Int.toNat i - Int.toNat (0 : Int)) + List.length (List.take (Int.toNat (((List.length s) : Nat) : Int) - Int.toNat j_) (List.drop (0 + Int.toNat j_) s))) : Nat) : Int)) + (Int.toNat (s.length : Int) - Int.toNat ((((Int.toNat i - Int.toNat (0 : Int)) + List.length (List.take (Int.toNat (((List.length s) : Nat) : Int) - Int.toNat j_) (List.drop (0 + Int.toNat j_) s))) : Nat) : Int))) (List.take (Int.toNat i - Int.toNat (0 : Int)) s ++ (List.take (Int.toNat (((List.length s) : Nat) : Int) - Int.toNat j_) (List.drop (0 + Int.toNat j_) s)) ++ List.drop ((Int.toNat i - Int.toNat (0 : Int)) + List.length (List.take (Int.toNat (((List.length s) : Nat) : Int) - Int.toNat j_) (List.drop (0 + Int.toNat j_) s))) s))))

def M.impl_DropEvent (r_ : Record) (kind : Int) : Option (Record × Bool) :=
  (M.impl_eventAt r_ kind).bind fun y0 =>
  (M.impl_IsRecord r_).bind fun y1 =>
  bif ((!y1) || (decide (y0 < (0 : Int)))) then (
    some ((⟨(0 : Int), (0 : Int), (0 : Int), ([] : List Event)⟩ : Record), false))
  else (
    (M.impl_copyRecord r_).bind fun y2 =>
    (M.slices_Delete_impl_Event_impl_Event y2.Events y0 (IntKind.i64.wrap (y0 + (1 : Int)))).bind fun y3 =>
    some ((⟨y2.Id, y2.Series, y2.Made, y3⟩ : Record), true))

def M.impl_dayOf (r_ : Record) (kind : Int) : Option (Int × Bool) :=
  bif (kind == (0 : Int)) then (
    some (r_.Made, true))
  else (
    (M.impl_eventAt r_ kind).bind fun y0 =>
    bif (decide (y0 < (0 : Int))) then (
      some ((0 : Int), false))
    else (
      asrt ((0 : Int) ≤ y0 ∧ y0 < (r_.Events.length : Int)) <|
      some ((r_.Events.getD (Int.toNat y0) default).Day, true)))

def M.impl_DayOf (r_ : Record) (kind : Int) : Option (Int × Bool) :=
  (M.impl_IsRecord r_).bind fun y0 =>
  bif (!y0) then (
    some ((0 : Int), false))
  else (
    (M.impl_dayOf r_ kind).bind fun y1 =>
    some (y1.1, y1.2))

def M.spec_DrawDayOf (code : List Int) : Option (Record × Int) :=
  (M.spec_l1Cur_record (⟨code, (0 : Int), (0 : Int)⟩ : Cur) (12 : Int)).bind fun y0 =>
  (M.spec_l1Cur_among y0.2 ([(0 : Int), (1 : Int), (2 : Int), (3 : Int), (4 : Int), (5 : Int), (6 : Int), (10 : Int), (-1 : Int)] : List Int)).bind fun y1 =>
  some (y0.1, y1.1)

def M.spec_DrawDropEvent (code : List Int) : Option (Record × Int) :=
  (M.spec_DrawDayOf code).bind fun y0 =>
  some (y0.1, y0.2)

def M.spec_DropEvent_l0 (r_ : Record) (kind : Int) : (Int × List Event) → Option ((Int × List Event) ⊕ (List Event)) := fun st_ => match st_ with
| (i, out_Events0) =>
  bif (decide (i < (r_.Events.length : Int))) then (
    (((
      asrt ((0 : Int) ≤ i ∧ i < (r_.Events.length : Int)) <|
      bif (((r_.Events.getD (Int.toNat i) default).Kind) != kind) then (
        asrt ((0 : Int) ≤ i ∧ i < (r_.Events.length : Int)) <|
        asrt ((out_Events0.length : Int) + (([(r_.Events.getD (Int.toNat i) default)] : List Event).length : Int) ≤ 2147483648) <|
        (((
          some (out_Events0 ++ ([(r_.Events.getD (Int.toNat i) default)] : List Event))) : Option (List Event))).bind fun e => match e with
        | out_Events2 =>
          (some out_Events2))
      else (
        some out_Events0)) : Option (List Event))).bind fun e => match e with
    | out_Events1 =>
      (some (.inl ((IntKind.i64.wrap (i + (1 : Int))), out_Events1))))
  else (
    some (.inr out_Events0))

def M.spec_DropEvent (r_ : Record) (kind : Int) : Option (Record × Bool) :=
  (M.spec_l2Record r_).bind fun y0 =>
  ((bif ((!y0) || (kind == (0 : Int))) then some default else M.spec_l2DayOf r_ kind)).bind fun y1 =>
  bif (((!y0) || (kind == (0 : Int))) || (decide (y1 < (0 : Int)))) then (
    some ((⟨(0 : Int), (0 : Int), (0 : Int), ([] : List Event)⟩ : Record), false))
  else (
    (iterO (M.spec_DropEvent_l0 r_ kind) ((0 : Int), ([] : List Event))).bind fun e => match e with
    | out_Events =>
      (some ((⟨r_.Id, r_.Series, r_.Made, out_Events⟩ : Record), true)))

def M.spec_DayOf (r_ : Record) (kind : Int) : Option (Int × Bool) :=
  (M.spec_l2Record r_).bind fun y0 =>
  ((bif (!y0) then some default else M.spec_l2DayOf r_ kind)).bind fun y1 =>
  bif ((!y0) || (decide (y1 < (0 : Int)))) then (
    some ((0 : Int), false))
  else (
    (M.spec_l2DayOf r_ kind).bind fun y2 =>
    some (y2, true))

def M.laws_FnEvents (code : List Int) : Option Bool :=
  (M.laws_vBig code).bind fun y0 =>
  bif y0 then (
    some true)
  else (
    (M.spec_DrawAddEvent code).bind fun y1 =>
    (M.impl_AddEvent y1.1 y1.2).bind fun y2 =>
    (M.spec_AddEvent y1.1 y1.2).bind fun y3 =>
    ((bif (!(y2.2 == y3.2)) then some default else M.laws_vRecord y2.1 y3.1)).bind fun y4 =>
    ((bif ((!(y2.2 == y3.2)) || (!y4)) then some default else M.impl_IsEvent y1.2)).bind fun y5 =>
    ((bif ((!(y2.2 == y3.2)) || (!y4)) then some default else M.spec_IsEvent y1.2)).bind fun y6 =>
    bif (((!(y2.2 == y3.2)) || (!y4)) || (!(y5 == y6))) then (
      some false)
    else (
      (((
        bif y2.2 then (
          (M.impl_DropEvent y2.1 y1.2.Kind).bind fun y7 =>
          (M.impl_DayOf y2.1 y1.2.Kind).bind fun y8 =>
          ((bif (!y7.2) then some default else M.laws_vRecord y7.1 y1.1)).bind fun y9 =>
          bif ((((!y7.2) || (!y9)) || (!y8.2)) || (y8.1 != y1.2.Day)) then (
            some (.inr false))
          else (
            some (.inl ())))
        else (
          some (.inl ()))) : Option ((Unit) ⊕ (Bool)))).bind fun e => match e with
      | .inl () =>
        ((M.spec_DrawDropEvent code).bind fun y10 =>
        (M.impl_DropEvent y10.1 y10.2).bind fun y11 =>
        (M.spec_DropEvent y10.1 y10.2).bind fun y12 =>
        ((bif (!(y11.2 == y12.2)) then some default else M.laws_vRecord y11.1 y12.1)).bind fun y13 =>
        bif ((!(y11.2 == y12.2)) || (!y13)) then (
          some false)
        else (
          (((
            bif y11.2 then (
              (M.impl_DayOf y11.1 y10.2).bind fun y14 =>
              bif y14.2 then (
                some (.inr false))
              else (
                some (.inl ())))
            else (
              some (.inl ()))) : Option ((Unit) ⊕ (Bool)))).bind fun e => match e with
          | .inl () =>
            ((M.spec_DrawDayOf code).bind fun y15 =>
            (M.impl_DayOf y15.1 y15.2).bind fun y16 =>
            (M.spec_DayOf y15.1 y15.2).bind fun y17 =>
            some ((y16.1 == y17.1) && (y16.2 == y17.2)))
          | .inr r => some r))
      | .inr r => some r))
end Go.Proofs.Ytjfpdbhjoofllaa
