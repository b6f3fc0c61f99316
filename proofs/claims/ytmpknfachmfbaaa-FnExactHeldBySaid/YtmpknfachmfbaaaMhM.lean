/- models of the functions -/
import Derived.Test.YtmpknfachmfbaaaWg
set_option linter.unusedSimpArgs false
set_option linter.unusedVariables false
set_option maxRecDepth 100000
namespace Go.Proofs.Ytmpknfachmfbaaa
open Go.VS

structure Hand where
  Record : Int
  From : Int
  To : Int
  Day : Int
  Sum : Int
  Seal : Bool
  deriving Inhabited, DecidableEq

abbrev encHand (c : Hand) : PV := .agg [.int .i64 c.Record, .int .i64 c.From, .int .i64 c.To, .int .i64 c.Day, .int .i64 c.Sum, .bool c.Seal]

def M.laws_szHandS (a : List Hand) (left : Int) : Option Int :=
  bif (decide ((IntKind.i64.wrap (left - (a.length : Int))) < (0 : Int))) then (
    some (-1 : Int))
  else (
    some (IntKind.i64.wrap (left - (a.length : Int))))

def M.laws_toHand (a : Hand) : Option Hand :=
  some (⟨a.Record, a.From, a.To, a.Day, a.Sum, a.Seal⟩ : Hand)

def M.laws_toHandS_l0 (a : List Hand) : (List Hand × Int) → Option ((List Hand × Int) ⊕ (List Hand)) := fun st_ => match st_ with
| (out_0, i) =>
  bif (decide (i < (a.length : Int))) then (
    asrt ((0 : Int) ≤ i ∧ i < (a.length : Int)) <|
    (M.laws_toHand (a.getD (Int.toNat i) default)).bind fun y1 =>
    asrt ((0 : Int) ≤ i ∧ i < (out_0.length : Int)) <|
    some (.inl ((out_0.set (Int.toNat i) y1), (IntKind.i64.wrap (i + (1 : Int))))))
  else (
    some (.inr out_0))

def M.laws_toHandS (a : List Hand) : Option (List Hand) :=
  asrt ((0 : Int) ≤ (a.length : Int) ∧ (a.length : Int) ≤ (a.length : Int) ∧ (a.length : Int) ≤ 2147483648) <|
  (iterO (M.laws_toHandS_l0 a) ((List.replicate (Int.toNat (a.length : Int)) (⟨(0 : Int), (0 : Int), (0 : Int), (0 : Int), (0 : Int), false⟩ : Hand)), (0 : Int))).bind fun e => match e with
  | out_ =>
    (some out_)

def M.spec_l1In (x : Int) (a : Int) (b_ : Int) : Option Bool :=
  some ((decide (x ≥ a)) && (decide (x ≤ b_)))

def M.spec_l17Record (record : Int) : Option Bool :=
  (M.spec_l1In record (1 : Int) (999 : Int)).bind fun y0 =>
  some y0

def M.spec_l17Who (who : Int) : Option Bool :=
  (M.spec_l1In who (1 : Int) (20 : Int)).bind fun y0 =>
  some y0

def M.spec_l2Day (d : Int) : Option Bool :=
  (M.spec_l1In d (0 : Int) (20000 : Int)).bind fun y0 =>
  some y0

def M.spec_l17One (h_ : Hand) : Option Bool :=
  (M.spec_l17Record h_.Record).bind fun y0 =>
  ((bif y0 then M.spec_l17Who h_.From else some default)).bind fun y1 =>
  ((bif (y0 && y1) then M.spec_l17Who h_.To else some default)).bind fun y2 =>
  ((bif (((y0 && y1) && y2) && (h_.From != h_.To)) then M.spec_l2Day h_.Day else some default)).bind fun y3 =>
  ((bif ((((y0 && y1) && y2) && (h_.From != h_.To)) && y3) then M.spec_l1In h_.Sum (0 : Int) (999999 : Int) else some default)).bind fun y4 =>
  some (((((y0 && y1) && y2) && (h_.From != h_.To)) && y3) && y4)

def M.spec_l17Before_l0 (list : List Hand) (record : Int) : (Int) → Option ((Int) ⊕ ((Unit) ⊕ (Int))) := fun st_ => match st_ with
| k =>
  bif (decide (k ≥ (0 : Int))) then (
    asrt ((0 : Int) ≤ k ∧ k < (list.length : Int)) <|
    bif (((list.getD (Int.toNat k) default).Record) == record) then (
      some (.inr (.inr k)))
    else (
      some (.inl (IntKind.i64.wrap (k - (1 : Int))))))
  else (
    some (.inr (.inl ())))

def M.spec_l17Before (list : List Hand) (record : Int) (i : Int) : Option Int :=
  (iterO (M.spec_l17Before_l0 list record) (IntKind.i64.wrap (i - (1 : Int)))).bind fun e => match e with
  | .inl () =>
    (some (-1 : Int))
  | .inr r => some r

def M.spec_l17Good_l0 (list : List Hand) : (Int) → Option ((Int) ⊕ ((Unit) ⊕ (Bool))) := fun st_ => match st_ with
| i =>
  bif (decide (i < (list.length : Int))) then (
    asrt ((0 : Int) ≤ i ∧ i < (list.length : Int)) <|
    (M.spec_l17One (list.getD (Int.toNat i) default)).bind fun y1 =>
    asrt ((!y1) = false → (decide (i > (0 : Int))) = true → ((0 : Int) ≤ (IntKind.i64.wrap (i - (1 : Int))) ∧ (IntKind.i64.wrap (i - (1 : Int))) < (list.length : Int))) <|
    bif ((!y1) || ((decide (i > (0 : Int))) && (decide (((list.getD (Int.toNat (IntKind.i64.wrap (i - (1 : Int)))) default).Day) > ((list.getD (Int.toNat i) default).Day))))) then (
      some (.inr (.inr false)))
    else (
      (M.spec_l17Before list ((list.getD (Int.toNat i) default).Record) i).bind fun y2 =>
      asrt ((decide (y2 ≥ (0 : Int))) = true → ((0 : Int) ≤ y2 ∧ y2 < (list.length : Int))) <|
      bif ((decide (y2 ≥ (0 : Int))) && (((list.getD (Int.toNat y2) default).To) != ((list.getD (Int.toNat i) default).From))) then (
        some (.inr (.inr false)))
      else (
        some (.inl (IntKind.i64.wrap (i + (1 : Int)))))))
  else (
    some (.inr (.inl ())))

def M.spec_l17Good (list : List Hand) : Option Bool :=
  (iterO (M.spec_l17Good_l0 list) (0 : Int)).bind fun e => match e with
  | .inl () =>
    (some (decide ((list.length : Int) ≤ (12 : Int))))
  | .inr r => some r

def M.spec_l17Holder_l0 (list : List Hand) (record : Int) (day : Int) : (Int × Int) → Option ((Int × Int) ⊕ (Int)) := fun st_ => match st_ with
| (who0, i) =>
  bif (decide (i < (list.length : Int))) then (
    (((
      asrt ((0 : Int) ≤ i ∧ i < (list.length : Int)) <|
      asrt ((((list.getD (Int.toNat i) default).Record) == record) = true → ((0 : Int) ≤ i ∧ i < (list.length : Int))) <|
      bif ((((list.getD (Int.toNat i) default).Record) == record) && (decide (((list.getD (Int.toNat i) default).Day) ≤ day))) then (
        asrt ((0 : Int) ≤ i ∧ i < (list.length : Int)) <|
        some ((list.getD (Int.toNat i) default).To))
      else (
        some who0)) : Option Int)).bind fun e => match e with
    | who1 =>
      (some (.inl (who1, (IntKind.i64.wrap (i + (1 : Int)))))))
  else (
    some (.inr who0))

def M.spec_l17Holder (list : List Hand) (record : Int) (day : Int) : Option Int :=
  (iterO (M.spec_l17Holder_l0 list record day) ((0 : Int), (0 : Int))).bind fun e => match e with
  | who =>
    (some who)

def M.spec_l1Has_l0 (l : List Int) (n : Int) : (Int) → Option ((Int) ⊕ ((Unit) ⊕ (Bool))) := fun st_ => match st_ with
| i =>
  bif (decide (i < (l.length : Int))) then (
    asrt ((0 : Int) ≤ i ∧ i < (l.length : Int)) <|
    bif ((l.getD (Int.toNat i) default) == n) then (
      some (.inr (.inr true)))
    else (
      some (.inl (IntKind.i64.wrap (i + (1 : Int))))))
  else (
    some (.inr (.inl ())))

def M.spec_l1Has (l : List Int) (n : Int) : Option Bool :=
  (iterO (M.spec_l1Has_l0 l n) (0 : Int)).bind fun e => match e with
  | .inl () =>
    (some false)
  | .inr r => some r

def M.spec_l1Put_l0 (l : List Int) (n : Int) : (Int) → Option ((Int) ⊕ (Int)) := fun st_ => match st_ with
| k0 =>
  asrt ((decide (k0 < (l.length : Int))) = true → ((0 : Int) ≤ k0 ∧ k0 < (l.length : Int))) <|
  bif ((decide (k0 < (l.length : Int))) && (decide ((l.getD (Int.toNat k0) default) < n))) then (
    some (.inl (IntKind.i64.wrap (k0 + (1 : Int)))))
  else (
    some (.inr k0))

def M.spec_l1Put (l : List Int) (n : Int) : Option (List Int) :=
  (iterO (M.spec_l1Put_l0 l n) (0 : Int)).bind fun e => match e with
  | k =>
    (asrt ((decide (k < (l.length : Int))) = true → ((0 : Int) ≤ k ∧ k < (l.length : Int))) <|
    bif ((decide (k < (l.length : Int))) && ((l.getD (Int.toNat k) default) == n)) then (
      some l)
    else (
      asrt ((0 : Int) ≤ (0 : Int) ∧ (0 : Int) ≤ k ∧ k ≤ (l.length : Int)) <|
      asrt ((([] : List Int).length : Int) + ((slc l (0 : Int) k).length : Int) ≤ 2147483648) <|
      asrt (((([] : List Int) ++ (slc l (0 : Int) k)).length : Int) + (([n] : List Int).length : Int) ≤ 2147483648) <|
      asrt ((0 : Int) ≤ k ∧ k ≤ (l.length : Int) ∧ (l.length : Int) ≤ (l.length : Int)) <|
      asrt ((((([] : List Int) ++ (slc l (0 : Int) k)) ++ ([n] : List Int)).length : Int) + ((slc l k (l.length : Int)).length : Int) ≤ 2147483648) <|
      (((
        some (((([] : List Int) ++ (slc l (0 : Int) k)) ++ ([n] : List Int)) ++ (slc l k (l.length : Int)))) : Option (List Int))).bind fun e => match e with
      | v =>
        (some v)))

def M.spec_HeldBy_l0 (list : List Hand) (who : Int) (day : Int) : (List Int × Int) → Option ((List Int × Int) ⊕ (List Int)) := fun st_ => match st_ with
| (out_0, i) =>
  bif (decide (i < (list.length : Int))) then (
    (((
      asrt ((0 : Int) ≤ i ∧ i < (list.length : Int)) <|
      (M.spec_l17Holder list ((list.getD (Int.toNat i) default).Record) day).bind fun y4 =>
      ((bif (y4 == who) then M.spec_l1Has out_0 ((list.getD (Int.toNat i) default).Record) else some default)).bind fun y5 =>
      bif ((y4 == who) && (!y5)) then (
        (M.spec_l1Put out_0 ((list.getD (Int.toNat i) default).Record)).bind fun y6 =>
        some y6)
      else (
        some out_0)) : Option (List Int))).bind fun e => match e with
    | out_1 =>
      (some (.inl (out_1, (IntKind.i64.wrap (i + (1 : Int)))))))
  else (
    some (.inr out_0))

def M.spec_HeldBy (list : List Hand) (who : Int) (day : Int) : Option (List Int × Bool) :=
  (M.spec_l17Good list).bind fun y0 =>
  ((bif (!y0) then some default else M.spec_l17Who who)).bind fun y1 =>
  ((bif ((!y0) || (!y1)) then some default else M.spec_l2Day day)).bind fun y2 =>
  bif (((!y0) || (!y1)) || (!y2)) then (
    some (([] : List Int), false))
  else (
    (iterO (M.spec_HeldBy_l0 list who day) (([] : List Int), (0 : Int))).bind fun e => match e with
    | out_ =>
      (some (out_, true)))

def M.impl_within (n : Int) (low : Int) (high : Int) : Option Bool :=
  some ((decide (low ≤ n)) && (decide (n ≤ high)))

def M.impl_isRecordId (id_ : Int) : Option Bool :=
  (M.impl_within id_ (1 : Int) (999 : Int)).bind fun y0 =>
  some y0

def M.impl_isPerson (who : Int) : Option Bool :=
  (M.impl_within who (1 : Int) (20 : Int)).bind fun y0 =>
  some y0

def M.impl_isDay (day : Int) : Option Bool :=
  (M.impl_within day (0 : Int) (20000 : Int)).bind fun y0 =>
  some y0

def M.impl_IsHand (h_ : Hand) : Option Bool :=
  (M.impl_isRecordId h_.Record).bind fun y0 =>
  ((bif y0 then M.impl_isPerson h_.From else some default)).bind fun y1 =>
  ((bif (y0 && y1) then M.impl_isPerson h_.To else some default)).bind fun y2 =>
  ((bif (((y0 && y1) && y2) && (h_.From != h_.To)) then M.impl_isDay h_.Day else some default)).bind fun y3 =>
  ((bif ((((y0 && y1) && y2) && (h_.From != h_.To)) && y3) then M.impl_within h_.Sum (0 : Int) (999999 : Int) else some default)).bind fun y4 =>
  some (((((y0 && y1) && y2) && (h_.From != h_.To)) && y3) && y4)

def M.impl_next_l0 (list : List Hand) (record : Int) : (Int) → Option ((Int) ⊕ ((Unit) ⊕ (Int))) := fun st_ => match st_ with
| i =>
  bif (decide (i < (list.length : Int))) then (
    asrt ((0 : Int) ≤ i ∧ i < (list.length : Int)) <|
    bif (((list.getD (Int.toNat i) default).Record) == record) then (
      some (.inr (.inr i)))
    else (
      some (.inl (IntKind.i64.wrap (i + (1 : Int))))))
  else (
    some (.inr (.inl ())))

def M.impl_next (list : List Hand) (record : Int) (from_ : Int) : Option Int :=
  (iterO (M.impl_next_l0 list record) from_).bind fun e => match e with
  | .inl () =>
    (some (-1 : Int))
  | .inr r => some r

def M.impl_IsCustody_l0 (list : List Hand) : (Int) → Option ((Int) ⊕ ((Unit) ⊕ (Bool))) := fun st_ => match st_ with
| v =>
  bif (decide (v < (list.length : Int))) then (
    asrt ((0 : Int) ≤ v ∧ v < (list.length : Int)) <|
    (M.impl_IsHand (list.getD (Int.toNat v) default)).bind fun y1 =>
    asrt ((!y1) = false → (decide (v > (0 : Int))) = true → ((0 : Int) ≤ (IntKind.i64.wrap (v - (1 : Int))) ∧ (IntKind.i64.wrap (v - (1 : Int))) < (list.length : Int))) <|
    bif ((!y1) || ((decide (v > (0 : Int))) && (decide (((list.getD (Int.toNat (IntKind.i64.wrap (v - (1 : Int)))) default).Day) > ((list.getD (Int.toNat v) default).Day))))) then (
      some (.inr (.inr false)))
    else (
      (M.impl_next list ((list.getD (Int.toNat v) default).Record) (IntKind.i64.wrap (v + (1 : Int)))).bind fun y2 =>
      asrt ((decide (y2 ≥ (0 : Int))) = true → ((0 : Int) ≤ y2 ∧ y2 < (list.length : Int))) <|
      bif ((decide (y2 ≥ (0 : Int))) && (((list.getD (Int.toNat y2) default).From) != ((list.getD (Int.toNat v) default).To))) then (
        some (.inr (.inr false)))
      else (
        some (.inl (IntKind.i64.wrap (v + (1 : Int)))))))
  else (
    some (.inr (.inl ())))

def M.impl_IsCustody (list : List Hand) : Option Bool :=
  (iterO (M.impl_IsCustody_l0 list) (0 : Int)).bind fun e => match e with
  | .inl () =>
    (some (decide ((list.length : Int) ≤ (12 : Int))))
  | .inr r => some r

def M.impl_holderOf_l0 (list : List Hand) (record : Int) (day : Int) : (Int × Int) → Option ((Int × Int) ⊕ (Int)) := fun st_ => match st_ with
| (who0, v) =>
  bif (decide (v < (list.length : Int))) then (
    (((
      asrt ((0 : Int) ≤ v ∧ v < (list.length : Int)) <|
      bif ((((list.getD (Int.toNat v) default).Record) == record) && (decide (((list.getD (Int.toNat v) default).Day) ≤ day))) then (
        some ((list.getD (Int.toNat v) default).To))
      else (
        some who0)) : Option Int)).bind fun e => match e with
    | who1 =>
      (some (.inl (who1, (IntKind.i64.wrap (v + (1 : Int)))))))
  else (
    some (.inr who0))

def M.impl_holderOf (list : List Hand) (record : Int) (day : Int) : Option Int :=
  (iterO (M.impl_holderOf_l0 list record day) ((0 : Int), (0 : Int))).bind fun e => match e with
  | who =>
    (some who)

def M.math_bits_Len32 (x : Int) : Option Int :=
  (((
    bif (decide (x ≥ (65536 : Int))) then (
      some ((Int.fdiv x (2 ^ (min (Int.toNat (16 : Int)) IntKind.u32.bits))), (16 : Int)))
    else (
      some (x, (0 : Int)))) : Option (Int × Int))).bind fun e => match e with
  | (x0, n_) =>
    ((((
      bif (decide (x0 ≥ (256 : Int))) then (
        some ((Int.fdiv x0 (2 ^ (min (Int.toNat (8 : Int)) IntKind.u32.bits))), (IntKind.i64.wrap (n_ + (8 : Int)))))
      else (
        some (x0, n_))) : Option (Int × Int))).bind fun e => match e with
    | (x1, n_0) =>
      (asrt ((0 : Int) ≤ (IntKind.u8.wrap x1) ∧ (IntKind.u8.wrap x1) < (([0, 1, 2, 2, 3, 3, 3, 3, 4, 4, 4, 4, 4, 4, 4, 4, 5, 5, 5, 5, 5, 5, 5, 5, 5, 5, 5, 5, 5, 5, 5, 5, 6, 6, 6, 6, 6, 6, 6, 6, 6, 6, 6, 6, 6, 6, 6, 6, 6, 6, 6, 6, 6, 6, 6, 6, 6, 6, 6, 6, 6, 6, 6, 6, 7, 7, 7, 7, 7, 7, 7, 7, 7, 7, 7, 7, 7, 7, 7, 7, 7, 7, 7, 7, 7, 7, 7, 7, 7, 7, 7, 7, 7, 7, 7, 7, 7, 7, 7, 7, 7, 7, 7, 7, 7, 7, 7, 7, 7, 7, 7, 7, 7, 7, 7, 7, 7, 7, 7, 7, 7, 7, 7, 7, 7, 7, 7, 7, 8, 8, 8, 8, 8, 8, 8, 8, 8, 8, 8, 8, 8, 8, 8, 8, 8, 8, 8, 8, 8, 8, 8, 8, 8, 8, 8, 8, 8, 8, 8, 8, 8, 8, 8, 8, 8, 8, 8, 8, 8, 8, 8, 8, 8, 8, 8, 8, 8, 8, 8, 8, 8, 8, 8, 8, 8, 8, 8, 8, 8, 8, 8, 8, 8, 8, 8, 8, 8, 8, 8, 8, 8, 8, 8, 8, 8, 8, 8, 8, 8, 8, 8, 8, 8, 8, 8, 8, 8, 8, 8, 8, 8, 8, 8, 8, 8, 8, 8, 8, 8, 8, 8, 8, 8, 8, 8, 8, 8, 8, 8, 8, 8, 8, 8, 8, 8, 8, 8, 8, 8, 8, 8, 8, 8, 8, 8, 8] : List UInt8).length : Int)) <|
      some (IntKind.i64.wrap (n_0 + (IntKind.i64.wrap ((([0, 1, 2, 2, 3, 3, 3, 3, 4, 4, 4, 4, 4, 4, 4, 4, 5, 5, 5, 5, 5, 5, 5, 5, 5, 5, 5, 5, 5, 5, 5, 5, 6, 6, 6, 6, 6, 6, 6, 6, 6, 6, 6, 6, 6, 6, 6, 6, 6, 6, 6, 6, 6, 6, 6, 6, 6, 6, 6, 6, 6, 6, 6, 6, 7, 7, 7, 7, 7, 7, 7, 7, 7, 7, 7, 7, 7, 7, 7, 7, 7, 7, 7, 7, 7, 7, 7, 7, 7, 7, 7, 7, 7, 7, 7, 7, 7, 7, 7, 7, 7, 7, 7, 7, 7, 7, 7, 7, 7, 7, 7, 7, 7, 7, 7, 7, 7, 7, 7, 7, 7, 7, 7, 7, 7, 7, 7, 7, 8, 8, 8, 8, 8, 8, 8, 8, 8, 8, 8, 8, 8, 8, 8, 8, 8, 8, 8, 8, 8, 8, 8, 8, 8, 8, 8, 8, 8, 8, 8, 8, 8, 8, 8, 8, 8, 8, 8, 8, 8, 8, 8, 8, 8, 8, 8, 8, 8, 8, 8, 8, 8, 8, 8, 8, 8, 8, 8, 8, 8, 8, 8, 8, 8, 8, 8, 8, 8, 8, 8, 8, 8, 8, 8, 8, 8, 8, 8, 8, 8, 8, 8, 8, 8, 8, 8, 8, 8, 8, 8, 8, 8, 8, 8, 8, 8, 8, 8, 8, 8, 8, 8, 8, 8, 8, 8, 8, 8, 8, 8, 8, 8, 8, 8, 8, 8, 8, 8, 8, 8, 8, 8, 8, 8, 8, 8, 8] : List UInt8).getD (Int.toNat (IntKind.u8.wrap x1)) 0).toNat : Int))))))

def M.math_bits_Len64 (x : Int) : Option Int :=
  (((
    bif (decide (x ≥ (4294967296 : Int))) then (
      some ((Int.fdiv x (2 ^ (min (Int.toNat (32 : Int)) IntKind.u64.bits))), (32 : Int)))
    else (
      some (x, (0 : Int)))) : Option (Int × Int))).bind fun e => match e with
  | (x0, n_) =>
    ((((
      bif (decide (x0 ≥ (65536 : Int))) then (
        some ((Int.fdiv x0 (2 ^ (min (Int.toNat (16 : Int)) IntKind.u64.bits))), (IntKind.i64.wrap (n_ + (16 : Int)))))
      else (
        some (x0, n_))) : Option (Int × Int))).bind fun e => match e with
    | (x1, n_0) =>
      ((((
        bif (decide (x1 ≥ (256 : Int))) then (
          some ((Int.fdiv x1 (2 ^ (min (Int.toNat (8 : Int)) IntKind.u64.bits))), (IntKind.i64.wrap (n_0 + (8 : Int)))))
        else (
          some (x1, n_0))) : Option (Int × Int))).bind fun e => match e with
      | (x2, n_1) =>
        (asrt ((0 : Int) ≤ (IntKind.u8.wrap x2) ∧ (IntKind.u8.wrap x2) < (([0, 1, 2, 2, 3, 3, 3, 3, 4, 4, 4, 4, 4, 4, 4, 4, 5, 5, 5, 5, 5, 5, 5, 5, 5, 5, 5, 5, 5, 5, 5, 5, 6, 6, 6, 6, 6, 6, 6, 6, 6, 6, 6, 6, 6, 6, 6, 6, 6, 6, 6, 6, 6, 6, 6, 6, 6, 6, 6, 6, 6, 6, 6, 6, 7, 7, 7, 7, 7, 7, 7, 7, 7, 7, 7, 7, 7, 7, 7, 7, 7, 7, 7, 7, 7, 7, 7, 7, 7, 7, 7, 7, 7, 7, 7, 7, 7, 7, 7, 7, 7, 7, 7, 7, 7, 7, 7, 7, 7, 7, 7, 7, 7, 7, 7, 7, 7, 7, 7, 7, 7, 7, 7, 7, 7, 7, 7, 7, 8, 8, 8, 8, 8, 8, 8, 8, 8, 8, 8, 8, 8, 8, 8, 8, 8, 8, 8, 8, 8, 8, 8, 8, 8, 8, 8, 8, 8, 8, 8, 8, 8, 8, 8, 8, 8, 8, 8, 8, 8, 8, 8, 8, 8, 8, 8, 8, 8, 8, 8, 8, 8, 8, 8, 8, 8, 8, 8, 8, 8, 8, 8, 8, 8, 8, 8, 8, 8, 8, 8, 8, 8, 8, 8, 8, 8, 8, 8, 8, 8, 8, 8, 8, 8, 8, 8, 8, 8, 8, 8, 8, 8, 8, 8, 8, 8, 8, 8, 8, 8, 8, 8, 8, 8, 8, 8, 8, 8, 8, 8, 8, 8, 8, 8, 8, 8, 8, 8, 8, 8, 8, 8, 8, 8, 8, 8, 8] : List UInt8).length : Int)) <|
        some (IntKind.i64.wrap (n_1 + (IntKind.i64.wrap ((([0, 1, 2, 2, 3, 3, 3, 3, 4, 4, 4, 4, 4, 4, 4, 4, 5, 5, 5, 5, 5, 5, 5, 5, 5, 5, 5, 5, 5, 5, 5, 5, 6, 6, 6, 6, 6, 6, 6, 6, 6, 6, 6, 6, 6, 6, 6, 6, 6, 6, 6, 6, 6, 6, 6, 6, 6, 6, 6, 6, 6, 6, 6, 6, 7, 7, 7, 7, 7, 7, 7, 7, 7, 7, 7, 7, 7, 7, 7, 7, 7, 7, 7, 7, 7, 7, 7, 7, 7, 7, 7, 7, 7, 7, 7, 7, 7, 7, 7, 7, 7, 7, 7, 7, 7, 7, 7, 7, 7, 7, 7, 7, 7, 7, 7, 7, 7, 7, 7, 7, 7, 7, 7, 7, 7, 7, 7, 7, 8, 8, 8, 8, 8, 8, 8, 8, 8, 8, 8, 8, 8, 8, 8, 8, 8, 8, 8, 8, 8, 8, 8, 8, 8, 8, 8, 8, 8, 8, 8, 8, 8, 8, 8, 8, 8, 8, 8, 8, 8, 8, 8, 8, 8, 8, 8, 8, 8, 8, 8, 8, 8, 8, 8, 8, 8, 8, 8, 8, 8, 8, 8, 8, 8, 8, 8, 8, 8, 8, 8, 8, 8, 8, 8, 8, 8, 8, 8, 8, 8, 8, 8, 8, 8, 8, 8, 8, 8, 8, 8, 8, 8, 8, 8, 8, 8, 8, 8, 8, 8, 8, 8, 8, 8, 8, 8, 8, 8, 8, 8, 8, 8, 8, 8, 8, 8, 8, 8, 8, 8, 8, 8, 8, 8, 8, 8, 8] : List UInt8).getD (Int.toNat (IntKind.u8.wrap x2)) 0).toNat : Int)))))))

def M.math_bits_Len (x : Int) : Option Int :=
  bif false then (
    (M.math_bits_Len32 (IntKind.u32.wrap x)).bind fun y0 =>
    some y0)
  else (
    (M.math_bits_Len64 x).bind fun y1 =>
    some y1)

def M.cmp_isNaN_int (x : Int) : Option Bool :=
  some (x != x)

def M.cmp_Less_int (x : Int) (y : Int) : Option Bool :=
  (M.cmp_isNaN_int x).bind fun y0 =>
  ((bif y0 then M.cmp_isNaN_int y else some default)).bind fun y1 =>
  some ((y0 && (!y1)) || (decide (x < y)))

def M.slices_insertionSortOrdered_int_l1 (a : Int) : (List Int × Int) → Option ((List Int × Int) ⊕ (List Int)) := fun st_ => match st_ with
| (data3, j_) =>
  asrt ((decide (j_ > a)) = true → ((0 : Int) ≤ j_ ∧ j_ < (data3.length : Int))) <|
  asrt ((decide (j_ > a)) = true → ((0 : Int) ≤ (IntKind.i64.wrap (j_ - (1 : Int))) ∧ (IntKind.i64.wrap (j_ - (1 : Int))) < (data3.length : Int))) <|
  ((bif (decide (j_ > a)) then M.cmp_Less_int (data3.getD (Int.toNat j_) default) (data3.getD (Int.toNat (IntKind.i64.wrap (j_ - (1 : Int)))) default) else some default)).bind fun y2 =>
  bif ((decide (j_ > a)) && y2) then (
    asrt ((0 : Int) ≤ (IntKind.i64.wrap (j_ - (1 : Int))) ∧ (IntKind.i64.wrap (j_ - (1 : Int))) < (data3.length : Int)) <|
    asrt ((0 : Int) ≤ j_ ∧ j_ < (data3.length : Int)) <|
    asrt ((0 : Int) ≤ j_ ∧ j_ < (data3.length : Int)) <|
    asrt ((0 : Int) ≤ (IntKind.i64.wrap (j_ - (1 : Int))) ∧ (IntKind.i64.wrap (j_ - (1 : Int))) < ((data3.set (Int.toNat j_) (data3.getD (Int.toNat (IntKind.i64.wrap (j_ - (1 : Int)))) default)).length : Int)) <|
    (((
      some ((data3.set (Int.toNat j_) (data3.getD (Int.toNat (IntKind.i64.wrap (j_ - (1 : Int)))) default)).set (Int.toNat (IntKind.i64.wrap (j_ - (1 : Int)))) (data3.getD (Int.toNat j_) default))) : Option (List Int))).bind fun e => match e with
    | data4 =>
      (some (.inl (data4, (IntKind.i64.wrap (j_ - (1 : Int)))))))
  else (
    some (.inr data3))

def M.slices_insertionSortOrdered_int_l0 (a : Int) (b_ : Int) : (List Int × Int) → Option ((List Int × Int) ⊕ (List Int)) := fun st_ => match st_ with
| (data1, i) =>
  bif (decide (i < b_)) then (
    (iterO (M.slices_insertionSortOrdered_int_l1 a) (data1, i)).bind fun e => match e with
    | data2 =>
      (some (.inl (data2, (IntKind.i64.wrap (i + (1 : Int)))))))
  else (
    some (.inr data1))

def M.slices_insertionSortOrdered_int (data : List Int) (a : Int) (b_ : Int) : Option (List Int) :=
  (iterO (M.slices_insertionSortOrdered_int_l0 a b_) (data, (IntKind.i64.wrap (a + (1 : Int))))).bind fun e => match e with
  | data0 =>
    (some data0)

def M.slices_pdqsortOrdered_int_l0 (data : List Int) : (Int × Int × Int × Bool × Bool) → Option ((Int × Int × Int × Bool × Bool) ⊕ (List Int)) := fun st_ => match st_ with
| (a0, b_0, limit0, wasBalanced, wasPartitioned) =>
  asrt ((decide ((IntKind.i64.wrap (b_0 - a0)) ≤ (12 : Int))) = true) <|
  (M.slices_insertionSortOrdered_int data a0 b_0).bind fun y1 =>
  asrt (y1.length = data.length) <|
  some (.inr y1)

def M.slices_pdqsortOrdered_int (data : List Int) (a : Int) (b_ : Int) (limit : Int) : Option (List Int) :=
  (iterO (M.slices_pdqsortOrdered_int_l0 data) (a, b_, limit, true, true)).bind fun e => match e with
  | r => some r

def M.slices_Sort_int_int (x : List Int) : Option (List Int) :=
  (M.math_bits_Len (IntKind.u64.wrap (x.length : Int))).bind fun y0 =>
  (M.slices_pdqsortOrdered_int x (0 : Int) (x.length : Int) y0).bind fun y1 =>
  asrt (y1.length = x.length) <|
  some y1

def M.slices_Compact_int_int_l1 (s : List Int) (k : Int) : (List Int × Int × Int) → Option ((List Int × Int × Int) ⊕ (List Int × Int)) := fun st_ => match st_ with
| (s1, k1, k2) =>
  bif (decide (k2 < (((Int.toNat (((List.length s) : Nat) : Int) - Int.toNat k) : Nat) : Int))) then (
    (((
      asrt ((0 : Int) ≤ k2 ∧ k2 < (((Int.toNat (((List.length s) : Nat) : Int) - Int.toNat k) : Nat) : Int)) <|
      asrt (((0 + Int.toNat k) + Int.toNat k2) < s1.length) <|
      asrt ((0 : Int) ≤ (IntKind.i64.wrap (k2 - (1 : Int))) ∧ (IntKind.i64.wrap (k2 - (1 : Int))) < (((Int.toNat (((List.length s) : Nat) : Int) - Int.toNat k) : Nat) : Int)) <|
      asrt (((0 + Int.toNat k) + Int.toNat (IntKind.i64.wrap (k2 - (1 : Int)))) < s1.length) <|
      bif ((s1.getD ((0 + Int.toNat k) + Int.toNat k2) default) != (s1.getD ((0 + Int.toNat k) + Int.toNat (IntKind.i64.wrap (k2 - (1 : Int)))) default)) then (
        asrt ((0 : Int) ≤ k2 ∧ k2 < (((Int.toNat (((List.length s) : Nat) : Int) - Int.toNat k) : Nat) : Int)) <|
        asrt (((0 + Int.toNat k) + Int.toNat k2) < s1.length) <|
        asrt ((0 : Int) ≤ k1 ∧ k1 < (s1.length : Int)) <|
        some ((s1.set (Int.toNat k1) (s1.getD ((0 + Int.toNat k) + Int.toNat k2) default)), (IntKind.i64.wrap (k1 + (1 : Int)))))
      else (
        some (s1, k1))) : Option (List Int × Int))).bind fun e => match e with
    | (s2, k3) =>
      (some (.inl (s2, k3, (IntKind.i64.wrap (k2 + (1 : Int)))))))
  else (
    some (.inr (s1, k1)))

def M.slices_Compact_int_int_l0 (s : List Int) : (Int) → Option ((Int) ⊕ ((Unit) ⊕ (List Int))) := fun st_ => match st_ with
| k =>
  bif (decide (k < (s.length : Int))) then (
    asrt ((0 : Int) ≤ k ∧ k < (s.length : Int)) <|
    asrt ((0 : Int) ≤ (IntKind.i64.wrap (k - (1 : Int))) ∧ (IntKind.i64.wrap (k - (1 : Int))) < (s.length : Int)) <|
    bif ((s.getD (Int.toNat k) default) == (s.getD (Int.toNat (IntKind.i64.wrap (k - (1 : Int)))) default)) then (
      asrt ((0 : Int) ≤ k ∧ k ≤ (((List.length s) : Nat) : Int) ∧ (((List.length s) : Nat) : Int) ≤ (((List.length s) : Nat) : Int)) <|
      (iterO (M.slices_Compact_int_int_l1 s k) (s, k, (1 : Int))).bind fun e => match e with
      | (s0, k0) =>
        (asrt ((0 : Int) ≤ k0 ∧ k0 ≤ (((List.length s0) : Nat) : Int) ∧ (((List.length s0) : Nat) : Int) ≤ (((List.length s0) : Nat) : Int)) <|
        asrt ((0 + Int.toNat k0) + (Int.toNat (((List.length s0) : Nat) : Int) - Int.toNat k0) ≤ s0.length) <|
        asrt ((0 : Int) ≤ (0 : Int) ∧ (0 : Int) ≤ k0 ∧ k0 ≤ ((List.take (0 + Int.toNat k0) s0 ++ List.replicate (Int.toNat (((List.length s0) : Nat) : Int) - Int.toNat k0) (0 : Int) ++ List.drop ((0 + Int.toNat k0) + (Int.toNat (((List.length s0) : Nat) : Int) - Int.toNat k0)) s0).length : Int)) <|
        asrt ((Int.toNat k0 - Int.toNat (0 : Int)) ≤ (List.take (0 + Int.toNat k0) s0 ++ List.replicate (Int.toNat (((List.length s0) : Nat) : Int) - Int.toNat k0) (0 : Int) ++ List.drop ((0 + Int.toNat k0) + (Int.toNat (((List.length s0) : Nat) : Int) - Int.toNat k0)) s0).length) <|
        some (.inr (.inr (List.take (Int.toNat k0 - Int.toNat (0 : Int)) (List.take (0 + Int.toNat k0) s0 ++ List.replicate (Int.toNat (((List.length s0) : Nat) : Int) - Int.toNat k0) (0 : Int) ++ List.drop ((0 + Int.toNat k0) + (Int.toNat (((List.length s0) : Nat) : Int) - Int.toNat k0)) s0))))))
    else (
      some (.inl (IntKind.i64.wrap (k + (1 : Int))))))
  else (
    some (.inr (.inl ())))

def M.slices_Compact_int_int (s : List Int) : Option (List Int) :=
  bif (decide ((s.length : Int) < (2 : Int))) then (
    some s)
  else (
    (iterO (M.slices_Compact_int_int_l0 s) (1 : Int)).bind fun e => match e with
    | .inl () =>
      (some s)
    | .inr r => some r)

def M.impl_eachOnce (list : List Int) : Option (List Int) :=
  (M.slices_Sort_int_int list).bind fun y0 =>
  asrt (y0.length = list.length) <|
  (M.slices_Compact_int_int y0).bind fun y1 =>
  some y1

def M.impl_HeldBy_l0 (list : List Hand) (who : Int) (day : Int) : (List Int × Int) → Option ((List Int × Int) ⊕ (List Int)) := fun st_ => match st_ with
| (records0, v) =>
  bif (decide (v < (list.length : Int))) then (
    (((
      asrt ((0 : Int) ≤ v ∧ v < (list.length : Int)) <|
      (M.impl_holderOf list ((list.getD (Int.toNat v) default).Record) day).bind fun y4 =>
      bif (y4 == who) then (
        asrt ((records0.length : Int) + (([(list.getD (Int.toNat v) default).Record] : List Int).length : Int) ≤ 2147483648) <|
        some (records0 ++ ([(list.getD (Int.toNat v) default).Record] : List Int)))
      else (
        some records0)) : Option (List Int))).bind fun e => match e with
    | records1 =>
      (some (.inl (records1, (IntKind.i64.wrap (v + (1 : Int)))))))
  else (
    some (.inr records0))

def M.impl_HeldBy (list : List Hand) (who : Int) (day : Int) : Option (List Int × Bool) :=
  (M.impl_IsCustody list).bind fun y0 =>
  ((bif (!y0) then some default else M.impl_isPerson who)).bind fun y1 =>
  ((bif ((!y0) || (!y1)) then some default else M.impl_isDay day)).bind fun y2 =>
  bif (((!y0) || (!y1)) || (!y2)) then (
    some (([] : List Int), false))
  else (
    (iterO (M.impl_HeldBy_l0 list who day) (([] : List Int), (0 : Int))).bind fun e => match e with
    | records =>
      ((M.impl_eachOnce records).bind fun y5 =>
      some (y5, true)))

def M.laws_eqIntS_l0 (a : List Int) (b_ : List Int) : (Int) → Option ((Int) ⊕ ((Unit) ⊕ (Bool))) := fun st_ => match st_ with
| i =>
  bif (decide (i < (a.length : Int))) then (
    asrt ((0 : Int) ≤ i ∧ i < (a.length : Int)) <|
    asrt ((0 : Int) ≤ i ∧ i < (b_.length : Int)) <|
    bif ((a.getD (Int.toNat i) default) != (b_.getD (Int.toNat i) default)) then (
      some (.inr (.inr false)))
    else (
      some (.inl (IntKind.i64.wrap (i + (1 : Int))))))
  else (
    some (.inr (.inl ())))

def M.laws_eqIntS (a : List Int) (b_ : List Int) : Option Bool :=
  bif ((a.length : Int) != (b_.length : Int)) then (
    some false)
  else (
    (iterO (M.laws_eqIntS_l0 a b_) (0 : Int)).bind fun e => match e with
    | .inl () =>
      (some true)
    | .inr r => some r)

def M.laws_eqHand (a : Hand) (b_ : Hand) : Option Bool :=
  bif (a.Record != b_.Record) then (
    some false)
  else (
    bif (a.From != b_.From) then (
      some false)
    else (
      bif (a.To != b_.To) then (
        some false)
      else (
        bif (a.Day != b_.Day) then (
          some false)
        else (
          bif (a.Sum != b_.Sum) then (
            some false)
          else (
            bif (!(a.Seal == b_.Seal)) then (
              some false)
            else (
              some true))))))

def M.laws_eqHandS_l0 (a : List Hand) (b_ : List Hand) : (Int) → Option ((Int) ⊕ ((Unit) ⊕ (Bool))) := fun st_ => match st_ with
| i =>
  bif (decide (i < (a.length : Int))) then (
    asrt ((0 : Int) ≤ i ∧ i < (a.length : Int)) <|
    asrt ((0 : Int) ≤ i ∧ i < (b_.length : Int)) <|
    (M.laws_eqHand (a.getD (Int.toNat i) default) (b_.getD (Int.toNat i) default)).bind fun y1 =>
    bif (!y1) then (
      some (.inr (.inr false)))
    else (
      some (.inl (IntKind.i64.wrap (i + (1 : Int))))))
  else (
    some (.inr (.inl ())))

def M.laws_eqHandS (a : List Hand) (b_ : List Hand) : Option Bool :=
  bif ((a.length : Int) != (b_.length : Int)) then (
    some false)
  else (
    (iterO (M.laws_eqHandS_l0 a b_) (0 : Int)).bind fun e => match e with
    | .inl () =>
      (some true)
    | .inr r => some r)

def M.laws_markHandS_l0 : (List Hand × Int × Int) → Option ((List Hand × Int × Int) ⊕ (List Hand × Int)) := fun st_ => match st_ with
| (a1, k1, i) =>
  bif (decide (i < (a1.length : Int))) then (
    asrt ((0 : Int) ≤ i ∧ i < (a1.length : Int)) <|
    asrt ((0 : Int) ≤ i ∧ i < ((a1.set (Int.toNat i) (⟨k1, (a1.getD (Int.toNat i) default).From, (a1.getD (Int.toNat i) default).To, (a1.getD (Int.toNat i) default).Day, (a1.getD (Int.toNat i) default).Sum, (a1.getD (Int.toNat i) default).Seal⟩ : Hand)).length : Int)) <|
    asrt ((0 : Int) ≤ i ∧ i < ((a1.set (Int.toNat i) (⟨k1, (IntKind.i64.wrap (k1 + (1 : Int))), (a1.getD (Int.toNat i) default).To, (a1.getD (Int.toNat i) default).Day, (a1.getD (Int.toNat i) default).Sum, (a1.getD (Int.toNat i) default).Seal⟩ : Hand)).length : Int)) <|
    asrt ((0 : Int) ≤ i ∧ i < ((a1.set (Int.toNat i) (⟨k1, (IntKind.i64.wrap (k1 + (1 : Int))), (IntKind.i64.wrap ((IntKind.i64.wrap (k1 + (1 : Int))) + (1 : Int))), (a1.getD (Int.toNat i) default).Day, (a1.getD (Int.toNat i) default).Sum, (a1.getD (Int.toNat i) default).Seal⟩ : Hand)).length : Int)) <|
    asrt ((0 : Int) ≤ i ∧ i < ((a1.set (Int.toNat i) (⟨k1, (IntKind.i64.wrap (k1 + (1 : Int))), (IntKind.i64.wrap ((IntKind.i64.wrap (k1 + (1 : Int))) + (1 : Int))), (IntKind.i64.wrap ((IntKind.i64.wrap ((IntKind.i64.wrap (k1 + (1 : Int))) + (1 : Int))) + (1 : Int))), (a1.getD (Int.toNat i) default).Sum, (a1.getD (Int.toNat i) default).Seal⟩ : Hand)).length : Int)) <|
    asrt ((0 : Int) ≤ i ∧ i < ((a1.set (Int.toNat i) (⟨k1, (IntKind.i64.wrap (k1 + (1 : Int))), (IntKind.i64.wrap ((IntKind.i64.wrap (k1 + (1 : Int))) + (1 : Int))), (IntKind.i64.wrap ((IntKind.i64.wrap ((IntKind.i64.wrap (k1 + (1 : Int))) + (1 : Int))) + (1 : Int))), (IntKind.i64.wrap ((IntKind.i64.wrap ((IntKind.i64.wrap ((IntKind.i64.wrap (k1 + (1 : Int))) + (1 : Int))) + (1 : Int))) + (1 : Int))), (a1.getD (Int.toNat i) default).Seal⟩ : Hand)).length : Int)) <|
    some (.inl ((a1.set (Int.toNat i) (⟨k1, (IntKind.i64.wrap (k1 + (1 : Int))), (IntKind.i64.wrap ((IntKind.i64.wrap (k1 + (1 : Int))) + (1 : Int))), (IntKind.i64.wrap ((IntKind.i64.wrap ((IntKind.i64.wrap (k1 + (1 : Int))) + (1 : Int))) + (1 : Int))), (IntKind.i64.wrap ((IntKind.i64.wrap ((IntKind.i64.wrap ((IntKind.i64.wrap (k1 + (1 : Int))) + (1 : Int))) + (1 : Int))) + (1 : Int))), ((Int.tmod (IntKind.i64.wrap ((IntKind.i64.wrap ((IntKind.i64.wrap ((IntKind.i64.wrap ((IntKind.i64.wrap (k1 + (1 : Int))) + (1 : Int))) + (1 : Int))) + (1 : Int))) + (1 : Int))) (3 : Int)) == (0 : Int))⟩ : Hand)), (IntKind.i64.wrap ((IntKind.i64.wrap ((IntKind.i64.wrap ((IntKind.i64.wrap ((IntKind.i64.wrap ((IntKind.i64.wrap (k1 + (1 : Int))) + (1 : Int))) + (1 : Int))) + (1 : Int))) + (1 : Int))) + (1 : Int))), (IntKind.i64.wrap (i + (1 : Int))))))
  else (
    some (.inr (a1, k1)))

def M.laws_markHandS (a : List Hand) (k : Int) : Option (Int × List Hand) :=
  (iterO (M.laws_markHandS_l0) (a, k, (0 : Int))).bind fun e => match e with
  | (a0, k0) =>
    (some (k0, a0))

def M.laws_markIntS_l0 : (List Int × Int × Int) → Option ((List Int × Int × Int) ⊕ (List Int × Int)) := fun st_ => match st_ with
| (a1, k1, i) =>
  bif (decide (i < (a1.length : Int))) then (
    asrt ((0 : Int) ≤ i ∧ i < (a1.length : Int)) <|
    some (.inl ((a1.set (Int.toNat i) k1), (IntKind.i64.wrap (k1 + (1 : Int))), (IntKind.i64.wrap (i + (1 : Int))))))
  else (
    some (.inr (a1, k1)))

def M.laws_markIntS (a : List Int) (k : Int) : Option (Int × List Int) :=
  (iterO (M.laws_markIntS_l0) (a, k, (0 : Int))).bind fun e => match e with
  | (a0, k0) =>
    (some (k0, a0))

def M.laws_heldIntS_l0 (a : List Int) : (Int × Int) → Option ((Int × Int) ⊕ ((Int) ⊕ (Int))) := fun st_ => match st_ with
| (k1, i) =>
  bif (decide (i < (a.length : Int))) then (
    asrt ((0 : Int) ≤ i ∧ i < (a.length : Int)) <|
    bif ((a.getD (Int.toNat i) default) != k1) then (
      some (.inr (.inr (-1 : Int))))
    else (
      some (.inl ((IntKind.i64.wrap (k1 + (1 : Int))), (IntKind.i64.wrap (i + (1 : Int)))))))
  else (
    some (.inr (.inl k1)))

def M.laws_heldIntS (a : List Int) (k : Int) : Option Int :=
  (iterO (M.laws_heldIntS_l0 a) (k, (0 : Int))).bind fun e => match e with
  | .inl k0 =>
    (some k0)
  | .inr r => some r

def M.laws_FnExactHeldBy (aList : List Hand) (aWho : Int) (aDay : Int) : Option Bool :=
  (M.laws_szHandS aList (1048576 : Int)).bind fun y0 =>
  bif (decide (y0 < (0 : Int))) then (
    some true)
  else (
    (M.laws_toHandS aList).bind fun y1 =>
    (M.spec_HeldBy y1 aWho aDay).bind fun y2 =>
    (M.laws_toHandS aList).bind fun y3 =>
    (M.impl_HeldBy y3 aWho aDay).bind fun y4 =>
    (M.laws_eqIntS y4.1 y2.1).bind fun y5 =>
    bif ((!y5) || (!(y4.2 == y2.2))) then (
      some false)
    else (
      (M.laws_toHandS aList).bind fun y6 =>
      (M.laws_eqHandS y3 y6).bind fun y7 =>
      bif (!y7) then (
        some false)
      else (
        (M.laws_markHandS y3 (1 : Int)).bind fun y8 =>
        asrt (y8.2.length = y3.length) <|
        ((bif (decide (y8.1 < (0 : Int))) then some default else M.laws_eqIntS y4.1 y2.1)).bind fun y9 =>
        bif (((decide (y8.1 < (0 : Int))) || (!y9)) || (!(y4.2 == y2.2))) then (
          some false)
        else (
          (M.laws_markIntS y4.1 (1 : Int)).bind fun y10 =>
          asrt (y10.2.length = y4.1.length) <|
          (M.laws_heldIntS y10.2 (1 : Int)).bind fun y11 =>
          bif (decide (y11 < (0 : Int))) then (
            some false)
          else (
            bif (y11 != y10.1) then (
              some false)
            else (
              (M.laws_toHandS aList).bind fun y12 =>
              (M.impl_HeldBy y12 aWho aDay).bind fun y13 =>
              (M.laws_eqIntS y13.1 y2.1).bind fun y14 =>
              bif ((!y14) || (!(y13.2 == y2.2))) then (
                some false)
              else (
                (M.laws_heldIntS y10.2 (1 : Int)).bind fun y15 =>
                bif (decide (y15 < (0 : Int))) then (
                  some false)
                else (
                  bif (y15 != y10.1) then (
                    some false)
                  else (
                    some true)))))))))
end Go.Proofs.Ytmpknfachmfbaaa
