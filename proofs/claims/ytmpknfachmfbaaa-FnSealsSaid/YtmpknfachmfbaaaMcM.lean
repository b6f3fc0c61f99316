/- models of the functions -/
import Derived.Test.YtmpknfachmfbaaaWg
set_option linter.unusedSimpArgs false
set_option linter.unusedVariables false
set_option maxRecDepth 100000
namespace Go.Proofs.Ytmpknfachmfbaaa
open Go.VS

structure Hand where
  Record : Int
  From : Int
  To : Int
  Day : Int
  Sum : Int
  Seal : Bool
  deriving Inhabited, DecidableEq

abbrev encHand (c : Hand) : PV := .agg [.int .i64 c.Record, .int .i64 c.From, .int .i64 c.To, .int .i64 c.Day, .int .i64 c.Sum, .bool c.Seal]

structure Cur where
  Code : List Int
  At : Int
  Seed : Int
  deriving Inhabited, DecidableEq

abbrev encCur (ρ : Nat) (c : Cur) : PV := .agg [.vl ρ 1 (List.map encU8 c.Code), .int .i64 c.At, .int .u64 c.Seed]

def M.laws_szHandS (a : List Hand) (left : Int) : Option Int :=
  bif (decide ((IntKind.i64.wrap (left - (a.length : Int))) < (0 : Int))) then (
    some (-1 : Int))
  else (
    some (IntKind.i64.wrap (left - (a.length : Int))))

def M.laws_toHand (a : Hand) : Option Hand :=
  some (⟨a.Record, a.From, a.To, a.Day, a.Sum, a.Seal⟩ : Hand)

def M.laws_toHandS_l0 (a : List Hand) : (List Hand × Int) → Option ((List Hand × Int) ⊕ (List Hand)) := fun st_ => match st_ with
| (out_0, i) =>
  bif (decide (i < (a.length : Int))) then (
    asrt ((0 : Int) ≤ i ∧ i < (a.length : Int)) <|
    (M.laws_toHand (a.getD (Int.toNat i) default)).bind fun y1 =>
    asrt ((0 : Int) ≤ i ∧ i < (out_0.length : Int)) <|
    some (.inl ((out_0.set (Int.toNat i) y1), (IntKind.i64.wrap (i + (1 : Int))))))
  else (
    some (.inr out_0))

def M.laws_toHandS (a : List Hand) : Option (List Hand) :=
  asrt ((0 : Int) ≤ (a.length : Int) ∧ (a.length : Int) ≤ (a.length : Int) ∧ (a.length : Int) ≤ 2147483648) <|
  (iterO (M.laws_toHandS_l0 a) ((List.replicate (Int.toNat (a.length : Int)) (⟨(0 : Int), (0 : Int), (0 : Int), (0 : Int), (0 : Int), false⟩ : Hand)), (0 : Int))).bind fun e => match e with
  | out_ =>
    (some out_)

def M.spec_l1In (x : Int) (a : Int) (b_ : Int) : Option Bool :=
  some ((decide (x ≥ a)) && (decide (x ≤ b_)))

def M.spec_l17Record (record : Int) : Option Bool :=
  (M.spec_l1In record (1 : Int) (999 : Int)).bind fun y0 =>
  some y0

def M.spec_l17Who (who : Int) : Option Bool :=
  (M.spec_l1In who (1 : Int) (20 : Int)).bind fun y0 =>
  some y0

def M.spec_l2Day (d : Int) : Option Bool :=
  (M.spec_l1In d (0 : Int) (20000 : Int)).bind fun y0 =>
  some y0

def M.spec_l17One (h_ : Hand) : Option Bool :=
  (M.spec_l17Record h_.Record).bind fun y0 =>
  ((bif y0 then M.spec_l17Who h_.From else some default)).bind fun y1 =>
  ((bif (y0 && y1) then M.spec_l17Who h_.To else some default)).bind fun y2 =>
  ((bif (((y0 && y1) && y2) && (h_.From != h_.To)) then M.spec_l2Day h_.Day else some default)).bind fun y3 =>
  ((bif ((((y0 && y1) && y2) && (h_.From != h_.To)) && y3) then M.spec_l1In h_.Sum (0 : Int) (999999 : Int) else some default)).bind fun y4 =>
  some (((((y0 && y1) && y2) && (h_.From != h_.To)) && y3) && y4)

def M.spec_l17Before_l0 (list : List Hand) (record : Int) : (Int) → Option ((Int) ⊕ ((Unit) ⊕ (Int))) := fun st_ => match st_ with
| k =>
  bif (decide (k ≥ (0 : Int))) then (
    asrt ((0 : Int) ≤ k ∧ k < (list.length : Int)) <|
    bif (((list.getD (Int.toNat k) default).Record) == record) then (
      some (.inr (.inr k)))
    else (
      some (.inl (IntKind.i64.wrap (k - (1 : Int))))))
  else (
    some (.inr (.inl ())))

def M.spec_l17Before (list : List Hand) (record : Int) (i : Int) : Option Int :=
  (iterO (M.spec_l17Before_l0 list record) (IntKind.i64.wrap (i - (1 : Int)))).bind fun e => match e with
  | .inl () =>
    (some (-1 : Int))
  | .inr r => some r

def M.spec_l17Good_l0 (list : List Hand) : (Int) → Option ((Int) ⊕ ((Unit) ⊕ (Bool))) := fun st_ => match st_ with
| i =>
  bif (decide (i < (list.length : Int))) then (
    asrt ((0 : Int) ≤ i ∧ i < (list.length : Int)) <|
    (M.spec_l17One (list.getD (Int.toNat i) default)).bind fun y1 =>
    asrt ((!y1) = false → (decide (i > (0 : Int))) = true → ((0 : Int) ≤ (IntKind.i64.wrap (i - (1 : Int))) ∧ (IntKind.i64.wrap (i - (1 : Int))) < (list.length : Int))) <|
    bif ((!y1) || ((decide (i > (0 : Int))) && (decide (((list.getD (Int.toNat (IntKind.i64.wrap (i - (1 : Int)))) default).Day) > ((list.getD (Int.toNat i) default).Day))))) then (
      some (.inr (.inr false)))
    else (
      (M.spec_l17Before list ((list.getD (Int.toNat i) default).Record) i).bind fun y2 =>
      asrt ((decide (y2 ≥ (0 : Int))) = true → ((0 : Int) ≤ y2 ∧ y2 < (list.length : Int))) <|
      bif ((decide (y2 ≥ (0 : Int))) && (((list.getD (Int.toNat y2) default).To) != ((list.getD (Int.toNat i) default).From))) then (
        some (.inr (.inr false)))
      else (
        some (.inl (IntKind.i64.wrap (i + (1 : Int)))))))
  else (
    some (.inr (.inl ())))

def M.spec_l17Good (list : List Hand) : Option Bool :=
  (iterO (M.spec_l17Good_l0 list) (0 : Int)).bind fun e => match e with
  | .inl () =>
    (some (decide ((list.length : Int) ≤ (12 : Int))))
  | .inr r => some r

def M.spec_l17Turns_l0 (list : List Hand) : (List (List Int) × Int) → Option ((List (List Int) × Int) ⊕ (List (List Int))) := fun st_ => match st_ with
| (out_0, i) =>
  bif (decide (i < (list.length : Int))) then (
    (((
      asrt ((0 : Int) ≤ i ∧ i < (list.length : Int)) <|
      (M.spec_l17Before list ((list.getD (Int.toNat i) default).Record) i).bind fun y1 =>
      asrt ((decide (y1 ≥ (0 : Int))) = true → ((0 : Int) ≤ y1 ∧ y1 < (list.length : Int))) <|
      asrt ((decide (y1 ≥ (0 : Int))) = true → ((0 : Int) ≤ i ∧ i < (list.length : Int))) <|
      bif ((decide (y1 ≥ (0 : Int))) && (((list.getD (Int.toNat y1) default).Sum) != ((list.getD (Int.toNat i) default).Sum))) then (
        asrt ((out_0.length : Int) + (([([y1, i] : List Int)] : List (List Int)).length : Int) ≤ 2147483648) <|
        some (out_0 ++ ([([y1, i] : List Int)] : List (List Int))))
      else (
        some out_0)) : Option (List (List Int)))).bind fun e => match e with
    | out_1 =>
      (some (.inl (out_1, (IntKind.i64.wrap (i + (1 : Int)))))))
  else (
    some (.inr out_0))

def M.spec_l17Turns (list : List Hand) : Option (List (List Int)) :=
  (iterO (M.spec_l17Turns_l0 list) (([] : List (List Int)), (0 : Int))).bind fun e => match e with
  | out_ =>
    (some out_)

def M.spec_l1Has_l0 (l : List Int) (n : Int) : (Int) → Option ((Int) ⊕ ((Unit) ⊕ (Bool))) := fun st_ => match st_ with
| i =>
  bif (decide (i < (l.length : Int))) then (
    asrt ((0 : Int) ≤ i ∧ i < (l.length : Int)) <|
    bif ((l.getD (Int.toNat i) default) == n) then (
      some (.inr (.inr true)))
    else (
      some (.inl (IntKind.i64.wrap (i + (1 : Int))))))
  else (
    some (.inr (.inl ())))

def M.spec_l1Has (l : List Int) (n : Int) : Option Bool :=
  (iterO (M.spec_l1Has_l0 l n) (0 : Int)).bind fun e => match e with
  | .inl () =>
    (some false)
  | .inr r => some r

def M.spec_l1Put_l0 (l : List Int) (n : Int) : (Int) → Option ((Int) ⊕ (Int)) := fun st_ => match st_ with
| k0 =>
  asrt ((decide (k0 < (l.length : Int))) = true → ((0 : Int) ≤ k0 ∧ k0 < (l.length : Int))) <|
  bif ((decide (k0 < (l.length : Int))) && (decide ((l.getD (Int.toNat k0) default) < n))) then (
    some (.inl (IntKind.i64.wrap (k0 + (1 : Int)))))
  else (
    some (.inr k0))

def M.spec_l1Put (l : List Int) (n : Int) : Option (List Int) :=
  (iterO (M.spec_l1Put_l0 l n) (0 : Int)).bind fun e => match e with
  | k =>
    (asrt ((decide (k < (l.length : Int))) = true → ((0 : Int) ≤ k ∧ k < (l.length : Int))) <|
    bif ((decide (k < (l.length : Int))) && ((l.getD (Int.toNat k) default) == n)) then (
      some l)
    else (
      asrt ((0 : Int) ≤ (0 : Int) ∧ (0 : Int) ≤ k ∧ k ≤ (l.length : Int)) <|
      asrt ((([] : List Int).length : Int) + ((slc l (0 : Int) k).length : Int) ≤ 2147483648) <|
      asrt (((([] : List Int) ++ (slc l (0 : Int) k)).length : Int) + (([n] : List Int).length : Int) ≤ 2147483648) <|
      asrt ((0 : Int) ≤ k ∧ k ≤ (l.length : Int) ∧ (l.length : Int) ≤ (l.length : Int)) <|
      asrt ((((([] : List Int) ++ (slc l (0 : Int) k)) ++ ([n] : List Int)).length : Int) + ((slc l k (l.length : Int)).length : Int) ≤ 2147483648) <|
      (((
        some (((([] : List Int) ++ (slc l (0 : Int) k)) ++ ([n] : List Int)) ++ (slc l k (l.length : Int)))) : Option (List Int))).bind fun e => match e with
      | v =>
        (some v)))

def M.spec_NotWhole_l0 (list : List Hand) (y1 : List (List Int)) : (List Int × Int) → Option ((List Int × Int) ⊕ (List Int)) := fun st_ => match st_ with
| (out_0, i) =>
  bif (decide (i < (y1.length : Int))) then (
    (((
      asrt ((0 : Int) ≤ i ∧ i < (y1.length : Int)) <|
      asrt ((0 : Int) ≤ (0 : Int) ∧ (0 : Int) < ((y1.getD (Int.toNat i) default).length : Int)) <|
      asrt ((0 : Int) ≤ ((y1.getD (Int.toNat i) default).getD (Int.toNat (0 : Int)) default) ∧ ((y1.getD (Int.toNat i) default).getD (Int.toNat (0 : Int)) default) < (list.length : Int)) <|
      (M.spec_l1Has out_0 ((list.getD (Int.toNat ((y1.getD (Int.toNat i) default).getD (Int.toNat (0 : Int)) default)) default).Record)).bind fun y3 =>
      bif (!y3) then (
        (M.spec_l1Put out_0 ((list.getD (Int.toNat ((y1.getD (Int.toNat i) default).getD (Int.toNat (0 : Int)) default)) default).Record)).bind fun y4 =>
        some y4)
      else (
        some out_0)) : Option (List Int))).bind fun e => match e with
    | out_1 =>
      (some (.inl (out_1, (IntKind.i64.wrap (i + (1 : Int)))))))
  else (
    some (.inr out_0))

def M.spec_NotWhole (list : List Hand) : Option (List Int × Bool) :=
  (M.spec_l17Good list).bind fun y0 =>
  bif (!y0) then (
    some (([] : List Int), false))
  else (
    (M.spec_l17Turns list).bind fun y1 =>
    (iterO (M.spec_NotWhole_l0 list y1) (([] : List Int), (0 : Int))).bind fun e => match e with
    | out_ =>
      (some (out_, true)))

def M.impl_within (n : Int) (low : Int) (high : Int) : Option Bool :=
  some ((decide (low ≤ n)) && (decide (n ≤ high)))

def M.impl_isRecordId (id_ : Int) : Option Bool :=
  (M.impl_within id_ (1 : Int) (999 : Int)).bind fun y0 =>
  some y0

def M.impl_isPerson (who : Int) : Option Bool :=
  (M.impl_within who (1 : Int) (20 : Int)).bind fun y0 =>
  some y0

def M.impl_isDay (day : Int) : Option Bool :=
  (M.impl_within day (0 : Int) (20000 : Int)).bind fun y0 =>
  some y0

def M.impl_IsHand (h_ : Hand) : Option Bool :=
  (M.impl_isRecordId h_.Record).bind fun y0 =>
  ((bif y0 then M.impl_isPerson h_.From else some default)).bind fun y1 =>
  ((bif (y0 && y1) then M.impl_isPerson h_.To else some default)).bind fun y2 =>
  ((bif (((y0 && y1) && y2) && (h_.From != h_.To)) then M.impl_isDay h_.Day else some default)).bind fun y3 =>
  ((bif ((((y0 && y1) && y2) && (h_.From != h_.To)) && y3) then M.impl_within h_.Sum (0 : Int) (999999 : Int) else some default)).bind fun y4 =>
  some (((((y0 && y1) && y2) && (h_.From != h_.To)) && y3) && y4)

def M.impl_next_l0 (list : List Hand) (record : Int) : (Int) → Option ((Int) ⊕ ((Unit) ⊕ (Int))) := fun st_ => match st_ with
| i =>
  bif (decide (i < (list.length : Int))) then (
    asrt ((0 : Int) ≤ i ∧ i < (list.length : Int)) <|
    bif (((list.getD (Int.toNat i) default).Record) == record) then (
      some (.inr (.inr i)))
    else (
      some (.inl (IntKind.i64.wrap (i + (1 : Int))))))
  else (
    some (.inr (.inl ())))

def M.impl_next (list : List Hand) (record : Int) (from_ : Int) : Option Int :=
  (iterO (M.impl_next_l0 list record) from_).bind fun e => match e with
  | .inl () =>
    (some (-1 : Int))
  | .inr r => some r

def M.impl_IsCustody_l0 (list : List Hand) : (Int) → Option ((Int) ⊕ ((Unit) ⊕ (Bool))) := fun st_ => match st_ with
| v =>
  bif (decide (v < (list.length : Int))) then (
    asrt ((0 : Int) ≤ v ∧ v < (list.length : Int)) <|
    (M.impl_IsHand (list.getD (Int.toNat v) default)).bind fun y1 =>
    asrt ((!y1) = false → (decide (v > (0 : Int))) = true → ((0 : Int) ≤ (IntKind.i64.wrap (v - (1 : Int))) ∧ (IntKind.i64.wrap (v - (1 : Int))) < (list.length : Int))) <|
    bif ((!y1) || ((decide (v > (0 : Int))) && (decide (((list.getD (Int.toNat (IntKind.i64.wrap (v - (1 : Int)))) default).Day) > ((list.getD (Int.toNat v) default).Day))))) then (
      some (.inr (.inr false)))
    else (
      (M.impl_next list ((list.getD (Int.toNat v) default).Record) (IntKind.i64.wrap (v + (1 : Int)))).bind fun y2 =>
      asrt ((decide (y2 ≥ (0 : Int))) = true → ((0 : Int) ≤ y2 ∧ y2 < (list.length : Int))) <|
      bif ((decide (y2 ≥ (0 : Int))) && (((list.getD (Int.toNat y2) default).From) != ((list.getD (Int.toNat v) default).To))) then (
        some (.inr (.inr false)))
      else (
        some (.inl (IntKind.i64.wrap (v + (1 : Int)))))))
  else (
    some (.inr (.inl ())))

def M.impl_IsCustody (list : List Hand) : Option Bool :=
  (iterO (M.impl_IsCustody_l0 list) (0 : Int)).bind fun e => match e with
  | .inl () =>
    (some (decide ((list.length : Int) ≤ (12 : Int))))
  | .inr r => some r

def M.impl_differences_l1 (list : List Hand) (pairs0 : List (List Int)) (v : Int) : (Int) → Option ((Int) ⊕ (List (List Int))) := fun st_ => match st_ with
| i =>
  bif (decide (i ≥ (0 : Int))) then (
    asrt ((0 : Int) ≤ i ∧ i < (list.length : Int)) <|
    bif (((list.getD (Int.toNat i) default).Record) == ((list.getD (Int.toNat v) default).Record)) then (
      asrt ((0 : Int) ≤ i ∧ i < (list.length : Int)) <|
      bif (((list.getD (Int.toNat i) default).Sum) != ((list.getD (Int.toNat v) default).Sum)) then (
        asrt ((pairs0.length : Int) + (([([i, v] : List Int)] : List (List Int)).length : Int) ≤ 2147483648) <|
        some (.inr (pairs0 ++ ([([i, v] : List Int)] : List (List Int)))))
      else (
        some (.inr pairs0)))
    else (
      some (.inl (IntKind.i64.wrap (i - (1 : Int))))))
  else (
    some (.inr pairs0))

def M.impl_differences_l0 (list : List Hand) : (List (List Int) × Int) → Option ((List (List Int) × Int) ⊕ (List (List Int))) := fun st_ => match st_ with
| (pairs0, v) =>
  bif (decide (v < (list.length : Int))) then (
    (((
      asrt ((0 : Int) ≤ v ∧ v < (list.length : Int)) <|
      (iterO (M.impl_differences_l1 list pairs0 v) (IntKind.i64.wrap (v - (1 : Int)))).bind fun e => match e with
      | pairs2 =>
        (some pairs2)) : Option (List (List Int)))).bind fun e => match e with
    | pairs1 =>
      (some (.inl (pairs1, (IntKind.i64.wrap (v + (1 : Int)))))))
  else (
    some (.inr pairs0))

def M.impl_differences (list : List Hand) : Option (List (List Int)) :=
  (iterO (M.impl_differences_l0 list) (([] : List (List Int)), (0 : Int))).bind fun e => match e with
  | pairs =>
    (some pairs)

def M.math_bits_Len32 (x : Int) : Option Int :=
  (((
    bif (decide (x ≥ (65536 : Int))) then (
      some ((Int.fdiv x (2 ^ (min (Int.toNat (16 : Int)) IntKind.u32.bits))), (16 : Int)))
    else (
      some (x, (0 : Int)))) : Option (Int × Int))).bind fun e => match e with
  | (x0, n_) =>
    ((((
      bif (decide (x0 ≥ (256 : Int))) then (
        some ((Int.fdiv x0 (2 ^ (min (Int.toNat (8 : Int)) IntKind.u32.bits))), (IntKind.i64.wrap (n_ + (8 : Int)))))
      else (
        some (x0, n_))) : Option (Int × Int))).bind fun e => match e with
    | (x1, n_0) =>
      (asrt ((0 : Int) ≤ (IntKind.u8.wrap x1) ∧ (IntKind.u8.wrap x1) < (([0, 1, 2, 2, 3, 3, 3, 3, 4, 4, 4, 4, 4, 4, 4, 4, 5, 5, 5, 5, 5, 5, 5, 5, 5, 5, 5, 5, 5, 5, 5, 5, 6, 6, 6, 6, 6, 6, 6, 6, 6, 6, 6, 6, 6, 6, 6, 6, 6, 6, 6, 6, 6, 6, 6, 6, 6, 6, 6, 6, 6, 6, 6, 6, 7, 7, 7, 7, 7, 7, 7, 7, 7, 7, 7, 7, 7, 7, 7, 7, 7, 7, 7, 7, 7, 7, 7, 7, 7, 7, 7, 7, 7, 7, 7, 7, 7, 7, 7, 7, 7, 7, 7, 7, 7, 7, 7, 7, 7, 7, 7, 7, 7, 7, 7, 7, 7, 7, 7, 7, 7, 7, 7, 7, 7, 7, 7, 7, 8, 8, 8, 8, 8, 8, 8, 8, 8, 8, 8, 8, 8, 8, 8, 8, 8, 8, 8, 8, 8, 8, 8, 8, 8, 8, 8, 8, 8, 8, 8, 8, 8, 8, 8, 8, 8, 8, 8, 8, 8, 8, 8, 8, 8, 8, 8, 8, 8, 8, 8, 8, 8, 8, 8, 8, 8, 8, 8, 8, 8, 8, 8, 8, 8, 8, 8, 8, 8, 8, 8, 8, 8, 8, 8, 8, 8, 8, 8, 8, 8, 8, 8, 8, 8, 8, 8, 8, 8, 8, 8, 8, 8, 8, 8, 8, 8, 8, 8, 8, 8, 8, 8, 8, 8, 8, 8, 8, 8, 8, 8, 8, 8, 8, 8, 8, 8, 8, 8, 8, 8, 8, 8, 8, 8, 8, 8, 8] : List UInt8).length : Int)) <|
      some (IntKind.i64.wrap (n_0 + (IntKind.i64.wrap ((([0, 1, 2, 2, 3, 3, 3, 3, 4, 4, 4, 4, 4, 4, 4, 4, 5, 5, 5, 5, 5, 5, 5, 5, 5, 5, 5, 5, 5, 5, 5, 5, 6, 6, 6, 6, 6, 6, 6, 6, 6, 6, 6, 6, 6, 6, 6, 6, 6, 6, 6, 6, 6, 6, 6, 6, 6, 6, 6, 6, 6, 6, 6, 6, 7, 7, 7, 7, 7, 7, 7, 7, 7, 7, 7, 7, 7, 7, 7, 7, 7, 7, 7, 7, 7, 7, 7, 7, 7, 7, 7, 7, 7, 7, 7, 7, 7, 7, 7, 7, 7, 7, 7, 7, 7, 7, 7, 7, 7, 7, 7, 7, 7, 7, 7, 7, 7, 7, 7, 7, 7, 7, 7, 7, 7, 7, 7, 7, 8, 8, 8, 8, 8, 8, 8, 8, 8, 8, 8, 8, 8, 8, 8, 8, 8, 8, 8, 8, 8, 8, 8, 8, 8, 8, 8, 8, 8, 8, 8, 8, 8, 8, 8, 8, 8, 8, 8, 8, 8, 8, 8, 8, 8, 8, 8, 8, 8, 8, 8, 8, 8, 8, 8, 8, 8, 8, 8, 8, 8, 8, 8, 8, 8, 8, 8, 8, 8, 8, 8, 8, 8, 8, 8, 8, 8, 8, 8, 8, 8, 8, 8, 8, 8, 8, 8, 8, 8, 8, 8, 8, 8, 8, 8, 8, 8, 8, 8, 8, 8, 8, 8, 8, 8, 8, 8, 8, 8, 8, 8, 8, 8, 8, 8, 8, 8, 8, 8, 8, 8, 8, 8, 8, 8, 8, 8, 8] : List UInt8).getD (Int.toNat (IntKind.u8.wrap x1)) 0).toNat : Int))))))

def M.math_bits_Len64 (x : Int) : Option Int :=
  (((
    bif (decide (x ≥ (4294967296 : Int))) then (
      some ((Int.fdiv x (2 ^ (min (Int.toNat (32 : Int)) IntKind.u64.bits))), (32 : Int)))
    else (
      some (x, (0 : Int)))) : Option (Int × Int))).bind fun e => match e with
  | (x0, n_) =>
    ((((
      bif (decide (x0 ≥ (65536 : Int))) then (
        some ((Int.fdiv x0 (2 ^ (min (Int.toNat (16 : Int)) IntKind.u64.bits))), (IntKind.i64.wrap (n_ + (16 : Int)))))
      else (
        some (x0, n_))) : Option (Int × Int))).bind fun e => match e with
    | (x1, n_0) =>
      ((((
        bif (decide (x1 ≥ (256 : Int))) then (
          some ((Int.fdiv x1 (2 ^ (min (Int.toNat (8 : Int)) IntKind.u64.bits))), (IntKind.i64.wrap (n_0 + (8 : Int)))))
        else (
          some (x1, n_0))) : Option (Int × Int))).bind fun e => match e with
      | (x2, n_1) =>
        (asrt ((0 : Int) ≤ (IntKind.u8.wrap x2) ∧ (IntKind.u8.wrap x2) < (([0, 1, 2, 2, 3, 3, 3, 3, 4, 4, 4, 4, 4, 4, 4, 4, 5, 5, 5, 5, 5, 5, 5, 5, 5, 5, 5, 5, 5, 5, 5, 5, 6, 6, 6, 6, 6, 6, 6, 6, 6, 6, 6, 6, 6, 6, 6, 6, 6, 6, 6, 6, 6, 6, 6, 6, 6, 6, 6, 6, 6, 6, 6, 6, 7, 7, 7, 7, 7, 7, 7, 7, 7, 7, 7, 7, 7, 7, 7, 7, 7, 7, 7, 7, 7, 7, 7, 7, 7, 7, 7, 7, 7, 7, 7, 7, 7, 7, 7, 7, 7, 7, 7, 7, 7, 7, 7, 7, 7, 7, 7, 7, 7, 7, 7, 7, 7, 7, 7, 7, 7, 7, 7, 7, 7, 7, 7, 7, 8, 8, 8, 8, 8, 8, 8, 8, 8, 8, 8, 8, 8, 8, 8, 8, 8, 8, 8, 8, 8, 8, 8, 8, 8, 8, 8, 8, 8, 8, 8, 8, 8, 8, 8, 8, 8, 8, 8, 8, 8, 8, 8, 8, 8, 8, 8, 8, 8, 8, 8, 8, 8, 8, 8, 8, 8, 8, 8, 8, 8, 8, 8, 8, 8, 8, 8, 8, 8, 8, 8, 8, 8, 8, 8, 8, 8, 8, 8, 8, 8, 8, 8, 8, 8, 8, 8, 8, 8, 8, 8, 8, 8, 8, 8, 8, 8, 8, 8, 8, 8, 8, 8, 8, 8, 8, 8, 8, 8, 8, 8, 8, 8, 8, 8, 8, 8, 8, 8, 8, 8, 8, 8, 8, 8, 8, 8, 8] : List UInt8).length : Int)) <|
        some (IntKind.i64.wrap (n_1 + (IntKind.i64.wrap ((([0, 1, 2, 2, 3, 3, 3, 3, 4, 4, 4, 4, 4, 4, 4, 4, 5, 5, 5, 5, 5, 5, 5, 5, 5, 5, 5, 5, 5, 5, 5, 5, 6, 6, 6, 6, 6, 6, 6, 6, 6, 6, 6, 6, 6, 6, 6, 6, 6, 6, 6, 6, 6, 6, 6, 6, 6, 6, 6, 6, 6, 6, 6, 6, 7, 7, 7, 7, 7, 7, 7, 7, 7, 7, 7, 7, 7, 7, 7, 7, 7, 7, 7, 7, 7, 7, 7, 7, 7, 7, 7, 7, 7, 7, 7, 7, 7, 7, 7, 7, 7, 7, 7, 7, 7, 7, 7, 7, 7, 7, 7, 7, 7, 7, 7, 7, 7, 7, 7, 7, 7, 7, 7, 7, 7, 7, 7, 7, 8, 8, 8, 8, 8, 8, 8, 8, 8, 8, 8, 8, 8, 8, 8, 8, 8, 8, 8, 8, 8, 8, 8, 8, 8, 8, 8, 8, 8, 8, 8, 8, 8, 8, 8, 8, 8, 8, 8, 8, 8, 8, 8, 8, 8, 8, 8, 8, 8, 8, 8, 8, 8, 8, 8, 8, 8, 8, 8, 8, 8, 8, 8, 8, 8, 8, 8, 8, 8, 8, 8, 8, 8, 8, 8, 8, 8, 8, 8, 8, 8, 8, 8, 8, 8, 8, 8, 8, 8, 8, 8, 8, 8, 8, 8, 8, 8, 8, 8, 8, 8, 8, 8, 8, 8, 8, 8, 8, 8, 8, 8, 8, 8, 8, 8, 8, 8, 8, 8, 8, 8, 8, 8, 8, 8, 8, 8, 8] : List UInt8).getD (Int.toNat (IntKind.u8.wrap x2)) 0).toNat : Int)))))))

def M.math_bits_Len (x : Int) : Option Int :=
  bif false then (
    (M.math_bits_Len32 (IntKind.u32.wrap x)).bind fun y0 =>
    some y0)
  else (
    (M.math_bits_Len64 x).bind fun y1 =>
    some y1)

def M.cmp_isNaN_int (x : Int) : Option Bool :=
  some (x != x)

def M.cmp_Less_int (x : Int) (y : Int) : Option Bool :=
  (M.cmp_isNaN_int x).bind fun y0 =>
  ((bif y0 then M.cmp_isNaN_int y else some default)).bind fun y1 =>
  some ((y0 && (!y1)) || (decide (x < y)))

def M.slices_insertionSortOrdered_int_l1 (a : Int) : (List Int × Int) → Option ((List Int × Int) ⊕ (List Int)) := fun st_ => match st_ with
| (data3, j_) =>
  asrt ((decide (j_ > a)) = true → ((0 : Int) ≤ j_ ∧ j_ < (data3.length : Int))) <|
  asrt ((decide (j_ > a)) = true → ((0 : Int) ≤ (IntKind.i64.wrap (j_ - (1 : Int))) ∧ (IntKind.i64.wrap (j_ - (1 : Int))) < (data3.length : Int))) <|
  ((bif (decide (j_ > a)) then M.cmp_Less_int (data3.getD (Int.toNat j_) default) (data3.getD (Int.toNat (IntKind.i64.wrap (j_ - (1 : Int)))) default) else some default)).bind fun y2 =>
  bif ((decide (j_ > a)) && y2) then (
    asrt ((0 : Int) ≤ (IntKind.i64.wrap (j_ - (1 : Int))) ∧ (IntKind.i64.wrap (j_ - (1 : Int))) < (data3.length : Int)) <|
    asrt ((0 : Int) ≤ j_ ∧ j_ < (data3.length : Int)) <|
    asrt ((0 : Int) ≤ j_ ∧ j_ < (data3.length : Int)) <|
    asrt ((0 : Int) ≤ (IntKind.i64.wrap (j_ - (1 : Int))) ∧ (IntKind.i64.wrap (j_ - (1 : Int))) < ((data3.set (Int.toNat j_) (data3.getD (Int.toNat (IntKind.i64.wrap (j_ - (1 : Int)))) default)).length : Int)) <|
    (((
      some ((data3.set (Int.toNat j_) (data3.getD (Int.toNat (IntKind.i64.wrap (j_ - (1 : Int)))) default)).set (Int.toNat (IntKind.i64.wrap (j_ - (1 : Int)))) (data3.getD (Int.toNat j_) default))) : Option (List Int))).bind fun e => match e with
    | data4 =>
      (some (.inl (data4, (IntKind.i64.wrap (j_ - (1 : Int)))))))
  else (
    some (.inr data3))

def M.slices_insertionSortOrdered_int_l0 (a : Int) (b_ : Int) : (List Int × Int) → Option ((List Int × Int) ⊕ (List Int)) := fun st_ => match st_ with
| (data1, i) =>
  bif (decide (i < b_)) then (
    (iterO (M.slices_insertionSortOrdered_int_l1 a) (data1, i)).bind fun e => match e with
    | data2 =>
      (some (.inl (data2, (IntKind.i64.wrap (i + (1 : Int)))))))
  else (
    some (.inr data1))

def M.slices_insertionSortOrdered_int (data : List Int) (a : Int) (b_ : Int) : Option (List Int) :=
  (iterO (M.slices_insertionSortOrdered_int_l0 a b_) (data, (IntKind.i64.wrap (a + (1 : Int))))).bind fun e => match e with
  | data0 =>
    (some data0)

def M.slices_pdqsortOrdered_int_l0 (data : List Int) : (Int × Int × Int × Bool × Bool) → Option ((Int × Int × Int × Bool × Bool) ⊕ (List Int)) := fun st_ => match st_ with
| (a0, b_0, limit0, wasBalanced, wasPartitioned) =>
  asrt ((decide ((IntKind.i64.wrap (b_0 - a0)) ≤ (12 : Int))) = true) <|
  (M.slices_insertionSortOrdered_int data a0 b_0).bind fun y1 =>
  asrt (y1.length = data.length) <|
  some (.inr y1)

def M.slices_pdqsortOrdered_int (data : List Int) (a : Int) (b_ : Int) (limit : Int) : Option (List Int) :=
  (iterO (M.slices_pdqsortOrdered_int_l0 data) (a, b_, limit, true, true)).bind fun e => match e with
  | r => some r

def M.slices_Sort_int_int (x : List Int) : Option (List Int) :=
  (M.math_bits_Len (IntKind.u64.wrap (x.length : Int))).bind fun y0 =>
  (M.slices_pdqsortOrdered_int x (0 : Int) (x.length : Int) y0).bind fun y1 =>
  asrt (y1.length = x.length) <|
  some y1

def M.slices_Compact_int_int_l1 (s : List Int) (k : Int) : (List Int × Int × Int) → Option ((List Int × Int × Int) ⊕ (List Int × Int)) := fun st_ => match st_ with
| (s1, k1, k2) =>
  bif (decide (k2 < (((Int.toNat (((List.length s) : Nat) : Int) - Int.toNat k) : Nat) : Int))) then (
    (((
      asrt ((0 : Int) ≤ k2 ∧ k2 < (((Int.toNat (((List.length s) : Nat) : Int) - Int.toNat k) : Nat) : Int)) <|
      asrt (((0 + Int.toNat k) + Int.toNat k2) < s1.length) <|
      asrt ((0 : Int) ≤ (IntKind.i64.wrap (k2 - (1 : Int))) ∧ (IntKind.i64.wrap (k2 - (1 : Int))) < (((Int.toNat (((List.length s) : Nat) : Int) - Int.toNat k) : Nat) : Int)) <|
      asrt (((0 + Int.toNat k) + Int.toNat (IntKind.i64.wrap (k2 - (1 : Int)))) < s1.length) <|
      bif ((s1.getD ((0 + Int.toNat k) + Int.toNat k2) default) != (s1.getD ((0 + Int.toNat k) + Int.toNat (IntKind.i64.wrap (k2 - (1 : Int)))) default)) then (
        asrt ((0 : Int) ≤ k2 ∧ k2 < (((Int.toNat (((List.length s) : Nat) : Int) - Int.toNat k) : Nat) : Int)) <|
        asrt (((0 + Int.toNat k) + Int.toNat k2) < s1.length) <|
        asrt ((0 : Int) ≤ k1 ∧ k1 < (s1.length : Int)) <|
        some ((s1.set (Int.toNat k1) (s1.getD ((0 + Int.toNat k) + Int.toNat k2) default)), (IntKind.i64.wrap (k1 + (1 : Int)))))
      else (
        some (s1, k1))) : Option (List Int × Int))).bind fun e => match e with
    | (s2, k3) =>
      (some (.inl (s2, k3, (IntKind.i64.wrap (k2 + (1 : Int)))))))
  else (
    some (.inr (s1, k1)))

def M.slices_Compact_int_int_l0 (s : List Int) : (Int) → Option ((Int) ⊕ ((Unit) ⊕ (List Int))) := fun st_ => match st_ with
| k =>
  bif (decide (k < (s.length : Int))) then (
    asrt ((0 : Int) ≤ k ∧ k < (s.length : Int)) <|
    asrt ((0 : Int) ≤ (IntKind.i64.wrap (k - (1 : Int))) ∧ (IntKind.i64.wrap (k - (1 : Int))) < (s.length : Int)) <|
    bif ((s.getD (Int.toNat k) default) == (s.getD (Int.toNat (IntKind.i64.wrap (k - (1 : Int)))) default)) then (
      asrt ((0 : Int) ≤ k ∧ k ≤ (((List.length s) : Nat) : Int) ∧ (((List.length s) : Nat) : Int) ≤ (((List.length s) : Nat) : Int)) <|
      (iterO (M.slices_Compact_int_int_l1 s k) (s, k, (1 : Int))).bind fun e => match e with
      | (s0, k0) =>
        (asrt ((0 : Int) ≤ k0 ∧ k0 ≤ (((List.length s0) : Nat) : Int) ∧ (((List.length s0) : Nat) : Int) ≤ (((List.length s0) : Nat) : Int)) <|
        asrt ((0 + Int.toNat k0) + (Int.toNat (((List.length s0) : Nat) : Int) - Int.toNat k0) ≤ s0.length) <|
        asrt ((0 : Int) ≤ (0 : Int) ∧ (0 : Int) ≤ k0 ∧ k0 ≤ ((List.take (0 + Int.toNat k0) s0 ++ List.replicate (Int.toNat (((List.length s0) : Nat) : Int) - Int.toNat k0) (0 : Int) ++ List.drop ((0 + Int.toNat k0) + (Int.toNat (((List.length s0) : Nat) : Int) - Int.toNat k0)) s0).length : Int)) <|
        asrt ((Int.toNat k0 - Int.toNat (0 : Int)) ≤ (List.take (0 + Int.toNat k0) s0 ++ List.replicate (Int.toNat (((List.length s0) : Nat) : Int) - Int.toNat k0) (0 : Int) ++ List.drop ((0 + Int.toNat k0) + (Int.toNat (((List.length s0) : Nat) : Int) - Int.toNat k0)) s0).length) <|
        some (.inr (.inr (List.take (Int.toNat k0 - Int.toNat (0 : Int)) (List.take (0 + Int.toNat k0) s0 ++ List.replicate (Int.toNat (((List.length s0) : Nat) : Int) - Int.toNat k0) (0 : Int) ++ List.drop ((0 + Int.toNat k0) + (Int.toNat (((List.length s0) : Nat) : Int) - Int.toNat k0)) s0))))))
    else (
      some (.inl (IntKind.i64.wrap (k + (1 : Int))))))
  else (
    some (.inr (.inl ())))

def M.slices_Compact_int_int (s : List Int) : Option (List Int) :=
  bif (decide ((s.length : Int) < (2 : Int))) then (
    some s)
  else (
    (iterO (M.slices_Compact_int_int_l0 s) (1 : Int)).bind fun e => match e with
    | .inl () =>
      (some s)
    | .inr r => some r)

def M.impl_eachOnce (list : List Int) : Option (List Int) :=
  (M.slices_Sort_int_int list).bind fun y0 =>
  asrt (y0.length = list.length) <|
  (M.slices_Compact_int_int y0).bind fun y1 =>
  some y1

def M.impl_NotWhole_l0 (list : List Hand) (y1 : List (List Int)) : (List Int × Int) → Option ((List Int × Int) ⊕ (List Int)) := fun st_ => match st_ with
| (records0, v) =>
  bif (decide (v < (y1.length : Int))) then (
    asrt ((0 : Int) ≤ v ∧ v < (y1.length : Int)) <|
    asrt ((0 : Int) ≤ (0 : Int) ∧ (0 : Int) < ((y1.getD (Int.toNat v) default).length : Int)) <|
    asrt ((0 : Int) ≤ ((y1.getD (Int.toNat v) default).getD (Int.toNat (0 : Int)) default) ∧ ((y1.getD (Int.toNat v) default).getD (Int.toNat (0 : Int)) default) < (list.length : Int)) <|
    asrt ((records0.length : Int) + (([(list.getD (Int.toNat ((y1.getD (Int.toNat v) default).getD (Int.toNat (0 : Int)) default)) default).Record] : List Int).length : Int) ≤ 2147483648) <|
    some (.inl ((records0 ++ ([(list.getD (Int.toNat ((y1.getD (Int.toNat v) default).getD (Int.toNat (0 : Int)) default)) default).Record] : List Int)), (IntKind.i64.wrap (v + (1 : Int))))))
  else (
    some (.inr records0))

def M.impl_NotWhole (list : List Hand) : Option (List Int × Bool) :=
  (M.impl_IsCustody list).bind fun y0 =>
  bif (!y0) then (
    some (([] : List Int), false))
  else (
    (M.impl_differences list).bind fun y1 =>
    (iterO (M.impl_NotWhole_l0 list y1) (([] : List Int), (0 : Int))).bind fun e => match e with
    | records =>
      ((M.impl_eachOnce records).bind fun y3 =>
      some (y3, true)))

def M.laws_eqIntS_l0 (a : List Int) (b_ : List Int) : (Int) → Option ((Int) ⊕ ((Unit) ⊕ (Bool))) := fun st_ => match st_ with
| i =>
  bif (decide (i < (a.length : Int))) then (
    asrt ((0 : Int) ≤ i ∧ i < (a.length : Int)) <|
    asrt ((0 : Int) ≤ i ∧ i < (b_.length : Int)) <|
    bif ((a.getD (Int.toNat i) default) != (b_.getD (Int.toNat i) default)) then (
      some (.inr (.inr false)))
    else (
      some (.inl (IntKind.i64.wrap (i + (1 : Int))))))
  else (
    some (.inr (.inl ())))

def M.laws_eqIntS (a : List Int) (b_ : List Int) : Option Bool :=
  bif ((a.length : Int) != (b_.length : Int)) then (
    some false)
  else (
    (iterO (M.laws_eqIntS_l0 a b_) (0 : Int)).bind fun e => match e with
    | .inl () =>
      (some true)
    | .inr r => some r)

def M.laws_eqHand (a : Hand) (b_ : Hand) : Option Bool :=
  bif (a.Record != b_.Record) then (
    some false)
  else (
    bif (a.From != b_.From) then (
      some false)
    else (
      bif (a.To != b_.To) then (
        some false)
      else (
        bif (a.Day != b_.Day) then (
          some false)
        else (
          bif (a.Sum != b_.Sum) then (
            some false)
          else (
            bif (!(a.Seal == b_.Seal)) then (
              some false)
            else (
              some true))))))

def M.laws_eqHandS_l0 (a : List Hand) (b_ : List Hand) : (Int) → Option ((Int) ⊕ ((Unit) ⊕ (Bool))) := fun st_ => match st_ with
| i =>
  bif (decide (i < (a.length : Int))) then (
    asrt ((0 : Int) ≤ i ∧ i < (a.length : Int)) <|
    asrt ((0 : Int) ≤ i ∧ i < (b_.length : Int)) <|
    (M.laws_eqHand (a.getD (Int.toNat i) default) (b_.getD (Int.toNat i) default)).bind fun y1 =>
    bif (!y1) then (
      some (.inr (.inr false)))
    else (
      some (.inl (IntKind.i64.wrap (i + (1 : Int))))))
  else (
    some (.inr (.inl ())))

def M.laws_eqHandS (a : List Hand) (b_ : List Hand) : Option Bool :=
  bif ((a.length : Int) != (b_.length : Int)) then (
    some false)
  else (
    (iterO (M.laws_eqHandS_l0 a b_) (0 : Int)).bind fun e => match e with
    | .inl () =>
      (some true)
    | .inr r => some r)

def M.laws_markHandS_l0 : (List Hand × Int × Int) → Option ((List Hand × Int × Int) ⊕ (List Hand × Int)) := fun st_ => match st_ with
| (a1, k1, i) =>
  bif (decide (i < (a1.length : Int))) then (
    asrt ((0 : Int) ≤ i ∧ i < (a1.length : Int)) <|
    asrt ((0 : Int) ≤ i ∧ i < ((a1.set (Int.toNat i) (⟨k1, (a1.getD (Int.toNat i) default).From, (a1.getD (Int.toNat i) default).To, (a1.getD (Int.toNat i) default).Day, (a1.getD (Int.toNat i) default).Sum, (a1.getD (Int.toNat i) default).Seal⟩ : Hand)).length : Int)) <|
    asrt ((0 : Int) ≤ i ∧ i < ((a1.set (Int.toNat i) (⟨k1, (IntKind.i64.wrap (k1 + (1 : Int))), (a1.getD (Int.toNat i) default).To, (a1.getD (Int.toNat i) default).Day, (a1.getD (Int.toNat i) default).Sum, (a1.getD (Int.toNat i) default).Seal⟩ : Hand)).length : Int)) <|
    asrt ((0 : Int) ≤ i ∧ i < ((a1.set (Int.toNat i) (⟨k1, (IntKind.i64.wrap (k1 + (1 : Int))), (IntKind.i64.wrap ((IntKind.i64.wrap (k1 + (1 : Int))) + (1 : Int))), (a1.getD (Int.toNat i) default).Day, (a1.getD (Int.toNat i) default).Sum, (a1.getD (Int.toNat i) default).Seal⟩ : Hand)).length : Int)) <|
    asrt ((0 : Int) ≤ i ∧ i < ((a1.set (Int.toNat i) (⟨k1, (IntKind.i64.wrap (k1 + (1 : Int))), (IntKind.i64.wrap ((IntKind.i64.wrap (k1 + (1 : Int))) + (1 : Int))), (IntKind.i64.wrap ((IntKind.i64.wrap ((IntKind.i64.wrap (k1 + (1 : Int))) + (1 : Int))) + (1 : Int))), (a1.getD (Int.toNat i) default).Sum, (a1.getD (Int.toNat i) default).Seal⟩ : Hand)).length : Int)) <|
    asrt ((0 : Int) ≤ i ∧ i < ((a1.set (Int.toNat i) (⟨k1, (IntKind.i64.wrap (k1 + (1 : Int))), (IntKind.i64.wrap ((IntKind.i64.wrap (k1 + (1 : Int))) + (1 : Int))), (IntKind.i64.wrap ((IntKind.i64.wrap ((IntKind.i64.wrap (k1 + (1 : Int))) + (1 : Int))) + (1 : Int))), (IntKind.i64.wrap ((IntKind.i64.wrap ((IntKind.i64.wrap ((IntKind.i64.wrap (k1 + (1 : Int))) + (1 : Int))) + (1 : Int))) + (1 : Int))), (a1.getD (Int.toNat i) default).Seal⟩ : Hand)).length : Int)) <|
    some (.inl ((a1.set (Int.toNat i) (⟨k1, (IntKind.i64.wrap (k1 + (1 : Int))), (IntKind.i64.wrap ((IntKind.i64.wrap (k1 + (1 : Int))) + (1 : Int))), (IntKind.i64.wrap ((IntKind.i64.wrap ((IntKind.i64.wrap (k1 + (1 : Int))) + (1 : Int))) + (1 : Int))), (IntKind.i64.wrap ((IntKind.i64.wrap ((IntKind.i64.wrap ((IntKind.i64.wrap (k1 + (1 : Int))) + (1 : Int))) + (1 : Int))) + (1 : Int))), ((Int.tmod (IntKind.i64.wrap ((IntKind.i64.wrap ((IntKind.i64.wrap ((IntKind.i64.wrap ((IntKind.i64.wrap (k1 + (1 : Int))) + (1 : Int))) + (1 : Int))) + (1 : Int))) + (1 : Int))) (3 : Int)) == (0 : Int))⟩ : Hand)), (IntKind.i64.wrap ((IntKind.i64.wrap ((IntKind.i64.wrap ((IntKind.i64.wrap ((IntKind.i64.wrap ((IntKind.i64.wrap (k1 + (1 : Int))) + (1 : Int))) + (1 : Int))) + (1 : Int))) + (1 : Int))) + (1 : Int))), (IntKind.i64.wrap (i + (1 : Int))))))
  else (
    some (.inr (a1, k1)))

def M.laws_markHandS (a : List Hand) (k : Int) : Option (Int × List Hand) :=
  (iterO (M.laws_markHandS_l0) (a, k, (0 : Int))).bind fun e => match e with
  | (a0, k0) =>
    (some (k0, a0))

def M.laws_markIntS_l0 : (List Int × Int × Int) → Option ((List Int × Int × Int) ⊕ (List Int × Int)) := fun st_ => match st_ with
| (a1, k1, i) =>
  bif (decide (i < (a1.length : Int))) then (
    asrt ((0 : Int) ≤ i ∧ i < (a1.length : Int)) <|
    some (.inl ((a1.set (Int.toNat i) k1), (IntKind.i64.wrap (k1 + (1 : Int))), (IntKind.i64.wrap (i + (1 : Int))))))
  else (
    some (.inr (a1, k1)))

def M.laws_markIntS (a : List Int) (k : Int) : Option (Int × List Int) :=
  (iterO (M.laws_markIntS_l0) (a, k, (0 : Int))).bind fun e => match e with
  | (a0, k0) =>
    (some (k0, a0))

def M.laws_heldIntS_l0 (a : List Int) : (Int × Int) → Option ((Int × Int) ⊕ ((Int) ⊕ (Int))) := fun st_ => match st_ with
| (k1, i) =>
  bif (decide (i < (a.length : Int))) then (
    asrt ((0 : Int) ≤ i ∧ i < (a.length : Int)) <|
    bif ((a.getD (Int.toNat i) default) != k1) then (
      some (.inr (.inr (-1 : Int))))
    else (
      some (.inl ((IntKind.i64.wrap (k1 + (1 : Int))), (IntKind.i64.wrap (i + (1 : Int)))))))
  else (
    some (.inr (.inl k1)))

def M.laws_heldIntS (a : List Int) (k : Int) : Option Int :=
  (iterO (M.laws_heldIntS_l0 a) (k, (0 : Int))).bind fun e => match e with
  | .inl k0 =>
    (some k0)
  | .inr r => some r

def M.laws_FnExactNotWhole (aList : List Hand) : Option Bool :=
  (M.laws_szHandS aList (1048576 : Int)).bind fun y0 =>
  bif (decide (y0 < (0 : Int))) then (
    some true)
  else (
    (M.laws_toHandS aList).bind fun y1 =>
    (M.spec_NotWhole y1).bind fun y2 =>
    (M.laws_toHandS aList).bind fun y3 =>
    (M.impl_NotWhole y3).bind fun y4 =>
    (M.laws_eqIntS y4.1 y2.1).bind fun y5 =>
    bif ((!y5) || (!(y4.2 == y2.2))) then (
      some false)
    else (
      (M.laws_toHandS aList).bind fun y6 =>
      (M.laws_eqHandS y3 y6).bind fun y7 =>
      bif (!y7) then (
        some false)
      else (
        (M.laws_markHandS y3 (1 : Int)).bind fun y8 =>
        asrt (y8.2.length = y3.length) <|
        ((bif (decide (y8.1 < (0 : Int))) then some default else M.laws_eqIntS y4.1 y2.1)).bind fun y9 =>
        bif (((decide (y8.1 < (0 : Int))) || (!y9)) || (!(y4.2 == y2.2))) then (
          some false)
        else (
          (M.laws_markIntS y4.1 (1 : Int)).bind fun y10 =>
          asrt (y10.2.length = y4.1.length) <|
          (M.laws_heldIntS y10.2 (1 : Int)).bind fun y11 =>
          bif (decide (y11 < (0 : Int))) then (
            some false)
          else (
            bif (y11 != y10.1) then (
              some false)
            else (
              (M.laws_toHandS aList).bind fun y12 =>
              (M.impl_NotWhole y12).bind fun y13 =>
              (M.laws_eqIntS y13.1 y2.1).bind fun y14 =>
              bif ((!y14) || (!(y13.2 == y2.2))) then (
                some false)
              else (
                (M.laws_heldIntS y10.2 (1 : Int)).bind fun y15 =>
                bif (decide (y15 < (0 : Int))) then (
                  some false)
                else (
                  bif (y15 != y10.1) then (
                    some false)
                  else (
                    some true)))))))))

def M.spec_Suspects_l0 (list : List Hand) (record : Int) (y2 : List (List Int)) : (List Int × Int) → Option ((List Int × Int) ⊕ (List Int)) := fun st_ => match st_ with
| (out_0, i) =>
  bif (decide (i < (y2.length : Int))) then (
    (((
      asrt ((0 : Int) ≤ i ∧ i < (y2.length : Int)) <|
      asrt ((0 : Int) ≤ (1 : Int) ∧ (1 : Int) < ((y2.getD (Int.toNat i) default).length : Int)) <|
      asrt ((0 : Int) ≤ ((y2.getD (Int.toNat i) default).getD (Int.toNat (1 : Int)) default) ∧ ((y2.getD (Int.toNat i) default).getD (Int.toNat (1 : Int)) default) < (list.length : Int)) <|
      ((bif (((list.getD (Int.toNat ((y2.getD (Int.toNat i) default).getD (Int.toNat (1 : Int)) default)) default).Record) == record) then M.spec_l1Has out_0 ((list.getD (Int.toNat ((y2.getD (Int.toNat i) default).getD (Int.toNat (1 : Int)) default)) default).From) else some default)).bind fun y4 =>
      bif ((((list.getD (Int.toNat ((y2.getD (Int.toNat i) default).getD (Int.toNat (1 : Int)) default)) default).Record) == record) && (!y4)) then (
        (M.spec_l1Put out_0 ((list.getD (Int.toNat ((y2.getD (Int.toNat i) default).getD (Int.toNat (1 : Int)) default)) default).From)).bind fun y5 =>
        some y5)
      else (
        some out_0)) : Option (List Int))).bind fun e => match e with
    | out_1 =>
      (some (.inl (out_1, (IntKind.i64.wrap (i + (1 : Int)))))))
  else (
    some (.inr out_0))

def M.spec_Suspects (list : List Hand) (record : Int) : Option (List Int × Bool) :=
  (M.spec_l17Good list).bind fun y0 =>
  ((bif (!y0) then some default else M.spec_l17Record record)).bind fun y1 =>
  bif ((!y0) || (!y1)) then (
    some (([] : List Int), false))
  else (
    (M.spec_l17Turns list).bind fun y2 =>
    (iterO (M.spec_Suspects_l0 list record y2) (([] : List Int), (0 : Int))).bind fun e => match e with
    | out_ =>
      (some (out_, true)))

def M.impl_Suspects_l0 (list : List Hand) (record : Int) (y2 : List (List Int)) : (List Int × Int) → Option ((List Int × Int) ⊕ (List Int)) := fun st_ => match st_ with
| (who0, v) =>
  bif (decide (v < (y2.length : Int))) then (
    (((
      asrt ((0 : Int) ≤ v ∧ v < (y2.length : Int)) <|
      asrt ((0 : Int) ≤ (0 : Int) ∧ (0 : Int) < ((y2.getD (Int.toNat v) default).length : Int)) <|
      asrt ((0 : Int) ≤ ((y2.getD (Int.toNat v) default).getD (Int.toNat (0 : Int)) default) ∧ ((y2.getD (Int.toNat v) default).getD (Int.toNat (0 : Int)) default) < (list.length : Int)) <|
      bif (((list.getD (Int.toNat ((y2.getD (Int.toNat v) default).getD (Int.toNat (0 : Int)) default)) default).Record) == record) then (
        asrt ((0 : Int) ≤ (0 : Int) ∧ (0 : Int) < ((y2.getD (Int.toNat v) default).length : Int)) <|
        asrt ((0 : Int) ≤ ((y2.getD (Int.toNat v) default).getD (Int.toNat (0 : Int)) default) ∧ ((y2.getD (Int.toNat v) default).getD (Int.toNat (0 : Int)) default) < (list.length : Int)) <|
        asrt ((who0.length : Int) + (([(list.getD (Int.toNat ((y2.getD (Int.toNat v) default).getD (Int.toNat (0 : Int)) default)) default).To] : List Int).length : Int) ≤ 2147483648) <|
        some (who0 ++ ([(list.getD (Int.toNat ((y2.getD (Int.toNat v) default).getD (Int.toNat (0 : Int)) default)) default).To] : List Int)))
      else (
        some who0)) : Option (List Int))).bind fun e => match e with
    | who1 =>
      (some (.inl (who1, (IntKind.i64.wrap (v + (1 : Int)))))))
  else (
    some (.inr who0))

def M.impl_Suspects (list : List Hand) (record : Int) : Option (List Int × Bool) :=
  (M.impl_IsCustody list).bind fun y0 =>
  ((bif (!y0) then some default else M.impl_isRecordId record)).bind fun y1 =>
  bif ((!y0) || (!y1)) then (
    some (([] : List Int), false))
  else (
    (M.impl_differences list).bind fun y2 =>
    (iterO (M.impl_Suspects_l0 list record y2) (([] : List Int), (0 : Int))).bind fun e => match e with
    | who =>
      ((M.impl_eachOnce who).bind fun y4 =>
      some (y4, true)))

def M.laws_FnExactSuspects (aList : List Hand) (aRecord : Int) : Option Bool :=
  (M.laws_szHandS aList (1048576 : Int)).bind fun y0 =>
  bif (decide (y0 < (0 : Int))) then (
    some true)
  else (
    (M.laws_toHandS aList).bind fun y1 =>
    (M.spec_Suspects y1 aRecord).bind fun y2 =>
    (M.laws_toHandS aList).bind fun y3 =>
    (M.impl_Suspects y3 aRecord).bind fun y4 =>
    (M.laws_eqIntS y4.1 y2.1).bind fun y5 =>
    bif ((!y5) || (!(y4.2 == y2.2))) then (
      some false)
    else (
      (M.laws_toHandS aList).bind fun y6 =>
      (M.laws_eqHandS y3 y6).bind fun y7 =>
      bif (!y7) then (
        some false)
      else (
        (M.laws_markHandS y3 (1 : Int)).bind fun y8 =>
        asrt (y8.2.length = y3.length) <|
        ((bif (decide (y8.1 < (0 : Int))) then some default else M.laws_eqIntS y4.1 y2.1)).bind fun y9 =>
        bif (((decide (y8.1 < (0 : Int))) || (!y9)) || (!(y4.2 == y2.2))) then (
          some false)
        else (
          (M.laws_markIntS y4.1 (1 : Int)).bind fun y10 =>
          asrt (y10.2.length = y4.1.length) <|
          (M.laws_heldIntS y10.2 (1 : Int)).bind fun y11 =>
          bif (decide (y11 < (0 : Int))) then (
            some false)
          else (
            bif (y11 != y10.1) then (
              some false)
            else (
              (M.laws_toHandS aList).bind fun y12 =>
              (M.impl_Suspects y12 aRecord).bind fun y13 =>
              (M.laws_eqIntS y13.1 y2.1).bind fun y14 =>
              bif ((!y14) || (!(y13.2 == y2.2))) then (
                some false)
              else (
                (M.laws_heldIntS y10.2 (1 : Int)).bind fun y15 =>
                bif (decide (y15 < (0 : Int))) then (
                  some false)
                else (
                  bif (y15 != y10.1) then (
                    some false)
                  else (
                    some true)))))))))

def M.laws_rBig (code : List Int) : Option Bool :=
  some (decide ((code.length : Int) > (65536 : Int)))

def M.spec_l1Cur_next (c : Cur) : Option (Int × Cur) :=
  (((
    bif (decide (c.At < (c.Code.length : Int))) then (
      asrt ((0 : Int) ≤ c.At ∧ c.At < (c.Code.length : Int)) <|
      some (IntKind.i64.wrap (c.Code.getD (Int.toNat c.At) default)))
    else (
      some (0 : Int))) : Option Int)).bind fun e => match e with
  | b_ =>
    (bif (decide ((IntKind.i64.wrap (c.At + (1 : Int))) ≤ (c.Code.length : Int))) then (
      some (b_, (⟨c.Code, (IntKind.i64.wrap (c.At + (1 : Int))), (IntKind.u64.wrap ((IntKind.u64.wrap ((IntKind.u64.wrap (c.Seed * (6364136223846793005 : Int))) + (IntKind.u64.wrap b_))) + (103535 : Int)))⟩ : Cur)))
    else (
      some ((IntKind.i64.wrap (IntKind.u64.wrap (BitVec.ofInt IntKind.u64.bits (Int.fdiv (IntKind.u64.wrap ((IntKind.u64.wrap ((IntKind.u64.wrap (c.Seed * (6364136223846793005 : Int))) + (IntKind.u64.wrap b_))) + (103535 : Int))) (2 ^ (min (Int.toNat (40 : Int)) IntKind.u64.bits))) &&& BitVec.ofInt IntKind.u64.bits (255 : Int)).toNat)), (⟨c.Code, (IntKind.i64.wrap (c.At + (1 : Int))), (IntKind.u64.wrap ((IntKind.u64.wrap ((IntKind.u64.wrap (c.Seed * (6364136223846793005 : Int))) + (IntKind.u64.wrap b_))) + (103535 : Int)))⟩ : Cur))))

def M.spec_l1Cur_pick (c : Cur) (n : Int) : Option (Int × Cur) :=
  bif (decide (n ≤ (1 : Int))) then (
    some ((0 : Int), c))
  else (
    (M.spec_l1Cur_next c).bind fun y0 =>
    (((
      bif (decide (n > (200 : Int))) then (
        (M.spec_l1Cur_next y0.2).bind fun y1 =>
        some ((IntKind.i64.wrap ((IntKind.i64.wrap (y0.1 * (256 : Int))) + y1.1)), y1.2))
      else (
        some (y0.1, y0.2))) : Option (Int × Cur))).bind fun e => match e with
    | (x, c_) =>
      (asrt (n ≠ 0) <|
      some ((Int.tmod x n), c_)))

def M.spec_l1Cur_among (c : Cur) (list : List Int) : Option (Int × Cur) :=
  (M.spec_l1Cur_pick c (list.length : Int)).bind fun y0 =>
  asrt ((0 : Int) ≤ y0.1 ∧ y0.1 < (list.length : Int)) <|
  some ((list.getD (Int.toNat y0.1) default), y0.2)

def M.spec_l1Cur_one (c : Cur) (n : Int) : Option (Bool × Cur) :=
  (M.spec_l1Cur_pick c n).bind fun y0 =>
  some ((y0.1 == (0 : Int)), y0.2)

def M.spec_l1Cur_hands_l0 : (List Hand × Int × Int × Cur) → Option ((List Hand × Int × Int × Cur) ⊕ (List Hand × Cur)) := fun st_ => match st_ with
| (out_0, day, n_, c_0) =>
  bif (decide (n_ > (0 : Int))) then (
    (((
      (M.spec_l1Cur_among c_0 ([(1 : Int), (1 : Int), (2 : Int), (999 : Int)] : List Int)).bind fun y3 =>
      (M.spec_l1Cur_pick y3.2 (3 : Int)).bind fun y4 =>
      (M.spec_l1Cur_pick y4.2 (4 : Int)).bind fun y5 =>
      (M.spec_l1Cur_among y5.2 ([(5 : Int), (5 : Int), (5 : Int), (6 : Int), (999999 : Int)] : List Int)).bind fun y6 =>
      (M.spec_l1Cur_one y6.2 (2 : Int)).bind fun y7 =>
      (((
        (M.spec_l17Before out_0 y3.1 (out_0.length : Int)).bind fun y8 =>
        ((bif (decide (y8 ≥ (0 : Int))) then M.spec_l1Cur_one y7.2 (12 : Int) else some default)).bind fun y9 =>
        bif ((decide (y8 ≥ (0 : Int))) && (!y9.1)) then (
          asrt ((0 : Int) ≤ y8 ∧ y8 < (out_0.length : Int)) <|
          bif ((IntKind.i64.wrap ((1 : Int) + y5.1)) == ((out_0.getD (Int.toNat y8) default).To)) then (
            some ((⟨y3.1, (out_0.getD (Int.toNat y8) default).To, (IntKind.i64.wrap ((Int.tmod (IntKind.i64.wrap ((1 : Int) + y5.1)) (4 : Int)) + (1 : Int))), day, y6.1, y7.1⟩ : Hand), (bif (decide (y8 ≥ (0 : Int))) then y9.2 else y7.2)))
          else (
            some ((⟨y3.1, (out_0.getD (Int.toNat y8) default).To, (IntKind.i64.wrap ((1 : Int) + y5.1)), day, y6.1, y7.1⟩ : Hand), (bif (decide (y8 ≥ (0 : Int))) then y9.2 else y7.2))))
        else (
          some ((⟨y3.1, (IntKind.i64.wrap ((1 : Int) + y4.1)), (IntKind.i64.wrap ((1 : Int) + y5.1)), day, y6.1, y7.1⟩ : Hand), (bif (decide (y8 ≥ (0 : Int))) then y9.2 else y7.2)))) : Option (Hand × Cur))).bind fun e => match e with
      | (h_, c_2) =>
        ((((
          (M.spec_l1Cur_pick c_2 (120 : Int)).bind fun y10 =>
          (((
            bif (y10.1 == (0 : Int)) then (
              (M.spec_l1Cur_among y10.2 ([(0 : Int), (1000 : Int)] : List Int)).bind fun y11 =>
              some (y11.2, (⟨y11.1, h_.From, h_.To, h_.Day, h_.Sum, h_.Seal⟩ : Hand)))
            else (
              bif (y10.1 == (1 : Int)) then (
                (M.spec_l1Cur_among y10.2 ([(0 : Int), (21 : Int)] : List Int)).bind fun y12 =>
                some (y12.2, (⟨h_.Record, y12.1, h_.To, h_.Day, h_.Sum, h_.Seal⟩ : Hand)))
              else (
                bif (y10.1 == (2 : Int)) then (
                  (M.spec_l1Cur_among y10.2 ([(0 : Int), (21 : Int), h_.From] : List Int)).bind fun y13 =>
                  some (y13.2, (⟨h_.Record, h_.From, y13.1, h_.Day, h_.Sum, h_.Seal⟩ : Hand)))
                else (
                  bif (y10.1 == (3 : Int)) then (
                    (M.spec_l1Cur_among y10.2 ([(-1 : Int), (20001 : Int)] : List Int)).bind fun y14 =>
                    some (y14.2, (⟨h_.Record, h_.From, h_.To, y14.1, h_.Sum, h_.Seal⟩ : Hand)))
                  else (
                    bif (y10.1 == (4 : Int)) then (
                      (M.spec_l1Cur_among y10.2 ([(-1 : Int), (1000000 : Int)] : List Int)).bind fun y15 =>
                      some (y15.2, (⟨h_.Record, h_.From, h_.To, h_.Day, y15.1, h_.Seal⟩ : Hand)))
                    else (
                      some (y10.2, h_))))))) : Option (Cur × Hand))).bind fun e => match e with
          | (c_4, h_1) =>
            (some (c_4, h_1))) : Option (Cur × Hand))).bind fun e => match e with
        | (c_3, h_0) =>
          ((((
            asrt ((([] : List Hand).length : Int) + (out_0.length : Int) ≤ 2147483648) <|
            asrt (((([] : List Hand) ++ out_0).length : Int) + (([h_0] : List Hand).length : Int) ≤ 2147483648) <|
            (((
              some ((([] : List Hand) ++ out_0) ++ ([h_0] : List Hand))) : Option (List Hand))).bind fun e => match e with
            | next =>
              ((M.spec_l17Good next).bind fun y16 =>
              ((bif y16 then some default else M.spec_l1Cur_one c_3 (40 : Int))).bind fun y17 =>
              bif (y16 || y17.1) then (
                some (next, (bif y16 then c_3 else y17.2)))
              else (
                some (out_0, (bif y16 then c_3 else y17.2))))) : Option (List Hand × Cur))).bind fun e => match e with
          | (out_2, c_5) =>
            ((M.spec_l1Cur_among c_5 ([(0 : Int), (0 : Int), (1 : Int), (10 : Int)] : List Int)).bind fun y18 =>
            some (out_2, (IntKind.i64.wrap (day + y18.1)), y18.2))))) : Option (List Hand × Int × Cur))).bind fun e => match e with
    | (out_1, day0, c_1) =>
      (some (.inl (out_1, day0, (IntKind.i64.wrap (n_ - (1 : Int))), c_1))))
  else (
    some (.inr (out_0, c_0)))

def M.spec_l1Cur_hands_l1 : (List Hand × Int × Cur) → Option ((List Hand × Int × Cur) ⊕ (List Hand × Cur)) := fun st_ => match st_ with
| (out_4, n_0, c_7) =>
  (M.spec_l1Cur_pick c_7 (2 : Int)).bind fun y21 =>
  bif (decide (n_0 < (IntKind.i64.wrap ((12 : Int) + y21.1)))) then (
    asrt ((out_4.length : Int) + (([(⟨(1 : Int), (IntKind.i64.wrap ((1 : Int) + (Int.tmod n_0 (2 : Int)))), (IntKind.i64.wrap ((2 : Int) - (Int.tmod n_0 (2 : Int)))), n_0, (0 : Int), false⟩ : Hand)] : List Hand).length : Int) ≤ 2147483648) <|
    some (.inl ((out_4 ++ ([(⟨(1 : Int), (IntKind.i64.wrap ((1 : Int) + (Int.tmod n_0 (2 : Int)))), (IntKind.i64.wrap ((2 : Int) - (Int.tmod n_0 (2 : Int)))), n_0, (0 : Int), false⟩ : Hand)] : List Hand)), (IntKind.i64.wrap (n_0 + (1 : Int))), y21.2)))
  else (
    some (.inr (out_4, y21.2)))

def M.spec_l1Cur_hands (c : Cur) : Option (List Hand × Cur) :=
  (M.spec_l1Cur_among c ([(0 : Int), (10 : Int), (19900 : Int)] : List Int)).bind fun y0 =>
  (M.spec_l1Cur_pick y0.2 (10 : Int)).bind fun y1 =>
  (iterO (M.spec_l1Cur_hands_l0) (([] : List Hand), y0.1, y1.1, y1.2)).bind fun e => match e with
  | (out_, c_) =>
    ((M.spec_l1Cur_one c_ (24 : Int)).bind fun y19 =>
    bif y19.1 then (
      (iterO (M.spec_l1Cur_hands_l1) (([] : List Hand), (0 : Int), y19.2)).bind fun e => match e with
      | (out_3, c_6) =>
        (some (out_3, c_6)))
    else (
      some (out_, y19.2)))

def M.spec_l1Cur_record17 (c : Cur) : Option (Int × Cur) :=
  (M.spec_l1Cur_pick c (24 : Int)).bind fun y0 =>
  asrt ((0 : Int) ≤ (0 : Int) ∧ (0 : Int) ≤ (IntKind.i64.wrap ((5 : Int) + (IntKind.i64.wrap (Int.tdiv y0.1 (11 : Int))))) ∧ (IntKind.i64.wrap ((5 : Int) + (IntKind.i64.wrap (Int.tdiv y0.1 (11 : Int))))) ≤ (([(1 : Int), (1 : Int), (2 : Int), (999 : Int), (50 : Int), (0 : Int), (1000 : Int)] : List Int).length : Int)) <|
  (M.spec_l1Cur_among y0.2 (slc ([(1 : Int), (1 : Int), (2 : Int), (999 : Int), (50 : Int), (0 : Int), (1000 : Int)] : List Int) (0 : Int) (IntKind.i64.wrap ((5 : Int) + (IntKind.i64.wrap (Int.tdiv y0.1 (11 : Int))))))).bind fun y1 =>
  some (y1.1, y1.2)

def M.spec_DrawChainOf (code : List Int) : Option (List Hand × Int) :=
  (M.spec_l1Cur_hands (⟨code, (0 : Int), (0 : Int)⟩ : Cur)).bind fun y0 =>
  (M.spec_l1Cur_record17 y0.2).bind fun y1 =>
  some (y0.1, y1.1)

def M.impl_ChainOf_l0 (list : List Hand) (record : Int) : (List Int × Int) → Option ((List Int × Int) ⊕ (List Int)) := fun st_ => match st_ with
| (chain0, v) =>
  bif (decide (v < (list.length : Int))) then (
    (((
      asrt ((0 : Int) ≤ v ∧ v < (list.length : Int)) <|
      bif (((list.getD (Int.toNat v) default).Record) != record) then (
        some chain0)
      else (
        (((
          bif ((chain0.length : Int) == (0 : Int)) then (
            asrt ((chain0.length : Int) + (([(list.getD (Int.toNat v) default).From] : List Int).length : Int) ≤ 2147483648) <|
            some (chain0 ++ ([(list.getD (Int.toNat v) default).From] : List Int)))
          else (
            some chain0)) : Option (List Int))).bind fun e => match e with
        | chain2 =>
          (asrt ((chain2.length : Int) + (([(list.getD (Int.toNat v) default).To] : List Int).length : Int) ≤ 2147483648) <|
          some (chain2 ++ ([(list.getD (Int.toNat v) default).To] : List Int))))) : Option (List Int))).bind fun e => match e with
    | chain1 =>
      (some (.inl (chain1, (IntKind.i64.wrap (v + (1 : Int)))))))
  else (
    some (.inr chain0))

def M.impl_ChainOf (list : List Hand) (record : Int) : Option (List Int × Bool) :=
  (M.impl_IsCustody list).bind fun y0 =>
  ((bif (!y0) then some default else M.impl_isRecordId record)).bind fun y1 =>
  bif ((!y0) || (!y1)) then (
    some (([] : List Int), false))
  else (
    (iterO (M.impl_ChainOf_l0 list record) (([] : List Int), (0 : Int))).bind fun e => match e with
    | chain =>
      (some (chain, true)))

def M.spec_ChainOf_l0 (list : List Hand) (record : Int) : (List Int × Int) → Option ((List Int × Int) ⊕ (List Int)) := fun st_ => match st_ with
| (out_0, i) =>
  bif (decide (i < (list.length : Int))) then (
    (((
      asrt ((0 : Int) ≤ i ∧ i < (list.length : Int)) <|
      bif (((list.getD (Int.toNat i) default).Record) != record) then (
        some out_0)
      else (
        (((
          bif ((out_0.length : Int) == (0 : Int)) then (
            asrt ((0 : Int) ≤ i ∧ i < (list.length : Int)) <|
            asrt ((out_0.length : Int) + (([(list.getD (Int.toNat i) default).From] : List Int).length : Int) ≤ 2147483648) <|
            some (out_0 ++ ([(list.getD (Int.toNat i) default).From] : List Int)))
          else (
            some out_0)) : Option (List Int))).bind fun e => match e with
        | out_2 =>
          (asrt ((0 : Int) ≤ i ∧ i < (list.length : Int)) <|
          asrt ((out_2.length : Int) + (([(list.getD (Int.toNat i) default).To] : List Int).length : Int) ≤ 2147483648) <|
          some (out_2 ++ ([(list.getD (Int.toNat i) default).To] : List Int))))) : Option (List Int))).bind fun e => match e with
    | out_1 =>
      (some (.inl (out_1, (IntKind.i64.wrap (i + (1 : Int)))))))
  else (
    some (.inr out_0))

def M.spec_ChainOf (list : List Hand) (record : Int) : Option (List Int × Bool) :=
  (M.spec_l17Good list).bind fun y0 =>
  ((bif (!y0) then some default else M.spec_l17Record record)).bind fun y1 =>
  bif ((!y0) || (!y1)) then (
    some (([] : List Int), false))
  else (
    (iterO (M.spec_ChainOf_l0 list record) (([] : List Int), (0 : Int))).bind fun e => match e with
    | out_ =>
      (some (out_, true)))

def M.laws_rInts_l0 (a : List Int) (b_ : List Int) : (Int) → Option ((Int) ⊕ ((Unit) ⊕ (Bool))) := fun st_ => match st_ with
| i =>
  bif (decide (i < (a.length : Int))) then (
    asrt ((0 : Int) ≤ i ∧ i < (a.length : Int)) <|
    asrt ((0 : Int) ≤ i ∧ i < (b_.length : Int)) <|
    bif ((a.getD (Int.toNat i) default) != (b_.getD (Int.toNat i) default)) then (
      some (.inr (.inr false)))
    else (
      some (.inl (IntKind.i64.wrap (i + (1 : Int))))))
  else (
    some (.inr (.inl ())))

def M.laws_rInts (a : List Int) (b_ : List Int) : Option Bool :=
  bif ((a.length : Int) != (b_.length : Int)) then (
    some false)
  else (
    (iterO (M.laws_rInts_l0 a b_) (0 : Int)).bind fun e => match e with
    | .inl () =>
      (some true)
    | .inr r => some r)

def M.impl_holderOf_l0 (list : List Hand) (record : Int) (day : Int) : (Int × Int) → Option ((Int × Int) ⊕ (Int)) := fun st_ => match st_ with
| (who0, v) =>
  bif (decide (v < (list.length : Int))) then (
    (((
      asrt ((0 : Int) ≤ v ∧ v < (list.length : Int)) <|
      bif ((((list.getD (Int.toNat v) default).Record) == record) && (decide (((list.getD (Int.toNat v) default).Day) ≤ day))) then (
        some ((list.getD (Int.toNat v) default).To))
      else (
        some who0)) : Option Int)).bind fun e => match e with
    | who1 =>
      (some (.inl (who1, (IntKind.i64.wrap (v + (1 : Int)))))))
  else (
    some (.inr who0))

def M.impl_holderOf (list : List Hand) (record : Int) (day : Int) : Option Int :=
  (iterO (M.impl_holderOf_l0 list record day) ((0 : Int), (0 : Int))).bind fun e => match e with
  | who =>
    (some who)

def M.impl_HolderOf (list : List Hand) (record : Int) (day : Int) : Option (Int × Bool) :=
  (M.impl_IsCustody list).bind fun y0 =>
  ((bif (!y0) then some default else M.impl_isRecordId record)).bind fun y1 =>
  ((bif ((!y0) || (!y1)) then some default else M.impl_isDay day)).bind fun y2 =>
  bif (((!y0) || (!y1)) || (!y2)) then (
    some ((0 : Int), false))
  else (
    (M.impl_holderOf list record day).bind fun y3 =>
    some (y3, (decide (y3 > (0 : Int)))))

def M.spec_l1Cur_day17 (c : Cur) : Option (Int × Cur) :=
  (M.spec_l1Cur_pick c (24 : Int)).bind fun y0 =>
  asrt ((0 : Int) ≤ (0 : Int) ∧ (0 : Int) ≤ (IntKind.i64.wrap ((7 : Int) + (IntKind.i64.wrap (Int.tdiv y0.1 (11 : Int))))) ∧ (IntKind.i64.wrap ((7 : Int) + (IntKind.i64.wrap (Int.tdiv y0.1 (11 : Int))))) ≤ (([(0 : Int), (5 : Int), (10 : Int), (12 : Int), (30 : Int), (20000 : Int), (20000 : Int), (-1 : Int), (20001 : Int)] : List Int).length : Int)) <|
  (M.spec_l1Cur_among y0.2 (slc ([(0 : Int), (5 : Int), (10 : Int), (12 : Int), (30 : Int), (20000 : Int), (20000 : Int), (-1 : Int), (20001 : Int)] : List Int) (0 : Int) (IntKind.i64.wrap ((7 : Int) + (IntKind.i64.wrap (Int.tdiv y0.1 (11 : Int))))))).bind fun y1 =>
  some (y1.1, y1.2)

def M.spec_DrawHeldBy (code : List Int) : Option (List Hand × Int × Int) :=
  (M.spec_l1Cur_hands (⟨code, (0 : Int), (0 : Int)⟩ : Cur)).bind fun y0 =>
  (M.spec_l1Cur_pick y0.2 (24 : Int)).bind fun y1 =>
  asrt ((0 : Int) ≤ (0 : Int) ∧ (0 : Int) ≤ (IntKind.i64.wrap ((5 : Int) + (IntKind.i64.wrap (Int.tdiv y1.1 (11 : Int))))) ∧ (IntKind.i64.wrap ((5 : Int) + (IntKind.i64.wrap (Int.tdiv y1.1 (11 : Int))))) ≤ (([(1 : Int), (2 : Int), (3 : Int), (4 : Int), (20 : Int), (0 : Int), (21 : Int)] : List Int).length : Int)) <|
  (M.spec_l1Cur_among y1.2 (slc ([(1 : Int), (2 : Int), (3 : Int), (4 : Int), (20 : Int), (0 : Int), (21 : Int)] : List Int) (0 : Int) (IntKind.i64.wrap ((5 : Int) + (IntKind.i64.wrap (Int.tdiv y1.1 (11 : Int))))))).bind fun y2 =>
  (M.spec_l1Cur_day17 y2.2).bind fun y3 =>
  some (y0.1, y2.1, y3.1)

def M.impl_HeldBy_l0 (list : List Hand) (who : Int) (day : Int) : (List Int × Int) → Option ((List Int × Int) ⊕ (List Int)) := fun st_ => match st_ with
| (records0, v) =>
  bif (decide (v < (list.length : Int))) then (
    (((
      asrt ((0 : Int) ≤ v ∧ v < (list.length : Int)) <|
      (M.impl_holderOf list ((list.getD (Int.toNat v) default).Record) day).bind fun y4 =>
      bif (y4 == who) then (
        asrt ((records0.length : Int) + (([(list.getD (Int.toNat v) default).Record] : List Int).length : Int) ≤ 2147483648) <|
        some (records0 ++ ([(list.getD (Int.toNat v) default).Record] : List Int)))
      else (
        some records0)) : Option (List Int))).bind fun e => match e with
    | records1 =>
      (some (.inl (records1, (IntKind.i64.wrap (v + (1 : Int)))))))
  else (
    some (.inr records0))

def M.impl_HeldBy (list : List Hand) (who : Int) (day : Int) : Option (List Int × Bool) :=
  (M.impl_IsCustody list).bind fun y0 =>
  ((bif (!y0) then some default else M.impl_isPerson who)).bind fun y1 =>
  ((bif ((!y0) || (!y1)) then some default else M.impl_isDay day)).bind fun y2 =>
  bif (((!y0) || (!y1)) || (!y2)) then (
    some (([] : List Int), false))
  else (
    (iterO (M.impl_HeldBy_l0 list who day) (([] : List Int), (0 : Int))).bind fun e => match e with
    | records =>
      ((M.impl_eachOnce records).bind fun y5 =>
      some (y5, true)))

def M.spec_l17Holder_l0 (list : List Hand) (record : Int) (day : Int) : (Int × Int) → Option ((Int × Int) ⊕ (Int)) := fun st_ => match st_ with
| (who0, i) =>
  bif (decide (i < (list.length : Int))) then (
    (((
      asrt ((0 : Int) ≤ i ∧ i < (list.length : Int)) <|
      asrt ((((list.getD (Int.toNat i) default).Record) == record) = true → ((0 : Int) ≤ i ∧ i < (list.length : Int))) <|
      bif ((((list.getD (Int.toNat i) default).Record) == record) && (decide (((list.getD (Int.toNat i) default).Day) ≤ day))) then (
        asrt ((0 : Int) ≤ i ∧ i < (list.length : Int)) <|
        some ((list.getD (Int.toNat i) default).To))
      else (
        some who0)) : Option Int)).bind fun e => match e with
    | who1 =>
      (some (.inl (who1, (IntKind.i64.wrap (i + (1 : Int)))))))
  else (
    some (.inr who0))

def M.spec_l17Holder (list : List Hand) (record : Int) (day : Int) : Option Int :=
  (iterO (M.spec_l17Holder_l0 list record day) ((0 : Int), (0 : Int))).bind fun e => match e with
  | who =>
    (some who)

def M.spec_HeldBy_l0 (list : List Hand) (who : Int) (day : Int) : (List Int × Int) → Option ((List Int × Int) ⊕ (List Int)) := fun st_ => match st_ with
| (out_0, i) =>
  bif (decide (i < (list.length : Int))) then (
    (((
      asrt ((0 : Int) ≤ i ∧ i < (list.length : Int)) <|
      (M.spec_l17Holder list ((list.getD (Int.toNat i) default).Record) day).bind fun y4 =>
      ((bif (y4 == who) then M.spec_l1Has out_0 ((list.getD (Int.toNat i) default).Record) else some default)).bind fun y5 =>
      bif ((y4 == who) && (!y5)) then (
        (M.spec_l1Put out_0 ((list.getD (Int.toNat i) default).Record)).bind fun y6 =>
        some y6)
      else (
        some out_0)) : Option (List Int))).bind fun e => match e with
    | out_1 =>
      (some (.inl (out_1, (IntKind.i64.wrap (i + (1 : Int)))))))
  else (
    some (.inr out_0))

def M.spec_HeldBy (list : List Hand) (who : Int) (day : Int) : Option (List Int × Bool) :=
  (M.spec_l17Good list).bind fun y0 =>
  ((bif (!y0) then some default else M.spec_l17Who who)).bind fun y1 =>
  ((bif ((!y0) || (!y1)) then some default else M.spec_l2Day day)).bind fun y2 =>
  bif (((!y0) || (!y1)) || (!y2)) then (
    some (([] : List Int), false))
  else (
    (iterO (M.spec_HeldBy_l0 list who day) (([] : List Int), (0 : Int))).bind fun e => match e with
    | out_ =>
      (some (out_, true)))

def M.laws_rHas_l0 (list : List Int) (x : Int) : (Int) → Option ((Int) ⊕ ((Unit) ⊕ (Bool))) := fun st_ => match st_ with
| i =>
  bif (decide (i < (list.length : Int))) then (
    asrt ((0 : Int) ≤ i ∧ i < (list.length : Int)) <|
    bif ((list.getD (Int.toNat i) default) == x) then (
      some (.inr (.inr true)))
    else (
      some (.inl (IntKind.i64.wrap (i + (1 : Int))))))
  else (
    some (.inr (.inl ())))

def M.laws_rHas (list : List Int) (x : Int) : Option Bool :=
  (iterO (M.laws_rHas_l0 list x) (0 : Int)).bind fun e => match e with
  | .inl () =>
    (some false)
  | .inr r => some r

def M.spec_DrawAppendHand (code : List Int) : Option (List Hand × Hand) :=
  (M.spec_l1Cur_hands (⟨code, (0 : Int), (0 : Int)⟩ : Cur)).bind fun y0 =>
  (M.spec_l1Cur_among y0.2 ([(1 : Int), (2 : Int), (999 : Int), (0 : Int)] : List Int)).bind fun y1 =>
  (M.spec_l1Cur_pick y1.2 (4 : Int)).bind fun y2 =>
  (M.spec_l1Cur_pick y2.2 (5 : Int)).bind fun y3 =>
  (((
    bif (decide ((y0.1.length : Int) > (0 : Int))) then (
      asrt ((0 : Int) ≤ (IntKind.i64.wrap ((y0.1.length : Int) - (1 : Int))) ∧ (IntKind.i64.wrap ((y0.1.length : Int) - (1 : Int))) < (y0.1.length : Int)) <|
      (M.spec_l1Cur_pick y3.2 (3 : Int)).bind fun y4 =>
      (M.spec_l1Cur_pick y4.2 (8 : Int)).bind fun y5 =>
      (M.spec_l17Before y0.1 y1.1 (y0.1.length : Int)).bind fun y6 =>
      ((bif (decide (y6 ≥ (0 : Int))) then M.spec_l1Cur_one y5.2 (6 : Int) else some default)).bind fun y7 =>
      bif ((decide (y6 ≥ (0 : Int))) && (!y7.1)) then (
        asrt ((0 : Int) ≤ y6 ∧ y6 < (y0.1.length : Int)) <|
        some (⟨y1.1, (y0.1.getD (Int.toNat y6) default).To, (IntKind.i64.wrap ((1 : Int) + y3.1)), (IntKind.i64.wrap ((IntKind.i64.wrap (((y0.1.getD (Int.toNat (IntKind.i64.wrap ((y0.1.length : Int) - (1 : Int)))) default).Day) + y4.1)) - (IntKind.i64.wrap (Int.tdiv y5.1 (7 : Int))))), (5 : Int), false⟩ : Hand))
      else (
        some (⟨y1.1, (IntKind.i64.wrap ((1 : Int) + y2.1)), (IntKind.i64.wrap ((1 : Int) + y3.1)), (IntKind.i64.wrap ((IntKind.i64.wrap (((y0.1.getD (Int.toNat (IntKind.i64.wrap ((y0.1.length : Int) - (1 : Int)))) default).Day) + y4.1)) - (IntKind.i64.wrap (Int.tdiv y5.1 (7 : Int))))), (5 : Int), false⟩ : Hand)))
    else (
      some (⟨y1.1, (IntKind.i64.wrap ((1 : Int) + y2.1)), (IntKind.i64.wrap ((1 : Int) + y3.1)), (15 : Int), (5 : Int), false⟩ : Hand))) : Option Hand)).bind fun e => match e with
  | h_ =>
    (some (y0.1, h_))

def M.slices_Clone_impl_Hand_impl_Hand (s : List Hand) : Option (List Hand) := asrt ((s.length : Int) ≤ 2147483648) <| some s

def M.impl_AppendHand (list : List Hand) (h_ : Hand) : Option (List Hand × Bool) :=
  (M.slices_Clone_impl_Hand_impl_Hand list).bind fun y0 =>
  asrt ((y0.length : Int) + (([h_] : List Hand).length : Int) ≤ 2147483648) <|
  (((
    some (y0 ++ ([h_] : List Hand))) : Option (List Hand))).bind fun e => match e with
  | out_ =>
    ((M.impl_IsCustody list).bind fun y1 =>
    ((bif (!y1) then some default else M.impl_IsCustody out_)).bind fun y2 =>
    bif ((!y1) || (!y2)) then (
      some (([] : List Hand), false))
    else (
      some (out_, true)))

def M.spec_AppendHand (list : List Hand) (h_ : Hand) : Option (List Hand × Bool) :=
  asrt ((([] : List Hand).length : Int) + (list.length : Int) ≤ 2147483648) <|
  asrt (((([] : List Hand) ++ list).length : Int) + (([h_] : List Hand).length : Int) ≤ 2147483648) <|
  (((
    some ((([] : List Hand) ++ list) ++ ([h_] : List Hand))) : Option (List Hand))).bind fun e => match e with
  | out_ =>
    ((M.spec_l17Good out_).bind fun y0 =>
    bif (!y0) then (
      some (([] : List Hand), false))
    else (
      some (out_, true)))

def M.laws_rHands_l0 (a : List Hand) (b_ : List Hand) : (Int) → Option ((Int) ⊕ ((Unit) ⊕ (Bool))) := fun st_ => match st_ with
| i =>
  bif (decide (i < (a.length : Int))) then (
    asrt ((0 : Int) ≤ i ∧ i < (a.length : Int)) <|
    asrt ((0 : Int) ≤ i ∧ i < (b_.length : Int)) <|
    bif (!((((a.getD (Int.toNat i) default).Record) == ((b_.getD (Int.toNat i) default).Record)) && ((((a.getD (Int.toNat i) default).From) == ((b_.getD (Int.toNat i) default).From)) && ((((a.getD (Int.toNat i) default).To) == ((b_.getD (Int.toNat i) default).To)) && ((((a.getD (Int.toNat i) default).Day) == ((b_.getD (Int.toNat i) default).Day)) && ((((a.getD (Int.toNat i) default).Sum) == ((b_.getD (Int.toNat i) default).Sum)) && ((((a.getD (Int.toNat i) default).Seal) == ((b_.getD (Int.toNat i) default).Seal)) && true))))))) then (
      some (.inr (.inr false)))
    else (
      some (.inl (IntKind.i64.wrap (i + (1 : Int))))))
  else (
    some (.inr (.inl ())))

def M.laws_rHands (a : List Hand) (b_ : List Hand) : Option Bool :=
  bif ((a.length : Int) != (b_.length : Int)) then (
    some false)
  else (
    (iterO (M.laws_rHands_l0 a b_) (0 : Int)).bind fun e => match e with
    | .inl () =>
      (some true)
    | .inr r => some r)

def M.spec_DrawHolderOf (code : List Int) : Option (List Hand × Int × Int) :=
  (M.spec_l1Cur_hands (⟨code, (0 : Int), (0 : Int)⟩ : Cur)).bind fun y0 =>
  (M.spec_l1Cur_record17 y0.2).bind fun y1 =>
  (M.spec_l1Cur_day17 y1.2).bind fun y2 =>
  some (y0.1, y1.1, y2.1)

def M.spec_HolderOf (list : List Hand) (record : Int) (day : Int) : Option (Int × Bool) :=
  (M.spec_l17Good list).bind fun y0 =>
  ((bif (!y0) then some default else M.spec_l17Record record)).bind fun y1 =>
  ((bif ((!y0) || (!y1)) then some default else M.spec_l2Day day)).bind fun y2 =>
  bif (((!y0) || (!y1)) || (!y2)) then (
    some ((0 : Int), false))
  else (
    (M.spec_l17Holder list record day).bind fun y3 =>
    some (y3, (decide (y3 > (0 : Int)))))

def M.laws_FnCustody_l0 (y6 : List Hand × Int × Int) (y7 : List Int × Bool) : (Int) → Option ((Int) ⊕ ((Unit) ⊕ (Bool))) := fun st_ => match st_ with
| i =>
  bif ((decide (i < (y6.1.length : Int))) && y7.2) then (
    asrt ((0 : Int) ≤ i ∧ i < (y6.1.length : Int)) <|
    (M.impl_HolderOf y6.1 ((y6.1.getD (Int.toNat i) default).Record) y6.2.2).bind fun y11 =>
    asrt ((0 : Int) ≤ i ∧ i < (y6.1.length : Int)) <|
    (M.laws_rHas y7.1 ((y6.1.getD (Int.toNat i) default).Record)).bind fun y12 =>
    bif (!(y12 == (y11.2 && (y11.1 == y6.2.1)))) then (
      some (.inr (.inr false)))
    else (
      some (.inl (IntKind.i64.wrap (i + (1 : Int))))))
  else (
    some (.inr (.inl ())))

def M.laws_FnCustody (code : List Int) : Option Bool :=
  (M.laws_rBig code).bind fun y0 =>
  bif y0 then (
    some true)
  else (
    (M.spec_DrawChainOf code).bind fun y1 =>
    (M.impl_ChainOf y1.1 y1.2).bind fun y2 =>
    (M.spec_ChainOf y1.1 y1.2).bind fun y3 =>
    ((bif (!(y2.2 == y3.2)) then some default else M.laws_rInts y2.1 y3.1)).bind fun y4 =>
    bif ((!(y2.2 == y3.2)) || (!y4)) then (
      some false)
    else (
      (((
        bif (decide ((y2.1.length : Int) > (0 : Int))) then (
          (M.impl_HolderOf y1.1 y1.2 (20000 : Int)).bind fun y5 =>
          asrt ((!y5.2) = false → ((0 : Int) ≤ (IntKind.i64.wrap ((y2.1.length : Int) - (1 : Int))) ∧ (IntKind.i64.wrap ((y2.1.length : Int) - (1 : Int))) < (y2.1.length : Int))) <|
          bif ((!y5.2) || (y5.1 != (y2.1.getD (Int.toNat (IntKind.i64.wrap ((y2.1.length : Int) - (1 : Int)))) default))) then (
            some (.inr false))
          else (
            some (.inl ())))
        else (
          some (.inl ()))) : Option ((Unit) ⊕ (Bool)))).bind fun e => match e with
      | .inl () =>
        ((M.spec_DrawHeldBy code).bind fun y6 =>
        (M.impl_HeldBy y6.1 y6.2.1 y6.2.2).bind fun y7 =>
        (M.spec_HeldBy y6.1 y6.2.1 y6.2.2).bind fun y8 =>
        ((bif (!(y7.2 == y8.2)) then some default else M.laws_rInts y7.1 y8.1)).bind fun y9 =>
        bif ((!(y7.2 == y8.2)) || (!y9)) then (
          some false)
        else (
          (iterO (M.laws_FnCustody_l0 y6 y7) (0 : Int)).bind fun e => match e with
          | .inl () =>
            ((M.spec_DrawAppendHand code).bind fun y13 =>
            (M.impl_AppendHand y13.1 y13.2).bind fun y14 =>
            (M.spec_AppendHand y13.1 y13.2).bind fun y15 =>
            ((bif (!(y14.2 == y15.2)) then some default else M.laws_rHands y14.1 y15.1)).bind fun y16 =>
            bif ((!(y14.2 == y15.2)) || (!y16)) then (
              some false)
            else (
              (((
                bif y14.2 then (
                  (M.impl_HolderOf y14.1 y13.2.Record y13.2.Day).bind fun y17 =>
                  ((bif ((!y17.2) || (y17.1 != y13.2.To)) then some default else M.impl_IsHand y13.2)).bind fun y18 =>
                  ((bif (((!y17.2) || (y17.1 != y13.2.To)) || (!y18)) then some default else M.impl_IsCustody y14.1)).bind fun y19 =>
                  bif ((((!y17.2) || (y17.1 != y13.2.To)) || (!y18)) || (!y19)) then (
                    some (.inr false))
                  else (
                    some (.inl ())))
                else (
                  some (.inl ()))) : Option ((Unit) ⊕ (Bool)))).bind fun e => match e with
              | .inl () =>
                ((M.spec_DrawHolderOf code).bind fun y20 =>
                (M.impl_HolderOf y20.1 y20.2.1 y20.2.2).bind fun y21 =>
                (M.spec_HolderOf y20.1 y20.2.1 y20.2.2).bind fun y22 =>
                some ((y21.1 == y22.1) && (y21.2 == y22.2)))
              | .inr r => some r))
          | .inr r => some r))
      | .inr r => some r))

def M.spec_DrawIsCustody (code : List Int) : Option (List Hand) :=
  (M.spec_l1Cur_hands (⟨code, (0 : Int), (0 : Int)⟩ : Cur)).bind fun y0 =>
  some y0.1

def M.spec_DrawBrokenSeals (code : List Int) : Option (List Hand) :=
  (M.spec_DrawIsCustody code).bind fun y0 =>
  some y0

def M.impl_BrokenSeals_1 (p : List Int) (list : List Hand) : Option Bool :=
  asrt ((0 : Int) ≤ (0 : Int) ∧ (0 : Int) < (p.length : Int)) <|
  asrt ((0 : Int) ≤ (p.getD (Int.toNat (0 : Int)) default) ∧ (p.getD (Int.toNat (0 : Int)) default) < (list.length : Int)) <|
  some (!((list.getD (Int.toNat (p.getD (Int.toNat (0 : Int)) default)) default).Seal))

def M.slices_IndexFunc_int_int_l0 (s : List (List Int)) (fm : (List Int) → Option Bool) : (Int) → Option ((Int) ⊕ ((Unit) ⊕ (Int))) := fun st_ => match st_ with
| v =>
  bif (decide (v < (s.length : Int))) then (
    asrt ((0 : Int) ≤ v ∧ v < (s.length : Int)) <|
    (fm (s.getD (Int.toNat v) default)).bind fun y1 =>
    bif y1 then (
      some (.inr (.inr v)))
    else (
      some (.inl (IntKind.i64.wrap (v + (1 : Int))))))
  else (
    some (.inr (.inl ())))

def M.slices_IndexFunc_int_int (s : List (List Int)) (fm : (List Int) → Option Bool) : Option Int :=
  (iterO (M.slices_IndexFunc_int_int_l0 s fm) (0 : Int)).bind fun e => match e with
  | .inl () =>
    (some (-1 : Int))
  | .inr r => some r

def M.slices_DeleteFunc_int_int_l0 (fm : (List Int) → Option Bool) : (List (List Int) × Int × Int) → Option ((List (List Int) × Int × Int) ⊕ (List (List Int) × Int)) := fun st_ => match st_ with
| (s1, i0, j_) =>
  bif (decide (j_ < (s1.length : Int))) then (
    (((
      asrt ((0 : Int) ≤ j_ ∧ j_ < (s1.length : Int)) <|
      (fm (s1.getD (Int.toNat j_) default)).bind fun y2 =>
      bif (!y2) then (
        asrt ((0 : Int) ≤ i0 ∧ i0 < (s1.length : Int)) <|
        some ((s1.set (Int.toNat i0) (s1.getD (Int.toNat j_) default)), (IntKind.i64.wrap (i0 + (1 : Int)))))
      else (
        some (s1, i0))) : Option (List (List Int) × Int))).bind fun e => match e with
    | (s2, i1) =>
      (some (.inl (s2, i1, (IntKind.i64.wrap (j_ + (1 : Int)))))))
  else (
    some (.inr (s1, i0)))

def M.slices_DeleteFunc_int_int (s : List (List Int)) (fm : (List Int) → Option Bool) : Option (List (List Int)) :=
  (M.slices_IndexFunc_int_int s fm).bind fun y0 =>
  bif (y0 == (-1 : Int)) then (
    some s)
  else (
    (iterO (M.slices_DeleteFunc_int_int_l0 fm) (s, y0, (IntKind.i64.wrap (y0 + (1 : Int))))).bind fun e => match e with
    | (s0, i) =>
      (asrt ((0 : Int) ≤ i ∧ i ≤ (((List.length s0) : Nat) : Int) ∧ (((List.length s0) : Nat) : Int) ≤ (((List.length s0) : Nat) : Int)) <|
      asrt ((0 + Int.toNat i) + (Int.toNat (((List.length s0) : Nat) : Int) - Int.toNat i) ≤ s0.length) <|
      asrt ((0 : Int) ≤ (0 : Int) ∧ (0 : Int) ≤ i ∧ i ≤ ((List.take (0 + Int.toNat i) s0 ++ List.replicate (Int.toNat (((List.length s0) : Nat) : Int) - Int.toNat i) ([] : List Int) ++ List.drop ((0 + Int.toNat i) + (Int.toNat (((List.length s0) : Nat) : Int) - Int.toNat i)) s0).length : Int)) <|
      asrt ((Int.toNat i - Int.toNat (0 : Int)) ≤ (List.take (0 + Int.toNat i) s0 ++ List.replicate (Int.toNat (((List.length s0) : Nat) : Int) - Int.toNat i) ([] : List Int) ++ List.drop ((0 + Int.toNat i) + (Int.toNat (((List.length s0) : Nat) : Int) - Int.toNat i)) s0).length) <|
      some (List.take (Int.toNat i - Int.toNat (0 : Int)) (List.take (0 + Int.toNat i) s0 ++ List.replicate (Int.toNat (((List.length s0) : Nat) : Int) - Int.toNat i) ([] : List Int) ++ List.drop ((0 + Int.toNat i) + (Int.toNat (((List.length s0) : Nat) : Int) - Int.toNat i)) s0))))

def M.impl_BrokenSeals (list : List Hand) : Option (List (List Int) × Bool) :=
  (M.impl_IsCustody list).bind fun y0 =>
  bif (!y0) then (
    some (([] : List (List Int)), false))
  else (
    (M.impl_differences list).bind fun y1 =>
    (M.slices_DeleteFunc_int_int y1 (fun x0 => M.impl_BrokenSeals_1 x0 list)).bind fun y2 =>
    some (y2, true))

def M.spec_BrokenSeals_l0 (list : List Hand) (y1 : List (List Int)) : (List (List Int) × Int) → Option ((List (List Int) × Int) ⊕ (List (List Int))) := fun st_ => match st_ with
| (out_0, i) =>
  bif (decide (i < (y1.length : Int))) then (
    (((
      asrt ((0 : Int) ≤ i ∧ i < (y1.length : Int)) <|
      asrt ((0 : Int) ≤ (0 : Int) ∧ (0 : Int) < ((y1.getD (Int.toNat i) default).length : Int)) <|
      asrt ((0 : Int) ≤ ((y1.getD (Int.toNat i) default).getD (Int.toNat (0 : Int)) default) ∧ ((y1.getD (Int.toNat i) default).getD (Int.toNat (0 : Int)) default) < (list.length : Int)) <|
      bif (list.getD (Int.toNat ((y1.getD (Int.toNat i) default).getD (Int.toNat (0 : Int)) default)) default).Seal then (
        asrt ((0 : Int) ≤ i ∧ i < (y1.length : Int)) <|
        asrt ((out_0.length : Int) + (([(y1.getD (Int.toNat i) default)] : List (List Int)).length : Int) ≤ 2147483648) <|
        some (out_0 ++ ([(y1.getD (Int.toNat i) default)] : List (List Int))))
      else (
        some out_0)) : Option (List (List Int)))).bind fun e => match e with
    | out_1 =>
      (some (.inl (out_1, (IntKind.i64.wrap (i + (1 : Int)))))))
  else (
    some (.inr out_0))

def M.spec_BrokenSeals (list : List Hand) : Option (List (List Int) × Bool) :=
  (M.spec_l17Good list).bind fun y0 =>
  bif (!y0) then (
    some (([] : List (List Int)), false))
  else (
    (M.spec_l17Turns list).bind fun y1 =>
    (iterO (M.spec_BrokenSeals_l0 list y1) (([] : List (List Int)), (0 : Int))).bind fun e => match e with
    | out_ =>
      (some (out_, true)))

def M.laws_rTable_l0 (a : List (List Int)) (b_ : List (List Int)) : (Int) → Option ((Int) ⊕ ((Unit) ⊕ (Bool))) := fun st_ => match st_ with
| i =>
  bif (decide (i < (a.length : Int))) then (
    asrt ((0 : Int) ≤ i ∧ i < (a.length : Int)) <|
    asrt ((0 : Int) ≤ i ∧ i < (b_.length : Int)) <|
    (M.laws_rInts (a.getD (Int.toNat i) default) (b_.getD (Int.toNat i) default)).bind fun y1 =>
    bif (!y1) then (
      some (.inr (.inr false)))
    else (
      some (.inl (IntKind.i64.wrap (i + (1 : Int))))))
  else (
    some (.inr (.inl ())))

def M.laws_rTable (a : List (List Int)) (b_ : List (List Int)) : Option Bool :=
  bif ((a.length : Int) != (b_.length : Int)) then (
    some false)
  else (
    (iterO (M.laws_rTable_l0 a b_) (0 : Int)).bind fun e => match e with
    | .inl () =>
      (some true)
    | .inr r => some r)

def M.spec_DrawSuspects (code : List Int) : Option (List Hand × Int) :=
  (M.spec_DrawChainOf code).bind fun y0 =>
  some (y0.1, y0.2)

def M.spec_DrawDaysHeld (code : List Int) : Option (List Hand × Int × Int × Int) :=
  (M.spec_l1Cur_hands (⟨code, (0 : Int), (0 : Int)⟩ : Cur)).bind fun y0 =>
  (M.spec_l1Cur_record17 y0.2).bind fun y1 =>
  (M.spec_l1Cur_pick y1.2 (24 : Int)).bind fun y2 =>
  asrt ((0 : Int) ≤ (0 : Int) ∧ (0 : Int) ≤ (IntKind.i64.wrap ((5 : Int) + (IntKind.i64.wrap (Int.tdiv y2.1 (11 : Int))))) ∧ (IntKind.i64.wrap ((5 : Int) + (IntKind.i64.wrap (Int.tdiv y2.1 (11 : Int))))) ≤ (([(1 : Int), (2 : Int), (3 : Int), (4 : Int), (20 : Int), (0 : Int), (21 : Int)] : List Int).length : Int)) <|
  (M.spec_l1Cur_among y2.2 (slc ([(1 : Int), (2 : Int), (3 : Int), (4 : Int), (20 : Int), (0 : Int), (21 : Int)] : List Int) (0 : Int) (IntKind.i64.wrap ((5 : Int) + (IntKind.i64.wrap (Int.tdiv y2.1 (11 : Int))))))).bind fun y3 =>
  (M.spec_l1Cur_day17 y3.2).bind fun y4 =>
  some (y0.1, y1.1, y3.1, y4.1)

def M.impl_DaysHeld_l0 (list : List Hand) (record : Int) (who : Int) (day : Int) : (Int × Int) → Option ((Int × Int) ⊕ (Int)) := fun st_ => match st_ with
| (sum_0, v) =>
  bif (decide (v < (list.length : Int))) then (
    (((
      asrt ((0 : Int) ≤ v ∧ v < (list.length : Int)) <|
      bif (((((list.getD (Int.toNat v) default).Record) != record) || (((list.getD (Int.toNat v) default).To) != who)) || (decide (((list.getD (Int.toNat v) default).Day) > day))) then (
        some sum_0)
      else (
        (((
          (M.impl_next list record (IntKind.i64.wrap (v + (1 : Int)))).bind fun y5 =>
          bif (decide (y5 ≥ (0 : Int))) then (
            asrt ((0 : Int) ≤ y5 ∧ y5 < (list.length : Int)) <|
            some (bif decide (((list.getD (Int.toNat y5) default).Day) < day) then ((list.getD (Int.toNat y5) default).Day) else day))
          else (
            some day)) : Option Int)).bind fun e => match e with
        | end_ =>
          (some (IntKind.i64.wrap (sum_0 + (IntKind.i64.wrap (end_ - ((list.getD (Int.toNat v) default).Day)))))))) : Option Int)).bind fun e => match e with
    | sum_1 =>
      (some (.inl (sum_1, (IntKind.i64.wrap (v + (1 : Int)))))))
  else (
    some (.inr sum_0))

def M.impl_DaysHeld (list : List Hand) (record : Int) (who : Int) (day : Int) : Option (Int × Bool) :=
  (M.impl_IsCustody list).bind fun y0 =>
  ((bif (!y0) then some default else M.impl_isRecordId record)).bind fun y1 =>
  ((bif ((!y0) || (!y1)) then some default else M.impl_isPerson who)).bind fun y2 =>
  ((bif (((!y0) || (!y1)) || (!y2)) then some default else M.impl_isDay day)).bind fun y3 =>
  bif ((((!y0) || (!y1)) || (!y2)) || (!y3)) then (
    some ((0 : Int), false))
  else (
    (iterO (M.impl_DaysHeld_l0 list record who day) ((0 : Int), (0 : Int))).bind fun e => match e with
    | sum_ =>
      (some (sum_, true)))

def M.spec_DaysHeld_l1 (list : List Hand) (record : Int) (day : Int) (i : Int) : (Int × Int) → Option ((Int × Int) ⊕ (Int)) := fun st_ => match st_ with
| (end_0, k) =>
  bif (decide (k > i)) then (
    (((
      asrt ((0 : Int) ≤ k ∧ k < (list.length : Int)) <|
      asrt ((((list.getD (Int.toNat k) default).Record) == record) = true → ((0 : Int) ≤ k ∧ k < (list.length : Int))) <|
      bif ((((list.getD (Int.toNat k) default).Record) == record) && (decide (((list.getD (Int.toNat k) default).Day) < day))) then (
        asrt ((0 : Int) ≤ k ∧ k < (list.length : Int)) <|
        some ((list.getD (Int.toNat k) default).Day))
      else (
        some end_0)) : Option Int)).bind fun e => match e with
    | end_1 =>
      (some (.inl (end_1, (IntKind.i64.wrap (k - (1 : Int)))))))
  else (
    some (.inr end_0))

def M.spec_DaysHeld_l0 (list : List Hand) (record : Int) (who : Int) (day : Int) : (Int × Int) → Option ((Int × Int) ⊕ (Int)) := fun st_ => match st_ with
| (sum_0, i) =>
  bif (decide (i < (list.length : Int))) then (
    (((
      asrt ((0 : Int) ≤ i ∧ i < (list.length : Int)) <|
      bif (((((list.getD (Int.toNat i) default).Record) != record) || (((list.getD (Int.toNat i) default).To) != who)) || (decide (((list.getD (Int.toNat i) default).Day) > day))) then (
        some sum_0)
      else (
        (iterO (M.spec_DaysHeld_l1 list record day i) (day, (IntKind.i64.wrap ((list.length : Int) - (1 : Int))))).bind fun e => match e with
        | end_ =>
          (some (IntKind.i64.wrap ((IntKind.i64.wrap (sum_0 + end_)) - ((list.getD (Int.toNat i) default).Day)))))) : Option Int)).bind fun e => match e with
    | sum_1 =>
      (some (.inl (sum_1, (IntKind.i64.wrap (i + (1 : Int)))))))
  else (
    some (.inr sum_0))

def M.spec_DaysHeld (list : List Hand) (record : Int) (who : Int) (day : Int) : Option (Int × Bool) :=
  (M.spec_l17Good list).bind fun y0 =>
  ((bif (!y0) then some default else M.spec_l17Record record)).bind fun y1 =>
  ((bif ((!y0) || (!y1)) then some default else M.spec_l17Who who)).bind fun y2 =>
  ((bif (((!y0) || (!y1)) || (!y2)) then some default else M.spec_l2Day day)).bind fun y3 =>
  bif ((((!y0) || (!y1)) || (!y2)) || (!y3)) then (
    some ((0 : Int), false))
  else (
    (iterO (M.spec_DaysHeld_l0 list record who day) ((0 : Int), (0 : Int))).bind fun e => match e with
    | sum_ =>
      (some (sum_, true)))

def M.laws_FnSeals_l0 (y1 : List Hand) (y2 : List (List Int) × Bool) (y5 : List Int × Bool) : (Int) → Option ((Int) ⊕ ((Unit) ⊕ (Bool))) := fun st_ => match st_ with
| i =>
  bif (decide (i < (y2.1.length : Int))) then (
    asrt ((0 : Int) ≤ i ∧ i < (y2.1.length : Int)) <|
    asrt ((0 : Int) ≤ (0 : Int) ∧ (0 : Int) < ((y2.1.getD (Int.toNat i) default).length : Int)) <|
    asrt ((0 : Int) ≤ ((y2.1.getD (Int.toNat i) default).getD (Int.toNat (0 : Int)) default) ∧ ((y2.1.getD (Int.toNat i) default).getD (Int.toNat (0 : Int)) default) < (y1.length : Int)) <|
    (M.laws_rHas y5.1 ((y1.getD (Int.toNat ((y2.1.getD (Int.toNat i) default).getD (Int.toNat (0 : Int)) default)) default).Record)).bind fun y10 =>
    bif (!y10) then (
      some (.inr (.inr false)))
    else (
      some (.inl (IntKind.i64.wrap (i + (1 : Int))))))
  else (
    some (.inr (.inl ())))

def M.laws_FnSeals_l1 (y12 : List Int × Bool) (y15 : List Int × Bool) : (Int) → Option ((Int) ⊕ ((Unit) ⊕ (Bool))) := fun st_ => match st_ with
| i0 =>
  bif (decide (i0 < (y12.1.length : Int))) then (
    asrt ((!y15.2) = false → ((0 : Int) ≤ i0 ∧ i0 < (y12.1.length : Int))) <|
    ((bif (!y15.2) then some default else M.laws_rHas y15.1 (y12.1.getD (Int.toNat i0) default))).bind fun y17 =>
    bif ((!y15.2) || (!y17)) then (
      some (.inr (.inr false)))
    else (
      some (.inl (IntKind.i64.wrap (i0 + (1 : Int))))))
  else (
    some (.inr (.inl ())))

def M.laws_FnSeals_l2 (y18 : List Hand × Int × Int × Int) : (Int × Int) → Option ((Int × Int) ⊕ (Int)) := fun st_ => match st_ with
| (first0, i1) =>
  bif (decide (i1 ≥ (0 : Int))) then (
    (((
      asrt ((0 : Int) ≤ i1 ∧ i1 < (y18.1.length : Int)) <|
      asrt ((((y18.1.getD (Int.toNat i1) default).Record) == y18.2.1) = true → ((0 : Int) ≤ i1 ∧ i1 < (y18.1.length : Int))) <|
      bif ((((y18.1.getD (Int.toNat i1) default).Record) == y18.2.1) && (decide (((y18.1.getD (Int.toNat i1) default).Day) ≤ y18.2.2.2))) then (
        asrt ((0 : Int) ≤ i1 ∧ i1 < (y18.1.length : Int)) <|
        some ((y18.1.getD (Int.toNat i1) default).Day))
      else (
        some first0)) : Option Int)).bind fun e => match e with
    | first1 =>
      (some (.inl (first1, (IntKind.i64.wrap (i1 - (1 : Int)))))))
  else (
    some (.inr first0))

def M.laws_FnSeals_l3 (y18 : List Hand × Int × Int × Int) : (Int × Int) → Option ((Int × Int) ⊕ ((Int) ⊕ (Bool))) := fun st_ => match st_ with
| (sum_0, someone) =>
  bif (decide (someone ≤ (20 : Int))) then (
    (M.impl_DaysHeld y18.1 y18.2.1 someone y18.2.2.2).bind fun y23 =>
    bif (!y23.2) then (
      some (.inr (.inr false)))
    else (
      some (.inl ((IntKind.i64.wrap (sum_0 + y23.1)), (IntKind.i64.wrap (someone + (1 : Int)))))))
  else (
    some (.inr (.inl sum_0)))

def M.laws_FnSeals (code : List Int) : Option Bool :=
  (M.laws_rBig code).bind fun y0 =>
  bif y0 then (
    some true)
  else (
    (M.spec_DrawBrokenSeals code).bind fun y1 =>
    (M.impl_BrokenSeals y1).bind fun y2 =>
    (M.spec_BrokenSeals y1).bind fun y3 =>
    ((bif (!(y2.2 == y3.2)) then some default else M.laws_rTable y2.1 y3.1)).bind fun y4 =>
    bif ((!(y2.2 == y3.2)) || (!y4)) then (
      some false)
    else (
      (M.impl_NotWhole y1).bind fun y5 =>
      (M.spec_NotWhole y1).bind fun y6 =>
      ((bif ((!(y5.2 == y6.2)) || (!(y5.2 == y2.2))) then some default else M.laws_rInts y5.1 y6.1)).bind fun y7 =>
      ((bif (((!(y5.2 == y6.2)) || (!(y5.2 == y2.2))) || (!y7)) then some default else M.impl_IsCustody y1)).bind fun y8 =>
      bif ((((!(y5.2 == y6.2)) || (!(y5.2 == y2.2))) || (!y7)) || (!(y5.2 == y8))) then (
        some false)
      else (
        (iterO (M.laws_FnSeals_l0 y1 y2 y5) (0 : Int)).bind fun e => match e with
        | .inl () =>
          ((M.spec_DrawSuspects code).bind fun y11 =>
          (M.impl_Suspects y11.1 y11.2).bind fun y12 =>
          (M.spec_Suspects y11.1 y11.2).bind fun y13 =>
          ((bif (!(y12.2 == y13.2)) then some default else M.laws_rInts y12.1 y13.1)).bind fun y14 =>
          bif ((!(y12.2 == y13.2)) || (!y14)) then (
            some false)
          else (
            (M.impl_ChainOf y11.1 y11.2).bind fun y15 =>
            (iterO (M.laws_FnSeals_l1 y12 y15) (0 : Int)).bind fun e => match e with
            | .inl () =>
              ((M.spec_DrawDaysHeld code).bind fun y18 =>
              (M.impl_DaysHeld y18.1 y18.2.1 y18.2.2.1 y18.2.2.2).bind fun y19 =>
              (M.spec_DaysHeld y18.1 y18.2.1 y18.2.2.1 y18.2.2.2).bind fun y20 =>
              bif ((y19.1 != y20.1) || (!(y19.2 == y20.2))) then (
                some false)
              else (
                bif y19.2 then (
                  (iterO (M.laws_FnSeals_l2 y18) ((-1 : Int), (IntKind.i64.wrap ((y18.1.length : Int) - (1 : Int))))).bind fun e => match e with
                  | first =>
                    ((iterO (M.laws_FnSeals_l3 y18) ((0 : Int), (1 : Int))).bind fun e => match e with
                    | .inl sum_ =>
                      (bif (((decide (first ≥ (0 : Int))) && (sum_ != (IntKind.i64.wrap (y18.2.2.2 - first)))) || ((decide (first < (0 : Int))) && (sum_ != (0 : Int)))) then (
                        some false)
                      else (
                        some true))
                    | .inr r => some r))
                else (
                  some true)))
            | .inr r => some r))
        | .inr r => some r)))
end Go.Proofs.Ytmpknfachmfbaaa
