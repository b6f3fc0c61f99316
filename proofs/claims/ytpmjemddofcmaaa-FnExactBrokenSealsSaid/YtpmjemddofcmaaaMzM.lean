/- models of the functions -/
import Derived.Test.YtpmjemddofcmaaaWs
set_option linter.unusedSimpArgs false
set_option linter.unusedVariables false
set_option maxRecDepth 100000
namespace Go.Proofs.Ytpmjemddofcmaaa
open Go.VS

structure Hand where
  Record : Int
  From : Int
  To : Int
  Day : Int
  Sum : Int
  Seal : Bool
  deriving Inhabited, DecidableEq

abbrev encHand (c : Hand) : PV := .agg [.int .i64 c.Record, .int .i64 c.From, .int .i64 c.To, .int .i64 c.Day, .int .i64 c.Sum, .bool c.Seal]

def M.laws_szHandS (a : List Hand) (left : Int) : Option Int :=
  bif (decide ((IntKind.i64.wrap (left - (a.length : Int))) < (0 : Int))) then (
    some (-1 : Int))
  else (
    some (IntKind.i64.wrap (left - (a.length : Int))))

def M.laws_toHand (a : Hand) : Option Hand :=
  some (⟨a.Record, a.From, a.To, a.Day, a.Sum, a.Seal⟩ : Hand)

def M.laws_toHandS_l0 (a : List Hand) : (List Hand × Int) → Option ((List Hand × Int) ⊕ (List Hand)) := fun st_ => match st_ with
| (out_0, i) =>
  bif (decide (i < (a.length : Int))) then (
    asrt ((0 : Int) ≤ i ∧ i < (a.length : Int)) <|
    (M.laws_toHand (a.getD (Int.toNat i) default)).bind fun y1 =>
    asrt ((0 : Int) ≤ i ∧ i < (out_0.length : Int)) <|
    some (.inl ((out_0.set (Int.toNat i) y1), (IntKind.i64.wrap (i + (1 : Int))))))
  else (
    some (.inr out_0))

def M.laws_toHandS (a : List Hand) : Option (List Hand) :=
  asrt ((0 : Int) ≤ (a.length : Int) ∧ (a.length : Int) ≤ (a.length : Int) ∧ (a.length : Int) ≤ 2147483648) <|
  (iterO (M.laws_toHandS_l0 a) ((List.replicate (Int.toNat (a.length : Int)) (⟨(0 : Int), (0 : Int), (0 : Int), (0 : Int), (0 : Int), false⟩ : Hand)), (0 : Int))).bind fun e => match e with
  | out_ =>
    (some out_)

def M.spec_l1In (x : Int) (a : Int) (b_ : Int) : Option Bool :=
  some ((decide (x ≥ a)) && (decide (x ≤ b_)))

def M.spec_l17Record (record : Int) : Option Bool :=
  (M.spec_l1In record (1 : Int) (999 : Int)).bind fun y0 =>
  some y0

def M.spec_l17Who (who : Int) : Option Bool :=
  (M.spec_l1In who (1 : Int) (20 : Int)).bind fun y0 =>
  some y0

def M.spec_l2Day (d : Int) : Option Bool :=
  (M.spec_l1In d (0 : Int) (20000 : Int)).bind fun y0 =>
  some y0

def M.spec_l17One (h_ : Hand) : Option Bool :=
  (M.spec_l17Record h_.Record).bind fun y0 =>
  ((bif y0 then M.spec_l17Who h_.From else some default)).bind fun y1 =>
  ((bif (y0 && y1) then M.spec_l17Who h_.To else some default)).bind fun y2 =>
  ((bif (((y0 && y1) && y2) && (h_.From != h_.To)) then M.spec_l2Day h_.Day else some default)).bind fun y3 =>
  ((bif ((((y0 && y1) && y2) && (h_.From != h_.To)) && y3) then M.spec_l1In h_.Sum (0 : Int) (999999 : Int) else some default)).bind fun y4 =>
  some (((((y0 && y1) && y2) && (h_.From != h_.To)) && y3) && y4)

def M.spec_l17Before_l0 (list : List Hand) (record : Int) : (Int) → Option ((Int) ⊕ ((Unit) ⊕ (Int))) := fun st_ => match st_ with
| k =>
  bif (decide (k ≥ (0 : Int))) then (
    asrt ((0 : Int) ≤ k ∧ k < (list.length : Int)) <|
    bif (((list.getD (Int.toNat k) default).Record) == record) then (
      some (.inr (.inr k)))
    else (
      some (.inl (IntKind.i64.wrap (k - (1 : Int))))))
  else (
    some (.inr (.inl ())))

def M.spec_l17Before (list : List Hand) (record : Int) (i : Int) : Option Int :=
  (iterO (M.spec_l17Before_l0 list record) (IntKind.i64.wrap (i - (1 : Int)))).bind fun e => match e with
  | .inl () =>
    (some (-1 : Int))
  | .inr r => some r

def M.spec_l17Good_l0 (list : List Hand) : (Int) → Option ((Int) ⊕ ((Unit) ⊕ (Bool))) := fun st_ => match st_ with
| i =>
  bif (decide (i < (list.length : Int))) then (
    asrt ((0 : Int) ≤ i ∧ i < (list.length : Int)) <|
    (M.spec_l17One (list.getD (Int.toNat i) default)).bind fun y1 =>
    asrt ((!y1) = false → (decide (i > (0 : Int))) = true → ((0 : Int) ≤ (IntKind.i64.wrap (i - (1 : Int))) ∧ (IntKind.i64.wrap (i - (1 : Int))) < (list.length : Int))) <|
    bif ((!y1) || ((decide (i > (0 : Int))) && (decide (((list.getD (Int.toNat (IntKind.i64.wrap (i - (1 : Int)))) default).Day) > ((list.getD (Int.toNat i) default).Day))))) then (
      some (.inr (.inr false)))
    else (
      (M.spec_l17Before list ((list.getD (Int.toNat i) default).Record) i).bind fun y2 =>
      asrt ((decide (y2 ≥ (0 : Int))) = true → ((0 : Int) ≤ y2 ∧ y2 < (list.length : Int))) <|
      bif ((decide (y2 ≥ (0 : Int))) && (((list.getD (Int.toNat y2) default).To) != ((list.getD (Int.toNat i) default).From))) then (
        some (.inr (.inr false)))
      else (
        some (.inl (IntKind.i64.wrap (i + (1 : Int)))))))
  else (
    some (.inr (.inl ())))

def M.spec_l17Good (list : List Hand) : Option Bool :=
  (iterO (M.spec_l17Good_l0 list) (0 : Int)).bind fun e => match e with
  | .inl () =>
    (some (decide ((list.length : Int) ≤ (12 : Int))))
  | .inr r => some r

def M.spec_l17Turns_l0 (list : List Hand) : (List (List Int) × Int) → Option ((List (List Int) × Int) ⊕ (List (List Int))) := fun st_ => match st_ with
| (out_0, i) =>
  bif (decide (i < (list.length : Int))) then (
    (((
      asrt ((0 : Int) ≤ i ∧ i < (list.length : Int)) <|
      (M.spec_l17Before list ((list.getD (Int.toNat i) default).Record) i).bind fun y1 =>
      asrt ((decide (y1 ≥ (0 : Int))) = true → ((0 : Int) ≤ y1 ∧ y1 < (list.length : Int))) <|
      asrt ((decide (y1 ≥ (0 : Int))) = true → ((0 : Int) ≤ i ∧ i < (list.length : Int))) <|
      bif ((decide (y1 ≥ (0 : Int))) && (((list.getD (Int.toNat y1) default).Sum) != ((list.getD (Int.toNat i) default).Sum))) then (
        asrt ((out_0.length : Int) + (([([y1, i] : List Int)] : List (List Int)).length : Int) ≤ 2147483648) <|
        some (out_0 ++ ([([y1, i] : List Int)] : List (List Int))))
      else (
        some out_0)) : Option (List (List Int)))).bind fun e => match e with
    | out_1 =>
      (some (.inl (out_1, (IntKind.i64.wrap (i + (1 : Int)))))))
  else (
    some (.inr out_0))

def M.spec_l17Turns (list : List Hand) : Option (List (List Int)) :=
  (iterO (M.spec_l17Turns_l0 list) (([] : List (List Int)), (0 : Int))).bind fun e => match e with
  | out_ =>
    (some out_)

def M.spec_BrokenSeals_l0 (list : List Hand) (y1 : List (List Int)) : (List (List Int) × Int) → Option ((List (List Int) × Int) ⊕ (List (List Int))) := fun st_ => match st_ with
| (out_0, i) =>
  bif (decide (i < (y1.length : Int))) then (
    (((
      asrt ((0 : Int) ≤ i ∧ i < (y1.length : Int)) <|
      asrt ((0 : Int) ≤ (0 : Int) ∧ (0 : Int) < ((y1.getD (Int.toNat i) default).length : Int)) <|
      asrt ((0 : Int) ≤ ((y1.getD (Int.toNat i) default).getD (Int.toNat (0 : Int)) default) ∧ ((y1.getD (Int.toNat i) default).getD (Int.toNat (0 : Int)) default) < (list.length : Int)) <|
      bif (list.getD (Int.toNat ((y1.getD (Int.toNat i) default).getD (Int.toNat (0 : Int)) default)) default).Seal then (
        asrt ((0 : Int) ≤ i ∧ i < (y1.length : Int)) <|
        asrt ((out_0.length : Int) + (([(y1.getD (Int.toNat i) default)] : List (List Int)).length : Int) ≤ 2147483648) <|
        some (out_0 ++ ([(y1.getD (Int.toNat i) default)] : List (List Int))))
      else (
        some out_0)) : Option (List (List Int)))).bind fun e => match e with
    | out_1 =>
      (some (.inl (out_1, (IntKind.i64.wrap (i + (1 : Int)))))))
  else (
    some (.inr out_0))

def M.spec_BrokenSeals (list : List Hand) : Option (List (List Int) × Bool) :=
  (M.spec_l17Good list).bind fun y0 =>
  bif (!y0) then (
    some (([] : List (List Int)), false))
  else (
    (M.spec_l17Turns list).bind fun y1 =>
    (iterO (M.spec_BrokenSeals_l0 list y1) (([] : List (List Int)), (0 : Int))).bind fun e => match e with
    | out_ =>
      (some (out_, true)))

def M.impl_within (n : Int) (low : Int) (high : Int) : Option Bool :=
  some ((decide (low ≤ n)) && (decide (n ≤ high)))

def M.impl_isRecordId (id_ : Int) : Option Bool :=
  (M.impl_within id_ (1 : Int) (999 : Int)).bind fun y0 =>
  some y0

def M.impl_isPerson (who : Int) : Option Bool :=
  (M.impl_within who (1 : Int) (20 : Int)).bind fun y0 =>
  some y0

def M.impl_isDay (day : Int) : Option Bool :=
  (M.impl_within day (0 : Int) (20000 : Int)).bind fun y0 =>
  some y0

def M.impl_IsHand (h_ : Hand) : Option Bool :=
  (M.impl_isRecordId h_.Record).bind fun y0 =>
  ((bif y0 then M.impl_isPerson h_.From else some default)).bind fun y1 =>
  ((bif (y0 && y1) then M.impl_isPerson h_.To else some default)).bind fun y2 =>
  ((bif (((y0 && y1) && y2) && (h_.From != h_.To)) then M.impl_isDay h_.Day else some default)).bind fun y3 =>
  ((bif ((((y0 && y1) && y2) && (h_.From != h_.To)) && y3) then M.impl_within h_.Sum (0 : Int) (999999 : Int) else some default)).bind fun y4 =>
  some (((((y0 && y1) && y2) && (h_.From != h_.To)) && y3) && y4)

def M.impl_next_l0 (list : List Hand) (record : Int) : (Int) → Option ((Int) ⊕ ((Unit) ⊕ (Int))) := fun st_ => match st_ with
| i =>
  bif (decide (i < (list.length : Int))) then (
    asrt ((0 : Int) ≤ i ∧ i < (list.length : Int)) <|
    bif (((list.getD (Int.toNat i) default).Record) == record) then (
      some (.inr (.inr i)))
    else (
      some (.inl (IntKind.i64.wrap (i + (1 : Int))))))
  else (
    some (.inr (.inl ())))

def M.impl_next (list : List Hand) (record : Int) (from_ : Int) : Option Int :=
  (iterO (M.impl_next_l0 list record) from_).bind fun e => match e with
  | .inl () =>
    (some (-1 : Int))
  | .inr r => some r

def M.impl_IsCustody_l0 (list : List Hand) : (Int) → Option ((Int) ⊕ ((Unit) ⊕ (Bool))) := fun st_ => match st_ with
| v =>
  bif (decide (v < (list.length : Int))) then (
    asrt ((0 : Int) ≤ v ∧ v < (list.length : Int)) <|
    (M.impl_IsHand (list.getD (Int.toNat v) default)).bind fun y1 =>
    asrt ((!y1) = false → (decide (v > (0 : Int))) = true → ((0 : Int) ≤ (IntKind.i64.wrap (v - (1 : Int))) ∧ (IntKind.i64.wrap (v - (1 : Int))) < (list.length : Int))) <|
    bif ((!y1) || ((decide (v > (0 : Int))) && (decide (((list.getD (Int.toNat (IntKind.i64.wrap (v - (1 : Int)))) default).Day) > ((list.getD (Int.toNat v) default).Day))))) then (
      some (.inr (.inr false)))
    else (
      (M.impl_next list ((list.getD (Int.toNat v) default).Record) (IntKind.i64.wrap (v + (1 : Int)))).bind fun y2 =>
      asrt ((decide (y2 ≥ (0 : Int))) = true → ((0 : Int) ≤ y2 ∧ y2 < (list.length : Int))) <|
      bif ((decide (y2 ≥ (0 : Int))) && (((list.getD (Int.toNat y2) default).From) != ((list.getD (Int.toNat v) default).To))) then (
        some (.inr (.inr false)))
      else (
        some (.inl (IntKind.i64.wrap (v + (1 : Int)))))))
  else (
    some (.inr (.inl ())))

def M.impl_IsCustody (list : List Hand) : Option Bool :=
  (iterO (M.impl_IsCustody_l0 list) (0 : Int)).bind fun e => match e with
  | .inl () =>
    (some (decide ((list.length : Int) ≤ (12 : Int))))
  | .inr r => some r

def M.impl_differences_l1 (list : List Hand) (pairs0 : List (List Int)) (v : Int) : (Int) → Option ((Int) ⊕ (List (List Int))) := fun st_ => match st_ with
| i =>
  bif (decide (i ≥ (0 : Int))) then (
    asrt ((0 : Int) ≤ i ∧ i < (list.length : Int)) <|
    bif (((list.getD (Int.toNat i) default).Record) == ((list.getD (Int.toNat v) default).Record)) then (
      asrt ((0 : Int) ≤ i ∧ i < (list.length : Int)) <|
      bif (((list.getD (Int.toNat i) default).Sum) != ((list.getD (Int.toNat v) default).Sum)) then (
        asrt ((pairs0.length : Int) + (([([i, v] : List Int)] : List (List Int)).length : Int) ≤ 2147483648) <|
        some (.inr (pairs0 ++ ([([i, v] : List Int)] : List (List Int)))))
      else (
        some (.inr pairs0)))
    else (
      some (.inl (IntKind.i64.wrap (i - (1 : Int))))))
  else (
    some (.inr pairs0))

def M.impl_differences_l0 (list : List Hand) : (List (List Int) × Int) → Option ((List (List Int) × Int) ⊕ (List (List Int))) := fun st_ => match st_ with
| (pairs0, v) =>
  bif (decide (v < (list.length : Int))) then (
    (((
      asrt ((0 : Int) ≤ v ∧ v < (list.length : Int)) <|
      (iterO (M.impl_differences_l1 list pairs0 v) (IntKind.i64.wrap (v - (1 : Int)))).bind fun e => match e with
      | pairs2 =>
        (some pairs2)) : Option (List (List Int)))).bind fun e => match e with
    | pairs1 =>
      (some (.inl (pairs1, (IntKind.i64.wrap (v + (1 : Int)))))))
  else (
    some (.inr pairs0))

def M.impl_differences (list : List Hand) : Option (List (List Int)) :=
  (iterO (M.impl_differences_l0 list) (([] : List (List Int)), (0 : Int))).bind fun e => match e with
  | pairs =>
    (some pairs)

def M.impl_BrokenSeals_1 (p : List Int) (list : List Hand) : Option Bool :=
  asrt ((0 : Int) ≤ (0 : Int) ∧ (0 : Int) < (p.length : Int)) <|
  asrt ((0 : Int) ≤ (p.getD (Int.toNat (0 : Int)) default) ∧ (p.getD (Int.toNat (0 : Int)) default) < (list.length : Int)) <|
  some (!((list.getD (Int.toNat (p.getD (Int.toNat (0 : Int)) default)) default).Seal))

def M.slices_IndexFunc_int_int_l0 (s : List (List Int)) (fm : (List Int) → Option Bool) : (Int) → Option ((Int) ⊕ ((Unit) ⊕ (Int))) := fun st_ => match st_ with
| v =>
  bif (decide (v < (s.length : Int))) then (
    asrt ((0 : Int) ≤ v ∧ v < (s.length : Int)) <|
    (fm (s.getD (Int.toNat v) default)).bind fun y1 =>
    bif y1 then (
      some (.inr (.inr v)))
    else (
      some (.inl (IntKind.i64.wrap (v + (1 : Int))))))
  else (
    some (.inr (.inl ())))

def M.slices_IndexFunc_int_int (s : List (List Int)) (fm : (List Int) → Option Bool) : Option Int :=
  (iterO (M.slices_IndexFunc_int_int_l0 s fm) (0 : Int)).bind fun e => match e with
  | .inl () =>
    (some (-1 : Int))
  | .inr r => some r

def M.slices_DeleteFunc_int_int_l0 (fm : (List Int) → Option Bool) : (List (List Int) × Int × Int) → Option ((List (List Int) × Int × Int) ⊕ (List (List Int) × Int)) := fun st_ => match st_ with
| (s1, i0, j_) =>
  bif (decide (j_ < (s1.length : Int))) then (
    (((
      asrt ((0 : Int) ≤ j_ ∧ j_ < (s1.length : Int)) <|
      (fm (s1.getD (Int.toNat j_) default)).bind fun y2 =>
      bif (!y2) then (
        asrt ((0 : Int) ≤ i0 ∧ i0 < (s1.length : Int)) <|
        some ((s1.set (Int.toNat i0) (s1.getD (Int.toNat j_) default)), (IntKind.i64.wrap (i0 + (1 : Int)))))
      else (
        some (s1, i0))) : Option (List (List Int) × Int))).bind fun e => match e with
    | (s2, i1) =>
      (some (.inl (s2, i1, (IntKind.i64.wrap (j_ + (1 : Int)))))))
  else (
    some (.inr (s1, i0)))

def M.slices_DeleteFunc_int_int (s : List (List Int)) (fm : (List Int) → Option Bool) : Option (List (List Int)) :=
  (M.slices_IndexFunc_int_int s fm).bind fun y0 =>
  bif (y0 == (-1 : Int)) then (
    some s)
  else (
    (iterO (M.slices_DeleteFunc_int_int_l0 fm) (s, y0, (IntKind.i64.wrap (y0 + (1 : Int))))).bind fun e => match e with
    | (s0, i) =>
      (asrt ((0 : Int) ≤ i ∧ i ≤ (((List.length s0) : Nat) : Int) ∧ (((List.length s0) : Nat) : Int) ≤ (((List.length s0) : Nat) : Int)) <|
      asrt ((0 + Int.toNat i) + (Int.toNat (((List.length s0) : Nat) : Int) - Int.toNat i) ≤ s0.length) <|
      asrt ((0 : Int) ≤ (0 : Int) ∧ (0 : Int) ≤ i ∧ i ≤ ((List.take (0 + Int.toNat i) s0 ++ List.replicate (Int.toNat (((List.length s0) : Nat) : Int) - Int.toNat i) ([] : List Int) ++ List.drop ((0 + Int.toNat i) + (Int.toNat (((List.length s0) : Nat) : Int) - Int.toNat i)) s0).length : Int)) <|
      asrt ((Int.toNat i - Int.toNat (0 : Int)) ≤ (List.take (0 + Int.toNat i) s0 ++ List.replicate (Int.toNat (((List.length s0) : Nat) : Int) - Int.toNat i) ([] : List Int) ++ List.drop ((0 + Int.toNat i) + (Int.toNat (((List.length s0) : Nat) : Int) - Int.toNat i)) s0).length) <|
      some (List.take (Int.toNat i - Int.toNat (0 : Int)) (List.take (0 + Int.toNat i) s0 ++ List.replicate (Int.toNat (((List.length s0) : Nat) : Int) - Int.toNat i) ([] : List Int) ++ List.drop ((0 + Int.toNat i) + (Int.toNat (((List.length s0) : Nat) : Int) - Int.toNat i)) s0))))

def M.impl_BrokenSeals (list : List Hand) : Option (List (List Int) × Bool) :=
  (M.impl_IsCustody list).bind fun y0 =>
  bif (!y0) then (
    some (([] : List (List Int)), false))
  else (
    (M.impl_differences list).bind fun y1 =>
    (M.slices_DeleteFunc_int_int y1 (fun x0 => M.impl_BrokenSeals_1 x0 list)).bind fun y2 =>
    some (y2, true))

def M.laws_eqIntS_l0 (a : List Int) (b_ : List Int) : (Int) → Option ((Int) ⊕ ((Unit) ⊕ (Bool))) := fun st_ => match st_ with
| i =>
  bif (decide (i < (a.length : Int))) then (
    asrt ((0 : Int) ≤ i ∧ i < (a.length : Int)) <|
    asrt ((0 : Int) ≤ i ∧ i < (b_.length : Int)) <|
    bif ((a.getD (Int.toNat i) default) != (b_.getD (Int.toNat i) default)) then (
      some (.inr (.inr false)))
    else (
      some (.inl (IntKind.i64.wrap (i + (1 : Int))))))
  else (
    some (.inr (.inl ())))

def M.laws_eqIntS (a : List Int) (b_ : List Int) : Option Bool :=
  bif ((a.length : Int) != (b_.length : Int)) then (
    some false)
  else (
    (iterO (M.laws_eqIntS_l0 a b_) (0 : Int)).bind fun e => match e with
    | .inl () =>
      (some true)
    | .inr r => some r)

def M.laws_eqIntSS_l0 (a : List (List Int)) (b_ : List (List Int)) : (Int) → Option ((Int) ⊕ ((Unit) ⊕ (Bool))) := fun st_ => match st_ with
| i =>
  bif (decide (i < (a.length : Int))) then (
    asrt ((0 : Int) ≤ i ∧ i < (a.length : Int)) <|
    asrt ((0 : Int) ≤ i ∧ i < (b_.length : Int)) <|
    (M.laws_eqIntS (a.getD (Int.toNat i) default) (b_.getD (Int.toNat i) default)).bind fun y1 =>
    bif (!y1) then (
      some (.inr (.inr false)))
    else (
      some (.inl (IntKind.i64.wrap (i + (1 : Int))))))
  else (
    some (.inr (.inl ())))

def M.laws_eqIntSS (a : List (List Int)) (b_ : List (List Int)) : Option Bool :=
  bif ((a.length : Int) != (b_.length : Int)) then (
    some false)
  else (
    (iterO (M.laws_eqIntSS_l0 a b_) (0 : Int)).bind fun e => match e with
    | .inl () =>
      (some true)
    | .inr r => some r)

def M.laws_eqHand (a : Hand) (b_ : Hand) : Option Bool :=
  bif (a.Record != b_.Record) then (
    some false)
  else (
    bif (a.From != b_.From) then (
      some false)
    else (
      bif (a.To != b_.To) then (
        some false)
      else (
        bif (a.Day != b_.Day) then (
          some false)
        else (
          bif (a.Sum != b_.Sum) then (
            some false)
          else (
            bif (!(a.Seal == b_.Seal)) then (
              some false)
            else (
              some true))))))

def M.laws_eqHandS_l0 (a : List Hand) (b_ : List Hand) : (Int) → Option ((Int) ⊕ ((Unit) ⊕ (Bool))) := fun st_ => match st_ with
| i =>
  bif (decide (i < (a.length : Int))) then (
    asrt ((0 : Int) ≤ i ∧ i < (a.length : Int)) <|
    asrt ((0 : Int) ≤ i ∧ i < (b_.length : Int)) <|
    (M.laws_eqHand (a.getD (Int.toNat i) default) (b_.getD (Int.toNat i) default)).bind fun y1 =>
    bif (!y1) then (
      some (.inr (.inr false)))
    else (
      some (.inl (IntKind.i64.wrap (i + (1 : Int))))))
  else (
    some (.inr (.inl ())))

def M.laws_eqHandS (a : List Hand) (b_ : List Hand) : Option Bool :=
  bif ((a.length : Int) != (b_.length : Int)) then (
    some false)
  else (
    (iterO (M.laws_eqHandS_l0 a b_) (0 : Int)).bind fun e => match e with
    | .inl () =>
      (some true)
    | .inr r => some r)

def M.laws_markHandS_l0 : (List Hand × Int × Int) → Option ((List Hand × Int × Int) ⊕ (List Hand × Int)) := fun st_ => match st_ with
| (a1, k1, i) =>
  bif (decide (i < (a1.length : Int))) then (
    asrt ((0 : Int) ≤ i ∧ i < (a1.length : Int)) <|
    asrt ((0 : Int) ≤ i ∧ i < ((a1.set (Int.toNat i) (⟨k1, (a1.getD (Int.toNat i) default).From, (a1.getD (Int.toNat i) default).To, (a1.getD (Int.toNat i) default).Day, (a1.getD (Int.toNat i) default).Sum, (a1.getD (Int.toNat i) default).Seal⟩ : Hand)).length : Int)) <|
    asrt ((0 : Int) ≤ i ∧ i < ((a1.set (Int.toNat i) (⟨k1, (IntKind.i64.wrap (k1 + (1 : Int))), (a1.getD (Int.toNat i) default).To, (a1.getD (Int.toNat i) default).Day, (a1.getD (Int.toNat i) default).Sum, (a1.getD (Int.toNat i) default).Seal⟩ : Hand)).length : Int)) <|
    asrt ((0 : Int) ≤ i ∧ i < ((a1.set (Int.toNat i) (⟨k1, (IntKind.i64.wrap (k1 + (1 : Int))), (IntKind.i64.wrap ((IntKind.i64.wrap (k1 + (1 : Int))) + (1 : Int))), (a1.getD (Int.toNat i) default).Day, (a1.getD (Int.toNat i) default).Sum, (a1.getD (Int.toNat i) default).Seal⟩ : Hand)).length : Int)) <|
    asrt ((0 : Int) ≤ i ∧ i < ((a1.set (Int.toNat i) (⟨k1, (IntKind.i64.wrap (k1 + (1 : Int))), (IntKind.i64.wrap ((IntKind.i64.wrap (k1 + (1 : Int))) + (1 : Int))), (IntKind.i64.wrap ((IntKind.i64.wrap ((IntKind.i64.wrap (k1 + (1 : Int))) + (1 : Int))) + (1 : Int))), (a1.getD (Int.toNat i) default).Sum, (a1.getD (Int.toNat i) default).Seal⟩ : Hand)).length : Int)) <|
    asrt ((0 : Int) ≤ i ∧ i < ((a1.set (Int.toNat i) (⟨k1, (IntKind.i64.wrap (k1 + (1 : Int))), (IntKind.i64.wrap ((IntKind.i64.wrap (k1 + (1 : Int))) + (1 : Int))), (IntKind.i64.wrap ((IntKind.i64.wrap ((IntKind.i64.wrap (k1 + (1 : Int))) + (1 : Int))) + (1 : Int))), (IntKind.i64.wrap ((IntKind.i64.wrap ((IntKind.i64.wrap ((IntKind.i64.wrap (k1 + (1 : Int))) + (1 : Int))) + (1 : Int))) + (1 : Int))), (a1.getD (Int.toNat i) default).Seal⟩ : Hand)).length : Int)) <|
    some (.inl ((a1.set (Int.toNat i) (⟨k1, (IntKind.i64.wrap (k1 + (1 : Int))), (IntKind.i64.wrap ((IntKind.i64.wrap (k1 + (1 : Int))) + (1 : Int))), (IntKind.i64.wrap ((IntKind.i64.wrap ((IntKind.i64.wrap (k1 + (1 : Int))) + (1 : Int))) + (1 : Int))), (IntKind.i64.wrap ((IntKind.i64.wrap ((IntKind.i64.wrap ((IntKind.i64.wrap (k1 + (1 : Int))) + (1 : Int))) + (1 : Int))) + (1 : Int))), ((Int.tmod (IntKind.i64.wrap ((IntKind.i64.wrap ((IntKind.i64.wrap ((IntKind.i64.wrap ((IntKind.i64.wrap (k1 + (1 : Int))) + (1 : Int))) + (1 : Int))) + (1 : Int))) + (1 : Int))) (3 : Int)) == (0 : Int))⟩ : Hand)), (IntKind.i64.wrap ((IntKind.i64.wrap ((IntKind.i64.wrap ((IntKind.i64.wrap ((IntKind.i64.wrap ((IntKind.i64.wrap (k1 + (1 : Int))) + (1 : Int))) + (1 : Int))) + (1 : Int))) + (1 : Int))) + (1 : Int))), (IntKind.i64.wrap (i + (1 : Int))))))
  else (
    some (.inr (a1, k1)))

def M.laws_markHandS (a : List Hand) (k : Int) : Option (Int × List Hand) :=
  (iterO (M.laws_markHandS_l0) (a, k, (0 : Int))).bind fun e => match e with
  | (a0, k0) =>
    (some (k0, a0))

def M.laws_markIntS_l0 : (List Int × Int × Int) → Option ((List Int × Int × Int) ⊕ (List Int × Int)) := fun st_ => match st_ with
| (a1, k1, i) =>
  bif (decide (i < (a1.length : Int))) then (
    asrt ((0 : Int) ≤ i ∧ i < (a1.length : Int)) <|
    some (.inl ((a1.set (Int.toNat i) k1), (IntKind.i64.wrap (k1 + (1 : Int))), (IntKind.i64.wrap (i + (1 : Int))))))
  else (
    some (.inr (a1, k1)))

def M.laws_markIntS (a : List Int) (k : Int) : Option (Int × List Int) :=
  (iterO (M.laws_markIntS_l0) (a, k, (0 : Int))).bind fun e => match e with
  | (a0, k0) =>
    (some (k0, a0))

def M.laws_markIntSS_l0 : (List (List Int) × Int × Int) → Option ((List (List Int) × Int × Int) ⊕ (List (List Int) × Int)) := fun st_ => match st_ with
| (a1, k1, i) =>
  bif (decide (i < (a1.length : Int))) then (
    asrt ((0 : Int) ≤ i ∧ i < (a1.length : Int)) <|
    (M.laws_markIntS (a1.getD (Int.toNat i) default) k1).bind fun y1 =>
    asrt (y1.2.length = (a1.getD (Int.toNat i) default).length) <|
    some (.inl ((a1.set (Int.toNat i) y1.2), y1.1, (IntKind.i64.wrap (i + (1 : Int))))))
  else (
    some (.inr (a1, k1)))

def M.laws_markIntSS (a : List (List Int)) (k : Int) : Option (Int × List (List Int)) :=
  (iterO (M.laws_markIntSS_l0) (a, k, (0 : Int))).bind fun e => match e with
  | (a0, k0) =>
    (some (k0, a0))

def M.laws_heldIntS_l0 (a : List Int) : (Int × Int) → Option ((Int × Int) ⊕ ((Int) ⊕ (Int))) := fun st_ => match st_ with
| (k1, i) =>
  bif (decide (i < (a.length : Int))) then (
    asrt ((0 : Int) ≤ i ∧ i < (a.length : Int)) <|
    bif ((a.getD (Int.toNat i) default) != k1) then (
      some (.inr (.inr (-1 : Int))))
    else (
      some (.inl ((IntKind.i64.wrap (k1 + (1 : Int))), (IntKind.i64.wrap (i + (1 : Int)))))))
  else (
    some (.inr (.inl k1)))

def M.laws_heldIntS (a : List Int) (k : Int) : Option Int :=
  (iterO (M.laws_heldIntS_l0 a) (k, (0 : Int))).bind fun e => match e with
  | .inl k0 =>
    (some k0)
  | .inr r => some r

def M.laws_heldIntSS_l0 (a : List (List Int)) : (Int × Int) → Option ((Int × Int) ⊕ ((Int) ⊕ (Int))) := fun st_ => match st_ with
| (k1, i) =>
  bif (decide (i < (a.length : Int))) then (
    asrt ((0 : Int) ≤ i ∧ i < (a.length : Int)) <|
    (M.laws_heldIntS (a.getD (Int.toNat i) default) k1).bind fun y1 =>
    bif (decide (y1 < (0 : Int))) then (
      some (.inr (.inr (-1 : Int))))
    else (
      some (.inl (y1, (IntKind.i64.wrap (i + (1 : Int)))))))
  else (
    some (.inr (.inl k1)))

def M.laws_heldIntSS (a : List (List Int)) (k : Int) : Option Int :=
  (iterO (M.laws_heldIntSS_l0 a) (k, (0 : Int))).bind fun e => match e with
  | .inl k0 =>
    (some k0)
  | .inr r => some r

def M.laws_FnExactBrokenSeals (aList : List Hand) : Option Bool :=
  (M.laws_szHandS aList (1048576 : Int)).bind fun y0 =>
  bif (decide (y0 < (0 : Int))) then (
    some true)
  else (
    (M.laws_toHandS aList).bind fun y1 =>
    (M.spec_BrokenSeals y1).bind fun y2 =>
    (M.laws_toHandS aList).bind fun y3 =>
    (M.impl_BrokenSeals y3).bind fun y4 =>
    (M.laws_eqIntSS y4.1 y2.1).bind fun y5 =>
    bif ((!y5) || (!(y4.2 == y2.2))) then (
      some false)
    else (
      (M.laws_toHandS aList).bind fun y6 =>
      (M.laws_eqHandS y3 y6).bind fun y7 =>
      bif (!y7) then (
        some false)
      else (
        (M.laws_markHandS y3 (1 : Int)).bind fun y8 =>
        asrt (y8.2.length = y3.length) <|
        ((bif (decide (y8.1 < (0 : Int))) then some default else M.laws_eqIntSS y4.1 y2.1)).bind fun y9 =>
        bif (((decide (y8.1 < (0 : Int))) || (!y9)) || (!(y4.2 == y2.2))) then (
          some false)
        else (
          (M.laws_markIntSS y4.1 (1 : Int)).bind fun y10 =>
          asrt (y10.2.length = y4.1.length) <|
          (M.laws_heldIntSS y10.2 (1 : Int)).bind fun y11 =>
          bif (decide (y11 < (0 : Int))) then (
            some false)
          else (
            bif (y11 != y10.1) then (
              some false)
            else (
              (M.laws_toHandS aList).bind fun y12 =>
              (M.impl_BrokenSeals y12).bind fun y13 =>
              (M.laws_eqIntSS y13.1 y2.1).bind fun y14 =>
              bif ((!y14) || (!(y13.2 == y2.2))) then (
                some false)
              else (
                (M.laws_heldIntSS y10.2 (1 : Int)).bind fun y15 =>
                bif (decide (y15 < (0 : Int))) then (
                  some false)
                else (
                  bif (y15 != y10.1) then (
                    some false)
                  else (
                    some true)))))))))
end Go.Proofs.Ytpmjemddofcmaaa
