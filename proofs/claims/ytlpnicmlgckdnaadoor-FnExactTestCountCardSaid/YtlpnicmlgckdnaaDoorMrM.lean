/- models of the functions -/
import Derived.Test.YtlpnicmlgckdnaaDoorWy
set_option linter.unusedSimpArgs false
set_option linter.unusedVariables false
set_option maxRecDepth 100000
namespace Go.Proofs.YtlpnicmlgckdnaaDoor
open Go.VS

structure Event where
  Kind : Int
  Day : Int
  deriving Inhabited, DecidableEq

abbrev encEvent (c : Event) : PV := .agg [.int .i64 c.Kind, .int .i64 c.Day]

structure Record where
  Id : Int
  Series : Int
  Made : Int
  Events : List Event
  deriving Inhabited, DecidableEq

abbrev encRecord (ρ : Nat) (c : Record) : PV := .agg [.int .i64 c.Id, .int .i64 c.Series, .int .i64 c.Made, .vl ρ 2 (List.map encEvent c.Events)]

structure Parser where
  S : List UInt8
  At : Int
  Bad : Bool
  Open : Int
  Most : Int
  deriving Inhabited, DecidableEq

abbrev encParser (c : Parser) : PV := .agg [.str c.S, .int .i64 c.At, .bool c.Bad, .int .i64 c.Open, .int .i64 c.Most]

inductive QE where
  | mk (Sign Number : Int) (Parts : List QE)

instance : Inhabited QE := ⟨.mk 0 0 []⟩

mutual
def encQE (ρ : Nat) : QE → PV
  | .mk s n ps => .agg [.int .u8 s, .int .i64 n, .vl ρ 3 (encQEs ρ ps)]
def encQEs (ρ : Nat) : List QE → List PV
  | [] => []
  | q :: qs => encQE ρ q :: encQEs ρ qs
end

structure Query where
  Sign : Int
  Number : Int
  Parts : List QE
  deriving Inhabited

abbrev encQuery (ρ : Nat) (c : Query) : PV := .agg [.int .u8 c.Sign, .int .i64 c.Number, .vl ρ 3 (List.map (encQE ρ) c.Parts)]

mutual
def qedep : QE → Nat
  | .mk _ _ ps => 1 + qedeps ps
def qedeps : List QE → Nat
  | [] => 0
  | q :: qs => max (qedep q) (qedeps qs)
end

def qeI : QE → Query
  | .mk s n ps => ⟨s, n, ps⟩

def qe (c : Query) : QE := .mk c.Sign c.Number c.Parts

theorem encQEs_map (ρ : Nat) : ∀ ps : List QE, encQEs ρ ps = List.map (encQE ρ) ps
  | [] => rfl
  | q :: qs => by rw [encQEs, encQEs_map ρ qs]; rfl

theorem encQE_qe (ρ : Nat) (c : Query) : encQE ρ (qe c) = encQuery ρ c := by
  unfold qe encQE
  rw [encQEs_map]

theorem encQE_qeI (ρ : Nat) (x : QE) : encQuery ρ (qeI x) = encQE ρ x := by
  cases x with
  | mk s n ps =>
    unfold encQE
    rw [encQEs_map]
    rfl

def M.spec_l1In (x : Int) (a : Int) (b_ : Int) : Option Bool :=
  some ((decide (x ≥ a)) && (decide (x ≤ b_)))

def M.spec_l1Num_s (rec_ : Int → Option (List UInt8)) (n : Int) : Option (List UInt8) :=
  bif (decide (n < (0 : Int))) then (
    (rec_ (IntKind.i64.wrap (0 - n))).bind fun y0 =>
    asrt (([45]).length + y0.length ≤ 9223372036854775807) <|
    some (([45]) ++ y0))
  else (
    bif (decide (n < (10 : Int))) then (
      asrt ((0 : Int) ≤ n ∧ n ≤ (IntKind.i64.wrap (n + (1 : Int))) ∧ (IntKind.i64.wrap (n + (1 : Int))) ≤ (([48, 49, 50, 51, 52, 53, 54, 55, 56, 57] : List UInt8).length : Int)) <|
      some (slc ([48, 49, 50, 51, 52, 53, 54, 55, 56, 57] : List UInt8) n (IntKind.i64.wrap (n + (1 : Int)))))
    else (
      (rec_ (IntKind.i64.wrap (Int.tdiv n (10 : Int)))).bind fun y1 =>
      asrt ((0 : Int) ≤ (Int.tmod n (10 : Int)) ∧ (Int.tmod n (10 : Int)) ≤ (IntKind.i64.wrap ((Int.tmod n (10 : Int)) + (1 : Int))) ∧ (IntKind.i64.wrap ((Int.tmod n (10 : Int)) + (1 : Int))) ≤ (([48, 49, 50, 51, 52, 53, 54, 55, 56, 57] : List UInt8).length : Int)) <|
      asrt (y1.length + (slc ([48, 49, 50, 51, 52, 53, 54, 55, 56, 57] : List UInt8) (Int.tmod n (10 : Int)) (IntKind.i64.wrap ((Int.tmod n (10 : Int)) + (1 : Int)))).length ≤ 9223372036854775807) <|
      some (y1 ++ (slc ([48, 49, 50, 51, 52, 53, 54, 55, 56, 57] : List UInt8) (Int.tmod n (10 : Int)) (IntKind.i64.wrap ((Int.tmod n (10 : Int)) + (1 : Int)))))))

def M.spec_l1Num_r : Nat → Int → Option (List UInt8)
  | 0 => fun _ => none
  | k_ + 1 => M.spec_l1Num_s (M.spec_l1Num_r k_)

def M.spec_l1Num (n : Int) : Option (List UInt8) := M.spec_l1Num_r rounds n

def M.spec_l1Read_l0 (t_ : List UInt8) : (Int × Int) → Option ((Int × Int) ⊕ ((Int) ⊕ (Int × Bool))) := fun st_ => match st_ with
| (n_0, i) =>
  bif (decide (i < (t_.length : Int))) then (
    asrt ((0 : Int) ≤ i ∧ i < (t_.length : Int)) <|
    asrt ((decide (((t_.getD (Int.toNat i) 0).toNat : Int) < (48 : Int))) = false → ((0 : Int) ≤ i ∧ i < (t_.length : Int))) <|
    bif ((decide (((t_.getD (Int.toNat i) 0).toNat : Int) < (48 : Int))) || (decide (((t_.getD (Int.toNat i) 0).toNat : Int) > (57 : Int)))) then (
      some (.inr (.inr ((0 : Int), false))))
    else (
      asrt ((0 : Int) ≤ i ∧ i < (t_.length : Int)) <|
      some (.inl ((IntKind.i64.wrap ((IntKind.i64.wrap ((10 : Int) * n_0)) + (IntKind.i64.wrap (IntKind.u8.wrap (((t_.getD (Int.toNat i) 0).toNat : Int) - (48 : Int)))))), (IntKind.i64.wrap (i + (1 : Int)))))))
  else (
    some (.inr (.inl n_0)))

def M.spec_l1Read (s : List UInt8) : Option (Int × Bool) :=
  (((
    asrt ((decide ((s.length : Int) > (1 : Int))) = true → ((0 : Int) ≤ (0 : Int) ∧ (0 : Int) < (s.length : Int))) <|
    bif ((decide ((s.length : Int) > (1 : Int))) && (((s.getD (Int.toNat (0 : Int)) 0).toNat : Int) == (45 : Int))) then (
      asrt ((0 : Int) ≤ (1 : Int) ∧ (1 : Int) ≤ (s.length : Int) ∧ (s.length : Int) ≤ (s.length : Int)) <|
      some (slc s (1 : Int) (s.length : Int)))
    else (
      some s)) : Option (List UInt8))).bind fun e => match e with
  | t_ =>
    ((M.spec_l1In (t_.length : Int) (1 : Int) (6 : Int)).bind fun y0 =>
    bif (!y0) then (
      some ((0 : Int), false))
    else (
      (iterO (M.spec_l1Read_l0 t_) ((0 : Int), (0 : Int))).bind fun e => match e with
      | .inl n_ =>
        ((((
          bif (decide ((t_.length : Int) < (s.length : Int))) then (
            some (IntKind.i64.wrap (0 - n_)))
          else (
            some n_)) : Option Int)).bind fun e => match e with
        | n_1 =>
          ((M.spec_l1Num n_1).bind fun y2 =>
          bif (!(y2 == s)) then (
            some ((0 : Int), false))
          else (
            some (n_1, true))))
      | .inr r => some r))

def M.spec_l19Number_l0 (s : List UInt8) : (Int) → Option ((Int) ⊕ (Int)) := fun st_ => match st_ with
| end_0 =>
  asrt ((decide (end_0 < (s.length : Int))) = true → ((0 : Int) ≤ end_0 ∧ end_0 < (s.length : Int))) <|
  asrt (((decide (end_0 < (s.length : Int))) && (decide (((s.getD (Int.toNat end_0) 0).toNat : Int) ≥ (48 : Int)))) = true → ((0 : Int) ≤ end_0 ∧ end_0 < (s.length : Int))) <|
  bif (((decide (end_0 < (s.length : Int))) && (decide (((s.getD (Int.toNat end_0) 0).toNat : Int) ≥ (48 : Int)))) && (decide (((s.getD (Int.toNat end_0) 0).toNat : Int) ≤ (57 : Int)))) then (
    some (.inl (IntKind.i64.wrap (end_0 + (1 : Int)))))
  else (
    some (.inr end_0))

def M.spec_l19Number (s : List UInt8) (at_ : Int) : Option (Int × Int) :=
  (iterO (M.spec_l19Number_l0 s) at_).bind fun e => match e with
  | end_ =>
    (asrt ((0 : Int) ≤ at_ ∧ at_ ≤ end_ ∧ end_ ≤ (s.length : Int)) <|
    (M.spec_l1Read (slc s at_ end_)).bind fun y1 =>
    bif (!y1.2) then (
      some ((0 : Int), (-1 : Int)))
    else (
      some (y1.1, end_)))

def M.spec_l2DayOf_l0 (r_ : Record) (kind : Int) : (Int) → Option ((Int) ⊕ ((Unit) ⊕ (Int))) := fun st_ => match st_ with
| i =>
  bif (decide (i < (r_.Events.length : Int))) then (
    asrt ((0 : Int) ≤ i ∧ i < (r_.Events.length : Int)) <|
    bif (((r_.Events.getD (Int.toNat i) default).Kind) == kind) then (
      asrt ((0 : Int) ≤ i ∧ i < (r_.Events.length : Int)) <|
      some (.inr (.inr ((r_.Events.getD (Int.toNat i) default).Day))))
    else (
      some (.inl (IntKind.i64.wrap (i + (1 : Int))))))
  else (
    some (.inr (.inl ())))

def M.spec_l2DayOf (r_ : Record) (kind : Int) : Option Int :=
  bif (kind == (0 : Int)) then (
    some r_.Made)
  else (
    (iterO (M.spec_l2DayOf_l0 r_ kind) (0 : Int)).bind fun e => match e with
    | .inl () =>
      (some (-1 : Int))
    | .inr r => some r)

def M.spec_l2Day (d : Int) : Option Bool :=
  (M.spec_l1In d (0 : Int) (20000 : Int)).bind fun y0 =>
  some y0

def M.spec_l19Test (s : List UInt8) (at_ : Int) (r_ : Record) : Option (Bool × Int) :=
  bif (decide (at_ ≥ (s.length : Int))) then (
    some (false, (-1 : Int)))
  else (
    (M.spec_l19Number s (IntKind.i64.wrap (at_ + (1 : Int)))).bind fun y0 =>
    bif (decide (y0.2 < (0 : Int))) then (
      some (false, (-1 : Int)))
    else (
      asrt ((0 : Int) ≤ at_ ∧ at_ < (s.length : Int)) <|
      ((bif (((s.getD (Int.toNat at_) 0).toNat : Int) == (115 : Int)) then M.spec_l1In y0.1 (1 : Int) (99 : Int) else some default)).bind fun y1 =>
      bif ((((s.getD (Int.toNat at_) 0).toNat : Int) == (115 : Int)) && y1) then (
        some ((r_.Series == y0.1), y0.2))
      else (
        asrt ((0 : Int) ≤ at_ ∧ at_ < (s.length : Int)) <|
        ((bif (((s.getD (Int.toNat at_) 0).toNat : Int) == (105 : Int)) then M.spec_l1In y0.1 (1 : Int) (999 : Int) else some default)).bind fun y2 =>
        bif ((((s.getD (Int.toNat at_) 0).toNat : Int) == (105 : Int)) && y2) then (
          some ((r_.Id == y0.1), y0.2))
        else (
          asrt ((0 : Int) ≤ at_ ∧ at_ < (s.length : Int)) <|
          ((bif (((s.getD (Int.toNat at_) 0).toNat : Int) == (101 : Int)) then M.spec_l1In y0.1 (1 : Int) (9 : Int) else some default)).bind fun y3 =>
          bif ((((s.getD (Int.toNat at_) 0).toNat : Int) == (101 : Int)) && y3) then (
            (M.spec_l2DayOf r_ y0.1).bind fun y4 =>
            some ((decide (y4 ≥ (0 : Int))), y0.2))
          else (
            asrt ((0 : Int) ≤ at_ ∧ at_ < (s.length : Int)) <|
            ((bif (((s.getD (Int.toNat at_) 0).toNat : Int) == (97 : Int)) then M.spec_l2Day y0.1 else some default)).bind fun y5 =>
            bif ((((s.getD (Int.toNat at_) 0).toNat : Int) == (97 : Int)) && y5) then (
              some ((decide (r_.Made ≥ y0.1)), y0.2))
            else (
              some (false, (-1 : Int))))))))

def M.spec_l19Term_p_l0 (rec_ : (List UInt8) → Int → Record → Option (Bool × Int)) (s : List UInt8) (r_ : Record) : (Bool × Int) → Option ((Bool × Int) ⊕ (Bool × Int)) := fun st_ => match st_ with
| (yes0, end_0) =>
  asrt (((decide (end_0 ≥ (0 : Int))) && (decide (end_0 < (s.length : Int)))) = true → ((0 : Int) ≤ end_0 ∧ end_0 < (s.length : Int))) <|
  bif (((decide (end_0 ≥ (0 : Int))) && (decide (end_0 < (s.length : Int)))) && (((s.getD (Int.toNat end_0) 0).toNat : Int) == (38 : Int))) then (
    (rec_ s (IntKind.i64.wrap (end_0 + (1 : Int))) r_).bind fun y2 =>
    some (.inl ((yes0 && y2.1), y2.2)))
  else (
    some (.inr (yes0, end_0)))

def M.spec_l19Term_p (rec_ : (List UInt8) → Int → Record → Option (Bool × Int)) (s : List UInt8) (at_ : Int) (r_ : Record) : Option (Bool × Int) :=
  (rec_ s at_ r_).bind fun y0 =>
  (iterO (M.spec_l19Term_p_l0 rec_ s r_) (y0.1, y0.2)).bind fun e => match e with
  | (yes, end_) =>
    (some (yes, end_))

def M.spec_l19Query_p_l0 (rec_ : (List UInt8) → Int → Record → Option (Bool × Int)) (s : List UInt8) (r_ : Record) : (Bool × Int) → Option ((Bool × Int) ⊕ (Bool × Int)) := fun st_ => match st_ with
| (yes0, end_0) =>
  asrt (((decide (end_0 ≥ (0 : Int))) && (decide (end_0 < (s.length : Int)))) = true → ((0 : Int) ≤ end_0 ∧ end_0 < (s.length : Int))) <|
  bif (((decide (end_0 ≥ (0 : Int))) && (decide (end_0 < (s.length : Int)))) && (((s.getD (Int.toNat end_0) 0).toNat : Int) == (124 : Int))) then (
    (M.spec_l19Term_p rec_ s (IntKind.i64.wrap (end_0 + (1 : Int))) r_).bind fun y2 =>
    some (.inl ((yes0 || y2.1), y2.2)))
  else (
    some (.inr (yes0, end_0)))

def M.spec_l19Query_p (rec_ : (List UInt8) → Int → Record → Option (Bool × Int)) (s : List UInt8) (at_ : Int) (r_ : Record) : Option (Bool × Int) :=
  (M.spec_l19Term_p rec_ s at_ r_).bind fun y0 =>
  (iterO (M.spec_l19Query_p_l0 rec_ s r_) (y0.1, y0.2)).bind fun e => match e with
  | (yes, end_) =>
    (some (yes, end_))

def M.spec_l19Factor_s (rec_ : (List UInt8) → Int → Record → Option (Bool × Int)) (s : List UInt8) (at_ : Int) (r_ : Record) : Option (Bool × Int) :=
  asrt ((decide (at_ < (s.length : Int))) = true → ((0 : Int) ≤ at_ ∧ at_ < (s.length : Int))) <|
  bif ((decide (at_ < (s.length : Int))) && (((s.getD (Int.toNat at_) 0).toNat : Int) == (33 : Int))) then (
    (rec_ s (IntKind.i64.wrap (at_ + (1 : Int))) r_).bind fun y0 =>
    some ((!y0.1), y0.2))
  else (
    asrt ((decide (at_ < (s.length : Int))) = true → ((0 : Int) ≤ at_ ∧ at_ < (s.length : Int))) <|
    bif ((decide (at_ < (s.length : Int))) && (((s.getD (Int.toNat at_) 0).toNat : Int) == (40 : Int))) then (
      (M.spec_l19Query_p rec_ s (IntKind.i64.wrap (at_ + (1 : Int))) r_).bind fun y1 =>
      asrt (((decide (y1.2 < (0 : Int))) || (decide (y1.2 ≥ (s.length : Int)))) = false → ((0 : Int) ≤ y1.2 ∧ y1.2 < (s.length : Int))) <|
      bif (((decide (y1.2 < (0 : Int))) || (decide (y1.2 ≥ (s.length : Int)))) || (((s.getD (Int.toNat y1.2) 0).toNat : Int) != (41 : Int))) then (
        some (false, (-1 : Int)))
      else (
        some (y1.1, (IntKind.i64.wrap (y1.2 + (1 : Int))))))
    else (
      (M.spec_l19Test s at_ r_).bind fun y2 =>
      some (y2.1, y2.2)))

def M.spec_l19Factor_r : Nat → (List UInt8) → Int → Record → Option (Bool × Int)
  | 0 => fun _ _ _ => none
  | k_ + 1 => M.spec_l19Factor_s (M.spec_l19Factor_r k_)

def M.spec_l19Factor (s : List UInt8) (at_ : Int) (r_ : Record) : Option (Bool × Int) := M.spec_l19Factor_r rounds s at_ r_

def M.spec_l19Term (s : List UInt8) (at_ : Int) (r_ : Record) : Option (Bool × Int) := M.spec_l19Term_p M.spec_l19Factor s at_ r_

def M.spec_l19Query (s : List UInt8) (at_ : Int) (r_ : Record) : Option (Bool × Int) := M.spec_l19Query_p M.spec_l19Factor s at_ r_

def M.spec_l19Good (s : List UInt8) : Option Bool :=
  (M.spec_l1In (s.length : Int) (1 : Int) (60 : Int)).bind fun y0 =>
  bif (!y0) then (
    some false)
  else (
    (M.spec_l19Query s (0 : Int) (⟨(0 : Int), (0 : Int), (0 : Int), ([] : List Event)⟩ : Record)).bind fun y1 =>
    some (y1.2 == (s.length : Int)))

def M.spec_l15Letter (b_ : Int) : Option Bool :=
  some ((decide (b_ ≥ (97 : Int))) && (decide (b_ ≤ (122 : Int))))

def M.spec_TestCount_l0 (s : List UInt8) : (Int × Int) → Option ((Int × Int) ⊕ (Int)) := fun st_ => match st_ with
| (n_0, i) =>
  bif (decide (i < (s.length : Int))) then (
    (((
      asrt ((0 : Int) ≤ i ∧ i < (s.length : Int)) <|
      (M.spec_l15Letter ((s.getD (Int.toNat i) 0).toNat : Int)).bind fun y2 =>
      bif y2 then (
        some (IntKind.i64.wrap (n_0 + (1 : Int))))
      else (
        some n_0)) : Option Int)).bind fun e => match e with
    | n_1 =>
      (some (.inl (n_1, (IntKind.i64.wrap (i + (1 : Int)))))))
  else (
    some (.inr n_0))

def M.spec_TestCount (s : List UInt8) : Option (Int × Bool) :=
  (M.spec_l19Good s).bind fun y0 =>
  bif (!y0) then (
    some ((0 : Int), false))
  else (
    (iterO (M.spec_TestCount_l0 s) ((0 : Int), (0 : Int))).bind fun e => match e with
    | n_ =>
      (some (n_, true)))

def M.impl_within (n : Int) (low : Int) (high : Int) : Option Bool :=
  some ((decide (low ≤ n)) && (decide (n ≤ high)))

def M.impl_parser_sees (p : Parser) (c : Int) : Option (Bool × Parser) :=
  asrt ((decide (p.At < (p.S.length : Int))) = true → ((0 : Int) ≤ p.At ∧ p.At < (p.S.length : Int))) <|
  bif ((decide (p.At < (p.S.length : Int))) && (((p.S.getD (Int.toNat p.At) 0).toNat : Int) == c)) then (
    some (true, (⟨p.S, (IntKind.i64.wrap (p.At + (1 : Int))), p.Bad, p.Open, p.Most⟩ : Parser)))
  else (
    some (false, p))

def M.strconv_Atoi (s : List UInt8) : Option (Int × Bool) := asrt (s.length ≤ 281474976710656) <| some (atoiR s)

def M.strconv_Itoa (n : Int) : Option (List UInt8) := asrt (-9223372036854775808 ≤ n ∧ n ≤ 9223372036854775807) <| some (Go.Lib.itoa n)

def M.impl_decimal (n : Int) : Option (List UInt8) :=
  (M.strconv_Itoa n).bind fun y0 =>
  some y0

def M.impl_ParseInt (s : List UInt8) : Option (Int × Bool) :=
  (M.strconv_Atoi s).bind fun y0 =>
  ((bif y0.2 then some default else M.impl_within y0.1 (-999999 : Int) (999999 : Int))).bind fun y1 =>
  ((bif (y0.2 || (!y1)) then some default else M.impl_decimal y0.1)).bind fun y2 =>
  bif ((y0.2 || (!y1)) || (!(y2 == s))) then (
    some ((0 : Int), false))
  else (
    some (y0.1, true))

def M.impl_isId (id_ : Int) : Option Bool :=
  (M.impl_within id_ (1 : Int) (99 : Int)).bind fun y0 =>
  some y0

def M.impl_isRecordId (id_ : Int) : Option Bool :=
  (M.impl_within id_ (1 : Int) (999 : Int)).bind fun y0 =>
  some y0

def M.impl_isDay (day : Int) : Option Bool :=
  (M.impl_within day (0 : Int) (20000 : Int)).bind fun y0 =>
  some y0

def M.impl_parser_test_l0 : (Parser) → Option ((Parser) ⊕ (Parser)) := fun st_ => match st_ with
| p1 =>
  asrt ((decide (p1.At < (p1.S.length : Int))) = true → ((0 : Int) ≤ p1.At ∧ p1.At < (p1.S.length : Int))) <|
  asrt (((decide (p1.At < (p1.S.length : Int))) && (decide (((p1.S.getD (Int.toNat p1.At) 0).toNat : Int) ≥ (48 : Int)))) = true → ((0 : Int) ≤ p1.At ∧ p1.At < (p1.S.length : Int))) <|
  bif (((decide (p1.At < (p1.S.length : Int))) && (decide (((p1.S.getD (Int.toNat p1.At) 0).toNat : Int) ≥ (48 : Int)))) && (decide (((p1.S.getD (Int.toNat p1.At) 0).toNat : Int) ≤ (57 : Int)))) then (
    some (.inl (⟨p1.S, (IntKind.i64.wrap (p1.At + (1 : Int))), p1.Bad, p1.Open, p1.Most⟩ : Parser)))
  else (
    some (.inr p1))

def M.impl_parser_test (p : Parser) : Option (Query × Parser) :=
  bif (p.At == (p.S.length : Int)) then (
    some ((⟨(0 : Int), (0 : Int), ([] : List QE)⟩ : Query), (⟨p.S, p.At, true, p.Open, p.Most⟩ : Parser)))
  else (
    asrt ((0 : Int) ≤ p.At ∧ p.At < (p.S.length : Int)) <|
    (iterO (M.impl_parser_test_l0) (⟨p.S, (IntKind.i64.wrap (p.At + (1 : Int))), p.Bad, p.Open, p.Most⟩ : Parser)).bind fun e => match e with
    | p0 =>
      (asrt ((0 : Int) ≤ (IntKind.i64.wrap (p.At + (1 : Int))) ∧ (IntKind.i64.wrap (p.At + (1 : Int))) ≤ p0.At ∧ p0.At ≤ (p0.S.length : Int)) <|
      (M.impl_ParseInt (slc p0.S (IntKind.i64.wrap (p.At + (1 : Int))) p0.At)).bind fun y1 =>
      (((
        (((
          bif (((p.S.getD (Int.toNat p.At) 0).toNat : Int) == (115 : Int)) then (
            ((bif y1.2 then M.impl_isId y1.1 else some default)).bind fun y2 =>
            some (y1.2 && y2))
          else (
            bif (((p.S.getD (Int.toNat p.At) 0).toNat : Int) == (105 : Int)) then (
              ((bif y1.2 then M.impl_isRecordId y1.1 else some default)).bind fun y3 =>
              some (y1.2 && y3))
            else (
              bif (((p.S.getD (Int.toNat p.At) 0).toNat : Int) == (101 : Int)) then (
                ((bif y1.2 then M.impl_within y1.1 (1 : Int) (9 : Int) else some default)).bind fun y4 =>
                some (y1.2 && y4))
              else (
                bif (((p.S.getD (Int.toNat p.At) 0).toNat : Int) == (97 : Int)) then (
                  ((bif y1.2 then M.impl_isDay y1.1 else some default)).bind fun y5 =>
                  some (y1.2 && y5))
                else (
                  some false))))) : Option Bool)).bind fun e => match e with
        | ok_0 =>
          (some ok_0)) : Option Bool)).bind fun e => match e with
      | ok_ =>
        (some ((⟨((p.S.getD (Int.toNat p.At) 0).toNat : Int), y1.1, ([] : List QE)⟩ : Query), (⟨p0.S, p0.At, (p0.Bad || (!ok_)), p0.Open, p0.Most⟩ : Parser)))))

def M.impl_parser_joined_l0 (sign : Int) (fm : Parser → Option (Query × Parser)) : (List QE × Parser) → Option ((List QE × Parser) ⊕ (List QE × Parser)) := fun st_ => match st_ with
| (q_Parts0, p1) =>
  ((bif (!p1.Bad) then M.impl_parser_sees p1 sign else some default)).bind fun y2 =>
  bif ((!p1.Bad) && y2.1) then (
    (fm (bif (!p1.Bad) then y2.2 else p1)).bind fun y3 =>
    asrt ((q_Parts0.length : Int) + (([qe y3.1] : List QE).length : Int) ≤ 2147483648) <|
    (((
      some ((q_Parts0 ++ ([qe y3.1] : List QE)), y3.2)) : Option (List QE × Parser))).bind fun e => match e with
    | (q_Parts1, p2) =>
      (some (.inl (q_Parts1, p2))))
  else (
    some (.inr (q_Parts0, (bif (!p1.Bad) then y2.2 else p1))))

def M.impl_parser_joined (p : Parser) (sign : Int) (fm : Parser → Option (Query × Parser)) : Option (Query × Parser) :=
  (fm p).bind fun y0 =>
  (iterO (M.impl_parser_joined_l0 sign fm) (([qe y0.1] : List QE), y0.2)).bind fun e => match e with
  | (q_Parts, p0) =>
    (some ((⟨sign, (0 : Int), q_Parts⟩ : Query), p0))

def M.impl_parser_term_p (rec_ : Parser → Option (Query × Parser)) (p : Parser) : Option (Query × Parser) :=
  (M.impl_parser_joined p (38 : Int) (fun x0 => rec_ x0)).bind fun y0 =>
  some (y0.1, y0.2)

def M.impl_parser_query_p (rec_ : Parser → Option (Query × Parser)) (p : Parser) : Option (Query × Parser) :=
  (M.impl_parser_joined p (124 : Int) (fun x0 => M.impl_parser_term_p rec_ x0)).bind fun y0 =>
  some (y0.1, y0.2)

def M.impl_parser_factor_s (rec_ : Parser → Option (Query × Parser)) (p : Parser) : Option (Query × Parser) :=
  bif p.Bad then (
    some ((⟨(0 : Int), (0 : Int), ([] : List QE)⟩ : Query), p))
  else (
    (M.impl_parser_sees p (33 : Int)).bind fun y0 =>
    bif y0.1 then (
      (rec_ y0.2).bind fun y1 =>
      some ((⟨(33 : Int), (0 : Int), ([qe y1.1] : List QE)⟩ : Query), y1.2))
    else (
      (M.impl_parser_sees y0.2 (40 : Int)).bind fun y2 =>
      bif y2.1 then (
        (M.impl_parser_query_p rec_ (⟨y2.2.S, y2.2.At, y2.2.Bad, (IntKind.i64.wrap (y2.2.Open + (1 : Int))), (bif decide (y2.2.Most < (IntKind.i64.wrap (y2.2.Open + (1 : Int)))) then (IntKind.i64.wrap (y2.2.Open + (1 : Int))) else y2.2.Most)⟩ : Parser)).bind fun y3 =>
        ((bif y3.2.Bad then some default else M.impl_parser_sees (⟨y3.2.S, y3.2.At, y3.2.Bad, (IntKind.i64.wrap (y3.2.Open - (1 : Int))), y3.2.Most⟩ : Parser) (41 : Int))).bind fun y4 =>
        some (y3.1, (⟨(bif y3.2.Bad then (⟨y3.2.S, y3.2.At, y3.2.Bad, (IntKind.i64.wrap (y3.2.Open - (1 : Int))), y3.2.Most⟩ : Parser) else y4.2).S, (bif y3.2.Bad then (⟨y3.2.S, y3.2.At, y3.2.Bad, (IntKind.i64.wrap (y3.2.Open - (1 : Int))), y3.2.Most⟩ : Parser) else y4.2).At, (y3.2.Bad || (!y4.1)), (bif y3.2.Bad then (⟨y3.2.S, y3.2.At, y3.2.Bad, (IntKind.i64.wrap (y3.2.Open - (1 : Int))), y3.2.Most⟩ : Parser) else y4.2).Open, (bif y3.2.Bad then (⟨y3.2.S, y3.2.At, y3.2.Bad, (IntKind.i64.wrap (y3.2.Open - (1 : Int))), y3.2.Most⟩ : Parser) else y4.2).Most⟩ : Parser)))
      else (
        (M.impl_parser_test y2.2).bind fun y5 =>
        some (y5.1, y5.2))))

def M.impl_parser_factor_r : Nat → Parser → Option (Query × Parser)
  | 0 => fun _ => none
  | k_ + 1 => M.impl_parser_factor_s (M.impl_parser_factor_r k_)

def M.impl_parser_factor (p : Parser) : Option (Query × Parser) := M.impl_parser_factor_r rounds p

def M.impl_parser_term (p : Parser) : Option (Query × Parser) := M.impl_parser_term_p M.impl_parser_factor p

def M.impl_parser_query (p : Parser) : Option (Query × Parser) := M.impl_parser_query_p M.impl_parser_factor p

def M.impl_readQuery (s : List UInt8) : Option (Query × Int × Bool) :=
  (M.impl_within (s.length : Int) (1 : Int) (60 : Int)).bind fun y0 =>
  bif (!y0) then (
    some ((⟨(0 : Int), (0 : Int), ([] : List QE)⟩ : Query), (0 : Int), false))
  else (
    (M.impl_parser_query (⟨s, (0 : Int), false, (0 : Int), (0 : Int)⟩ : Parser)).bind fun y1 =>
    some (y1.1, y1.2.Most, ((!y1.2.Bad) && (y1.2.At == (s.length : Int)))))

def M.impl_TestCount_1 (a0 : Query) (count : Int) : Option Int :=
  some (IntKind.i64.wrap (count + (1 : Int)))

def M.impl_query_each_l0 (q : Query) (fm : Query → Int → Option Int) (rec_ : Query → (Query → Int → Option Int) → Int → Option Int) : (Int × Int) → Option ((Int × Int) ⊕ (Int)) := fun st_ => match st_ with
| (v, o1) =>
  bif (decide (v < (q.Parts.length : Int))) then (
    asrt ((0 : Int) ≤ v ∧ v < (q.Parts.length : Int)) <|
    (rec_ (qeI (q.Parts.getD (Int.toNat v) default)) fm o1).bind fun y2 =>
    some (.inl ((IntKind.i64.wrap (v + (1 : Int))), y2)))
  else (
    some (.inr o1))

def M.impl_query_each_s (rec_ : Query → (Query → Int → Option Int) → Int → Option Int) (q : Query) (fm : Query → Int → Option Int) (n_ : Int) : Option Int :=
  (((
    bif ((q.Parts.length : Int) == (0 : Int)) then (
      (fm q n_).bind fun y0 =>
      some y0)
    else (
      some n_)) : Option Int)).bind fun e => match e with
  | o =>
    ((iterO (M.impl_query_each_l0 q fm rec_) ((0 : Int), o)).bind fun e => match e with
    | o0 =>
      (some o0))

def M.impl_query_each_r : Nat → Query → (Query → Int → Option Int) → Int → Option Int
  | 0 => fun _ _ _ => none
  | k_ + 1 => M.impl_query_each_s (M.impl_query_each_r k_)

def M.impl_query_each (q : Query) (fm : Query → Int → Option Int) (n_ : Int) : Option Int := M.impl_query_each_r (qedep (qe q)) q fm n_

def M.impl_TestCount (s : List UInt8) : Option (Int × Bool) :=
  (M.impl_readQuery s).bind fun y0 =>
  bif (!y0.2.2) then (
    some ((0 : Int), false))
  else (
    (M.impl_query_each y0.1 (fun x0 x1 => M.impl_TestCount_1 x0 x1) (0 : Int)).bind fun y1 =>
    some (y1, true))

def M.laws_FnExactTestCount (aS : List UInt8) : Option Bool :=
  bif (decide ((aS.length : Int) > (1048576 : Int))) then (
    some true)
  else (
    (M.spec_TestCount aS).bind fun y0 =>
    (M.impl_TestCount aS).bind fun y1 =>
    bif ((y1.1 != y0.1) || (!(y1.2 == y0.2))) then (
      some false)
    else (
      some true))
end Go.Proofs.YtlpnicmlgckdnaaDoor
