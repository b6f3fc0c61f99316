/-
  Checksums, entries of ledgers, hashes of pairs, rounds and roots. Plain.
-/
import Derived.Test.YtlpnicmlgckdnaaDoorHa
import Derived.Test.YtlpnicmlgckdnaaDoorWo
import Derived.Test.YtlpnicmlgckdnaaDoorNu
set_option linter.unusedSimpArgs false
set_option linter.unusedVariables false
namespace Go.Proofs.YtlpnicmlgckdnaaDoor
open Go.VS

/-! ### Lengths of numbers -/
theorem numN_len10 : ∀ (k u : Nat), u < 10 ^ (k + 1) → (numN u).length ≤ k + 1
  | 0, u, h => by rw [numN_small (by omega)]; simp
  | k + 1, u, h => by
    rcases Nat.lt_or_ge u 10 with h1 | h1
    · rw [numN_small h1]; simp
    · rw [numN_big h1, List.length_append]
      have := numN_len10 k (u / 10) (by rw [Nat.pow_succ] at h; omega)
      simp only [List.length_cons, List.length_nil]
      omega
theorem numT_len7 {n : Int} (h0 : 0 ≤ n) (h1 : n ≤ 9999999) : (numT n).length ≤ 7 := by
  have e : n = ((n.toNat : Nat) : Int) := by omega
  rw [e, numT_nat]
  exact numN_len10 6 _ (by omega)

/-! ### Checksums -/
def csumF (n : Int) (b : UInt8) : Int := (41 * n + (b.toNat : Int) + 1) % 999979
def csum (s : List UInt8) : Int := s.foldl csumF 7
theorem csumF_bd (n : Int) (b : UInt8) : 0 ≤ csumF n b ∧ csumF n b < 999979 := by unfold csumF; omega
theorem csum_foldl_bd : ∀ (s : List UInt8) (n : Int), 0 ≤ n → n < 999979 → 0 ≤ s.foldl csumF n ∧ s.foldl csumF n < 999979
  | [], n, h0, h1 => ⟨h0, h1⟩
  | b :: s, n, h0, h1 => csum_foldl_bd s _ (csumF_bd n b).1 (csumF_bd n b).2
theorem csum_bd (s : List UInt8) : 0 ≤ csum s ∧ csum s < 999979 := csum_foldl_bd s 7 (by omega) (by omega)

theorem csum_num {h : Int} {b : UInt8} (h0 : 0 ≤ h) (h1 : h < 999979) : Int.tmod (IntKind.i64.wrap ((IntKind.i64.wrap ((IntKind.i64.wrap ((41 : Int) * h)) + (IntKind.i64.wrap (b.toNat : Int)))) + (1 : Int))) (999979 : Int) = csumF h b := by
  have hb : (b.toNat : Int) < 256 := by have := b.toNat_lt; omega
  rw [wrap64_id (n := 41 * h) (by omega) (by omega), wrap64_id (n := (b.toNat : Int)) (by omega) (by omega), wrap64_id (n := 41 * h + (b.toNat : Int)) (by omega) (by omega), wrap64_id (by omega) (by omega), Int.tmod_eq_emod_of_nonneg (by omega)]
  rfl

/-! ### Entries -/
def entB (b : UInt8) : Bool := (lower b || (decide (48 ≤ b.toNat) && decide (b.toNat ≤ 57))) || (b.toNat == 32 || b.toNat == 45)
def entOk (s : List UInt8) : Bool := inR (s.length : Int) 1 40 && s.all entB
def entSet : List UInt8 := [97, 98, 99, 100, 101, 102, 103, 104, 105, 106, 107, 108, 109, 110, 111, 112, 113, 114, 115, 116, 117, 118, 119, 120, 121, 122, 48, 49, 50, 51, 52, 53, 54, 55, 56, 57, 32, 45]
theorem entSet_all : ∀ n : Fin 256, entSet.contains (UInt8.ofNat n.val) = entB (UInt8.ofNat n.val) := by decide +kernel
theorem entSet_B (b : UInt8) : entSet.contains b = entB b := by
  have := entSet_all ⟨b.toNat, b.toNat_lt⟩
  simpa using this

def leaf (s : List UInt8) : Int := csum (108 :: s)
def pairH (a b : Int) : Int := csum (110 :: (numT a ++ 44 :: numT b))
theorem pair_text {a b : List UInt8} : ((([110] : List UInt8) ++ a) ++ ([44] : List UInt8)) ++ b = 110 :: (a ++ 44 :: b) := by simp
def hashOk (n : Int) : Bool := inR n 0 999999
theorem hashOk_bd {n : Int} (h : hashOk n = true) : 0 ≤ n ∧ n ≤ 9999999 := by
  have := inR_true.1 h; omega
/-! ### Ledgers -/
def TextsB (l : List (List UInt8)) : Prop := l.length < 1000 ∧ ∀ s ∈ l, s.length ≤ 1000
theorem TextsB.at {l : List (List UInt8)} (h : TextsB l) {k : Nat} (hk : k < l.length) : (l.getD k default).length ≤ 1000 := h.2 _ (getD_mem hk)
def ledOk (l : List (List UInt8)) : Bool := inR (l.length : Int) 1 8 && l.all entOk

def leaves (l : List (List UInt8)) : List Int := l.map leaf
/-! ### Rounds -/
def rnd : List Int → List Int
  | a :: b :: t => pairH a b :: rnd t
  | [a] => [a]
  | [] => []
theorem rnd_len : ∀ l : List Int, (rnd l).length = (l.length + 1) / 2
  | a :: b :: t => by simp only [rnd, List.length_cons, rnd_len t]; omega
  | [a] => by simp [rnd]
  | [] => by simp [rnd]
def HashB (l : List Int) : Prop := ∀ x ∈ l, 0 ≤ x ∧ x ≤ 9999999
theorem pairH_bd (a b : Int) : 0 ≤ pairH a b ∧ pairH a b ≤ 999978 := by have := csum_bd (110 :: (numT a ++ 44 :: numT b)); unfold pairH; omega
theorem leaf_bd (s : List UInt8) : 0 ≤ leaf s ∧ leaf s ≤ 999978 := by have := csum_bd (108 :: s); unfold leaf; omega
theorem rnd_bd : ∀ l : List Int, HashB l → HashB (rnd l)
  | a :: b :: t, h => by
    intro x hx
    simp only [rnd, List.mem_cons] at hx
    rcases hx with rfl | hx
    · have := pairH_bd a b; omega
    · exact rnd_bd t (fun y hy => h y (by simp [hy])) x hx
  | [a], h => h
  | [], h => h
theorem chunk2_cons {a b : Int} {t : List Int} : chunk2 (a :: b :: t) = [a, b] :: chunk2 t := by
  unfold chunk2
  rw [show ((a :: b :: t).length + 1) / 2 = (t.length + 1) / 2 + 1 by simp only [List.length_cons]; omega, List.range_succ_eq_map, List.map_cons, List.map_map]
  rfl

theorem getD_cons2 {a b : Int} {t : List Int} {k : Nat} : (a :: b :: t).getD (k + 2) default = t.getD k default := rfl
/-- The reference's round, at every second place. -/
def root (l : List Int) : Int := (rnd (rnd (rnd l))).headD 0
theorem rnd1 {l : List Int} (h : l.length ≤ 1) : rnd l = l := by
  match l, h with
  | [], _ => rfl
  | [a], _ => rfl
theorem root_rnd {l : List Int} (h : l.length ≤ 8) : root (rnd l) = root l := by
  unfold root
  have e : (rnd (rnd (rnd l))).length ≤ 1 := by rw [rnd_len, rnd_len, rnd_len]; omega
  rw [rnd1 e]
theorem root_one {l : List Int} (h : l.length ≤ 1) : root l = l.headD 0 := by
  unfold root
  rw [rnd1 h, rnd1 h, rnd1 h]

theorem leaves_bd (l : List (List UInt8)) : HashB (leaves l) := by
  intro x hx
  obtain ⟨s, _, rfl⟩ := List.mem_map.1 hx
  have := leaf_bd s; omega
theorem ledOk_len {l : List (List UInt8)} (h : ledOk l = true) : 1 ≤ l.length ∧ l.length ≤ 8 := by
  unfold ledOk at h
  rw [Bool.and_eq_true] at h
  have := inR_true.1 h.1
  omega
end Go.Proofs.YtlpnicmlgckdnaaDoor
