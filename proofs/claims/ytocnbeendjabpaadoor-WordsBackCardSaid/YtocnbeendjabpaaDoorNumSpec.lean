/- Decimal numbers, in plain Lean. -/
import Derived.Test.YtocnbeendjabpaaDoorWdJoin
import Derived.Test.YtocnbeendjabpaaDoorWdLinesSpec
import Derived.Lib.ParseIntBCases
namespace Go.Proofs.YtocnbeendjabpaaDoor
open Go.RowKit Go.Lib

def valF (a : Nat) : List UInt8 → Nat
  | [] => a
  | c :: l => valF (a * 10 + (c.toNat - 48)) l
theorem valF_ge : ∀ (l : List UInt8) (a : Nat), a ≤ valF a l
  | [], _ => Nat.le_refl _
  | c :: l, a => by
    have := valF_ge l (a * 10 + (c.toNat - 48))
    unfold valF
    omega
theorem valF_mono : ∀ (l : List UInt8) {a b : Nat}, a ≤ b → valF a l ≤ valF b l
  | [], _, _, h => h
  | c :: l, a, b, h => by
    unfold valF
    exact valF_mono l (by omega)
def isDig (c : UInt8) : Bool := decide (48 ≤ c.toNat) && decide (c.toNat ≤ 57)

theorem parseM (M : Nat) (hM : M < 18446744073709551620) : ∀ (l : List UInt8) (a : Nat), l.all isDig = true → a ≤ M → parseUintM M a l = if valF a l ≤ M then .ok (valF a l) else .range
  | [], a, _, ha => by
    unfold parseUintM valF
    rw [if_pos ha]
  | c :: l, a, hd, ha => by
    simp only [List.all_cons, Bool.and_eq_true] at hd
    obtain ⟨h1, h2⟩ := hd
    have h3 : 48 ≤ c.toNat ∧ c.toNat ≤ 57 := by simpa [isDig] using h1
    have hg := valF_ge l (a * 10 + (c.toNat - 48))
    unfold parseUintM valF
    rw [if_pos h3]
    by_cases h4 : 1844674407370955162 ≤ a
    · rw [if_pos h4, if_neg (by omega)]
    · rw [if_neg h4]
      by_cases h5 : M < a * 10 + (c.toNat - 48)
      · rw [if_pos h5, if_neg (by omega)]
      · rw [if_neg h5]
        exact parseM M hM l _ h2 (by omega)
theorem parseB64 (l : List UInt8) (hne : l ≠ []) (hd : l.all isDig = true) : parseUintB 64 l = if valF 0 l ≤ 18446744073709551615 then .ok (valF 0 l) else .range := by
  unfold parseUintB
  rw [if_neg hne]
  exact parseM _ (by decide) l 0 hd (by decide)
theorem parse_neg (l : List UInt8) (hne : l ≠ []) (hd : l.all isDig = true) : parseIntB 64 (45 :: l) = if valF 0 l ≤ 9223372036854775808 then .ok (-(valF 0 l : Int)) else .range := by
  rw [parseIntB_minus, parseB64 l hne hd]
  by_cases h1 : valF 0 l ≤ 18446744073709551615
  · rw [if_pos h1]
    unfold signedC
    by_cases h2 : valF 0 l ≤ 9223372036854775808
    · simp [h2]
    · simp [h2]
  · rw [if_neg h1, if_neg (by omega)]
    rfl
theorem parse_pos (c : UInt8) (l : List UInt8) (hd : (c :: l).all isDig = true) : parseIntB 64 (c :: l) = if valF 0 (c :: l) < 9223372036854775808 then .ok (valF 0 (c :: l) : Int) else .range := by
  have hc : isDig c = true := by simp only [List.all_cons, Bool.and_eq_true] at hd; exact hd.1
  have h3 : 48 ≤ c.toNat ∧ c.toNat ≤ 57 := by simpa [isDig] using hc
  rw [parseIntB_plain 64 c l (by omega) (by omega), parseB64 _ (by simp) hd]
  by_cases h1 : valF 0 (c :: l) ≤ 18446744073709551615
  · rw [if_pos h1]
    unfold signlessC
    by_cases h2 : valF 0 (c :: l) < 9223372036854775808
    · simp [h2]
    · simp [h2]
  · rw [if_neg h1, if_neg (by omega)]
    rfl

/-- a number behind its sign, or the error -/
def numD (neg : Bool) (l : List UInt8) : Int × Int :=
  if l = [] ∨ (l.head? = some 48 ∧ (1 < l.length ∨ neg = true)) then (0, 4)
  else if l.all isDig = false then (0, 4)
  else if neg then (if valF 0 l ≤ 9223372036854775808 then (-(valF 0 l : Int), 0) else (0, 2))
  else (if valF 0 l < 9223372036854775808 then ((valF 0 l : Int), 0) else (0, 2))
/-- a number, or the error -/
def numR (l : List UInt8) : Int × Int :=
  match l with
  | 45 :: r => numD true r
  | _ => numD false l
theorem numR_neg (r : List UInt8) : numR (45 :: r) = numD true r := rfl
theorem numR_pos {l : List UInt8} (h : l.head? ≠ some 45) : numR l = numD false l := by
  unfold numR
  split
  · simp at h
  · rfl
end Go.Proofs.YtocnbeendjabpaaDoor
