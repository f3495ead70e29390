/- What the packages governor and its reference compute, in plain terms. -/
import Derived.Test.YtgejicpobifebaaKit
namespace Go.Proofs.Ytgejicpobifebaa
open Go.RowKit

structure Gov where
  fr : Int
  ra : Int
  ke : Int
  lo : Int
  ri : Int
abbrev Gov.cs (g : Gov) : Array Value := #[.int .i64 g.fr, .int .i64 g.ra, .int .i64 g.ke, .int .i64 g.lo, .int .i64 g.ri]
def gov0 : Gov := ⟨0, 0, 0, 0, 0⟩
instance : Inhabited Gov := ⟨gov0⟩

def inR (n m : Int) : Bool := decide (0 ≤ n) && decide (n ≤ m)
theorem inR_iff {n m : Int} : inR n m = true ↔ 0 ≤ n ∧ n ≤ m := by unfold inR; simp
theorem inR_no {n m : Int} : inR n m = false ↔ n < 0 ∨ m < n := by
  unfold inR; rw [Bool.and_eq_false_iff]; simp

def validG (g : Gov) : Bool :=
  inR g.fr 1048576 && inR g.ra 1048576 && inR g.ke 1099511627776 && inR g.lo 1099511627776 && inR g.ri 1099511627776 && decide (g.lo + g.ri ≤ g.fr + g.ra * g.ke)
theorem validG_iff {g : Gov} : validG g = true ↔ (0 ≤ g.fr ∧ g.fr ≤ 1048576) ∧ (0 ≤ g.ra ∧ g.ra ≤ 1048576) ∧ (0 ≤ g.ke ∧ g.ke ≤ 1099511627776) ∧ (0 ≤ g.lo ∧ g.lo ≤ 1099511627776) ∧ (0 ≤ g.ri ∧ g.ri ≤ 1099511627776) ∧ g.lo + g.ri ≤ g.fr + g.ra * g.ke := by
  unfold validG; simp [inR_iff, and_assoc]
theorem prod_bd {a k : Int} (h1 : 0 ≤ a) (h2 : a ≤ 1048576) (h3 : 0 ≤ k) (h4 : k ≤ 1099511627776) : 0 ≤ a * k ∧ a * k ≤ 1152921504606846976 := by
  refine ⟨Int.mul_nonneg h1 h3, ?_⟩
  have h5 : a * k ≤ 1048576 * k := Int.mul_le_mul_of_nonneg_right h2 h3
  omega
def mayG (g : Gov) : Bool := validG g && decide (g.ri < 1099511627776) && decide (g.lo + g.ri < g.fr + g.ra * g.ke)
theorem mayG_iff {g : Gov} : mayG g = true ↔ validG g = true ∧ g.ri < 1099511627776 ∧ g.lo + g.ri < g.fr + g.ra * g.ke := by
  unfold mayG; simp [and_assoc]
def stepG (g : Gov) : Gov × Int := if mayG g = true then ({ g with ri := g.ri + 1 }, 0) else (gov0, 7)
def keepG (g : Gov) (r o : Int) : Gov × Int :=
  if validG g = false then (gov0, 1) else if r < 0 ∨ o < 0 then (gov0, 2) else if g.ri < r then (gov0, 9) else if 1099511627776 < o ∨ 1099511627776 < g.ke + r + o then (gov0, 3)
  else ({ g with ri := g.ri - r, ke := g.ke + (r + o) }, 0)
def dropG (g : Gov) (r : Int) : Gov × Int :=
  if validG g = false then (gov0, 1) else if r < 0 then (gov0, 2) else if g.ri < r then (gov0, 9) else if 1099511627776 < g.lo + r then (gov0, 3)
  else ({ g with ri := g.ri - r, lo := g.lo + r }, 0)
end Go.Proofs.Ytgejicpobifebaa
