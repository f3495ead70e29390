/- The words of a line, in plain Lean: what both texts compute. -/
import Derived.Test.YtocnbeendjabpaaDoorKit
namespace Go.Proofs.YtocnbeendjabpaaDoor

/-- a byte that may stand in a plain word -/
def simpB (c : Int) : Bool := decide (32 < c) && (decide (c < 127) && (!(c == 34) && !(c == 92)))
/-- what a pair stands for -/
def meanV (c : Int) : Int := if c = 34 ∨ c = 92 then c else if c = 110 then 10 else if c = 114 then 13 else 0
def meanB (c : Int) : Bool := c == 34 || c == 92 || c == 110 || c == 114

theorem simpB_true {c : Int} : simpB c = true ↔ 32 < c ∧ c < 127 ∧ c ≠ 34 ∧ c ≠ 92 := by
  unfold simpB; simp
end Go.Proofs.YtocnbeendjabpaaDoor
