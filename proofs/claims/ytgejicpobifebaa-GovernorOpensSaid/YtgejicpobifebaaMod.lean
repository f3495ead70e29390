/- speculatemill.Mod. -/
import Derived.Test.YtgejicpobifebaaKit
namespace Go.Proofs.Ytgejicpobifebaa
open Go.RowKit

def goMod (v n : Int) : Int := if v.tmod n < 0 then v.tmod n + n else v.tmod n
theorem goMod_bd (v n : Int) (h : 1 ≤ n) : 0 ≤ goMod v n ∧ goMod v n < n := by
  have h1 := Int.tmod_lt_of_pos v (b := n) (by omega)
  have h2 : -n < v.tmod n := by
    have := Int.tmod_lt_of_pos (-v) (b := n) (by omega)
    rw [Int.neg_tmod] at this; omega
  unfold goMod
  split <;> omega

set_option maxHeartbeats 400000 in
theorem mod_any (v n : Int) (w : World) (h1 : 1 ≤ n) (h2 : n ≤ 1000000) :
    Calls Try.prog 11 #[.int .i64 v, .int .i64 n] w fun en w' => en = .returned (.int .i64 (goMod v n)) ∧ w = w' := by
  have hn : (n == 0) = false := by rw [beq_eq_false_iff_ne]; omega
  have b1 := Int.tmod_lt_of_pos v (b := n) (by omega)
  have b2 : -n < v.tmod n := by
    have := Int.tmod_lt_of_pos (-v) (b := n) (by omega)
    rw [Int.neg_tmod] at this; omega
  by_cases hr : v.tmod n < 0
  · go_enter Try.func11, Try.ntmps11
    go_wp2
    go_ret
    exact ⟨by simp [goMod, hr], rfl⟩
  · go_enter Try.func11, Try.ntmps11
    go_wp2
    go_ret
    exact ⟨by simp [goMod, Int.not_lt.2 hr], rfl⟩

end Go.Proofs.Ytgejicpobifebaa
