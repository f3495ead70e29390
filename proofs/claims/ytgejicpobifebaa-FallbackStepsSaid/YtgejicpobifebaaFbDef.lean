/- What the package fallback computes, in plain terms. -/
import Derived.Test.YtgejicpobifebaaKit
namespace Go.Proofs.Ytgejicpobifebaa
open Go.RowKit

structure Mode where
  win : Int
  one : Bool
  left : Int
  wait : Int
  com : Int
  kept : Int
  lost : Int
  sw : Int

abbrev Mode.cs (m : Mode) : Array Value := #[.int .i64 m.win, .bool m.one, .int .i64 m.left, .int .i64 m.wait, .int .i64 m.com, .int .i64 m.kept, .int .i64 m.lost, .int .i64 m.sw]

def pauseM (m : Mode) : Mode :=
  { m with one := true, left := m.wait, wait := min (wrap64 (2 * m.wait)) (wrap64 (64 * m.win)), sw := wrap64 (m.sw + 1) }

def commitM (m : Mode) (k l : Int) : Mode :=
  if m.one = true then { m with left := wrap64 (m.left - 1), one := decide (1 ≤ wrap64 (m.left - 1)) }
  else if wrap64 (m.com + 1) < m.win then { m with com := wrap64 (m.com + 1), kept := wrap64 (m.kept + k), lost := wrap64 (m.lost + l) }
  else if wrap64 (m.kept + k) < wrap64 (m.lost + l) then { pauseM m with com := 0, kept := 0, lost := 0 }
  else { m with wait := max (wrap64 (m.wait.tdiv 2)) m.win, com := 0, kept := 0, lost := 0 }

def newM (n : Int) : Mode := ⟨n, false, 0, n, 0, 0, 0, 0⟩


theorem w64 {n : Int} (h1 : -1125899906842624 ≤ n) (h2 : n ≤ 1125899906842624) : wrap64 n = n := IntWalk.wrap64_in n ⟨by omega, by omega⟩

theorem cm_one (n L W c k l s a b : Int) (h1 : 0 ≤ L) (h2 : L ≤ 1000000) : commitM ⟨n, true, L, W, c, k, l, s⟩ a b = ⟨n, decide (2 ≤ L), L - 1, W, c, k, l, s⟩ := by
  simp only [commitM, if_true]
  rw [w64 (by omega) (by omega)]
  congr 1
  rw [decide_eq_decide]; omega

theorem cm_in (n L W c k l s a b : Int) (h : c + 1 < n) (h0 : 0 ≤ c) (hn : n ≤ 1000000) (h1 : 0 ≤ k + a) (h2 : k + a ≤ 1125899906842624) (h3 : 0 ≤ l + b) (h4 : l + b ≤ 1125899906842624) :
    commitM ⟨n, false, L, W, c, k, l, s⟩ a b = ⟨n, false, L, W, c + 1, k + a, l + b, s⟩ := by
  simp only [commitM, Bool.false_eq_true, if_false]
  rw [w64 (n := c + 1) (by omega) (by omega), w64 (n := k + a) (by omega) (by omega), w64 (n := l + b) (by omega) (by omega), if_pos h]

theorem cm_win (n L W c k l s a b : Int) (h : n ≤ c + 1) (h0 : 0 ≤ c) (hn : c ≤ 1000000) (h1 : 0 ≤ k + a) (h2 : k + a ≤ 1125899906842624) (h3 : 0 ≤ l + b) (h4 : l + b ≤ k + a) (hW : 0 ≤ W) (hW2 : W ≤ 1000000) :
    commitM ⟨n, false, L, W, c, k, l, s⟩ a b = ⟨n, false, L, max (W / 2) n, 0, 0, 0, s⟩ := by
  simp only [commitM, Bool.false_eq_true, if_false]
  rw [w64 (n := c + 1) (by omega) (by omega), w64 (n := k + a) (by omega) (by omega), w64 (n := l + b) (by omega) (by omega), if_neg (by omega), if_neg (by omega),
    Int.tdiv_eq_ediv_of_nonneg hW, w64 (n := W / 2) (by omega) (by omega)]

theorem cm_lose (n L W c k l s a b : Int) (h : n ≤ c + 1) (h0 : 0 ≤ c) (hn : c ≤ 1000000) (h1 : 0 ≤ k + a) (h2 : k + a < l + b) (h4 : l + b ≤ 1125899906842624) (hW : 0 ≤ W) (hW2 : W ≤ 1000000) (hn1 : 0 ≤ n) (hn2 : n ≤ 100000)
    (hs : 0 ≤ s) (hs2 : s ≤ 1000000) :
    commitM ⟨n, false, L, W, c, k, l, s⟩ a b = ⟨n, true, W, min (2 * W) (64 * n), 0, 0, 0, s + 1⟩ := by
  simp only [commitM, pauseM, Bool.false_eq_true, if_false]
  rw [w64 (n := c + 1) (by omega) (by omega), w64 (n := k + a) (by omega) (by omega), w64 (n := l + b) (by omega) (by omega), if_neg (by omega), if_pos (by omega),
    w64 (n := 2 * W) (by omega) (by omega), w64 (n := 64 * n) (by omega) (by omega), w64 (n := s + 1) (by omega) (by omega)]

end Go.Proofs.Ytgejicpobifebaa
