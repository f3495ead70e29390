/- Contracts of the package fallback and of its reference. -/
import Derived.Test.YtgejicpobifebaaFbDef
namespace Go.Proofs.Ytgejicpobifebaa
open Go.RowKit

set_option maxHeartbeats 400000 in
theorem many_any (m : Mode) (w : World) :
    Calls Try.prog 16 #[.agg m.cs] w fun en w' => en = .returned (.bool (!m.one)) ∧ Ext w w' := by
  go_enter Try.func16, Try.ntmps16
  go_wp2
  go_ret
  exact ⟨rfl, (Ext.refl _).alloc _⟩

set_option maxHeartbeats 400000 in
theorem rmany_any (m : Mode) (w : World) :
    Calls Try.prog 17 #[.agg m.cs] w fun en w' => en = .returned (.bool (!m.one)) ∧ Ext w w' := by
  go_enter Try.func17, Try.ntmps17
  go_wp2
  go_ret
  exact ⟨rfl, (Ext.refl _).alloc _⟩

set_option maxHeartbeats 400000 in
theorem pause_any (m : Mode) (w : World) :
    Calls Try.prog 32 #[.agg m.cs] w fun en w' => ∃ m', Hid (m' = pauseM m) ∧ en = .returned (.agg m'.cs) ∧ Ext w w' := by
  go_enter Try.func32, Try.ntmps32
  go_wp2
  all_goals
    refine bodyPost_ret (v := .agg (pauseM m).cs) ?_ rfl ⟨_, Lib.hid rfl, rfl, ((Ext.refl _).alloc _).alloc _⟩
    simp [results, Try.results32, go_sem, pauseM]
    omega

/-- a Commit, by whichever of the two texts -/
def CommitPost (m : Mode) (k l : Int) (w : World) (en : Ending) (w' : World) : Prop := ∃ m', Hid (m' = commitM m k l) ∧ en = .returned (.agg m'.cs) ∧ Ext w w'

theorem grown2 (w : World) (o1 o2 : Obj) : Ext w ((w.alloc o1).alloc o2) := ((Ext.refl _).alloc _).alloc _
theorem grown2p (w : World) (o1 o2 : Obj) (g : Growth) : Ext w (((w.alloc o1).alloc o2).plus g) := (grown2 w o1 o2).plus _

set_option maxHeartbeats 400000 in
theorem commit_one (m : Mode) (k l : Int) (w : World) (hm : m.one = true) :
    Calls Try.prog 14 #[.agg m.cs, .int .i64 k, .int .i64 l] w (CommitPost m k l w) := by
  obtain ⟨a, b, c, d, e, f, g, s⟩ := m
  obtain rfl : b = true := hm
  go_enter Try.func14, Try.ntmps14
  go_wp2
  go_returns
  exact ⟨⟨a, decide (1 ≤ wrap64 (c - 1)), wrap64 (c - 1), d, e, f, g, s⟩, Lib.hid (by simp [commitM]), rfl, grown2 _ _ _⟩

set_option maxHeartbeats 400000 in
theorem commit_in (m : Mode) (k l : Int) (w : World) (hm : m.one = false) (h1 : wrap64 (m.com + 1) < m.win) :
    Calls Try.prog 14 #[.agg m.cs, .int .i64 k, .int .i64 l] w (CommitPost m k l w) := by
  obtain ⟨a, b, c, d, e, f, g, s⟩ := m
  obtain rfl : b = false := hm
  simp only at h1
  go_enter Try.func14, Try.ntmps14
  go_wp2
  go_returns
  exact ⟨⟨a, false, c, d, wrap64 (e + 1), wrap64 (f + k), wrap64 (g + l), s⟩, Lib.hid (by simp [commitM, h1]), rfl, grown2 _ _ _⟩

set_option maxHeartbeats 400000 in
theorem commit_win (m : Mode) (k l : Int) (w : World) (hm : m.one = false) (h1 : m.win ≤ wrap64 (m.com + 1)) (h2 : wrap64 (m.lost + l) ≤ wrap64 (m.kept + k)) :
    Calls Try.prog 14 #[.agg m.cs, .int .i64 k, .int .i64 l] w (CommitPost m k l w) := by
  obtain ⟨a, b, c, d, e, f, g, s⟩ := m
  obtain rfl : b = false := hm
  simp only at h1 h2
  go_enter Try.func14, Try.ntmps14
  go_wp2
  all_goals go_returns
  all_goals exact ⟨⟨a, false, c, max (wrap64 (d.tdiv 2)) a, 0, 0, 0, s⟩, Lib.hid (by simp [commitM, Int.not_lt.2 h1, Int.not_lt.2 h2]), by (congr; dsimp only; omega), grown2 _ _ _⟩

set_option maxHeartbeats 400000 in
theorem rcommit_one (m : Mode) (k l : Int) (w : World) (hm : m.one = true) :
    Calls Try.prog 15 #[.agg m.cs, .int .i64 k, .int .i64 l] w (CommitPost m k l w) := by
  obtain ⟨a, b, c, d, e, f, g, s⟩ := m
  obtain rfl : b = true := hm
  go_enter Try.func15, Try.ntmps15
  go_wp2
  go_returns
  exact ⟨⟨a, decide (1 ≤ wrap64 (c - 1)), wrap64 (c - 1), d, e, f, g, s⟩, Lib.hid (by simp [commitM]), rfl, grown2 _ _ _⟩

set_option maxHeartbeats 400000 in
theorem rcommit_in (m : Mode) (k l : Int) (w : World) (hm : m.one = false) (h1 : wrap64 (m.com + 1) < m.win) :
    Calls Try.prog 15 #[.agg m.cs, .int .i64 k, .int .i64 l] w (CommitPost m k l w) := by
  obtain ⟨a, b, c, d, e, f, g, s⟩ := m
  obtain rfl : b = false := hm
  simp only at h1
  go_enter Try.func15, Try.ntmps15
  go_wp2
  go_returns
  exact ⟨⟨a, false, c, d, wrap64 (e + 1), wrap64 (f + k), wrap64 (g + l), s⟩, Lib.hid (by simp [commitM, h1]), rfl, grown2 _ _ _⟩

set_option maxHeartbeats 400000 in
theorem rcommit_win (m : Mode) (k l : Int) (w : World) (hm : m.one = false) (h1 : m.win ≤ wrap64 (m.com + 1)) (h2 : wrap64 (m.lost + l) ≤ wrap64 (m.kept + k)) :
    Calls Try.prog 15 #[.agg m.cs, .int .i64 k, .int .i64 l] w (CommitPost m k l w) := by
  obtain ⟨a, b, c, d, e, f, g, s⟩ := m
  obtain rfl : b = false := hm
  simp only at h1 h2
  go_enter Try.func15, Try.ntmps15
  go_wp2
  all_goals go_returns
  all_goals exact ⟨⟨a, false, c, max (wrap64 (d.tdiv 2)) a, 0, 0, 0, s⟩, Lib.hid (by simp [commitM, Int.not_lt.2 h1, Int.not_lt.2 h2]), by (congr; dsimp only; omega), grown2 _ _ _⟩

set_option maxHeartbeats 400000 in
theorem commit_lose (m : Mode) (k l : Int) (w : World) (hm : m.one = false) (h1 : m.win ≤ wrap64 (m.com + 1)) (h2 : wrap64 (m.kept + k) < wrap64 (m.lost + l)) :
    Calls Try.prog 14 #[.agg m.cs, .int .i64 k, .int .i64 l] w (CommitPost m k l w) := by
  obtain ⟨a, b, c, d, e, f, g, s⟩ := m
  obtain rfl : b = false := hm
  simp only at h1 h2
  go_enter Try.func14, Try.ntmps14
  go_wp2_with fail
  refine (pause_any ⟨a, false, c, d, wrap64 (e + 1), wrap64 (f + k), wrap64 (g + l), s⟩ _).mono ?_
  rintro en w1 ⟨m', hm', rfl, g, rfl⟩
  go_wp2
  go_returns
  exact ⟨⟨m'.win, m'.one, m'.left, m'.wait, 0, 0, 0, m'.sw⟩, Lib.hid (by rw [hm'.out]; simp [commitM, pauseM, Int.not_lt.2 h1, h2]), rfl, grown2p _ _ _ _⟩

set_option maxHeartbeats 400000 in
theorem rcommit_lose (m : Mode) (k l : Int) (w : World) (hm : m.one = false) (h1 : m.win ≤ wrap64 (m.com + 1)) (h2 : wrap64 (m.kept + k) < wrap64 (m.lost + l)) :
    Calls Try.prog 15 #[.agg m.cs, .int .i64 k, .int .i64 l] w (CommitPost m k l w) := by
  obtain ⟨a, b, c, d, e, f, g, s⟩ := m
  obtain rfl : b = false := hm
  simp only at h1 h2
  go_enter Try.func15, Try.ntmps15
  go_wp2
  all_goals go_returns
  all_goals exact ⟨⟨a, true, d, min (wrap64 (2 * d)) (wrap64 (64 * a)), 0, 0, 0, wrap64 (s + 1)⟩, Lib.hid (by simp [commitM, pauseM, Int.not_lt.2 h1, h2]), by (congr; dsimp only; omega), grown2 _ _ _⟩

theorem commit_any (m : Mode) (k l : Int) (w : World) : Calls Try.prog 14 #[.agg m.cs, .int .i64 k, .int .i64 l] w (CommitPost m k l w) := by
  cases hm : m.one with
  | true => exact commit_one m k l w hm
  | false =>
    by_cases h1 : wrap64 (m.com + 1) < m.win
    · exact commit_in m k l w hm h1
    · by_cases h2 : wrap64 (m.kept + k) < wrap64 (m.lost + l)
      · exact commit_lose m k l w hm (by omega) h2
      · exact commit_win m k l w hm (by omega) (by omega)

theorem rcommit_any (m : Mode) (k l : Int) (w : World) : Calls Try.prog 15 #[.agg m.cs, .int .i64 k, .int .i64 l] w (CommitPost m k l w) := by
  cases hm : m.one with
  | true => exact rcommit_one m k l w hm
  | false =>
    by_cases h1 : wrap64 (m.com + 1) < m.win
    · exact rcommit_in m k l w hm h1
    · by_cases h2 : wrap64 (m.kept + k) < wrap64 (m.lost + l)
      · exact rcommit_lose m k l w hm (by omega) h2
      · exact rcommit_win m k l w hm (by omega) (by omega)

set_option maxHeartbeats 400000 in
theorem new_ok (n : Int) (w : World) (h1 : 1 ≤ n) (h2 : n ≤ 1024) :
    Calls Try.prog 12 #[.int .i64 n] w fun en w' => en = .returned (.tuple #[.agg (newM n).cs, .int .i64 0]) ∧ Ext w w' := by
  go_enter Try.func12, Try.ntmps12
  go_wp2
  go_returns
  exact ⟨rfl, (Ext.refl _).alloc _⟩

set_option maxHeartbeats 400000 in
theorem new_no (n : Int) (w : World) (h : n < 1 ∨ 1024 < n) :
    Calls Try.prog 12 #[.int .i64 n] w fun en w' => en = .returned (.tuple #[.agg (newM 0).cs, .int .i64 2]) ∧ Ext w w' := by
  rcases h with h | h
  · go_enter Try.func12, Try.ntmps12
    go_wp2
    go_returns
    exact ⟨rfl, (Ext.refl _).alloc _⟩
  · have h' : ¬ n < 1 := by omega
    go_enter Try.func12, Try.ntmps12
    go_wp2
    go_returns
    exact ⟨rfl, (Ext.refl _).alloc _⟩

set_option maxHeartbeats 400000 in
theorem rnew_ok (n : Int) (w : World) (h1 : 1 ≤ n) (h2 : n ≤ 1024) :
    Calls Try.prog 13 #[.int .i64 n] w fun en w' => en = .returned (.tuple #[.agg (newM n).cs, .int .i64 0]) ∧ Ext w w' := by
  go_enter Try.func13, Try.ntmps13
  go_wp2
  go_returns
  exact ⟨rfl, (Ext.refl _).alloc _⟩

set_option maxHeartbeats 400000 in
theorem rnew_no (n : Int) (w : World) (h : n < 1 ∨ 1024 < n) :
    Calls Try.prog 13 #[.int .i64 n] w fun en w' => en = .returned (.tuple #[.agg (newM 0).cs, .int .i64 2]) ∧ Ext w w' := by
  rcases h with h | h
  · go_enter Try.func13, Try.ntmps13
    go_wp2
    go_returns
    exact ⟨rfl, (Ext.refl _).alloc _⟩
  · have h' : ¬ n < 1 := by omega
    go_enter Try.func13, Try.ntmps13
    go_wp2
    go_returns
    exact ⟨rfl, (Ext.refl _).alloc _⟩

end Go.Proofs.Ytgejicpobifebaa
