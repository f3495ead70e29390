/- The walk of FallbackPays. -/
import Derived.Test.YtgejicpobifebaaFbSane
namespace Go.Proofs.Ytgejicpobifebaa
open Go.RowKit

def PaysRel (n b : Int) (w2 : World) (v8 v9 v10 : Value) (wr : World) : Prop :=
  ∃ (k : Nat) (one : Bool) (L W c e l s : Int), v8 = .int .i64 c ∧ v9 = .int .i64 W ∧ v10 = .int .i64 k ∧ (k : Int) ≤ b % 2000 ∧ n ≤ W ∧ W ≤ 64 * n ∧ 0 ≤ c ∧ c < n ∧ (one = true → c = 0 ∧ 1 ≤ L) ∧ 0 ≤ L ∧ L ≤ 64 * n ∧ 0 ≤ s ∧ s ≤ s * n ∧ s * n + c ≤ k ∧
    c ≤ e ∧ e ≤ c ∧ 2 * c ≤ l ∧ l ≤ 2 * c ∧ Ext (w2.alloc (.cells (Mode.cs ⟨n, one, L, W, c, e, l, s⟩) 27)) wr

set_option maxHeartbeats 1000000 in
theorem pays_walk (a b : Int) (ha : 0 ≤ a) (_ha2 : a ≤ 65535) (hb : 0 ≤ b) (hb2 : b ≤ 65535) (w : World) :
    Calls Try.prog 4 #[.int .u16 a, .int .u16 b] w fun en w' => en = .returned (.bool true) ∧ Ext w w' := by
  go_enter Try.func4, Try.ntmps4
  go_wp2_with fail
  refine (sane_any _).mono ?_
  rintro en w1 ⟨rfl, hx1⟩
  go_wp2_with fail
  generalize hn : 1 + a % 4 = n
  have hn1 : 1 ≤ n := by omega
  have hn4 : n ≤ 4 := by omega
  clear hn
  refine (new_ok n _ (by omega) (by omega)).mono ?_
  rintro en w2 ⟨rfl, hx2⟩
  go_wp2_with fail
  go_loopw [8, 9, 10] (fun v8 v9 v10 wr => PaysRel n b w2 v8 v9 v10 wr) (fun _ _ i _ => 2000 - (intOf i).toNat)
  case atStart => exact ⟨0, false, 0, n, 0, 0, 0, 0, rfl, rfl, rfl, by omega, by omega, by omega, by omega, by omega, by simp, by omega, by omega, by omega, by omega, by omega, by omega, by omega, by omega, by omega, Ext.refl _⟩
  case round =>
    obtain ⟨k, one, L, W, c, e, l, s, rfl, rfl, rfl, hk, hW1, hW2, hc1, hc2, hone, hL1, hL2, hs1, hs2, hs3, he1, he2, hl1, hl2, gr, rfl⟩ := hrel
    by_cases hlt : (k : Int) < b % 2000
    · cases one with
      | true =>
        obtain ⟨hc0, hL3⟩ := hone rfl
        clear hone
        obtain rfl : 0 = c := hc0.symm
        clear hc0
        go_wp2_with fail
        refine (commit_any ⟨n, true, L, W, 0, e, l, s⟩ 1 2 _).mono ?_
        rintro en w3 ⟨m', hm', rfl, g3, rfl⟩
        by_cases hL : 2 ≤ L
        · obtain rfl : m' = ⟨n, true, L - 1, W, 0, e, l, s⟩ := hm'.out.trans ((cm_one n L W 0 e l s 1 2 (by omega) (by omega)).trans (by rw [decide_eq_true hL]))
          clear hm'
          go_wp2_with fail
          refine (many_any ⟨n, true, L, W, 0, e, l, s⟩ _).mono ?_
          rintro en w3 ⟨rfl, g4, rfl⟩
          go_wp2_with fail
          go_roundw
          case rel => exact ⟨k + 1, true, L - 1, W, 0, e, l, s, rfl, rfl, by go_num, by omega, hW1, hW2, by omega, by omega, fun _ => ⟨rfl, by omega⟩, by omega, by omega, hs1, hs2, by omega, by omega, by omega, by omega, by omega, (by repeat (first | exact Ext.refl _ | refine Ext.plus ?_ _ | refine Ext.alloc ?_ _))⟩
          case measure => simp [intOf]; omega
        · obtain rfl : L = 1 := by omega
          obtain rfl : m' = ⟨n, false, 0, W, 0, e, l, s⟩ := hm'.out.trans (cm_one n 1 W 0 e l s 1 2 (by omega) (by omega))
          clear hm'
          go_wp2_with fail
          refine (many_any ⟨n, true, 1, W, 0, e, l, s⟩ _).mono ?_
          rintro en w3 ⟨rfl, g4, rfl⟩
          go_wp2_with fail
          go_roundw
          case rel => exact ⟨k + 1, false, 0, W, 0, e, l, s, rfl, rfl, by go_num, by omega, hW1, hW2, by omega, by omega, by simp, by omega, by omega, hs1, hs2, by omega, by omega, by omega, by omega, by omega, (by repeat (first | exact Ext.refl _ | refine Ext.plus ?_ _ | refine Ext.alloc ?_ _))⟩
          case measure => simp [intOf]; omega
      | false =>
        clear hone
        have hsn : (s + 1) * n = s * n + n := by rw [Int.add_mul, Int.one_mul]
        by_cases hc : c + 1 < n
        · clear hsn
          go_wp2_with fail
          refine (commit_any ⟨n, false, L, W, c, e, l, s⟩ 1 2 _).mono ?_
          rintro en w3 ⟨m', hm', rfl, g3, rfl⟩
          obtain rfl : m' = ⟨n, false, L, W, c + 1, e + 1, l + 2, s⟩ := hm'.out.trans (cm_in n L W c e l s 1 2 hc (by omega) (by omega) (by omega) (by omega) (by omega) (by omega))
          clear hm'
          go_wp2_with fail
          refine (many_any ⟨n, false, L, W, c, e, l, s⟩ _).mono ?_
          rintro en w3 ⟨rfl, g4, rfl⟩
          go_wp2_with fail
          refine (many_any ⟨n, false, L, W, c + 1, e + 1, l + 2, s⟩ _).mono ?_
          rintro en w3 ⟨rfl, g5, rfl⟩
          go_wp2_with fail
          go_roundw
          case rel => exact ⟨k + 1, false, L, W, c + 1, e + 1, l + 2, s, rfl, rfl, by go_num, by omega, hW1, hW2, by omega, by omega, by simp, by omega, by omega, hs1, hs2, by omega, by omega, by omega, by omega, by omega, (by repeat (first | exact Ext.refl _ | refine Ext.plus ?_ _ | refine Ext.alloc ?_ _))⟩
          case measure => simp [intOf]; omega
        · have hs3' : (s + 1) * n ≤ k + 1 := by omega
          have hs4' : s + 1 ≤ (s + 1) * n := by omega
          clear hsn
          by_cases hmin : 2 * W ≤ 64 * n
          · go_wp2_with fail
            refine (commit_any ⟨n, false, L, W, c, e, l, s⟩ 1 2 _).mono ?_
            rintro en w3 ⟨m', hm', rfl, g3, rfl⟩
            obtain rfl : m' = ⟨n, true, W, 2 * W, 0, 0, 0, s + 1⟩ := hm'.out.trans ((cm_lose n L W c e l s 1 2 (by omega) (by omega) (by omega) (by omega) (by omega) (by omega) (by omega) (by omega) (by omega) (by omega) (by omega) (by omega)).trans (by rw [Int.min_eq_left hmin]))
            clear hm'
            go_wp2_with fail
            refine (many_any ⟨n, false, L, W, c, e, l, s⟩ _).mono ?_
            rintro en w3 ⟨rfl, g4, rfl⟩
            go_wp2_with fail
            refine (many_any ⟨n, true, W, 2 * W, 0, 0, 0, s + 1⟩ _).mono ?_
            rintro en w3 ⟨rfl, g5, rfl⟩
            go_wp2_with fail
            go_roundw
            case rel => exact ⟨k + 1, true, W, 2 * W, 0, 0, 0, s + 1, rfl, rfl, by go_num, by omega, by omega, by omega, by omega, by omega, fun _ => ⟨rfl, by omega⟩, by omega, by omega, by omega, hs4', by omega, by omega, by omega, by omega, by omega, (by repeat (first | exact Ext.refl _ | refine Ext.plus ?_ _ | refine Ext.alloc ?_ _))⟩
            case measure => simp [intOf]; omega
          · go_wp2_with fail
            refine (commit_any ⟨n, false, L, W, c, e, l, s⟩ 1 2 _).mono ?_
            rintro en w3 ⟨m', hm', rfl, g3, rfl⟩
            obtain rfl : m' = ⟨n, true, W, 64 * n, 0, 0, 0, s + 1⟩ := hm'.out.trans ((cm_lose n L W c e l s 1 2 (by omega) (by omega) (by omega) (by omega) (by omega) (by omega) (by omega) (by omega) (by omega) (by omega) (by omega) (by omega)).trans (by rw [Int.min_eq_right (by omega)]))
            clear hm'
            go_wp2_with fail
            refine (many_any ⟨n, false, L, W, c, e, l, s⟩ _).mono ?_
            rintro en w3 ⟨rfl, g4, rfl⟩
            go_wp2_with fail
            refine (many_any ⟨n, true, W, 64 * n, 0, 0, 0, s + 1⟩ _).mono ?_
            rintro en w3 ⟨rfl, g5, rfl⟩
            go_wp2_with fail
            go_roundw
            case rel => exact ⟨k + 1, true, W, 64 * n, 0, 0, 0, s + 1, rfl, rfl, by go_num, by omega, by omega, by omega, by omega, by omega, fun _ => ⟨rfl, by omega⟩, by omega, by omega, by omega, hs4', by omega, by omega, by omega, by omega, by omega, (by repeat (first | exact Ext.refl _ | refine Ext.plus ?_ _ | refine Ext.alloc ?_ _))⟩
            case measure => simp [intOf]; omega
    · go_wp2_with fail
      go_ret
      exact ⟨rfl, ((hx1.trans hx2).alloc _).plus _⟩

end Go.Proofs.Ytgejicpobifebaa
