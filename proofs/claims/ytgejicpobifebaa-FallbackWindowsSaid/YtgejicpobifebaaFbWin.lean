/- The walk of FallbackWindows. -/
import Derived.Test.YtgejicpobifebaaFbSane
import Derived.Test.YtgejicpobifebaaPairs
namespace Go.Proofs.Ytgejicpobifebaa
open Go.RowKit

def WinRel (n : Int) (len : Nat) (w2 : World) (v27 : Value) (wr : World) : Prop :=
  ∃ (k : Nat) (one : Bool) (L W c e l s : Int), v27 = .int .i64 k ∧ k ≤ len ∧ n ≤ W ∧ W ≤ 64 * n ∧ 0 ≤ c ∧ c < n ∧ 0 ≤ L ∧ L ≤ 64 * n ∧ (one = true → 1 ≤ L ∧ c = 0) ∧ 0 ≤ e ∧ e ≤ 255 * k ∧ 0 ≤ l ∧ l ≤ 255 * k ∧ 0 ≤ s ∧ s ≤ k ∧
    Ext (w2.alloc (.cells (Mode.cs ⟨n, one, L, W, c, e, l, s⟩) 27)) wr

set_option maxRecDepth 100000 in
set_option maxHeartbeats 16000000 in
theorem win_walk (a : Int) (A : Option Addr) (len cap : Nat) (X Y : Nat → Int) (ha : 0 ≤ a) (_ha2 : a ≤ 255) (hlen : len ≤ 9223372036854775807) (w : World) (hp : PairsAt .u8 w A len X Y) :
    Calls Try.prog 6 #[.int .u8 a, .slice A len cap] w fun en w' => en = .returned (.bool true) ∧ Ext w w' := by
  by_cases hl : len ≤ 100
  · go_enter Try.func6, Try.ntmps6
    go_wp2_with fail
    refine (sane_any _).mono ?_
    rintro en w1 ⟨rfl, hx1⟩
    go_wp2_with fail
    generalize hn : 1 + a % 6 = n
    have hn1 : 1 ≤ n := by omega
    have hn6 : n ≤ 6 := by omega
    clear hn
    refine (new_ok n _ (by omega) (by omega)).mono ?_
    rintro en w2 ⟨rfl, hx2⟩
    go_wp2_with fail
    have hx := hx1.trans hx2
    clear hx1 hx2
    have HP := Lib.hid hp
    clear hp
    go_loopw [27] (fun v27 wr => WinRel n len w2 v27 wr) (fun i _ => len - (intOf i).toNat)
    case atStart => exact ⟨0, false, 0, n, 0, 0, 0, 0, rfl, by omega, by omega, by omega, by omega, by omega, by omega, by omega, by simp, by omega, by omega, by omega, by omega, by omega, by omega, Ext.refl _⟩
    case round =>
      obtain ⟨k, one, L, W, c, e, l, s, rfl, hk, hW1, hW2, hc1, hc2, hL1, hL2, hone, he1, he2, hl1, hl2, hs1, hs2, gr, rfl⟩ := hrel
      by_cases hlt : k < len
      · obtain ⟨b, off, rfl, hbw, hcell⟩ := HP.out (by omega)
        obtain ⟨hX, hY, wX, wY⟩ := hcell k hlt
        have bX := bounds_u8 wX
        have bY := bounds_u8 wY
        clear hcell wX wY
        obtain ⟨bX1, bX2⟩ := bX
        obtain ⟨bY1, bY2⟩ := bY
        have hX2 : w2.cell? ⟨b, off + k * 2, none⟩ = some (.int .u8 (X k)) := (hx.below.cell hbw).trans hX
        have hY2 : w2.cell? ⟨b, off + k * 2 + 1, none⟩ = some (.int .u8 (Y k)) := (hx.below.cell hbw).trans hY
        have hb2 : b < w2.heap.size := Nat.lt_of_lt_of_le hbw hx.size
        have hb3 : b < w2.heap.size + 1 := Nat.lt_succ_of_lt hb2
        clear hX hY hbw
        cases one with
        | true =>
          obtain ⟨hL3, hc0⟩ := hone rfl
          clear hone
          obtain rfl : 0 = c := hc0.symm
          clear hc0
          by_cases hL : 2 ≤ L
          · go_wp2_with fail
            refine (commit_any ⟨n, true, L, W, 0, e, l, s⟩ (X k) (Y k) _).mono ?_
            rintro en w3 ⟨m', hm', rfl, g3, rfl⟩
            obtain rfl : m' = ⟨n, true, L - 1, W, 0, e, l, s⟩ := hm'.out.trans ((cm_one n L W 0 e l s (X k) (Y k) (by omega) (by omega)).trans (by rw [decide_eq_true hL]))
            clear hm'
            go_wp2_with fail
            all_goals go_roundw
            case rel => exact ⟨k + 1, true, L - 1, W, 0, e, l, s, by go_num, by omega, by omega, by omega, by omega, by omega, by omega, by omega, fun _ => ⟨by omega, rfl⟩, by omega, by omega, by omega, by omega, by omega, by omega, (by repeat (first | exact Ext.refl _ | refine Ext.plus ?_ _ | refine Ext.alloc ?_ _))⟩
            case measure => simp [intOf]; omega
          · obtain rfl : L = 1 := by omega
            go_wp2_with fail
            refine (commit_any ⟨n, true, 1, W, 0, e, l, s⟩ (X k) (Y k) _).mono ?_
            rintro en w3 ⟨m', hm', rfl, g3, rfl⟩
            obtain rfl : m' = ⟨n, false, 0, W, 0, e, l, s⟩ := hm'.out.trans (cm_one n 1 W 0 e l s (X k) (Y k) (by omega) (by omega))
            clear hm'
            go_wp2_with fail
            all_goals go_roundw
            case rel => exact ⟨k + 1, false, 0, W, 0, e, l, s, by go_num, by omega, by omega, by omega, by omega, by omega, by omega, by omega, by simp, by omega, by omega, by omega, by omega, by omega, by omega, (by repeat (first | exact Ext.refl _ | refine Ext.plus ?_ _ | refine Ext.alloc ?_ _))⟩
            case measure => simp [intOf]; omega
        | false =>
          clear hone
          by_cases hc : c + 1 < n
          · go_wp2_with fail
            refine (commit_any ⟨n, false, L, W, c, e, l, s⟩ (X k) (Y k) _).mono ?_
            rintro en w3 ⟨m', hm', rfl, g3, rfl⟩
            obtain rfl : m' = ⟨n, false, L, W, c + 1, e + X k, l + Y k, s⟩ := hm'.out.trans (cm_in n L W c e l s (X k) (Y k) hc (by omega) (by omega) (by omega) (by omega) (by omega) (by omega))
            clear hm'
            go_wp2_with fail
            all_goals go_roundw
            case rel => exact ⟨k + 1, false, L, W, c + 1, e + X k, l + Y k, s, by go_num, by omega, by omega, by omega, by omega, by omega, by omega, by omega, by simp, by omega, by omega, by omega, by omega, by omega, by omega, (by repeat (first | exact Ext.refl _ | refine Ext.plus ?_ _ | refine Ext.alloc ?_ _))⟩
            case measure => simp [intOf]; omega
          · by_cases hwl : l + Y k ≤ e + X k
            · obtain ⟨W', hW'1, hW'2, eW⟩ : ∃ W', n ≤ W' ∧ W' ≤ 64 * n ∧ max (W / 2) n = W' := ⟨_, by omega, by omega, rfl⟩
              have EW := Lib.hid eW
              clear eW
              go_wp2_with fail
              refine (commit_any ⟨n, false, L, W, c, e, l, s⟩ (X k) (Y k) _).mono ?_
              rintro en w3 ⟨m', hm', rfl, g3, rfl⟩
              obtain rfl : m' = ⟨n, false, L, W', 0, 0, 0, s⟩ := hm'.out.trans ((cm_win n L W c e l s (X k) (Y k) (by omega) (by omega) (by omega) (by omega) (by omega) (by omega) (by omega) (by omega) (by omega)).trans (by rw [EW.out]))
              clear hm'
              go_wp2_with fail
              all_goals go_roundw
              case rel => exact ⟨k + 1, false, L, W', 0, 0, 0, s, by go_num, by omega, by omega, by omega, by omega, by omega, by omega, by omega, by simp, by omega, by omega, by omega, by omega, by omega, by omega, (by repeat (first | exact Ext.refl _ | refine Ext.plus ?_ _ | refine Ext.alloc ?_ _))⟩
              case measure => simp [intOf]; omega
            · obtain ⟨W', hW'1, hW'2, eW⟩ : ∃ W', n ≤ W' ∧ W' ≤ 64 * n ∧ min (2 * W) (64 * n) = W' := ⟨_, by omega, by omega, rfl⟩
              have EW := Lib.hid eW
              clear eW
              go_wp2_with fail
              refine (commit_any ⟨n, false, L, W, c, e, l, s⟩ (X k) (Y k) _).mono ?_
              rintro en w3 ⟨m', hm', rfl, g3, rfl⟩
              obtain rfl : m' = ⟨n, true, W, W', 0, 0, 0, s + 1⟩ := hm'.out.trans ((cm_lose n L W c e l s (X k) (Y k) (by omega) (by omega) (by omega) (by omega) (by omega) (by omega) (by omega) (by omega) (by omega) (by omega) (by omega) (by omega)).trans (by rw [EW.out]))
              clear hm'
              go_wp2_with fail
              all_goals go_roundw
              case rel => exact ⟨k + 1, true, W, W', 0, 0, 0, s + 1, by go_num, by omega, by omega, by omega, by omega, by omega, by omega, by omega, fun _ => ⟨by omega, rfl⟩, by omega, by omega, by omega, by omega, by omega, by omega, (by repeat (first | exact Ext.refl _ | refine Ext.plus ?_ _ | refine Ext.alloc ?_ _))⟩
              case measure => simp [intOf]; omega
      · go_wp2_with fail
        go_ret
        exact ⟨rfl, (hx.alloc _).plus _⟩
  · have hl' : 100 < len := by omega
    go_enter Try.func6, Try.ntmps6
    go_wp2_with fail
    refine (sane_any _).mono ?_
    rintro en w1 ⟨rfl, hx1⟩
    go_wp2_with fail
    go_ret
    exact ⟨rfl, hx1⟩

end Go.Proofs.Ytgejicpobifebaa
