/- The walk of FallbackCalm. -/
import Derived.Test.YtgejicpobifebaaFbSane
namespace Go.Proofs.Ytgejicpobifebaa
open Go.RowKit

def CalmRel1 (n : Int) (w2 : World) (v11 : Value) (wr : World) : Prop :=
  ∃ (k : Nat) (c e : Int), v11 = .int .i64 k ∧ k ≤ 50 ∧ 0 ≤ c ∧ c < n ∧ 0 ≤ e ∧ e ≤ k * 50 ∧
    Ext ((w2.alloc (.cells (newM n).cs 27)).alloc (.cells (Mode.cs ⟨n, false, 0, n, c, e, e, 0⟩) 27)) wr

def CalmRel2 (n b : Int) (w2 : World) (v12 : Value) (wr : World) : Prop :=
  ∃ (mc : Mode) (k : Nat) (one : Bool) (L W c e l s : Int), v12 = .int .i64 k ∧ k ≤ b ∧ n ≤ W ∧ W ≤ 64 * n ∧ 0 ≤ c ∧ c < n ∧ 0 ≤ L ∧ L ≤ 64 * n ∧ (one = true → 1 ≤ L ∧ c ≤ 0) ∧ e ≤ 0 ∧ 0 ≤ e ∧ l ≤ c ∧ c ≤ l ∧ 0 ≤ s ∧ s ≤ k ∧
    Ext ((w2.alloc (.cells (Mode.cs ⟨n, one, L, W, c, e, l, s⟩) 27)).alloc (.cells mc.cs 27)) wr

def CalmRel3 (n : Int) (w2 : World) (v13 : Value) (wr : World) : Prop :=
  ∃ (mc : Mode) (k : Nat) (one : Bool) (L W c e l s : Int), v13 = .int .i64 k ∧ k ≤ 64 * n ∧ n ≤ W ∧ W ≤ 64 * n ∧ 0 ≤ c ∧ c < n ∧ 0 ≤ L ∧ L ≤ 64 * n ∧ (one = true → 1 ≤ L ∧ c ≤ 0 ∧ k + L ≤ 64 * n) ∧ e ≤ 0 ∧ 0 ≤ e ∧ l ≤ c ∧ c ≤ l ∧ 0 ≤ s ∧ s ≤ 255 ∧
    Ext ((w2.alloc (.cells (Mode.cs ⟨n, one, L, W, c, e, l, s⟩) 27)).alloc (.cells mc.cs 27)) wr

def capW : Nat → Int | 0 => 64 | 1 => 32 | 2 => 16 | 3 => 8 | 4 => 4 | 5 => 2 | _ => 1
theorem capW_step (j : Nat) (n W : Int) (h1 : 1 ≤ n) (h : W ≤ capW j * n) : max (W / 2) n ≤ capW (j + 1) * n := by
  match j with
  | 0 => simp only [capW] at *; omega
  | 1 => simp only [capW] at *; omega
  | 2 => simp only [capW] at *; omega
  | 3 => simp only [capW] at *; omega
  | 4 => simp only [capW] at *; omega
  | 5 => simp only [capW] at *; omega
  | j + 6 => simp only [capW] at *; omega
theorem capW_end (j : Nat) (n W c c0 k : Int) (h1 : 1 ≤ n) (h : W ≤ capW j * n) (hk : 7 * n ≤ k) (hc : c < n) (h0 : 0 ≤ c0) (e : k + c0 ≤ j * n + c) : W ≤ n := by
  match j with
  | 0 => simp at e; omega
  | 1 => simp at e; omega
  | 2 => simp at e; omega
  | 3 => simp at e; omega
  | 4 => simp at e; omega
  | 5 => simp at e; omega
  | j + 6 => simp only [capW] at h; omega

def CalmRel4 (n G : Int) (w2 : World) (v14 v15 : Value) (wr : World) : Prop :=
  ∃ (mc : Mode) (k j : Nat) (L W c e l s c0 : Int), v14 = .int .i64 W ∧ v15 = .int .i64 k ∧ k ≤ 7 * n + G ∧ n ≤ W ∧ W ≤ 64 * n ∧ 0 ≤ c ∧ c < n ∧ 0 ≤ c0 ∧ W ≤ capW j * n ∧ k + c0 ≤ j * n + c ∧ l ≤ 2 ∧ 0 ≤ l ∧ 0 ≤ e ∧ e ≤ k * 5 ∧ (5 ≤ e ∨ l ≤ c) ∧
    Ext ((w2.alloc (.cells (Mode.cs ⟨n, false, L, W, c, e, l, s⟩) 27)).alloc (.cells mc.cs 27)) wr

set_option maxHeartbeats 16000000 in
theorem calm_walk (a b g : Int) (ha : 0 ≤ a) (_ha2 : a ≤ 255) (hb : 0 ≤ b) (hb2 : b ≤ 255) (hg : 0 ≤ g) (_hg2 : g ≤ 255) (w : World) :
    Calls Try.prog 5 #[.int .u8 a, .int .u8 b, .int .u8 g] w fun en w' => en = .returned (.bool true) ∧ Ext w w' := by
  go_enter Try.func5, Try.ntmps5
  go_wp2_with fail
  refine (sane_any _).mono ?_
  rintro en w1 ⟨rfl, hx1⟩
  go_wp2_with fail
  generalize hn : 1 + a % 3 = n
  have hn1 : 1 ≤ n := by omega
  have hn3 : n ≤ 3 := by omega
  clear hn
  refine (new_ok n _ (by omega) (by omega)).mono ?_
  rintro en w2 ⟨rfl, hx2⟩
  go_wp2_with fail
  have hx := hx1.trans hx2
  clear hx1 hx2
  go_loopw [11] (fun v11 wr => CalmRel1 n w2 v11 wr) (fun i _ => 50 - (intOf i).toNat)
  case atStart => exact ⟨0, 0, 0, rfl, by omega, by omega, by omega, by omega, by omega, Ext.refl _⟩
  case round =>
    obtain ⟨k, c, e, rfl, hk, hc1, hc2, he1, he2, gr, rfl⟩ := hrel
    by_cases hlt : k < 50
    · by_cases hc : c + 1 < n
      · go_wp2_with fail
        refine (commit_any ⟨n, false, 0, n, c, e, e, 0⟩ k k _).mono ?_
        rintro en w3 ⟨m', hm', rfl, g3, rfl⟩
        obtain rfl : m' = ⟨n, false, 0, n, c + 1, e + k, e + k, 0⟩ := hm'.out.trans (cm_in n 0 n c e e 0 k k hc (by omega) (by omega) (by omega) (by omega) (by omega) (by omega))
        clear hm'
        go_wp2_with fail
        refine (many_any ⟨n, false, 0, n, c + 1, e + k, e + k, 0⟩ _).mono ?_
        rintro en w3 ⟨rfl, g4, rfl⟩
        go_wp2_with fail
        go_roundw
        case rel => exact ⟨k + 1, c + 1, e + k, by go_num, by omega, by omega, by omega, by omega, by omega, (by repeat (first | exact Ext.refl _ | refine Ext.plus ?_ _ | refine Ext.alloc ?_ _))⟩
        case measure => simp [intOf]; omega
      · go_wp2_with fail
        refine (commit_any ⟨n, false, 0, n, c, e, e, 0⟩ k k _).mono ?_
        rintro en w3 ⟨m', hm', rfl, g3, rfl⟩
        obtain rfl : m' = ⟨n, false, 0, n, 0, 0, 0, 0⟩ := hm'.out.trans ((cm_win n 0 n c e e 0 k k (by omega) (by omega) (by omega) (by omega) (by omega) (by omega) (by omega) (by omega) (by omega)).trans (by rw [show max (n / 2) n = n from by omega]))
        clear hm'
        go_wp2_with fail
        refine (many_any ⟨n, false, 0, n, 0, 0, 0, 0⟩ _).mono ?_
        rintro en w3 ⟨rfl, g4, rfl⟩
        go_wp2_with fail
        go_roundw
        case rel => exact ⟨k + 1, 0, 0, by go_num, by omega, by omega, by omega, by omega, by omega, (by repeat (first | exact Ext.refl _ | refine Ext.plus ?_ _ | refine Ext.alloc ?_ _))⟩
        case measure => simp [intOf]; omega
    · go_wp2_with fail
      go_loopw [12] (fun v12 wr => CalmRel2 n b w2 v12 wr) (fun i _ => 256 - (intOf i).toNat)
      case atStart => exact ⟨⟨n, false, 0, n, c, e, e, 0⟩, 0, false, 0, n, 0, 0, 0, 0, rfl, by omega, by omega, by omega, by omega, by omega, by omega, by omega, by simp, by omega, by omega, by omega, by omega, by omega, by omega, ⟨_, rfl⟩⟩
      clear hlt hk hc1 hc2 he1 he2
      case round =>
        obtain ⟨mc, k, one, L, W, c, e, l, s, rfl, hk, hW1, hW2, hc1, hc2, hL1, hL2, hone, he1, he2, hl1, hl2, hs1, hs2, gr, rfl⟩ := hrel
        by_cases hlt : (k : Int) < b
        · cases one with
          | true =>
            obtain ⟨hL3, hc3⟩ := hone rfl
            clear hone
            by_cases hL : 2 ≤ L
            · go_wp2_with fail
              refine (commit_any ⟨n, true, L, W, c, e, l, s⟩ 0 1 _).mono ?_
              rintro en w3 ⟨m', hm', rfl, g3, rfl⟩
              obtain rfl : m' = ⟨n, true, L - 1, W, c, e, l, s⟩ := hm'.out.trans ((cm_one n L W c e l s 0 1 (by omega) (by omega)).trans (by rw [decide_eq_true hL]))
              clear hm'
              go_wp2_with fail
              go_roundw
              case rel => exact ⟨mc, k + 1, true, L - 1, W, c, e, l, s, by go_num, by omega, by omega, by omega, by omega, by omega, by omega, by omega, fun _ => ⟨by omega, by omega⟩, by omega, by omega, by omega, by omega, by omega, by omega, (by repeat (first | exact Ext.refl _ | refine Ext.plus ?_ _ | refine Ext.alloc ?_ _))⟩
              case measure => simp [intOf]; omega
            · obtain rfl : L = 1 := by omega
              go_wp2_with fail
              refine (commit_any ⟨n, true, 1, W, c, e, l, s⟩ 0 1 _).mono ?_
              rintro en w3 ⟨m', hm', rfl, g3, rfl⟩
              obtain rfl : m' = ⟨n, false, 0, W, c, e, l, s⟩ := hm'.out.trans (cm_one n 1 W c e l s 0 1 (by omega) (by omega))
              clear hm'
              go_wp2_with fail
              go_roundw
              case rel => exact ⟨mc, k + 1, false, 0, W, c, e, l, s, by go_num, by omega, by omega, by omega, by omega, by omega, by omega, by omega, by simp, by omega, by omega, by omega, by omega, by omega, by omega, (by repeat (first | exact Ext.refl _ | refine Ext.plus ?_ _ | refine Ext.alloc ?_ _))⟩
              case measure => simp [intOf]; omega
          | false =>
            clear hone
            by_cases hc : c + 1 < n
            · go_wp2_with fail
              refine (commit_any ⟨n, false, L, W, c, e, l, s⟩ 0 1 _).mono ?_
              rintro en w3 ⟨m', hm', rfl, g3, rfl⟩
              obtain rfl : m' = ⟨n, false, L, W, c + 1, e, l + 1, s⟩ := hm'.out.trans ((cm_in n L W c e l s 0 1 hc (by omega) (by omega) (by omega) (by omega) (by omega) (by omega)).trans (by rw [Int.add_zero]))
              clear hm'
              go_wp2_with fail
              go_roundw
              case rel => exact ⟨mc, k + 1, false, L, W, c + 1, e, l + 1, s, by go_num, by omega, by omega, by omega, by omega, by omega, by omega, by omega, by simp, by omega, by omega, by omega, by omega, by omega, by omega, (by repeat (first | exact Ext.refl _ | refine Ext.plus ?_ _ | refine Ext.alloc ?_ _))⟩
              case measure => simp [intOf]; omega
            · obtain ⟨W', hW'1, hW'2, eW⟩ : ∃ W', n ≤ W' ∧ W' ≤ 64 * n ∧ min (2 * W) (64 * n) = W' := ⟨_, by omega, by omega, rfl⟩
              have EW := Lib.hid eW
              clear eW
              go_wp2_with fail
              refine (commit_any ⟨n, false, L, W, c, e, l, s⟩ 0 1 _).mono ?_
              rintro en w3 ⟨m', hm', rfl, g3, rfl⟩
              obtain rfl : m' = ⟨n, true, W, W', 0, 0, 0, s + 1⟩ := hm'.out.trans ((cm_lose n L W c e l s 0 1 (by omega) (by omega) (by omega) (by omega) (by omega) (by omega) (by omega) (by omega) (by omega) (by omega) (by omega) (by omega)).trans (by rw [EW.out]))
              clear hm'
              go_wp2_with fail
              go_roundw
              case rel => exact ⟨mc, k + 1, true, W, W', 0, 0, 0, s + 1, by go_num, by omega, by omega, by omega, by omega, by omega, by omega, by omega, fun _ => ⟨by omega, by omega⟩, by omega, by omega, by omega, by omega, by omega, by omega, (by repeat (first | exact Ext.refl _ | refine Ext.plus ?_ _ | refine Ext.alloc ?_ _))⟩
              case measure => simp [intOf]; omega
        · go_wp2_with fail
          go_loopw [13] (fun v13 wr => CalmRel3 n w2 v13 wr) (fun i _ => 256 - (intOf i).toNat)
          case atStart => exact ⟨mc, 0, one, L, W, c, e, l, s, rfl, by omega, by omega, by omega, by omega, by omega, by omega, by omega, fun h => ⟨(hone h).1, (hone h).2, by omega⟩, by omega, by omega, by omega, by omega, by omega, by omega, ⟨_, rfl⟩⟩
          clear hlt hk hW1 hW2 hc1 hc2 hL1 hL2 hone he1 he2 hl1 hl2 hs1 hs2
          case round =>
            obtain ⟨mc, k, one, L, W, c, e, l, s, rfl, hk, hW1, hW2, hc1, hc2, hL1, hL2, hone, he1, he2, hl1, hl2, hs1, hs2, gr, rfl⟩ := hrel
            cases one with
            | true =>
              obtain ⟨hL3, hc3, hk3⟩ := hone rfl
              clear hone
              go_wp2_with fail
              refine (many_any ⟨n, true, L, W, c, e, l, s⟩ _).mono ?_
              rintro en w3 ⟨rfl, g3, rfl⟩
              go_wp2_with fail
              by_cases hL : 2 ≤ L
              · refine (commit_any ⟨n, true, L, W, c, e, l, s⟩ 1 0 _).mono ?_
                rintro en w3 ⟨m', hm', rfl, g4, rfl⟩
                obtain rfl : m' = ⟨n, true, L - 1, W, c, e, l, s⟩ := hm'.out.trans ((cm_one n L W c e l s 1 0 (by omega) (by omega)).trans (by rw [decide_eq_true hL]))
                clear hm'
                go_wp2_with fail
                go_roundw
                case rel => exact ⟨mc, k + 1, true, L - 1, W, c, e, l, s, by go_num, by omega, by omega, by omega, by omega, by omega, by omega, by omega, fun _ => ⟨by omega, by omega, by omega⟩, by omega, by omega, by omega, by omega, by omega, by omega, (by repeat (first | exact Ext.refl _ | refine Ext.plus ?_ _ | refine Ext.alloc ?_ _))⟩
                case measure => simp [intOf]; omega
              · obtain rfl : L = 1 := by omega
                refine (commit_any ⟨n, true, 1, W, c, e, l, s⟩ 1 0 _).mono ?_
                rintro en w3 ⟨m', hm', rfl, g4, rfl⟩
                obtain rfl : m' = ⟨n, false, 0, W, c, e, l, s⟩ := hm'.out.trans (cm_one n 1 W c e l s 1 0 (by omega) (by omega))
                clear hm'
                go_wp2_with fail
                go_roundw
                case rel => exact ⟨mc, k + 1, false, 0, W, c, e, l, s, by go_num, by omega, by omega, by omega, by omega, by omega, by omega, by omega, by simp, by omega, by omega, by omega, by omega, by omega, by omega, (by repeat (first | exact Ext.refl _ | refine Ext.plus ?_ _ | refine Ext.alloc ?_ _))⟩
                case measure => simp [intOf]; omega
            | false =>
              clear hone
              go_wp2_with fail
              refine (many_any ⟨n, false, L, W, c, e, l, s⟩ _).mono ?_
              rintro en w3 ⟨rfl, g3, rfl⟩
              go_wp2_with fail
              have hG1 : 0 ≤ n * (g % 4) := Int.mul_nonneg (by omega) (by omega)
              have hG2 : n * (g % 4) ≤ 9 := Int.le_trans (Int.mul_le_mul_of_nonneg_right hn3 (by omega)) (by omega)
              go_loopw [14, 15] (fun v14 v15 wr => CalmRel4 n (n * (g % 4)) w2 v14 v15 wr) (fun _ i _ => 256 - (intOf i).toNat)
              case atStart => exact ⟨mc, 0, 0, L, W, c, e, l, s, c, rfl, rfl, by omega, by omega, by omega, by omega, by omega, by omega, by simp only [capW]; omega, by simp, by omega, by omega, by omega, by omega, by omega, (by repeat (first | exact Ext.refl _ | refine Ext.plus ?_ _ | refine Ext.alloc ?_ _))⟩
              clear hk hW1 hW2 hc1 hc2 hL1 hL2 he1 he2 hl1 hl2 hs1 hs2
              case round =>
                obtain ⟨mc, k, j, L, W, c, e, l, s, c0, rfl, rfl, hk, hW1, hW2, hc1, hc2, hc0, hj1, hj2, hl1, hl2, he1, he2, hel, gr, rfl⟩ := hrel
                by_cases hlt : (k : Int) < 7 * n + n * (g % 4)
                · by_cases hc : c + 1 < n
                  · go_wp2_with fail
                    refine (commit_any ⟨n, false, L, W, c, e, l, s⟩ 5 0 _).mono ?_
                    rintro en w3 ⟨m', hm', rfl, g4, rfl⟩
                    obtain rfl : m' = ⟨n, false, L, W, c + 1, e + 5, l, s⟩ := hm'.out.trans ((cm_in n L W c e l s 5 0 hc (by omega) (by omega) (by omega) (by omega) (by omega) (by omega)).trans (by rw [Int.add_zero]))
                    clear hm'
                    go_wp2_with fail
                    refine (many_any ⟨n, false, L, W, c + 1, e + 5, l, s⟩ _).mono ?_
                    rintro en w3 ⟨rfl, g5, rfl⟩
                    go_wp2_with fail
                    go_roundw
                    case rel => exact ⟨mc, k + 1, j, L, W, c + 1, e + 5, l, s, c0, rfl, by go_num, by omega, by omega, by omega, by omega, by omega, by omega, hj1, by omega, by omega, by omega, by omega, by omega, by omega, (by repeat (first | exact Ext.refl _ | refine Ext.plus ?_ _ | refine Ext.alloc ?_ _))⟩
                    case measure => simp [intOf]; omega
                  · obtain ⟨W', hW'1, hW'2, hW'3, eW⟩ : ∃ W', n ≤ W' ∧ W' ≤ W ∧ W' ≤ capW (j + 1) * n ∧ max (W / 2) n = W' := ⟨_, by omega, by omega, capW_step j n W hn1 hj1, rfl⟩
                    have EW := Lib.hid eW
                    clear eW
                    have hj3 : (((j + 1 : Nat) : Int)) * n = j * n + n := by rw [Int.natCast_add, Int.add_mul]; omega
                    have HJ := Lib.hid hj3
                    clear hj3
                    go_wp2_with fail
                    refine (commit_any ⟨n, false, L, W, c, e, l, s⟩ 5 0 _).mono ?_
                    rintro en w3 ⟨m', hm', rfl, g4, rfl⟩
                    obtain rfl : m' = ⟨n, false, L, W', 0, 0, 0, s⟩ := hm'.out.trans ((cm_win n L W c e l s 5 0 (by omega) (by omega) (by omega) (by omega) (by omega) (by omega) (by omega) (by omega) (by omega)).trans (by rw [EW.out]))
                    clear hm'
                    go_wp2_with fail
                    refine (many_any ⟨n, false, L, W', 0, 0, 0, s⟩ _).mono ?_
                    rintro en w3 ⟨rfl, g5, rfl⟩
                    go_wp2_with fail
                    go_roundw
                    case rel => exact ⟨mc, k + 1, j + 1, L, W', 0, 0, 0, s, c0, rfl, by go_num, by omega, by omega, by omega, by omega, by omega, by omega, hW'3, (by rw [HJ.out]; omega), by omega, by omega, by omega, by omega, by omega, (by repeat (first | exact Ext.refl _ | refine Ext.plus ?_ _ | refine Ext.alloc ?_ _))⟩
                    case measure => simp [intOf]; omega
                · have hWn := capW_end j n W c c0 k hn1 hj1 (by omega) hc2 hc0 hj2
                  have hWeq : (W == n) = true := by rw [beq_iff_eq]; omega
                  go_wp2_with fail
                  go_ret
                  exact ⟨by simp, ((hx.alloc _).alloc _).plus _⟩

end Go.Proofs.Ytgejicpobifebaa
