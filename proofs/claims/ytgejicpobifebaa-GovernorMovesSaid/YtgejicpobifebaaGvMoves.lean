/- The walk of GovernorMoves. -/
import Derived.Test.YtgejicpobifebaaGvSane
namespace Go.Proofs.Ytgejicpobifebaa
open Go.RowKit

def cells4 (a b c d : Gov) : Array Value := #[.int .i64 a.fr, .int .i64 a.ra, .int .i64 a.ke, .int .i64 a.lo, .int .i64 a.ri, .int .i64 b.fr, .int .i64 b.ra, .int .i64 b.ke, .int .i64 b.lo, .int .i64 b.ri,
  .int .i64 c.fr, .int .i64 c.ra, .int .i64 c.ke, .int .i64 c.lo, .int .i64 c.ri, .int .i64 d.fr, .int .i64 d.ra, .int .i64 d.ke, .int .i64 d.lo, .int .i64 d.ri]
theorem cells4_at (a b c d : Gov) (k : Nat) (hk : k < 4) : ∃ X : Gov, (cells4 a b c d)[k * 5]? = some (.int .i64 X.fr) ∧ (cells4 a b c d)[k * 5 + 1]? = some (.int .i64 X.ra) ∧ (cells4 a b c d)[k * 5 + 2]? = some (.int .i64 X.ke) ∧
    (cells4 a b c d)[k * 5 + 3]? = some (.int .i64 X.lo) ∧ (cells4 a b c d)[k * 5 + 4]? = some (.int .i64 X.ri) := by
  match k, hk with
  | 0, _ => exact ⟨a, rfl, rfl, rfl, rfl, rfl⟩
  | 1, _ => exact ⟨b, rfl, rfl, rfl, rfl, rfl⟩
  | 2, _ => exact ⟨c, rfl, rfl, rfl, rfl, rfl⟩
  | 3, _ => exact ⟨d, rfl, rfl, rfl, rfl, rfl⟩
def cells3 (a b c d e f : Int) : Array Value := #[.int .i64 a, .int .i64 b, .int .i64 c, .int .i64 d, .int .i64 e, .int .i64 f]
theorem cells3_at (a b c d e f : Int) (k : Nat) (hk : k < 3) : ∃ x y : Int, (cells3 a b c d e f)[k * 2]? = some (.int .i64 x) ∧ (cells3 a b c d e f)[k * 2 + 1]? = some (.int .i64 y) := by
  match k, hk with
  | 0, _ => exact ⟨a, b, rfl, rfl⟩
  | 1, _ => exact ⟨c, d, rfl, rfl⟩
  | 2, _ => exact ⟨e, f, rfl, rfl⟩

def MovesOut (W : World) (cs : Array Value) (v46 : Value) (wr : World) : Prop := ∃ k : Nat, v46 = .int .i64 k ∧ k ≤ 4 ∧ Ext (W.alloc (.cells cs 43)) wr
def MovesIn (W : World) (v95 : Value) (wr : World) : Prop := ∃ k : Nat, v95 = .int .i64 k ∧ k ≤ 3 ∧ Ext W wr

set_option maxRecDepth 100000 in
set_option maxHeartbeats 16000000 in
theorem moves_walk (A : Option Addr) (n cap : Nat) (R : Gov) (p q : Int) (w : World) (hn : n ≤ cap) (hc : cap ≤ 9223372036854775807) (hs : Seeds w w.heap.size A n) :
    Calls Try.prog 7 #[.slice A n cap, .agg R.cs, .int .i64 p, .int .i64 q] w fun e w' => e = .returned (.bool true) ∧ Ext w w' := by
  have HS := Lib.hid hs
  clear hs
  go_enter Try.func7, Try.ntmps7
  go_wp2_with fail
  refine (gsane_any _).mono ?_
  rintro en w1 ⟨rfl, g1, rfl⟩
  go_wp2_with fail
  refine (new_dice A n cap _ hn hc).mono ?_
  rintro en w1 ⟨n', cap', hn1, hn2, rfl, rfl⟩
  go_wp2_with fail
  refine (made_at _ A n' cap' ((w.alloc (.cells R.cs 43)).plus g1) (by simp) hn2 (((HS.out.less hn1).ext (by repeat (first | exact Ext.refl _ | refine Ext.plus ?_ _ | refine Ext.alloc ?_ _)) (Nat.le_refl _)).more (by simp; omega))).mono ?_
  rintro en w1 ⟨G, k1, rfl, hG, hk1, g2, rfl⟩
  clear hG
  go_wp2_with fail
  refine (mod_any q 3 _ (by omega) (by omega)).mono ?_
  rintro en w' ⟨rfl, rfl⟩
  obtain ⟨hm1, hm2⟩ := goMod_bd q 3 (by omega)
  generalize goMod q 3 = m3 at hm1 hm2 ⊢
  go_wp2_with fail
  refine wp_region_mix [([0, 1, 2, 3, 5, 10], 4), ([], 6), ([7], 8), ([], 9)] [] (fun w1 => ∃ g, w1 = ((((((w.alloc (.cells R.cs 43)).plus g1).alloc (.cells #[.slice A n' cap', .int .i64 k1] 67)).plus g2).alloc (.cells G.cs 43)).alloc (.cells (Gov.mk 1048576 1048576 (1099511627776 - m3) 1099511627776 1099511627776).cs 43)).plus g) (by kernel_rfl) (by kernel_rfl) (plus_one _) ?_
  refine wpMix_seg ?_
  simp only [List.filterMap_cons, List.filterMap_nil, List.getElem?_toArray, List.getElem?_cons_zero, List.getElem?_cons_succ]
  show wpQuiet _ _ _ _ [_, _, _, _, _, _] _
  repeat (go_big_quiet_step (fail))
  refine wpQuiet_nil ?_
  rintro _ ⟨gg, rfl⟩
  show wpList _ _ _ [_] _ _
  go_wp2_with fail
  refine (mod_any p 3 _ (by omega) (by omega)).mono ?_
  rintro en w1 ⟨rfl, rfl⟩
  obtain ⟨ma1, ma2⟩ := goMod_bd p 3 (by omega)
  generalize goMod p 3 = ma at ma1 ma2 ⊢
  go_wp2_with fail
  refine ⟨_, fun _ h => h, ⟨gg, rfl⟩, ?_⟩
  refine wpMix_seg ?_
  simp only [List.filterMap_cons, List.filterMap_nil, List.getElem?_toArray, List.getElem?_cons_zero, List.getElem?_cons_succ]
  show wpQuiet _ _ _ _ [] _
  refine wpQuiet_nil ?_
  rintro _ ⟨gg, rfl⟩
  show wpList _ _ _ [_] _ _
  go_wp2_with fail
  refine (mod_any q 4 _ (by omega) (by omega)).mono ?_
  rintro en w1 ⟨rfl, rfl⟩
  obtain ⟨mb1, mb2⟩ := goMod_bd q 4 (by omega)
  generalize goMod q 4 = mb at mb1 mb2 ⊢
  go_wp2_with fail
  refine ⟨_, fun _ h => h, ⟨gg, rfl⟩, ?_⟩
  refine wpMix_seg ?_
  simp only [List.filterMap_cons, List.filterMap_nil, List.getElem?_toArray, List.getElem?_cons_zero, List.getElem?_cons_succ]
  show wpQuiet _ _ _ _ [_] _
  repeat (go_big_quiet_step (fail))
  refine wpQuiet_nil ?_
  rintro _ ⟨gg, rfl⟩
  show wpList _ _ _ [_] _ _
  go_wp2_with fail
  refine ⟨fun w1 => w1 = (((((((w.alloc (.cells R.cs 43)).plus g1).alloc (.cells #[.slice A n' cap', .int .i64 k1] 67)).plus g2).alloc (.cells G.cs 43)).alloc (.cells (Gov.mk 1048576 1048576 (1099511627776 - m3) 1099511627776 1099511627776).cs 43)).plus gg).alloc (.cells (cells4 G R (Gov.mk 1048576 1048576 (1099511627776 - m3) 1099511627776 1099511627776) (Gov.mk ma 0 0 0 mb)) 43), ?_, rfl, ?_⟩
  · rintro _ rfl
    exact ⟨_, World.plus_push _ _ _⟩
  refine wpMix_seg ?_
  simp only [List.filterMap_cons, List.filterMap_nil, List.getElem?_toArray, List.getElem?_cons_zero, List.getElem?_cons_succ]
  show wpQuiet _ _ _ _ [] _
  refine wpQuiet_nil ?_
  rintro _ rfl
  show wpList _ _ _ [_] _ _
  go_wp2_with fail
  refine ⟨_, fun _ h => h, rfl, ?_⟩
  refine wpMix_last ?_
  simp only [List.filterMap_nil]
  show wpQuiet _ _ _ _ [] _
  refine wpQuiet_nil ?_
  rintro _ rfl
  go_wp2_with fail
  generalize hcs : cells4 G R (Gov.mk 1048576 1048576 (1099511627776 - m3) 1099511627776 1099511627776) (Gov.mk ma 0 0 0 mb) = cs
  have HC := Lib.hid hcs
  clear hcs
  go_loopw [46] (fun v46 wr => MovesOut (((((((w.alloc (.cells R.cs 43)).plus g1).alloc (.cells #[.slice A n' cap', .int .i64 k1] 67)).plus g2).alloc (.cells G.cs 43)).alloc (.cells (Gov.mk 1048576 1048576 (1099511627776 - m3) 1099511627776 1099511627776).cs 43)).plus gg) cs v46 wr) (fun i _ => 4 - (intOf i).toNat)
  case atStart => exact ⟨0, rfl, by omega, Ext.refl _⟩
  case round =>
    obtain ⟨k, rfl, hk, gr, rfl⟩ := hrel
    by_cases hlt : k < 4
    · obtain ⟨X, x0, x1, x2, x3, x4⟩ := cells4_at G R (Gov.mk 1048576 1048576 (1099511627776 - m3) 1099511627776 1099511627776) (Gov.mk ma 0 0 0 mb) k hlt
      rw [HC.out] at x0 x1 x2 x3 x4
      go_wp2_with fail
      refine wp_region_ext (by kernel_rfl) (by kernel_rfl) ?_
      repeat (go_big_quiet_step (first | (go_at_call 21; exact Calls.ext_of (valid_any X _)) | (go_at_call 22; exact Calls.ext_of (rvalid_any X _)) | (go_at_call 23; exact Calls.ext_of (may_any X _)) | (go_at_call 24; exact Calls.ext_of (rmay_any X _))))
      refine wpQuiet_nil ?_
      rintro _ ⟨g3, rfl⟩
      go_wp2_with fail
      refine (step_any X _).mono ?_
      rintro en w1 ⟨rfl, g4, rfl⟩
      go_wp2_with fail
      refine (rstep_any X _).mono ?_
      rintro en w1 ⟨rfl, g5, rfl⟩
      go_wp2_with fail
      refine (mod_any p 6 _ (by omega) (by omega)).mono ?_
      rintro en w1 ⟨rfl, rfl⟩
      obtain ⟨mc1, mc2⟩ := goMod_bd p 6 (by omega)
      generalize goMod p 6 = mc at mc1 mc2 ⊢
      go_wp2_with fail
      refine (mod_any q 6 _ (by omega) (by omega)).mono ?_
      rintro en w1 ⟨rfl, rfl⟩
      obtain ⟨md1, md2⟩ := goMod_bd q 6 (by omega)
      generalize goMod q 6 = md at md1 md2 ⊢
      go_wp2_with fail
      refine (mod_any p 4 _ (by omega) (by omega)).mono ?_
      rintro en w1 ⟨rfl, rfl⟩
      obtain ⟨me1, me2⟩ := goMod_bd p 4 (by omega)
      generalize goMod p 4 = me at me1 me2 ⊢
      go_wp2_with fail
      generalize hcs2 : (#[.int .i64 p, .int .i64 q, .int .i64 (mc - 1), .int .i64 (md - 1), .int .i64 me, .int .i64 1099511627776] : Array Value) = cp
      have HC2 := Lib.hid hcs2
      clear hcs2
      refine Code.wp_name fun W HW => ?_
      have hxW : Ext (((((((w.alloc (.cells R.cs 43)).plus g1).alloc (.cells #[.slice A n' cap', .int .i64 k1] 67)).plus g2).alloc (.cells G.cs 43)).alloc (.cells (Gov.mk 1048576 1048576 (1099511627776 - m3) 1099511627776 1099511627776).cs 43)).plus gg |>.alloc (.cells cs 43)) W := by rw [HW.out]; exact (by repeat (first | exact Ext.refl _ | refine Ext.plus ?_ _ | refine Ext.alloc ?_ _))
      go_loopw [95] (fun v95 wr => MovesIn W v95 wr) (fun i _ => 3 - (intOf i).toNat)
      case atStart => exact ⟨0, rfl, by omega, Ext.refl _⟩
      case round =>
        obtain ⟨j, rfl, hj, gj, rfl⟩ := hrel
        by_cases hjt : j < 3
        · obtain ⟨x, y, y0, y1⟩ : ∃ x y : Int, cp[j * 2]? = some (.int .i64 x) ∧ cp[j * 2 + 1]? = some (.int .i64 y) := by
            rw [← HC2.out]; exact cells3_at _ _ _ _ _ _ j hjt
          by_cases hx1 : x ≤ 1125899906842624
          · by_cases hy1 : y ≤ 1125899906842624
            · rw [HW.out]
              go_wp2_with fail
              refine (keep_any X x y _).mono ?_
              rintro en w1 ⟨rfl, g6, rfl⟩
              go_wp2_with fail
              refine (rkeep_any X x y _).mono ?_
              rintro en w1 ⟨rfl, g7, rfl⟩
              go_wp2_with fail
              refine (drop_any X x _).mono ?_
              rintro en w1 ⟨rfl, g8, rfl⟩
              go_wp2_with fail
              refine (rdrop_any X x _).mono ?_
              rintro en w1 ⟨rfl, g9, rfl⟩
              go_wp2_with fail
              go_roundw
              case rel => exact ⟨j + 1, by go_num, by omega, (by repeat (first | exact Ext.refl _ | refine Ext.plus ?_ _ | refine Ext.alloc ?_ _))⟩
              case measure => simp [intOf]; omega
            · rw [HW.out]
              go_wp2_with fail
              go_roundw
              case rel => exact ⟨j + 1, by go_num, by omega, (by repeat (first | exact Ext.refl _ | refine Ext.plus ?_ _ | refine Ext.alloc ?_ _))⟩
              case measure => simp [intOf]; omega
          · rw [HW.out]
            go_wp2_with fail
            go_roundw
            case rel => exact ⟨j + 1, by go_num, by omega, (by repeat (first | exact Ext.refl _ | refine Ext.plus ?_ _ | refine Ext.alloc ?_ _))⟩
            case measure => simp [intOf]; omega
        · go_wp2_with fail
          go_roundw
          case rel => exact ⟨k + 1, by go_num, by omega, hxW.plus _⟩
          case measure => simp [intOf]; omega
    · go_wp2_with fail
      go_ret
      exact ⟨rfl, (by repeat (first | exact Ext.refl _ | refine Ext.plus ?_ _ | refine Ext.alloc ?_ _))⟩

end Go.Proofs.Ytgejicpobifebaa
