/- The walk of FallbackSteps. -/
import Derived.Test.YtgejicpobifebaaFbSane
import Derived.Test.YtgejicpobifebaaPairs
import Derived.Test.YtgejicpobifebaaMod
import Derived.Test.YtgejicpobifebaaRegion
namespace Go.Proofs.Ytgejicpobifebaa
open Go.RowKit

theorem commit_val (m : Mode) (k l : Int) (w : World) : Calls Try.prog 14 #[.agg m.cs, .int .i64 k, .int .i64 l] w fun en w' => en = .returned (.agg (commitM m k l).cs) ∧ Ext w w' :=
  (commit_any m k l w).mono fun _ _ ⟨m', hm', he, hx⟩ => by rw [hm'.out] at he; exact ⟨he, hx⟩
theorem rcommit_val (m : Mode) (k l : Int) (w : World) : Calls Try.prog 15 #[.agg m.cs, .int .i64 k, .int .i64 l] w fun en w' => en = .returned (.agg (commitM m k l).cs) ∧ Ext w w' :=
  (rcommit_any m k l w).mono fun _ _ ⟨m', hm', he, hx⟩ => by rw [hm'.out] at he; exact ⟨he, hx⟩

def StepsOut (w1 : World) (cs : Array Value) (v27 : Value) (wr : World) : Prop :=
  ∃ k : Nat, v27 = .int .i64 k ∧ k ≤ 3 ∧ Ext (w1.alloc (.cells cs 3)) wr
def StepsIn (len : Nat) (wB : World) (g : Growth) (v53 : Value) (wr : World) : Prop :=
  ∃ (k : Nat) (m : Mode), v53 = .int .i64 k ∧ k ≤ len ∧ Ext (((wB.alloc (.cells m.cs 27)).plus g).alloc (.cells m.cs 27)) wr

set_option maxRecDepth 100000 in
set_option maxHeartbeats 6400000 in
theorem steps_walk (v : Int) (A : Option Addr) (len cap : Nat) (X Y : Nat → Int) (hlen : len ≤ 9223372036854775807) (w : World) (hp : PairsAt .u16 w A len X Y) :
    Calls Try.prog 3 #[.int .i64 v, .slice A len cap] w fun en w' => en = .returned (.bool true) ∧ Ext w w' := by
  by_cases hl : len ≤ 200
  · go_enter Try.func3, Try.ntmps3
    go_wp2_with fail
    refine (sane_any _).mono ?_
    rintro en w1 ⟨rfl, hx1⟩
    go_wp2_with fail
    refine (mod_any v 5 _ (by omega) (by omega)).mono ?_
    rintro en w' ⟨rfl, rfl⟩
    obtain ⟨hm1, hm2⟩ := goMod_bd v 5 (by omega)
    generalize goMod v 5 = m5 at hm1 hm2 ⊢
    go_wp2_with fail
    refine (mod_any v 2 _ (by omega) (by omega)).mono ?_
    rintro en w' ⟨rfl, rfl⟩
    obtain ⟨hm3, hm4⟩ := goMod_bd v 2 (by omega)
    generalize goMod v 2 = m2 at hm3 hm4 ⊢
    go_wp2_with fail
    have HP := Lib.hid hp
    clear hp
    generalize hcs : (#[.int .i64 v, .int .i64 (1 + m5), .int .i64 (1024 + m2)] : Array Value) = cs
    have HC := Lib.hid hcs
    clear hcs
    go_loopw [27] (fun v27 wr => StepsOut w1 cs v27 wr) (fun i _ => 3 - (intOf i).toNat)
    case atStart => exact ⟨0, rfl, by omega, Ext.refl _⟩
    case round =>
      obtain ⟨k, rfl, hk, gr, rfl⟩ := hrel
      by_cases hlt : k < 3
      · obtain ⟨N, hN⟩ : ∃ N : Int, cs[k]? = some (.int .i64 N) := by
          rw [← HC.out]
          match k, hlt with
          | 0, _ => exact ⟨_, rfl⟩
          | 1, _ => exact ⟨_, rfl⟩
          | 2, _ => exact ⟨_, rfl⟩
        by_cases hr : 1 ≤ N ∧ N ≤ 1024
        · obtain ⟨hr1, hr2⟩ := hr
          go_wp2_with fail
          refine (new_ok N _ hr1 hr2).mono ?_
          rintro en wB ⟨rfl, hxB⟩
          go_wp2_with fail
          refine (rnew_ok N _ hr1 hr2).mono ?_
          rintro en w3 ⟨rfl, g2, rfl⟩
          go_wp2_with fail
          have hxw : Ext w wB := ((hx1.alloc _).plus _).trans hxB
          go_loopw [53] (fun v53 wr => StepsIn len wB g2 v53 wr) (fun i _ => len - (intOf i).toNat)
          case atStart => exact ⟨0, newM N, rfl, by omega, Ext.refl _⟩
          case round =>
            obtain ⟨j, m, rfl, hj, gi, rfl⟩ := hrel
            by_cases hjl : j < len
            · obtain ⟨b, off, rfl, hbw, hcell⟩ := HP.out (by omega)
              obtain ⟨hX, hY, wX, wY⟩ := hcell j hjl
              obtain ⟨bX1, bX2⟩ := bounds_u16 wX
              obtain ⟨bY1, bY2⟩ := bounds_u16 wY
              clear hcell wX wY
              have hX2 : wB.cell? ⟨b, off + j * 2, none⟩ = some (.int .u16 (X j)) := (hxw.below.cell hbw).trans hX
              have hY2 : wB.cell? ⟨b, off + j * 2 + 1, none⟩ = some (.int .u16 (Y j)) := (hxw.below.cell hbw).trans hY
              have hb2 : b < wB.heap.size := Nat.lt_of_lt_of_le hbw hxw.size
              have hb3 : b < wB.heap.size + 1 := Nat.lt_succ_of_lt hb2
              have hb4 : b < wB.heap.size + 1 + g2.size := by omega
              clear hX hY hbw
              go_wp2_with fail
              refine wp_region_ext_tail 16 (by kernel_rfl) (by kernel_rfl) ?_
              simp only [List.take_succ_cons, List.take_zero, List.drop_succ_cons, List.drop_zero]
              repeat (go_big_quiet_step (first | (go_at_call 14; exact Calls.ext_of (commit_val m _ _ _)) | (go_at_call 15; exact Calls.ext_of (rcommit_val m _ _ _))))
              refine wpQuiet_nil ?_
              rintro _ ⟨g5, rfl⟩
              go_wp2_with fail
              generalize commitM m (X j) (Y j) = mm
              refine wp_region_ext (by kernel_rfl) (by kernel_rfl) ?_
              repeat (go_big_quiet_step (first | (go_at_call 16; exact Calls.ext_add (many_any mm _)) | (go_at_call 17; exact Calls.ext_add (rmany_any mm _))))
              refine wpQuiet_nil ?_
              rintro _ ⟨g6, rfl⟩
              go_wp2_with fail
              go_roundw
              case rel => exact ⟨j + 1, mm, by go_num, by omega, (by repeat (first | exact Ext.refl _ | refine Ext.plus ?_ _ | refine Ext.alloc ?_ _))⟩
              case measure => simp [intOf]; omega
            · go_wp2_with fail
              go_roundw
              case rel => exact ⟨k + 1, by go_num, by omega, (((((Ext.refl _).plus _).trans hxB).alloc _ |>.plus _).alloc _).plus _⟩
              case measure => simp [intOf]; omega
        · go_wp2_with fail
          refine (new_no N _ (by omega)).mono ?_
          rintro en w3 ⟨rfl, g1, rfl⟩
          go_wp2_with fail
          refine (rnew_no N _ (by omega)).mono ?_
          rintro en w3 ⟨rfl, g2, rfl⟩
          go_wp2_with fail
          go_roundw
          case rel => exact ⟨k + 1, by go_num, by omega, (by repeat (first | exact Ext.refl _ | refine Ext.plus ?_ _ | refine Ext.alloc ?_ _))⟩
          case measure => simp [intOf]; omega
      · go_wp2_with fail
        go_ret
        exact ⟨rfl, (hx1.alloc _).plus _⟩
  · have hl' : 200 < len := by omega
    go_enter Try.func3, Try.ntmps3
    go_wp2_with fail
    refine (sane_any _).mono ?_
    rintro en w1 ⟨rfl, hx1⟩
    go_wp2_with fail
    go_ret
    exact ⟨rfl, hx1⟩

end Go.Proofs.Ytgejicpobifebaa
