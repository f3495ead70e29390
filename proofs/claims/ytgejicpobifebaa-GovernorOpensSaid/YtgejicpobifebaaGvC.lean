/- Contracts: steps kept and lost. -/
import Derived.Test.YtgejicpobifebaaGvB
import Derived.Test.YtgejicpobifebaaRegion
namespace Go.Proofs.Ytgejicpobifebaa
open Go.RowKit

set_option maxHeartbeats 2000000 in
theorem keep_any (g : Gov) (r o : Int) (w : World) : Calls Try.prog 27 #[.agg g.cs, .int .i64 r, .int .i64 o] w fun e w' => e = .returned (.tuple #[.agg (keepG g r o).1.cs, .int .i64 (keepG g r o).2]) ∧ Ext w w' := by
  obtain ⟨fr, ra, ke, lo, ri⟩ := g
  rcases Bool.eq_false_or_eq_true (validG ⟨fr, ra, ke, lo, ri⟩) with hv | hv
  · have HV := Lib.hid hv
    obtain ⟨⟨⟨a1, a2⟩, ⟨b1, b2⟩, ⟨c1, c2⟩, ⟨d1, d2⟩, ⟨f1, f2⟩⟩, hle, p1, p2⟩ := validG_facts hv
    simp only at a1 a2 b1 b2 c1 c2 d1 d2 f1 f2 hle p1 p2
    clear hv
    by_cases hr : r < 0
    · have HS : Hid (keepG ⟨fr, ra, ke, lo, ri⟩ r o = (gov0, 2)) := by
        show keepG ⟨fr, ra, ke, lo, ri⟩ r o = _
        simp only [keepG]
        rw [if_neg (by rw [HV.out]; decide), if_pos (by omega)]
      go_enter Try.func27, Try.ntmps27
      go_wp2_with fail
      go_in
      go_wp2_with fail
      refine (valid_any ⟨fr, ra, ke, lo, ri⟩ _).mono ?_
      rintro en w1 ⟨rfl, g1, rfl⟩
      rw [HV.out]
      go_wp2_with fail
      go_returns
      exact ⟨by rw [HS.out]; try rfl, (by repeat (first | exact Ext.refl _ | refine Ext.plus ?_ _ | refine Ext.alloc ?_ _ | refine Ext.drew ?_))⟩
    · by_cases ho : o < 0
      · have HS : Hid (keepG ⟨fr, ra, ke, lo, ri⟩ r o = (gov0, 2)) := by
          show keepG ⟨fr, ra, ke, lo, ri⟩ r o = _
          simp only [keepG]
          rw [if_neg (by rw [HV.out]; decide), if_pos (by omega)]
        go_enter Try.func27, Try.ntmps27
        go_wp2_with fail
        go_in
        go_wp2_with fail
        refine (valid_any ⟨fr, ra, ke, lo, ri⟩ _).mono ?_
        rintro en w1 ⟨rfl, g1, rfl⟩
        rw [HV.out]
        go_wp2_with fail
        go_returns
        exact ⟨by rw [HS.out]; try rfl, (by repeat (first | exact Ext.refl _ | refine Ext.plus ?_ _ | refine Ext.alloc ?_ _ | refine Ext.drew ?_))⟩
      · by_cases hx : ri < r
        · have HS : Hid (keepG ⟨fr, ra, ke, lo, ri⟩ r o = (gov0, 9)) := by
            show keepG ⟨fr, ra, ke, lo, ri⟩ r o = _
            simp only [keepG]
            rw [if_neg (by rw [HV.out]; decide), if_neg (by omega), if_pos (by omega)]
          go_enter Try.func27, Try.ntmps27
          go_wp2_with fail
          go_in
          go_wp2_with fail
          refine (valid_any ⟨fr, ra, ke, lo, ri⟩ _).mono ?_
          rintro en w1 ⟨rfl, g1, rfl⟩
          rw [HV.out]
          go_wp2_with fail
          go_returns
          exact ⟨by rw [HS.out]; try rfl, (by repeat (first | exact Ext.refl _ | refine Ext.plus ?_ _ | refine Ext.alloc ?_ _ | refine Ext.drew ?_))⟩
        · by_cases hl : 1099511627776 < o
          · have HS : Hid (keepG ⟨fr, ra, ke, lo, ri⟩ r o = (gov0, 3)) := by
              show keepG ⟨fr, ra, ke, lo, ri⟩ r o = _
              simp only [keepG]
              rw [if_neg (by rw [HV.out]; decide), if_neg (by omega), if_neg (by omega), if_pos (by omega)]
            go_enter Try.func27, Try.ntmps27
            go_wp2_with fail
            go_in
            go_wp2_with fail
            refine (valid_any ⟨fr, ra, ke, lo, ri⟩ _).mono ?_
            rintro en w1 ⟨rfl, g1, rfl⟩
            rw [HV.out]
            go_wp2_with fail
            go_returns
            exact ⟨by rw [HS.out]; try rfl, (by repeat (first | exact Ext.refl _ | refine Ext.plus ?_ _ | refine Ext.alloc ?_ _ | refine Ext.drew ?_))⟩
          · by_cases hb : 1099511627776 < ke + r + o
            · have hmul : ra * (ke + (r + o)) = ra * ke + ra * (r + o) := Int.mul_add _ _ _
              have hmul2 : 0 ≤ ra * (r + o) := Int.mul_nonneg b1 (by omega)
              have HN : Hid (validG ⟨fr, ra, ke + (r + o), lo, ri - r⟩ = false) := by
                show validG ⟨fr, ra, ke + (r + o), lo, ri - r⟩ = false
                refine valid_no ?_
                simp [inR_no]
                omega
              clear hmul hmul2
              have HS : Hid (keepG ⟨fr, ra, ke, lo, ri⟩ r o = (gov0, 3)) := by
                show keepG ⟨fr, ra, ke, lo, ri⟩ r o = _
                simp only [keepG]
                rw [if_neg (by rw [HV.out]; decide), if_neg (by omega), if_neg (by omega), if_pos (by omega)]
              go_enter Try.func27, Try.ntmps27
              go_wp2_with fail
              go_in
              go_wp2_with fail
              refine (valid_any ⟨fr, ra, ke, lo, ri⟩ _).mono ?_
              rintro en w1 ⟨rfl, g1, rfl⟩
              rw [HV.out]
              go_wp2_with fail
              go_in
              refine wp_region_ext_tail 10 (by kernel_rfl) (by kernel_rfl) ?_
              simp only [List.take_succ_cons, List.take_zero, List.drop_succ_cons, List.drop_zero]
              repeat (go_big_quiet_step (fail))
              refine wpQuiet_nil ?_
              rintro _ ⟨g5, rfl⟩
              go_wp2_with fail
              refine (valid_any ⟨fr, ra, ke + (r + o), lo, ri - r⟩ _).mono ?_
              rintro en w1 ⟨rfl, g6, rfl⟩
              rw [HN.out]
              go_wp2_with fail
              go_returns
              exact ⟨by rw [HS.out]; try rfl, (by repeat (first | exact Ext.refl _ | refine Ext.plus ?_ _ | refine Ext.alloc ?_ _ | refine Ext.drew ?_))⟩
            · have hmul : ra * (ke + (r + o)) = ra * ke + ra * (r + o) := Int.mul_add _ _ _
              have hmul2 : 0 ≤ ra * (r + o) := Int.mul_nonneg b1 (by omega)
              have HN : Hid (validG ⟨fr, ra, ke + (r + o), lo, ri - r⟩ = true) := by
                show validG ⟨fr, ra, ke + (r + o), lo, ri - r⟩ = true
                refine validG_iff.2 ?_
                dsimp only
                omega
              clear hmul hmul2
              have HS : Hid (keepG ⟨fr, ra, ke, lo, ri⟩ r o = (⟨fr, ra, ke + (r + o), lo, ri - r⟩, 0)) := by
                show keepG ⟨fr, ra, ke, lo, ri⟩ r o = _
                simp only [keepG]
                rw [if_neg (by rw [HV.out]; decide), if_neg (by omega), if_neg (by omega), if_neg (by omega)]
              go_enter Try.func27, Try.ntmps27
              go_wp2_with fail
              go_in
              go_wp2_with fail
              refine (valid_any ⟨fr, ra, ke, lo, ri⟩ _).mono ?_
              rintro en w1 ⟨rfl, g1, rfl⟩
              rw [HV.out]
              go_wp2_with fail
              go_in
              refine wp_region_ext_tail 10 (by kernel_rfl) (by kernel_rfl) ?_
              simp only [List.take_succ_cons, List.take_zero, List.drop_succ_cons, List.drop_zero]
              repeat (go_big_quiet_step (fail))
              refine wpQuiet_nil ?_
              rintro _ ⟨g5, rfl⟩
              go_wp2_with fail
              refine (valid_any ⟨fr, ra, ke + (r + o), lo, ri - r⟩ _).mono ?_
              rintro en w1 ⟨rfl, g6, rfl⟩
              rw [HN.out]
              go_wp2_with fail
              go_returns
              exact ⟨by rw [HS.out]; try rfl, (by repeat (first | exact Ext.refl _ | refine Ext.plus ?_ _ | refine Ext.alloc ?_ _ | refine Ext.drew ?_))⟩
  · have HS : Hid (keepG ⟨fr, ra, ke, lo, ri⟩ r o = (gov0, 1)) := by show keepG ⟨fr, ra, ke, lo, ri⟩ r o = _; simp [keepG, hv]
    have HV := Lib.hid hv
    clear hv
    go_enter Try.func27, Try.ntmps27
    go_wp2_with fail
    go_in
    go_wp2_with fail
    refine (valid_any ⟨fr, ra, ke, lo, ri⟩ _).mono ?_
    rintro en w1 ⟨rfl, g1, rfl⟩
    rw [HV.out]
    go_wp2_with fail
    go_returns
    exact ⟨by rw [HS.out]; try rfl, (by repeat (first | exact Ext.refl _ | refine Ext.plus ?_ _ | refine Ext.alloc ?_ _ | refine Ext.drew ?_))⟩

set_option maxHeartbeats 2000000 in
theorem drop_any (g : Gov) (r : Int) (w : World) : Calls Try.prog 29 #[.agg g.cs, .int .i64 r] w fun e w' => e = .returned (.tuple #[.agg (dropG g r).1.cs, .int .i64 (dropG g r).2]) ∧ Ext w w' := by
  obtain ⟨fr, ra, ke, lo, ri⟩ := g
  rcases Bool.eq_false_or_eq_true (validG ⟨fr, ra, ke, lo, ri⟩) with hv | hv
  · have HV := Lib.hid hv
    obtain ⟨⟨⟨a1, a2⟩, ⟨b1, b2⟩, ⟨c1, c2⟩, ⟨d1, d2⟩, ⟨f1, f2⟩⟩, hle, p1, p2⟩ := validG_facts hv
    simp only at a1 a2 b1 b2 c1 c2 d1 d2 f1 f2 hle p1 p2
    clear hv
    by_cases hr : r < 0
    · have HS : Hid (dropG ⟨fr, ra, ke, lo, ri⟩ r = (gov0, 2)) := by
        show dropG ⟨fr, ra, ke, lo, ri⟩ r = _
        simp only [dropG]
        rw [if_neg (by rw [HV.out]; decide), if_pos (by omega)]
      go_enter Try.func29, Try.ntmps29
      go_wp2_with fail
      go_in
      go_wp2_with fail
      refine (valid_any ⟨fr, ra, ke, lo, ri⟩ _).mono ?_
      rintro en w1 ⟨rfl, g1, rfl⟩
      rw [HV.out]
      go_wp2_with fail
      go_returns
      exact ⟨by rw [HS.out]; try rfl, (by repeat (first | exact Ext.refl _ | refine Ext.plus ?_ _ | refine Ext.alloc ?_ _ | refine Ext.drew ?_))⟩
    · by_cases hx : ri < r
      · have HS : Hid (dropG ⟨fr, ra, ke, lo, ri⟩ r = (gov0, 9)) := by
          show dropG ⟨fr, ra, ke, lo, ri⟩ r = _
          simp only [dropG]
          rw [if_neg (by rw [HV.out]; decide), if_neg (by omega), if_pos (by omega)]
        go_enter Try.func29, Try.ntmps29
        go_wp2_with fail
        go_in
        go_wp2_with fail
        refine (valid_any ⟨fr, ra, ke, lo, ri⟩ _).mono ?_
        rintro en w1 ⟨rfl, g1, rfl⟩
        rw [HV.out]
        go_wp2_with fail
        go_returns
        exact ⟨by rw [HS.out]; try rfl, (by repeat (first | exact Ext.refl _ | refine Ext.plus ?_ _ | refine Ext.alloc ?_ _ | refine Ext.drew ?_))⟩
      · by_cases hb : 1099511627776 < lo + r
        · have HN : Hid (validG ⟨fr, ra, ke, lo + r, ri - r⟩ = false) := by
            show validG ⟨fr, ra, ke, lo + r, ri - r⟩ = false
            refine valid_no ?_
            simp [inR_no]
            omega
          have HS : Hid (dropG ⟨fr, ra, ke, lo, ri⟩ r = (gov0, 3)) := by
            show dropG ⟨fr, ra, ke, lo, ri⟩ r = _
            simp only [dropG]
            rw [if_neg (by rw [HV.out]; decide), if_neg (by omega), if_neg (by omega), if_pos (by omega)]
          go_enter Try.func29, Try.ntmps29
          go_wp2_with fail
          go_in
          go_wp2_with fail
          refine (valid_any ⟨fr, ra, ke, lo, ri⟩ _).mono ?_
          rintro en w1 ⟨rfl, g1, rfl⟩
          rw [HV.out]
          go_wp2_with fail
          go_in
          refine wp_region_ext_tail 8 (by kernel_rfl) (by kernel_rfl) ?_
          simp only [List.take_succ_cons, List.take_zero, List.drop_succ_cons, List.drop_zero]
          repeat (go_big_quiet_step (fail))
          refine wpQuiet_nil ?_
          rintro _ ⟨g5, rfl⟩
          go_wp2_with fail
          refine (valid_any ⟨fr, ra, ke, lo + r, ri - r⟩ _).mono ?_
          rintro en w1 ⟨rfl, g6, rfl⟩
          rw [HN.out]
          go_wp2_with fail
          go_returns
          exact ⟨by rw [HS.out]; try rfl, (by repeat (first | exact Ext.refl _ | refine Ext.plus ?_ _ | refine Ext.alloc ?_ _ | refine Ext.drew ?_))⟩
        · have HN : Hid (validG ⟨fr, ra, ke, lo + r, ri - r⟩ = true) := by
            show validG ⟨fr, ra, ke, lo + r, ri - r⟩ = true
            refine validG_iff.2 ?_
            dsimp only
            omega
          have HS : Hid (dropG ⟨fr, ra, ke, lo, ri⟩ r = (⟨fr, ra, ke, lo + r, ri - r⟩, 0)) := by
            show dropG ⟨fr, ra, ke, lo, ri⟩ r = _
            simp only [dropG]
            rw [if_neg (by rw [HV.out]; decide), if_neg (by omega), if_neg (by omega), if_neg (by omega)]
          go_enter Try.func29, Try.ntmps29
          go_wp2_with fail
          go_in
          go_wp2_with fail
          refine (valid_any ⟨fr, ra, ke, lo, ri⟩ _).mono ?_
          rintro en w1 ⟨rfl, g1, rfl⟩
          rw [HV.out]
          go_wp2_with fail
          go_in
          refine wp_region_ext_tail 8 (by kernel_rfl) (by kernel_rfl) ?_
          simp only [List.take_succ_cons, List.take_zero, List.drop_succ_cons, List.drop_zero]
          repeat (go_big_quiet_step (fail))
          refine wpQuiet_nil ?_
          rintro _ ⟨g5, rfl⟩
          go_wp2_with fail
          refine (valid_any ⟨fr, ra, ke, lo + r, ri - r⟩ _).mono ?_
          rintro en w1 ⟨rfl, g6, rfl⟩
          rw [HN.out]
          go_wp2_with fail
          go_returns
          exact ⟨by rw [HS.out]; try rfl, (by repeat (first | exact Ext.refl _ | refine Ext.plus ?_ _ | refine Ext.alloc ?_ _ | refine Ext.drew ?_))⟩
  · have HS : Hid (dropG ⟨fr, ra, ke, lo, ri⟩ r = (gov0, 1)) := by show dropG ⟨fr, ra, ke, lo, ri⟩ r = _; simp [dropG, hv]
    have HV := Lib.hid hv
    clear hv
    go_enter Try.func29, Try.ntmps29
    go_wp2_with fail
    go_in
    go_wp2_with fail
    refine (valid_any ⟨fr, ra, ke, lo, ri⟩ _).mono ?_
    rintro en w1 ⟨rfl, g1, rfl⟩
    rw [HV.out]
    go_wp2_with fail
    go_returns
    exact ⟨by rw [HS.out]; try rfl, (by repeat (first | exact Ext.refl _ | refine Ext.plus ?_ _ | refine Ext.alloc ?_ _ | refine Ext.drew ?_))⟩

set_option maxHeartbeats 2000000 in
theorem rkeep_any (g : Gov) (r o : Int) (w : World) : Calls Try.prog 28 #[.agg g.cs, .int .i64 r, .int .i64 o] w fun e w' => e = .returned (.tuple #[.agg (keepG g r o).1.cs, .int .i64 (keepG g r o).2]) ∧ Ext w w' := by
  obtain ⟨fr, ra, ke, lo, ri⟩ := g
  rcases Bool.eq_false_or_eq_true (validG ⟨fr, ra, ke, lo, ri⟩) with hv | hv
  · have HV := Lib.hid hv
    obtain ⟨⟨⟨a1, a2⟩, ⟨b1, b2⟩, ⟨c1, c2⟩, ⟨d1, d2⟩, ⟨f1, f2⟩⟩, hle, p1, p2⟩ := validG_facts hv
    simp only at a1 a2 b1 b2 c1 c2 d1 d2 f1 f2 hle p1 p2
    clear hv
    by_cases hr : r < 0
    · have HS : Hid (keepG ⟨fr, ra, ke, lo, ri⟩ r o = (gov0, 2)) := by
        show keepG ⟨fr, ra, ke, lo, ri⟩ r o = _
        simp only [keepG]
        rw [if_neg (by rw [HV.out]; decide), if_pos (by omega)]
      go_enter Try.func28, Try.ntmps28
      go_wp2_with fail
      refine (rvalid_any ⟨fr, ra, ke, lo, ri⟩ _).mono ?_
      rintro en w1 ⟨rfl, g1, rfl⟩
      rw [HV.out]
      go_wp2_with fail
      go_returns
      exact ⟨by rw [HS.out]; try rfl, (by repeat (first | exact Ext.refl _ | refine Ext.plus ?_ _ | refine Ext.alloc ?_ _ | refine Ext.drew ?_))⟩
    · by_cases ho : o < 0
      · have HS : Hid (keepG ⟨fr, ra, ke, lo, ri⟩ r o = (gov0, 2)) := by
          show keepG ⟨fr, ra, ke, lo, ri⟩ r o = _
          simp only [keepG]
          rw [if_neg (by rw [HV.out]; decide), if_pos (by omega)]
        go_enter Try.func28, Try.ntmps28
        go_wp2_with fail
        refine (rvalid_any ⟨fr, ra, ke, lo, ri⟩ _).mono ?_
        rintro en w1 ⟨rfl, g1, rfl⟩
        rw [HV.out]
        go_wp2_with fail
        go_returns
        exact ⟨by rw [HS.out]; try rfl, (by repeat (first | exact Ext.refl _ | refine Ext.plus ?_ _ | refine Ext.alloc ?_ _ | refine Ext.drew ?_))⟩
      · by_cases hx : ri < r
        · have HS : Hid (keepG ⟨fr, ra, ke, lo, ri⟩ r o = (gov0, 9)) := by
            show keepG ⟨fr, ra, ke, lo, ri⟩ r o = _
            simp only [keepG]
            rw [if_neg (by rw [HV.out]; decide), if_neg (by omega), if_pos (by omega)]
          go_enter Try.func28, Try.ntmps28
          go_wp2_with fail
          refine (rvalid_any ⟨fr, ra, ke, lo, ri⟩ _).mono ?_
          rintro en w1 ⟨rfl, g1, rfl⟩
          rw [HV.out]
          go_wp2_with fail
          go_returns
          exact ⟨by rw [HS.out]; try rfl, (by repeat (first | exact Ext.refl _ | refine Ext.plus ?_ _ | refine Ext.alloc ?_ _ | refine Ext.drew ?_))⟩
        · by_cases hl : 1099511627776 < o
          · have HS : Hid (keepG ⟨fr, ra, ke, lo, ri⟩ r o = (gov0, 3)) := by
              show keepG ⟨fr, ra, ke, lo, ri⟩ r o = _
              simp only [keepG]
              rw [if_neg (by rw [HV.out]; decide), if_neg (by omega), if_neg (by omega), if_pos (by omega)]
            go_enter Try.func28, Try.ntmps28
            go_wp2_with fail
            refine (rvalid_any ⟨fr, ra, ke, lo, ri⟩ _).mono ?_
            rintro en w1 ⟨rfl, g1, rfl⟩
            rw [HV.out]
            go_wp2_with fail
            go_returns
            exact ⟨by rw [HS.out]; try rfl, (by repeat (first | exact Ext.refl _ | refine Ext.plus ?_ _ | refine Ext.alloc ?_ _ | refine Ext.drew ?_))⟩
          · by_cases hb : 1099511627776 < ke + r + o
            · have HS : Hid (keepG ⟨fr, ra, ke, lo, ri⟩ r o = (gov0, 3)) := by
                show keepG ⟨fr, ra, ke, lo, ri⟩ r o = _
                simp only [keepG]
                rw [if_neg (by rw [HV.out]; decide), if_neg (by omega), if_neg (by omega), if_pos (by omega)]
              go_enter Try.func28, Try.ntmps28
              go_wp2_with fail
              refine (rvalid_any ⟨fr, ra, ke, lo, ri⟩ _).mono ?_
              rintro en w1 ⟨rfl, g1, rfl⟩
              rw [HV.out]
              go_wp2_with fail
              go_returns
              exact ⟨by rw [HS.out]; try rfl, (by repeat (first | exact Ext.refl _ | refine Ext.plus ?_ _ | refine Ext.alloc ?_ _ | refine Ext.drew ?_))⟩
            · have HS : Hid (keepG ⟨fr, ra, ke, lo, ri⟩ r o = (⟨fr, ra, ke + (r + o), lo, ri - r⟩, 0)) := by
                show keepG ⟨fr, ra, ke, lo, ri⟩ r o = _
                simp only [keepG]
                rw [if_neg (by rw [HV.out]; decide), if_neg (by omega), if_neg (by omega), if_neg (by omega)]
              go_enter Try.func28, Try.ntmps28
              go_wp2_with fail
              refine (rvalid_any ⟨fr, ra, ke, lo, ri⟩ _).mono ?_
              rintro en w1 ⟨rfl, g1, rfl⟩
              rw [HV.out]
              go_wp2_with fail
              go_returns
              exact ⟨by rw [HS.out]; try rfl, (by repeat (first | exact Ext.refl _ | refine Ext.plus ?_ _ | refine Ext.alloc ?_ _ | refine Ext.drew ?_))⟩
  · have HS : Hid (keepG ⟨fr, ra, ke, lo, ri⟩ r o = (gov0, 1)) := by show keepG ⟨fr, ra, ke, lo, ri⟩ r o = _; simp [keepG, hv]
    have HV := Lib.hid hv
    clear hv
    go_enter Try.func28, Try.ntmps28
    go_wp2_with fail
    refine (rvalid_any ⟨fr, ra, ke, lo, ri⟩ _).mono ?_
    rintro en w1 ⟨rfl, g1, rfl⟩
    rw [HV.out]
    go_wp2_with fail
    go_returns
    exact ⟨by rw [HS.out]; try rfl, (by repeat (first | exact Ext.refl _ | refine Ext.plus ?_ _ | refine Ext.alloc ?_ _ | refine Ext.drew ?_))⟩

set_option maxHeartbeats 2000000 in
theorem rdrop_any (g : Gov) (r : Int) (w : World) : Calls Try.prog 30 #[.agg g.cs, .int .i64 r] w fun e w' => e = .returned (.tuple #[.agg (dropG g r).1.cs, .int .i64 (dropG g r).2]) ∧ Ext w w' := by
  obtain ⟨fr, ra, ke, lo, ri⟩ := g
  rcases Bool.eq_false_or_eq_true (validG ⟨fr, ra, ke, lo, ri⟩) with hv | hv
  · have HV := Lib.hid hv
    obtain ⟨⟨⟨a1, a2⟩, ⟨b1, b2⟩, ⟨c1, c2⟩, ⟨d1, d2⟩, ⟨f1, f2⟩⟩, hle, p1, p2⟩ := validG_facts hv
    simp only at a1 a2 b1 b2 c1 c2 d1 d2 f1 f2 hle p1 p2
    clear hv
    by_cases hr : r < 0
    · have HS : Hid (dropG ⟨fr, ra, ke, lo, ri⟩ r = (gov0, 2)) := by
        show dropG ⟨fr, ra, ke, lo, ri⟩ r = _
        simp only [dropG]
        rw [if_neg (by rw [HV.out]; decide), if_pos (by omega)]
      go_enter Try.func30, Try.ntmps30
      go_wp2_with fail
      refine (rvalid_any ⟨fr, ra, ke, lo, ri⟩ _).mono ?_
      rintro en w1 ⟨rfl, g1, rfl⟩
      rw [HV.out]
      go_wp2_with fail
      go_returns
      exact ⟨by rw [HS.out]; try rfl, (by repeat (first | exact Ext.refl _ | refine Ext.plus ?_ _ | refine Ext.alloc ?_ _ | refine Ext.drew ?_))⟩
    · by_cases hx : ri < r
      · have HS : Hid (dropG ⟨fr, ra, ke, lo, ri⟩ r = (gov0, 9)) := by
          show dropG ⟨fr, ra, ke, lo, ri⟩ r = _
          simp only [dropG]
          rw [if_neg (by rw [HV.out]; decide), if_neg (by omega), if_pos (by omega)]
        go_enter Try.func30, Try.ntmps30
        go_wp2_with fail
        refine (rvalid_any ⟨fr, ra, ke, lo, ri⟩ _).mono ?_
        rintro en w1 ⟨rfl, g1, rfl⟩
        rw [HV.out]
        go_wp2_with fail
        go_returns
        exact ⟨by rw [HS.out]; try rfl, (by repeat (first | exact Ext.refl _ | refine Ext.plus ?_ _ | refine Ext.alloc ?_ _ | refine Ext.drew ?_))⟩
      · by_cases hb : 1099511627776 < lo + r
        · have HS : Hid (dropG ⟨fr, ra, ke, lo, ri⟩ r = (gov0, 3)) := by
            show dropG ⟨fr, ra, ke, lo, ri⟩ r = _
            simp only [dropG]
            rw [if_neg (by rw [HV.out]; decide), if_neg (by omega), if_neg (by omega), if_pos (by omega)]
          go_enter Try.func30, Try.ntmps30
          go_wp2_with fail
          refine (rvalid_any ⟨fr, ra, ke, lo, ri⟩ _).mono ?_
          rintro en w1 ⟨rfl, g1, rfl⟩
          rw [HV.out]
          go_wp2_with fail
          go_returns
          exact ⟨by rw [HS.out]; try rfl, (by repeat (first | exact Ext.refl _ | refine Ext.plus ?_ _ | refine Ext.alloc ?_ _ | refine Ext.drew ?_))⟩
        · have HS : Hid (dropG ⟨fr, ra, ke, lo, ri⟩ r = (⟨fr, ra, ke, lo + r, ri - r⟩, 0)) := by
            show dropG ⟨fr, ra, ke, lo, ri⟩ r = _
            simp only [dropG]
            rw [if_neg (by rw [HV.out]; decide), if_neg (by omega), if_neg (by omega), if_neg (by omega)]
          go_enter Try.func30, Try.ntmps30
          go_wp2_with fail
          refine (rvalid_any ⟨fr, ra, ke, lo, ri⟩ _).mono ?_
          rintro en w1 ⟨rfl, g1, rfl⟩
          rw [HV.out]
          go_wp2_with fail
          go_returns
          exact ⟨by rw [HS.out]; try rfl, (by repeat (first | exact Ext.refl _ | refine Ext.plus ?_ _ | refine Ext.alloc ?_ _ | refine Ext.drew ?_))⟩
  · have HS : Hid (dropG ⟨fr, ra, ke, lo, ri⟩ r = (gov0, 1)) := by show dropG ⟨fr, ra, ke, lo, ri⟩ r = _; simp [dropG, hv]
    have HV := Lib.hid hv
    clear hv
    go_enter Try.func30, Try.ntmps30
    go_wp2_with fail
    refine (rvalid_any ⟨fr, ra, ke, lo, ri⟩ _).mono ?_
    rintro en w1 ⟨rfl, g1, rfl⟩
    rw [HV.out]
    go_wp2_with fail
    go_returns
    exact ⟨by rw [HS.out]; try rfl, (by repeat (first | exact Ext.refl _ | refine Ext.plus ?_ _ | refine Ext.alloc ?_ _ | refine Ext.drew ?_))⟩

end Go.Proofs.Ytgejicpobifebaa
