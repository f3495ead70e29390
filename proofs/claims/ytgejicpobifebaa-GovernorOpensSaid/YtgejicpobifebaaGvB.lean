/- Contracts: steps that are possible, made, kept and lost. -/
import Derived.Test.YtgejicpobifebaaGvA
import Derived.Test.YtgejicpobifebaaRegion
namespace Go.Proofs.Ytgejicpobifebaa
open Go.RowKit

theorem validG_facts {g : Gov} (h : validG g = true) : ((0 ≤ g.fr ∧ g.fr ≤ 1048576) ∧ (0 ≤ g.ra ∧ g.ra ≤ 1048576) ∧ (0 ≤ g.ke ∧ g.ke ≤ 1099511627776) ∧ (0 ≤ g.lo ∧ g.lo ≤ 1099511627776) ∧ (0 ≤ g.ri ∧ g.ri ≤ 1099511627776)) ∧ g.lo + g.ri ≤ g.fr + g.ra * g.ke ∧
    0 ≤ g.ra * g.ke ∧ g.ra * g.ke ≤ 1152921504606846976 := by
  obtain ⟨a, b, c, d, e, f⟩ := validG_iff.1 h
  exact ⟨⟨a, b, c, d, e⟩, f, prod_bd b.1 b.2 c.1 c.2⟩

set_option maxHeartbeats 1000000 in
theorem may_any (g : Gov) (w : World) : Calls Try.prog 23 #[.agg g.cs] w fun e w' => e = .returned (.bool (mayG g)) ∧ Ext w w' := by
  obtain ⟨fr, ra, ke, lo, ri⟩ := g
  rcases Bool.eq_false_or_eq_true (validG ⟨fr, ra, ke, lo, ri⟩) with hv | hv
  · obtain ⟨⟨⟨a1, a2⟩, ⟨b1, b2⟩, ⟨c1, c2⟩, ⟨d1, d2⟩, ⟨f1, f2⟩⟩, hle, p1, p2⟩ := validG_facts hv
    simp only at a1 a2 b1 b2 c1 c2 d1 d2 f1 f2 hle p1 p2
    have HV := Lib.hid hv
    clear hv
    by_cases hr : ri < 1099511627776
    · have HM : Hid (mayG ⟨fr, ra, ke, lo, ri⟩ = decide (lo + ri < fr + ra * ke)) := by show mayG _ = _; simp [mayG, HV.out, hr]
      go_enter Try.func23, Try.ntmps23
      go_wp2_with fail
      refine (valid_any ⟨fr, ra, ke, lo, ri⟩ _).mono ?_
      rintro en w1 ⟨rfl, g1, rfl⟩
      rw [HV.out]
      go_wp2_with fail
      refine (left_any ⟨fr, ra, ke, lo, ri⟩ _ ⟨a1, a2⟩ ⟨b1, b2⟩ ⟨c1, c2⟩ ⟨d1, d2⟩ ⟨f1, f2⟩).mono ?_
      rintro en w1 ⟨rfl, g2, rfl⟩
      go_wp2_with fail
      go_ret
      refine ⟨?_, (by repeat (first | exact Ext.refl _ | refine Ext.plus ?_ _ | refine Ext.alloc ?_ _ | refine Ext.drew ?_))⟩
      rw [HM.out]
      show Ending.returned (Value.bool _) = Ending.returned (Value.bool _)
      first | rfl | (congr 2; rw [decide_eq_decide]; omega)
    · have HM : Hid (mayG ⟨fr, ra, ke, lo, ri⟩ = false) := by show mayG _ = _; simp [mayG, HV.out, hr]
      go_enter Try.func23, Try.ntmps23
      go_wp2_with fail
      refine (valid_any ⟨fr, ra, ke, lo, ri⟩ _).mono ?_
      rintro en w1 ⟨rfl, g1, rfl⟩
      rw [HV.out]
      go_wp2_with fail
      go_ret
      exact ⟨by rw [HM.out]; rfl, (by repeat (first | exact Ext.refl _ | refine Ext.plus ?_ _ | refine Ext.alloc ?_ _ | refine Ext.drew ?_))⟩
  · have HV := Lib.hid hv
    clear hv
    have HM : Hid (mayG ⟨fr, ra, ke, lo, ri⟩ = false) := by show mayG _ = _; simp [mayG, HV.out]
    go_enter Try.func23, Try.ntmps23
    go_wp2_with fail
    refine (valid_any ⟨fr, ra, ke, lo, ri⟩ _).mono ?_
    rintro en w1 ⟨rfl, g1, rfl⟩
    rw [HV.out]
    go_wp2_with fail
    go_ret
    exact ⟨by rw [HM.out]; rfl, (by repeat (first | exact Ext.refl _ | refine Ext.plus ?_ _ | refine Ext.alloc ?_ _ | refine Ext.drew ?_))⟩

set_option maxHeartbeats 1000000 in
theorem rmay_any (g : Gov) (w : World) : Calls Try.prog 24 #[.agg g.cs] w fun e w' => e = .returned (.bool (mayG g)) ∧ Ext w w' := by
  obtain ⟨fr, ra, ke, lo, ri⟩ := g
  rcases Bool.eq_false_or_eq_true (validG ⟨fr, ra, ke, lo, ri⟩) with hv | hv
  · obtain ⟨⟨⟨a1, a2⟩, ⟨b1, b2⟩, ⟨c1, c2⟩, ⟨d1, d2⟩, ⟨f1, f2⟩⟩, hle, p1, p2⟩ := validG_facts hv
    simp only at a1 a2 b1 b2 c1 c2 d1 d2 f1 f2 hle p1 p2
    have HV := Lib.hid hv
    clear hv
    by_cases hr : ri < 1099511627776
    · have HM : Hid (mayG ⟨fr, ra, ke, lo, ri⟩ = decide (lo + ri < fr + ra * ke)) := by show mayG _ = _; simp [mayG, HV.out, hr]
      go_enter Try.func24, Try.ntmps24
      go_wp2_with fail
      refine (rvalid_any ⟨fr, ra, ke, lo, ri⟩ _).mono ?_
      rintro en w1 ⟨rfl, g1, rfl⟩
      rw [HV.out]
      go_wp2_with fail
      go_ret
      refine ⟨?_, (by repeat (first | exact Ext.refl _ | refine Ext.plus ?_ _ | refine Ext.alloc ?_ _ | refine Ext.drew ?_))⟩
      rw [HM.out]
      show Ending.returned (Value.bool _) = Ending.returned (Value.bool _)
      first | rfl | (congr 2; rw [decide_eq_decide]; omega)
    · have HM : Hid (mayG ⟨fr, ra, ke, lo, ri⟩ = false) := by show mayG _ = _; simp [mayG, HV.out, hr]
      go_enter Try.func24, Try.ntmps24
      go_wp2_with fail
      refine (rvalid_any ⟨fr, ra, ke, lo, ri⟩ _).mono ?_
      rintro en w1 ⟨rfl, g1, rfl⟩
      rw [HV.out]
      go_wp2_with fail
      go_ret
      exact ⟨by rw [HM.out]; rfl, (by repeat (first | exact Ext.refl _ | refine Ext.plus ?_ _ | refine Ext.alloc ?_ _ | refine Ext.drew ?_))⟩
  · have HV := Lib.hid hv
    clear hv
    have HM : Hid (mayG ⟨fr, ra, ke, lo, ri⟩ = false) := by show mayG _ = _; simp [mayG, HV.out]
    go_enter Try.func24, Try.ntmps24
    go_wp2_with fail
    refine (rvalid_any ⟨fr, ra, ke, lo, ri⟩ _).mono ?_
    rintro en w1 ⟨rfl, g1, rfl⟩
    rw [HV.out]
    go_wp2_with fail
    go_ret
    exact ⟨by rw [HM.out]; rfl, (by repeat (first | exact Ext.refl _ | refine Ext.plus ?_ _ | refine Ext.alloc ?_ _ | refine Ext.drew ?_))⟩

set_option maxHeartbeats 1000000 in
theorem step_any (g : Gov) (w : World) : Calls Try.prog 25 #[.agg g.cs] w fun e w' => e = .returned (.tuple #[.agg (stepG g).1.cs, .int .i64 (stepG g).2]) ∧ Ext w w' := by
  rcases Bool.eq_false_or_eq_true (mayG g) with hm | hm
  · have hr := (mayG_iff.1 hm).2.1
    have hr0 := (validG_facts (mayG_iff.1 hm).1).1.2.2.2.2.1
    have HS : Hid (stepG g = ({ g with ri := g.ri + 1 }, 0)) := by show stepG g = _; simp [stepG, hm]
    have HM := Lib.hid hm
    clear hm
    go_enter Try.func25, Try.ntmps25
    go_wp2_with fail
    refine (may_any g _).mono ?_
    rintro en w1 ⟨rfl, g1, rfl⟩
    rw [HM.out]
    go_wp2_with fail
    go_returns
    exact ⟨by rw [HS.out], (by repeat (first | exact Ext.refl _ | refine Ext.plus ?_ _ | refine Ext.alloc ?_ _ | refine Ext.drew ?_))⟩
  · have HS : Hid (stepG g = (gov0, 7)) := by show stepG g = _; simp [stepG, hm]
    have HM := Lib.hid hm
    clear hm
    go_enter Try.func25, Try.ntmps25
    go_wp2_with fail
    refine (may_any g _).mono ?_
    rintro en w1 ⟨rfl, g1, rfl⟩
    rw [HM.out]
    go_wp2_with fail
    go_returns
    exact ⟨by rw [HS.out]; rfl, (by repeat (first | exact Ext.refl _ | refine Ext.plus ?_ _ | refine Ext.alloc ?_ _ | refine Ext.drew ?_))⟩

set_option maxHeartbeats 1000000 in
theorem rstep_any (g : Gov) (w : World) : Calls Try.prog 26 #[.agg g.cs] w fun e w' => e = .returned (.tuple #[.agg (stepG g).1.cs, .int .i64 (stepG g).2]) ∧ Ext w w' := by
  rcases Bool.eq_false_or_eq_true (mayG g) with hm | hm
  · have hr := (mayG_iff.1 hm).2.1
    have hr0 := (validG_facts (mayG_iff.1 hm).1).1.2.2.2.2.1
    have HS : Hid (stepG g = ({ g with ri := g.ri + 1 }, 0)) := by show stepG g = _; simp [stepG, hm]
    have HM := Lib.hid hm
    clear hm
    go_enter Try.func26, Try.ntmps26
    go_wp2_with fail
    refine (rmay_any g _).mono ?_
    rintro en w1 ⟨rfl, g1, rfl⟩
    rw [HM.out]
    go_wp2_with fail
    go_returns
    exact ⟨by rw [HS.out], (by repeat (first | exact Ext.refl _ | refine Ext.plus ?_ _ | refine Ext.alloc ?_ _ | refine Ext.drew ?_))⟩
  · have HS : Hid (stepG g = (gov0, 7)) := by show stepG g = _; simp [stepG, hm]
    have HM := Lib.hid hm
    clear hm
    go_enter Try.func26, Try.ntmps26
    go_wp2_with fail
    refine (rmay_any g _).mono ?_
    rintro en w1 ⟨rfl, g1, rfl⟩
    rw [HM.out]
    go_wp2_with fail
    go_returns
    exact ⟨by rw [HS.out]; rfl, (by repeat (first | exact Ext.refl _ | refine Ext.plus ?_ _ | refine Ext.alloc ?_ _ | refine Ext.drew ?_))⟩

end Go.Proofs.Ytgejicpobifebaa
