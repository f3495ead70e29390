/- The walk of GovernorOpens. -/
import Derived.Test.YtgejicpobifebaaGvSane
namespace Go.Proofs.Ytgejicpobifebaa
open Go.RowKit

set_option maxRecDepth 100000 in
set_option maxHeartbeats 16000000 in
theorem opens_walk (A : Option Addr) (n cap : Nat) (b : Int) (w : World) (hb : 0 ≤ b) (_hb2 : b ≤ 255) (hn : n ≤ cap) (hc : cap ≤ 9223372036854775807) (hs : Seeds w w.heap.size A n) :
    Calls Try.prog 9 #[.slice A n cap, .int .u8 b] w fun e w' => e = .returned (.bool true) ∧ Ext w w' := by
  have HS0 := Lib.hid hs
  clear hs
  go_enter Try.func9, Try.ntmps9
  go_wp2_with fail
  refine (gsane_any _).mono ?_
  rintro en w1 ⟨rfl, hx1⟩
  go_wp2_with fail
  refine (new_dice A n cap _ hn hc).mono ?_
  rintro en w' ⟨n', cap', hn1, hn2, rfl, rfl⟩
  go_wp2_with fail
  refine (made_at _ A n' cap' w1 rfl hn2 (((HS0.out.less hn1).ext hx1 (Nat.le_refl _)).more hx1.size)).mono ?_
  rintro en w2 ⟨⟨fr, ra, ke, lo, ri⟩, k1, rfl, hG, hk1, hx2⟩
  have hx : Ext w w2 := hx1.trans (((Ext.refl w1).alloc _).trans hx2)
  clear HS0 hx1 hx2 hk1 hn1 hn2
  obtain ⟨hv, h1, h2, h3, h4, h5⟩ := hG
  simp only at h1 h2 h3 h4 h5
  obtain ⟨⟨⟨a1, a2⟩, ⟨b1, b2⟩, ⟨c1, c2⟩, ⟨d1, d2⟩, ⟨f1, f2⟩⟩, hle, p1, p2⟩ := validG_facts hv
  simp only at a1 a2 b1 b2 c1 c2 d1 d2 f1 f2 hle p1 p2
  have HV := Lib.hid hv
  clear hv
  rcases Bool.eq_false_or_eq_true (mayG ⟨fr, ra, ke, lo, ri⟩) with hm | hm
  · have hmx := (mayG_iff.1 hm).2
    simp only at hmx
    obtain ⟨hm3, hm4⟩ := hmx
    have HST : Hid (stepG ⟨fr, ra, ke, lo, ri⟩ = (⟨fr, ra, ke, lo, ri + 1⟩, 0)) := by
      show stepG ⟨fr, ra, ke, lo, ri⟩ = _
      simp [stepG, hm]
    have HM := Lib.hid hm
    clear hm
    have hvX : validG ⟨fr, ra, ke, lo, ri + 1⟩ = true := validG_iff.2 (by dsimp only; omega)
    have HK : Hid (keepG ⟨fr, ra, ke, lo, ri + 1⟩ 1 0 = (⟨fr, ra, ke + 1, lo, ri⟩, 0)) := by
      show keepG ⟨fr, ra, ke, lo, ri + 1⟩ 1 0 = _
      simp only [keepG]
      rw [if_neg (by rw [hvX]; decide), if_neg (by omega), if_neg (by omega), if_neg (by omega), Int.add_sub_cancel]
      rfl
    have HD : Hid (dropG ⟨fr, ra, ke, lo, ri + 1⟩ 1 = (⟨fr, ra, ke, lo + 1, ri⟩, 0)) := by
      show dropG ⟨fr, ra, ke, lo, ri + 1⟩ 1 = _
      simp only [dropG]
      rw [if_neg (by rw [hvX]; decide), if_neg (by omega), if_neg (by omega), if_neg (by omega), Int.add_sub_cancel]
    clear hvX
    go_wp2_with fail
    refine (may_any ⟨fr, ra, ke, lo, ri⟩ _).mono ?_
    rw [HM.out]
    rintro en w3 ⟨rfl, g3, rfl⟩
    go_wp2_with fail
    refine (step_any ⟨fr, ra, ke, lo, ri⟩ _).mono ?_
    rw [HST.out]
    rintro en w3 ⟨rfl, g4, rfl⟩
    go_wp2_with fail
    refine (keep_any ⟨fr, ra, ke, lo, ri + 1⟩ 1 0 _).mono ?_
    rw [HK.out]
    rintro en w3 ⟨rfl, g5, rfl⟩
    go_wp2_with fail
    refine (drop_any ⟨fr, ra, ke, lo, ri + 1⟩ 1 _).mono ?_
    rw [HD.out]
    rintro en w3 ⟨rfl, g6, rfl⟩
    go_wp2_with fail
    go_ret
    exact ⟨rfl, hx.trans (by repeat (first | exact Ext.refl _ | refine Ext.plus ?_ _ | refine Ext.alloc ?_ _))⟩
  · have hge : fr + ra * ke ≤ lo + ri := by
      refine Int.not_lt.1 fun h => ?_
      rw [Bool.eq_false_iff] at hm
      exact hm (mayG_iff.2 ⟨HV.out, by dsimp only; omega, h⟩)
    have HM := Lib.hid hm
    clear hm
    by_cases hmin : b % 8 ≤ ri
    · have hmul : ra * (ke + b % 8 + 1) = ra * ke + ra * (b % 8 + 1) := by rw [Int.add_assoc, Int.mul_add]
      have hmul2 : 0 ≤ ra * (b % 8 + 1) := Int.mul_nonneg b1 (by omega)
      have HD : Hid (dropG ⟨fr, ra, ke, lo, ri⟩ (b % 8) = (⟨fr, ra, ke, lo + b % 8, ri - b % 8⟩, 0)) := by
        show dropG ⟨fr, ra, ke, lo, ri⟩ _ = _
        simp only [dropG]
        rw [if_neg (by rw [HV.out]; decide), if_neg (by omega), if_neg (by omega), if_neg (by omega)]
      have HK : Hid (keepG ⟨fr, ra, ke, lo, ri⟩ (b % 8) 1 = (⟨fr, ra, ke + b % 8 + 1, lo, ri - b % 8⟩, 0)) := by
        show keepG ⟨fr, ra, ke, lo, ri⟩ _ 1 = _
        simp only [keepG]
        rw [if_neg (by rw [HV.out]; decide), if_neg (by omega), if_neg (by omega), if_neg (by omega), ← Int.add_assoc]
      have HX : Hid (mayG ⟨fr, ra, ke, lo + b % 8, ri - b % 8⟩ = false) := by
        show mayG ⟨fr, ra, ke, lo + b % 8, ri - b % 8⟩ = false
        rw [Bool.eq_false_iff]
        intro h
        have h2 := (mayG_iff.1 h).2
        dsimp only at h2
        omega
      have hvY : validG ⟨fr, ra, ke + b % 8 + 1, lo, ri - b % 8⟩ = true := validG_iff.2 (by dsimp only; omega)
      by_cases hra : 1 ≤ ra
      · have hmul3 : b % 8 + 1 ≤ ra * (b % 8 + 1) := by
          have := Int.mul_le_mul_of_nonneg_right hra (show 0 ≤ b % 8 + 1 by omega)
          omega
        have HY : Hid (mayG ⟨fr, ra, ke + b % 8 + 1, lo, ri - b % 8⟩ = true) := by
          show mayG ⟨fr, ra, ke + b % 8 + 1, lo, ri - b % 8⟩ = true
          refine mayG_iff.2 ⟨hvY, ?_, ?_⟩
          · dsimp only; omega
          · dsimp only; omega
        clear hmul hmul2 hvY
        clear hmul3
        go_wp2_with fail
        refine (may_any ⟨fr, ra, ke, lo, ri⟩ _).mono ?_
        rw [HM.out]
        rintro en w3 ⟨rfl, g3, rfl⟩
        go_wp2_with fail
        refine (drop_any ⟨fr, ra, ke, lo, ri⟩ (b % 8) _).mono ?_
        rw [HD.out]
        rintro en w3 ⟨rfl, g4, rfl⟩
        go_wp2_with fail
        refine (may_any ⟨fr, ra, ke, lo + b % 8, ri - b % 8⟩ _).mono ?_
        rw [HX.out]
        rintro en w3 ⟨rfl, g5, rfl⟩
        go_wp2_with fail
        refine (keep_any ⟨fr, ra, ke, lo, ri⟩ (b % 8) 1 _).mono ?_
        rw [HK.out]
        rintro en w3 ⟨rfl, g6, rfl⟩
        go_wp2_with fail
        refine (may_any ⟨fr, ra, ke + b % 8 + 1, lo, ri - b % 8⟩ _).mono ?_
        rw [HY.out]
        rintro en w3 ⟨rfl, g7, rfl⟩
        go_wp2_with fail
        go_ret
        exact ⟨rfl, hx.trans (by repeat (first | exact Ext.refl _ | refine Ext.plus ?_ _ | refine Ext.alloc ?_ _))⟩
      · have e0 : ra = 0 := by omega
        have hz : ra * (b % 8 + 1) = 0 := by rw [e0]; exact Int.zero_mul _
        have hz2 : ra * ke = 0 := by rw [e0]; exact Int.zero_mul _
        have hrab : (ra == 0) = true := beq_iff_eq.2 e0
        clear e0
        by_cases hm0 : 1 ≤ b % 8
        · have HY : Hid (mayG ⟨fr, ra, ke + b % 8 + 1, lo, ri - b % 8⟩ = true) := by
            show mayG ⟨fr, ra, ke + b % 8 + 1, lo, ri - b % 8⟩ = true
            refine mayG_iff.2 ⟨hvY, ?_, ?_⟩
            · dsimp only; omega
            · dsimp only; omega
          clear hmul hmul2 hvY
          clear hz hz2
          go_wp2_with fail
          refine (may_any ⟨fr, ra, ke, lo, ri⟩ _).mono ?_
          rw [HM.out]
          rintro en w3 ⟨rfl, g3, rfl⟩
          go_wp2_with fail
          refine (drop_any ⟨fr, ra, ke, lo, ri⟩ (b % 8) _).mono ?_
          rw [HD.out]
          rintro en w3 ⟨rfl, g4, rfl⟩
          go_wp2_with fail
          refine (may_any ⟨fr, ra, ke, lo + b % 8, ri - b % 8⟩ _).mono ?_
          rw [HX.out]
          rintro en w3 ⟨rfl, g5, rfl⟩
          go_wp2_with fail
          refine (keep_any ⟨fr, ra, ke, lo, ri⟩ (b % 8) 1 _).mono ?_
          rw [HK.out]
          rintro en w3 ⟨rfl, g6, rfl⟩
          go_wp2_with fail
          refine (may_any ⟨fr, ra, ke + b % 8 + 1, lo, ri - b % 8⟩ _).mono ?_
          rw [HY.out]
          rintro en w3 ⟨rfl, g7, rfl⟩
          go_wp2_with fail
          go_ret
          exact ⟨rfl, hx.trans (by repeat (first | exact Ext.refl _ | refine Ext.plus ?_ _ | refine Ext.alloc ?_ _))⟩
        · have HY : Hid (mayG ⟨fr, ra, ke + b % 8 + 1, lo, ri - b % 8⟩ = false) := by
            show mayG ⟨fr, ra, ke + b % 8 + 1, lo, ri - b % 8⟩ = false
            rw [Bool.eq_false_iff]
            intro h
            have h2 := (mayG_iff.1 h).2
            dsimp only at h2
            omega
          clear hmul hmul2 hvY
          clear hz hz2
          have hmb : (b % 8 == 0) = true := beq_iff_eq.2 (by omega)
          go_wp2_with fail
          refine (may_any ⟨fr, ra, ke, lo, ri⟩ _).mono ?_
          rw [HM.out]
          rintro en w3 ⟨rfl, g3, rfl⟩
          go_wp2_with fail
          refine (drop_any ⟨fr, ra, ke, lo, ri⟩ (b % 8) _).mono ?_
          rw [HD.out]
          rintro en w3 ⟨rfl, g4, rfl⟩
          go_wp2_with fail
          refine (may_any ⟨fr, ra, ke, lo + b % 8, ri - b % 8⟩ _).mono ?_
          rw [HX.out]
          rintro en w3 ⟨rfl, g5, rfl⟩
          go_wp2_with fail
          refine (keep_any ⟨fr, ra, ke, lo, ri⟩ (b % 8) 1 _).mono ?_
          rw [HK.out]
          rintro en w3 ⟨rfl, g6, rfl⟩
          go_wp2_with fail
          refine (may_any ⟨fr, ra, ke + b % 8 + 1, lo, ri - b % 8⟩ _).mono ?_
          rw [HY.out]
          rintro en w3 ⟨rfl, g7, rfl⟩
          go_wp2_with fail
          go_ret
          exact ⟨rfl, hx.trans (by repeat (first | exact Ext.refl _ | refine Ext.plus ?_ _ | refine Ext.alloc ?_ _))⟩
    · have hmul : ra * (ke + ri + 1) = ra * ke + ra * (ri + 1) := by rw [Int.add_assoc, Int.mul_add]
      have hmul2 : 0 ≤ ra * (ri + 1) := Int.mul_nonneg b1 (by omega)
      have HD : Hid (dropG ⟨fr, ra, ke, lo, ri⟩ ri = (⟨fr, ra, ke, lo + ri, 0⟩, 0)) := by
        show dropG ⟨fr, ra, ke, lo, ri⟩ _ = _
        simp only [dropG]
        rw [if_neg (by rw [HV.out]; decide), if_neg (by omega), if_neg (by omega), if_neg (by omega), Int.sub_self]
      have HK : Hid (keepG ⟨fr, ra, ke, lo, ri⟩ ri 1 = (⟨fr, ra, ke + ri + 1, lo, 0⟩, 0)) := by
        show keepG ⟨fr, ra, ke, lo, ri⟩ _ 1 = _
        simp only [keepG]
        rw [if_neg (by rw [HV.out]; decide), if_neg (by omega), if_neg (by omega), if_neg (by omega), ← Int.add_assoc, Int.sub_self]
      have HX : Hid (mayG ⟨fr, ra, ke, lo + ri, 0⟩ = false) := by
        show mayG ⟨fr, ra, ke, lo + ri, 0⟩ = false
        rw [Bool.eq_false_iff]
        intro h
        have h2 := (mayG_iff.1 h).2
        dsimp only at h2
        omega
      have hvY : validG ⟨fr, ra, ke + ri + 1, lo, 0⟩ = true := validG_iff.2 (by dsimp only; omega)
      by_cases hra : 1 ≤ ra
      · have hmul3 : ri + 1 ≤ ra * (ri + 1) := by
          have := Int.mul_le_mul_of_nonneg_right hra (show 0 ≤ ri + 1 by omega)
          omega
        have HY : Hid (mayG ⟨fr, ra, ke + ri + 1, lo, 0⟩ = true) := by
          show mayG ⟨fr, ra, ke + ri + 1, lo, 0⟩ = true
          refine mayG_iff.2 ⟨hvY, ?_, ?_⟩
          · dsimp only; omega
          · dsimp only; omega
        clear hmul hmul2 hvY
        clear hmul3
        go_wp2_with fail
        refine (may_any ⟨fr, ra, ke, lo, ri⟩ _).mono ?_
        rw [HM.out]
        rintro en w3 ⟨rfl, g3, rfl⟩
        go_wp2_with fail
        refine (drop_any ⟨fr, ra, ke, lo, ri⟩ ri _).mono ?_
        rw [HD.out]
        rintro en w3 ⟨rfl, g4, rfl⟩
        go_wp2_with fail
        refine (may_any ⟨fr, ra, ke, lo + ri, 0⟩ _).mono ?_
        rw [HX.out]
        rintro en w3 ⟨rfl, g5, rfl⟩
        go_wp2_with fail
        refine (keep_any ⟨fr, ra, ke, lo, ri⟩ ri 1 _).mono ?_
        rw [HK.out]
        rintro en w3 ⟨rfl, g6, rfl⟩
        go_wp2_with fail
        refine (may_any ⟨fr, ra, ke + ri + 1, lo, 0⟩ _).mono ?_
        rw [HY.out]
        rintro en w3 ⟨rfl, g7, rfl⟩
        go_wp2_with fail
        go_ret
        exact ⟨rfl, hx.trans (by repeat (first | exact Ext.refl _ | refine Ext.plus ?_ _ | refine Ext.alloc ?_ _))⟩
      · have e0 : ra = 0 := by omega
        have hz : ra * (ri + 1) = 0 := by rw [e0]; exact Int.zero_mul _
        have hz2 : ra * ke = 0 := by rw [e0]; exact Int.zero_mul _
        have hrab : (ra == 0) = true := beq_iff_eq.2 e0
        clear e0
        by_cases hm0 : 1 ≤ ri
        · have HY : Hid (mayG ⟨fr, ra, ke + ri + 1, lo, 0⟩ = true) := by
            show mayG ⟨fr, ra, ke + ri + 1, lo, 0⟩ = true
            refine mayG_iff.2 ⟨hvY, ?_, ?_⟩
            · dsimp only; omega
            · dsimp only; omega
          clear hmul hmul2 hvY
          clear hz hz2
          go_wp2_with fail
          refine (may_any ⟨fr, ra, ke, lo, ri⟩ _).mono ?_
          rw [HM.out]
          rintro en w3 ⟨rfl, g3, rfl⟩
          go_wp2_with fail
          refine (drop_any ⟨fr, ra, ke, lo, ri⟩ ri _).mono ?_
          rw [HD.out]
          rintro en w3 ⟨rfl, g4, rfl⟩
          go_wp2_with fail
          refine (may_any ⟨fr, ra, ke, lo + ri, 0⟩ _).mono ?_
          rw [HX.out]
          rintro en w3 ⟨rfl, g5, rfl⟩
          go_wp2_with fail
          refine (keep_any ⟨fr, ra, ke, lo, ri⟩ ri 1 _).mono ?_
          rw [HK.out]
          rintro en w3 ⟨rfl, g6, rfl⟩
          go_wp2_with fail
          refine (may_any ⟨fr, ra, ke + ri + 1, lo, 0⟩ _).mono ?_
          rw [HY.out]
          rintro en w3 ⟨rfl, g7, rfl⟩
          go_wp2_with fail
          go_ret
          exact ⟨rfl, hx.trans (by repeat (first | exact Ext.refl _ | refine Ext.plus ?_ _ | refine Ext.alloc ?_ _))⟩
        · have HY : Hid (mayG ⟨fr, ra, ke + ri + 1, lo, 0⟩ = false) := by
            show mayG ⟨fr, ra, ke + ri + 1, lo, 0⟩ = false
            rw [Bool.eq_false_iff]
            intro h
            have h2 := (mayG_iff.1 h).2
            dsimp only at h2
            omega
          clear hmul hmul2 hvY
          clear hz hz2
          have hmb : (ri == 0) = true := beq_iff_eq.2 (by omega)
          go_wp2_with fail
          refine (may_any ⟨fr, ra, ke, lo, ri⟩ _).mono ?_
          rw [HM.out]
          rintro en w3 ⟨rfl, g3, rfl⟩
          go_wp2_with fail
          refine (drop_any ⟨fr, ra, ke, lo, ri⟩ ri _).mono ?_
          rw [HD.out]
          rintro en w3 ⟨rfl, g4, rfl⟩
          go_wp2_with fail
          refine (may_any ⟨fr, ra, ke, lo + ri, 0⟩ _).mono ?_
          rw [HX.out]
          rintro en w3 ⟨rfl, g5, rfl⟩
          go_wp2_with fail
          refine (keep_any ⟨fr, ra, ke, lo, ri⟩ ri 1 _).mono ?_
          rw [HK.out]
          rintro en w3 ⟨rfl, g6, rfl⟩
          go_wp2_with fail
          refine (may_any ⟨fr, ra, ke + ri + 1, lo, 0⟩ _).mono ?_
          rw [HY.out]
          rintro en w3 ⟨rfl, g7, rfl⟩
          go_wp2_with fail
          go_ret
          exact ⟨rfl, hx.trans (by repeat (first | exact Ext.refl _ | refine Ext.plus ?_ _ | refine Ext.alloc ?_ _))⟩

end Go.Proofs.Ytgejicpobifebaa
