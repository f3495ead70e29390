/- The walk of GovernorBounds. -/
import Derived.Test.YtgejicpobifebaaGvSane
namespace Go.Proofs.Ytgejicpobifebaa
open Go.RowKit

def BoundsRel (A : Option Addr) (n' cap' : Nat) (w1 : World) (v9 v10 v11 v12 : Value) (wr : World) : Prop :=
  ∃ (j k : Nat) (mk : Int) (G : Gov), v9 = .int .i64 mk ∧ v10 = .int .i64 G.ke ∧ v11 = .int .i64 G.lo ∧ v12 = .int .i64 j ∧ j ≤ 60 ∧ k ≤ n' ∧ validG G = true ∧ G.fr < 20 ∧ G.ra < 4 ∧ G.ke ≤ 10 * j ∧ mk ≤ j ∧ G.lo + G.ri ≤ mk ∧
    Ext ((w1.alloc (.cells #[.slice A n' cap', .int .i64 k] 67)).alloc (.cells G.cs 43)) wr

set_option maxRecDepth 100000 in
set_option maxHeartbeats 16000000 in
theorem bounds_walk (A : Option Addr) (n cap : Nat) (a b : Int) (w : World) (ha : 0 ≤ a) (_ha2 : a ≤ 255) (hb : 0 ≤ b) (_hb2 : b ≤ 255) (hn : n ≤ cap) (hc : cap ≤ 9223372036854775807) (hs : Seeds w w.heap.size A n) :
    Calls Try.prog 8 #[.slice A n cap, .int .u8 a, .int .u8 b] w fun e w' => e = .returned (.bool true) ∧ Ext w w' := by
  have HS0 := Lib.hid hs
  clear hs
  go_enter Try.func8, Try.ntmps8
  go_wp2_with fail
  refine (gsane_any _).mono ?_
  rintro en w1 ⟨rfl, hx1⟩
  go_wp2_with fail
  refine (new_dice A n cap _ hn hc).mono ?_
  rintro en w' ⟨n', cap', hn1, hn2, rfl, rfl⟩
  have HS : Hid (Seeds w1 w1.heap.size A n') := ((HS0.out.less hn1).ext hx1 (Nat.le_refl _)).more hx1.size
  clear HS0
  go_wp2_with fail
  go_loopw [9, 10, 11, 12] (fun v9 v10 v11 v12 wr => BoundsRel A n' cap' w1 v9 v10 v11 v12 wr) (fun _ _ _ i _ => 60 - (intOf i).toNat)
  case atStart => exact ⟨0, 0, 0, ⟨a % 20, b % 4, 0, 0, 0⟩, rfl, rfl, rfl, rfl, by omega, by omega, validG_iff.2 (by dsimp only; omega), by dsimp only; omega, by dsimp only; omega, by dsimp only; omega, by omega, by dsimp only; omega, Ext.refl _⟩
  case round =>
    obtain ⟨j, k, mk, ⟨fr, ra, ke, lo, ri⟩, rfl, rfl, rfl, rfl, hj, hk, hv, hfr, hra, hke, hmk, hlr, gr, rfl⟩ := hrel
    simp only at hfr hra hke hlr
    obtain ⟨⟨⟨a1, a2⟩, ⟨b1, b2⟩, ⟨c1, c2⟩, ⟨e1, e2⟩, ⟨f1, f2⟩⟩, hle, p1, p2⟩ := validG_facts hv
    simp only at a1 a2 b1 b2 c1 c2 e1 e2 f1 f2 hle p1 p2
    have HV := Lib.hid hv
    clear hv
    by_cases hlt : j < 60
    · go_wp2_with fail
      refine (pick_any w1.heap.size A n' cap' k 5 _ (by omega) (by omega) (by omega) (by omega) (by simp [go_sem]) (by simp [go_sem]) (by simp [go_sem]) (HS.out.ext (by repeat (first | exact Ext.refl _ | refine Ext.plus ?_ _ | refine Ext.alloc ?_ _)) (Nat.le_refl _))).mono ?_
      rintro en w' ⟨cr, ck, c, rfl, c1, c2, c3, rfl⟩
      go_wp2_with fail
      refine (pick_any w1.heap.size A n' cap' ck 4 _ (by omega) (by omega) (by omega) (by omega) (by simp [go_sem]) (by simp [go_sem]) (by simp [go_sem]) (HS.out.ext (by repeat (first | exact Ext.refl _ | refine Ext.plus ?_ _ | refine Ext.alloc ?_ _)) (Nat.le_refl _))).mono ?_
      rintro en w' ⟨r0, dk, d, rfl, q1, q2, d3, rfl⟩
      obtain ⟨dr, rfl⟩ : ∃ dr, dr = cr := ⟨_, rfl⟩
      by_cases hr0 : r0 = 0
      · have hb0 : (r0 == 0) = true := beq_iff_eq.2 hr0
        clear hr0
        go_wp2_with fail
        by_cases hx : dr ≤ ri
        · have HN : Hid (validG ⟨fr, ra, ke + dr + 2, lo, ri - dr⟩ = true) := by
            show validG ⟨fr, ra, ke + dr + 2, lo, ri - dr⟩ = true
            refine validG_iff.2 ?_
            have hmul : ra * (ke + dr + 2) = ra * ke + ra * (dr + 2) := by rw [Int.add_assoc, Int.mul_add]
            have hmul2 : 0 ≤ ra * (dr + 2) := Int.mul_nonneg b1 (by omega)
            dsimp only
            omega
          have HK : Hid (keepG ⟨fr, ra, ke, lo, ri⟩ dr 2 = (⟨fr, ra, ke + dr + 2, lo, ri - dr⟩, 0)) := by
            show keepG ⟨fr, ra, ke, lo, ri⟩ dr 2 = _
            simp only [keepG]
            rw [if_neg (by rw [HV.out]; decide), if_neg (by omega), if_neg (by omega), if_neg (by omega), ← Int.add_assoc]
          obtain ⟨⟨⟨a1, a2⟩, ⟨b1, b2⟩, ⟨c1, c2⟩, ⟨d1', d2'⟩, ⟨f1, f2⟩⟩, hle', p1', p2'⟩ := validG_facts HN.out
          simp only at a1 a2 b1 b2 c1 c2 d1' d2' f1 f2 hle' p1' p2'
          refine (keep_any ⟨fr, ra, ke, lo, ri⟩ dr 2 _).mono ?_
          rw [HK.out]
          rintro en w3 ⟨rfl, g4, rfl⟩
          go_wp2_with fail
          refine (valid_any ⟨fr, ra, ke + dr + 2, lo, ri - dr⟩ _).mono ?_
          rw [HN.out]
          rintro en w3 ⟨rfl, g5, rfl⟩
          go_wp2_with fail
          go_roundw
          case rel => exact ⟨j + 1, dk, mk, ⟨fr, ra, ke + dr + 2, lo, ri - dr⟩, rfl, by go_num, rfl, by go_num, by omega, by omega, HN.out, by dsimp only; omega, by dsimp only; omega, by dsimp only; omega, by omega, by dsimp only; omega, (by repeat (first | exact Ext.refl _ | refine Ext.plus ?_ _ | refine Ext.alloc ?_ _))⟩
          case measure => simp [intOf]; omega
        · have HK : Hid (keepG ⟨fr, ra, ke, lo, ri⟩ dr 2 = (gov0, 9)) := by
            show keepG ⟨fr, ra, ke, lo, ri⟩ dr 2 = _
            simp only [keepG]
            rw [if_neg (by rw [HV.out]; decide), if_neg (by omega), if_pos (by omega)]
          have HN := HV
          refine (keep_any ⟨fr, ra, ke, lo, ri⟩ dr 2 _).mono ?_
          rw [HK.out]
          rintro en w3 ⟨rfl, g4, rfl⟩
          go_wp2_with fail
          refine (valid_any ⟨fr, ra, ke, lo, ri⟩ _).mono ?_
          rw [HN.out]
          rintro en w3 ⟨rfl, g5, rfl⟩
          go_wp2_with fail
          go_roundw
          case rel => exact ⟨j + 1, dk, mk, ⟨fr, ra, ke, lo, ri⟩, rfl, by go_num, rfl, by go_num, by omega, by omega, HN.out, by dsimp only; omega, by dsimp only; omega, by dsimp only; omega, by omega, by dsimp only; omega, (by repeat (first | exact Ext.refl _ | refine Ext.plus ?_ _ | refine Ext.alloc ?_ _))⟩
          case measure => simp [intOf]; omega
      · have hb0 : (r0 == 0) = false := beq_eq_false_iff_ne.2 hr0
        clear hr0
        by_cases hr1 : r0 = 1
        · have hb1 : (r0 == 1) = true := beq_iff_eq.2 hr1
          clear hr1
          go_wp2_with fail
          by_cases hx : dr ≤ ri
          · have HN : Hid (validG ⟨fr, ra, ke, lo + dr, ri - dr⟩ = true) := by
              show validG ⟨fr, ra, ke, lo + dr, ri - dr⟩ = true
              refine validG_iff.2 ?_
              dsimp only
              omega
            have HK : Hid (dropG ⟨fr, ra, ke, lo, ri⟩ dr = (⟨fr, ra, ke, lo + dr, ri - dr⟩, 0)) := by
              show dropG ⟨fr, ra, ke, lo, ri⟩ dr = _
              simp only [dropG]
              rw [if_neg (by rw [HV.out]; decide), if_neg (by omega), if_neg (by omega), if_neg (by omega)]
            obtain ⟨⟨⟨a1, a2⟩, ⟨b1, b2⟩, ⟨c1, c2⟩, ⟨d1', d2'⟩, ⟨f1, f2⟩⟩, hle', p1', p2'⟩ := validG_facts HN.out
            simp only at a1 a2 b1 b2 c1 c2 d1' d2' f1 f2 hle' p1' p2'
            refine (drop_any ⟨fr, ra, ke, lo, ri⟩ dr _).mono ?_
            rw [HK.out]
            rintro en w3 ⟨rfl, g4, rfl⟩
            go_wp2_with fail
            refine (valid_any ⟨fr, ra, ke, lo + dr, ri - dr⟩ _).mono ?_
            rw [HN.out]
            rintro en w3 ⟨rfl, g5, rfl⟩
            go_wp2_with fail
            go_roundw
            case rel => exact ⟨j + 1, dk, mk, ⟨fr, ra, ke, lo + dr, ri - dr⟩, rfl, by go_num, rfl, by go_num, by omega, by omega, HN.out, by dsimp only; omega, by dsimp only; omega, by dsimp only; omega, by omega, by dsimp only; omega, (by repeat (first | exact Ext.refl _ | refine Ext.plus ?_ _ | refine Ext.alloc ?_ _))⟩
            case measure => simp [intOf]; omega
          · have HK : Hid (dropG ⟨fr, ra, ke, lo, ri⟩ dr = (gov0, 9)) := by
              show dropG ⟨fr, ra, ke, lo, ri⟩ dr = _
              simp only [dropG]
              rw [if_neg (by rw [HV.out]; decide), if_neg (by omega), if_pos (by omega)]
            have HN := HV
            refine (drop_any ⟨fr, ra, ke, lo, ri⟩ dr _).mono ?_
            rw [HK.out]
            rintro en w3 ⟨rfl, g4, rfl⟩
            go_wp2_with fail
            refine (valid_any ⟨fr, ra, ke, lo, ri⟩ _).mono ?_
            rw [HN.out]
            rintro en w3 ⟨rfl, g5, rfl⟩
            go_wp2_with fail
            go_roundw
            case rel => exact ⟨j + 1, dk, mk, ⟨fr, ra, ke, lo, ri⟩, rfl, by go_num, rfl, by go_num, by omega, by omega, HN.out, by dsimp only; omega, by dsimp only; omega, by dsimp only; omega, by omega, by dsimp only; omega, (by repeat (first | exact Ext.refl _ | refine Ext.plus ?_ _ | refine Ext.alloc ?_ _))⟩
            case measure => simp [intOf]; omega
        · have hb1 : (r0 == 1) = false := beq_eq_false_iff_ne.2 hr1
          clear hr1
          rcases Bool.eq_false_or_eq_true (mayG ⟨fr, ra, ke, lo, ri⟩) with hm | hm
          · have hm2 := (mayG_iff.1 hm).2
            simp only at hm2
            obtain ⟨hm3, hm4⟩ := hm2
            have HST : Hid (stepG ⟨fr, ra, ke, lo, ri⟩ = (⟨fr, ra, ke, lo, ri + 1⟩, 0)) := by
              show stepG ⟨fr, ra, ke, lo, ri⟩ = _
              simp [stepG, hm]
            have HM := Lib.hid hm
            clear hm
            have HN : Hid (validG ⟨fr, ra, ke, lo, ri + 1⟩ = true) := by
              show validG ⟨fr, ra, ke, lo, ri + 1⟩ = true
              refine validG_iff.2 ?_
              dsimp only
              omega
            go_wp2_with fail
            refine (may_any ⟨fr, ra, ke, lo, ri⟩ _).mono ?_
            rw [HM.out]
            rintro en w3 ⟨rfl, g3, rfl⟩
            go_wp2_with fail
            obtain ⟨⟨⟨a1, a2⟩, ⟨b1, b2⟩, ⟨c1, c2⟩, ⟨d1', d2'⟩, ⟨f1, f2⟩⟩, hle', p1', p2'⟩ := validG_facts HN.out
            simp only at a1 a2 b1 b2 c1 c2 d1' d2' f1 f2 hle' p1' p2'
            refine (step_any ⟨fr, ra, ke, lo, ri⟩ _).mono ?_
            rw [HST.out]
            rintro en w3 ⟨rfl, g4, rfl⟩
            go_wp2_with fail
            refine (valid_any ⟨fr, ra, ke, lo, ri + 1⟩ _).mono ?_
            rw [HN.out]
            rintro en w3 ⟨rfl, g5, rfl⟩
            go_wp2_with fail
            go_roundw
            case rel => exact ⟨j + 1, dk, (mk + 1), ⟨fr, ra, ke, lo, ri + 1⟩, rfl, by go_num, rfl, by go_num, by omega, by omega, HN.out, by dsimp only; omega, by dsimp only; omega, by dsimp only; omega, by omega, by dsimp only; omega, (by repeat (first | exact Ext.refl _ | refine Ext.plus ?_ _ | refine Ext.alloc ?_ _))⟩
            case measure => simp [intOf]; omega
          · have HST : Hid (stepG ⟨fr, ra, ke, lo, ri⟩ = (gov0, 7)) := by
              show stepG ⟨fr, ra, ke, lo, ri⟩ = _
              simp [stepG, hm]
            have HM := Lib.hid hm
            clear hm
            have HN := HV
            go_wp2_with fail
            refine (may_any ⟨fr, ra, ke, lo, ri⟩ _).mono ?_
            rw [HM.out]
            rintro en w3 ⟨rfl, g3, rfl⟩
            go_wp2_with fail
            refine (step_any ⟨fr, ra, ke, lo, ri⟩ _).mono ?_
            rw [HST.out]
            rintro en w3 ⟨rfl, g4, rfl⟩
            go_wp2_with fail
            refine (valid_any ⟨fr, ra, ke, lo, ri⟩ _).mono ?_
            rw [HN.out]
            rintro en w3 ⟨rfl, g5, rfl⟩
            go_wp2_with fail
            go_roundw
            case rel => exact ⟨j + 1, dk, mk, ⟨fr, ra, ke, lo, ri⟩, rfl, by go_num, rfl, by go_num, by omega, by omega, HN.out, by dsimp only; omega, by dsimp only; omega, by dsimp only; omega, by omega, by dsimp only; omega, (by repeat (first | exact Ext.refl _ | refine Ext.plus ?_ _ | refine Ext.alloc ?_ _))⟩
            case measure => simp [intOf]; omega
    · go_wp2_with fail
      go_ret
      exact ⟨rfl, hx1.trans (by repeat (first | exact Ext.refl _ | refine Ext.plus ?_ _ | refine Ext.alloc ?_ _))⟩

end Go.Proofs.Ytgejicpobifebaa
