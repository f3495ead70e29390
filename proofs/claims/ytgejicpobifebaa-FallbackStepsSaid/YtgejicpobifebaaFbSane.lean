/- speculatelaw32.sane returns true. -/
import Derived.Test.YtgejicpobifebaaFb
namespace Go.Proofs.Ytgejicpobifebaa
open Go.RowKit

theorem commitM_wf1 : commitM (newM 1) 1 2 = ⟨1, true, 1, 2, 0, 0, 0, 1⟩ := cm_lose 1 0 1 0 0 0 0 1 2 (by omega) (by omega) (by omega) (by omega) (by omega) (by omega) (by omega) (by omega) (by omega) (by omega) (by omega) (by omega)
theorem commitM_wf2 : commitM ⟨1, true, 1, 2, 0, 0, 0, 1⟩ 1 0 = ⟨1, false, 0, 2, 0, 0, 0, 1⟩ := cm_one 1 1 2 0 0 0 1 1 0 (by omega) (by omega)

set_option maxHeartbeats 400000 in
theorem sane_any (w : World) :
    Calls Try.prog 10 #[] w fun en w' => en = .returned (.bool true) ∧ Ext w w' := by
  go_enter Try.func10, Try.ntmps10
  go_wp2_with fail
  refine (new_ok 1 _ (by omega) (by omega)).mono ?_
  rintro en w1 ⟨rfl, g1, rfl⟩
  go_wp2_with fail
  refine (commit_any (newM 1) 1 2 _).mono ?_
  rintro en w1 ⟨m1, hm1, rfl, g2, rfl⟩
  obtain rfl : m1 = ⟨1, true, 1, 2, 0, 0, 0, 1⟩ := hm1.out.trans commitM_wf1
  clear hm1
  go_wp2_with fail
  refine (many_any (newM 1) _).mono ?_
  rintro en w1 ⟨rfl, g3, rfl⟩
  go_wp2_with fail
  refine (many_any ⟨1, true, 1, 2, 0, 0, 0, 1⟩ _).mono ?_
  rintro en w1 ⟨rfl, g4, rfl⟩
  go_wp2_with fail
  refine (commit_any ⟨1, true, 1, 2, 0, 0, 0, 1⟩ 1 0 _).mono ?_
  rintro en w1 ⟨m2, hm2, rfl, g5, rfl⟩
  obtain rfl : m2 = ⟨1, false, 0, 2, 0, 0, 0, 1⟩ := hm2.out.trans commitM_wf2
  clear hm2
  go_wp2_with fail
  refine (many_any ⟨1, false, 0, 2, 0, 0, 0, 1⟩ _).mono ?_
  rintro en w1 ⟨rfl, g6, rfl⟩
  go_wp2_with fail
  go_ret
  exact ⟨rfl, by repeat (first | exact Ext.refl _ | refine Ext.plus ?_ _ | refine Ext.alloc ?_ _)⟩

end Go.Proofs.Ytgejicpobifebaa
