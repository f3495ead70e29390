/- The small functions of the package words and of its reference. -/
import Derived.Test.YtocnbeendjabpaaDoorWdSpec
import Derived.Test.YtocnbeendjabpaaDoorMem
namespace Go.Proofs.YtocnbeendjabpaaDoor
open Go.RowKit

theorem ret_bool {a b : Bool} (h : a = b) : Ending.returned (.bool a) = .returned (.bool b) := by rw [h]
set_option maxHeartbeats 400000 in
theorem simple_any (c : Int) (w : World) :
    Calls Tryd.prog 31 #[.int .u8 c] w fun e w' => e = .returned (.bool (simpB c)) ∧ w = w' := by
  go_enter Tryd.func31, Tryd.ntmps31
  go_wp2
  all_goals go_ret
  all_goals refine ⟨?_, rfl⟩
  all_goals exact ret_bool (Bool.eq_iff_iff.2 (by simp [simpB]; omega))

set_option maxHeartbeats 400000 in
theorem plainByte_any (c : Int) (w : World) :
    Calls Tryd.prog 33 #[.int .u8 c] w fun e w' => e = .returned (.bool (simpB c)) ∧ w = w' := by
  go_enter Tryd.func33, Tryd.ntmps33
  go_wp2
  all_goals go_ret
  all_goals refine ⟨?_, rfl⟩
  all_goals exact ret_bool (Bool.eq_iff_iff.2 (by simp [simpB]; omega))

theorem mean_of (c : Int) : (((c == 34) = true ∨ (c == 92) = true) → meanV c = c ∧ meanB c = true) ∧ ((c == 110) = true → meanV c = 10 ∧ meanB c = true) ∧ ((c == 114) = true → meanV c = 13 ∧ meanB c = true) ∧
    ((c == 34) = false → (c == 92) = false → (c == 110) = false → (c == 114) = false → meanV c = 0 ∧ meanB c = false) := by
  simp only [beq_iff_eq, beq_eq_false_iff_ne]
  refine ⟨?_, ?_, ?_, ?_⟩
  · intro h; rcases h with rfl | rfl <;> decide
  · rintro rfl; decide
  · rintro rfl; decide
  · intro h1 h2 h3 h4; simp [meanV, meanB, h1, h2, h3, h4]

set_option maxHeartbeats 400000 in
theorem meaning_any (c : Int) (w : World) :
    Calls Tryd.prog 32 #[.int .u8 c] w fun e w' => e = .returned (.tuple #[.int .u8 (meanV c), .bool (meanB c)]) ∧ w = w' := by
  have H := Lib.hid (mean_of c)
  go_enter Tryd.func32, Tryd.ntmps32
  go_wp2
  all_goals go_ret2
  all_goals refine ⟨?_, rfl⟩
  · rw [(H.out.1 (.inl ‹_›)).1, (H.out.1 (.inl ‹_›)).2]; rfl
  · rw [(H.out.1 (.inr ‹_›)).1, (H.out.1 (.inr ‹_›)).2]; rfl
  · rw [(H.out.2.1 ‹_›).1, (H.out.2.1 ‹_›).2]; rfl
  · rw [(H.out.2.2.1 ‹_›).1, (H.out.2.2.1 ‹_›).2]; rfl
  · rw [(H.out.2.2.2 ‹_› ‹_› ‹_› ‹_›).1, (H.out.2.2.2 ‹_› ‹_› ‹_› ‹_›).2]; rfl

set_option maxHeartbeats 400000 in
theorem pair_any (c : Int) (w : World) :
    Calls Tryd.prog 34 #[.int .u8 c] w fun e w' => e = .returned (.tuple #[.int .u8 (meanV c), .bool (meanB c)]) ∧ w = w' := by
  have H := Lib.hid (mean_of c)
  go_enter Tryd.func34, Tryd.ntmps34
  go_wp2
  all_goals go_ret2
  all_goals refine ⟨?_, rfl⟩
  · rw [(H.out.1 (.inl ‹_›)).1, (H.out.1 (.inl ‹_›)).2]; rfl
  · rw [(H.out.1 (.inr ‹_›)).1, (H.out.1 (.inr ‹_›)).2]; rfl
  · rw [(H.out.2.1 ‹_›).1, (H.out.2.1 ‹_›).2]; rfl
  · rw [(H.out.2.2.1 ‹_›).1, (H.out.2.2.1 ‹_›).2]; rfl
  · rw [(H.out.2.2.2 ‹_› ‹_› ‹_› ‹_›).1, (H.out.2.2.2 ‹_› ‹_› ‹_› ‹_›).2]; rfl
end Go.Proofs.YtocnbeendjabpaaDoor
