/- speculatelaw01.sane returns true. -/
import Derived.Test.YtocnbeendjabpaaDoorFmt
import Derived.Test.YtocnbeendjabpaaDoorWdEq
namespace Go.Proofs.YtocnbeendjabpaaDoor
open Go.RowKit

theorem sane_split : splitR (ints ⟨#[114, 117, 110, 32, 34, 97, 32, 98, 34, 32, 51]⟩) = (0, [⟨#[114, 117, 110]⟩, ⟨#[97, 32, 98]⟩, ⟨#[51]⟩]) := by decide +kernel
theorem sane_join : joinR [⟨#[97]⟩, ⟨#[]⟩] = (⟨#[97, 32, 34, 34]⟩, 0) := by decide +kernel
theorem sane_num : numR (⟨#[45, 49, 55]⟩ : ByteArray).data.toList = (-17, 0) := by decide +kernel
theorem sane_lines : linesR ⟨#[97, 10, 10, 98]⟩ = [⟨#[97]⟩, ⟨#[]⟩, ⟨#[98]⟩] := by decide +kernel

set_option maxRecDepth 100000 in
set_option maxHeartbeats 2000000 in
theorem wsane_any (w : World) (hE : Env w) : Calls Tryd.prog 9 #[] w fun e w' => e = .returned (.bool true) ∧ Below w.heap.size w w' := by
  have HE := Lib.hid hE
  clear hE
  go_enter Tryd.func9, Tryd.ntmps9
  go_wp2_with fail
  refine (split_any _ w).mono ?_
  rw [sane_split]
  rintro e w1 ⟨V, rfl, hb1, hown1⟩
  obtain ⟨g, cap, rfl, hg1, hg2⟩ := hown1.form (by decide)
  have hc1 : w1.cell? ⟨g, 1, none⟩ = some (.string ⟨#[97, 32, 98]⟩) := hown1.cells (g := g) rfl 1 _ rfl
  have HB1 := Lib.hid hb1
  have HE1 := Lib.hid (HE.out.below hb1 (Nat.le_refl _))
  clear hown1 hb1
  go_wp2_with fail
  have hw2 : Below w1.heap.size w1 (w1.alloc (.cells #[.string ⟨#[97]⟩, .string ⟨#[]⟩] 9)) := (Below.refl _ _).alloc (Nat.le_refl _) _
  have hrd : Rd (w1.alloc (.cells #[.string ⟨#[97]⟩, .string ⟨#[]⟩] 9)) (some ⟨w1.heap.size, 0, none⟩) [⟨#[97]⟩, ⟨#[]⟩] := by
    intro k hk
    have hW := Whole.new (t := 9) w1 #[.string ⟨#[97]⟩, .string ⟨#[]⟩]
    refine ⟨_, 0, rfl, ?_⟩
    rw [Nat.zero_add, hW.cell k]
    match k, hk with
    | 0, _ => rfl
    | 1, _ => rfl
  have HW2 := Lib.hid hw2
  have HRD := Lib.hid hrd
  clear hw2 hrd
  refine (join_any _ 2 [⟨#[97]⟩, ⟨#[]⟩] _ HRD.out (by intro x hx; simp at hx; rcases hx with rfl | rfl <;> decide)).mono ?_
  unfold JoinPost
  rw [sane_join]
  rintro e w2 ⟨rfl, hb2⟩
  have hb12 := HW2.out.trans (hb2.mono (by simp))
  have hc2 := cell_stays hb12 (Nat.le_refl _) hc1
  have HB2 := Lib.hid (HB1.out.trans (hb12.mono HB1.out.size))
  have HE2 := Lib.hid (HE1.out.below hb12 (Nat.le_refl _))
  clear hc1 hb2 hb12
  obtain ⟨ev, hev, hev2⟩ := HE2.out.err
  have HEV := Lib.hid hev
  have HEV2 := Lib.hid hev2
  clear hev hev2
  go_wp2_with fail
  refine (number_any ⟨#[45, 49, 55]⟩ ev w2 (by decide) HEV.out HEV2.out).mono ?_
  unfold NumPost
  rw [sane_num]
  rintro e w3 ⟨rfl, hb3⟩
  have hc3 := cell_stays hb3 (Nat.le_refl _) hc2
  have HB3 := Lib.hid (HB2.out.trans (hb3.mono HB2.out.size))
  have HE3 := Lib.hid (HE2.out.below hb3 (Nat.le_refl _))
  clear hc2 hb3
  obtain ⟨m, hm⟩ := HE3.out.maxlen
  have HM := Lib.hid hm
  clear hm
  go_wp2_with fail
  refine (lines_any ⟨#[97, 10, 10, 98]⟩ m w3 (by decide) HM.out).mono ?_
  rw [sane_lines]
  rintro e w4 ⟨V4, rfl, hb4, hown4⟩
  obtain ⟨g4, cap4, rfl, _, _⟩ := hown4.form (by decide)
  have HB4 := Lib.hid (HB3.out.trans (hb4.mono HB3.out.size))
  clear hown4 hb4
  go_wp2_with fail
  go_ret
  exact ⟨rfl, HB4.out⟩
end Go.Proofs.YtocnbeendjabpaaDoor
