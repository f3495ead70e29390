/- The dice: numbers from a list of seeds. -/
import Derived.Test.YtgejicpobifebaaRegion
namespace Go
open Go.RowKit
theorem cell?_lt {w : World} {b o : Nat} {v : Value} (h : w.cell? ⟨b, o, none⟩ = some v) : b < w.heap.size := by
  unfold World.cell? at h
  split at h
  · rename_i hh
    exact (Array.getElem?_eq_some_iff.1 hh).1
  · cases h
theorem World.setCell_same {w : World} {b o : Nat} {v : Value} (h : w.cell? ⟨b, o, none⟩ = some v) : w.setCell ⟨b, o, none⟩ v = w := by
  obtain ⟨heap, t, d, os, out⟩ := w
  unfold World.setCell
  simp only [World.mk.injEq, and_true]
  apply Array.ext_getElem?
  intro i
  rw [Array.getElem?_modify]
  split
  · rename_i hi
    subst hi
    simp only [World.cell?] at h
    cases hh : heap[b]? with
    | none => simp [hh] at h
    | some ob =>
      rw [hh] at h
      cases ob <;> simp at h
      rename_i c t' m
      obtain ⟨hlt, hv⟩ := Array.getElem?_eq_some_iff.1 h
      simp only [Option.map_some, Option.some.injEq, Obj.cells.injEq, and_true]
      apply Array.ext_getElem?
      intro j
      simp only [Option.isSome_none, Bool.false_eq_true, if_false]
      rw [Array.getElem?_setIfInBounds]
      split
      · rename_i hj
        subst hj
        rw [h]
      · rfl
  · rfl
end Go
namespace Go.Proofs.Ytgejicpobifebaa
open Go.RowKit

/-- The seeds: n bytes in a block below B. -/
def Seeds (w : World) (B : Nat) (A : Option Addr) (n : Nat) : Prop :=
  ∀ k, k < n → ∃ b off x, A = some ⟨b, off, none⟩ ∧ b < B ∧ w.cell? ⟨b, off + k, none⟩ = some (.int .u8 x) ∧ 0 ≤ x ∧ x ≤ 255
theorem Seeds.keep {w w' : World} {B : Nat} {A : Option Addr} {n : Nat} (h : Seeds w B A n) (hk : ∀ b o, b < B → w'.cell? ⟨b, o, none⟩ = w.cell? ⟨b, o, none⟩) : Seeds w' B A n := fun k hk' => by
  obtain ⟨b, off, x, e, hb, hc, h1⟩ := h k hk'
  exact ⟨b, off, x, e, hb, (hk _ _ hb).trans hc, h1⟩
theorem Seeds.ext {w w' : World} {B : Nat} {A : Option Addr} {n : Nat} (h : Seeds w B A n) (hx : Ext w w') (hB : B ≤ w.heap.size) : Seeds w' B A n :=
  h.keep fun b o hb => hx.below.cell (p := ⟨b, o, none⟩) (Nat.lt_of_lt_of_le hb hB)
theorem Seeds.more {w : World} {B B' : Nat} {A : Option Addr} {n : Nat} (h : Seeds w B A n) (hB : B ≤ B') : Seeds w B' A n := fun k hk => by
  obtain ⟨b, off, x, e, hb, hc, h1⟩ := h k hk
  exact ⟨b, off, x, e, by omega, hc, h1⟩
theorem Seeds.less {w : World} {B : Nat} {A : Option Addr} {n n' : Nat} (h : Seeds w B A n) (hn : n' ≤ n) : Seeds w B A n' := fun k hk => h k (by omega)
theorem Seeds.alloc {w : World} {B : Nat} {A : Option Addr} {n : Nat} (h : Seeds w B A n) (o : Obj) (hB : B ≤ w.heap.size) : Seeds (w.alloc o) B A n := h.ext ((Ext.refl _).alloc _) hB
theorem Seeds.plus {w : World} {B : Nat} {A : Option Addr} {n : Nat} (h : Seeds w B A n) (g : Growth) (hB : B ≤ w.heap.size) : Seeds (w.plus g) B A n := h.ext ⟨g, rfl⟩ hB

set_option maxHeartbeats 1000000 in
theorem pick_any (D : Nat) (A : Option Addr) (n cap k : Nat) (m : Int) (w : World) (hm : 1 ≤ m) (hm2 : m ≤ 1000000) (hn : n ≤ 1000000) (hk : k ≤ n)
    (h0 : w.cell? ⟨D, 0, none⟩ = some (.slice A n cap)) (h1 : w.cell? ⟨D, 1, none⟩ = some (.int .i64 k)) (hf : w.frozen? ⟨D, 1, none⟩ = false) (hs : Seeds w D A n) :
    Calls Try.prog 31 #[.pointer (some ⟨D, 0, none⟩), .int .i64 m] w fun e w' =>
      ∃ (r : Int) (k' : Nat) (g : Growth), e = .returned (.int .i64 r) ∧ 0 ≤ r ∧ r < m ∧ k' ≤ n ∧ w' = (w.setCell ⟨D, 1, none⟩ (.int .i64 k')).plus g := by
  have hD := cell?_lt h0
  by_cases hlt : k < n
  · obtain ⟨b, off, x, rfl, hb, hc, hx1, hx2⟩ := hs k hlt
    have hne : b ≠ D := by omega
    have hbw := cell?_lt hc
    clear hs hb
    have hm0 : (m == 0) = false := by rw [beq_eq_false_iff_ne]; omega
    go_enter Try.func31, Try.ntmps31
    go_wp2_with fail
    refine wp_region_ext (by kernel_rfl) (by kernel_rfl) ?_
    repeat (go_big_quiet_step (fail))
    refine wpQuiet_nil ?_
    rintro _ ⟨g1, rfl⟩
    go_wp2_with fail
    have c0 : (w.setCell ⟨D, 1, none⟩ (.int .i64 (k + 1))).cell? ⟨D, 0, none⟩ = some (.slice (some ⟨b, off, none⟩) n cap) :=
      (World.cell?_setCell_other w ⟨D, 1, none⟩ ⟨D, 0, none⟩ _ (by simp)).trans h0
    have c1 : (w.setCell ⟨D, 1, none⟩ (.int .i64 (k + 1))).cell? ⟨D, 1, none⟩ = some (.int .i64 (k + 1)) := by
      simp [World.cell?_setCell_same, h1, go_sem]
    have c2 : (w.setCell ⟨D, 1, none⟩ (.int .i64 (k + 1))).cell? ⟨b, off + k, none⟩ = some (.int .u8 x) :=
      (World.cell?_setCell_other w ⟨D, 1, none⟩ ⟨b, off + k, none⟩ _ (by intro e; injection e; exact hne (Eq.symm (by assumption)))).trans hc
    have c3 : D < (w.setCell ⟨D, 1, none⟩ (.int .i64 (k + 1))).heap.size := by simpa using hD
    have c4 : b < (w.setCell ⟨D, 1, none⟩ (.int .i64 (k + 1))).heap.size := by simpa using hbw
    generalize hS : w.setCell ⟨D, 1, none⟩ (.int .i64 (k + 1)) = wS at c0 c1 c2 c3 c4 ⊢
    have HS := Lib.hid hS
    clear hS h0 h1 hc hf
    refine wp_region_ext (by kernel_rfl) (by kernel_rfl) ?_
    repeat (go_big_quiet_step (fail))
    refine wpQuiet_nil ?_
    rintro _ ⟨g2, rfl⟩
    go_wp2_with fail
    go_ret
    refine ⟨x % m, k + 1, g1.add g2, rfl, Int.emod_nonneg _ (by omega), Int.emod_lt_of_pos _ (by omega), by omega, ?_⟩
    rw [World.plus_plus, ← HS.out]
    rfl
  · obtain rfl : k = n := by omega
    go_enter Try.func31, Try.ntmps31
    go_wp2_with fail
    refine wp_region_ext (by kernel_rfl) (by kernel_rfl) ?_
    repeat (go_big_quiet_step (fail))
    refine wpQuiet_nil ?_
    rintro _ ⟨g1, rfl⟩
    go_wp2_with fail
    go_ret
    exact ⟨0, k, g1, rfl, by omega, by omega, by omega, by rw [World.setCell_same h1]⟩

/-- speculatemade.New: a die over the first 200 seeds, in a new block. -/
def NewPost (A : Option Addr) (n : Nat) (w : World) (e : Ending) (w' : World) : Prop :=
  ∃ n' cap' : Nat, n' ≤ n ∧ n' ≤ 200 ∧ e = .returned (.pointer (some ⟨w.heap.size, 0, none⟩)) ∧ w' = w.alloc (.cells #[.slice A n' cap', .int .i64 0] 67)

set_option maxHeartbeats 1000000 in
theorem new_dice (A : Option Addr) (n cap : Nat) (w : World) (hn : n ≤ cap) (hc : cap ≤ 9223372036854775807) : Calls Try.prog 20 #[.slice A n cap] w (NewPost A n w) := by
  by_cases h : 200 < n
  · go_enter Try.func20, Try.ntmps20
    go_wp2_with fail
    go_in
    go_wp2_with fail
    go_ret
    exact ⟨200, cap, by omega, by omega, rfl, rfl⟩
  · go_enter Try.func20, Try.ntmps20
    go_wp2_with fail
    go_in
    go_wp2_with fail
    go_ret
    exact ⟨n, cap, by omega, by omega, rfl, rfl⟩

end Go.Proofs.Ytgejicpobifebaa
