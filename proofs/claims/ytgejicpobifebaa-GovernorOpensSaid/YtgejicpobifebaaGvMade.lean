/- speculatelaw31.made: a governor after some steps. -/
import Derived.Test.YtgejicpobifebaaMix
import Derived.Test.YtgejicpobifebaaDice
import Derived.Test.YtgejicpobifebaaGvC
namespace Go.Proofs.Ytgejicpobifebaa
open Go.RowKit

def MadeGov (G : Gov) (j : Int) : Prop := validG G = true ∧ G.fr ≤ 20 ∧ G.ra ≤ 4 ∧ G.ke ≤ 10 * j ∧ G.lo ≤ 4 * j ∧ G.ri ≤ j
structure KXG where
  k : Nat
  x : Gov
  g : Growth
instance : Inhabited KXG := ⟨⟨0, gov0, ⟨#[], 0⟩⟩⟩

theorem keepG_made {G : Gov} {j r o : Int} (hG : MadeGov G j) (hj : j ≤ 40) (hr : 0 ≤ r) (hr2 : r < 4) (ho : 0 ≤ o) (ho2 : o < 5) (h : (keepG G r o).2 = 0) : MadeGov (keepG G r o).1 (j + 1) := by
  obtain ⟨hv, h1, h2, h3, h4, h5⟩ := hG
  obtain ⟨a, b, c, d, e, f⟩ := validG_iff.1 hv
  unfold keepG at h ⊢
  rw [if_neg (by rw [hv]; decide)] at h ⊢
  rw [if_neg (by omega)] at h ⊢
  by_cases hx : G.ri < r
  · rw [if_pos hx] at h; simp at h
  · rw [if_neg hx, if_neg (by omega)] at h ⊢
    refine ⟨validG_iff.2 ?_, h1, h2, ?_, ?_, ?_⟩
    · have hmul : G.ra * (G.ke + (r + o)) = G.ra * G.ke + G.ra * (r + o) := Int.mul_add _ _ _
      have hmul2 : 0 ≤ G.ra * (r + o) := Int.mul_nonneg b.1 (by omega)
      dsimp only
      omega
    · dsimp only; omega
    · dsimp only; omega
    · dsimp only; omega
theorem dropG_made {G : Gov} {j r : Int} (hG : MadeGov G j) (hj : j ≤ 40) (hr : 0 ≤ r) (hr2 : r < 4) (h : (dropG G r).2 = 0) : MadeGov (dropG G r).1 (j + 1) := by
  obtain ⟨hv, h1, h2, h3, h4, h5⟩ := hG
  obtain ⟨a, b, c, d, e, f⟩ := validG_iff.1 hv
  unfold dropG at h ⊢
  rw [if_neg (by rw [hv]; decide)] at h ⊢
  rw [if_neg (by omega)] at h ⊢
  by_cases hx : G.ri < r
  · rw [if_pos hx] at h; simp at h
  · rw [if_neg hx, if_neg (by omega)] at h ⊢
    refine ⟨validG_iff.2 ?_, h1, h2, ?_, ?_, ?_⟩
    all_goals dsimp only
    all_goals omega
theorem stepG_made {G : Gov} {j : Int} (hG : MadeGov G j) (h : (stepG G).2 = 0) : MadeGov (stepG G).1 (j + 1) := by
  obtain ⟨hv, h1, h2, h3, h4, h5⟩ := hG
  obtain ⟨a, b, c, d, e, f⟩ := validG_iff.1 hv
  unfold stepG at h ⊢
  by_cases hm : mayG G = true
  · rw [if_pos hm] at h ⊢
    have h6 := (mayG_iff.1 hm).2
    refine ⟨validG_iff.2 ?_, h1, h2, ?_, ?_, ?_⟩
    all_goals dsimp only
    all_goals omega
  · rw [if_neg hm] at h; simp at h
theorem MadeGov.more {G : Gov} {j : Int} (h : MadeGov G j) : MadeGov G (j + 1) := by
  obtain ⟨hv, h1, h2, h3, h4, h5⟩ := h
  exact ⟨hv, h1, h2, by omega, by omega, by omega⟩

theorem MadeGov.next {G : Gov} {j : Nat} (hj : 0 < j) (h : MadeGov G (40 - (j : Int) + 1)) : MadeGov G (40 - ((j - 1 : Nat) : Int)) := by
  have e : (40 - ((j - 1 : Nat) : Int)) = 40 - (j : Int) + 1 := by omega
  rw [e]; exact h

def MadeRel (A : Option Addr) (n cap : Nat) (W0 : World) (o1 : Growth) (o2 : Obj) (o3 : Growth) (v4 : Value) (wr : World) : Prop :=
  ∃ (j k : Nat) (G : Gov), v4 = .int .i64 j ∧ j ≤ 40 ∧ k ≤ n ∧ MadeGov G (40 - j) ∧ Ext (((((W0.alloc (.cells #[.slice A n cap, .int .i64 k] 67)).plus o1).alloc o2).plus o3).alloc (.cells G.cs 43)) wr

set_option maxRecDepth 100000 in
set_option maxHeartbeats 8000000 in
theorem made_any (A : Option Addr) (n cap k : Nat) (W0 : World) (g0 : Growth) (hn : n ≤ 200) (hk : k ≤ n) (hs : Seeds W0 W0.heap.size A n) :
    Calls Try.prog 19 #[.pointer (some ⟨W0.heap.size, 0, none⟩)] ((W0.alloc (.cells #[.slice A n cap, .int .i64 k] 67)).plus g0) fun e w' =>
      ∃ (G : Gov) (k' : Nat), e = .returned (.agg G.cs) ∧ MadeGov G 40 ∧ k' ≤ n ∧ Ext (W0.alloc (.cells #[.slice A n cap, .int .i64 k'] 67)) w' := by
  have HS := Lib.hid hs
  clear hs
  go_enter Try.func19, Try.ntmps19
  go_wp2_with fail
  refine (pick_any W0.heap.size A n cap k 20 _ (by omega) (by omega) (by omega) (by omega) (by simp [go_sem]) (by simp [go_sem]) (by simp [go_sem]) (HS.out.ext (by repeat (first | exact Ext.refl _ | refine Ext.plus ?_ _ | refine Ext.alloc ?_ _)) (Nat.le_refl _))).mono ?_
  rintro en w' ⟨ar, ak, a, rfl, a1, a2, a3, rfl⟩
  go_wp2_with fail
  refine (pick_any W0.heap.size A n cap ak 4 _ (by omega) (by omega) (by omega) (by omega) (by simp [go_sem]) (by simp [go_sem]) (by simp [go_sem]) (HS.out.ext (by repeat (first | exact Ext.refl _ | refine Ext.plus ?_ _ | refine Ext.alloc ?_ _)) (Nat.le_refl _))).mono ?_
  rintro en w' ⟨br, bk, b, rfl, b1, b2, b3, rfl⟩
  go_wp2_with fail
  refine (pick_any W0.heap.size A n cap bk 40 _ (by omega) (by omega) (by omega) (by omega) (by simp [go_sem]) (by simp [go_sem]) (by simp [go_sem]) (HS.out.ext (by repeat (first | exact Ext.refl _ | refine Ext.plus ?_ _ | refine Ext.alloc ?_ _)) (Nat.le_refl _))).mono ?_
  rintro en w' ⟨cr, ck, c, rfl, c1, c2, c3, rfl⟩
  go_wp2_with fail
  obtain ⟨cj, rfl⟩ := Int.eq_ofNat_of_zero_le c1
  go_loopw [4] (fun v4 wr => MadeRel A n cap W0 g0 (.cells gov0.cs 43) (a.add b) v4 wr) (fun i _ => (intOf i).toNat)
  case atStart => exact ⟨cj, ck, ⟨ar, br, 0, 0, 0⟩, rfl, by omega, c3, ⟨validG_iff.2 (by dsimp only; omega), by dsimp only; omega, by dsimp only; omega, by dsimp only; omega, by dsimp only; omega, by dsimp only; omega⟩, ⟨_, rfl⟩⟩
  case round =>
    obtain ⟨j, kk, G, rfl, hj, hkk, hG, gr, rfl⟩ := hrel
    by_cases hj0 : 0 < j
    · go_wp2_with fail
      refine (pick_any W0.heap.size A n cap kk 4 _ (by omega) (by omega) (by omega) (by omega) (by simp [go_sem]) (by simp [go_sem]) (by simp [go_sem]) (HS.out.ext (by repeat (first | exact Ext.refl _ | refine Ext.plus ?_ _ | refine Ext.alloc ?_ _)) (Nat.le_refl _))).mono ?_
      rintro en w' ⟨dr, dk, d, rfl, d1, d2, d3, rfl⟩
      by_cases hr0 : dr = 0
      · subst hr0
        go_wp2_with fail
        refine wp_region_mix [([0, 1, 3], 2), ([], 4), ([], 5), ([6, 7, 8], 9)] [10] (fun w' => ∃ z : KXG, w' = (((((((W0.alloc (.cells #[.slice A n cap, .int .i64 ((min z.k n : Nat) : Int)] 67)).plus g0).alloc (.cells gov0.cs 43)).plus (a.add b)).alloc (.cells G.cs 43)).plus gr).alloc (.cells z.x.cs 43)).plus z.g) (by kernel_rfl) (by kernel_rfl) ⟨⟨dk, G, _⟩, (plus_drawn _ _).trans (by rw [Nat.min_eq_left d3])⟩ ?_
        refine wpMix_seg ?_
        simp only [List.filterMap_cons, List.filterMap_nil, List.getElem?_toArray, List.getElem?_cons_zero, List.getElem?_cons_succ]
        show wpQuiet _ _ _ _ [_, _, _] _
        repeat (go_big_quiet_step (fail))
        refine wpQuiet_nil ?_
        rintro _ ⟨⟨jj, X, gg⟩, rfl⟩
        show wpList _ _ _ [_] _ _
        go_wp2_with fail
        refine (pick_any W0.heap.size A n cap (min jj n) 4 _ (by omega) (by omega) (by omega) (Nat.min_le_right _ _) (by simp [go_sem]) (by simp [go_sem]) (by simp [go_sem]) (HS.out.ext (by repeat (first | exact Ext.refl _ | refine Ext.plus ?_ _ | refine Ext.alloc ?_ _)) (Nat.le_refl _))).mono ?_
        rintro en w' ⟨er, ek, e, rfl, e1, e2, e3, rfl⟩
        go_wp2_with fail
        refine ⟨_, fun _ h => h, ⟨⟨ek, X, gg.add e⟩, by rw [Nat.min_eq_left e3]⟩, ?_⟩
        refine wpMix_seg ?_
        simp only [List.filterMap_cons, List.filterMap_nil, List.getElem?_toArray, List.getElem?_cons_zero, List.getElem?_cons_succ]
        show wpQuiet _ _ _ _ [] _
        refine wpQuiet_nil ?_
        rintro _ ⟨⟨jj, X, gg⟩, rfl⟩
        show wpList _ _ _ [_] _ _
        go_wp2_with fail
        refine (pick_any W0.heap.size A n cap (min jj n) 5 _ (by omega) (by omega) (by omega) (Nat.min_le_right _ _) (by simp [go_sem]) (by simp [go_sem]) (by simp [go_sem]) (HS.out.ext (by repeat (first | exact Ext.refl _ | refine Ext.plus ?_ _ | refine Ext.alloc ?_ _)) (Nat.le_refl _))).mono ?_
        rintro en w' ⟨fr, fk, f, rfl, f1, f2, f3, rfl⟩
        go_wp2_with fail
        refine ⟨_, fun _ h => h, ⟨⟨fk, X, gg.add f⟩, by rw [Nat.min_eq_left f3]⟩, ?_⟩
        refine wpMix_seg ?_
        simp only [List.filterMap_cons, List.filterMap_nil, List.getElem?_toArray, List.getElem?_cons_zero, List.getElem?_cons_succ]
        show wpQuiet _ _ _ _ [] _
        refine wpQuiet_nil ?_
        rintro _ ⟨⟨jj, X, gg⟩, rfl⟩
        show wpList _ _ _ [_] _ _
        go_wp2_with fail
        refine (rkeep_any G er fr _).mono ?_
        rintro en w1 ⟨rfl, gk, rfl⟩
        go_wp2_with fail
        refine ⟨_, fun _ h => h, ⟨⟨jj, X, gg.add gk⟩, rfl⟩, ?_⟩
        refine wpMix_seg ?_
        simp only [List.filterMap_cons, List.filterMap_nil, List.getElem?_toArray, List.getElem?_cons_zero, List.getElem?_cons_succ]
        show wpQuiet _ _ _ _ [_, _, _] _
        repeat (go_big_quiet_step (fail))
        refine wpQuiet_nil ?_
        rintro _ ⟨⟨jj, X, gg⟩, rfl⟩
        show wpList _ _ _ [_] _ _
        go_wp2_with fail
        refine ⟨fun w' => ∃ z : KG, w' = (((((((W0.alloc (.cells #[.slice A n cap, .int .i64 ((min z.k n : Nat) : Int)] 67)).plus g0).alloc (.cells gov0.cs 43)).plus (a.add b)).alloc (.cells G.cs 43)).plus gr).alloc (.cells (keepG G er fr).1.cs 43)).plus z.g, ?_, ⟨⟨jj, gg⟩, rfl⟩, ?_⟩
        · rintro w ⟨z, rfl⟩
          exact ⟨⟨z.k, (keepG G er fr).1, z.g⟩, rfl⟩
        refine wpMix_last ?_
        simp only [List.filterMap_cons, List.filterMap_nil, List.getElem?_toArray, List.getElem?_cons_zero, List.getElem?_cons_succ]
        show wpQuiet _ _ _ _ [_] _
        repeat (go_big_quiet_step (fail))
        refine wpQuiet_nil ?_
        rintro _ ⟨⟨jj, gg⟩, rfl⟩
        go_wp2_with fail
        all_goals refine ⟨?_, by simp [intOf]; omega⟩
        all_goals first
          | exact ⟨j - 1, (min jj n), (keepG G er fr).1, by rw [show ((j - 1 : Nat) : Int) = (j : Int) - 1 from by omega], by omega, by omega, MadeGov.next hj0 (keepG_made hG (by omega) e1 e2 f1 f2 (eq_of_beq (by assumption))), (by repeat (first | exact Ext.refl _ | refine Ext.plus ?_ _ | refine Ext.alloc ?_ _))⟩
          | exact ⟨j - 1, (min jj n), G, by rw [show ((j - 1 : Nat) : Int) = (j : Int) - 1 from by omega], by omega, by omega, MadeGov.next hj0 hG.more, (by repeat (first | exact Ext.refl _ | refine Ext.plus ?_ _ | refine Ext.alloc ?_ _))⟩
      · by_cases hr1 : dr = 1
        · subst hr1
          go_wp2_with fail
          refine wp_region_mix [([0, 1], 2), ([], 3), ([4, 5, 6], 7)] [8] (fun w' => ∃ z : KXG, w' = (((((((W0.alloc (.cells #[.slice A n cap, .int .i64 ((min z.k n : Nat) : Int)] 67)).plus g0).alloc (.cells gov0.cs 43)).plus (a.add b)).alloc (.cells G.cs 43)).plus gr).alloc (.cells z.x.cs 43)).plus z.g) (by kernel_rfl) (by kernel_rfl) ⟨⟨dk, G, _⟩, (plus_drawn _ _).trans (by rw [Nat.min_eq_left d3])⟩ ?_
          refine wpMix_seg ?_
          simp only [List.filterMap_cons, List.filterMap_nil, List.getElem?_toArray, List.getElem?_cons_zero, List.getElem?_cons_succ]
          show wpQuiet _ _ _ _ [_, _] _
          repeat (go_big_quiet_step (fail))
          refine wpQuiet_nil ?_
          rintro _ ⟨⟨jj, X, gg⟩, rfl⟩
          show wpList _ _ _ [_] _ _
          go_wp2_with fail
          refine (pick_any W0.heap.size A n cap (min jj n) 4 _ (by omega) (by omega) (by omega) (Nat.min_le_right _ _) (by simp [go_sem]) (by simp [go_sem]) (by simp [go_sem]) (HS.out.ext (by repeat (first | exact Ext.refl _ | refine Ext.plus ?_ _ | refine Ext.alloc ?_ _)) (Nat.le_refl _))).mono ?_
          rintro en w' ⟨er, ek, e, rfl, e1, e2, e3, rfl⟩
          go_wp2_with fail
          refine ⟨_, fun _ h => h, ⟨⟨ek, X, gg.add e⟩, by rw [Nat.min_eq_left e3]⟩, ?_⟩
          refine wpMix_seg ?_
          simp only [List.filterMap_cons, List.filterMap_nil, List.getElem?_toArray, List.getElem?_cons_zero, List.getElem?_cons_succ]
          show wpQuiet _ _ _ _ [] _
          refine wpQuiet_nil ?_
          rintro _ ⟨⟨jj, X, gg⟩, rfl⟩
          show wpList _ _ _ [_] _ _
          go_wp2_with fail
          refine (rdrop_any G er _).mono ?_
          rintro en w1 ⟨rfl, gk, rfl⟩
          go_wp2_with fail
          refine ⟨_, fun _ h => h, ⟨⟨jj, X, gg.add gk⟩, rfl⟩, ?_⟩
          refine wpMix_seg ?_
          simp only [List.filterMap_cons, List.filterMap_nil, List.getElem?_toArray, List.getElem?_cons_zero, List.getElem?_cons_succ]
          show wpQuiet _ _ _ _ [_, _, _] _
          repeat (go_big_quiet_step (fail))
          refine wpQuiet_nil ?_
          rintro _ ⟨⟨jj, X, gg⟩, rfl⟩
          show wpList _ _ _ [_] _ _
          go_wp2_with fail
          refine ⟨fun w' => ∃ z : KG, w' = (((((((W0.alloc (.cells #[.slice A n cap, .int .i64 ((min z.k n : Nat) : Int)] 67)).plus g0).alloc (.cells gov0.cs 43)).plus (a.add b)).alloc (.cells G.cs 43)).plus gr).alloc (.cells (dropG G er).1.cs 43)).plus z.g, ?_, ⟨⟨jj, gg⟩, rfl⟩, ?_⟩
          · rintro w ⟨z, rfl⟩
            exact ⟨⟨z.k, (dropG G er).1, z.g⟩, rfl⟩
          refine wpMix_last ?_
          simp only [List.filterMap_cons, List.filterMap_nil, List.getElem?_toArray, List.getElem?_cons_zero, List.getElem?_cons_succ]
          show wpQuiet _ _ _ _ [_] _
          repeat (go_big_quiet_step (fail))
          refine wpQuiet_nil ?_
          rintro _ ⟨⟨jj, gg⟩, rfl⟩
          go_wp2_with fail
          all_goals refine ⟨?_, by simp [intOf]; omega⟩
          all_goals first
            | exact ⟨j - 1, (min jj n), (dropG G er).1, by rw [show ((j - 1 : Nat) : Int) = (j : Int) - 1 from by omega], by omega, by omega, MadeGov.next hj0 (dropG_made hG (by omega) e1 e2 (eq_of_beq (by assumption))), (by repeat (first | exact Ext.refl _ | refine Ext.plus ?_ _ | refine Ext.alloc ?_ _))⟩
            | exact ⟨j - 1, (min jj n), G, by rw [show ((j - 1 : Nat) : Int) = (j : Int) - 1 from by omega], by omega, by omega, MadeGov.next hj0 hG.more, (by repeat (first | exact Ext.refl _ | refine Ext.plus ?_ _ | refine Ext.alloc ?_ _))⟩
        · go_wp2_with fail
          refine (rstep_any G _).mono ?_
          rintro en w1 ⟨rfl, gk, rfl⟩
          go_wp2_with fail
          all_goals refine ⟨?_, by simp [intOf]; omega⟩
          all_goals first
            | exact ⟨j - 1, dk, (stepG G).1, by rw [show ((j - 1 : Nat) : Int) = (j : Int) - 1 from by omega], by omega, by omega, MadeGov.next hj0 (stepG_made hG (eq_of_beq (by assumption))), (by repeat (first | exact Ext.refl _ | refine Ext.plus ?_ _ | refine Ext.alloc ?_ _))⟩
            | exact ⟨j - 1, dk, G, by rw [show ((j - 1 : Nat) : Int) = (j : Int) - 1 from by omega], by omega, by omega, MadeGov.next hj0 hG.more, (by repeat (first | exact Ext.refl _ | refine Ext.plus ?_ _ | refine Ext.alloc ?_ _))⟩
    · obtain rfl : j = 0 := by omega
      go_wp2_with fail
      go_returns
      exact ⟨G, kk, rfl, hG, hkk, (by repeat (first | exact Ext.refl _ | refine Ext.plus ?_ _ | refine Ext.alloc ?_ _))⟩

end Go.Proofs.Ytgejicpobifebaa
