/- Contracts: validity. -/
import Derived.Test.YtgejicpobifebaaGvDef
namespace Go.Proofs.Ytgejicpobifebaa
open Go.RowKit

set_option maxHeartbeats 400000 in
theorem within_any (n m : Int) (w : World) : Calls Try.prog 36 #[.int .i64 n, .int .i64 m] w fun e w' => e = .returned (.bool (inR n m)) ∧ w = w' := by
  by_cases h1 : 0 ≤ n
  · by_cases h2 : n ≤ m
    · go_enter Try.func36, Try.ntmps36
      go_wp2
      go_ret
      exact ⟨by rw [inR_iff.2 ⟨h1, h2⟩]; rfl, rfl⟩
    · go_enter Try.func36, Try.ntmps36
      go_wp2
      go_ret
      exact ⟨by rw [inR_no.2 (by omega)]; rfl, rfl⟩
  · go_enter Try.func36, Try.ntmps36
    go_wp2
    go_ret
    exact ⟨by rw [inR_no.2 (by omega)]; rfl, rfl⟩

set_option maxHeartbeats 400000 in
theorem left_any (g : Gov) (w : World) (h1 : 0 ≤ g.fr ∧ g.fr ≤ 1048576) (h2 : 0 ≤ g.ra ∧ g.ra ≤ 1048576) (h3 : 0 ≤ g.ke ∧ g.ke ≤ 1099511627776) (h4 : 0 ≤ g.lo ∧ g.lo ≤ 1099511627776) (h5 : 0 ≤ g.ri ∧ g.ri ≤ 1099511627776) :
    Calls Try.prog 35 #[.agg g.cs] w fun e w' => e = .returned (.int .i64 (g.fr + g.ra * g.ke - g.lo - g.ri)) ∧ Ext w w' := by
  obtain ⟨fr, ra, ke, lo, ri⟩ := g
  simp only at h1 h2 h3 h4 h5
  obtain ⟨p1, p2⟩ := prod_bd h2.1 h2.2 h3.1 h3.2
  obtain ⟨a1, a2⟩ := h1
  obtain ⟨a3, a4⟩ := h4
  obtain ⟨a5, a6⟩ := h5
  go_enter Try.func35, Try.ntmps35
  go_wp2
  go_ret
  exact ⟨rfl, (Ext.refl _).alloc _⟩

set_option maxHeartbeats 1000000 in
theorem upTo2 (m x y : Int) (b : Nat) (w : World) (hm : 0 ≤ m) (hx : w.cell? ⟨b, 0, none⟩ = some (.int .i64 x)) (hy : w.cell? ⟨b, 1, none⟩ = some (.int .i64 y)) :
    Calls Try.prog 34 #[.int .i64 m, .slice (some ⟨b, 0, none⟩) 2 2] w fun e w' => e = .returned (.bool (inR x m && inR y m)) ∧ w = w' := by
  rcases Bool.eq_false_or_eq_true (inR x m) with ex | ex
  · obtain ⟨lx, ux⟩ := inR_iff.1 ex
    have Ex := Lib.hid ex
    clear ex
    rcases Bool.eq_false_or_eq_true (inR y m) with ey | ey
    · obtain ⟨ly, uy⟩ := inR_iff.1 ey
      have Ey := Lib.hid ey
      clear ey
      go_enter Try.func34, Try.ntmps34
      go_wp2
      go_rounds 4
      go_ret
      exact ⟨by rw [Ex.out, Ey.out]; rfl, rfl⟩
    · rcases inR_no.1 ey with cy | cy
      · have Ey := Lib.hid ey
        clear ey
        go_enter Try.func34, Try.ntmps34
        go_wp2
        go_rounds 4
        go_ret
        exact ⟨by rw [Ex.out, Ey.out, Bool.and_false]; simp, rfl⟩
      · have Ey := Lib.hid ey
        clear ey
        go_enter Try.func34, Try.ntmps34
        go_wp2
        go_rounds 4
        go_ret
        exact ⟨by rw [Ex.out, Ey.out, Bool.and_false]; simp, rfl⟩
  · rcases inR_no.1 ex with cx | cx
    · have Ex := Lib.hid ex
      clear ex
      go_enter Try.func34, Try.ntmps34
      go_wp2
      go_rounds 4
      go_ret
      exact ⟨by rw [Ex.out, Bool.false_and]; simp, rfl⟩
    · have Ex := Lib.hid ex
      clear ex
      go_enter Try.func34, Try.ntmps34
      go_wp2
      go_rounds 4
      go_ret
      exact ⟨by rw [Ex.out, Bool.false_and]; simp, rfl⟩

set_option maxHeartbeats 1000000 in
theorem upTo3 (m x y z : Int) (b : Nat) (w : World) (hm : 0 ≤ m) (hx : w.cell? ⟨b, 0, none⟩ = some (.int .i64 x)) (hy : w.cell? ⟨b, 1, none⟩ = some (.int .i64 y)) (hz : w.cell? ⟨b, 2, none⟩ = some (.int .i64 z)) :
    Calls Try.prog 34 #[.int .i64 m, .slice (some ⟨b, 0, none⟩) 3 3] w fun e w' => e = .returned (.bool (inR x m && inR y m && inR z m)) ∧ w = w' := by
  rcases Bool.eq_false_or_eq_true (inR x m) with ex | ex
  · obtain ⟨lx, ux⟩ := inR_iff.1 ex
    have Ex := Lib.hid ex
    clear ex
    rcases Bool.eq_false_or_eq_true (inR y m) with ey | ey
    · obtain ⟨ly, uy⟩ := inR_iff.1 ey
      have Ey := Lib.hid ey
      clear ey
      rcases Bool.eq_false_or_eq_true (inR z m) with ez | ez
      · obtain ⟨lz, uz⟩ := inR_iff.1 ez
        have Ez := Lib.hid ez
        clear ez
        go_enter Try.func34, Try.ntmps34
        go_wp2
        go_rounds 4
        go_ret
        exact ⟨by rw [Ex.out, Ey.out, Ez.out]; rfl, rfl⟩
      · rcases inR_no.1 ez with cz | cz
        · have Ez := Lib.hid ez
          clear ez
          go_enter Try.func34, Try.ntmps34
          go_wp2
          go_rounds 4
          go_ret
          exact ⟨by rw [Ex.out, Ey.out, Ez.out, Bool.and_false]; simp, rfl⟩
        · have Ez := Lib.hid ez
          clear ez
          go_enter Try.func34, Try.ntmps34
          go_wp2
          go_rounds 4
          go_ret
          exact ⟨by rw [Ex.out, Ey.out, Ez.out, Bool.and_false]; simp, rfl⟩
    · rcases inR_no.1 ey with cy | cy
      · have Ey := Lib.hid ey
        clear ey
        go_enter Try.func34, Try.ntmps34
        go_wp2
        go_rounds 4
        go_ret
        exact ⟨by rw [Ex.out, Ey.out, Bool.and_false]; simp, rfl⟩
      · have Ey := Lib.hid ey
        clear ey
        go_enter Try.func34, Try.ntmps34
        go_wp2
        go_rounds 4
        go_ret
        exact ⟨by rw [Ex.out, Ey.out, Bool.and_false]; simp, rfl⟩
  · rcases inR_no.1 ex with cx | cx
    · have Ex := Lib.hid ex
      clear ex
      go_enter Try.func34, Try.ntmps34
      go_wp2
      go_rounds 4
      go_ret
      exact ⟨by rw [Ex.out, Bool.false_and]; simp, rfl⟩
    · have Ex := Lib.hid ex
      clear ex
      go_enter Try.func34, Try.ntmps34
      go_wp2
      go_rounds 4
      go_ret
      exact ⟨by rw [Ex.out, Bool.false_and]; simp, rfl⟩

theorem valid_no {g : Gov} (h : inR g.fr 1048576 = false ∨ inR g.ra 1048576 = false ∨ inR g.ke 1099511627776 = false ∨ inR g.lo 1099511627776 = false ∨ inR g.ri 1099511627776 = false) : validG g = false := by
  unfold validG
  rcases h with h | h | h | h | h <;> simp [h]

set_option maxHeartbeats 1000000 in
theorem valid_any (g : Gov) (w : World) : Calls Try.prog 21 #[.agg g.cs] w fun e w' => e = .returned (.bool (validG g)) ∧ Ext w w' := by
  obtain ⟨fr, ra, ke, lo, ri⟩ := g
  rcases Bool.eq_false_or_eq_true (inR fr 1048576 && inR ra 1048576) with e1 | e1
  · rcases Bool.eq_false_or_eq_true (inR ke 1099511627776 && inR lo 1099511627776 && inR ri 1099511627776) with e2 | e2
    · have hh : (0 ≤ fr ∧ fr ≤ 1048576) ∧ (0 ≤ ra ∧ ra ≤ 1048576) ∧ (0 ≤ ke ∧ ke ≤ 1099511627776) ∧ (0 ≤ lo ∧ lo ≤ 1099511627776) ∧ (0 ≤ ri ∧ ri ≤ 1099511627776) := by
        simp only [Bool.and_eq_true, inR_iff] at e1 e2
        exact ⟨e1.1, e1.2, e2.1.1, e2.1.2, e2.2⟩
      have HV : Hid (validG ⟨fr, ra, ke, lo, ri⟩ = decide (lo + ri ≤ fr + ra * ke)) := by
        simp only [Bool.and_eq_true] at e1 e2
        show validG _ = _
        simp [validG, e1.1, e1.2, e2.1.1, e2.1.2, e2.2]
      obtain ⟨⟨a1, a2⟩, ⟨b1, b2⟩, ⟨c1, c2⟩, ⟨d1, d2⟩, ⟨f1, f2⟩⟩ := hh
      obtain ⟨p1, p2⟩ := prod_bd b1 b2 c1 c2
      go_enter Try.func21, Try.ntmps21
      go_wp2_with fail
      refine (upTo2 1048576 fr ra _ _ (by omega) (by simp [go_sem]) (by simp [go_sem])).mono ?_
      rintro en w1 ⟨rfl, rfl⟩
      rw [e1]
      go_wp2_with fail
      refine (upTo3 1099511627776 ke lo ri _ _ (by omega) (by simp [go_sem]) (by simp [go_sem]) (by simp [go_sem])).mono ?_
      rintro en w1 ⟨rfl, rfl⟩
      rw [e2]
      clear e1 e2
      go_wp2_with fail
      refine (left_any ⟨fr, ra, ke, lo, ri⟩ _ ⟨a1, a2⟩ ⟨b1, b2⟩ ⟨c1, c2⟩ ⟨d1, d2⟩ ⟨f1, f2⟩).mono ?_
      rintro en w1 ⟨rfl, g, rfl⟩
      go_wp2_with fail
      go_ret
      refine ⟨?_, (by repeat (first | exact Ext.refl _ | refine Ext.plus ?_ _ | refine Ext.alloc ?_ _))⟩
      rw [HV.out]
      show Ending.returned (Value.bool _) = Ending.returned (Value.bool _)
      congr 2
      rw [decide_eq_decide]; omega
    · have HV : Hid (validG ⟨fr, ra, ke, lo, ri⟩ = false) := by
        refine valid_no ?_
        simp only [Bool.and_eq_false_iff] at e2
        rcases e2 with (h | h) | h <;> simp [h]
      go_enter Try.func21, Try.ntmps21
      go_wp2_with fail
      refine (upTo2 1048576 fr ra _ _ (by omega) (by simp [go_sem]) (by simp [go_sem])).mono ?_
      rintro en w1 ⟨rfl, rfl⟩
      rw [e1]
      go_wp2_with fail
      refine (upTo3 1099511627776 ke lo ri _ _ (by omega) (by simp [go_sem]) (by simp [go_sem]) (by simp [go_sem])).mono ?_
      rintro en w1 ⟨rfl, rfl⟩
      rw [e2]
      clear e1 e2
      go_wp2_with fail
      go_ret
      exact ⟨by rw [HV.out]; rfl, (by repeat (first | exact Ext.refl _ | refine Ext.plus ?_ _ | refine Ext.alloc ?_ _))⟩
  · have HV : Hid (validG ⟨fr, ra, ke, lo, ri⟩ = false) := by
      refine valid_no ?_
      simp only [Bool.and_eq_false_iff] at e1
      rcases e1 with h | h <;> simp [h]
    go_enter Try.func21, Try.ntmps21
    go_wp2_with fail
    refine (upTo2 1048576 fr ra _ _ (by omega) (by simp [go_sem]) (by simp [go_sem])).mono ?_
    rintro en w1 ⟨rfl, rfl⟩
    rw [e1]
    clear e1
    go_wp2_with fail
    go_ret
    exact ⟨by rw [HV.out]; rfl, (by repeat (first | exact Ext.refl _ | refine Ext.plus ?_ _ | refine Ext.alloc ?_ _))⟩

set_option maxHeartbeats 1000000 in
theorem rvalid_any (g : Gov) (w : World) : Calls Try.prog 22 #[.agg g.cs] w fun e w' => e = .returned (.bool (validG g)) ∧ Ext w w' := by
  obtain ⟨fr, ra, ke, lo, ri⟩ := g
  rcases Bool.eq_false_or_eq_true (inR fr 1048576) with efr | efr
  · obtain ⟨lfr, ufr⟩ := inR_iff.1 efr
    have Efr := Lib.hid efr
    clear efr
    rcases Bool.eq_false_or_eq_true (inR ra 1048576) with era | era
    · obtain ⟨lra, ura⟩ := inR_iff.1 era
      have Era := Lib.hid era
      clear era
      rcases Bool.eq_false_or_eq_true (inR ke 1099511627776) with eke | eke
      · obtain ⟨lke, uke⟩ := inR_iff.1 eke
        have Eke := Lib.hid eke
        clear eke
        rcases Bool.eq_false_or_eq_true (inR lo 1099511627776) with elo | elo
        · obtain ⟨llo, ulo⟩ := inR_iff.1 elo
          have Elo := Lib.hid elo
          clear elo
          rcases Bool.eq_false_or_eq_true (inR ri 1099511627776) with eri | eri
          · obtain ⟨lri, uri⟩ := inR_iff.1 eri
            have Eri := Lib.hid eri
            clear eri
            have HV : Hid (validG ⟨fr, ra, ke, lo, ri⟩ = decide (lo + ri ≤ fr + ra * ke)) := by
              show validG _ = _
              simp [validG, Efr.out, Era.out, Eke.out, Elo.out, Eri.out]
            obtain ⟨p1, p2⟩ := prod_bd lra ura lke uke
            go_enter Try.func22, Try.ntmps22
            go_wp2_with fail
            refine (within_any fr 1048576 _).mono ?_
            rintro en w1 ⟨rfl, rfl⟩
            rw [Efr.out]
            go_wp2_with fail
            refine (within_any ra 1048576 _).mono ?_
            rintro en w1 ⟨rfl, rfl⟩
            rw [Era.out]
            go_wp2_with fail
            refine (within_any ke 1099511627776 _).mono ?_
            rintro en w1 ⟨rfl, rfl⟩
            rw [Eke.out]
            go_wp2_with fail
            refine (within_any lo 1099511627776 _).mono ?_
            rintro en w1 ⟨rfl, rfl⟩
            rw [Elo.out]
            go_wp2_with fail
            refine (within_any ri 1099511627776 _).mono ?_
            rintro en w1 ⟨rfl, rfl⟩
            rw [Eri.out]
            go_wp2_with fail
            go_ret
            exact ⟨by rw [HV.out]; rfl, (by repeat (first | exact Ext.refl _ | refine Ext.plus ?_ _ | refine Ext.alloc ?_ _))⟩
          · have Eri := Lib.hid eri
            have HV : Hid (validG ⟨fr, ra, ke, lo, ri⟩ = false) := valid_no (by simp [eri])
            clear eri
            go_enter Try.func22, Try.ntmps22
            go_wp2_with fail
            refine (within_any fr 1048576 _).mono ?_
            rintro en w1 ⟨rfl, rfl⟩
            rw [Efr.out]
            go_wp2_with fail
            refine (within_any ra 1048576 _).mono ?_
            rintro en w1 ⟨rfl, rfl⟩
            rw [Era.out]
            go_wp2_with fail
            refine (within_any ke 1099511627776 _).mono ?_
            rintro en w1 ⟨rfl, rfl⟩
            rw [Eke.out]
            go_wp2_with fail
            refine (within_any lo 1099511627776 _).mono ?_
            rintro en w1 ⟨rfl, rfl⟩
            rw [Elo.out]
            go_wp2_with fail
            refine (within_any ri 1099511627776 _).mono ?_
            rintro en w1 ⟨rfl, rfl⟩
            rw [Eri.out]
            go_wp2_with fail
            go_ret
            exact ⟨by rw [HV.out]; rfl, (by repeat (first | exact Ext.refl _ | refine Ext.plus ?_ _ | refine Ext.alloc ?_ _))⟩
        · have Elo := Lib.hid elo
          have HV : Hid (validG ⟨fr, ra, ke, lo, ri⟩ = false) := valid_no (by simp [elo])
          clear elo
          go_enter Try.func22, Try.ntmps22
          go_wp2_with fail
          refine (within_any fr 1048576 _).mono ?_
          rintro en w1 ⟨rfl, rfl⟩
          rw [Efr.out]
          go_wp2_with fail
          refine (within_any ra 1048576 _).mono ?_
          rintro en w1 ⟨rfl, rfl⟩
          rw [Era.out]
          go_wp2_with fail
          refine (within_any ke 1099511627776 _).mono ?_
          rintro en w1 ⟨rfl, rfl⟩
          rw [Eke.out]
          go_wp2_with fail
          refine (within_any lo 1099511627776 _).mono ?_
          rintro en w1 ⟨rfl, rfl⟩
          rw [Elo.out]
          go_wp2_with fail
          go_ret
          exact ⟨by rw [HV.out]; rfl, (by repeat (first | exact Ext.refl _ | refine Ext.plus ?_ _ | refine Ext.alloc ?_ _))⟩
      · have Eke := Lib.hid eke
        have HV : Hid (validG ⟨fr, ra, ke, lo, ri⟩ = false) := valid_no (by simp [eke])
        clear eke
        go_enter Try.func22, Try.ntmps22
        go_wp2_with fail
        refine (within_any fr 1048576 _).mono ?_
        rintro en w1 ⟨rfl, rfl⟩
        rw [Efr.out]
        go_wp2_with fail
        refine (within_any ra 1048576 _).mono ?_
        rintro en w1 ⟨rfl, rfl⟩
        rw [Era.out]
        go_wp2_with fail
        refine (within_any ke 1099511627776 _).mono ?_
        rintro en w1 ⟨rfl, rfl⟩
        rw [Eke.out]
        go_wp2_with fail
        go_ret
        exact ⟨by rw [HV.out]; rfl, (by repeat (first | exact Ext.refl _ | refine Ext.plus ?_ _ | refine Ext.alloc ?_ _))⟩
    · have Era := Lib.hid era
      have HV : Hid (validG ⟨fr, ra, ke, lo, ri⟩ = false) := valid_no (by simp [era])
      clear era
      go_enter Try.func22, Try.ntmps22
      go_wp2_with fail
      refine (within_any fr 1048576 _).mono ?_
      rintro en w1 ⟨rfl, rfl⟩
      rw [Efr.out]
      go_wp2_with fail
      refine (within_any ra 1048576 _).mono ?_
      rintro en w1 ⟨rfl, rfl⟩
      rw [Era.out]
      go_wp2_with fail
      go_ret
      exact ⟨by rw [HV.out]; rfl, (by repeat (first | exact Ext.refl _ | refine Ext.plus ?_ _ | refine Ext.alloc ?_ _))⟩
  · have Efr := Lib.hid efr
    have HV : Hid (validG ⟨fr, ra, ke, lo, ri⟩ = false) := valid_no (by simp [efr])
    clear efr
    go_enter Try.func22, Try.ntmps22
    go_wp2_with fail
    refine (within_any fr 1048576 _).mono ?_
    rintro en w1 ⟨rfl, rfl⟩
    rw [Efr.out]
    go_wp2_with fail
    go_ret
    exact ⟨by rw [HV.out]; rfl, (by repeat (first | exact Ext.refl _ | refine Ext.plus ?_ _ | refine Ext.alloc ?_ _))⟩

end Go.Proofs.Ytgejicpobifebaa
