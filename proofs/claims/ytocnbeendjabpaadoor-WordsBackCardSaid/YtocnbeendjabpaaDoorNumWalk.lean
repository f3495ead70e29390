/- words.Number. -/
import Derived.Test.YtocnbeendjabpaaDoorNumSpec
import Derived.Test.YtocnbeendjabpaaDoorWdLines
import Derived.Test.YtocnbeendjabpaaDoorShelf
namespace Go.Proofs.YtocnbeendjabpaaDoor
open Go.RowKit

theorem empty_of_size {s : ByteArray} (h : s.size = 0) : s = ⟨#[]⟩ := by
  rcases s with ⟨⟨l⟩⟩
  cases l
  · rfl
  · simp [ByteArray.size] at h
theorem trim_any (s d : ByteArray) (w : World) (hd : Lib.trimPrefix s.data.toList [45] = d.data.toList) :
    Calls Tryd.prog 28 #[.string s, .string ⟨#[45]⟩] w fun e w' => e = .returned (.string d) ∧ w = w' := by
  refine (Tryd.strings_TrimPrefix s ⟨#[45]⟩ w).mono ?_
  rintro e w' ⟨rfl, rfl⟩
  refine ⟨?_, rfl⟩
  rw [show (⟨#[45]⟩ : ByteArray).data.toList = [45] from rfl, hd]
def DigRel (d : ByteArray) (i : Value) : Prop := ∃ k, i = .int .i64 (k : Nat) ∧ k ≤ d.size ∧ (d.data.toList.take k).all isDig = true
theorem byte_at {s : ByteArray} {k : Nat} (h : k < s.size) : s.data.toList[k]? = some s[k] := by
  have h2 : (s.data.toList.drop k)[0]? = some s[k] := by rw [byte_drop s k h]; rfl
  rwa [List.getElem?_drop, Nat.add_zero] at h2
theorem dig_bad {d : ByteArray} {k : Nat} (h : k < d.size) (hd : d[k].toNat < 48 ∨ 57 < d[k].toNat) : d.data.toList.all isDig = false := by
  rw [List.all_eq_false]
  refine ⟨_, List.mem_of_getElem? (byte_at h), ?_⟩
  simp only [isDig, Bool.and_eq_true, decide_eq_true_eq]
  omega
theorem dig_next {d : ByteArray} {k : Nat} (h : k < d.size) (h1 : 48 ≤ d[k].toNat) (h2 : d[k].toNat ≤ 57) (ha : (d.data.toList.take k).all isDig = true) : (d.data.toList.take (k + 1)).all isDig = true := by
  rw [List.take_add_one, byte_at h, List.all_append, ha]
  simp [isDig, h1, h2]
theorem parse_pos2 (l : List UInt8) (hne : l ≠ []) (hd : l.all isDig = true) : Lib.parseIntB 64 l = if valF 0 l < 9223372036854775808 then .ok (valF 0 l : Int) else .range := by
  cases l with
  | nil => exact absurd rfl hne
  | cons c l => exact parse_pos c l hd
theorem below_ok {w w1 : World} {t : TypeId} (h : w1 = w ∨ ∃ s, w1 = Lib.bytesWorld w t s) : Below w.heap.size w w1 := by
  rcases h with rfl | ⟨s, rfl⟩
  · exact Below.refl _ _
  · exact ⟨rfl, rfl, rfl, by rw [Lib.bytesWorld_size]; omega, fun j hj => Lib.bytesWorld_at_old w t s j hj⟩
def NumPost (w : World) (r : Int × Int) (e : Ending) (w' : World) : Prop := e = .returned (.tuple #[.int .i64 r.1, .int .i64 r.2]) ∧ Below w.heap.size w w'
theorem num_end {w w' : World} {p : Int × Int} {n r : Int} {e : Ending} (h : p = (n, r)) (he : e = .returned (.tuple #[.int .i64 n, .int .i64 r])) (hb : Below w.heap.size w w') : NumPost w p e w' := by
  subst h
  exact ⟨he, hb⟩

set_option maxRecDepth 100000 in
set_option maxHeartbeats 2000000 in
theorem number_neg (s d : ByteArray) (ev : Value) (w : World) (hs : s.size ≤ 1000000) (hd : Lib.trimPrefix s.data.toList [45] = d.data.toList) (hsz : d.size < s.size) (hcat : s.data.toList = 45 :: d.data.toList)
    (hev : w.cell? ⟨1, 0, none⟩ = some ev) (hev2 : ev = .nilIface ∨ ∃ te pe, ev = .iface te pe) :
    Calls Tryd.prog 18 #[.string s] w (NumPost w (numD true d.data.toList)) := by
  have HT := trim_any s d w hd
  have HEV := Lib.hid hev
  have HEV2 := Lib.hid hev2
  have HC := Lib.hid hcat
  have hlt : decide (d.size < s.size) = true := by simpa using hsz
  have hds : d.size ≤ 1000000 := by omega
  have HSZ := Lib.hid hsz
  clear hev hev2 hcat hd hsz
  by_cases h0 : d.size = 0
  · have hd0 : d = ⟨#[]⟩ := empty_of_size h0
    have he : d.toList.isEmpty = true := by rw [hd0, Lib.toList_data]; rfl
    have HD0 := Lib.hid hd0
    clear hd0 h0
    go_enter Tryd.func18, Tryd.ntmps18
    go_wp2_with (go_at_call 28; refine HT.mono ?_; rintro e w' ⟨rfl, rfl⟩)
    go_ret2
    exact num_end (n := 0) (r := 4) (by rw [HD0.out]; rfl) rfl (Below.refl _ _)
  · have he : d.toList.isEmpty = false := by
      rw [Lib.toList_data]
      rcases d with ⟨⟨l⟩⟩
      cases l
      · exact absurd rfl h0
      · rfl
    have hp : 0 < d.size := by omega
    have hne : d.data.toList ≠ [] := by
      intro e
      have := Lib.size_eq d
      rw [e] at this
      exact h0 this
    have hhead : d.data.toList.head? = some d[0] := by
      have := byte_drop d 0 hp
      rw [List.drop_zero] at this
      rw [this]
      rfl
    have HNE := Lib.hid hne
    have HHEAD := Lib.hid hhead
    clear h0 hne hhead
    by_cases hz : d[0] = 48 ∧ (1 < d.size ∨ true = true)
    · obtain ⟨hz1, hz2⟩ := hz
      have hzb : ((d[0].toNat : Int) == 48) = true := by rw [hz1]; rfl
      have HZ1 := Lib.hid hz1
      have HZ2 := Lib.hid hz2
      clear hz1 hz2
      by_cases hl1 : 1 < d.size
      · go_enter Tryd.func18, Tryd.ntmps18
        go_wp2_with (go_at_call 28; refine HT.mono ?_; rintro e w' ⟨rfl, rfl⟩)
        go_ret2
        exact num_end (n := 0) (r := 4) (by unfold numD; rw [if_pos (.inr ⟨by rw [HHEAD.out, HZ1.out], .inl (by rw [← Lib.size_eq]; exact hl1)⟩)]) rfl (Below.refl _ _)
      · have hl2 : decide (1 < d.size) = false := by simpa using hl1
        skip
        go_enter Tryd.func18, Tryd.ntmps18
        go_wp2_with (go_at_call 28; refine HT.mono ?_; rintro e w' ⟨rfl, rfl⟩)
        go_ret2
        exact num_end (n := 0) (r := 4) (by unfold numD; rw [if_pos (.inr ⟨by rw [HHEAD.out, HZ1.out], .inr rfl⟩)]) rfl (Below.refl _ _)
    · have hnum : Hid (numD true d.data.toList = if d.data.toList.all isDig = false then (0, 4) else if valF 0 d.data.toList ≤ 9223372036854775808 then (-(valF 0 d.data.toList : Int), 0) else (0, 2)) := by
        show numD true d.data.toList = _
        unfold numD
        rw [if_neg]
        · rfl
        · rintro (h | ⟨h1, h2⟩)
          · exact HNE.out h
          · rw [HHEAD.out] at h1
            exact hz ⟨Option.some.inj h1, by rw [← Lib.size_eq] at h2; exact h2⟩
      have hzc : ((d[0].toNat : Int) == 48) = true → decide (1 < d.size) = false ∧ False := by
        intro h
        have h48 : d[0] = 48 := by
          apply UInt8.toNat_inj.1
          have : (d[0].toNat : Int) = 48 := by simpa using h
          exact_mod_cast this
        by_cases hl1 : 1 < d.size
        · exact absurd ⟨h48, .inl hl1⟩ hz
        · exact absurd ⟨h48, .inr rfl⟩ hz
      have HZC := Lib.hid hzc
      clear hz hzc
      rcases hzb : ((d[0].toNat : Int) == 48) with _ | _
      · clear HZC
        go_enter Tryd.func18, Tryd.ntmps18
        go_wp2_with (go_at_call 28; refine HT.mono ?_; rintro e w' ⟨rfl, rfl⟩)
        go_loop [33] (fun i => DigRel d i) (fun i => d.size - (intOf i).toNat)
        case atStart => exact ⟨0, rfl, by omega, by simp⟩
        case round =>
          obtain ⟨k, rfl, hk, ha⟩ := hrel
          have HA := Lib.hid ha
          clear ha
          by_cases hlt2 : k < d.size
          · by_cases hd1 : d[k].toNat < 48
            · go_wp2
              go_ret2
              exact num_end (n := 0) (r := 4) (by rw [hnum.out, if_pos (dig_bad hlt2 (.inl hd1))]) rfl (Below.refl _ _)
            · by_cases hd2 : 57 < d[k].toNat
              · go_wp2
                go_ret2
                exact num_end (n := 0) (r := 4) (by rw [hnum.out, if_pos (dig_bad hlt2 (.inr hd2))]) rfl (Below.refl _ _)
              · go_wp2
                go_round
                case rel => exact ⟨k + 1, by go_num, by omega, dig_next hlt2 (by omega) (by omega) HA.out⟩
                case measure => simp [intOf]; omega
          · obtain rfl : k = d.size := by omega
            have hall : d.data.toList.all isDig = true := by
              have := HA.out
              rwa [Lib.size_eq, List.take_length] at this
            have HP : Lib.parseIntB 64 s.data.toList = if valF 0 d.data.toList ≤ 9223372036854775808 then .ok (-(valF 0 d.data.toList : Int)) else .range := by
              rw [HC.out]
              exact parse_neg d.data.toList HNE.out hall
            have hnum2 : Hid (numD true d.data.toList = if valF 0 d.data.toList ≤ 9223372036854775808 then (-(valF 0 d.data.toList : Int), 0) else (0, 2)) := by
              show numD true d.data.toList = _
              rw [hnum.out, if_neg (by rw [hall]; decide)]
            clear hall
            by_cases hv : valF 0 d.data.toList ≤ 9223372036854775808
            · rw [if_pos hv] at HP
              have HV := Lib.hid hv
              have HPP := Lib.hid HP
              clear HP hv
              go_wp2_with (go_at_call 29; refine (Tryd.strconv_ParseInt_10_at64_ok s (by omega) _ HPP.out _).mono ?_; rintro e w1 ⟨rfl, hw1⟩; have HW1 := Lib.hid (below_ok hw1); clear hw1)
              go_ret2
              exact num_end (n := -(valF 0 d.data.toList : Int)) (r := 0) (by rw [hnum2.out, if_pos HV.out]) rfl HW1.out
            · rw [if_neg hv] at HP
              have HV := Lib.hid hv
              have HPP := Lib.hid HP
              clear HP hv
              go_wp2_with (go_at_call 29; refine (Tryd.strconv_ParseInt_10_at64_range s (by omega) HPP.out ev _ HEV.out HEV2.out).mono ?_; rintro e w1 ⟨N, rfl, hN, hN2, hw1⟩; have HW1 := Lib.hid hw1; clear hw1 hN hN2)
              go_ret2
              exact num_end (n := 0) (r := 2) (by rw [hnum2.out, if_neg HV.out]) rfl HW1.out
      · exact absurd (HZC.out hzb).2 id

set_option maxRecDepth 100000 in
set_option maxHeartbeats 2000000 in
theorem number_pos (s d : ByteArray) (ev : Value) (w : World) (hs : s.size ≤ 1000000) (hd : Lib.trimPrefix s.data.toList [45] = d.data.toList) (hsz : d.size = s.size) (hcat : s.data.toList = d.data.toList)
    (hev : w.cell? ⟨1, 0, none⟩ = some ev) (hev2 : ev = .nilIface ∨ ∃ te pe, ev = .iface te pe) :
    Calls Tryd.prog 18 #[.string s] w (NumPost w (numD false d.data.toList)) := by
  have HT := trim_any s d w hd
  have HEV := Lib.hid hev
  have HEV2 := Lib.hid hev2
  have HC := Lib.hid hcat
  have hlt : decide (d.size < s.size) = false := by simp; omega
  have hds : d.size ≤ 1000000 := by omega
  have HSZ := Lib.hid hsz
  clear hev hev2 hcat hd hsz
  by_cases h0 : d.size = 0
  · have hd0 : d = ⟨#[]⟩ := empty_of_size h0
    have he : d.toList.isEmpty = true := by rw [hd0, Lib.toList_data]; rfl
    have HD0 := Lib.hid hd0
    clear hd0 h0
    go_enter Tryd.func18, Tryd.ntmps18
    go_wp2_with (go_at_call 28; refine HT.mono ?_; rintro e w' ⟨rfl, rfl⟩)
    go_ret2
    exact num_end (n := 0) (r := 4) (by rw [HD0.out]; rfl) rfl (Below.refl _ _)
  · have he : d.toList.isEmpty = false := by
      rw [Lib.toList_data]
      rcases d with ⟨⟨l⟩⟩
      cases l
      · exact absurd rfl h0
      · rfl
    have hp : 0 < d.size := by omega
    have hne : d.data.toList ≠ [] := by
      intro e
      have := Lib.size_eq d
      rw [e] at this
      exact h0 this
    have hhead : d.data.toList.head? = some d[0] := by
      have := byte_drop d 0 hp
      rw [List.drop_zero] at this
      rw [this]
      rfl
    have HNE := Lib.hid hne
    have HHEAD := Lib.hid hhead
    clear h0 hne hhead
    by_cases hz : d[0] = 48 ∧ (1 < d.size ∨ false = true)
    · obtain ⟨hz1, hz2⟩ := hz
      have hzb : ((d[0].toNat : Int) == 48) = true := by rw [hz1]; rfl
      have HZ1 := Lib.hid hz1
      have HZ2 := Lib.hid hz2
      clear hz1 hz2
      by_cases hl1 : 1 < d.size
      · go_enter Tryd.func18, Tryd.ntmps18
        go_wp2_with (go_at_call 28; refine HT.mono ?_; rintro e w' ⟨rfl, rfl⟩)
        go_ret2
        exact num_end (n := 0) (r := 4) (by unfold numD; rw [if_pos (.inr ⟨by rw [HHEAD.out, HZ1.out], .inl (by rw [← Lib.size_eq]; exact hl1)⟩)]) rfl (Below.refl _ _)
      · have hl2 : decide (1 < d.size) = false := by simpa using hl1
        exfalso; have := HZ2.out; simp at this; omega
    · have hnum : Hid (numD false d.data.toList = if d.data.toList.all isDig = false then (0, 4) else if valF 0 d.data.toList < 9223372036854775808 then ((valF 0 d.data.toList : Int), 0) else (0, 2)) := by
        show numD false d.data.toList = _
        unfold numD
        rw [if_neg]
        · rfl
        · rintro (h | ⟨h1, h2⟩)
          · exact HNE.out h
          · rw [HHEAD.out] at h1
            exact hz ⟨Option.some.inj h1, by rw [← Lib.size_eq] at h2; exact h2⟩
      have hzc : ((d[0].toNat : Int) == 48) = true → decide (1 < d.size) = false := by
        intro h
        have h48 : d[0] = 48 := by
          apply UInt8.toNat_inj.1
          have : (d[0].toNat : Int) = 48 := by simpa using h
          exact_mod_cast this
        by_cases hl1 : 1 < d.size
        · exact absurd ⟨h48, .inl hl1⟩ hz
        · simpa using hl1
      have HZC := Lib.hid hzc
      clear hz hzc
      rcases hzb : ((d[0].toNat : Int) == 48) with _ | _
      · clear HZC
        go_enter Tryd.func18, Tryd.ntmps18
        go_wp2_with (go_at_call 28; refine HT.mono ?_; rintro e w' ⟨rfl, rfl⟩)
        go_loop [33] (fun i => DigRel d i) (fun i => d.size - (intOf i).toNat)
        case atStart => exact ⟨0, rfl, by omega, by simp⟩
        case round =>
          obtain ⟨k, rfl, hk, ha⟩ := hrel
          have HA := Lib.hid ha
          clear ha
          by_cases hlt2 : k < d.size
          · by_cases hd1 : d[k].toNat < 48
            · go_wp2
              go_ret2
              exact num_end (n := 0) (r := 4) (by rw [hnum.out, if_pos (dig_bad hlt2 (.inl hd1))]) rfl (Below.refl _ _)
            · by_cases hd2 : 57 < d[k].toNat
              · go_wp2
                go_ret2
                exact num_end (n := 0) (r := 4) (by rw [hnum.out, if_pos (dig_bad hlt2 (.inr hd2))]) rfl (Below.refl _ _)
              · go_wp2
                go_round
                case rel => exact ⟨k + 1, by go_num, by omega, dig_next hlt2 (by omega) (by omega) HA.out⟩
                case measure => simp [intOf]; omega
          · obtain rfl : k = d.size := by omega
            have hall : d.data.toList.all isDig = true := by
              have := HA.out
              rwa [Lib.size_eq, List.take_length] at this
            have HP : Lib.parseIntB 64 s.data.toList = if valF 0 d.data.toList < 9223372036854775808 then .ok ((valF 0 d.data.toList : Int)) else .range := by
              rw [HC.out]
              exact parse_pos2 d.data.toList HNE.out hall
            have hnum2 : Hid (numD false d.data.toList = if valF 0 d.data.toList < 9223372036854775808 then ((valF 0 d.data.toList : Int), 0) else (0, 2)) := by
              show numD false d.data.toList = _
              rw [hnum.out, if_neg (by rw [hall]; decide)]
            clear hall
            by_cases hv : valF 0 d.data.toList < 9223372036854775808
            · rw [if_pos hv] at HP
              have HV := Lib.hid hv
              have HPP := Lib.hid HP
              clear HP hv
              go_wp2_with (go_at_call 29; refine (Tryd.strconv_ParseInt_10_at64_ok s (by omega) _ HPP.out _).mono ?_; rintro e w1 ⟨rfl, hw1⟩; have HW1 := Lib.hid (below_ok hw1); clear hw1)
              go_ret2
              exact num_end (n := (valF 0 d.data.toList : Int)) (r := 0) (by rw [hnum2.out, if_pos HV.out]) rfl HW1.out
            · rw [if_neg hv] at HP
              have HV := Lib.hid hv
              have HPP := Lib.hid HP
              clear HP hv
              go_wp2_with (go_at_call 29; refine (Tryd.strconv_ParseInt_10_at64_range s (by omega) HPP.out ev _ HEV.out HEV2.out).mono ?_; rintro e w1 ⟨N, rfl, hN, hN2, hw1⟩; have HW1 := Lib.hid hw1; clear hw1 hN hN2)
              go_ret2
              exact num_end (n := 0) (r := 2) (by rw [hnum2.out, if_neg HV.out]) rfl HW1.out
      · have hl3 := HZC.out hzb
        have hl5 : d.size ≤ 1 := by simpa using hl3
        have hl6 : decide ((1 : Int) < (d.size : Int)) = false := by simp; omega
        clear HZC
        go_enter Tryd.func18, Tryd.ntmps18
        go_wp2_with (go_at_call 28; refine HT.mono ?_; rintro e w' ⟨rfl, rfl⟩)
        go_loop [33] (fun i => DigRel d i) (fun i => d.size - (intOf i).toNat)
        case atStart => exact ⟨0, rfl, by omega, by simp⟩
        case round =>
          obtain ⟨k, rfl, hk, ha⟩ := hrel
          have HA := Lib.hid ha
          clear ha
          by_cases hlt2 : k < d.size
          · by_cases hd1 : d[k].toNat < 48
            · go_wp2
              go_ret2
              exact num_end (n := 0) (r := 4) (by rw [hnum.out, if_pos (dig_bad hlt2 (.inl hd1))]) rfl (Below.refl _ _)
            · by_cases hd2 : 57 < d[k].toNat
              · go_wp2
                go_ret2
                exact num_end (n := 0) (r := 4) (by rw [hnum.out, if_pos (dig_bad hlt2 (.inr hd2))]) rfl (Below.refl _ _)
              · go_wp2
                go_round
                case rel => exact ⟨k + 1, by go_num, by omega, dig_next hlt2 (by omega) (by omega) HA.out⟩
                case measure => simp [intOf]; omega
          · obtain rfl : k = d.size := by omega
            have hall : d.data.toList.all isDig = true := by
              have := HA.out
              rwa [Lib.size_eq, List.take_length] at this
            have HP : Lib.parseIntB 64 s.data.toList = if valF 0 d.data.toList < 9223372036854775808 then .ok ((valF 0 d.data.toList : Int)) else .range := by
              rw [HC.out]
              exact parse_pos2 d.data.toList HNE.out hall
            have hnum2 : Hid (numD false d.data.toList = if valF 0 d.data.toList < 9223372036854775808 then ((valF 0 d.data.toList : Int), 0) else (0, 2)) := by
              show numD false d.data.toList = _
              rw [hnum.out, if_neg (by rw [hall]; decide)]
            clear hall
            by_cases hv : valF 0 d.data.toList < 9223372036854775808
            · rw [if_pos hv] at HP
              have HV := Lib.hid hv
              have HPP := Lib.hid HP
              clear HP hv
              go_wp2_with (go_at_call 29; refine (Tryd.strconv_ParseInt_10_at64_ok s (by omega) _ HPP.out _).mono ?_; rintro e w1 ⟨rfl, hw1⟩; have HW1 := Lib.hid (below_ok hw1); clear hw1)
              go_ret2
              exact num_end (n := (valF 0 d.data.toList : Int)) (r := 0) (by rw [hnum2.out, if_pos HV.out]) rfl HW1.out
            · rw [if_neg hv] at HP
              have HV := Lib.hid hv
              have HPP := Lib.hid HP
              clear HP hv
              go_wp2_with (go_at_call 29; refine (Tryd.strconv_ParseInt_10_at64_range s (by omega) HPP.out ev _ HEV.out HEV2.out).mono ?_; rintro e w1 ⟨N, rfl, hN, hN2, hw1⟩; have HW1 := Lib.hid hw1; clear hw1 hN hN2)
              go_ret2
              exact num_end (n := 0) (r := 2) (by rw [hnum2.out, if_neg HV.out]) rfl HW1.out

end Go.Proofs.YtocnbeendjabpaaDoor
