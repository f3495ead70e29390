/- speculateref01.Number. -/
import Derived.Test.YtocnbeendjabpaaDoorNumWalk
namespace Go.Proofs.YtocnbeendjabpaaDoor
open Go.RowKit

theorem number_any (s : ByteArray) (ev : Value) (w : World) (hs : s.size ≤ 1000000)
    (hev : w.cell? ⟨1, 0, none⟩ = some ev) (hev2 : ev = .nilIface ∨ ∃ te pe, ev = .iface te pe) :
    Calls Tryd.prog 18 #[.string s] w (NumPost w (numR s.data.toList)) := by
  have hsz := Lib.size_eq s
  by_cases h : s.data.toList.head? = some 45
  · obtain ⟨r, hr⟩ : ∃ r, s.data.toList = 45 :: r := by
      cases hl : s.data.toList with
      | nil => rw [hl] at h; simp at h
      | cons c r => rw [hl] at h; simp at h; exact ⟨r, by rw [h]⟩
    rw [hr, numR_neg]
    rw [hr] at hsz
    exact number_neg s (mk r) ev w hs (by rw [hr]; simp [Lib.trimPrefix, Lib.hasPrefix, mk]) (by rw [Lib.size_eq (mk r), data_mk, hsz]; simp) (by rw [hr]; rfl) hev hev2
  · rw [numR_pos h]
    refine number_pos s s ev w hs ?_ rfl rfl hev hev2
    unfold Lib.trimPrefix
    rw [if_neg]
    cases hl : s.data.toList with
    | nil => simp [Lib.hasPrefix]
    | cons c r =>
      rw [hl] at h
      simp at h
      simp [Lib.hasPrefix]
      exact fun e => h e.symm

theorem valF_nil (a : Nat) : valF a [] = a := by unfold valF; rfl
theorem valF_cons (a : Nat) (c : UInt8) (l : List UInt8) : valF a (c :: l) = valF (a * 10 + (c.toNat - 48)) l := by conv => lhs; unfold valF
theorem valF_snoc : ∀ (l : List UInt8) (a : Nat) (c : UInt8), valF a (l ++ [c]) = valF a l * 10 + (c.toNat - 48)
  | [], a, c => by rw [List.nil_append, valF_cons, valF_nil, valF_nil]
  | x :: l, a, c => by
    rw [List.cons_append, valF_cons, valF_cons]
    exact valF_snoc l _ c
theorem valF_take {d : ByteArray} {k : Nat} (h : k < d.size) : valF 0 (d.data.toList.take (k + 1)) = valF 0 (d.data.toList.take k) * 10 + (d[k].toNat - 48) := by
  rw [List.take_add_one, byte_at h]
  exact valF_snoc _ _ _
theorem wrap_neg {u : Int} (h0 : 0 ≤ u) (h1 : u ≤ 9223372036854775808) : wrap64 (-wrap64 u) = -u := by
  unfold wrap64; omega
theorem wrap_pos {u : Int} (h0 : 0 ≤ u) (h1 : u < 9223372036854775808) : wrap64 u = u := by
  unfold wrap64; omega

/-- at a round's head -/
structure RNumIn (d : ByteArray) (v6 v7 v8 : Value) (k : Nat) (u : Int) (o : Bool) : Prop where
  eq6 : v6 = .int .u64 u
  eq7 : v7 = .bool o
  eq8 : v8 = .int .i64 k
  hi : k ≤ d.size
  dig : (d.data.toList.take k).all isDig = true
  lo : 0 ≤ u
  up : u ≤ 18446744073709551615
  no : o = false → u = valF 0 (d.data.toList.take k) ∧ u ≤ 9223372036854775808
  yes : o = true → (9223372036854775808 : Int) < (valF 0 (d.data.toList.take k) : Nat)
def RNumRel (d : ByteArray) (v6 v7 v8 : Value) : Prop := ∃ k u o, RNumIn d v6 v7 v8 k u o

theorem rnum_step {d : ByteArray} {v6 v7 v8 v9 : Value} {k : Nat} {u x : Int} {o o' : Bool} (h : RNumIn d v6 v7 v8 k u o) (hk : k < d.size) (h1 : 48 ≤ d[k].toNat) (h2 : d[k].toNat ≤ 57)
    (hx : x = IntKind.u64.wrap (IntKind.u64.wrap (u * 10) + ((d[k].toNat : Int) - 48))) (ho : o' = (o || decide ((9223372036854775808 - ((d[k].toNat : Int) - 48)) / 10 < u))) (h9 : v9 = .int .i64 ((k + 1 : Nat) : Int)) :
    RNumRel d (.int .u64 x) (.bool o') v9 := by
  have hv := valF_take hk
  have hu := h.up
  have hl := h.lo
  rw [IntKind.wrap_u64, IntKind.wrap_u64] at hx
  refine ⟨k + 1, x, o', rfl, rfl, h9, hk, dig_next hk h1 h2 h.dig, by omega, by omega, ?_, ?_⟩
  · intro hf
    rw [hf] at ho
    have ho2 := ho.symm
    rw [Bool.or_eq_false_iff] at ho2
    obtain ⟨ha, hb⟩ := ho2
    rw [decide_eq_false_iff_not] at hb
    obtain ⟨hc, hd⟩ := h.no ha
    rw [hv]
    omega
  · intro hf
    rw [hf] at ho
    have ho2 := ho.symm
    rw [Bool.or_eq_true] at ho2
    rw [hv]
    rcases ho2 with ha | hb
    · have := h.yes ha
      omega
    · rw [decide_eq_true_eq] at hb
      cases o with
      | true => have := h.yes rfl; omega
      | false =>
        have := h.no rfl
        omega
theorem numD_go {neg : Bool} {d : ByteArray} (hne : 0 < d.size) (hz : ¬(d[0] = 48 ∧ (1 < d.size ∨ neg = true))) : numD neg d.data.toList = if d.data.toList.all isDig = false then (0, 4)
    else if neg then (if valF 0 d.data.toList ≤ 9223372036854775808 then (-(valF 0 d.data.toList : Int), 0) else (0, 2)) else (if valF 0 d.data.toList < 9223372036854775808 then ((valF 0 d.data.toList : Int), 0) else (0, 2)) := by
  have hhead : d.data.toList.head? = some d[0] := by
    have := byte_drop d 0 hne
    rw [List.drop_zero] at this
    rw [this]
    rfl
  unfold numD
  rw [if_neg]
  rintro (h | ⟨h1, h2⟩)
  · rw [h] at hhead; cases hhead
  · rw [hhead] at h1
    exact hz ⟨Option.some.inj h1, by rw [← Lib.size_eq] at h2; exact h2⟩
theorem numD_zero {neg : Bool} {d : ByteArray} (hne : 0 < d.size) (hz : d[0] = 48 ∧ (1 < d.size ∨ neg = true)) : numD neg d.data.toList = (0, 4) := by
  have hhead : d.data.toList.head? = some d[0] := by
    have := byte_drop d 0 hne
    rw [List.drop_zero] at this
    rw [this]
    rfl
  unfold numD
  rw [if_pos (.inr ⟨by rw [hhead, hz.1], by rw [← Lib.size_eq]; exact hz.2⟩)]
theorem list_of_one {d : ByteArray} (h : d.size = 1) (h0 : 0 < d.size) : d.toList = [d[0]] := by
  rw [Lib.toList_data]
  have h1 := byte_drop d 0 h0
  rw [List.drop_zero] at h1
  rw [h1, List.drop_of_length_le (by rw [← Lib.size_eq]; omega)]
theorem byte_ne {c : UInt8} {n : Nat} (hn : n < 256) (h : c ≠ UInt8.ofNat n) : ((c.toNat : Int) == n) = false := by
  rw [beq_eq_false_iff_ne]
  intro e
  apply h
  apply UInt8.toNat_inj.1
  rw [UInt8.toNat_ofNat_of_lt' hn]
  exact_mod_cast e

set_option maxRecDepth 100000 in
set_option maxHeartbeats 4000000 in
theorem rnumber_neg (s : ByteArray) (w : World) (hs : s.size ≤ 1000000) (h0 : 0 < s.size) (h45 : (s[0].toNat : Int) = 45) :
    Calls Tryd.prog 19 #[.string s] w (NumPost w (numD true (s.extract 1 s.size).data.toList)) := by
  have hne : s.toList.isEmpty = false := by
    rw [Lib.toList_data]
    rcases s with ⟨⟨l⟩⟩
    cases l
    · exact absurd h0 (by decide)
    · rfl
  have hb : ((s[0].toNat : Int) == 45) = true := by simpa using h45
  have H45 := Lib.hid h45
  clear h45
  have hds : (s.extract 1 s.size).size ≤ 1000000 := by rw [ByteArray.size_extract]; omega
  generalize hd : s.extract 1 s.size = d at hds
  by_cases hz0 : d.size = 0
  · have hd0 : d = ⟨#[]⟩ := empty_of_size hz0
    have he : d.toList.isEmpty = true := by rw [hd0, Lib.toList_data]; rfl
    have he2 : d.toList = [] := by rw [hd0, Lib.toList_data]
    have HD0 := Lib.hid hd0
    clear hd0 hz0
    go_enter Tryd.func19, Tryd.ntmps19
    go_wp2
    go_ret2
    exact num_end (n := 0) (r := 4) (by rw [HD0.out]; rfl) rfl (Below.refl _ _)
  have hp : 0 < d.size := by omega
  clear hz0
  have he : d.toList.isEmpty = false := by
    rw [Lib.toList_data]
    rcases d with ⟨⟨l⟩⟩
    cases l
    · exact absurd hp (by simp [ByteArray.size])
    · rfl
  by_cases hl1 : 1 < d.size
  · have hq1 : (d.toList == [48]) = false := by
      rw [beq_eq_false_iff_ne, Lib.toList_data]
      intro e
      have := Lib.size_eq d
      rw [e] at this
      simp at this
      omega
    by_cases h48 : d[0] = 48
    · have h48b : ((d[0].toNat : Int) == 48) = true := by rw [h48]; rfl
      have H48 := Lib.hid h48
      clear h48
      go_enter Tryd.func19, Tryd.ntmps19
      go_wp2
      go_ret2
      exact num_end (n := 0) (r := 4) (numD_zero hp ⟨H48.out, .inl hl1⟩) rfl (Below.refl _ _)
    · have h48b : ((d[0].toNat : Int) == 48) = false := byte_ne (n := 48) (by decide) h48
      have hnum := Lib.hid (numD_go (neg := true) hp (fun h => h48 h.1))
      clear h48
      go_enter Tryd.func19, Tryd.ntmps19
      go_wp2
      go_loop [6, 7, 8] (fun v6 v7 v8 => RNumRel d v6 v7 v8) (fun _ _ i => d.size - (intOf i).toNat)
      case atStart => exact ⟨0, 0, false, rfl, rfl, rfl, by omega, by simp, by omega, by omega, fun _ => ⟨by rw [List.take_zero, valF_nil]; rfl, by omega⟩, fun h => by cases h⟩
      case round =>
        obtain ⟨k, u, o, hq⟩ := hrel
        obtain rfl := hq.eq6
        obtain rfl := hq.eq7
        obtain rfl := hq.eq8
        have hk := hq.hi
        have hlo := hq.lo
        have hup := hq.up
        have HQ := Lib.hid hq
        clear hq
        by_cases hlt2 : k < d.size
        · by_cases hd1 : d[k].toNat < 48
          · go_wp2
            go_ret2
            exact num_end (n := 0) (r := 4) (by rw [hnum.out, if_pos (dig_bad hlt2 (.inl hd1))]) rfl (Below.refl _ _)
          · by_cases hd2 : 57 < d[k].toNat
            · go_wp2
              go_ret2
              exact num_end (n := 0) (r := 4) (by rw [hnum.out, if_pos (dig_bad hlt2 (.inr hd2))]) rfl (Below.refl _ _)
            · have hd3 : 48 ≤ d[k].toNat := by omega
              have hd4 : d[k].toNat ≤ 57 := by omega
              cases o
              · go_wp2
                go_round
                case rel => exact rnum_step HQ.out hlt2 hd3 hd4 rfl (by rw [Bool.false_or]) (by go_num)
                case measure => simp [intOf]; omega
              · go_wp2
                go_round
                case rel => exact rnum_step HQ.out hlt2 hd3 hd4 rfl (by rw [Bool.true_or]) (by go_num)
                case measure => simp [intOf]; omega
        · obtain rfl : k = d.size := by omega
          have htk : Hid (d.data.toList.take d.size = d.data.toList) := by
            show d.data.toList.take d.size = _
            rw [Lib.size_eq, List.take_length]
          have hnum2 : Hid (numD true d.data.toList = if valF 0 d.data.toList ≤ 9223372036854775808 then (-(valF 0 d.data.toList : Int), 0) else (0, 2)) := by
            show numD true d.data.toList = _
            rw [hnum.out, if_neg (by have := HQ.out.dig; rw [htk.out] at this; rw [this]; decide)]
            rfl
          cases o
          · obtain ⟨hu1, hu2⟩ := HQ.out.no rfl
            have HU := Lib.hid hu1
            clear hu1
            go_wp2
            go_ret2
            exact num_end (by rw [hnum2.out, if_pos (by have := HU.out; rw [htk.out] at this; omega), wrap_neg hlo hu2, HU.out, htk.out]) rfl (Below.refl _ _)
          · have hy := Lib.hid (HQ.out.yes rfl)
            go_wp2
            go_ret2
            exact num_end (n := 0) (r := 2) (by rw [hnum2.out, if_neg (by have := hy.out; rw [htk.out] at this; omega)]) rfl (Below.refl _ _)
  · have hl2 : decide ((1 : Int) < (d.size : Int)) = false := by simp; omega
    have hl3 : d.size ≤ 1 := by omega
    have hone := Lib.hid (list_of_one (by omega) hp)
    by_cases h48 : d[0] = 48
    · have hq1 : (d.toList == [48]) = true := by rw [hone.out, h48]; rfl
      have H48 := Lib.hid h48
      clear h48
      go_enter Tryd.func19, Tryd.ntmps19
      go_wp2
      go_ret2
      exact num_end (n := 0) (r := 4) (numD_zero hp ⟨H48.out, .inr rfl⟩) rfl (Below.refl _ _)
    · have hq1 : (d.toList == [48]) = false := by
        rw [beq_eq_false_iff_ne, hone.out]
        intro e
        exact h48 (List.cons.inj e).1
      have hnum := Lib.hid (numD_go (neg := true) hp (fun h => h48 h.1))
      clear h48
      go_enter Tryd.func19, Tryd.ntmps19
      go_wp2
      go_loop [6, 7, 8] (fun v6 v7 v8 => RNumRel d v6 v7 v8) (fun _ _ i => d.size - (intOf i).toNat)
      case atStart => exact ⟨0, 0, false, rfl, rfl, rfl, by omega, by simp, by omega, by omega, fun _ => ⟨by rw [List.take_zero, valF_nil]; rfl, by omega⟩, fun h => by cases h⟩
      case round =>
        obtain ⟨k, u, o, hq⟩ := hrel
        obtain rfl := hq.eq6
        obtain rfl := hq.eq7
        obtain rfl := hq.eq8
        have hk := hq.hi
        have hlo := hq.lo
        have hup := hq.up
        have HQ := Lib.hid hq
        clear hq
        by_cases hlt2 : k < d.size
        · by_cases hd1 : d[k].toNat < 48
          · go_wp2
            go_ret2
            exact num_end (n := 0) (r := 4) (by rw [hnum.out, if_pos (dig_bad hlt2 (.inl hd1))]) rfl (Below.refl _ _)
          · by_cases hd2 : 57 < d[k].toNat
            · go_wp2
              go_ret2
              exact num_end (n := 0) (r := 4) (by rw [hnum.out, if_pos (dig_bad hlt2 (.inr hd2))]) rfl (Below.refl _ _)
            · have hd3 : 48 ≤ d[k].toNat := by omega
              have hd4 : d[k].toNat ≤ 57 := by omega
              cases o
              · go_wp2
                go_round
                case rel => exact rnum_step HQ.out hlt2 hd3 hd4 rfl (by rw [Bool.false_or]) (by go_num)
                case measure => simp [intOf]; omega
              · go_wp2
                go_round
                case rel => exact rnum_step HQ.out hlt2 hd3 hd4 rfl (by rw [Bool.true_or]) (by go_num)
                case measure => simp [intOf]; omega
        · obtain rfl : k = d.size := by omega
          have htk : Hid (d.data.toList.take d.size = d.data.toList) := by
            show d.data.toList.take d.size = _
            rw [Lib.size_eq, List.take_length]
          have hnum2 : Hid (numD true d.data.toList = if valF 0 d.data.toList ≤ 9223372036854775808 then (-(valF 0 d.data.toList : Int), 0) else (0, 2)) := by
            show numD true d.data.toList = _
            rw [hnum.out, if_neg (by have := HQ.out.dig; rw [htk.out] at this; rw [this]; decide)]
            rfl
          cases o
          · obtain ⟨hu1, hu2⟩ := HQ.out.no rfl
            have HU := Lib.hid hu1
            clear hu1
            go_wp2
            go_ret2
            exact num_end (by rw [hnum2.out, if_pos (by have := HU.out; rw [htk.out] at this; omega), wrap_neg hlo hu2, HU.out, htk.out]) rfl (Below.refl _ _)
          · have hy := Lib.hid (HQ.out.yes rfl)
            go_wp2
            go_ret2
            exact num_end (n := 0) (r := 2) (by rw [hnum2.out, if_neg (by have := hy.out; rw [htk.out] at this; omega)]) rfl (Below.refl _ _)

set_option maxRecDepth 100000 in
set_option maxHeartbeats 4000000 in
theorem rnumber_pos (d : ByteArray) (w : World) (hds : d.size ≤ 1000000) (h0 : 0 < d.size) (h45 : (d[0].toNat : Int) ≠ 45) :
    Calls Tryd.prog 19 #[.string d] w (NumPost w (numD false d.data.toList)) := by
  have hb : ((d[0].toNat : Int) == 45) = false := by simpa using h45
  have H45 := Lib.hid h45
  clear h45
  have hp : 0 < d.size := h0
  have he : d.toList.isEmpty = false := by
    rw [Lib.toList_data]
    rcases d with ⟨⟨l⟩⟩
    cases l
    · exact absurd hp (by simp [ByteArray.size])
    · rfl
  by_cases hl1 : 1 < d.size
  · have hq1 : (d.toList == [48]) = false := by
      rw [beq_eq_false_iff_ne, Lib.toList_data]
      intro e
      have := Lib.size_eq d
      rw [e] at this
      simp at this
      omega
    by_cases h48 : d[0] = 48
    · have h48b : ((d[0].toNat : Int) == 48) = true := by rw [h48]; rfl
      have H48 := Lib.hid h48
      clear h48
      go_enter Tryd.func19, Tryd.ntmps19
      go_wp2
      go_ret2
      exact num_end (n := 0) (r := 4) (numD_zero hp ⟨H48.out, .inl hl1⟩) rfl (Below.refl _ _)
    · have h48b : ((d[0].toNat : Int) == 48) = false := byte_ne (n := 48) (by decide) h48
      have hnum := Lib.hid (numD_go (neg := false) hp (fun h => h48 h.1))
      clear h48
      go_enter Tryd.func19, Tryd.ntmps19
      go_wp2
      go_loop [6, 7, 8] (fun v6 v7 v8 => RNumRel d v6 v7 v8) (fun _ _ i => d.size - (intOf i).toNat)
      case atStart => exact ⟨0, 0, false, rfl, rfl, rfl, by omega, by simp, by omega, by omega, fun _ => ⟨by rw [List.take_zero, valF_nil]; rfl, by omega⟩, fun h => by cases h⟩
      case round =>
        obtain ⟨k, u, o, hq⟩ := hrel
        obtain rfl := hq.eq6
        obtain rfl := hq.eq7
        obtain rfl := hq.eq8
        have hk := hq.hi
        have hlo := hq.lo
        have hup := hq.up
        have HQ := Lib.hid hq
        clear hq
        by_cases hlt2 : k < d.size
        · by_cases hd1 : d[k].toNat < 48
          · go_wp2
            go_ret2
            exact num_end (n := 0) (r := 4) (by rw [hnum.out, if_pos (dig_bad hlt2 (.inl hd1))]) rfl (Below.refl _ _)
          · by_cases hd2 : 57 < d[k].toNat
            · go_wp2
              go_ret2
              exact num_end (n := 0) (r := 4) (by rw [hnum.out, if_pos (dig_bad hlt2 (.inr hd2))]) rfl (Below.refl _ _)
            · have hd3 : 48 ≤ d[k].toNat := by omega
              have hd4 : d[k].toNat ≤ 57 := by omega
              cases o
              · go_wp2
                go_round
                case rel => exact rnum_step HQ.out hlt2 hd3 hd4 rfl (by rw [Bool.false_or]) (by go_num)
                case measure => simp [intOf]; omega
              · go_wp2
                go_round
                case rel => exact rnum_step HQ.out hlt2 hd3 hd4 rfl (by rw [Bool.true_or]) (by go_num)
                case measure => simp [intOf]; omega
        · obtain rfl : k = d.size := by omega
          have htk : Hid (d.data.toList.take d.size = d.data.toList) := by
            show d.data.toList.take d.size = _
            rw [Lib.size_eq, List.take_length]
          have hnum2 : Hid (numD false d.data.toList = if valF 0 d.data.toList < 9223372036854775808 then ((valF 0 d.data.toList : Int), 0) else (0, 2)) := by
            show numD false d.data.toList = _
            rw [hnum.out, if_neg (by have := HQ.out.dig; rw [htk.out] at this; rw [this]; decide)]
            rfl
          cases o
          · obtain ⟨hu1, hu2⟩ := HQ.out.no rfl
            have HU := Lib.hid hu1
            clear hu1
            by_cases h63 : u = 9223372036854775808
            · have h63b : (u == 9223372036854775808) = true := by simpa using h63
              have H63 := Lib.hid h63
              clear h63
              go_wp2
              go_ret2
              exact num_end (n := 0) (r := 2) (by rw [hnum2.out, if_neg (by have := HU.out; have := H63.out; rw [htk.out] at *; omega)]) rfl (Below.refl _ _)
            · have h63b : (u == 9223372036854775808) = false := by simpa using h63
              have H63 := Lib.hid h63
              clear h63
              go_wp2
              go_ret2
              exact num_end (by rw [hnum2.out, if_pos (by have := HU.out; have := H63.out; rw [htk.out] at *; omega), wrap_pos hlo (by have := H63.out; omega), HU.out, htk.out]) rfl (Below.refl _ _)
          · have hy := Lib.hid (HQ.out.yes rfl)
            go_wp2
            go_ret2
            exact num_end (n := 0) (r := 2) (by rw [hnum2.out, if_neg (by have := hy.out; rw [htk.out] at this; omega)]) rfl (Below.refl _ _)
  · have hl2 : decide ((1 : Int) < (d.size : Int)) = false := by simp; omega
    have hl3 : d.size ≤ 1 := by omega
    have hone := Lib.hid (list_of_one (by omega) hp)
    have hnum := Lib.hid (numD_go (neg := false) hp (fun h => by rcases h.2 with h | h; exact hl1 h; cases h))
    go_enter Tryd.func19, Tryd.ntmps19
    go_wp2
    go_loop [6, 7, 8] (fun v6 v7 v8 => RNumRel d v6 v7 v8) (fun _ _ i => d.size - (intOf i).toNat)
    case atStart => exact ⟨0, 0, false, rfl, rfl, rfl, by omega, by simp, by omega, by omega, fun _ => ⟨by rw [List.take_zero, valF_nil]; rfl, by omega⟩, fun h => by cases h⟩
    case round =>
      obtain ⟨k, u, o, hq⟩ := hrel
      obtain rfl := hq.eq6
      obtain rfl := hq.eq7
      obtain rfl := hq.eq8
      have hk := hq.hi
      have hlo := hq.lo
      have hup := hq.up
      have HQ := Lib.hid hq
      clear hq
      by_cases hlt2 : k < d.size
      · by_cases hd1 : d[k].toNat < 48
        · go_wp2
          go_ret2
          exact num_end (n := 0) (r := 4) (by rw [hnum.out, if_pos (dig_bad hlt2 (.inl hd1))]) rfl (Below.refl _ _)
        · by_cases hd2 : 57 < d[k].toNat
          · go_wp2
            go_ret2
            exact num_end (n := 0) (r := 4) (by rw [hnum.out, if_pos (dig_bad hlt2 (.inr hd2))]) rfl (Below.refl _ _)
          · have hd3 : 48 ≤ d[k].toNat := by omega
            have hd4 : d[k].toNat ≤ 57 := by omega
            cases o
            · go_wp2
              go_round
              case rel => exact rnum_step HQ.out hlt2 hd3 hd4 rfl (by rw [Bool.false_or]) (by go_num)
              case measure => simp [intOf]; omega
            · go_wp2
              go_round
              case rel => exact rnum_step HQ.out hlt2 hd3 hd4 rfl (by rw [Bool.true_or]) (by go_num)
              case measure => simp [intOf]; omega
      · obtain rfl : k = d.size := by omega
        have htk : Hid (d.data.toList.take d.size = d.data.toList) := by
          show d.data.toList.take d.size = _
          rw [Lib.size_eq, List.take_length]
        have hnum2 : Hid (numD false d.data.toList = if valF 0 d.data.toList < 9223372036854775808 then ((valF 0 d.data.toList : Int), 0) else (0, 2)) := by
          show numD false d.data.toList = _
          rw [hnum.out, if_neg (by have := HQ.out.dig; rw [htk.out] at this; rw [this]; decide)]
          rfl
        cases o
        · obtain ⟨hu1, hu2⟩ := HQ.out.no rfl
          have HU := Lib.hid hu1
          clear hu1
          by_cases h63 : u = 9223372036854775808
          · have h63b : (u == 9223372036854775808) = true := by simpa using h63
            have H63 := Lib.hid h63
            clear h63
            go_wp2
            go_ret2
            exact num_end (n := 0) (r := 2) (by rw [hnum2.out, if_neg (by have := HU.out; have := H63.out; rw [htk.out] at *; omega)]) rfl (Below.refl _ _)
          · have h63b : (u == 9223372036854775808) = false := by simpa using h63
            have H63 := Lib.hid h63
            clear h63
            go_wp2
            go_ret2
            exact num_end (by rw [hnum2.out, if_pos (by have := HU.out; have := H63.out; rw [htk.out] at *; omega), wrap_pos hlo (by have := H63.out; omega), HU.out, htk.out]) rfl (Below.refl _ _)
        · have hy := Lib.hid (HQ.out.yes rfl)
          go_wp2
          go_ret2
          exact num_end (n := 0) (r := 2) (by rw [hnum2.out, if_neg (by have := hy.out; rw [htk.out] at this; omega)]) rfl (Below.refl _ _)

set_option maxHeartbeats 400000 in
theorem rnumber_none (w : World) : Calls Tryd.prog 19 #[.string ⟨#[]⟩] w (NumPost w (numD false [])) := by
  go_enter Tryd.func19, Tryd.ntmps19
  go_wp2
  go_ret2
  exact num_end (n := 0) (r := 4) rfl rfl (Below.refl _ _)

theorem rnumber_any (s : ByteArray) (w : World) (hs : s.size ≤ 1000000) : Calls Tryd.prog 19 #[.string s] w (NumPost w (numR s.data.toList)) := by
  by_cases h0 : s.size = 0
  · obtain rfl := empty_of_size h0
    exact rnumber_none w
  · have hp : 0 < s.size := by omega
    have hb := byte_drop s 0 hp
    rw [List.drop_zero] at hb
    by_cases h45 : (s[0].toNat : Int) = 45
    · have h := rnumber_neg s w hs hp h45
      have e : numR s.data.toList = numD true (s.extract 1 s.size).data.toList := by
        rw [Lib.extract_to_end, hb, show s[0] = 45 from UInt8.toNat_inj.1 (by exact_mod_cast h45), numR_neg]
        rfl
      rw [e]
      exact h
    · have h := rnumber_pos s w hs hp h45
      rw [numR_pos]
      · exact h
      · rw [hb]
        simp only [List.head?_cons, ne_eq, Option.some.injEq]
        intro e
        apply h45
        rw [e]
        rfl
end Go.Proofs.YtocnbeendjabpaaDoor
