/- The walks of WordsBack, WordsLines, WordsLimits. -/
import Derived.Test.YtocnbeendjabpaaDoorRound
namespace Go.Proofs.YtocnbeendjabpaaDoor
open Go.RowKit

theorem itoa_size (n : Int) (h0 : -9223372036854775808 ≤ n) (h1 : n ≤ 9223372036854775807) : (mk (Lib.itoa n)).size ≤ 100 := by
  rw [Lib.size_eq, data_mk]
  have := Lib.itoa_length_le n h0 h1
  omega

set_option maxRecDepth 100000 in
set_option maxHeartbeats 4000000 in
theorem wordsBack_walk (A : Option Addr) (c : Nat) (l : List ByteArray) (n : Int) (w : World) (ha : Rd w A l) (h0 : -9223372036854775808 ≤ n) (h1 : n ≤ 9223372036854775807) (hE : Env w) :
    Calls Tryd.prog 8 #[.slice A l.length c, .int .i64 n] w (LawPost w) := by
  have HE := Lib.hid hE
  have HA := Lib.hid ha
  have HN := Lib.hid (num_back n h0 h1)
  have HNS := Lib.hid (itoa_size n h0 h1)
  clear hE ha
  generalize hK : keptB l = K
  have HK := Lib.hid hK
  clear hK
  go_enter Tryd.func8, Tryd.ntmps8
  go_wp2_with fail
  refine (wsane_any w HE.out).mono ?_
  rintro e w1 ⟨rfl, hb1⟩
  have HB1 := Lib.hid hb1
  have HA1 := Lib.hid (HA.out.below hb1 (Nat.le_refl _))
  have HE1 := Lib.hid (HE.out.below hb1 (Nat.le_refl _))
  clear hb1
  go_wp2_with fail
  refine (kept_any A c l w1 HA1.out).mono ?_
  rw [HK.out]
  rintro e w' ⟨rfl, rfl⟩
  cases K
  · go_wp2_with fail
    go_ret
    exact ⟨rfl, HB1.out⟩
  · have hx : ∀ x ∈ l, x.size ≤ 1000 := fun x hx => by have := (keptB_true.1 HK.out).2 x hx; omega
    have HX := Lib.hid hx
    clear hx
    have HJ1 := join_any A c l w1 HA1.out HX.out
    unfold JoinPost at HJ1
    by_cases herr : (joinR l).2 = 0
    · obtain ⟨S, hS⟩ : ∃ S, joinR l = (S, 0) := ⟨(joinR l).1, by rw [← herr]⟩
      rw [hS] at HJ1
      obtain ⟨hl1, hl2, hSe⟩ := joinR_ok hS
      have HSp : Hid (splitR (ints S) = (0, l)) := by
        show splitR (ints S) = (0, l)
        rw [hSe]
        exact words_back hl1 hl2
      have HLn := Lib.hid (lines_twice (line_clean hSe))
      have hSz : S.size ≤ 4096 := by rw [hSe, strOfNums_size]; exact hl2
      have hll : l.length ≤ 256 := hl1
      clear hS hl1 hl2 hSe herr
      go_wp2_with fail
      refine HJ1.mono ?_
      rintro e w2 ⟨rfl, hb2⟩
      have HB2 := Lib.hid (HB1.out.trans (hb2.mono HB1.out.size))
      have HA2 := Lib.hid (HA1.out.below hb2 (Nat.le_refl _))
      have HE2 := Lib.hid (HE1.out.below hb2 (Nat.le_refl _))
      clear hb2
      go_wp2_with fail
      refine (split_any S w2).mono ?_
      rw [HSp.out]
      rintro e w3 ⟨V3, rfl, hb3, hown3⟩
      obtain ⟨A3, c3, rfl, hrd3⟩ := Rd.own hown3
      have HB3 := Lib.hid (HB2.out.trans (hb3.mono HB2.out.size))
      have HA3 := Lib.hid (HA2.out.below hb3 (Nat.le_refl _))
      have HE3 := Lib.hid (HE2.out.below hb3 (Nat.le_refl _))
      have HRD3 := Lib.hid hrd3
      clear hb3 hown3 hrd3
      go_wp2_with fail
      refine (same_any A3 A c3 c l l w3 HRD3.out HA3.out (by omega)).mono ?_
      rintro e w4 ⟨rfl, hb4⟩
      have HB4 := Lib.hid (HB3.out.trans (hb4.mono HB3.out.size))
      have HE4 := Lib.hid (HE3.out.below hb4 (Nat.le_refl _))
      clear hb4
      obtain ⟨m, hm⟩ := HE4.out.maxlen
      have hT : (S ++ ⟨#[10]⟩ ++ S ++ ⟨#[10]⟩).size ≤ 10000 := by
        simp only [ByteArray.size_append]
        show S.size + 1 + S.size + 1 ≤ 10000
        omega
      generalize hTT : S ++ ⟨#[10]⟩ ++ S ++ ⟨#[10]⟩ = T at hT
      have HTT := Lib.hid hTT
      clear hTT
      have HT := lines_any T m w4 (by omega) hm
      rw [← HTT.out, HLn.out] at HT
      clear hm
      go_wp2_with fail
      refine HT.mono ?_
      rintro e w5 ⟨V5, rfl, hb5, hown5⟩
      obtain ⟨g5, c5, rfl, hg5, _⟩ := hown5.form (by simp)
      have hc0 : w5.cell? ⟨g5, 0, none⟩ = some (.string S) := hown5.cells (g := g5) rfl 0 _ rfl
      have hc1 : w5.cell? ⟨g5, 1, none⟩ = some (.string S) := hown5.cells (g := g5) rfl 1 _ rfl
      have HB5 := Lib.hid (HB4.out.trans (hb5.mono HB4.out.size))
      have HE5 := Lib.hid (HE4.out.below hb5 (Nat.le_refl _))
      clear hb5 hown5 hg5
      go_wp2_with fail
      clear hc0 hc1
      refine (format_any n w5 h0 h1 HE5.out.tab).mono ?_
      rintro e w6 ⟨rfl, hb6⟩
      have HB6 := Lib.hid (HB5.out.trans (hb6.mono HB5.out.size))
      have HE6 := Lib.hid (HE5.out.below hb6 (Nat.le_refl _))
      clear hb6
      obtain ⟨ev, hev, hev2⟩ := HE6.out.err
      have HJ := number_any (mk (Lib.itoa n)) ev w6 (by have := HNS.out; omega) hev hev2
      unfold NumPost at HJ
      rw [data_mk, HN.out] at HJ
      clear hev hev2
      go_wp2_with fail
      refine HJ.mono ?_
      rintro e w7 ⟨rfl, hb7⟩
      have HB7 := Lib.hid (HB6.out.trans (hb7.mono HB6.out.size))
      clear hb7
      go_wp2_with fail
      go_ret
      exact ⟨rfl, HB7.out⟩
    · have herrb : ((joinR l).2 == 0) = false := by simpa using herr
      have HERR := Lib.hid herr
      clear herr
      generalize joinR l = r at HJ1 herrb
      go_wp2_with fail
      refine HJ1.mono ?_
      rintro e w2 ⟨rfl, hb2⟩
      have HB2 := Lib.hid (HB1.out.trans (hb2.mono HB1.out.size))
      have HE2 := Lib.hid (HE1.out.below hb2 (Nat.le_refl _))
      clear hb2
      go_wp2_with fail
      refine (format_any n w2 h0 h1 HE2.out.tab).mono ?_
      rintro e w6 ⟨rfl, hb6⟩
      have HB6 := Lib.hid (HB2.out.trans (hb6.mono HB2.out.size))
      have HE6 := Lib.hid (HE2.out.below hb6 (Nat.le_refl _))
      clear hb6
      obtain ⟨ev, hev, hev2⟩ := HE6.out.err
      have HJ := number_any (mk (Lib.itoa n)) ev w6 (by have := HNS.out; omega) hev hev2
      unfold NumPost at HJ
      rw [data_mk, HN.out] at HJ
      clear hev hev2
      go_wp2_with fail
      refine HJ.mono ?_
      rintro e w7 ⟨rfl, hb7⟩
      have HB7 := Lib.hid (HB6.out.trans (hb7.mono HB6.out.size))
      clear hb7
      go_wp2_with fail
      go_ret
      exact ⟨rfl, HB7.out⟩

structure LinesIn (s : ByteArray) (v3 v14 : Value) (k : Nat) (T : ByteArray) : Prop where
  eq3 : v3 = .string T
  eq14 : v14 = .int .i64 k
  hi : k ≤ (linesR s).length
  sofar : T.data.toList = cat ((linesL s.data.toList).take k)
def LinesRel (s : ByteArray) (v3 v14 : Value) : Prop := ∃ k T, LinesIn s v3 v14 k T

theorem cat_take_le (L : List (List UInt8)) (k : Nat) : (cat (L.take k)).length ≤ (cat L).length := by
  conv => rhs; rw [← List.take_append_drop k L]
  unfold cat
  rw [List.flatMap_append, List.length_append]
  omega
theorem cat_lines_len (l : List UInt8) : (cat (linesL l)).length ≤ l.length + 1 := by
  rcases cat_lines l.length l (Nat.le_refl _) with h | ⟨h, _⟩
  · rw [h]; omega
  · rw [h]; simp
theorem lines_next {s : ByteArray} {v3 v14 : Value} {k : Nat} {T : ByteArray} (h : LinesIn s v3 v14 k T) (hk : k < (linesR s).length) : (T ++ ((linesR s)[k] ++ ⟨#[10]⟩)).data.toList = cat ((linesL s.data.toList).take (k + 1)) := by
  have hk2 : k < (linesL s.data.toList).length := by unfold linesR at hk; simpa using hk
  have hx : (linesR s)[k].data.toList = (linesL s.data.toList)[k] := by
    simp only [linesR, List.getElem_map, data_mk]
  rw [app_data, app_data, h.sofar, hx, List.take_add_one, List.getElem?_eq_getElem hk2]
  unfold cat
  rw [List.flatMap_append]
  simp only [Option.toList_some, List.flatMap_cons, List.flatMap_nil, List.append_nil]
theorem lines_room {s : ByteArray} {v3 v14 : Value} {k : Nat} {T : ByteArray} (h : LinesIn s v3 v14 k T) (hk : k < (linesR s).length) : T.size + ((linesR s)[k].size + 1) ≤ s.size + 1 := by
  have h1 := congrArg List.length (lines_next h hk)
  have h2 := cat_take_le (linesL s.data.toList) (k + 1)
  have h3 := cat_lines_len s.data.toList
  rw [← Lib.size_eq, ByteArray.size_append, ByteArray.size_append] at h1
  rw [← Lib.size_eq] at h3
  have : (⟨#[10]⟩ : ByteArray).size = 1 := rfl
  omega

set_option maxRecDepth 100000 in
set_option maxHeartbeats 4000000 in
theorem wordsLines_walk (s : ByteArray) (w : World) (hE : Env w) :
    Calls Tryd.prog 6 #[.string s] w (LawPost w) := by
  have HE := Lib.hid hE
  clear hE
  by_cases hs : 500 < s.size
  · go_enter Tryd.func6, Tryd.ntmps6
    go_wp2_with fail
    refine (wsane_any w HE.out).mono ?_
    rintro e w1 ⟨rfl, hb1⟩
    go_wp2_with fail
    go_ret
    exact ⟨rfl, hb1⟩
  · have hd : decide (500 < (s.size : Int)) = false := by simp; omega
    go_enter Tryd.func6, Tryd.ntmps6
    go_wp2_with fail
    refine (wsane_any w HE.out).mono ?_
    rintro e w1 ⟨rfl, hb1⟩
    have HB1 := Lib.hid hb1
    have HE1 := Lib.hid (HE.out.below hb1 (Nat.le_refl _))
    clear hb1
    obtain ⟨m, hm⟩ := HE1.out.maxlen
    have HM := Lib.hid hm
    clear hm
    go_wp2_with fail
    refine (lines_any s m w1 (by omega) HM.out).mono ?_
    rintro e w2 ⟨V2, rfl, hb2, hown2⟩
    obtain ⟨A2, c2, rfl, hrd2⟩ := Rd.own hown2
    have HB2 := Lib.hid (HB1.out.trans (hb2.mono HB1.out.size))
    have HRD2 := Lib.hid hrd2
    have hll : (linesR s).length ≤ 501 := by have := linesR_len s; omega
    clear hb2 hown2 hrd2
    go_wp2_with fail
    go_loop [3, 14] (fun v3 v14 => LinesRel s v3 v14) (fun _ i => (linesR s).length - (intOf i).toNat)
    case atStart => exact ⟨0, ⟨#[]⟩, rfl, rfl, by omega, by simp [cat]⟩
    case round =>
      obtain ⟨k, T, hq⟩ := hrel
      obtain rfl := hq.eq3
      obtain rfl := hq.eq14
      have hk := hq.hi
      have HQ := Lib.hid hq
      clear hq
      by_cases hlt : k < (linesR s).length
      · obtain ⟨b, off, rfl, hc⟩ := HRD2.out k hlt
        have hroom := lines_room HQ.out hlt
        have hnext := Lib.hid (lines_next HQ.out hlt)
        have hr1 : ¬ 9223372036854775807 < T.size + ((linesR s)[k].size + 1) := by omega
        have hr2 : ¬ 9223372036854775807 < (linesR s)[k].size + 1 := by omega
        generalize (linesR s)[k] = X at hc hnext hr1 hr2 hroom
        go_wp2_with fail
        go_round
        case rel => exact ⟨k + 1, _, rfl, by go_num, by omega, hnext.out⟩
        case measure => simp [intOf]; omega
      · obtain rfl : k = (linesR s).length := by omega
        have hT : T.data.toList = cat (linesL s.data.toList) := by
          have := HQ.out.sofar
          rwa [List.take_of_length_le (by unfold linesR; simp)] at this
        have hr : ¬ 9223372036854775807 < s.size + 1 := by omega
        by_cases heq : T.data.toList = s.data.toList
        · have hb : (T.toList == s.toList) = true := by rw [beq_iff_eq, Lib.toList_data, Lib.toList_data, heq]
          clear heq hT
          go_wp2_with fail
          go_ret
          exact ⟨rfl, HB2.out⟩
        · have hb : (T.toList == s.toList) = false := by rw [beq_eq_false_iff_ne, Lib.toList_data, Lib.toList_data]; exact heq
          rcases cat_lines s.data.toList.length s.data.toList (Nat.le_refl _) with h | ⟨h, c, hc1, hc2⟩
          · exact absurd (hT.trans h) heq
          · have hb2 : (T.toList == (s ++ ⟨#[10]⟩).toList) = true := by
              rw [beq_iff_eq, Lib.toList_data, Lib.toList_data, app_data, hT, h]
            have hsp : 0 < s.size := by
              rw [Lib.size_eq]
              cases hl : s.data.toList with
              | nil => rw [hl] at hc1; cases hc1
              | cons a r => simp
            have hlast : ((s[s.size - 1].toNat : Int) != 10) = true := by
              have h1 := byte_at (s := s) (k := s.size - 1) (by omega)
              rw [List.getLast?_eq_getElem?, ← Lib.size_eq, h1] at hc1
              have h2 := Option.some.inj hc1
              have h3 := byte_ne (c := s[s.size - 1]) (n := 10) (by decide) (by rw [h2]; exact hc2)
              rw [bne, Bool.not_eq_true']
              exact h3
            clear heq hT hc1 hc2
            go_wp2_with fail
            go_ret
            exact ⟨rfl, HB2.out⟩
end Go.Proofs.YtocnbeendjabpaaDoor
