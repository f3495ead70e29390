/- The walks of WordsSplit, WordsJoin, WordsNumbers. -/
import Derived.Test.YtocnbeendjabpaaDoorSane
namespace Go.Proofs.YtocnbeendjabpaaDoor
open Go.RowKit

def LawPost (w : World) (e : Ending) (w' : World) : Prop := e = .returned (.bool true) ∧ Below w.heap.size w w'

theorem tkAll_len : ∀ (l : List Int) (s s' : Int × List Int × List ByteArray), tkAll l s = some s' → s'.2.2.length ≤ s.2.2.length + l.length
  | [], s, s', h => by simp [tkAll] at h; subst h; simp
  | c :: l, s, s', h => by
    unfold tkAll at h
    split at h
    · cases h
    · rename_i s1 h1
      have h2 := tkAll_len l s1 s' h
      have h3 := (tk_state h1).2.2
      simp only [List.length_cons]
      omega
theorem splitR_len (l : List Int) : (splitR l).2.length ≤ 4097 := by
  unfold splitR
  split
  · simp
  · split
    · simp
    · split
      · simp
      · rename_i st word words h
        have := tkAll_len l _ _ h
        simp only [List.length_nil] at this
        split
        · split
          · simp
          · simp; omega
        · simp
theorem linesR_len (s : ByteArray) : (linesR s).length ≤ s.size + 1 := by
  have h := pcs_length_le s.data.toList
  rw [← Lib.size_eq] at h
  unfold linesR linesL
  rw [List.length_map]
  split
  · rw [List.length_dropLast]; omega
  · exact h

set_option maxRecDepth 100000 in
set_option maxHeartbeats 2000000 in
theorem wordsSplit_go (s : ByteArray) (w : World) (hE : Env w) (hs : s.size ≤ 1048576) (hsk : ¬(1500 < s.size ∧ s.size ≤ 4096)) :
    Calls Tryd.prog 3 #[.string s] w (LawPost w) := by
  have HE := Lib.hid hE
  clear hE
  have hsk2 : s.size ≤ 1500 ∨ 4096 < s.size := by omega
  clear hsk
  generalize hr : splitR (ints s) = r
  have HR := Lib.hid hr
  obtain ⟨r1, rl⟩ := r
  have HR2 : Hid (rsplitR (ints s) = (r1, rl)) := by
    show rsplitR (ints s) = (r1, rl)
    rw [← split_same, hr]
  have HLen : Hid (rl.length ≤ 9223372036854775807) := by
    show rl.length ≤ _
    have := congrArg (fun p : Int × List ByteArray => p.2.length) hr
    simp only at this
    have h2 := splitR_len (ints s)
    omega
  clear hr
  rcases hsk2 with h15 | h41
  all_goals
    go_enter Tryd.func3, Tryd.ntmps3
    go_wp2_with fail
    refine (wsane_any w HE.out).mono ?_
    rintro e w1 ⟨rfl, hb1⟩
    have HB1 := Lib.hid hb1
    have HE1 := Lib.hid (HE.out.below hb1 (Nat.le_refl _))
    clear hb1
    go_wp2_with fail
    refine (split_any s w1).mono ?_
    rw [HR.out]
    rintro e w2 ⟨V2, rfl, hb2, hown2⟩
    obtain ⟨A2, c2, rfl, hrd2⟩ := Rd.own hown2
    have HB2 := Lib.hid (HB1.out.trans (hb2.mono HB1.out.size))
    have HE2 := Lib.hid (HE1.out.below hb2 (Nat.le_refl _))
    have HRD2 := Lib.hid hrd2
    clear hb2 hown2 hrd2
    go_wp2_with fail
    refine (rsplit_any s w2).mono ?_
    rw [HR2.out]
    rintro e w3 ⟨V3, rfl, hb3, hown3⟩
    obtain ⟨A3, c3, rfl, hrd3⟩ := Rd.own hown3
    have HB3 := Lib.hid (HB2.out.trans (hb3.mono HB2.out.size))
    have HE3 := Lib.hid (HE2.out.below hb3 (Nat.le_refl _))
    have HRD23 := Lib.hid (HRD2.out.below hb3 (Nat.le_refl _))
    have HRD3 := Lib.hid hrd3
    clear hb3 hown3 hrd3
    go_wp2_with fail
    refine (same_any A2 A3 c2 c3 rl rl w3 HRD23.out HRD3.out HLen.out).mono ?_
    rintro e w4 ⟨rfl, hb4⟩
    have HB4 := Lib.hid (HB3.out.trans (hb4.mono HB3.out.size))
    have HE4 := Lib.hid (HE3.out.below hb4 (Nat.le_refl _))
    clear hb4
    obtain ⟨m, hm⟩ := HE4.out.maxlen
    have HM := Lib.hid hm
    clear hm
    go_wp2_with fail
    refine (lines_any s m w4 (by omega) HM.out).mono ?_
    rintro e w5 ⟨V5, rfl, hb5, hown5⟩
    obtain ⟨A5, c5, rfl, hrd5⟩ := Rd.own hown5
    have HB5 := Lib.hid (HB4.out.trans (hb5.mono HB4.out.size))
    have HRD5 := Lib.hid hrd5
    clear hb5 hown5 hrd5
    go_wp2_with fail
    refine (rlines_any s w5 (by omega)).mono ?_
    rintro e w6 ⟨V6, rfl, hb6, hown6⟩
    obtain ⟨A6, c6, rfl, hrd6⟩ := Rd.own hown6
    have HB6 := Lib.hid (HB5.out.trans (hb6.mono HB5.out.size))
    have HRD56 := Lib.hid (HRD5.out.below hb6 (Nat.le_refl _))
    have HRD6 := Lib.hid hrd6
    clear hb6 hown6 hrd6
    go_wp2_with fail
    refine (same_any A5 A6 c5 c6 (linesR s) (linesR s) w6 HRD56.out HRD6.out (by have := linesR_len s; omega)).mono ?_
    rintro e w7 ⟨rfl, hb7⟩
    have HB7 := Lib.hid (HB6.out.trans (hb7.mono HB6.out.size))
    clear hb7
    go_wp2_with fail
    go_ret
    exact ⟨rfl, HB7.out⟩

set_option maxHeartbeats 400000 in
theorem wordsSplit_walk (s : ByteArray) (w : World) (hE : Env w) (hs : s.size ≤ 1048576) :
    Calls Tryd.prog 3 #[.string s] w (LawPost w) := by
  by_cases hsk : 1500 < s.size ∧ s.size ≤ 4096
  · have HE := Lib.hid hE
    clear hE
    obtain ⟨hsk1, hsk2⟩ := hsk
    go_enter Tryd.func3, Tryd.ntmps3
    go_wp2_with fail
    refine (wsane_any w HE.out).mono ?_
    rintro e w1 ⟨rfl, hb1⟩
    go_wp2_with fail
    go_ret
    exact ⟨rfl, hb1⟩
  · exact wordsSplit_go s w hE hs hsk

/-- few and short words -/
def keptB (l : List ByteArray) : Bool := decide (l.length ≤ 270) && l.all fun x => decide (x.size ≤ 200)
theorem keptB_true {l : List ByteArray} : keptB l = true ↔ l.length ≤ 270 ∧ ∀ x ∈ l, x.size ≤ 200 := by simp [keptB]
def KeptRel (l : List ByteArray) (i : Value) : Prop := ∃ k, i = .int .i64 (k : Nat) ∧ k ≤ l.length ∧ (l.take k).all (fun x => decide (x.size ≤ 200)) = true

set_option maxRecDepth 100000 in
set_option maxHeartbeats 1000000 in
theorem kept_any (A : Option Addr) (c : Nat) (l : List ByteArray) (w : World) (ha : Rd w A l) :
    Calls Tryd.prog 15 #[.slice A l.length c] w fun e w' => e = .returned (.bool (keptB l)) ∧ w = w' := by
  have HA := Lib.hid ha
  clear ha
  by_cases hl : 270 < l.length
  · go_enter Tryd.func15, Tryd.ntmps15
    go_wp2
    go_ret
    exact ⟨ret_bool (by rw [eq_comm, Bool.eq_false_iff]; intro h; have := (keptB_true.1 h).1; omega), rfl⟩
  · have hd : decide (270 < (l.length : Int)) = false := by simp; omega
    go_enter Tryd.func15, Tryd.ntmps15
    go_wp2
    go_loop [10] (fun i => KeptRel l i) (fun i => l.length - (intOf i).toNat)
    case atStart => exact ⟨0, rfl, by omega, by simp⟩
    case round =>
      obtain ⟨k, rfl, hk, ha⟩ := hrel
      have HK := Lib.hid ha
      clear ha
      by_cases hlt : k < l.length
      · obtain ⟨b, off, rfl, hc⟩ := HA.out k hlt
        by_cases hbig : 200 < l[k].size
        · go_wp2
          go_ret
          exact ⟨ret_bool (by rw [eq_comm, Bool.eq_false_iff]; intro h; have := (keptB_true.1 h).2 _ (List.getElem_mem hlt); omega), rfl⟩
        · have hle : l[k].size ≤ 200 := by omega
          go_wp2
          go_round
          case rel =>
            refine ⟨k + 1, by go_num, by omega, ?_⟩
            rw [List.take_add_one, List.getElem?_eq_getElem hlt, List.all_append, HK.out]
            simp [hle]
          case measure => simp [intOf]; omega
      · obtain rfl : k = l.length := by omega
        have HKK : Hid (keptB l = true) := by
          show keptB l = true
          have := HK.out
          rw [List.take_length] at this
          unfold keptB
          rw [this]
          simp
          omega
        go_wp2
        go_ret
        exact ⟨ret_bool HKK.out.symm, rfl⟩

set_option maxRecDepth 100000 in
set_option maxHeartbeats 2000000 in
theorem wordsJoin_walk (A : Option Addr) (c : Nat) (l : List ByteArray) (w : World) (ha : Rd w A l) (hE : Env w) :
    Calls Tryd.prog 4 #[.slice A l.length c] w (LawPost w) := by
  have HE := Lib.hid hE
  have HA := Lib.hid ha
  clear hE ha
  generalize hK : keptB l = K
  have HK := Lib.hid hK
  clear hK
  go_enter Tryd.func4, Tryd.ntmps4
  go_wp2_with fail
  refine (wsane_any w HE.out).mono ?_
  rintro e w1 ⟨rfl, hb1⟩
  have HB1 := Lib.hid hb1
  have HA1 := Lib.hid (HA.out.below hb1 (Nat.le_refl _))
  clear hb1
  go_wp2_with fail
  refine (kept_any A c l w1 HA1.out).mono ?_
  rw [HK.out]
  rintro e w' ⟨rfl, rfl⟩
  cases K
  · go_wp2_with fail
    go_ret
    exact ⟨rfl, HB1.out⟩
  · have hx : ∀ x ∈ l, x.size ≤ 1000 := fun x hx => by have := (keptB_true.1 HK.out).2 x hx; omega
    have HX := Lib.hid hx
    clear hx
    go_wp2_with fail
    generalize hR : joinR l = r
    obtain ⟨S, n⟩ := r
    have HJ1 := join_any A c l w1 HA1.out HX.out
    unfold JoinPost at HJ1
    rw [hR] at HJ1
    have HR := Lib.hid hR
    clear hR
    refine HJ1.mono ?_
    rintro e w2 ⟨rfl, hb2⟩
    have HB2 := Lib.hid (HB1.out.trans (hb2.mono HB1.out.size))
    have HA2 := Lib.hid (HA1.out.below hb2 (Nat.le_refl _))
    clear hb2
    go_wp2_with fail
    have HJ2 := rjoin_any A c l w2 HA2.out HX.out
    unfold JoinPost at HJ2
    rw [HR.out] at HJ2
    refine HJ2.mono ?_
    rintro e w3 ⟨rfl, hb3⟩
    have HB3 := Lib.hid (HB2.out.trans (hb3.mono HB2.out.size))
    clear hb3
    go_wp2_with fail
    go_ret
    exact ⟨rfl, HB3.out⟩

set_option maxRecDepth 100000 in
set_option maxHeartbeats 2000000 in
theorem wordsNumbers_walk (s : ByteArray) (n : Int) (w : World) (h0 : -9223372036854775808 ≤ n) (h1 : n ≤ 9223372036854775807) (hE : Env w) :
    Calls Tryd.prog 7 #[.string s, .int .i64 n] w (LawPost w) := by
  have HE := Lib.hid hE
  clear hE
  by_cases hs : 200 < s.size
  · go_enter Tryd.func7, Tryd.ntmps7
    go_wp2_with fail
    refine (wsane_any w HE.out).mono ?_
    rintro e w1 ⟨rfl, hb1⟩
    go_wp2_with fail
    go_ret
    exact ⟨rfl, hb1⟩
  · generalize hR : numR s.data.toList = r
    obtain ⟨v, er⟩ := r
    have HR := Lib.hid hR
    clear hR
    go_enter Tryd.func7, Tryd.ntmps7
    go_wp2_with fail
    refine (wsane_any w HE.out).mono ?_
    rintro e w1 ⟨rfl, hb1⟩
    have HB1 := Lib.hid hb1
    have HE1 := Lib.hid (HE.out.below hb1 (Nat.le_refl _))
    clear hb1
    obtain ⟨ev, hev, hev2⟩ := HE1.out.err
    have HJ1 := number_any s ev w1 (by omega) hev hev2
    unfold NumPost at HJ1
    rw [HR.out] at HJ1
    clear hev hev2
    go_wp2_with fail
    refine HJ1.mono ?_
    rintro e w2 ⟨rfl, hb2⟩
    have HB2 := Lib.hid (HB1.out.trans (hb2.mono HB1.out.size))
    have HE2 := Lib.hid (HE1.out.below hb2 (Nat.le_refl _))
    clear hb2
    have HJ2 := rnumber_any s w2 (by omega)
    unfold NumPost at HJ2
    rw [HR.out] at HJ2
    go_wp2_with fail
    refine HJ2.mono ?_
    rintro e w3 ⟨rfl, hb3⟩
    have HB3 := Lib.hid (HB2.out.trans (hb3.mono HB2.out.size))
    have HE3 := Lib.hid (HE2.out.below hb3 (Nat.le_refl _))
    clear hb3
    go_wp2_with fail
    refine (format_any n w3 h0 h1 HE3.out.tab).mono ?_
    rintro e w4 ⟨rfl, hb4⟩
    have HB4 := Lib.hid (HB3.out.trans (hb4.mono HB3.out.size))
    clear hb4
    go_wp2_with fail
    refine (rformat_any n w4 h0 h1).mono ?_
    rintro e w5 ⟨rfl, hb5⟩
    have HB5 := Lib.hid (HB4.out.trans (hb5.mono HB4.out.size))
    clear hb5
    go_wp2_with fail
    go_ret
    exact ⟨rfl, HB5.out⟩
end Go.Proofs.YtocnbeendjabpaaDoor
