/- The walk of WordsLimits. -/
import Derived.Test.YtocnbeendjabpaaDoorRound
namespace Go.Proofs.YtocnbeendjabpaaDoor
open Go.RowKit

/-- a word of so many letters a -/
def aWord (n : Nat) : ByteArray := mk (List.replicate n 97)
theorem aWord_size (n : Nat) : (aWord n).size = n := by rw [Lib.size_eq]; simp [aWord, data_mk]
theorem aWord_next (n : Nat) : aWord n ++ ⟨#[97]⟩ = aWord (n + 1) := by
  rw [← mk_data (aWord n ++ ⟨#[97]⟩), app_data]
  unfold aWord
  rw [data_mk, List.replicate_succ']
theorem aWord_ints (n : Nat) : ints (aWord n) = List.replicate n 97 := by
  unfold ints aWord
  rw [data_mk, List.map_replicate]
  rfl
theorem aWord_writ {n : Nat} (h : 0 < n) : writ (ints (aWord n)) = ints (aWord n) := by
  have hp : plainS (ints (aWord n)) = true := by
    rw [aWord_ints]
    unfold plainS
    rw [Bool.and_eq_true]
    refine ⟨?_, ?_⟩
    · rw [List.all_eq_true]
      intro x hx
      rw [List.eq_of_mem_replicate hx]
      decide
    · cases n with
      | zero => omega
      | succ n => simp [List.replicate_succ]
  unfold writ
  rw [if_pos hp]
theorem limits_len {m w : Nat} (hm : 1 ≤ m) (hw : 1 ≤ w) : (jAll (List.replicate m (aWord w))).length = m * (w + 1) - 1 := by
  obtain ⟨k, rfl⟩ : ∃ k, m = k + 1 := ⟨m - 1, by omega⟩
  have h : ∀ k, ((List.replicate k (aWord w)).flatMap fun y => 32 :: writ (ints y)).length = k * (w + 1) := by
    intro k
    induction k with
    | zero => simp
    | succ k ih =>
      rw [List.replicate_succ, List.flatMap_cons, List.length_append, ih, List.length_cons, aWord_writ (by omega), ints_length, aWord_size, Nat.succ_mul]
      omega
  rw [List.replicate_succ]
  simp only [jAll]
  rw [List.length_append, h, aWord_writ (by omega), ints_length, aWord_size, Nat.succ_mul]
  omega
theorem limits_join {m w : Nat} (hm : 1 ≤ m) (hw : 1 ≤ w) : joinR (List.replicate m (aWord w)) = if 256 < m ∨ 4096 < m * (w + 1) - 1 then (⟨#[]⟩, 3) else (strOfNums (jAll (List.replicate m (aWord w))), 0) := by
  unfold joinR
  rw [limits_len hm hw, List.length_replicate]

def WordRel (W : Nat) (v8 v9 : Value) : Prop := ∃ k, v8 = .string (aWord k) ∧ v9 = .int .i64 (k : Nat) ∧ k ≤ W
structure ListIn (w : World) (M : Nat) (X : ByteArray) (v7 v10 : Value) (wr : World) (k : Nat) : Prop where
  eq : v10 = .int .i64 k
  hi : k ≤ M
  own : wr.ownsRow w.heap.size 9 1 v7 k (List.replicate k (Value.string X))
  below : Below w.heap.size w wr
def ListRel (w : World) (M : Nat) (X : ByteArray) (v7 v10 : Value) (wr : World) : Prop := ∃ k, ListIn w M X v7 v10 wr k

set_option maxRecDepth 100000 in
set_option maxHeartbeats 8000000 in
theorem wordsLimits_walk (a b : Int) (w : World) (ha : 0 ≤ a) (_ha2 : a ≤ 65535) (hb : 0 ≤ b) (_hb2 : b ≤ 65535) (hE : Env w) :
    Calls Tryd.prog 5 #[.int .u16 a, .int .u16 b] w (LawPost w) := by
  have HE := Lib.hid hE
  clear hE
  have hm1 : 1 ≤ 1 + a % 270 := by omega
  have hm2 : 1 + a % 270 ≤ 270 := by omega
  have hw1 : 1 ≤ 1 + b % 80 := by omega
  have hw2 : 1 + b % 80 ≤ 80 := by omega
  go_enter Tryd.func5, Tryd.ntmps5
  go_wp2_with fail
  refine (wsane_any w HE.out).mono ?_
  rintro e w1 ⟨rfl, hb1⟩
  have HB1 := Lib.hid hb1
  clear hb1
  go_wp2_with fail
  generalize 1 + a % 270 = m at hm1 hm2 ⊢
  generalize 1 + b % 80 = v at hw1 hw2 ⊢
  obtain ⟨M, rfl⟩ : ∃ M : Nat, m = M := ⟨m.toNat, by omega⟩
  obtain ⟨W, rfl⟩ : ∃ W : Nat, v = W := ⟨v.toNat, by omega⟩
  have hM1 : 1 ≤ M := by omega
  have hM2 : M ≤ 270 := by omega
  have hW1 : 1 ≤ W := by omega
  have hW2 : W ≤ 80 := by omega
  clear hm1 hm2 hw1 hw2
  go_loop [8, 9] (fun v8 v9 => WordRel W v8 v9) (fun _ i => W - (intOf i).toNat)
  case atStart => exact ⟨0, by rfl, rfl, by omega⟩
  case round =>
    obtain ⟨k, rfl, rfl, hk⟩ := hrel
    by_cases hlt : k < W
    · have hn := aWord_next k
      have hsz : ¬ 9223372036854775807 < (aWord k).size + 1 := by rw [aWord_size]; omega
      have HN := Lib.hid hn
      clear hn
      go_wp2_with fail
      go_round
      case rel => exact ⟨k + 1, by rw [HN.out], by go_num, by omega⟩
      case measure => simp [intOf]; omega
    · obtain rfl : k = W := by omega
      generalize hX : aWord k = X
      have HX := Lib.hid hX
      clear hX
      go_wp2_with fail
      go_loopw [7, 10] (fun v7 v10 wr => ListRel w1 M X v7 v10 wr) (fun _ i _ => M - (intOf i).toNat)
      case atStart => exact ⟨0, rfl, by omega, World.ownsRow_nil _ _ _ _, Below.refl _ _⟩
      case round =>
        obtain ⟨j, hq⟩ := hrel
        obtain rfl := hq.eq
        have hj := hq.hi
        have HQ := Lib.hid hq
        clear hq
        by_cases hjl : j < M
        · go_wp2_with (first
            | (at_builtin
               refine wpList_append_one _ rfl (.tmp 37) (.tmp 39) _ rfl w1.heap.size 9 (.string ⟨#[]⟩) 16 Tryd.underlying23 info_str rfl u7 j (List.replicate j (Value.string X)) rfl (HQ.out.own.alloc _) _ 1 (.string X) rfl (by simp [go_sem]) rfl (by unfold maxLen; omega) (by omega) (by have := HQ.out.below.size; simp; omega) ?_
               intro g cap w2 hown hg hat
               have hown := Lib.hid hown
               have hg := Lib.hid hg
               clear hat))
          go_roundw
          case rel => exact ⟨j + 1, by go_num, by omega, by rw [List.replicate_succ']; exact hown.out, (HQ.out.below.alloc HQ.out.below.size _).append (HQ.out.own.alloc _) hg.out (Nat.le_refl _) (by have := HQ.out.below.size; simp; omega)⟩
          case measure => simp [intOf]; omega
        · obtain rfl : j = M := by omega
          have hown : wr.ownsRow w1.heap.size 9 1 u7 (List.replicate j X).length ((List.replicate j X).map Value.string) := by
            rw [List.length_replicate, List.map_replicate]
            exact HQ.out.own
          obtain ⟨A, c, hv, hrd⟩ := Rd.own hown
          rw [List.length_replicate] at hv
          subst hv
          have HB2 := Lib.hid (HB1.out.trans (HQ.out.below.mono HB1.out.size))
          have hJ := join_any A c (List.replicate j X) wr hrd (by intro x hx; rw [List.eq_of_mem_replicate hx, ← HX.out, aWord_size]; omega)
          rw [List.length_replicate] at hJ
          have hjr0 := limits_join (m := j) (w := k) hM1 hW1
          rw [HX.out] at hjr0
          have hlen := limits_len (m := j) (w := k) hM1 hW1
          rw [HX.out] at hlen
          have HRD := Lib.hid hrd
          have HLEN := Lib.hid hlen
          have HJR := Lib.hid hjr0
          have hE2 := HE.out.below HB2.out (Nat.le_refl _)
          have HE2 := Lib.hid hE2
          clear hrd hlen hjr0 hown hE2
          generalize hl : List.replicate j X = l at hJ
          have HL := Lib.hid hl
          clear hl
          have hP0 : j * (k + 1) ≤ 270 * 81 := Nat.mul_le_mul hM2 (by omega)
          have hP3 : 1 * 1 ≤ j * (k + 1) := Nat.mul_le_mul hM1 (by omega)
          have hPc : (j : Int) * ((k : Int) + 1) = ((j * (k + 1) : Nat) : Int) := by push_cast; rfl
          have hP1 : 1 ≤ (j : Int) * ((k : Int) + 1) := by omega
          have hP2 : (j : Int) * ((k : Int) + 1) ≤ 30000 := by omega
          have HPC := Lib.hid hPc
          clear hP0 hP3 hPc
          have HJ := hJ
          clear hJ
          by_cases h1 : 256 < j
          · have hjr : Hid (joinR l = (⟨#[]⟩, 3)) := by
              show joinR l = _
              rw [← HL.out, HJR.out, if_pos (.inl h1)]
            go_wp2_with fail
            refine HJ.mono ?_
            unfold JoinPost
            rw [hjr.out]
            rintro e w3 ⟨rfl, hb3⟩
            have HB3 := Lib.hid (HB2.out.trans (hb3.mono HB2.out.size))
            clear hb3
            go_wp2_with fail
            go_ret
            exact ⟨rfl, HB3.out⟩
          · by_cases h2 : 4096 < (j : Int) * ((k : Int) + 1) - 1
            · have hjr : Hid (joinR l = (⟨#[]⟩, 3)) := by
                show joinR l = _
                rw [← HL.out, HJR.out, if_pos (.inr (by have := HPC.out; omega))]
              go_wp2_with fail
              refine HJ.mono ?_
              unfold JoinPost
              rw [hjr.out]
              rintro e w3 ⟨rfl, hb3⟩
              have HB3 := Lib.hid (HB2.out.trans (hb3.mono HB2.out.size))
              clear hb3
              go_wp2_with fail
              go_ret
              exact ⟨rfl, HB3.out⟩
            · have h3 : (j : Int) * ((k : Int) + 1) - 1 ≤ 4096 := by omega
              obtain ⟨S, hS⟩ : ∃ S, S = strOfNums (jAll l) := ⟨_, rfl⟩
              have hjr : Hid (joinR l = (S, 0)) := by
                show joinR l = _
                rw [hS, ← HL.out, HJR.out, if_neg (by have := HPC.out; omega)]
              have hsz : S.size = j * (k + 1) - 1 := by rw [hS, strOfNums_size, ← HL.out, HLEN.out]
              have hszb : ((S.size : Int) == (j : Int) * ((k : Int) + 1) - 1) = true := by
                rw [beq_iff_eq, hsz]
                have := HPC.out
                omega
              have hsp : Hid (splitR (ints S) = (0, l)) := by
                show splitR (ints S) = (0, l)
                rw [hS]
                exact words_back (by rw [← HL.out, List.length_replicate]; omega) (by rw [← HL.out, HLEN.out]; have := HPC.out; omega)
              clear hS hsz h2
              go_wp2_with fail
              refine HJ.mono ?_
              unfold JoinPost
              rw [hjr.out]
              rintro e w3 ⟨rfl, hb3⟩
              have HB3 := Lib.hid (HB2.out.trans (hb3.mono HB2.out.size))
              have HRD3 := Lib.hid (HRD.out.below hb3 (Nat.le_refl _))
              clear hb3
              go_wp2_with fail
              refine (split_any S w3).mono ?_
              rw [hsp.out]
              rintro e w4 ⟨V4, rfl, hb4, hown4⟩
              obtain ⟨A4, c4, rfl, hrd4⟩ := Rd.own hown4
              have HB4 := Lib.hid (HB3.out.trans (hb4.mono HB3.out.size))
              have HRD4 := Lib.hid (HRD3.out.below hb4 (Nat.le_refl _))
              have HRDV := Lib.hid hrd4
              clear hb4 hown4 hrd4
              have hSm := same_any A4 A c4 c l l w4 HRDV.out (by rw [← HL.out]; exact HRD4.out) (by rw [← HL.out, List.length_replicate]; omega)
              have hll : l.length = j := by rw [← HL.out, List.length_replicate]
              rw [hll] at hSm ⊢
              have HSm := hSm
              clear hSm hll
              go_wp2_with fail
              refine HSm.mono ?_
              rintro e w5 ⟨rfl, hb5⟩
              have HB5 := Lib.hid (HB4.out.trans (hb5.mono HB4.out.size))
              clear hb5
              go_wp2_with fail
              go_ret
              exact ⟨rfl, HB5.out⟩
end Go.Proofs.YtocnbeendjabpaaDoor
