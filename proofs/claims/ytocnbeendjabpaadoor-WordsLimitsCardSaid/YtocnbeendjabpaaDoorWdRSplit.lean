/- speculateref01.Split. -/
import Derived.Test.YtocnbeendjabpaaDoorWdWord
namespace Go.Proofs.YtocnbeendjabpaaDoor
open Go.RowKit

theorem quo_suffix : ∀ (n : Nat) (l out : List Int), l.length ≤ n → ∀ x rest, quo l out = some (x, rest) → ∃ p, l = p ++ rest := by
  intro n
  induction n with
  | zero => intro l out hl x rest h; obtain rfl : l = [] := List.eq_nil_of_length_eq_zero (by omega); simp [quo] at h
  | succ n ih =>
    intro l out hl x rest h
    cases l with
    | nil => simp [quo] at h
    | cons c l =>
      simp only [List.length_cons] at hl
      unfold quo at h
      split at h
      · cases h; exact ⟨[c], rfl⟩
      · split at h
        · cases h
        · split at h
          · cases l with
            | nil => cases h
            | cons d l' =>
              simp only at h
              split at h
              · obtain ⟨p, rfl⟩ := ih l' _ (by simp at hl; omega) x rest h
                exact ⟨c :: d :: p, rfl⟩
              · cases h
          · obtain ⟨p, rfl⟩ := ih l _ (by omega) x rest h
            exact ⟨c :: p, rfl⟩

theorem wordR_suffix {l x rest : List Int} (h : wordR l = some (x, rest)) : ∃ p, l = p ++ rest ∧ 0 < p.length := by
  unfold wordR at h
  split at h
  · rename_i t
    obtain ⟨p, rfl⟩ := quo_suffix _ t [] (Nat.le_refl _) x rest h
    exact ⟨34 :: p, rfl, by simp⟩
  · split at h
    · cases h
    · cases h
      refine ⟨l.take (l.takeWhile simpB).length, (List.take_append_drop _ _).symm, ?_⟩
      rw [List.length_take]
      have := takeWhile_length_le simpB l
      omega

def refW : Nat → List Int → List ByteArray → Option (List ByteArray)
  | 0, _, _ => none
  | n + 1, l, out => match wordR l with
    | none => none
    | some (x, rest) => match rest with
      | [] => some (out ++ [strOfNums x])
      | c :: r => if c = 32 then refW n r (out ++ [strOfNums x]) else none
/-- the words of a line, or the error, as the reference has it -/
def rsplitR (l : List Int) : Int × List ByteArray :=
  if 4096 < l.length then (3, [])
  else if l.length = 0 then (0, [])
  else match refW (l.length + 1) l [] with
    | none => (4, [])
    | some out => if 256 < out.length then (3, []) else (0, out)
theorem rsplitR_some {l : List Int} (h0 : 0 < l.length) (h1 : l.length ≤ 4096) : rsplitR l = match refW (l.length + 1) l [] with
    | none => (4, [])
    | some out => if 256 < out.length then (3, []) else (0, out) := by
  unfold rsplitR
  rw [if_neg (by omega), if_neg (by omega)]

structure RSplitIn (w : World) (s : ByteArray) (v4 v5 : Value) (wr : World) (n k : Nat) (out : List ByteArray) : Prop where
  eq : v5 = .int .i64 k
  hi : k ≤ s.size
  own : wr.ownsRow w.heap.size 9 1 v4 out.length (out.map Value.string)
  below : Below w.heap.size w wr
  left : refW n ((ints s).drop k) out = refW (s.size + 1) (ints s) []
  fuel : s.size - k < n
  len : out.length ≤ k
def RSplitRel (w : World) (s : ByteArray) (v4 v5 : Value) (wr : World) : Prop := ∃ n k out, RSplitIn w s v4 v5 wr n k out

theorem rsplit_far {w wr w1 w2 : World} {s : ByteArray} {V v5 : Value} {n k : Nat} {out : List ByteArray} {o : Obj} (h : RSplitIn w s V v5 wr n k out) (hb : Below wr.heap.size wr w1) (hg : (w1.alloc o).grownBy w2 V.ownBlock) : Below w.heap.size w w2 :=
  ((h.below.trans (hb.mono h.below.size)).alloc (Nat.le_trans h.below.size hb.size) o).append ((h.own.below hb (Nat.le_refl _)).alloc o) hg (Nat.le_refl _) (by have := h.below.size; have := hb.size; simp; omega)

set_option maxRecDepth 100000 in
set_option maxHeartbeats 4000000 in
theorem rsplit_some (s : ByteArray) (w : World) (h0 : 0 < s.size) (h1 : s.size ≤ 4096) :
    Calls Tryd.prog 11 #[.string s] w (SplitPost w (rsplitR (ints s))) := by
  have hne : s.toList.isEmpty = false := by
    rw [Lib.toList_data]
    rcases s with ⟨⟨l⟩⟩
    cases l
    · exact absurd h0 (by decide)
    · rfl
  have hd : decide (4096 < (s.size : Int)) = false := by simp; omega
  have h0' := Lib.hid h0
  have hRS := Lib.hid (rsplitR_some (l := ints s) (by rw [ints_length]; omega) (by rw [ints_length]; omega))
  rw [ints_length] at hRS
  go_enter Tryd.func11, Tryd.ntmps11
  go_wp2
  go_loopw [4, 5] (fun v4 v5 wr => RSplitRel w s v4 v5 wr) (fun _ i _ => s.size + 1 - (intOf i).toNat)
  case atStart => exact ⟨s.size + 1, 0, [], rfl, by omega, World.ownsRow_nil _ _ _ _, Below.refl _ _, rfl, by omega, by simp⟩
  case round =>
    obtain ⟨n, k, out, hq⟩ := hrel
    obtain rfl := hq.eq
    have hk := hq.hi
    have hlen := hq.len
    have HQ := Lib.hid hq
    clear hq
    obtain ⟨n, rfl⟩ : ∃ m, n = m + 1 := ⟨n - 1, by have := HQ.out.fuel; omega⟩
    have HW := word_any s k wr (by omega) hk
    rcases hw : wordR ((ints s).drop k) with _ | ⟨x, rest⟩
    · rw [hw] at HW
      have HWR := Lib.hid hw
      clear hw
      go_wp2_with (go_at_call 24; refine HW.mono ?_; rintro e w1 ⟨hb1, S, K, rfl⟩)
      go_ret2
      refine split_end (V := .slice none 0 0) (l := []) rfl ?_ (HQ.out.below.trans (hb1.mono HQ.out.below.size)) (World.ownsRow_nil _ _ _ _)
      rw [hRS.out, ← HQ.out.left]
      simp [refW, HWR.out]
    · rw [hw] at HW
      obtain ⟨p, hp, hp0⟩ := wordR_suffix hw
      have hpl : k + p.length + rest.length = s.size := by
        have := congrArg List.length hp
        simp [ints_length] at this
        omega
      have HP := Lib.hid hp
      have HWR := Lib.hid hw
      clear hp hw
      cases rest with
      | nil =>
        have HW2 : Calls Tryd.prog 24 #[.string s, .int .i64 k] wr (fun e w' => Below wr.heap.size wr w' ∧ e = .returned (.tuple #[.string (strOfNums x), .int .i64 s.size, .bool true])) := HW
        clear HW
        have hln : (out ++ [strOfNums x]).length = out.length + 1 := by simp
        have HLN := Lib.hid hln
        clear hln
        by_cases hbig : 256 < out.length + 1
        · go_wp2_with (first
            | (go_at_call 24; refine HW2.mono ?_; rintro e w1 ⟨hb1, rfl⟩)
            | (at_builtin
               refine wpList_append_one _ rfl (.tmp 25) (.tmp 27) _ rfl w.heap.size 9 (.string ⟨#[]⟩) 16 Tryd.underlying23 info_str rfl u4 out.length (out.map Value.string) rfl ((HQ.out.own.below hb1 (Nat.le_refl _)).alloc _) _ 1 (.string (strOfNums x)) rfl (by simp [go_sem]) rfl (maxLen_ok hlen hk (by omega)) (by omega) (by have := HQ.out.below.size; have := hb1.size; simp; omega) ?_
               intro g cap w2 hown hg hat
               have hown := Lib.hid hown
               have hg := Lib.hid hg
               clear hat))
          go_ret2
          refine split_end (V := .slice none 0 0) (l := []) rfl ?_ (rsplit_far HQ.out hb1 hg.out) (World.ownsRow_nil _ _ _ _)
          rw [hRS.out, ← HQ.out.left]
          simp [refW, HWR.out, hbig]
        · go_wp2_with (first
            | (go_at_call 24; refine HW2.mono ?_; rintro e w1 ⟨hb1, rfl⟩)
            | (at_builtin
               refine wpList_append_one _ rfl (.tmp 25) (.tmp 27) _ rfl w.heap.size 9 (.string ⟨#[]⟩) 16 Tryd.underlying23 info_str rfl u4 out.length (out.map Value.string) rfl ((HQ.out.own.below hb1 (Nat.le_refl _)).alloc _) _ 1 (.string (strOfNums x)) rfl (by simp [go_sem]) rfl (maxLen_ok hlen hk (by omega)) (by omega) (by have := HQ.out.below.size; have := hb1.size; simp; omega) ?_
               intro g cap w2 hown hg hat
               have hown := Lib.hid hown
               have hg := Lib.hid hg
               clear hat))
          go_ret2
          refine split_end (V := .slice (some ⟨g, 0, none⟩) (out.length + 1) cap) (l := out ++ [strOfNums x]) rfl ?_ (rsplit_far HQ.out hb1 hg.out) (by rw [HLN.out]; simpa using hown.out)
          rw [hRS.out, ← HQ.out.left]
          simp [refW, HWR.out, hbig]
      | cons c r =>
        obtain ⟨t, ht⟩ : ∃ t, t = k + p.length := ⟨_, rfl⟩
        have hr : t + (r.length + 1) = s.size := by rw [ht]; simpa using hpl
        have hts : t < s.size := by omega
        have hkt : k < t := by omega
        have hdr : (ints s).drop t = c :: r := by rw [ht, ← List.drop_drop, HP.out]; simp
        have hcr := hdr.symm.trans (ints_drop s t hts)
        obtain ⟨rfl, rfl⟩ := List.cons.inj hcr
        have HW2 : Calls Tryd.prog 24 #[.string s, .int .i64 k] wr (fun e w' => Below wr.heap.size wr w' ∧ e = .returned (.tuple #[.string (strOfNums x), .int .i64 t, .bool true])) := by
          refine HW.mono fun e w' h => ⟨h.1, ?_⟩
          have := h.2
          unfold WordRes at this
          simp only at this
          rw [this, show s.size - ((s[t].toNat : Int) :: (ints s).drop (t + 1)).length = t by rw [List.length_cons]; omega]
        have HD := Lib.hid hdr
        clear HW hcr hdr ht hpl hp0 HP hr
        have hne : ((t : Int) == (s.size : Int)) = false := by simp; omega
        have hln : (out ++ [strOfNums x]).length = out.length + 1 := by simp
        have HLN := Lib.hid hln
        clear hln
        by_cases hc : (s[t].toNat : Int) = 32
        · have hcb : ((s[t].toNat : Int) != 32) = false := by simpa using hc
          have HC := Lib.hid hc
          clear hc
          go_wp2_with (first
            | (go_at_call 24; refine HW2.mono ?_; rintro e w1 ⟨hb1, rfl⟩)
            | (at_builtin
               refine wpList_append_one _ rfl (.tmp 25) (.tmp 27) _ rfl w.heap.size 9 (.string ⟨#[]⟩) 16 Tryd.underlying23 info_str rfl u4 out.length (out.map Value.string) rfl ((HQ.out.own.below hb1 (Nat.le_refl _)).alloc _) _ 1 (.string (strOfNums x)) rfl (by simp [go_sem]) rfl (maxLen_ok hlen hk (by omega)) (by omega) (by have := HQ.out.below.size; have := hb1.size; simp; omega) ?_
               intro g cap w2 hown hg hat
               have hown := Lib.hid hown
               have hg := Lib.hid hg
               clear hat))
          go_roundw
          case rel =>
            refine ⟨n, t + 1, out ++ [strOfNums x], by go_num, by omega, by rw [HLN.out]; simpa using hown.out, rsplit_far HQ.out hb1 hg.out, ?_, by have := HQ.out.fuel; omega, by rw [HLN.out]; omega⟩
            rw [← HQ.out.left]
            simp [refW, HWR.out, HC.out]
          case measure => simp [intOf]; omega
        · have hcb : ((s[t].toNat : Int) != 32) = true := by simpa using hc
          have HC := Lib.hid hc
          clear hc
          go_wp2_with (first
            | (go_at_call 24; refine HW2.mono ?_; rintro e w1 ⟨hb1, rfl⟩)
            | (at_builtin
               refine wpList_append_one _ rfl (.tmp 25) (.tmp 27) _ rfl w.heap.size 9 (.string ⟨#[]⟩) 16 Tryd.underlying23 info_str rfl u4 out.length (out.map Value.string) rfl ((HQ.out.own.below hb1 (Nat.le_refl _)).alloc _) _ 1 (.string (strOfNums x)) rfl (by simp [go_sem]) rfl (maxLen_ok hlen hk (by omega)) (by omega) (by have := HQ.out.below.size; have := hb1.size; simp; omega) ?_
               intro g cap w2 hown hg hat
               have hown := Lib.hid hown
               have hg := Lib.hid hg
               clear hat))
          go_ret2
          refine split_end (V := .slice none 0 0) (l := []) rfl ?_ (rsplit_far HQ.out hb1 hg.out) (World.ownsRow_nil _ _ _ _)
          rw [hRS.out, ← HQ.out.left]
          simp [refW, HWR.out, HC.out]

set_option maxHeartbeats 400000 in
theorem rsplit_long (s : ByteArray) (w : World) (h1 : 4096 < s.size) :
    Calls Tryd.prog 11 #[.string s] w (SplitPost w (rsplitR (ints s))) := by
  go_enter Tryd.func11, Tryd.ntmps11
  go_wp2
  go_ret2
  refine split_end (V := .slice none 0 0) (l := []) rfl ?_ (Below.refl _ _) (World.ownsRow_nil _ _ _ _)
  unfold rsplitR
  rw [if_pos (by rw [ints_length]; exact h1)]

set_option maxHeartbeats 400000 in
theorem rsplit_none (s : ByteArray) (w : World) (h1 : s.size = 0) :
    Calls Tryd.prog 11 #[.string s] w (SplitPost w (rsplitR (ints s))) := by
  obtain rfl : s = ⟨#[]⟩ := by
    rcases s with ⟨⟨l⟩⟩
    cases l
    · rfl
    · simp [ByteArray.size] at h1
  go_enter Tryd.func11, Tryd.ntmps11
  go_wp2
  go_ret2
  exact split_end (V := .slice none 0 0) (l := []) rfl rfl (Below.refl _ _) (World.ownsRow_nil _ _ _ _)

theorem rsplit_any (s : ByteArray) (w : World) :
    Calls Tryd.prog 11 #[.string s] w (SplitPost w (rsplitR (ints s))) := by
  by_cases h1 : 4096 < s.size
  · exact rsplit_long s w h1
  · by_cases h0 : s.size = 0
    · exact rsplit_none s w h0
    · exact rsplit_some s w (by omega) (by omega)
end Go.Proofs.YtocnbeendjabpaaDoor
