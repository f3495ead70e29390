/- words.Split. -/
import Derived.Test.YtocnbeendjabpaaDoorWdTake2
import Derived.Lib.Strings
namespace Go.Proofs.YtocnbeendjabpaaDoor
open Go.RowKit

def tkAll : List Int → Int × List Int × List ByteArray → Option (Int × List Int × List ByteArray)
  | [], s => some s
  | c :: l, s => match tk s.1 s.2.1 s.2.2 c with
    | none => none
    | some s' => tkAll l s'
/-- the words of a line, or the error -/
def splitR (l : List Int) : Int × List ByteArray :=
  if 4096 < l.length then (3, [])
  else if l.length = 0 then (0, [])
  else match tkAll l (0, [], []) with
    | none => (4, [])
    | some (st, word, words) => if st = 1 ∨ st = 4 then (if 256 < words.length + 1 then (3, []) else (0, words ++ [strOfNums word])) else (4, [])

theorem tk_state {st c : Int} {word : List Int} {words : List ByteArray} {s : Int × List Int × List ByteArray} (h : tk st word words c = some s) :
    (s.1 = 0 ∨ s.1 = 1 ∨ s.1 = 2 ∨ s.1 = 3 ∨ s.1 = 4) ∧ s.2.1.length ≤ word.length + 1 ∧ s.2.2.length ≤ words.length + 1 := by
  unfold tk at h
  repeat' split at h
  all_goals first | (cases h; done) | (cases h; simp)

/-- a string's bytes as numbers -/
def ints (s : ByteArray) : List Int := s.data.toList.map fun b => (b.toNat : Int)
theorem ints_length (s : ByteArray) : (ints s).length = s.size := by unfold ints; simp
theorem ints_drop (s : ByteArray) (k : Nat) (h : k < s.size) : (ints s).drop k = (s[k].toNat : Int) :: (ints s).drop (k + 1) := by
  have hl : k < (ints s).length := by rw [ints_length]; exact h
  rw [List.drop_eq_getElem_cons hl]
  congr 1
  simp [ints]
  rfl

/-- At the head of a round: what is left of the line leads to what the whole leads to. -/
structure SplitIn (B R : Nat) (w : World) (s : ByteArray) (i : Value) (wr : World) (k : Nat) (st : Int) (V X : Value) (word : List Int) (words : List ByteArray) : Prop where
  at_ : i = .int .i64 k
  le : k ≤ s.size
  rs : RS B wr R st V X word words
  below : Below B w wr
  left : tkAll ((ints s).drop k) (st, word, words) = tkAll (ints s) (0, [], [])
  state : st = 0 ∨ st = 1 ∨ st = 2 ∨ st = 3 ∨ st = 4
  l1 : word.length ≤ k
  l2 : words.length ≤ k
def SplitRel (B R : Nat) (w : World) (s : ByteArray) (i : Value) (wr : World) : Prop := ∃ k st V X word words, SplitIn B R w s i wr k st V X word words

def SplitPost (w : World) (r : Int × List ByteArray) (e : Ending) (w' : World) : Prop :=
  ∃ V, e = .returned (.tuple #[V, .int .i64 r.1]) ∧ Below w.heap.size w w' ∧ w'.ownsRow w.heap.size 9 1 V r.2.length (r.2.map Value.string)

theorem split_end {w w' : World} {V : Value} {k : Int} {l : List ByteArray} {r : Int × List ByteArray} {e : Ending} (he : e = .returned (.tuple #[V, .int .i64 k])) (hr : r = (k, l)) (hb : Below w.heap.size w w')
    (h : w'.ownsRow w.heap.size 9 1 V l.length (l.map Value.string)) : SplitPost w r e w' := by
  subst hr he
  exact ⟨V, rfl, hb, h⟩
theorem splitR_some {l : List Int} (h0 : 0 < l.length) (h1 : l.length ≤ 4096) : splitR l = match tkAll l (0, [], []) with
    | none => (4, [])
    | some (st, word, words) => if st = 1 ∨ st = 4 then (if 256 < words.length + 1 then (3, []) else (0, words ++ [strOfNums word])) else (4, []) := by
  unfold splitR
  rw [if_neg (by omega), if_neg (by omega)]

set_option maxRecDepth 100000 in
set_option maxHeartbeats 2000000 in
theorem split_some (s : ByteArray) (w : World) (h0 : 0 < s.size) (h1 : s.size ≤ 4096) :
    Calls Tryd.prog 10 #[.string s] w (SplitPost w (splitR (ints s))) := by
  have hne : s.toList.isEmpty = false := by
    rw [Lib.toList_data]
    rcases s with ⟨⟨l⟩⟩
    cases l
    · exact absurd h0 (by decide)
    · rfl
  have hd : decide (4096 < (s.size : Int)) = false := by simp; omega
  have hR : ints s ≠ [] := by
    intro e
    have := ints_length s
    rw [e] at this
    simp at this
    omega
  have HR := Lib.hid hR
  clear hR
  go_enter Tryd.func10, Tryd.ntmps10
  go_wp2
  go_loopw [15] (fun i wr => SplitRel w.heap.size w.heap.size w s i wr) (fun i _ => s.size - (intOf i).toNat)
  case atStart =>
    exact ⟨0, 0, _, _, [], [], rfl, by omega, ⟨Nat.le_refl _, Whole.new _ _, World.ownsRow_nil _ _ _ _, World.ownsRow_nil _ _ _ _⟩, (Below.refl _ _).alloc (Nat.le_refl _) _, rfl, .inl rfl, by simp, by simp⟩
  case round =>
    obtain ⟨k, st, V, X, word, words, rfl, hk, hrs, hbe, hleft, hst, hl1, hl2⟩ := hrel
    have HL := Lib.hid hleft
    have HRS := Lib.hid hrs
    have HST := Lib.hid hst
    clear hleft hrs
    by_cases hlt : k < s.size
    · clear hst
      rcases hr : tk st word words (s[k].toNat : Int) with _ | ⟨st', word', words'⟩
      · have HT := take_any w.heap.size w.heap.size st V X word words (s[k].toNat : Int) wr HRS.out HST.out (by omega) (by omega)
        rw [hr] at HT
        have HRR := Lib.hid hr
        clear hr
        go_wp2_with (go_at_call 22; refine HT.mono ?_; rintro e w1 ⟨rfl, hb1, -⟩)
        go_ret2
        refine split_end (V := .slice none 0 0) (l := []) rfl ?_ (hbe.trans hb1) (World.ownsRow_nil _ _ _ _)
        rw [splitR_some (by rw [ints_length]; omega) (by rw [ints_length]; omega), ← HL.out, ints_drop s k hlt]
        simp [tkAll, HRR.out]
      · have HT := take_any w.heap.size w.heap.size st V X word words (s[k].toNat : Int) wr HRS.out HST.out (by omega) (by omega)
        rw [hr] at HT
        have hts := tk_state hr
        simp only at hts
        obtain ⟨hs1, hs2, hs3⟩ := hts
        have HS1 := Lib.hid hs1
        have HRR := Lib.hid hr
        clear hr hs1
        go_wp2_with (go_at_call 22; refine HT.mono ?_; rintro e w1 ⟨rfl, hb1, HX⟩; have HX := Lib.hid HX)
        go_roundw
        case rel =>
          obtain ⟨V', X', hX⟩ := HX.out _ _ _ rfl
          refine ⟨k + 1, st', V', X', word', words', by go_num, by omega, hX, hbe.trans hb1, ?_, HS1.out, by omega, by omega⟩
          rw [← HL.out, ints_drop s k hlt]
          simp [tkAll, HRR.out]
        case measure => simp [intOf]; omega
    · obtain rfl : k = s.size := by omega
      have HLL : Hid (tkAll (ints s) (0, [], []) = some (st, word, words)) := by
        show tkAll (ints s) (0, [], []) = some (st, word, words)
        rw [← HL.out, List.drop_of_length_le (by rw [ints_length]; omega)]
        rfl
      clear HL
      have c0 : wr.cell? ⟨w.heap.size, 0, none⟩ = some (.int .i64 st) := HRS.out.blk.cell 0
      rcases hst with rfl | rfl | rfl | rfl | rfl
      · go_wp2
        go_ret2
        refine split_end (V := .slice none 0 0) (l := []) rfl ?_ hbe (World.ownsRow_nil _ _ _ _)
        rw [splitR_some (by rw [ints_length]; omega) (by rw [ints_length]; omega), HLL.out]
        simp
      · have HP := push_any w.heap.size w.heap.size 1 V X word words wr HRS.out (by omega)
        go_wp2_with fail
        refine HP.mono ?_
        rintro e w1 ⟨rfl, hb1, X', hX⟩
        obtain ⟨g, cap, rfl, hg1, hg2⟩ := hX.words.form (by simp)
        have c2 : w1.cell? ⟨w.heap.size, 2, none⟩ = some (.slice (some ⟨g, 0, none⟩) (words ++ [strOfNums word]).length cap) := hX.blk.cell 2
        have hln : (words ++ [strOfNums word]).length = words.length + 1 := by simp
        rw [hln] at c2
        have HX := Lib.hid hX
        clear hX hln
        by_cases hbig : 256 < words.length + 1
        · go_wp2
          go_ret2
          refine split_end (V := .slice none 0 0) (l := []) rfl ?_ (hbe.trans hb1) (World.ownsRow_nil _ _ _ _)
          rw [splitR_some (by rw [ints_length]; omega) (by rw [ints_length]; omega), HLL.out]
          simp [hbig]
        · go_wp2
          go_ret2
          have hln : (words ++ [strOfNums word]).length = words.length + 1 := by simp
          refine split_end (V := .slice (some ⟨g, 0, none⟩) (words.length + 1) cap) (l := words ++ [strOfNums word]) rfl ?_ (hbe.trans hb1) (by have := HX.out.words; rw [hln] at this ⊢; exact this)
          rw [splitR_some (by rw [ints_length]; omega) (by rw [ints_length]; omega), HLL.out]
          simp [hbig]
      · go_wp2
        go_ret2
        refine split_end (V := .slice none 0 0) (l := []) rfl ?_ hbe (World.ownsRow_nil _ _ _ _)
        rw [splitR_some (by rw [ints_length]; omega) (by rw [ints_length]; omega), HLL.out]
        simp
      · go_wp2
        go_ret2
        refine split_end (V := .slice none 0 0) (l := []) rfl ?_ hbe (World.ownsRow_nil _ _ _ _)
        rw [splitR_some (by rw [ints_length]; omega) (by rw [ints_length]; omega), HLL.out]
        simp
      · have HP := push_any w.heap.size w.heap.size 4 V X word words wr HRS.out (by omega)
        go_wp2_with fail
        refine HP.mono ?_
        rintro e w1 ⟨rfl, hb1, X', hX⟩
        obtain ⟨g, cap, rfl, hg1, hg2⟩ := hX.words.form (by simp)
        have c2 : w1.cell? ⟨w.heap.size, 2, none⟩ = some (.slice (some ⟨g, 0, none⟩) (words ++ [strOfNums word]).length cap) := hX.blk.cell 2
        have hln : (words ++ [strOfNums word]).length = words.length + 1 := by simp
        rw [hln] at c2
        have HX := Lib.hid hX
        clear hX hln
        by_cases hbig : 256 < words.length + 1
        · go_wp2
          go_ret2
          refine split_end (V := .slice none 0 0) (l := []) rfl ?_ (hbe.trans hb1) (World.ownsRow_nil _ _ _ _)
          rw [splitR_some (by rw [ints_length]; omega) (by rw [ints_length]; omega), HLL.out]
          simp [hbig]
        · go_wp2
          go_ret2
          have hln : (words ++ [strOfNums word]).length = words.length + 1 := by simp
          refine split_end (V := .slice (some ⟨g, 0, none⟩) (words.length + 1) cap) (l := words ++ [strOfNums word]) rfl ?_ (hbe.trans hb1) (by have := HX.out.words; rw [hln] at this ⊢; exact this)
          rw [splitR_some (by rw [ints_length]; omega) (by rw [ints_length]; omega), HLL.out]
          simp [hbig]

set_option maxHeartbeats 400000 in
theorem split_long (s : ByteArray) (w : World) (h1 : 4096 < s.size) :
    Calls Tryd.prog 10 #[.string s] w (SplitPost w (splitR (ints s))) := by
  go_enter Tryd.func10, Tryd.ntmps10
  go_wp2
  go_ret2
  refine split_end (V := .slice none 0 0) (l := []) rfl ?_ (Below.refl _ _) (World.ownsRow_nil _ _ _ _)
  unfold splitR
  rw [if_pos (by rw [ints_length]; exact h1)]

set_option maxHeartbeats 400000 in
theorem split_none (s : ByteArray) (w : World) (h1 : s.size = 0) :
    Calls Tryd.prog 10 #[.string s] w (SplitPost w (splitR (ints s))) := by
  obtain rfl : s = ⟨#[]⟩ := by
    rcases s with ⟨⟨l⟩⟩
    cases l
    · rfl
    · simp [ByteArray.size] at h1
  go_enter Tryd.func10, Tryd.ntmps10
  go_wp2
  go_ret2
  exact split_end (V := .slice none 0 0) (l := []) rfl rfl (Below.refl _ _) (World.ownsRow_nil _ _ _ _)

theorem split_any (s : ByteArray) (w : World) :
    Calls Tryd.prog 10 #[.string s] w (SplitPost w (splitR (ints s))) := by
  by_cases h1 : 4096 < s.size
  · exact split_long s w h1
  · by_cases h0 : s.size = 0
    · exact split_none s w h0
    · exact split_some s w (by omega) (by omega)
end Go.Proofs.YtocnbeendjabpaaDoor
