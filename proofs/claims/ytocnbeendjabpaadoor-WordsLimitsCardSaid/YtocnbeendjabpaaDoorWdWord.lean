/- speculateref01.word: the next word of a line. -/
import Derived.Test.YtocnbeendjabpaaDoorWdSplit
namespace Go.Proofs.YtocnbeendjabpaaDoor
open Go.RowKit

/-- the rest of a quoted word: its bytes, and what stands behind the closing quote -/
def quo : List Int → List Int → Option (List Int × List Int)
  | [], _ => none
  | c :: l, out =>
    if c = 34 then some (out, l)
    else if c = 10 ∨ c = 13 then none
    else if c = 92 then (match l with
      | [] => none
      | d :: l' => if meanB d then quo l' (out ++ [meanV d]) else none)
    else quo l (out ++ [c])
/-- the next word: its bytes, and what stands behind it -/
def wordR (l : List Int) : Option (List Int × List Int) :=
  match l with
  | 34 :: t => quo t []
  | _ => if (l.takeWhile simpB).length = 0 then none else some (l.takeWhile simpB, l.drop (l.takeWhile simpB).length)

theorem quo_len : ∀ (n : Nat) (l out : List Int), l.length ≤ n → ∀ r, quo l out = some r → r.2.length < l.length ∧ r.1.length + r.2.length < out.length + l.length := by
  intro n
  induction n with
  | zero => intro l out hl r h; obtain rfl : l = [] := List.eq_nil_of_length_eq_zero (by omega); simp [quo] at h
  | succ n ih =>
    intro l out hl r h
    cases l with
    | nil => simp [quo] at h
    | cons c l =>
      simp only [List.length_cons] at hl ⊢
      unfold quo at h
      split at h
      · cases h; simp
      · split at h
        · cases h
        · split at h
          · cases l with
            | nil => cases h
            | cons d l' =>
              simp only at h
              split at h
              · have := ih l' _ (by simp at hl; omega) r h
                simp at this ⊢; omega
              · cases h
          · have := ih l _ (by omega) r h
            simp at this; omega

def WordRes (N : Nat) (r : Option (List Int × List Int)) (e : Ending) : Prop :=
  match r with
  | none => ∃ S K, e = .returned (.tuple #[.string S, .int .i64 K, .bool false])
  | some (x, rest) => e = .returned (.tuple #[.string (strOfNums x), .int .i64 (N - rest.length : Nat), .bool true])
def WordPost (w : World) (N : Nat) (r : Option (List Int × List Int)) (e : Ending) (w' : World) : Prop := Below w.heap.size w w' ∧ WordRes N r e
theorem drop_all (s : ByteArray) : (ints s).drop s.size = [] := List.drop_of_length_le (by rw [ints_length]; exact Nat.le_refl _)

theorem strOfNums_ints (s : ByteArray) : strOfNums (ints s) = s := by
  apply ByteArray.ext
  apply Array.toList_inj.1
  rw [strOfNums_data]
  unfold ints
  rw [List.map_map]
  conv => rhs; rw [← List.map_id s.data.toList]
  apply List.map_congr_left
  intro x _
  simp
theorem ints_inj {a b : ByteArray} (h : ints a = ints b) : a = b := by rw [← strOfNums_ints a, ← strOfNums_ints b, h]
theorem ints_extract (s : ByteArray) (a b : Nat) : ints (s.extract a b) = ((ints s).drop a).take (b - a) := by
  unfold ints
  rw [Lib.extract_data, List.map_take, List.map_drop]
/-- the bytes from a to b -/
theorem str_of (s : ByteArray) (a b : Nat) : strOfNums (((ints s).drop a).take (b - a)) = s.extract a b := by
  rw [← ints_extract, strOfNums_ints]

theorem wordR_plain {c : Int} {l : List Int} (h : c ≠ 34) : wordR (c :: l) = if ((c :: l).takeWhile simpB).length = 0 then none else some ((c :: l).takeWhile simpB, (c :: l).drop ((c :: l).takeWhile simpB).length) := by
  unfold wordR
  split
  · rename_i t heq
    exact absurd (List.cons.inj heq).1 h
  · rfl

structure PlainIn (s : ByteArray) (at_ : Nat) (i : Value) (k : Nat) : Prop where
  eq : i = .int .i64 k
  lo : at_ ≤ k
  hi : k ≤ s.size
  sofar : ((ints s).drop at_).takeWhile simpB = ((ints s).drop at_).take (k - at_) ++ ((ints s).drop k).takeWhile simpB
def PlainRel (s : ByteArray) (at_ : Nat) (i : Value) : Prop := ∃ k, PlainIn s at_ i k

theorem takeWhile_length_le (p : Int → Bool) : ∀ l : List Int, (l.takeWhile p).length ≤ l.length
  | [] => by simp
  | a :: l => by
    rw [List.takeWhile_cons]
    split
    · simpa using takeWhile_length_le p l
    · simp

/-- the plain loop's end -/
theorem plain_end {s : ByteArray} {a k : Nat} {w : World} {e : Ending} (ha : a < s.size) (h34 : (s[a].toNat : Int) ≠ 34) (hk : a ≤ k) (hk2 : k ≤ s.size)
    (h : ((ints s).drop a).takeWhile simpB = ((ints s).drop a).take (k - a))
    (he : e = .returned (.tuple #[.string (s.extract a k), .int .i64 k, .bool (decide (a < k))])) : WordPost w s.size (wordR ((ints s).drop a)) e w := by
  have hl : (((ints s).drop a).take (k - a)).length = k - a := by simp [ints_length]; omega
  subst he
  have hw : wordR ((ints s).drop a) = if k - a = 0 then none else some (((ints s).drop a).take (k - a), (ints s).drop k) := by
    have e := ints_drop s a ha
    rw [e, wordR_plain h34, ← e, h, hl]
    by_cases h0 : k - a = 0
    · rw [if_pos h0, if_pos h0]
    · rw [if_neg h0, if_neg h0, List.drop_drop, show a + (k - a) = k by omega]
  refine ⟨Below.refl _ _, ?_⟩
  rw [hw]
  by_cases h0 : k - a = 0
  · rw [if_pos h0]
    rw [show decide (a < k) = false by simp; omega]
    exact ⟨_, _, rfl⟩
  · rw [if_neg h0]
    unfold WordRes
    dsimp only
    rw [str_of, show decide (a < k) = true by simp; omega, show s.size - ((ints s).drop k).length = k by rw [List.length_drop, ints_length]; omega]

set_option maxRecDepth 100000 in
set_option maxHeartbeats 2000000 in
theorem word_plain (s : ByteArray) (a : Nat) (w : World) (hs : s.size ≤ 9223372036854775807) (ha : a < s.size) (h34 : (s[a].toNat : Int) ≠ 34) :
    Calls Tryd.prog 24 #[.string s, .int .i64 a] w (WordPost w s.size (wordR ((ints s).drop a))) := by
  have hb : ((s[a].toNat : Int) != 34) = true := by simpa using h34
  have hd : decide (s.size ≤ a) = false := by simpa using ha
  have H34 := Lib.hid h34
  clear h34
  go_enter Tryd.func24, Tryd.ntmps24
  go_wp2
  go_loop [7] (fun i => PlainRel s a i) (fun i => s.size - (intOf i).toNat)
  case atStart => exact ⟨a, rfl, by omega, by omega, by simp⟩
  case round =>
    obtain ⟨k, rfl, hlo, hhi, hsf⟩ := hrel
    have HSF := Lib.hid hsf
    clear hsf hb hd
    by_cases hlt : k < s.size
    · rcases hsb : simpB (s[k].toNat : Int) with _ | _
      · have HC := (plainByte_any (s[k].toNat : Int) w)
        rw [hsb] at HC
        have HSB := Lib.hid hsb
        clear hsb
        go_wp2_with (go_at_call 33; refine HC.mono ?_; rintro e w' ⟨rfl, rfl⟩)
        go_ret3
        refine plain_end ha H34.out hlo hhi ?_ rfl
        rw [HSF.out, ints_drop s k hlt, List.takeWhile_cons, HSB.out]
        simp
      · have HC := (plainByte_any (s[k].toNat : Int) w)
        rw [hsb] at HC
        have HSB := Lib.hid hsb
        clear hsb
        go_wp2_with (go_at_call 33; refine HC.mono ?_; rintro e w' ⟨rfl, rfl⟩)
        go_round
        case rel =>
          refine ⟨k + 1, by go_num, by omega, by omega, ?_⟩
          rw [HSF.out, ints_drop s k hlt, List.takeWhile_cons, HSB.out]
          simp only [if_true]
          rw [show k + 1 - a = (k - a) + 1 by omega, List.take_add_one, List.getElem?_drop, show a + (k - a) = k by omega]
          have : (ints s)[k]? = some (s[k].toNat : Int) := by
            have h1 := ints_drop s k hlt
            have h2 : ((ints s).drop k)[0]? = some (s[k].toNat : Int) := by rw [h1]; rfl
            rwa [List.getElem?_drop, Nat.add_zero] at h2
          rw [this]
          simp
        case measure => simp [intOf]; omega
    · obtain rfl : k = s.size := by omega
      go_wp2
      go_ret3
      refine plain_end ha H34.out hlo hhi ?_ ((by rw [decide_eq_true ha] : Ending.returned (.tuple #[.string (s.extract a s.size), .int .i64 s.size, .bool true]) = _))
      rw [HSF.out, drop_all]
      simp

set_option maxRecDepth 100000 in
set_option maxHeartbeats 2000000 in
theorem word_end (s : ByteArray) (w : World) (_hs : s.size ≤ 9223372036854775807) :
    Calls Tryd.prog 24 #[.string s, .int .i64 s.size] w (WordPost w s.size (wordR ((ints s).drop s.size))) := by
  go_enter Tryd.func24, Tryd.ntmps24
  go_wp2
  go_loop [7] (fun i => i = .int .i64 s.size) (fun _ => 0)
  case atStart => rfl
  case round =>
    obtain rfl := hrel
    go_wp2
    go_ret3
    refine ⟨Below.refl _ _, ?_⟩
    rw [drop_all]
    exact ⟨_, _, rfl⟩

structure QuoIn (w : World) (s : ByteArray) (a : Nat) (v8 v9 : Value) (wr : World) (k : Nat) (out : List Int) : Prop where
  eq : v9 = .int .i64 k
  hi : k ≤ s.size
  own : wr.ownsRow w.heap.size 5 1 v8 out.length (out.map (Value.int .u8))
  below : Below w.heap.size w wr
  left : quo ((ints s).drop k) out = quo ((ints s).drop (a + 1)) []
  len : out.length ≤ k
def QuoRel (w : World) (s : ByteArray) (a : Nat) (v8 v9 : Value) (wr : World) : Prop := ∃ k out, QuoIn w s a v8 v9 wr k out

theorem quo_step {w wr w' : World} {s : ByteArray} {a k k' : Nat} {V : Value} {out : List Int} {x : Int} {o : Obj} {g cap : Nat} (hown : wr.ownsRow w.heap.size 5 1 V out.length (out.map (Value.int .u8))) (hb : Below w.heap.size w wr)
    (hown' : w'.ownsRow w.heap.size 5 1 (.slice (some ⟨g, 0, none⟩) (out.length + 1) cap) (out.length + 1) (out.map (Value.int .u8) ++ [.int .u8 x])) (hg : (wr.alloc o).grownBy w' V.ownBlock)
    (hk : k' ≤ s.size) (hl : out.length + 1 ≤ k') (hq : quo ((ints s).drop k') (out ++ [x]) = quo ((ints s).drop k) out) (hq0 : quo ((ints s).drop k) out = quo ((ints s).drop (a + 1)) []) {v9 : Value} (h9 : v9 = .int .i64 k') :
    QuoRel w s a (.slice (some ⟨g, 0, none⟩) (out.length + 1) cap) v9 w' := by
  have hl' : (out ++ [x]).length = out.length + 1 := by simp
  refine ⟨k', out ++ [x], h9, hk, by rw [hl']; simpa using hown', (hb.alloc hb.size o).append (hown.alloc o) hg (Nat.le_refl _) (by have := hb.size; simp; omega), hq.trans hq0, by omega⟩

theorem quo_end {w wr : World} {s : ByteArray} {a k : Nat} {V : Value} {out : List Int} (ha : a < s.size) (h34 : (s[a].toNat : Int) = 34) (h : QuoIn w s a V (.int .i64 k) wr k out) {e : Ending}
    (r : Option (List Int × List Int)) (hr : quo ((ints s).drop k) out = r)
    (he : WordRes s.size r e) :
    WordPost w s.size (wordR ((ints s).drop a)) e wr := by
  refine ⟨h.below, ?_⟩
  have : wordR ((ints s).drop a) = r := by
    rw [ints_drop s a ha, h34, ← hr, h.left]
    rfl
  rw [this]
  exact he

theorem maxLen_ok {n k N : Nat} (h : n ≤ k) (hk : k ≤ N) (hN : N ≤ 100000) : n + 1 ≤ maxLen := by unfold maxLen; omega

set_option maxRecDepth 100000 in
set_option maxHeartbeats 4000000 in
theorem word_quoted (s : ByteArray) (a : Nat) (w : World) (hs : s.size ≤ 100000) (ha : a < s.size) (h34 : (s[a].toNat : Int) = 34) :
    Calls Tryd.prog 24 #[.string s, .int .i64 a] w (WordPost w s.size (wordR ((ints s).drop a))) := by
  have hb : ((s[a].toNat : Int) != 34) = false := by simpa using h34
  have hd : decide (s.size ≤ a) = false := by simpa using ha
  have H34 := Lib.hid h34
  clear h34
  go_enter Tryd.func24, Tryd.ntmps24
  go_wp2
  go_loopw [8, 9] (fun v8 v9 wr => QuoRel w s a v8 v9 wr) (fun _ i _ => s.size - (intOf i).toNat)
  case atStart => exact ⟨a + 1, [], by go_num, by omega, World.ownsRow_nil _ _ _ _, Below.refl _ _, rfl, by simp⟩
  case round =>
    obtain ⟨k, out, hq⟩ := hrel
    obtain rfl := hq.eq
    have hk := hq.hi
    have hlen := hq.len
    have HQ := Lib.hid hq
    have HB := Lib.hid hb
    clear hq hd hb
    by_cases hlt : k < s.size
    · have hdr := Lib.hid (ints_drop s k hlt)
      by_cases c34 : (s[k].toNat : Int) = 34
      · have hc : ((s[k].toNat : Int) == 34) = true := by simpa using c34
        have hconv : (convert 41 9 u8).run Tryd.prog wr = .ok (.string (strOfNums out)) wr := conv_own HQ.out.own
        have C34 := Lib.hid c34
        clear c34
        go_wp2
        go_ret3
        refine quo_end ha H34.out HQ.out (some (out, (ints s).drop (k + 1))) (by rw [hdr.out, C34.out, quo.eq_def]; rfl) ?_
        show _ = _
        rw [show s.size - ((ints s).drop (k + 1)).length = k + 1 by rw [List.length_drop, ints_length]; omega]
        rfl
      · have hc : ((s[k].toNat : Int) == 34) = false := by simpa using c34
        have C34 := Lib.hid c34
        clear c34
        by_cases c1 : (s[k].toNat : Int) = 10 ∨ (s[k].toNat : Int) = 13
        · have hc1 : ((s[k].toNat : Int) == 10 || (s[k].toNat : Int) == 13) = true := by simpa using c1
          have C1 := Lib.hid c1
          clear c1
          go_wp2
          all_goals go_ret3
          all_goals exact quo_end ha H34.out HQ.out none (by rw [hdr.out, quo.eq_def]; simp [C34.out, C1.out]) ⟨_, _, rfl⟩
        · have hc10 : ((s[k].toNat : Int) == 10) = false := by simp; omega
          have hc13 : ((s[k].toNat : Int) == 13) = false := by simp; omega
          have C1 := Lib.hid c1
          clear c1
          by_cases c92 : (s[k].toNat : Int) = 92
          · have hc92 : ((s[k].toNat : Int) == 92) = true := by simpa using c92
            have C92 := Lib.hid c92
            clear c92
            by_cases hl2 : k + 1 < s.size
            · have hdr2 := Lib.hid (ints_drop s (k + 1) hl2)
              have hne : ((k : Int) + 1 == (s.size : Int)) = false := by simp; omega
              rcases hm : meanB (s[k + 1].toNat : Int) with _ | _
              · have HC := pair_any (s[k + 1].toNat : Int) wr
                rw [hm] at HC
                have HM := Lib.hid hm
                clear hm
                go_wp2_with (go_at_call 34; refine HC.mono ?_; rintro e w' ⟨rfl, rfl⟩)
                go_ret3
                exact quo_end ha H34.out HQ.out none (by rw [hdr.out, hdr2.out, quo.eq_def]; simp [C92.out, HM.out]) ⟨_, _, rfl⟩
              · have HC := pair_any (s[k + 1].toNat : Int) wr
                rw [hm] at HC
                have HM := Lib.hid hm
                clear hm
                go_wp2_with (first
                  | (go_at_call 34; refine HC.mono ?_; rintro e w' ⟨rfl, rfl⟩)
                  | (at_builtin
                     refine wpList_append_one _ rfl (.tmp 91) (.tmp 93) _ rfl w.heap.size 5 (.int .u8 0) 1 Tryd.underlying41 info_u8 rfl u8 out.length (out.map (Value.int .u8)) rfl (HQ.out.own.alloc _) _ 1 (.int .u8 (meanV (s[k + 1].toNat : Int))) rfl (by simp [go_sem]) rfl (maxLen_ok hlen hk hs) (by omega) (by have := HQ.out.below.size; simp; omega) ?_
                     intro g cap w2 hown hg hat
                     have hown := Lib.hid hown
                     have hg := Lib.hid hg
                     clear hat))
                go_roundw
                case rel => exact quo_step HQ.out.own HQ.out.below hown.out hg.out (k' := k + 2) (by omega) (by omega) (by rw [hdr.out, hdr2.out, quo.eq_def (_ :: _ :: _)]; simp [C92.out, HM.out]) HQ.out.left (by go_num)
                case measure => simp [intOf]; omega
            · have hne : ((k : Int) + 1 == (s.size : Int)) = true := by simp; omega
              have hdr2 : Hid ((ints s).drop (k + 1) = []) := by
                show (ints s).drop (k + 1) = []
                rw [show k + 1 = s.size by omega, drop_all]
              go_wp2
              go_ret3
              exact quo_end ha H34.out HQ.out none (by rw [hdr.out, hdr2.out, quo.eq_def]; simp [C92.out]) ⟨_, _, rfl⟩
          · have hc92 : ((s[k].toNat : Int) == 92) = false := by simpa using c92
            have C92 := Lib.hid c92
            clear c92
            go_wp2_with (first
              | (at_builtin
                 refine wpList_append_one _ rfl (.tmp 55) (.tmp 57) _ rfl w.heap.size 5 (.int .u8 0) 1 Tryd.underlying41 info_u8 rfl u8 out.length (out.map (Value.int .u8)) rfl (HQ.out.own.alloc _) _ 1 (.int .u8 s[k].toNat) rfl (by simp [go_sem]) rfl (maxLen_ok hlen hk hs) (by omega) (by have := HQ.out.below.size; simp; omega) ?_
                 intro g cap w2 hown hg hat
                 have hown := Lib.hid hown
                 have hg := Lib.hid hg
                 clear hat))
            go_roundw
            case rel => exact quo_step HQ.out.own HQ.out.below hown.out hg.out (k' := k + 1) (by omega) (by omega) (by rw [hdr.out, quo.eq_def (_ :: _)]; simp [C34.out, C1.out, C92.out]) HQ.out.left (by go_num)
            case measure => simp [intOf]; omega
    · obtain rfl : k = s.size := by omega
      go_wp2
      go_ret3
      exact quo_end ha H34.out HQ.out none (by rw [drop_all]; rfl) ⟨_, _, rfl⟩

theorem word_any (s : ByteArray) (a : Nat) (w : World) (hs : s.size ≤ 100000) (ha : a ≤ s.size) :
    Calls Tryd.prog 24 #[.string s, .int .i64 a] w (WordPost w s.size (wordR ((ints s).drop a))) := by
  by_cases h : a < s.size
  · by_cases h34 : (s[a].toNat : Int) = 34
    · exact word_quoted s a w hs h h34
    · exact word_plain s a w (by omega) h h34
  · obtain rfl : a = s.size := by omega
    exact word_end s w (by omega)
end Go.Proofs.YtocnbeendjabpaaDoor
