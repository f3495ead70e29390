/- Words as they are written: words.bare, words.write and the reference's Plain, written. -/
import Derived.Test.YtocnbeendjabpaaDoorWdRSplit
import Derived.Lib.AppendStr
namespace Go.Proofs.YtocnbeendjabpaaDoor
open Go.RowKit

/-- a byte in a quoted word -/
def esc (c : Int) : List Int := if c = 34 ∨ c = 92 then [92, c] else if c = 10 then [92, 110] else if c = 13 then [92, 114] else [c]
def plainS (l : List Int) : Bool := l.all simpB && !l.isEmpty
/-- a word as it is written -/
def writ (l : List Int) : List Int := if plainS l then l else 34 :: (l.flatMap esc ++ [34])

theorem esc_len (c : Int) : (esc c).length ≤ 2 := by unfold esc; repeat' split
                                                     all_goals simp
theorem flat_len : ∀ l : List Int, (l.flatMap esc).length ≤ 2 * l.length
  | [] => by simp
  | c :: l => by have := flat_len l; have := esc_len c; simp only [List.flatMap_cons, List.length_append, List.length_cons]; omega
theorem writ_len (l : List Int) : (writ l).length ≤ 2 * l.length + 2 := by
  have := flat_len l
  unfold writ
  split
  · omega
  · simp only [List.length_cons, List.length_append, List.length_nil]; omega

def BareRel (s : ByteArray) (i : Value) : Prop := ∃ k, i = .int .i64 (k : Nat) ∧ k ≤ s.size ∧ ((ints s).take k).all simpB = true
theorem ints_at {s : ByteArray} {k : Nat} (h : k < s.size) : (ints s)[k]? = some (s[k].toNat : Int) := by
  have h2 : ((ints s).drop k)[0]? = some (s[k].toNat : Int) := by rw [ints_drop s k h]; rfl
  rwa [List.getElem?_drop, Nat.add_zero] at h2
theorem plain_no {s : ByteArray} {k : Nat} (h : k < s.size) (hs : simpB (s[k].toNat : Int) = false) : plainS (ints s) = false := by
  have : (ints s).all simpB = false := by
    rw [List.all_eq_false]
    exact ⟨_, List.mem_of_getElem? (ints_at h), by simp [hs]⟩
  simp [plainS, this]
theorem plain_next {s : ByteArray} {k : Nat} (h : k < s.size) (hs : simpB (s[k].toNat : Int) = true) (ha : ((ints s).take k).all simpB = true) : ((ints s).take (k + 1)).all simpB = true := by
  rw [List.take_add_one, ints_at h, List.all_append, ha]
  simp [hs]
theorem plain_yes {s : ByteArray} (ha : ((ints s).take s.size).all simpB = true) : plainS (ints s) = !s.toList.isEmpty := by
  rw [List.take_of_length_le (by rw [ints_length]; exact Nat.le_refl _)] at ha
  unfold plainS
  rw [ha, Lib.toList_data]
  simp [ints]

set_option maxRecDepth 100000 in
set_option maxHeartbeats 1000000 in
theorem bare_any (s : ByteArray) (w : World) (hs : s.size ≤ 9223372036854775807) :
    Calls Tryd.prog 36 #[.string s] w fun e w' => e = .returned (.bool (plainS (ints s))) ∧ w = w' := by
  go_enter Tryd.func36, Tryd.ntmps36
  go_wp2
  go_loop [6] (fun i => BareRel s i) (fun i => s.size - (intOf i).toNat)
  case atStart => exact ⟨0, rfl, by omega, by simp⟩
  case round =>
    obtain ⟨k, rfl, hk, ha⟩ := hrel
    have HA := Lib.hid ha
    clear ha
    by_cases hlt : k < s.size
    · have hdr := Lib.hid (ints_drop s k hlt)
      rcases hsb : simpB (s[k].toNat : Int) with _ | _
      · have HC := simple_any (s[k].toNat : Int) w
        rw [hsb] at HC
        have HSB := Lib.hid hsb
        clear hsb
        go_wp2_with (go_at_call 31; refine HC.mono ?_; rintro e w' ⟨rfl, rfl⟩)
        go_ret
        exact ⟨ret_bool (plain_no hlt HSB.out).symm, rfl⟩
      · have HC := simple_any (s[k].toNat : Int) w
        rw [hsb] at HC
        have HSB := Lib.hid hsb
        clear hsb
        go_wp2_with (go_at_call 31; refine HC.mono ?_; rintro e w' ⟨rfl, rfl⟩)
        go_round
        case rel => exact ⟨k + 1, by go_num, by omega, plain_next hlt HSB.out HA.out⟩
        case measure => simp [intOf]; omega
    · obtain rfl : k = s.size := by omega
      have hp := Lib.hid (plain_yes HA.out)
      go_wp2
      go_ret
      exact ⟨ret_bool (by rw [hp.out]), rfl⟩

set_option maxRecDepth 100000 in
set_option maxHeartbeats 1000000 in
theorem rplain_any (s : ByteArray) (w : World) (hs : s.size ≤ 9223372036854775807) :
    Calls Tryd.prog 37 #[.string s] w fun e w' => e = .returned (.bool (plainS (ints s))) ∧ w = w' := by
  go_enter Tryd.func37, Tryd.ntmps37
  go_wp2
  go_loop [3] (fun i => BareRel s i) (fun i => s.size - (intOf i).toNat)
  case atStart => exact ⟨0, rfl, by omega, by simp⟩
  case round =>
    obtain ⟨k, rfl, hk, ha⟩ := hrel
    have HA := Lib.hid ha
    clear ha
    by_cases hlt : k < s.size
    · have hdr := Lib.hid (ints_drop s k hlt)
      rcases hsb : simpB (s[k].toNat : Int) with _ | _
      · have HC := plainByte_any (s[k].toNat : Int) w
        rw [hsb] at HC
        have HSB := Lib.hid hsb
        clear hsb
        go_wp2_with (go_at_call 33; refine HC.mono ?_; rintro e w' ⟨rfl, rfl⟩)
        go_ret
        exact ⟨ret_bool (plain_no hlt HSB.out).symm, rfl⟩
      · have HC := plainByte_any (s[k].toNat : Int) w
        rw [hsb] at HC
        have HSB := Lib.hid hsb
        clear hsb
        go_wp2_with (go_at_call 33; refine HC.mono ?_; rintro e w' ⟨rfl, rfl⟩)
        go_round
        case rel => exact ⟨k + 1, by go_num, by omega, plain_next hlt HSB.out HA.out⟩
        case measure => simp [intOf]; omega
    · obtain rfl : k = s.size := by omega
      have hp := Lib.hid (plain_yes HA.out)
      go_wp2
      go_ret
      exact ⟨ret_bool (by rw [hp.out]), rfl⟩

def WritePost (B : Nat) (w : World) (r : List Int) (e : Ending) (w' : World) : Prop :=
  ∃ V, e = .returned V ∧ Below B w w' ∧ w'.ownsRow B 5 1 V r.length (r.map (Value.int .u8))

/-- at a round's head: what is written, and what is left -/
structure WriteIn (B : Nat) (w : World) (s : ByteArray) (r : List Int) (N : Nat) (v0 vi : Value) (wr : World) (k : Nat) (acc : List Int) : Prop where
  eq : vi = .int .i64 k
  hi : k ≤ s.size
  own : wr.ownsRow B 5 1 v0 acc.length (acc.map (Value.int .u8))
  below : Below B w wr
  left : acc ++ (((ints s).drop k).flatMap esc ++ [34]) = r
  len : acc.length ≤ N + 2 * k
def WriteRel (B : Nat) (w : World) (s : ByteArray) (r : List Int) (N : Nat) (v0 vi : Value) (wr : World) : Prop := ∃ k acc, WriteIn B w s r N v0 vi wr k acc

theorem write_step {B : Nat} {w wr w' : World} {s : ByteArray} {r : List Int} {N : Nat} {v0 vi v9 : Value} {k : Nat} {acc x : List Int} {o : Obj} {g cap : Nat} (h : WriteIn B w s r N v0 vi wr k acc) (hB : B ≤ w.heap.size) (hk : k < s.size)
    (hx : esc (s[k].toNat : Int) = x) (h9 : v9 = .int .i64 ((k + 1 : Nat) : Int))
    (hown : w'.ownsRow B 5 1 (.slice (some ⟨g, 0, none⟩) (acc.length + x.length) cap) (acc.length + x.length) (acc.map (Value.int .u8) ++ x.map (Value.int .u8))) (hg : (wr.alloc o).grownBy w' v0.ownBlock) :
    WriteRel B w s r N (.slice (some ⟨g, 0, none⟩) (acc.length + x.length) cap) v9 w' := by
  have hl : (acc ++ x).length = acc.length + x.length := by simp
  have hxl := esc_len (s[k].toNat : Int)
  rw [hx] at hxl
  refine ⟨k + 1, acc ++ x, h9, hk, by rw [hl]; simpa using hown, (h.below.alloc (Nat.le_trans hB h.below.size) o).append (h.own.alloc o) hg (Nat.le_refl _) (by have := h.below.size; simp; omega), ?_, by have := h.len; rw [hl]; omega⟩
  rw [← h.left, ints_drop s k hk, List.flatMap_cons, hx]
  simp

theorem write_end {B : Nat} {w wr w' : World} {s : ByteArray} {r : List Int} {N : Nat} {v0 vi : Value} {acc : List Int} {o : Obj} {g cap : Nat} (h : WriteIn B w s r N v0 vi wr s.size acc) (hB : B ≤ w.heap.size)
    (hown : w'.ownsRow B 5 1 (.slice (some ⟨g, 0, none⟩) (acc.length + 1) cap) (acc.length + 1) (acc.map (Value.int .u8) ++ [.int .u8 34])) (hg : (wr.alloc o).grownBy w' v0.ownBlock) :
    r.length = acc.length + 1 ∧ Below B w w' ∧ w'.ownsRow B 5 1 (.slice (some ⟨g, 0, none⟩) (acc.length + 1) cap) r.length (r.map (Value.int .u8)) := by
  have hr : r = acc ++ [34] := by
    rw [← h.left, drop_all]
    rfl
  subst hr
  have hl : (acc ++ [34]).length = acc.length + 1 := by simp
  exact ⟨hl, (h.below.alloc (Nat.le_trans hB h.below.size) o).append (h.own.alloc o) hg (Nat.le_refl _) (by have := h.below.size; simp; omega), by rw [hl]; simpa using hown⟩

set_option maxRecDepth 100000 in
set_option maxHeartbeats 4000000 in
theorem write_quoted (B : Nat) (V : Value) (l : List Int) (s : ByteArray) (w : World) (hB : B ≤ w.heap.size) (h : w.ownsRow B 5 1 V l.length (l.map (Value.int .u8))) (hl : l.length ≤ 1000000) (hs : s.size ≤ 5000) (hp : plainS (ints s) = false) :
    Calls Tryd.prog 26 #[V, .string s] w (WritePost B w (l ++ writ (ints s))) := by
  have HC := bare_any s w (by omega)
  rw [hp] at HC
  have HW : Hid (l ++ writ (ints s) = (l ++ [34]) ++ ((ints s).flatMap esc ++ [34])) := by
    show l ++ writ (ints s) = _
    simp [writ, hp]
  have H := Lib.hid h
  clear h hp
  go_enter Tryd.func26, Tryd.ntmps26
  go_wp2_with (first
    | (go_at_call 36; refine HC.mono ?_; rintro e w' ⟨rfl, rfl⟩)
    | (at_builtin
       refine wpList_append_one _ rfl (.tmp 12) (.tmp 13) _ rfl B 5 (.int .u8 0) 1 Tryd.underlying41 info_u8 rfl V l.length (l.map (Value.int .u8)) rfl (H.out.alloc _) _ 1 (.int .u8 34) rfl (by simp [go_sem]) rfl (by unfold maxLen; omega) (by omega) (by first | (simp; omega) | (have := HQ.out.below.size; simp; omega)) ?_
       intro g cap w2 hown hg hat
       have hown := Lib.hid hown
       have hg := Lib.hid hg
       clear hat))
  have hlen : (l ++ [34]).length = l.length + 1 := by simp
  have HLN := Lib.hid hlen
  have hb2 := Lib.hid (((Below.refl B w).alloc hB _).append (H.out.alloc _) hg.out (Nat.le_refl _) (by simp; omega))
  clear hlen
  go_loopw [0, 17] (fun v0 vi wr => WriteRel B w s (l ++ writ (ints s)) (l.length + 1) v0 vi wr) (fun _ i _ => s.size - (intOf i).toNat)
  case atStart => exact ⟨0, l ++ [34], rfl, by omega, by rw [HLN.out]; simpa using hown.out, hb2.out, by rw [HW.out]; simp, by rw [HLN.out]; omega⟩
  case round =>
    obtain ⟨k, acc, hq⟩ := hrel
    obtain rfl := hq.eq
    have hk := hq.hi
    have hlen := hq.len
    have HQ := Lib.hid hq
    clear hq
    by_cases hlt : k < s.size
    · by_cases c1 : (s[k].toNat : Int) = 34 ∨ (s[k].toNat : Int) = 92
      · have hx : esc (s[k].toNat : Int) = [92, (s[k].toNat : Int)] := by simp [esc, c1]
        have HX := Lib.hid hx
        clear hx
        rcases c1 with c1 | c1
        · have hb : ((s[k].toNat : Int) == 34) = true := by simpa using c1
          clear c1
          go_wp2_with (first
            | (at_builtin
               refine wpList_append_two _ rfl (.tmp 31) (.tmp 33) _ rfl B 5 (.int .u8 0) 1 Tryd.underlying41 info_u8 rfl u0 acc.length (acc.map (Value.int .u8)) rfl (HQ.out.own.alloc _) _ 2 (.int .u8 92) (.int .u8 s[k].toNat) rfl (by simp [go_sem]) (by simp [go_sem]) rfl rfl (by unfold maxLen; omega) (by omega) (by have := HQ.out.below.size; simp; omega) ?_
               intro g cap w2 hown hg hat
               have hown := Lib.hid hown
               have hg := Lib.hid hg
               clear hat))
          go_roundw
          case rel => exact write_step HQ.out hB hlt HX.out (by go_num) hown.out hg.out
          case measure => simp [intOf]; omega
        · have hb0 : ((s[k].toNat : Int) == 34) = false := by rw [c1]; rfl
          have hb : ((s[k].toNat : Int) == 92) = true := by simpa using c1
          clear c1
          go_wp2_with (first
            | (at_builtin
               refine wpList_append_two _ rfl (.tmp 31) (.tmp 33) _ rfl B 5 (.int .u8 0) 1 Tryd.underlying41 info_u8 rfl u0 acc.length (acc.map (Value.int .u8)) rfl (HQ.out.own.alloc _) _ 2 (.int .u8 92) (.int .u8 s[k].toNat) rfl (by simp [go_sem]) (by simp [go_sem]) rfl rfl (by unfold maxLen; omega) (by omega) (by have := HQ.out.below.size; simp; omega) ?_
               intro g cap w2 hown hg hat
               have hown := Lib.hid hown
               have hg := Lib.hid hg
               clear hat))
          go_roundw
          case rel => exact write_step HQ.out hB hlt HX.out (by go_num) hown.out hg.out
          case measure => simp [intOf]; omega
      · have hb1 : ((s[k].toNat : Int) == 34) = false := by simp; omega
        have hb2 : ((s[k].toNat : Int) == 92) = false := by simp; omega
        by_cases c2 : (s[k].toNat : Int) = 10
        · have hx : esc (s[k].toNat : Int) = [92, 110] := by simp [esc, c2]
          have HX := Lib.hid hx
          have hb : ((s[k].toNat : Int) == 10) = true := by simpa using c2
          clear hx c2 c1
          go_wp2_with (first
            | (at_builtin
               refine wpList_append_two _ rfl (.tmp 37) (.tmp 38) _ rfl B 5 (.int .u8 0) 1 Tryd.underlying41 info_u8 rfl u0 acc.length (acc.map (Value.int .u8)) rfl (HQ.out.own.alloc _) _ 2 (.int .u8 92) (.int .u8 110) rfl (by simp [go_sem]) (by simp [go_sem]) rfl rfl (by unfold maxLen; omega) (by omega) (by have := HQ.out.below.size; simp; omega) ?_
               intro g cap w2 hown hg hat
               have hown := Lib.hid hown
               have hg := Lib.hid hg
               clear hat))
          go_roundw
          case rel => exact write_step HQ.out hB hlt HX.out (by go_num) hown.out hg.out
          case measure => simp [intOf]; omega
        · have hb3 : ((s[k].toNat : Int) == 10) = false := by simpa using c2
          by_cases c3 : (s[k].toNat : Int) = 13
          · have hx : esc (s[k].toNat : Int) = [92, 114] := by simp [esc, c3]
            have HX := Lib.hid hx
            have hb : ((s[k].toNat : Int) == 13) = true := by simpa using c3
            clear hx c3 c2 c1
            go_wp2_with (first
              | (at_builtin
                 refine wpList_append_two _ rfl (.tmp 42) (.tmp 43) _ rfl B 5 (.int .u8 0) 1 Tryd.underlying41 info_u8 rfl u0 acc.length (acc.map (Value.int .u8)) rfl (HQ.out.own.alloc _) _ 2 (.int .u8 92) (.int .u8 114) rfl (by simp [go_sem]) (by simp [go_sem]) rfl rfl (by unfold maxLen; omega) (by omega) (by have := HQ.out.below.size; simp; omega) ?_
                 intro g cap w2 hown hg hat
                 have hown := Lib.hid hown
                 have hg := Lib.hid hg
                 clear hat))
            go_roundw
            case rel => exact write_step HQ.out hB hlt HX.out (by go_num) hown.out hg.out
            case measure => simp [intOf]; omega
          · have hx : esc (s[k].toNat : Int) = [(s[k].toNat : Int)] := by simp [esc, c1, c2, c3]
            have HX := Lib.hid hx
            have hb : ((s[k].toNat : Int) == 13) = false := by simpa using c3
            clear hx c3 c2 c1
            go_wp2_with (first
              | (at_builtin
                 refine wpList_append_one _ rfl (.tmp 24) (.tmp 26) _ rfl B 5 (.int .u8 0) 1 Tryd.underlying41 info_u8 rfl u0 acc.length (acc.map (Value.int .u8)) rfl (HQ.out.own.alloc _) _ 1 (.int .u8 s[k].toNat) rfl (by simp [go_sem]) rfl (by unfold maxLen; omega) (by omega) (by first | (simp; omega) | (have := HQ.out.below.size; simp; omega)) ?_
                 intro g cap w2 hown hg hat
                 have hown := Lib.hid hown
                 have hg := Lib.hid hg
                 clear hat))
            go_roundw
            case rel => exact write_step HQ.out hB hlt HX.out (by go_num) hown.out hg.out
            case measure => simp [intOf]; omega
    · obtain rfl : k = s.size := by omega
      go_wp2_with (first
        | (at_builtin
           refine wpList_append_one _ rfl (.tmp 46) (.tmp 47) _ rfl B 5 (.int .u8 0) 1 Tryd.underlying41 info_u8 rfl u0 acc.length (acc.map (Value.int .u8)) rfl (HQ.out.own.alloc _) _ 1 (.int .u8 34) rfl (by simp [go_sem]) rfl (by unfold maxLen; omega) (by omega) (by first | (simp; omega) | (have := HQ.out.below.size; simp; omega)) ?_
           intro g cap w2 hown hg hat
           have hown := Lib.hid hown
           have hg := Lib.hid hg
           clear hat))
      go_ret
      obtain ⟨_, h2, h3⟩ := write_end HQ.out hB hown.out hg.out
      exact ⟨_, rfl, h2, h3⟩

set_option maxRecDepth 100000 in
set_option maxHeartbeats 1000000 in
theorem write_plain (B : Nat) (V : Value) (l : List Int) (s : ByteArray) (w : World) (hB : B ≤ w.heap.size) (h : w.ownsRow B 5 1 V l.length (l.map (Value.int .u8))) (hl : l.length ≤ 1000000) (hs : s.size ≤ 5000) (hp : plainS (ints s) = true) :
    Calls Tryd.prog 26 #[V, .string s] w (WritePost B w (l ++ writ (ints s))) := by
  have HC := bare_any s w (by omega)
  rw [hp] at HC
  have HW : Hid (l ++ writ (ints s) = l ++ ints s) := by
    show l ++ writ (ints s) = _
    simp [writ, hp]
  have H := Lib.hid h
  clear h hp
  obtain ⟨i0, hi0, hz0, hz1, hz2⟩ := info_parts info_u8
  go_enter Tryd.func26, Tryd.ntmps26
  go_wp2_with (first
    | (go_at_call 36; refine HC.mono ?_; rintro e w' ⟨rfl, rfl⟩)
    | (at_builtin
       refine Lib.wpList_append_own_string _ rfl (.tmp 9) (.tmp 10) _ _ rfl B 5 i0 Tryd.underlying41 Tryd.underlying9 hi0 hz0 hz1 hz2 V l.length (l.map (Value.int .u8)) rfl H.out s rfl (by unfold maxLen; omega) (by omega) hB ?_
       intro v' w' hown hg hnil
       have hown := Lib.hid hown
       have hg := Lib.hid hg
       clear hnil))
  go_ret
  refine ⟨_, rfl, (Below.refl B w).append H.out hg.out (Nat.le_refl _) hB, ?_⟩
  rw [HW.out, show (l ++ ints s).length = l.length + s.size by simp [ints_length]]
  have := hown.out
  rw [show (l ++ ints s).map (Value.int .u8) = l.map (Value.int .u8) ++ Lib.strCells s by simp [ints, Lib.strCells]]
  exact this

theorem write_any (B : Nat) (V : Value) (l : List Int) (s : ByteArray) (w : World) (hB : B ≤ w.heap.size) (h : w.ownsRow B 5 1 V l.length (l.map (Value.int .u8))) (hl : l.length ≤ 1000000) (hs : s.size ≤ 5000) :
    Calls Tryd.prog 26 #[V, .string s] w (WritePost B w (l ++ writ (ints s))) := by
  cases hp : plainS (ints s) with
  | true => exact write_plain B V l s w hB h hl hs hp
  | false => exact write_quoted B V l s w hB h hl hs hp

set_option maxRecDepth 100000 in
set_option maxHeartbeats 4000000 in
theorem written_quoted (s : ByteArray) (w : World) (hs : s.size ≤ 5000) (hp : plainS (ints s) = false) :
    Calls Tryd.prog 27 #[.string s] w fun e w' => e = .returned (.string (strOfNums (writ (ints s)))) ∧ Below w.heap.size w w' := by
  have HC := rplain_any s w (by omega)
  rw [hp] at HC
  have HW : Hid (writ (ints s) = [34] ++ ((ints s).flatMap esc ++ [34])) := by
    show writ (ints s) = _
    simp [writ, hp]
  clear hp
  go_enter Tryd.func27, Tryd.ntmps27
  go_wp2_with (go_at_call 37; refine HC.mono ?_; rintro e w' ⟨rfl, rfl⟩)
  go_loopw [3, 4] (fun v0 vi wr => WriteRel w.heap.size w s (writ (ints s)) 1 v0 vi wr) (fun _ i _ => s.size - (intOf i).toNat)
  case atStart => exact ⟨0, [34], rfl, by omega, World.ownsRow_lit _ _ _ (Nat.le_refl _) (by unfold maxLen; omega) rfl, (Below.refl _ _).alloc (Nat.le_refl _) _, by rw [HW.out]; simp, by simp⟩
  case round =>
    obtain ⟨k, acc, hq⟩ := hrel
    obtain rfl := hq.eq
    have hk := hq.hi
    have hlen := hq.len
    have HQ := Lib.hid hq
    clear hq
    by_cases hlt : k < s.size
    · by_cases c1 : (s[k].toNat : Int) = 34 ∨ (s[k].toNat : Int) = 92
      · have hx : esc (s[k].toNat : Int) = [92, (s[k].toNat : Int)] := by simp [esc, c1]
        have HX := Lib.hid hx
        clear hx
        rcases c1 with c1 | c1
        · have hb : ((s[k].toNat : Int) == 34) = true := by simpa using c1
          clear c1
          go_wp2_with (first
            | (at_builtin
               refine wpList_append_two _ rfl (.tmp 27) (.tmp 29) _ rfl w.heap.size 5 (.int .u8 0) 1 Tryd.underlying41 info_u8 rfl u3 acc.length (acc.map (Value.int .u8)) rfl (HQ.out.own.alloc _) _ 2 (.int .u8 92) (.int .u8 s[k].toNat) rfl (by simp [go_sem]) (by simp [go_sem]) rfl rfl (by unfold maxLen; omega) (by omega) (by have := HQ.out.below.size; simp; omega) ?_
               intro g cap w2 hown hg hat
               have hown := Lib.hid hown
               have hg := Lib.hid hg
               clear hat))
          go_roundw
          case rel => exact write_step HQ.out (Nat.le_refl _) hlt HX.out (by go_num) hown.out hg.out
          case measure => simp [intOf]; omega
        · have hb0 : ((s[k].toNat : Int) == 34) = false := by rw [c1]; rfl
          have hb : ((s[k].toNat : Int) == 92) = true := by simpa using c1
          clear c1
          go_wp2_with (first
            | (at_builtin
               refine wpList_append_two _ rfl (.tmp 27) (.tmp 29) _ rfl w.heap.size 5 (.int .u8 0) 1 Tryd.underlying41 info_u8 rfl u3 acc.length (acc.map (Value.int .u8)) rfl (HQ.out.own.alloc _) _ 2 (.int .u8 92) (.int .u8 s[k].toNat) rfl (by simp [go_sem]) (by simp [go_sem]) rfl rfl (by unfold maxLen; omega) (by omega) (by have := HQ.out.below.size; simp; omega) ?_
               intro g cap w2 hown hg hat
               have hown := Lib.hid hown
               have hg := Lib.hid hg
               clear hat))
          go_roundw
          case rel => exact write_step HQ.out (Nat.le_refl _) hlt HX.out (by go_num) hown.out hg.out
          case measure => simp [intOf]; omega
      · have hb1 : ((s[k].toNat : Int) == 34) = false := by simp; omega
        have hb2 : ((s[k].toNat : Int) == 92) = false := by simp; omega
        by_cases c2 : (s[k].toNat : Int) = 10
        · have hx : esc (s[k].toNat : Int) = [92, 110] := by simp [esc, c2]
          have HX := Lib.hid hx
          have hb : ((s[k].toNat : Int) == 10) = true := by simpa using c2
          clear hx c2 c1
          go_wp2_with (first
            | (at_builtin
               refine wpList_append_two _ rfl (.tmp 33) (.tmp 34) _ rfl w.heap.size 5 (.int .u8 0) 1 Tryd.underlying41 info_u8 rfl u3 acc.length (acc.map (Value.int .u8)) rfl (HQ.out.own.alloc _) _ 2 (.int .u8 92) (.int .u8 110) rfl (by simp [go_sem]) (by simp [go_sem]) rfl rfl (by unfold maxLen; omega) (by omega) (by have := HQ.out.below.size; simp; omega) ?_
               intro g cap w2 hown hg hat
               have hown := Lib.hid hown
               have hg := Lib.hid hg
               clear hat))
          go_roundw
          case rel => exact write_step HQ.out (Nat.le_refl _) hlt HX.out (by go_num) hown.out hg.out
          case measure => simp [intOf]; omega
        · have hb3 : ((s[k].toNat : Int) == 10) = false := by simpa using c2
          by_cases c3 : (s[k].toNat : Int) = 13
          · have hx : esc (s[k].toNat : Int) = [92, 114] := by simp [esc, c3]
            have HX := Lib.hid hx
            have hb : ((s[k].toNat : Int) == 13) = true := by simpa using c3
            clear hx c3 c2 c1
            go_wp2_with (first
              | (at_builtin
                 refine wpList_append_two _ rfl (.tmp 38) (.tmp 39) _ rfl w.heap.size 5 (.int .u8 0) 1 Tryd.underlying41 info_u8 rfl u3 acc.length (acc.map (Value.int .u8)) rfl (HQ.out.own.alloc _) _ 2 (.int .u8 92) (.int .u8 114) rfl (by simp [go_sem]) (by simp [go_sem]) rfl rfl (by unfold maxLen; omega) (by omega) (by have := HQ.out.below.size; simp; omega) ?_
                 intro g cap w2 hown hg hat
                 have hown := Lib.hid hown
                 have hg := Lib.hid hg
                 clear hat))
            go_roundw
            case rel => exact write_step HQ.out (Nat.le_refl _) hlt HX.out (by go_num) hown.out hg.out
            case measure => simp [intOf]; omega
          · have hx : esc (s[k].toNat : Int) = [(s[k].toNat : Int)] := by simp [esc, c1, c2, c3]
            have HX := Lib.hid hx
            have hb : ((s[k].toNat : Int) == 13) = false := by simpa using c3
            clear hx c3 c2 c1
            go_wp2_with (first
              | (at_builtin
                 refine wpList_append_one _ rfl (.tmp 20) (.tmp 22) _ rfl w.heap.size 5 (.int .u8 0) 1 Tryd.underlying41 info_u8 rfl u3 acc.length (acc.map (Value.int .u8)) rfl (HQ.out.own.alloc _) _ 1 (.int .u8 s[k].toNat) rfl (by simp [go_sem]) rfl (by unfold maxLen; omega) (by omega) (by first | (simp; omega) | (have := HQ.out.below.size; simp; omega)) ?_
                 intro g cap w2 hown hg hat
                 have hown := Lib.hid hown
                 have hg := Lib.hid hg
                 clear hat))
            go_roundw
            case rel => exact write_step HQ.out (Nat.le_refl _) hlt HX.out (by go_num) hown.out hg.out
            case measure => simp [intOf]; omega
    · obtain rfl : k = s.size := by omega
      have hconv : ∀ g cap w2, w2.ownsRow w.heap.size 5 1 (.slice (some ⟨g, 0, none⟩) (acc.length + 1) cap) (writ (ints s)).length ((writ (ints s)).map (Value.int .u8)) →
          (convert 41 9 (.slice (some ⟨g, 0, none⟩) (acc.length + 1) cap)).run Tryd.prog w2 = .ok (.string (strOfNums (writ (ints s)))) w2 := fun g cap w2 hh => conv_own hh
      have HCV := Lib.hid hconv
      clear hconv
      go_wp2_with (first
        | (at_builtin
           refine wpList_append_one _ rfl (.tmp 41) (.tmp 42) _ rfl w.heap.size 5 (.int .u8 0) 1 Tryd.underlying41 info_u8 rfl u3 acc.length (acc.map (Value.int .u8)) rfl (HQ.out.own.alloc _) _ 1 (.int .u8 34) rfl (by simp [go_sem]) rfl (by unfold maxLen; omega) (by omega) (by have := HQ.out.below.size; simp; omega) ?_
           intro g cap w2 hown hg hat
           have hE := write_end HQ.out (Nat.le_refl _) hown hg
           have hcv := HCV.out g cap w2 hE.2.2
           have HE := Lib.hid hE
           clear hown hg hat hE))
      go_ret
      exact ⟨rfl, HE.out.2.1⟩

set_option maxHeartbeats 400000 in
theorem written_plain (s : ByteArray) (w : World) (hs : s.size ≤ 5000) (hp : plainS (ints s) = true) :
    Calls Tryd.prog 27 #[.string s] w fun e w' => e = .returned (.string (strOfNums (writ (ints s)))) ∧ Below w.heap.size w w' := by
  have HC := rplain_any s w (by omega)
  rw [hp] at HC
  have HW : Hid (strOfNums (writ (ints s)) = s) := by
    show strOfNums (writ (ints s)) = s
    simp only [writ, hp, if_true]
    exact strOfNums_ints s
  clear hp
  go_enter Tryd.func27, Tryd.ntmps27
  go_wp2_with (go_at_call 37; refine HC.mono ?_; rintro e w' ⟨rfl, rfl⟩)
  go_ret
  refine ⟨?_, Below.refl _ _⟩
  rw [HW.out]
  rfl

theorem written_any (s : ByteArray) (w : World) (hs : s.size ≤ 5000) :
    Calls Tryd.prog 27 #[.string s] w fun e w' => e = .returned (.string (strOfNums (writ (ints s)))) ∧ Below w.heap.size w w' := by
  cases hp : plainS (ints s) with
  | true => exact written_plain s w hs hp
  | false => exact written_quoted s w hs hp
end Go.Proofs.YtocnbeendjabpaaDoor
