/- words.Join and speculateref01.Join. -/
import Derived.Test.YtocnbeendjabpaaDoorWdWrite
import Derived.Test.YtocnbeendjabpaaDoorWdSame
namespace Go.Proofs.YtocnbeendjabpaaDoor
open Go.RowKit

/-- a line of words -/
def jAll : List ByteArray → List Int
  | [] => []
  | x :: r => writ (ints x) ++ r.flatMap fun y => 32 :: writ (ints y)
theorem jAll_snoc (l : List ByteArray) (x : ByteArray) : jAll (l ++ [x]) = (jAll l ++ (if 0 < l.length then [32] else [])) ++ writ (ints x) := by
  cases l with
  | nil => simp [jAll]
  | cons a r => simp [jAll]
theorem jAll_append_le (l r : List ByteArray) : (jAll l).length ≤ (jAll (l ++ r)).length := by
  cases l with
  | nil => simp [jAll]
  | cons a l => simp only [jAll, List.cons_append, List.flatMap_append, List.length_append]; omega
theorem jAll_take_le (l : List ByteArray) (k : Nat) : (jAll (l.take k)).length ≤ (jAll l).length := by
  have := jAll_append_le (l.take k) (l.drop k)
  rwa [List.take_append_drop] at this
/-- the line, or the error -/
def joinR (l : List ByteArray) : ByteArray × Int := if 256 < l.length ∨ 4096 < (jAll l).length then (⟨#[]⟩, 3) else (strOfNums (jAll l), 0)

def JoinPost (w : World) (l : List ByteArray) (e : Ending) (w' : World) : Prop := e = .returned (.tuple #[.string (joinR l).1, .int .i64 (joinR l).2]) ∧ Below w.heap.size w w'
theorem join_end {w w' : World} {l : List ByteArray} {S : ByteArray} {n : Int} {e : Ending} (h : joinR l = (S, n)) (he : e = .returned (.tuple #[.string S, .int .i64 n])) (hb : Below w.heap.size w w') : JoinPost w l e w' := by
  refine ⟨?_, hb⟩
  rw [h]
  exact he

structure JoinIn (w : World) (l : List ByteArray) (v4 vi : Value) (wr : World) (k : Nat) (acc : List Int) : Prop where
  eq : vi = .int .i64 k
  hi : k ≤ l.length
  own : wr.ownsRow w.heap.size 5 1 v4 acc.length (acc.map (Value.int .u8))
  below : Below w.heap.size w wr
  sofar : jAll (l.take k) = acc
  len : acc.length ≤ 2003 * k
def JoinRel (w : World) (l : List ByteArray) (v4 vi : Value) (wr : World) : Prop := ∃ k acc, JoinIn w l v4 vi wr k acc

theorem join_step {w : World} {l : List ByteArray} {v4 vi : Value} {wr : World} {k : Nat} {acc : List Int} (h : JoinIn w l v4 vi wr k acc) (hk : k < l.length) (hx : l[k].size ≤ 1000) {V v9 : Value} {w' : World}
    {mid : List Int} (hmid : mid = acc ++ (if 0 < k then [32] else [])) (hown : w'.ownsRow w.heap.size 5 1 V (mid ++ writ (ints l[k])).length ((mid ++ writ (ints l[k])).map (Value.int .u8))) (hb : Below w.heap.size w w') (h9 : v9 = .int .i64 ((k + 1 : Nat) : Int)) :
    JoinRel w l V v9 w' := by
  subst hmid
  have hlk : (l.take k).length = k := by rw [List.length_take]; omega
  refine ⟨k + 1, _, h9, hk, hown, hb, ?_, ?_⟩
  · rw [List.take_add_one, List.getElem?_eq_getElem hk, Option.toList_some, jAll_snoc, h.sofar, hlk]
  · have h1 := writ_len (ints l[k])
    rw [ints_length] at h1
    have h2 := h.len
    simp only [List.length_append]
    split
    · simp; omega
    · simp; omega

theorem of_all {l : List ByteArray} {P : ByteArray → Prop} (h : ∀ x ∈ l, P x) {k : Nat} (hk : k < l.length) : P l[k] := h _ (List.getElem_mem hk)

set_option maxRecDepth 100000 in
set_option maxHeartbeats 4000000 in
theorem join_some (A : Option Addr) (c : Nat) (l : List ByteArray) (w : World) (ha : Rd w A l) (hl : l.length ≤ 256) (hx : ∀ x ∈ l, x.size ≤ 1000) :
    Calls Tryd.prog 16 #[.slice A l.length c] w (JoinPost w l) := by
  have HA := Lib.hid ha
  have HX := Lib.hid hx
  have hd : decide (256 < (l.length : Int)) = false := by simp; omega
  clear ha hx
  go_enter Tryd.func16, Tryd.ntmps16
  go_wp2
  go_loopw [4, 12] (fun v4 vi wr => JoinRel w l v4 vi wr) (fun _ i _ => l.length - (intOf i).toNat)
  case atStart => exact ⟨0, [], rfl, by omega, World.ownsRow_nil _ _ _ _, Below.refl _ _, rfl, by simp⟩
  case round =>
    obtain ⟨k, acc, hq⟩ := hrel
    obtain rfl := hq.eq
    have hk := hq.hi
    have hlen := hq.len
    have HQ := Lib.hid hq
    clear hq
    by_cases hlt : k < l.length
    · obtain ⟨b, off, rfl, hc⟩ := (HA.out.below HQ.out.below (Nat.le_refl _)) k hlt
      have hxs := of_all HX.out hlt
      by_cases h0 : 0 < k
      · go_wp2_with (first
          | (at_builtin
             refine wpList_append_one _ rfl (.tmp 19) (.tmp 20) _ rfl w.heap.size 5 (.int .u8 0) 1 Tryd.underlying41 info_u8 rfl u4 acc.length (acc.map (Value.int .u8)) rfl (HQ.out.own.alloc _) _ 1 (.int .u8 32) rfl (by simp [go_sem]) rfl (by unfold maxLen; omega) (by omega) (by have := HQ.out.below.size; simp; omega) ?_
             intro g cap w2 hown hg hat
             have hb2 := ((HQ.out.below.alloc HQ.out.below.size _).append (HQ.out.own.alloc _) hg (Nat.le_refl _) (by have := HQ.out.below.size; simp; omega))
             have hln : (acc ++ [32]).length = acc.length + 1 := by simp
             have hcall := write_any w.heap.size (.slice (some ⟨g, 0, none⟩) (acc.length + 1) cap) (acc ++ [32]) l[k] w2 hb2.size (by rw [hln]; simpa using hown) (by rw [hln]; omega) (by omega)
             have HB2 := Lib.hid hb2
             clear hown hg hat hb2 hln)
          | (go_at_call 26
             refine hcall.mono ?_
             rintro e w3 ⟨V3, rfl, hb3, hown3⟩
             have HOWN := Lib.hid hown3
             clear hown3))
        go_roundw
        case rel => exact join_step HQ.out hlt hxs (mid := acc ++ [32]) (by rw [if_pos h0]) HOWN.out (HB2.out.trans hb3) (by go_num)
        case measure => simp [intOf]; omega
      · obtain rfl : k = 0 := by omega
        rw [Nat.add_zero] at hc
        have hcall := write_any w.heap.size u4 acc l[0] wr HQ.out.below.size HQ.out.own (by omega) (by omega)
        go_wp2_with (go_at_call 26; refine hcall.mono ?_; rintro e w3 ⟨V3, rfl, hb3, hown3⟩; have HOWN := Lib.hid hown3; clear hown3)
        go_roundw
        case rel => exact join_step HQ.out hlt hxs (mid := acc) (by simp) HOWN.out (HQ.out.below.trans hb3) (by go_num)
        case measure => simp [intOf]; omega
    · obtain rfl : k = l.length := by omega
      have hacc : jAll l = acc := by have := HQ.out.sofar; rwa [List.take_length] at this
      have HACC := Lib.hid hacc
      clear hacc
      have hconv := conv_own HQ.out.own
      obtain ⟨A4, c4, rfl⟩ : ∃ A4 c4, u4 = .slice A4 acc.length c4 := by
        rcases HQ.out.own.2 with ⟨h, h0⟩ | ⟨g, cap, cur, h, _⟩
        · exact ⟨none, 0, by rw [h, h0]⟩
        · exact ⟨_, _, h⟩
      by_cases hbig : 4096 < acc.length
      · go_wp2
        go_ret2
        refine join_end (S := ⟨#[]⟩) (n := 3) ?_ rfl HQ.out.below
        unfold joinR
        rw [if_pos (.inr (by rw [HACC.out]; exact hbig))]
      · go_wp2
        go_ret2
        refine join_end (S := strOfNums acc) (n := 0) ?_ rfl HQ.out.below
        unfold joinR
        rw [if_neg (by rw [HACC.out]; omega), HACC.out]

set_option maxHeartbeats 400000 in
theorem join_long (A : Option Addr) (c : Nat) (l : List ByteArray) (w : World) (hl : 256 < l.length) :
    Calls Tryd.prog 16 #[.slice A l.length c] w (JoinPost w l) := by
  go_enter Tryd.func16, Tryd.ntmps16
  go_wp2
  go_ret2
  refine join_end (S := ⟨#[]⟩) (n := 3) ?_ rfl (Below.refl _ _)
  unfold joinR
  rw [if_pos (.inl hl)]

theorem join_any (A : Option Addr) (c : Nat) (l : List ByteArray) (w : World) (ha : Rd w A l) (hx : ∀ x ∈ l, x.size ≤ 1000) :
    Calls Tryd.prog 16 #[.slice A l.length c] w (JoinPost w l) := by
  by_cases hl : 256 < l.length
  · exact join_long A c l w hl
  · exact join_some A c l w ha (by omega) hx

structure RJoinIn (w : World) (l : List ByteArray) (v4 vi : Value) (wr : World) (k : Nat) (S : ByteArray) : Prop where
  eq4 : v4 = .string S
  eq : vi = .int .i64 k
  hi : k ≤ l.length
  below : Below w.heap.size w wr
  sofar : jAll (l.take k) = ints S
  len : S.size ≤ 4096
theorem ints_append (a b : ByteArray) : ints (a ++ b) = ints a ++ ints b := by
  unfold ints
  rw [show (a ++ b).data = a.data ++ b.data from ByteArray.data_append, Array.toList_append, List.map_append]
theorem ints_nums {l : List Int} (h : ∀ x ∈ l, 0 ≤ x ∧ x < 256) : ints (strOfNums l) = l := by
  unfold ints
  rw [strOfNums_data, List.map_map]
  conv => rhs; rw [← List.map_id l]
  apply List.map_congr_left
  intro x hx
  have := h x hx
  simp only [Function.comp_apply, id]
  rw [UInt8.toNat_ofNat_of_lt' (by show x.toNat < 256; omega)]
  omega
theorem ints_range (s : ByteArray) : ∀ x ∈ ints s, 0 ≤ x ∧ x < 256 := by
  intro x hx
  unfold ints at hx
  rw [List.mem_map] at hx
  obtain ⟨b, _, rfl⟩ := hx
  have := b.toNat_lt
  omega
theorem writ_range {l : List Int} (h : ∀ x ∈ l, 0 ≤ x ∧ x < 256) : ∀ x ∈ writ l, 0 ≤ x ∧ x < 256 := by
  unfold writ
  split
  · exact h
  · intro x hx
    simp only [List.mem_cons, List.mem_append, List.mem_flatMap, List.mem_nil_iff, or_false] at hx
    rcases hx with rfl | ⟨y, hy, hx⟩ | rfl
    · omega
    · have := h y hy
      unfold esc at hx
      split at hx
      · simp at hx; omega
      · split at hx
        · simp at hx; omega
        · split at hx
          · simp at hx; omega
          · simp at hx; omega
    · omega
theorem rjoin_next {w : World} {l : List ByteArray} {v4 vi : Value} {wr : World} {k : Nat} {S X Y : ByteArray} (h : RJoinIn w l v4 vi wr k S) (hk : k < l.length) (hX : strOfNums (writ (ints l[k])) = X) (hY : ints Y = if 0 < k then [32] else []) :
    jAll (l.take (k + 1)) = ints (S ++ Y ++ X) := by
  have hlk : (l.take k).length = k := by rw [List.length_take]; omega
  rw [List.take_add_one, List.getElem?_eq_getElem hk, Option.toList_some, jAll_snoc, h.sofar, hlk, ints_append, ints_append, hY, ← hX, ints_nums (writ_range (ints_range _))]
theorem rjoin_big {w : World} {l : List ByteArray} {v4 vi : Value} {wr : World} {k : Nat} {S X Y : ByteArray} (h : RJoinIn w l v4 vi wr k S) (hk : k < l.length) (hX : strOfNums (writ (ints l[k])) = X) (hY : ints Y = if 0 < k then [32] else [])
    (hbig : 4096 < S.size + Y.size + X.size) : joinR l = (⟨#[]⟩, 3) := by
  unfold joinR
  rw [if_pos]
  right
  have h1 := jAll_take_le l (k + 1)
  rw [rjoin_next h hk hX hY, ints_length, ByteArray.size_append, ByteArray.size_append] at h1
  omega
theorem rjoin_step {w : World} {l : List ByteArray} {v4 vi v4' v9 : Value} {wr w' : World} {k : Nat} {S X Y : ByteArray} (h : RJoinIn w l v4 vi wr k S) (hk : k < l.length) (hX : strOfNums (writ (ints l[k])) = X) (hY : ints Y = if 0 < k then [32] else [])
    (hle : S.size + Y.size + X.size ≤ 4096) (hb : Below w.heap.size w w') (h4 : v4' = .string (S ++ Y ++ X)) (h9 : v9 = .int .i64 ((k + 1 : Nat) : Int)) : ∃ k S, RJoinIn w l v4' v9 w' k S :=
  ⟨k + 1, S ++ Y ++ X, h4, h9, hk, hb, rjoin_next h hk hX hY, by rw [ByteArray.size_append, ByteArray.size_append]; exact hle⟩
def RJoinRel (w : World) (l : List ByteArray) (v4 vi : Value) (wr : World) : Prop := ∃ k S, RJoinIn w l v4 vi wr k S

set_option maxRecDepth 100000 in
set_option maxHeartbeats 4000000 in
theorem rjoin_some (A : Option Addr) (c : Nat) (l : List ByteArray) (w : World) (ha : Rd w A l) (hl : l.length ≤ 256) (hx : ∀ x ∈ l, x.size ≤ 1000) :
    Calls Tryd.prog 17 #[.slice A l.length c] w (JoinPost w l) := by
  have HA := Lib.hid ha
  have HX := Lib.hid hx
  have hd : decide (256 < (l.length : Int)) = false := by simp; omega
  clear ha hx
  go_enter Tryd.func17, Tryd.ntmps17
  go_wp2
  go_loopw [4, 12] (fun v4 vi wr => RJoinRel w l v4 vi wr) (fun _ i _ => l.length - (intOf i).toNat)
  case atStart => exact ⟨0, ⟨#[]⟩, rfl, rfl, by omega, Below.refl _ _, rfl, by decide⟩
  case round =>
    obtain ⟨k, S, hq⟩ := hrel
    obtain rfl := hq.eq
    obtain rfl := hq.eq4
    have hk := hq.hi
    have hlen := hq.len
    have HQ := Lib.hid hq
    clear hq
    by_cases hlt : k < l.length
    · obtain ⟨b, off, rfl, hc⟩ := (HA.out.below HQ.out.below (Nat.le_refl _)) k hlt
      have hxs := of_all HX.out hlt
      have hcall := written_any l[k] wr (by omega)
      have hwl := writ_len (ints l[k])
      rw [ints_length] at hwl
      have hwl2 : (strOfNums (writ (ints l[k]))).size ≤ 2002 := by rw [strOfNums_size]; omega
      clear hwl
      generalize hX : strOfNums (writ (ints l[k])) = X at hcall hwl2
      have HXX := Lib.hid hX
      clear hX
      by_cases h0 : 0 < k
      · go_wp2_with (go_at_call 27; refine hcall.mono ?_; rintro e w3 ⟨rfl, hb3⟩)
        · have hbig : 4096 < (S.size : Int) + 1 + X.size := by assumption
          go_ret2
          exact join_end (S := ⟨#[]⟩) (n := 3) (rjoin_big HQ.out hlt HXX.out (Y := ⟨#[32]⟩) (by rw [if_pos h0]; rfl) (by show 4096 < S.size + 1 + X.size; omega)) rfl (HQ.out.below.trans (hb3.mono HQ.out.below.size))
        · have hle : (S.size : Int) + 1 + X.size ≤ 4096 := by assumption
          go_roundw
          case rel => exact rjoin_step HQ.out hlt HXX.out (Y := ⟨#[32]⟩) (by rw [if_pos h0]; rfl) (by show S.size + 1 + X.size ≤ 4096; omega) (HQ.out.below.trans (hb3.mono HQ.out.below.size)) rfl (by go_num)
          case measure => simp [intOf]; omega
      · obtain rfl : k = 0 := by omega
        rw [Nat.add_zero] at hc
        go_wp2_with (go_at_call 27; refine hcall.mono ?_; rintro e w3 ⟨rfl, hb3⟩)
        · have hbig : 4096 < (S.size : Int) + X.size := by assumption
          go_ret2
          exact join_end (S := ⟨#[]⟩) (n := 3) (rjoin_big HQ.out hlt HXX.out (Y := ⟨#[]⟩) rfl (by show 4096 < S.size + 0 + X.size; omega)) rfl (HQ.out.below.trans (hb3.mono HQ.out.below.size))
        · have hle : (S.size : Int) + X.size ≤ 4096 := by assumption
          go_roundw
          case rel => exact rjoin_step HQ.out hlt HXX.out (Y := ⟨#[]⟩) rfl (by show S.size + 0 + X.size ≤ 4096; omega) (HQ.out.below.trans (hb3.mono HQ.out.below.size)) (by rw [show S ++ (⟨#[]⟩ : ByteArray) = S from ByteArray.append_empty]) (by go_num)
          case measure => simp [intOf]; omega
    · obtain rfl : k = l.length := by omega
      have hacc : jAll l = ints S := by have := HQ.out.sofar; rwa [List.take_length] at this
      have HACC := Lib.hid hacc
      clear hacc
      go_wp2
      go_ret2
      refine join_end (S := S) (n := 0) ?_ rfl HQ.out.below
      unfold joinR
      rw [if_neg (by rw [HACC.out, ints_length]; omega), HACC.out, strOfNums_ints]

set_option maxHeartbeats 400000 in
theorem rjoin_long (A : Option Addr) (c : Nat) (l : List ByteArray) (w : World) (hl : 256 < l.length) :
    Calls Tryd.prog 17 #[.slice A l.length c] w (JoinPost w l) := by
  go_enter Tryd.func17, Tryd.ntmps17
  go_wp2
  go_ret2
  refine join_end (S := ⟨#[]⟩) (n := 3) ?_ rfl (Below.refl _ _)
  unfold joinR
  rw [if_pos (.inl hl)]

theorem rjoin_any (A : Option Addr) (c : Nat) (l : List ByteArray) (w : World) (ha : Rd w A l) (hx : ∀ x ∈ l, x.size ≤ 1000) :
    Calls Tryd.prog 17 #[.slice A l.length c] w (JoinPost w l) := by
  by_cases hl : 256 < l.length
  · exact rjoin_long A c l w hl
  · exact rjoin_some A c l w ha (by omega) hx
end Go.Proofs.YtocnbeendjabpaaDoor
