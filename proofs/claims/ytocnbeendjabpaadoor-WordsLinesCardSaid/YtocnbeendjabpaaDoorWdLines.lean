/- words.Lines and speculateref01.Lines. -/
import Derived.Test.YtocnbeendjabpaaDoorWdLinesSpec
import Derived.Test.YtocnbeendjabpaaDoorShelf
namespace Go.Proofs.YtocnbeendjabpaaDoor
open Go.RowKit

/-- the lines of a text, as strings -/
def linesR (s : ByteArray) : List ByteArray := (linesL s.data.toList).map mk

def LinesPost (w : World) (l : List ByteArray) (e : Ending) (w' : World) : Prop :=
  ∃ V, e = .returned V ∧ Below w.heap.size w w' ∧ w'.ownsRow w.heap.size 9 1 V l.length (l.map Value.string)

theorem ssplit_any (s : ByteArray) (m : Int) (w : World) (hs : s.size ≤ 1000000000) (hm : w.cell? ⟨3, 0, none⟩ = some (.int .i64 m)) :
    Calls Tryd.prog 25 #[.string s, .string ⟨#[10]⟩] w fun e w' => ∃ c, Hid ((pcs s.data.toList).length = c + 1) ∧ e = .returned (.slice (some ⟨w.heap.size, 0, none⟩) (c + 1) (c + 1)) ∧
      w' = w.alloc (.cells (((pcs s.data.toList).map mk).map Value.string).toArray 9) := by
  refine (Tryd.strings_Split s ⟨#[10]⟩ m w (by omega) hm (by decide)).mono ?_
  rintro e w' ⟨rfl, rfl⟩
  rw [splitB_pcs]
  refine ⟨_, ?_, rfl, rfl⟩
  have h := Lib.splitB_all ⟨#[10]⟩ (by decide) 0 (Lib.countB s ⟨#[10]⟩) s rfl
  rw [splitB_pcs, List.length_map] at h
  exact h

set_option maxRecDepth 100000 in
set_option maxHeartbeats 1000000 in
theorem lines_any (s : ByteArray) (m : Int) (w : World) (hs : s.size ≤ 1000000000) (hm : w.cell? ⟨3, 0, none⟩ = some (.int .i64 m)) :
    Calls Tryd.prog 13 #[.string s] w (LinesPost w (linesR s)) := by
  have HM := Lib.hid hm
  clear hm
  have hpl := pcs_length_le s.data.toList
  have hsz := Lib.size_eq s
  have hpl2 : (pcs s.data.toList).length ≤ 1000000001 := by omega
  clear hpl hsz
  go_enter Tryd.func13, Tryd.ntmps13
  go_wp2_with fail
  refine (ssplit_any s m w hs HM.out).mono ?_
  rintro e w1 ⟨c, hc, rfl, rfl⟩
  have hcl : c ≤ 1000000000 := by have := hc.out; omega
  have hlast : ∃ x, (pcs s.data.toList)[c]? = some x ∧ (pcs s.data.toList).getLast (pcs_ne _) = x := by
    refine ⟨(pcs s.data.toList)[c]'(by rw [hc.out]; omega), List.getElem?_eq_getElem _, ?_⟩
    rw [List.getLast_eq_getElem]
    congr 1
    rw [hc.out]
    rfl
  obtain ⟨x, hx1, hx2⟩ := hlast
  have HX1 := Lib.hid hx1
  have HX2 := Lib.hid hx2
  clear hx1 hx2
  generalize hcs : (((pcs s.data.toList).map mk).map Value.string).toArray = cs
  have HC : Hid (cs[c]? = some (.string (mk x))) := by
    show cs[c]? = some (.string (mk x))
    rw [← hcs]
    simp [HX1.out]
  have HCS := Lib.hid hcs
  clear hcs
  have hw : Whole (w.alloc (.cells cs 9)) w.heap.size 9 cs := Whole.new _ _
  have hcell : (w.alloc (.cells cs 9)).cell? ⟨w.heap.size, c, none⟩ = some (.string (mk x)) := (hw.cell c).trans HC.out
  have HW := Lib.hid hw
  clear hw
  generalize hW1 : w.alloc (.cells cs 9) = W1 at hcell HW
  have HW1 := Lib.hid hW1
  clear hW1
  go_wp2
  · have he : (mk x).toList.isEmpty = true := by assumption
    have hx : x = [] := by
      rw [Lib.toList_data, data_mk] at he
      simpa using he
    go_ret
    have hl : linesL s.data.toList = (pcs s.data.toList).take c := by
      unfold linesL
      rw [if_pos (by rw [HX2.out]; exact hx), List.dropLast_eq_take, hc.out]
      rfl
    refine ⟨_, rfl, by rw [← HW1.out]; exact (Below.refl _ _).alloc (Nat.le_refl _) _, ?_⟩
    have hln : (linesR s).length = c := by unfold linesR; rw [hl]; simp [hc.out]
    rw [hln]
    refine ⟨by simp [hln], .inr ⟨_, _, cs, rfl, Nat.le_refl _, HW.out, by omega, by unfold maxLen; omega, by rw [← HCS.out]; simp [hc.out], ?_⟩⟩
    rw [← HCS.out]
    unfold linesR
    rw [hl]
    simp
  · have he : (mk x).toList.isEmpty = false := by assumption
    have hx : x ≠ [] := by
      rw [Lib.toList_data, data_mk] at he
      simpa using he
    go_ret
    have hl : linesL s.data.toList = pcs s.data.toList := by
      unfold linesL
      rw [if_neg (by rw [HX2.out]; exact hx)]
    refine ⟨_, rfl, by rw [← HW1.out]; exact (Below.refl _ _).alloc (Nat.le_refl _) _, ?_⟩
    have hln : (linesR s).length = c + 1 := by unfold linesR; rw [hl]; simp [hc.out]
    rw [hln]
    refine ⟨by simp [hln], .inr ⟨_, _, cs, rfl, Nat.le_refl _, HW.out, by omega, by unfold maxLen; omega, by rw [← HCS.out]; simp [hc.out], ?_⟩⟩
    rw [← HCS.out]
    unfold linesR
    rw [hl]
    rw [List.take_of_length_le (by simp [hc.out])]

/-- at a round's head: what is done, and what is left -/
structure RLinesIn (w : World) (s : ByteArray) (v3 v4 v5 : Value) (wr : World) (f k : Nat) (out : List ByteArray) : Prop where
  eq4 : v4 = .int .i64 f
  eq5 : v5 = .int .i64 k
  lo : f ≤ k
  hi : k ≤ s.size
  own : wr.ownsRow w.heap.size 9 1 v3 out.length (out.map Value.string)
  below : Below w.heap.size w wr
  left : linesR s = out ++ (linesL (s.data.toList.drop f)).map mk
  clean : 10 ∉ (s.data.toList.drop f).take (k - f)
  len : out.length ≤ k
def RLinesRel (w : World) (s : ByteArray) (v3 v4 v5 : Value) (wr : World) : Prop := ∃ f k out, RLinesIn w s v3 v4 v5 wr f k out

theorem byte_drop (s : ByteArray) (k : Nat) (h : k < s.size) : s.data.toList.drop k = s[k] :: s.data.toList.drop (k + 1) := by
  have hl : k < s.data.toList.length := by rw [← Lib.size_eq]; exact h
  rw [List.drop_eq_getElem_cons hl]
  congr 1

theorem mk_extract (s : ByteArray) (a b : Nat) : mk ((s.data.toList.drop a).take (b - a)) = s.extract a b := by
  rw [← Lib.extract_data, mk_data]

theorem rlines_cut {w wr : World} {s : ByteArray} {v3 v4 v5 : Value} {f k : Nat} {out : List ByteArray} (h : RLinesIn w s v3 v4 v5 wr f k out) (hk : k < s.size) (h10 : s[k] = 10) :
    linesR s = (out ++ [s.extract f k]) ++ (linesL (s.data.toList.drop (k + 1))).map mk := by
  have hs : s.data.toList.drop f = (s.data.toList.drop f).take (k - f) ++ 10 :: s.data.toList.drop (k + 1) := by
    conv => lhs; rw [← List.take_append_drop (k - f) (s.data.toList.drop f), List.drop_drop, show f + (k - f) = k by have := h.lo; omega, byte_drop s k hk, h10]
  rw [h.left, hs, linesL_feed _ _ h.clean, List.map_cons, mk_extract]
  simp

theorem rlines_end {w wr : World} {s : ByteArray} {v3 v4 v5 : Value} {f : Nat} {out : List ByteArray} (h : RLinesIn w s v3 v4 v5 wr f s.size out) :
    linesR s = out ++ (if f < s.size then [s.extract f s.size] else []) := by
  have hc := h.clean
  have hlen : (s.data.toList.drop f).length = s.size - f := by rw [List.length_drop, ← Lib.size_eq]
  rw [List.take_of_length_le (by omega)] at hc
  rw [h.left, linesL_none _ hc]
  by_cases hf : f < s.size
  · have hne : s.data.toList.drop f ≠ [] := by
      intro e
      rw [e] at hlen
      simp at hlen
      omega
    rw [if_neg hne, if_pos hf, ← mk_extract, List.take_of_length_le (by omega)]
    rfl
  · have he : s.data.toList.drop f = [] := List.eq_nil_of_length_eq_zero (by omega)
    rw [if_pos he, if_neg hf]
    rfl

theorem rlines_far {w wr w2 : World} {V : Value} {out : List ByteArray} {o : Obj} (hb : Below w.heap.size w wr) (ho : wr.ownsRow w.heap.size 9 1 V out.length (out.map Value.string)) (hg : (wr.alloc o).grownBy w2 V.ownBlock) : Below w.heap.size w w2 :=
  (hb.alloc hb.size o).append (ho.alloc o) hg (Nat.le_refl _) (by have := hb.size; simp; omega)

set_option maxRecDepth 100000 in
set_option maxHeartbeats 2000000 in
theorem rlines_any (s : ByteArray) (w : World) (hs : s.size ≤ 1000000000) :
    Calls Tryd.prog 14 #[.string s] w (LinesPost w (linesR s)) := by
  go_enter Tryd.func14, Tryd.ntmps14
  go_wp2
  go_loopw [3, 4, 5] (fun v3 v4 v5 wr => RLinesRel w s v3 v4 v5 wr) (fun _ _ i _ => s.size - (intOf i).toNat)
  case atStart => exact ⟨0, 0, [], rfl, rfl, by omega, by omega, World.ownsRow_nil _ _ _ _, Below.refl _ _, by simp [linesR], by simp, by simp⟩
  case round =>
    obtain ⟨f, k, out, hq⟩ := hrel
    obtain rfl := hq.eq4
    obtain rfl := hq.eq5
    have hk := hq.hi
    have hlo := hq.lo
    have hlen := hq.len
    have HQ := Lib.hid hq
    clear hq
    by_cases hlt : k < s.size
    · by_cases h10 : s[k] = 10
      · have hb : ((s[k].toNat : Int) == 10) = true := by rw [h10]; rfl
        have H10 := Lib.hid h10
        clear h10
        go_wp2_with (first
          | (at_builtin
             refine wpList_append_one _ rfl (.tmp 16) (.tmp 21) _ rfl w.heap.size 9 (.string ⟨#[]⟩) 16 Tryd.underlying23 info_str rfl u3 out.length (out.map Value.string) rfl (HQ.out.own.alloc _) _ 1 (.string (s.extract f k)) rfl (by simp [go_sem]) rfl (by unfold maxLen; omega) (by omega) (by have := HQ.out.below.size; simp; omega) ?_
             intro g cap w2 hown hg hat
             have hown := Lib.hid hown
             have hg := Lib.hid hg
             clear hat))
        go_roundw
        case rel =>
          have hln : (out ++ [s.extract f k]).length = out.length + 1 := by simp
          exact ⟨k + 1, k + 1, out ++ [s.extract f k], by go_num, by go_num, by omega, by omega, by rw [hln]; simpa using hown.out, rlines_far HQ.out.below HQ.out.own hg.out, rlines_cut HQ.out hlt H10.out, by simp, by rw [hln]; omega⟩
        case measure => simp [intOf]; omega
      · have hb : ((s[k].toNat : Int) == 10) = false := by
          rw [beq_eq_false_iff_ne]
          intro e
          apply h10
          apply UInt8.toNat_inj.1
          exact_mod_cast e
        have H10 := Lib.hid h10
        clear h10
        go_wp2
        go_roundw
        case rel =>
          refine ⟨f, k + 1, out, rfl, by go_num, by omega, by omega, HQ.out.own, HQ.out.below, HQ.out.left, ?_, by omega⟩
          rw [show k + 1 - f = (k - f) + 1 by omega, List.take_add_one, List.getElem?_drop, show f + (k - f) = k by omega]
          have hg : s.data.toList[k]? = some s[k] := by
            have h2 : (s.data.toList.drop k)[0]? = some s[k] := by rw [byte_drop s k hlt]; rfl
            rwa [List.getElem?_drop, Nat.add_zero] at h2
          rw [hg]
          simp only [Option.toList_some, List.mem_append, List.mem_singleton, not_or]
          exact ⟨HQ.out.clean, fun e => H10.out e.symm⟩
        case measure => simp [intOf]; omega
    · obtain rfl : k = s.size := by omega
      have he := Lib.hid (rlines_end HQ.out)
      by_cases hf : f < s.size
      · go_wp2_with (first
          | (at_builtin
             refine wpList_append_one _ rfl (.tmp 29) (.tmp 33) _ rfl w.heap.size 9 (.string ⟨#[]⟩) 16 Tryd.underlying23 info_str rfl u3 out.length (out.map Value.string) rfl (HQ.out.own.alloc _) _ 1 (.string (s.extract f s.size)) rfl (by simp [go_sem]) rfl (by unfold maxLen; omega) (by omega) (by have := HQ.out.below.size; simp; omega) ?_
             intro g cap w2 hown hg hat
             have hown := Lib.hid hown
             have hg := Lib.hid hg
             clear hat))
        go_ret
        refine ⟨_, rfl, rlines_far HQ.out.below HQ.out.own hg.out, ?_⟩
        rw [he.out, if_pos hf, show (out ++ [s.extract f s.size]).length = out.length + 1 by simp]
        simpa using hown.out
      · go_wp2
        go_ret
        refine ⟨_, rfl, HQ.out.below, ?_⟩
        rw [he.out, if_neg hf, List.append_nil]
        exact HQ.out.own
end Go.Proofs.YtocnbeendjabpaaDoor
