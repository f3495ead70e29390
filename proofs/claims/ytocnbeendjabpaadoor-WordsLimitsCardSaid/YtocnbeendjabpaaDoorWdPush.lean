/- The reader of lines: a word ends. -/
import Derived.Test.YtocnbeendjabpaaDoorWdTake
namespace Go.Proofs.YtocnbeendjabpaaDoor
open Go.RowKit

/-- string(b) of a row of the call's own. -/
theorem conv_own {B : Nat} {w : World} {V : Value} {word : List Int} (h : w.ownsRow B 5 1 V word.length (word.map (Value.int .u8))) :
    (convert 41 9 V).run Tryd.prog w = .ok (.string (strOfNums word)) w := by
  rcases h.2 with ⟨rfl, h0⟩ | ⟨g, cap, cur, rfl, _, hh, hle, _, hs, htk⟩
  · obtain rfl : word = [] := List.eq_nil_of_length_eq_zero h0
    exact run_convert_bytes_nil w _ _ Tryd.underlying41 Tryd.underlying5 0 0 _ Tryd.underlying9
  · refine run_convert_bytes_arg w _ _ Tryd.underlying41 Tryd.underlying5 g 0 word.length cap word rfl (fun i hi => ?_) _ Tryd.underlying9
    have := h.cells (g := g) rfl i (.int .u8 (word.getD i 0)) (by simp [List.getElem?_eq_getElem hi])
    rwa [Addr.add_lit] at this

def PushPost (B : Nat) (w : World) (R : Nat) (word : List Int) (words : List ByteArray) (e : Ending) (w' : World) : Prop :=
  e = .returned (.tuple #[]) ∧ Below B w w' ∧ ∃ X, RS B w' R 0 (.slice none 0 0) X [] (words ++ [strOfNums word])

theorem RS.drew {B R : Nat} {w : World} {st : Int} {V X : Value} {word : List Int} {words : List ByteArray} (h : RS B w R st V X word words) : RS B w.drew R st V X word words := ⟨h.lo, h.blk, h.word, h.words⟩
theorem RS.behind2 {B R : Nat} {w w' : World} {st : Int} {V X : Value} {word : List Int} {words : List ByteArray} (h : RS B w R st V X word words) {o : Obj} (hg : (w.drew.alloc o).grownBy w' X.ownBlock) : Whole w' R 43 #[.int .i64 st, V, X] :=
  (h.drew.blk.alloc o).kept hg (fun e => (h.drew.words.alloc o).ne_whole (h.drew.blk.alloc o) (by decide) e.symm)
theorem push_end {B R : Nat} {w w' : World} {st : Int} {V X : Value} {word : List Int} {words : List ByteArray} (h : RS B w R st V X word words) {o : Obj} {g cap : Nat}
    (hown : w'.ownsRow B 9 1 (.slice (some ⟨g, 0, none⟩) (words.length + 1) cap) (words.length + 1) (words.map Value.string ++ [.string (strOfNums word)]))
    (hg : (w.drew.alloc o).grownBy w' X.ownBlock) :
    PushPost B w R word words (.returned (.tuple #[])) (((w'.setCell ⟨R, 2, none⟩ (.slice (some ⟨g, 0, none⟩) (words.length + 1) cap)).setCell ⟨R, 1, none⟩ (.slice none 0 0)).setCell ⟨R, 0, none⟩ (.int .i64 0)) := by
  have hb := h.behind2 hg
  have hl : (words ++ [strOfNums word]).length = words.length + 1 := by simp
  have hxs : w'.ownsRow B 9 1 (.slice (some ⟨g, 0, none⟩) (words.length + 1) cap) (words ++ [strOfNums word]).length ((words ++ [strOfNums word]).map Value.string) := by rw [hl]; simpa using hown
  have hB : Below B w w' := ((Below.refl B w).drew.alloc (by have := h.lo; have := h.blk.lt; simp; omega) o).append (h.words.drew.alloc o) hg (Nat.le_refl _) (by have := h.lo; have := h.blk.lt; simp; omega)
  exact ⟨rfl, ((hB.setCell h.lo _).setCell h.lo _).setCell h.lo _, _,
    h.lo, ((hb.set 2 _).set 1 _).set 0 _, World.ownsRow_nil _ _ _ _, ((hxs.store hb (by decide) 2 _).store (hb.set 2 _) (by decide) 1 _).store ((hb.set 2 _).set 1 _) (by decide) 0 _⟩

set_option maxRecDepth 100000 in
set_option maxHeartbeats 2000000 in
theorem push_any (B R : Nat) (st : Int) (V X : Value) (word : List Int) (words : List ByteArray) (w : World) (h : RS B w R st V X word words) (hl : words.length ≤ 100000) :
    Calls Tryd.prog 23 #[.pointer (some ⟨R, 0, none⟩)] w (PushPost B w R word words) := by
  have hBR := h.lo
  have hRw := h.blk.lt
  have HH := Lib.hid h
  have c0 : w.cell? ⟨R, 0, none⟩ = some (.int .i64 st) := h.blk.cell 0
  have c1 : w.cell? ⟨R, 1, none⟩ = some V := h.blk.cell 1
  have c2 : w.cell? ⟨R, 2, none⟩ = some X := h.blk.cell 2
  have f : ∀ i, w.frozen? ⟨R, i, none⟩ = false := fun i => h.blk.free i
  have hconv : (convert 41 9 V).run Tryd.prog w.drew = .ok (.string (strOfNums word)) w.drew := conv_own h.word.drew
  clear h
  go_enter Tryd.func23, Tryd.ntmps23
  go_wp2
  go_region_law (refine step_append_one _ rfl (.tmp 6) (.tmp 12) _ rfl B 9 (.string ⟨#[]⟩) 16 Tryd.underlying23 info_str rfl X words.length (words.map Value.string) rfl (HH.out.words.drew.alloc _) _ 1 (.string (strOfNums word)) rfl (by simp [go_sem]) rfl (maxLen_ge hl) (by omega) (by simp; omega) ?_
                 intro g cap w2 hown hg hat
                 have d := Lib.hid (HH.out.behind2 hg)
                 have c0' : w2.cell? ⟨R, 0, none⟩ = some (.int .i64 st) := d.out.cell 0
                 have c1' : w2.cell? ⟨R, 1, none⟩ = some V := d.out.cell 1
                 have c2' : w2.cell? ⟨R, 2, none⟩ = some X := d.out.cell 2
                 have f' : ∀ i, w2.frozen? ⟨R, i, none⟩ = false := fun i => d.out.free i
                 have hown := Lib.hid hown
                 have hg := Lib.hid hg
                 clear hat)
  all_goals
    go_wp2
    go_end0
    exact push_end HH.out hown.out hg.out
end Go.Proofs.YtocnbeendjabpaaDoor
