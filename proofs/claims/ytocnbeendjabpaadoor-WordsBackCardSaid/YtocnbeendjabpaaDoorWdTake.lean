/- The reader of lines: a byte is taken. -/
import Derived.Test.YtocnbeendjabpaaDoorWdA
import Derived.Deep.RegionLaw
import Derived.Laws.BytesArg
namespace Go.Proofs.YtocnbeendjabpaaDoor
open Go.RowKit

theorem info_u8 : (Tryd.prog.info? 5).map (fun i => (i.zero, i.size, i.bytes)) = some (some (.int .u8 0), 1, 1) := by kernel_rfl
theorem info_str : (Tryd.prog.info? 9).map (fun i => (i.zero, i.size, i.bytes)) = some (some (.string ⟨#[]⟩), 1, 16) := by kernel_rfl

/-- The reader at block R: its state, the word under way, the words that are done. -/
structure RS (B : Nat) (w : World) (R : Nat) (st : Int) (V X : Value) (word : List Int) (words : List ByteArray) : Prop where
  lo : B ≤ R
  blk : Whole w R 43 #[.int .i64 st, V, X]
  word : w.ownsRow B 5 1 V word.length (word.map (Value.int .u8))
  words : w.ownsRow B 9 1 X words.length (words.map Value.string)

/-- what a byte makes of it; none: the line is wrong -/
def tk (st : Int) (word : List Int) (words : List ByteArray) (c : Int) : Option (Int × List Int × List ByteArray) :=
  if st = 0 then (if c = 34 then some (2, word, words) else if simpB c then some (1, word ++ [c], words) else none)
  else if st = 1 then (if c = 32 then some (0, [], words ++ [strOfNums word]) else if simpB c then some (1, word ++ [c], words) else none)
  else if st = 4 then (if c = 32 then some (0, [], words ++ [strOfNums word]) else none)
  else if st = 2 then (if c = 34 then some (4, word, words) else if c = 92 then some (3, word, words) else if c = 10 ∨ c = 13 then none else some (2, word ++ [c], words))
  else if meanB c then some (2, word ++ [meanV c], words) else none

def TakePost (B : Nat) (w : World) (R : Nat) (r : Option (Int × List Int × List ByteArray)) (e : Ending) (w' : World) : Prop :=
  e = .returned (.bool r.isSome) ∧ Below B w w' ∧ ∀ st word words, r = some (st, word, words) → ∃ V X, RS B w' R st V X word words

section
variable {B R : Nat} {w w' : World} {st : Int} {V X : Value} {word : List Int} {words : List ByteArray}
theorem RS.set0 (h : RS B w R st V X word words) (k : Int) : RS B (w.setCell ⟨R, 0, none⟩ (.int .i64 k)) R k V X word words :=
  ⟨h.lo, h.blk.set 0 _, h.word.store h.blk (by decide) 0 _, h.words.store h.blk (by decide) 0 _⟩
/-- behind an append to the word, its cell not yet stored -/
theorem RS.app (h : RS B w R st V X word words) {o : Obj} {g cap : Nat} {x : List Int} (hown : w'.ownsRow B 5 1 (.slice (some ⟨g, 0, none⟩) x.length cap) x.length (x.map (Value.int .u8)))
    (hg : (w.alloc o).grownBy w' V.ownBlock) : RS B (w'.setCell ⟨R, 1, none⟩ (.slice (some ⟨g, 0, none⟩) x.length cap)) R st (.slice (some ⟨g, 0, none⟩) x.length cap) X x words := by
  have hb : Whole w' R 43 #[.int .i64 st, V, X] := (h.blk.alloc o).kept hg (fun e => (h.word.alloc o).ne_whole (h.blk.alloc o) (by decide) e.symm)
  have hx : w'.ownsRow B 9 1 X words.length (words.map Value.string) := (h.words.alloc o).kept hg ((h.words.alloc o).ne_row (h.word.alloc o) (by decide))
  exact ⟨h.lo, hb.set 1 _, hown.store hb (by decide) 1 _, hx.store hb (by decide) 1 _⟩
theorem RS.behind (h : RS B w R st V X word words) {o : Obj} (hg : (w.alloc o).grownBy w' V.ownBlock) : Whole w' R 43 #[.int .i64 st, V, X] :=
  (h.blk.alloc o).kept hg (fun e => (h.word.alloc o).ne_whole (h.blk.alloc o) (by decide) e.symm)
theorem RS.far (h : RS B w R st V X word words) {o : Obj} (hg : (w.alloc o).grownBy w' V.ownBlock) : Below B w w' :=
  (((Below.refl _ _).alloc (Nat.le_of_lt (Nat.lt_of_le_of_lt h.lo h.blk.lt)) o)).append (h.word.alloc o) hg (Nat.le_refl _) (by have := h.lo; have := h.blk.lt; simp; omega)
end

/-- the way's end: the word has grown by x, and the answer is b -/
theorem take_end {B R : Nat} {w w1 w' : World} {st : Int} {V X : Value} {word : List Int} {words : List ByteArray} {b : Bool} {r : Option (Int × List Int × List ByteArray)} {o : Obj} {g cap : Nat} {x : Int}
    (h : RS B w1 R st V X word words) (hw : Below B w w1)
    (hown : w'.ownsRow B 5 1 (.slice (some ⟨g, 0, none⟩) (word.length + 1) cap) (word.length + 1) (word.map (Value.int .u8) ++ [.int .u8 x]))
    (hg : (w1.alloc o).grownBy w' V.ownBlock) (hr : r = if b then some (st, word ++ [x], words) else none) :
    TakePost B w R r (.returned (.bool b)) (w'.setCell ⟨R, 1, none⟩ (.slice (some ⟨g, 0, none⟩) (word.length + 1) cap)) := by
  subst hr
  refine ⟨by cases b <;> rfl, (hw.trans (h.far hg)).setCell h.lo _, fun st' word' words' e => ?_⟩
  cases b
  · simp at e
  · simp at e
    obtain ⟨rfl, rfl, rfl⟩ := e
    have hl : (word ++ [x]).length = word.length + 1 := by simp
    have := RS.app h (x := word ++ [x]) (o := o) (g := g) (cap := cap) (by rw [hl]; simpa using hown) hg
    rw [hl] at this
    exact ⟨_, _, this⟩

theorem maxLen_ge {n : Nat} (h : n ≤ 100000) : n + 1 ≤ maxLen := by unfold maxLen; omega

set_option maxRecDepth 100000 in
set_option maxHeartbeats 1000000 in
theorem take_0 (B R : Nat) (V X : Value) (word : List Int) (words : List ByteArray) (c : Int) (w : World) (h : RS B w R 0 V X word words) (hl : word.length ≤ 100000) :
    Calls Tryd.prog 22 #[.pointer (some ⟨R, 0, none⟩), .int .u8 c] w (TakePost B w R (tk 0 word words c)) := by
  have hBR := h.lo
  have hRw := h.blk.lt
  have HH := Lib.hid h
  have c0 : w.cell? ⟨R, 0, none⟩ = some (.int .i64 0) := h.blk.cell 0
  have c1 : w.cell? ⟨R, 1, none⟩ = some V := h.blk.cell 1
  have f : ∀ i, w.frozen? ⟨R, i, none⟩ = false := fun i => h.blk.free i
  clear h
  by_cases hc : c = 34
  · subst hc
    go_enter Tryd.func22, Tryd.ntmps22
    go_wp2
    go_ret
    exact ⟨rfl, (Below.refl _ _).setCell hBR _, fun st' word' words' e => by simp only [tk] at e; simp at e; obtain ⟨rfl, rfl, rfl⟩ := e; exact ⟨V, X, HH.out.set0 2⟩⟩
  · have hcb : (c == 34) = false := by simpa using hc
    have HC := Lib.hid hc
    have H1 := Lib.hid (HH.out.set0 1)
    clear hc
    go_enter Tryd.func22, Tryd.ntmps22
    go_wp2_with (first
    | (at_builtin
       refine wpList_append_one _ rfl (.tmp 25) (.tmp 27) _ rfl B 5 (.int .u8 0) 1 Tryd.underlying41 info_u8 rfl V word.length (word.map (Value.int .u8)) rfl (H1.out.word.alloc _) _ 1 (.int .u8 c) rfl (by simp [go_sem]) rfl (maxLen_ge hl) (by omega) (by simp; omega) ?_
       intro g cap w2 hown hg hat
       have d := Lib.hid (H1.out.behind hg)
       have c0' : w2.cell? ⟨R, 0, none⟩ = some (.int .i64 1) := d.out.cell 0
       have c1' : w2.cell? ⟨R, 1, none⟩ = some V := d.out.cell 1
       have f' : ∀ i, w2.frozen? ⟨R, i, none⟩ = false := fun i => d.out.free i
       have hown := Lib.hid hown
       have hg := Lib.hid hg
       clear hat)
    | (go_at_call 31; refine (simple_any _ _).mono ?_; rintro e w' ⟨rfl, rfl⟩))
    go_ret
    exact take_end H1.out ((Below.refl _ _).setCell hBR _) hown.out hg.out (by simp [tk, HC.out])
end Go.Proofs.YtocnbeendjabpaaDoor
