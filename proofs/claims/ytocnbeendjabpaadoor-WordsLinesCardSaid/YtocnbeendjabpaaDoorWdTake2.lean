/- The reader of lines: a byte is taken, in the other states. -/
import Derived.Test.YtocnbeendjabpaaDoorWdPush
namespace Go.Proofs.YtocnbeendjabpaaDoor
open Go.RowKit

set_option maxRecDepth 100000 in
set_option maxHeartbeats 1000000 in
theorem take_1 (B R : Nat) (V X : Value) (word : List Int) (words : List ByteArray) (c : Int) (w : World) (h : RS B w R 1 V X word words) (hl : word.length ≤ 100000) (hl2 : words.length ≤ 100000) :
    Calls Tryd.prog 22 #[.pointer (some ⟨R, 0, none⟩), .int .u8 c] w (TakePost B w R (tk 1 word words c)) := by
  have hBR := h.lo
  have hRw := h.blk.lt
  have HH := Lib.hid h
  have c0 : w.cell? ⟨R, 0, none⟩ = some (.int .i64 1) := h.blk.cell 0
  have c1 : w.cell? ⟨R, 1, none⟩ = some V := h.blk.cell 1
  have f : ∀ i, w.frozen? ⟨R, i, none⟩ = false := fun i => h.blk.free i
  clear h
  by_cases hc : c = 32
  · subst hc
    go_enter Tryd.func22, Tryd.ntmps22
    go_wp2_with fail
    refine (push_any B R 1 V X word words w HH.out hl2).mono ?_
    rintro e w1 ⟨rfl, hb1, HX⟩
    have HX := Lib.hid HX
    go_wp2
    go_ret
    exact ⟨rfl, hb1, fun st' word' words' e => by simp only [tk] at e; simp at e; obtain ⟨rfl, rfl, rfl⟩ := e; obtain ⟨X', hX⟩ := HX.out; exact ⟨_, X', hX⟩⟩
  · have hcb : (c == 32) = false := by simpa using hc
    have HC := Lib.hid hc
    have H1 := HH
    clear hc
    go_enter Tryd.func22, Tryd.ntmps22
    go_wp2_with (first
    | (at_builtin
       refine wpList_append_one _ rfl (.tmp 44) (.tmp 46) _ rfl B 5 (.int .u8 0) 1 Tryd.underlying41 info_u8 rfl V word.length (word.map (Value.int .u8)) rfl (H1.out.word.alloc _) _ 1 (.int .u8 c) rfl (by simp [go_sem]) rfl (maxLen_ge hl) (by omega) (by simp; omega) ?_
       intro g cap w2 hown hg hat
       have d := Lib.hid (H1.out.behind hg)
       have c0' : w2.cell? ⟨R, 0, none⟩ = some (.int .i64 1) := d.out.cell 0
       have c1' : w2.cell? ⟨R, 1, none⟩ = some V := d.out.cell 1
       have f' : ∀ i, w2.frozen? ⟨R, i, none⟩ = false := fun i => d.out.free i
       have hown := Lib.hid hown
       have hg := Lib.hid hg
       clear hat)
    | (go_at_call 31; refine (simple_any _ _).mono ?_; rintro e w' ⟨rfl, rfl⟩))
    go_ret
    exact take_end H1.out (Below.refl _ _) hown.out hg.out (by simp [tk, HC.out])

set_option maxRecDepth 100000 in
set_option maxHeartbeats 1000000 in
theorem take_4 (B R : Nat) (V X : Value) (word : List Int) (words : List ByteArray) (c : Int) (w : World) (h : RS B w R 4 V X word words) (hl : word.length ≤ 100000) (hl2 : words.length ≤ 100000) :
    Calls Tryd.prog 22 #[.pointer (some ⟨R, 0, none⟩), .int .u8 c] w (TakePost B w R (tk 4 word words c)) := by
  have hBR := h.lo
  have hRw := h.blk.lt
  have HH := Lib.hid h
  have c0 : w.cell? ⟨R, 0, none⟩ = some (.int .i64 4) := h.blk.cell 0
  have c1 : w.cell? ⟨R, 1, none⟩ = some V := h.blk.cell 1
  have f : ∀ i, w.frozen? ⟨R, i, none⟩ = false := fun i => h.blk.free i
  clear h
  by_cases hc : c = 32
  · subst hc
    go_enter Tryd.func22, Tryd.ntmps22
    go_wp2_with fail
    refine (push_any B R 4 V X word words w HH.out hl2).mono ?_
    rintro e w1 ⟨rfl, hb1, HX⟩
    have HX := Lib.hid HX
    go_wp2
    go_ret
    exact ⟨rfl, hb1, fun st' word' words' e => by simp only [tk] at e; simp at e; obtain ⟨rfl, rfl, rfl⟩ := e; obtain ⟨X', hX⟩ := HX.out; exact ⟨_, X', hX⟩⟩
  · have hcb : (c == 32) = false := by simpa using hc
    have HC := Lib.hid hc
    have H1 := HH
    clear hc
    go_enter Tryd.func22, Tryd.ntmps22
    go_wp2_with (first
    | (at_builtin
       refine wpList_append_one _ rfl (.tmp 44) (.tmp 46) _ rfl B 5 (.int .u8 0) 1 Tryd.underlying41 info_u8 rfl V word.length (word.map (Value.int .u8)) rfl (H1.out.word.alloc _) _ 1 (.int .u8 c) rfl (by simp [go_sem]) rfl (maxLen_ge hl) (by omega) (by simp; omega) ?_
       intro g cap w2 hown hg hat
       have d := Lib.hid (H1.out.behind hg)
       have c0' : w2.cell? ⟨R, 0, none⟩ = some (.int .i64 4) := d.out.cell 0
       have c1' : w2.cell? ⟨R, 1, none⟩ = some V := d.out.cell 1
       have f' : ∀ i, w2.frozen? ⟨R, i, none⟩ = false := fun i => d.out.free i
       have hown := Lib.hid hown
       have hg := Lib.hid hg
       clear hat))
    go_ret
    exact take_end H1.out (Below.refl _ _) hown.out hg.out (by simp [tk, HC.out])

set_option maxRecDepth 100000 in
set_option maxHeartbeats 1000000 in
theorem take_2 (B R : Nat) (V X : Value) (word : List Int) (words : List ByteArray) (c : Int) (w : World) (h : RS B w R 2 V X word words) (hl : word.length ≤ 100000) (_hl2 : words.length ≤ 100000) :
    Calls Tryd.prog 22 #[.pointer (some ⟨R, 0, none⟩), .int .u8 c] w (TakePost B w R (tk 2 word words c)) := by
  have hBR := h.lo
  have hRw := h.blk.lt
  have HH := Lib.hid h
  have c0 : w.cell? ⟨R, 0, none⟩ = some (.int .i64 2) := h.blk.cell 0
  have c1 : w.cell? ⟨R, 1, none⟩ = some V := h.blk.cell 1
  have f : ∀ i, w.frozen? ⟨R, i, none⟩ = false := fun i => h.blk.free i
  clear h
  by_cases hc : c = 34
  · subst hc
    go_enter Tryd.func22, Tryd.ntmps22
    go_wp2
    go_ret
    exact ⟨rfl, (Below.refl _ _).setCell hBR _, fun st' word' words' e => by simp only [tk] at e; simp at e; obtain ⟨rfl, rfl, rfl⟩ := e; exact ⟨V, X, HH.out.set0 4⟩⟩
  have hcb34 : (c == 34) = false := by simpa using hc
  have HC34 := Lib.hid hc
  clear hc
  by_cases hc : c = 92
  · subst hc
    go_enter Tryd.func22, Tryd.ntmps22
    go_wp2
    go_ret
    exact ⟨rfl, (Below.refl _ _).setCell hBR _, fun st' word' words' e => by simp only [tk] at e; simp at e; obtain ⟨rfl, rfl, rfl⟩ := e; exact ⟨V, X, HH.out.set0 3⟩⟩
  have hcb92 : (c == 92) = false := by simpa using hc
  have HC92 := Lib.hid hc
  clear hc
  by_cases hc : c = 10
  · subst hc
    go_enter Tryd.func22, Tryd.ntmps22
    go_wp2
    go_ret
    exact ⟨rfl, Below.refl _ _, fun st' word' words' e => by simp [tk] at e⟩
  have hcb10 : (c == 10) = false := by simpa using hc
  have HC10 := Lib.hid hc
  clear hc
  by_cases hc : c = 13
  · subst hc
    go_enter Tryd.func22, Tryd.ntmps22
    go_wp2
    go_ret
    exact ⟨rfl, Below.refl _ _, fun st' word' words' e => by simp [tk] at e⟩
  have hcb13 : (c == 13) = false := by simpa using hc
  have HC13 := Lib.hid hc
  clear hc
  have H1 := HH
  go_enter Tryd.func22, Tryd.ntmps22
  go_wp2_with (first
    | (at_builtin
       refine wpList_append_one _ rfl (.tmp 66) (.tmp 68) _ rfl B 5 (.int .u8 0) 1 Tryd.underlying41 info_u8 rfl V word.length (word.map (Value.int .u8)) rfl (H1.out.word.alloc _) _ 1 (.int .u8 c) rfl (by simp [go_sem]) rfl (maxLen_ge hl) (by omega) (by simp; omega) ?_
       intro g cap w2 hown hg hat
       have d := Lib.hid (H1.out.behind hg)
       have c0' : w2.cell? ⟨R, 0, none⟩ = some (.int .i64 2) := d.out.cell 0
       have c1' : w2.cell? ⟨R, 1, none⟩ = some V := d.out.cell 1
       have f' : ∀ i, w2.frozen? ⟨R, i, none⟩ = false := fun i => d.out.free i
       have hown := Lib.hid hown
       have hg := Lib.hid hg
       clear hat))
  go_ret
  exact take_end (b := true) H1.out (Below.refl _ _) hown.out hg.out (by simp [tk, HC34.out, HC92.out, HC10.out, HC13.out])

set_option maxRecDepth 100000 in
set_option maxHeartbeats 1000000 in
theorem take_3 (B R : Nat) (V X : Value) (word : List Int) (words : List ByteArray) (c : Int) (w : World) (h : RS B w R 3 V X word words) (hl : word.length ≤ 100000) (_hl2 : words.length ≤ 100000) :
    Calls Tryd.prog 22 #[.pointer (some ⟨R, 0, none⟩), .int .u8 c] w (TakePost B w R (tk 3 word words c)) := by
  have hBR := h.lo
  have hRw := h.blk.lt
  have HH := Lib.hid h
  have c0 : w.cell? ⟨R, 0, none⟩ = some (.int .i64 3) := h.blk.cell 0
  have c1 : w.cell? ⟨R, 1, none⟩ = some V := h.blk.cell 1
  have f : ∀ i, w.frozen? ⟨R, i, none⟩ = false := fun i => h.blk.free i
  clear h
  have H1 := Lib.hid (HH.out.set0 2)
  go_enter Tryd.func22, Tryd.ntmps22
  go_wp2_with (first
    | (at_builtin
       refine wpList_append_one _ rfl (.tmp 97) (.tmp 99) _ rfl B 5 (.int .u8 0) 1 Tryd.underlying41 info_u8 rfl V word.length (word.map (Value.int .u8)) rfl (H1.out.word.alloc _) _ 1 (.int .u8 (meanV c)) rfl (by simp [go_sem]) rfl (maxLen_ge hl) (by omega) (by simp; omega) ?_
       intro g cap w2 hown hg hat
       have d := Lib.hid (H1.out.behind hg)
       have c0' : w2.cell? ⟨R, 0, none⟩ = some (.int .i64 2) := d.out.cell 0
       have c1' : w2.cell? ⟨R, 1, none⟩ = some V := d.out.cell 1
       have f' : ∀ i, w2.frozen? ⟨R, i, none⟩ = false := fun i => d.out.free i
       have hown := Lib.hid hown
       have hg := Lib.hid hg
       clear hat)
    | (go_at_call 32; refine (meaning_any _ _).mono ?_; rintro e w' ⟨rfl, rfl⟩))
  go_ret
  exact take_end H1.out ((Below.refl _ _).setCell hBR _) hown.out hg.out (by simp [tk])

theorem take_any (B R : Nat) (st : Int) (V X : Value) (word : List Int) (words : List ByteArray) (c : Int) (w : World) (h : RS B w R st V X word words) (hs : st = 0 ∨ st = 1 ∨ st = 2 ∨ st = 3 ∨ st = 4) (hl : word.length ≤ 100000) (hl2 : words.length ≤ 100000) :
    Calls Tryd.prog 22 #[.pointer (some ⟨R, 0, none⟩), .int .u8 c] w (TakePost B w R (tk st word words c)) := by
  rcases hs with rfl | rfl | rfl | rfl | rfl
  · exact take_0 B R V X word words c w h hl
  · exact take_1 B R V X word words c w h hl hl2
  · exact take_2 B R V X word words c w h hl hl2
  · exact take_3 B R V X word words c w h hl hl2
  · exact take_4 B R V X word words c w h hl hl2
end Go.Proofs.YtocnbeendjabpaaDoor
