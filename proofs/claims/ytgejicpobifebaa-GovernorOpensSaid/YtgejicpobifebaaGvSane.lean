/- speculatelaw31.sane returns true; made behind New. -/
import Derived.Test.YtgejicpobifebaaGvMade
import Derived.Test.YtgejicpobifebaaMod
namespace Go
theorem World.plus_nil (w : World) : w = w.plus ⟨#[], w.drawn⟩ := by unfold World.plus; simp
theorem World.plus_push (w : World) (g : Growth) (o : Obj) : (w.plus g).alloc o = w.plus ⟨g.blocks.push o, g.drawn⟩ := by
  unfold World.plus World.alloc; simp
@[go_sem] theorem lt_plus11 (a x1 x2 x3 x4 x5 x6 x7 x8 x9 x10 x11 : Nat) : a < a + 1 + x1 + x2 + x3 + x4 + x5 + x6 + x7 + x8 + x9 + x10 + x11 := by omega
@[go_sem] theorem lt_plus12 (a x1 x2 x3 x4 x5 x6 x7 x8 x9 x10 x11 x12 : Nat) : a < a + 1 + x1 + x2 + x3 + x4 + x5 + x6 + x7 + x8 + x9 + x10 + x11 + x12 := by omega
@[go_sem] theorem lt_plus13 (a x1 x2 x3 x4 x5 x6 x7 x8 x9 x10 x11 x12 x13 : Nat) : a < a + 1 + x1 + x2 + x3 + x4 + x5 + x6 + x7 + x8 + x9 + x10 + x11 + x12 + x13 := by omega
@[go_sem] theorem lt_plus14 (a x1 x2 x3 x4 x5 x6 x7 x8 x9 x10 x11 x12 x13 x14 : Nat) : a < a + 1 + x1 + x2 + x3 + x4 + x5 + x6 + x7 + x8 + x9 + x10 + x11 + x12 + x13 + x14 := by omega
@[go_sem] theorem lt_plus15 (a x1 x2 x3 x4 x5 x6 x7 x8 x9 x10 x11 x12 x13 x14 x15 : Nat) : a < a + 1 + x1 + x2 + x3 + x4 + x5 + x6 + x7 + x8 + x9 + x10 + x11 + x12 + x13 + x14 + x15 := by omega
@[go_sem] theorem lt_plus16 (a x1 x2 x3 x4 x5 x6 x7 x8 x9 x10 x11 x12 x13 x14 x15 x16 : Nat) : a < a + 1 + x1 + x2 + x3 + x4 + x5 + x6 + x7 + x8 + x9 + x10 + x11 + x12 + x13 + x14 + x15 + x16 := by omega
@[go_sem] theorem lt_plus17 (a x1 x2 x3 x4 x5 x6 x7 x8 x9 x10 x11 x12 x13 x14 x15 x16 x17 : Nat) : a < a + 1 + x1 + x2 + x3 + x4 + x5 + x6 + x7 + x8 + x9 + x10 + x11 + x12 + x13 + x14 + x15 + x16 + x17 := by omega
@[go_sem] theorem lt_plus18 (a x1 x2 x3 x4 x5 x6 x7 x8 x9 x10 x11 x12 x13 x14 x15 x16 x17 x18 : Nat) : a < a + 1 + x1 + x2 + x3 + x4 + x5 + x6 + x7 + x8 + x9 + x10 + x11 + x12 + x13 + x14 + x15 + x16 + x17 + x18 := by omega
@[go_sem] theorem lt_plus19 (a x1 x2 x3 x4 x5 x6 x7 x8 x9 x10 x11 x12 x13 x14 x15 x16 x17 x18 x19 : Nat) : a < a + 1 + x1 + x2 + x3 + x4 + x5 + x6 + x7 + x8 + x9 + x10 + x11 + x12 + x13 + x14 + x15 + x16 + x17 + x18 + x19 := by omega
@[go_sem] theorem lt_plus20 (a x1 x2 x3 x4 x5 x6 x7 x8 x9 x10 x11 x12 x13 x14 x15 x16 x17 x18 x19 x20 : Nat) : a < a + 1 + x1 + x2 + x3 + x4 + x5 + x6 + x7 + x8 + x9 + x10 + x11 + x12 + x13 + x14 + x15 + x16 + x17 + x18 + x19 + x20 := by omega
@[go_sem] theorem lt_plus21 (a x1 x2 x3 x4 x5 x6 x7 x8 x9 x10 x11 x12 x13 x14 x15 x16 x17 x18 x19 x20 x21 : Nat) : a < a + 1 + x1 + x2 + x3 + x4 + x5 + x6 + x7 + x8 + x9 + x10 + x11 + x12 + x13 + x14 + x15 + x16 + x17 + x18 + x19 + x20 + x21 := by omega
@[go_sem] theorem lt_plus22 (a x1 x2 x3 x4 x5 x6 x7 x8 x9 x10 x11 x12 x13 x14 x15 x16 x17 x18 x19 x20 x21 x22 : Nat) : a < a + 1 + x1 + x2 + x3 + x4 + x5 + x6 + x7 + x8 + x9 + x10 + x11 + x12 + x13 + x14 + x15 + x16 + x17 + x18 + x19 + x20 + x21 + x22 := by omega
@[go_sem] theorem lt_plus23 (a x1 x2 x3 x4 x5 x6 x7 x8 x9 x10 x11 x12 x13 x14 x15 x16 x17 x18 x19 x20 x21 x22 x23 : Nat) : a < a + 1 + x1 + x2 + x3 + x4 + x5 + x6 + x7 + x8 + x9 + x10 + x11 + x12 + x13 + x14 + x15 + x16 + x17 + x18 + x19 + x20 + x21 + x22 + x23 := by omega
@[go_sem] theorem lt_plus24 (a x1 x2 x3 x4 x5 x6 x7 x8 x9 x10 x11 x12 x13 x14 x15 x16 x17 x18 x19 x20 x21 x22 x23 x24 : Nat) : a < a + 1 + x1 + x2 + x3 + x4 + x5 + x6 + x7 + x8 + x9 + x10 + x11 + x12 + x13 + x14 + x15 + x16 + x17 + x18 + x19 + x20 + x21 + x22 + x23 + x24 := by omega
@[go_sem] theorem lt_plus25 (a x1 x2 x3 x4 x5 x6 x7 x8 x9 x10 x11 x12 x13 x14 x15 x16 x17 x18 x19 x20 x21 x22 x23 x24 x25 : Nat) : a < a + 1 + x1 + x2 + x3 + x4 + x5 + x6 + x7 + x8 + x9 + x10 + x11 + x12 + x13 + x14 + x15 + x16 + x17 + x18 + x19 + x20 + x21 + x22 + x23 + x24 + x25 := by omega
@[go_sem] theorem lt_plus26 (a x1 x2 x3 x4 x5 x6 x7 x8 x9 x10 x11 x12 x13 x14 x15 x16 x17 x18 x19 x20 x21 x22 x23 x24 x25 x26 : Nat) : a < a + 1 + x1 + x2 + x3 + x4 + x5 + x6 + x7 + x8 + x9 + x10 + x11 + x12 + x13 + x14 + x15 + x16 + x17 + x18 + x19 + x20 + x21 + x22 + x23 + x24 + x25 + x26 := by omega
/-- The world under a name. -/
theorem Code.wp_name {P : Program} {c : Code} {Q : Exit → Act → World → Prop} {a : Act} {w : World} (h : ∀ W, RowKit.Hid (W = w) → c.wp P Q a W) : c.wp P Q a w := h w (Lib.hid rfl)
theorem Calls.ext_same {P : Program} {f : FuncId} {args : Array Value} {w w1 : World} {v : Value} {F : Growth → Growth} {n : Growth} (hw : w1 = w.plus (F n))
    (h : Calls P f args w1 fun e w' => e = .returned v ∧ w1 = w') : Calls P f args w1 fun e w'' => e = .returned v ∧ ∃ m, w'' = w.plus (F m) :=
  h.mono fun _ _ hh => ⟨hh.1, n, hh.2.symm.trans hw⟩
end Go
namespace Go.Proofs.Ytgejicpobifebaa
open Go.RowKit

theorem made_new (A : Option Addr) (n cap : Nat) (W0 : World) (hn : n ≤ 200) (hs : Seeds W0 W0.heap.size A n) :
    Calls Try.prog 19 #[.pointer (some ⟨W0.heap.size, 0, none⟩)] (W0.alloc (.cells #[.slice A n cap, .int .i64 0] 67)) fun e w' =>
      ∃ (G : Gov) (k' : Nat), e = .returned (.agg G.cs) ∧ MadeGov G 40 ∧ k' ≤ n ∧ Ext (W0.alloc (.cells #[.slice A n cap, .int .i64 k'] 67)) w' := by
  have h := made_any A n cap 0 W0 ⟨#[], (W0.alloc (.cells #[.slice A n cap, .int .i64 0] 67)).drawn⟩ hn (by omega) hs
  have e := World.plus_nil (W0.alloc (.cells #[.slice A n cap, .int .i64 0] 67))
  rw [e]
  exact h

theorem made_at (D : Nat) (A : Option Addr) (n cap : Nat) (W0 : World) (hD : D = W0.heap.size) (hn : n ≤ 200) (hs : Seeds W0 W0.heap.size A n) :
    Calls Try.prog 19 #[.pointer (some ⟨D, 0, none⟩)] (W0.alloc (.cells #[.slice A n cap, .int .i64 0] 67)) fun e w' =>
      ∃ (G : Gov) (k' : Nat), e = .returned (.agg G.cs) ∧ MadeGov G 40 ∧ k' ≤ n ∧ Ext (W0.alloc (.cells #[.slice A n cap, .int .i64 k'] 67)) w' := by
  subst hD
  exact made_new A n cap W0 hn hs

theorem st1 : stepG ⟨2, 0, 0, 0, 0⟩ = (⟨2, 0, 0, 0, 1⟩, 0) := by simp [stepG, mayG, validG, inR]
theorem st2 : stepG ⟨2, 0, 0, 0, 1⟩ = (⟨2, 0, 0, 0, 2⟩, 0) := by simp [stepG, mayG, validG, inR]
theorem st3 : stepG ⟨2, 0, 0, 0, 2⟩ = (gov0, 7) := by simp [stepG, mayG, validG, inR]
theorem st4 : mayG ⟨2, 0, 0, 0, 2⟩ = false := by simp [mayG, validG, inR]
theorem st5 : validG ⟨2, 0, 0, 0, 2⟩ = true := by simp [validG, inR]

set_option maxHeartbeats 1000000 in
theorem gsane_any (w : World) : Calls Try.prog 18 #[] w fun e w' => e = .returned (.bool true) ∧ Ext w w' := by
  go_enter Try.func18, Try.ntmps18
  go_wp2_with fail
  refine (step_any ⟨2, 0, 0, 0, 0⟩ _).mono ?_
  rw [st1]
  rintro en w1 ⟨rfl, g1, rfl⟩
  go_wp2_with fail
  refine (step_any ⟨2, 0, 0, 0, 1⟩ _).mono ?_
  rw [st2]
  rintro en w1 ⟨rfl, g2, rfl⟩
  go_wp2_with fail
  refine (step_any ⟨2, 0, 0, 0, 2⟩ _).mono ?_
  rw [st3]
  rintro en w1 ⟨rfl, g3, rfl⟩
  go_wp2_with fail
  refine (may_any ⟨2, 0, 0, 0, 2⟩ _).mono ?_
  rw [st4]
  rintro en w1 ⟨rfl, g4, rfl⟩
  go_wp2_with fail
  refine (valid_any ⟨2, 0, 0, 0, 2⟩ _).mono ?_
  rw [st5]
  rintro en w1 ⟨rfl, g5, rfl⟩
  go_wp2_with fail
  go_ret
  exact ⟨rfl, by repeat (first | exact Ext.refl _ | refine Ext.plus ?_ _ | refine Ext.alloc ?_ _)⟩

end Go.Proofs.Ytgejicpobifebaa
