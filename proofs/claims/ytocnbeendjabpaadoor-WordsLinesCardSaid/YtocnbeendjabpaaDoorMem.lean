/- Rows of the call's own beside a block of the call's own: what a store, a new block and an append leave of them. -/
import Derived.Test.YtocnbeendjabpaaDoorKit
import Derived.OwnWalk
import Derived.Deep.AppendLies
import Derived.Deep.AppendSrc
import Derived.Maps.AppendAt
import Derived.Laws.OwnMore
namespace Go
open Go.RowKit

section
variable {w w' : World} {base B R : Nat} {e t : TypeId} {size n : Nat} {v : Value} {xs : List Value} {cs : Array Value}

/-- block R holds just the cells cs, none of them frozen -/
def Whole (w : World) (R : Nat) (t : TypeId) (cs : Array Value) : Prop := w.heap[R]? = some (.cells cs t (0, 0))
theorem Whole.lt (h : Whole w R t cs) : R < w.heap.size := (Array.getElem?_eq_some_iff.1 h).1
theorem Whole.cell (h : Whole w R t cs) (i : Nat) : w.cell? ⟨R, i, none⟩ = cs[i]? := cell_of_row w R i cs t (0, 0) h
theorem Whole.free (h : Whole w R t cs) (i : Nat) : w.frozen? ⟨R, i, none⟩ = false := by
  unfold Whole at h
  simp [World.frozen?, h]
theorem Whole.kept (h : Whole w R t cs) {row : Option Nat} (hg : w.grownBy w' row) (hne : some R ≠ row) : Whole w' R t cs := (hg.block R h.lt hne).trans h
theorem Whole.below (h : Whole w R t cs) (hb : Below B w w') (hR : R < B) : Whole w' R t cs := (hb.block R hR).trans h
theorem Whole.alloc (h : Whole w R t cs) (o : Obj) : Whole (w.alloc o) R t cs := (Below.heap_alloc w o R h.lt).trans h
theorem Whole.new (w : World) (cs : Array Value) : Whole (w.alloc (.cells cs t)) w.heap.size t cs := heap_alloc_new w _
theorem Whole.set (h : Whole w R t cs) (i : Nat) (u : Value) : Whole (w.setCell ⟨R, i, none⟩ u) R t (cs.setIfInBounds i u) := by
  unfold Whole at h ⊢
  simp [World.setCell, Array.getElem?_modify, h]
theorem Whole.far (h : Whole w R t cs) {p : Addr} (hp : R ≠ p.block) (u : Value) : Whole (w.setCell p u) R t cs := (Below.heap_setCell w p u R hp).trans h

theorem grownBy_store (w : World) (p : Addr) (u : Value) : w.grownBy (w.setCell p u) (some p.block) :=
  ⟨rfl, rfl, rfl, by simp, fun k _ hk => Below.heap_setCell w p u k (fun h => hk (by rw [h]))⟩
theorem grownBy_row {row : Option Nat} (h : w.grownBy w' none) : w.grownBy w' row := ⟨h.os, h.tape, h.output, h.size, fun k hk _ => h.block k hk (by simp)⟩
theorem grownBy_of_below (h : Below w.heap.size w w') : w.grownBy w' none := ⟨h.os, h.tape, h.output, h.size, fun k hk _ => h.block k hk⟩

/-- a row of one element type and a block of another never meet -/
theorem World.ownsRow.ne_whole (h : w.ownsRow base e size v n xs) (hR : Whole w R t cs) (hne : e ≠ t) : v.ownBlock ≠ some R := by
  rcases h.2 with ⟨rfl, _⟩ | ⟨g, cap, cur, rfl, _, hh, _⟩
  · simp [Value.ownBlock]
  · intro he
    obtain rfl : g = R := by simpa [Value.ownBlock] using he
    unfold Whole at hR
    rw [hR] at hh
    injection hh with hh
    injection hh with _ ht
    exact hne ht.symm
/-- two rows of different element types never meet -/
theorem World.ownsRow.ne_row {base' size' n' : Nat} {e' : TypeId} {v' : Value} {xs' : List Value} (h : w.ownsRow base e size v n xs) (h' : w.ownsRow base' e' size' v' n' xs') (hne : e ≠ e') : v.ownBlock = none ∨ v.ownBlock ≠ v'.ownBlock := by
  rcases h'.2 with ⟨rfl, _⟩ | ⟨g, cap, cur, rfl, _, hh, _⟩
  · by_cases hv : v.ownBlock = none
    · exact .inl hv
    · exact .inr (by simpa [Value.ownBlock] using hv)
  · exact .inr (h.ne_whole (R := g) (t := e') (cs := cur) hh hne)

theorem World.ownsRow.store (h : w.ownsRow base e size v n xs) (hR : Whole w R t cs) (hne : e ≠ t) (i : Nat) (u : Value) : (w.setCell ⟨R, i, none⟩ u).ownsRow base e size v n xs :=
  h.kept (grownBy_store w ⟨R, i, none⟩ u) (.inr (h.ne_whole hR hne))
theorem World.ownsRow.below {N : Nat} (h : w.ownsRow base e size v n xs) (hb : Below N w w') (hN : w.heap.size ≤ N) : w'.ownsRow base e size v n xs :=
  h.kept (row := none) (grownBy_of_below (hb.mono hN)) (by by_cases hv : v.ownBlock = none <;> simp [hv])
theorem World.ownsRow.more (h : w.ownsRow base e size v n xs) {base' : Nat} (hb : base' ≤ base) : w.ownsRow base' e size v n xs := by
  refine ⟨h.1, ?_⟩
  rcases h.2 with hn | ⟨g, cap, cur, hv, hg, rest⟩
  · exact .inl hn
  · exact .inr ⟨g, cap, cur, hv, by omega, rest⟩

theorem RowKit.Below.append (h : Below B w w') {w'' : World} (hown : w'.ownsRow base e size v n xs) (hg : w'.grownBy w'' v.ownBlock) (hB : B ≤ base) (hBw : B ≤ w'.heap.size) : Below B w w'' :=
  h.grown hg hBw fun k hk => by have := hown.lt k hk; omega
end

section
variable {P : Program} (w : World)
/-- append(xs, x) onto a row of the call's own, at cells of one place each; its block behind it. -/
theorem wpList_append_one {ops : Array Oper} {rest : List Oper} {o : Oper} {a : Act} {Q : Exit → Act → World → Prop} (hgd : o.guard = none) (s x : Operand) (t : TypeId)
    (ho : o.op = .call { callee := .builtin .append, args := #[s, x], argTypes := #[t, t] })
    (base : Nat) (e : TypeId) (z : Value) (bytes : Nat) (ht : P.underlying t = some (.slice e)) (hi : (P.info? e).map (fun i => (i.zero, i.size, i.bytes)) = some (some z, 1, bytes)) (hzs : z.cells.size = 1)
    (v : Value) (n : Nat) (xs : List Value) (hs : a.eval s = v) (hown : w.ownsRow base e 1 v n xs)
    (D : Nat) (c : Nat) (u : Value) (hx : a.eval x = .slice (some ⟨D, 0, none⟩) 1 c) (hD : w.cell? ⟨D, 0, none⟩ = some u) (h1 : u.oneCell' = true)
    (h63 : n + 1 ≤ maxLen) (hbytes : (n + 1) * bytes ≤ 140737488355328) (hbase : base ≤ w.heap.size)
    (h : ∀ g cap w', w'.ownsRow base e 1 (.slice (some ⟨g, 0, none⟩) (n + 1) cap) (n + 1) (xs ++ [u]) → w.grownBy w' v.ownBlock → (v.ownBlock = some g ∨ g = w.heap.size) → wpList P ops Q rest (a.put o.dst (.slice (some ⟨g, 0, none⟩) (n + 1) cap)) w') : wpList P ops Q (o :: rest) a w := by
  obtain ⟨i0, hi0, hz0, hz1, hz2⟩ := info_parts hi
  refine wpList_append_lies w hgd s x t ho base e i0 z 1 bytes ht hi0 hz0 hz1 hz2 hzs (by decide) v n xs hs hown ⟨D, 0, none⟩ 1 c [u] hx rfl ?_ ?_ (by decide) h63 hbytes hbase _ rfl ?_
  · intro j u' hj
    match j, hj with
    | 0, hj => simp at hj; subst hj; exact hD
  · intro u' hu
    simp at hu; subst hu; exact h1
  · intro g cap w' h1 h2 h3 _
    exact h g cap w' h1 h2 h3
/-- .. at a step of a region that draws its order. -/
theorem step_append_one {ops : Array Oper} {o : Oper} {a : Act} {K : Act → World → Prop} {Q : Exit → Act → World → Prop} {E : Prop} (hgd : o.guard = none) (s x : Operand) (t : TypeId)
    (ho : o.op = .call { callee := .builtin .append, args := #[s, x], argTypes := #[t, t] })
    (base : Nat) (e : TypeId) (z : Value) (bytes : Nat) (ht : P.underlying t = some (.slice e)) (hi : (P.info? e).map (fun i => (i.zero, i.size, i.bytes)) = some (some z, 1, bytes)) (hzs : z.cells.size = 1)
    (v : Value) (n : Nat) (xs : List Value) (hs : a.eval s = v) (hown : w.ownsRow base e 1 v n xs)
    (D : Nat) (c : Nat) (u : Value) (hx : a.eval x = .slice (some ⟨D, 0, none⟩) 1 c) (hD : w.cell? ⟨D, 0, none⟩ = some u) (h1 : u.oneCell' = true)
    (h63 : n + 1 ≤ maxLen) (hbytes : (n + 1) * bytes ≤ 140737488355328) (hbase : base ≤ w.heap.size)
    (h : ∀ g cap w', w'.ownsRow base e 1 (.slice (some ⟨g, 0, none⟩) (n + 1) cap) (n + 1) (xs ++ [u]) → w.grownBy w' v.ownBlock → (v.ownBlock = some g ∨ g = w.heap.size) → K (a.put o.dst (.slice (some ⟨g, 0, none⟩) (n + 1) cap)) w') :
    if Region.wanted o (yielded ops a.tmps) = true then Oper.wp P o a w K Q else E := by
  obtain ⟨i0, hi0, hz0, hz1, hz2⟩ := info_parts hi
  refine step_append_lies w hgd s x t ho base e i0 z 1 bytes ht hi0 hz0 hz1 hz2 hzs (by decide) v n xs hs hown ⟨D, 0, none⟩ 1 c [u] hx rfl ?_ ?_ (by decide) h63 hbytes hbase _ rfl ?_
  · intro j u' hj
    match j, hj with
    | 0, hj => simp at hj; subst hj; exact hD
  · intro u' hu
    simp at hu; subst hu; exact h1
  · intro g cap w' h1 h2 h3 _
    exact h g cap w' h1 h2 h3
/-- append(xs, x, y) onto a row of the call's own, at cells of one place each; their block behind it. -/
theorem wpList_append_two {ops : Array Oper} {rest : List Oper} {o : Oper} {a : Act} {Q : Exit → Act → World → Prop} (hgd : o.guard = none) (s x : Operand) (t : TypeId)
    (ho : o.op = .call { callee := .builtin .append, args := #[s, x], argTypes := #[t, t] })
    (base : Nat) (e : TypeId) (z : Value) (bytes : Nat) (ht : P.underlying t = some (.slice e)) (hi : (P.info? e).map (fun i => (i.zero, i.size, i.bytes)) = some (some z, 1, bytes)) (hzs : z.cells.size = 1)
    (v : Value) (n : Nat) (xs : List Value) (hs : a.eval s = v) (hown : w.ownsRow base e 1 v n xs)
    (D : Nat) (c : Nat) (u1 u2 : Value) (hx : a.eval x = .slice (some ⟨D, 0, none⟩) 2 c) (hD1 : w.cell? ⟨D, 0, none⟩ = some u1) (hD2 : w.cell? ⟨D, 1, none⟩ = some u2) (h1 : u1.oneCell' = true) (h2 : u2.oneCell' = true)
    (h63 : n + 2 ≤ maxLen) (hbytes : (n + 2) * bytes ≤ 140737488355328) (hbase : base ≤ w.heap.size)
    (h : ∀ g cap w', w'.ownsRow base e 1 (.slice (some ⟨g, 0, none⟩) (n + 2) cap) (n + 2) (xs ++ [u1, u2]) → w.grownBy w' v.ownBlock → (v.ownBlock = some g ∨ g = w.heap.size) → wpList P ops Q rest (a.put o.dst (.slice (some ⟨g, 0, none⟩) (n + 2) cap)) w') : wpList P ops Q (o :: rest) a w := by
  obtain ⟨i0, hi0, hz0, hz1, hz2⟩ := info_parts hi
  refine wpList_append_lies w hgd s x t ho base e i0 z 1 bytes ht hi0 hz0 hz1 hz2 hzs (by decide) v n xs hs hown ⟨D, 0, none⟩ 2 c [u1, u2] hx rfl ?_ ?_ (by decide) h63 hbytes hbase _ rfl ?_
  · intro j u' hj
    match j, hj with
    | 0, hj => simp at hj; subst hj; exact hD1
    | 1, hj => simp at hj; subst hj; exact hD2
  · intro u' hu
    simp at hu
    rcases hu with rfl | rfl
    · exact h1
    · exact h2
  · intro g cap w' h1 h2 h3 _
    exact h g cap w' h1 h2 h3
end
end Go
