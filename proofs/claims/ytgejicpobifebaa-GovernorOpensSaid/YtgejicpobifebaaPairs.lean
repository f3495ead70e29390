/- An argument that is a slice of arrays of two integers. -/
import Derived.Test.YtgejicpobifebaaKit
import Derived.Deep.Slices
namespace Go
open Go.RowKit Go.WideShapes Go.ChangeShapes Go.Deep

/-- The slice value v holds n pairs of integers of kind k, X i and Y i. -/
def PairsAt (k : IntKind) (w : World) (A : Option Addr) (n : Nat) (X Y : Nat → Int) : Prop :=
  0 < n → ∃ b off, A = some ⟨b, off, none⟩ ∧ b < w.heap.size ∧ ∀ i, i < n →
    w.cell? ⟨b, off + i * 2, none⟩ = some (.int k (X i)) ∧ w.cell? ⟨b, off + i * 2 + 1, none⟩ = some (.int k (Y i)) ∧ (Lit.int k (X i)).wf = true ∧ (Lit.int k (Y i)).wf = true

theorem cell?_spot {w : World} {a : Addr} {v : Value} (h : w.cell? a = some v) : a.spot = none ∧ a.block < w.heap.size := by
  unfold World.cell? at h
  split at h
  · rename_i hh
    refine ⟨?_, (Array.getElem?_eq_some_iff.1 hh).1⟩
    cases hs : a.spot with
    | none => rfl
    | some s => simp [hs] at h
  · cases h

theorem addr_add (b off i : Nat) : (⟨b, off, none⟩ : Addr).add i = ⟨b, off + i, none⟩ := by
  simp only [Addr.add]
  split
  · rename_i h; subst h; rfl
  · rfl

theorem open_pairs {H : Type} {enc : TypeId × Value → H} {P : Program} {w : World} {t e u : TypeId} {k : IntKind} {v : Value} {d : DataW H} {p : List MemPlace} {base : Nat} {spare : Nat → Bool} {held : Bool}
    (ht : P.underlying t = some (.slice e)) (he : P.underlying e = some (.array 2 u)) (hu : P.underlying u = some (.int k)) (hce : P.cellsOf e = 2) (hcu : P.cellsOf u = 1)
    {r : Reach} {b0 : Nat} (hv : Value.okWide P w r b0 t v) (h : DataW.Trod enc P w base spare held t v d p) :
    ∃ (A : Option Addr) (n cap : Nat) (X Y : Nat → Int), v = .slice A n cap ∧ n ≤ 9223372036854775807 ∧ PairsAt k w A n X Y := by
  obtain ⟨A, n, cap, rfl⟩ := okWide_slice ht hv
  obtain ⟨fuel, hf⟩ := h
  rcases open_slice ht hf with ⟨hcs, _⟩ | ⟨a, len, cap', m, n', D, Pl, hcs, _, hl, hm, hmm, _, hi⟩
  · simp [Value.cells] at hcs
    obtain ⟨rfl, rfl, rfl⟩ := hcs
    exact ⟨none, 0, 0, fun _ => 0, fun _ => 0, rfl, by omega, fun h => absurd h (by omega)⟩
  · simp [Value.cells] at hcs
    obtain ⟨rfl, rfl, rfl⟩ := hcs
    have hlm : n ≤ m := by rw [hmm]; split <;> omega
    have key : ∀ i, i < n → ∃ x y : Int, w.cell? (a.add (i * 2)) = some (.int k x) ∧ w.cell? (a.add (i * 2 + 1)) = some (.int k y) ∧ (Lit.int k x).wf = true ∧ (Lit.int k y).wf = true := by
      intro i hin
      obtain ⟨cs', hc, ht'⟩ := hi i (by omega)
      rw [hce] at hc
      obtain ⟨_, hlen, hat⟩ := World.cells?_some hc
      obtain ⟨xs, m', _, _, _, hxl, hg⟩ := DataW.trod_array he ht'
      match cs', hlen with
      | [c0, c1], _ =>
        have g0 := hg 0 (by omega)
        have g1 := hg 1 (by omega)
        rw [hcu] at g0 g1
        match xs, hxl with
        | [y0, y1], _ =>
          simp at g0 g1
          obtain ⟨x, e0, _, wx⟩ := DataW.trod_int hu g0
          obtain ⟨y, e1, _, wy⟩ := DataW.trod_int hu g1
          simp at e0 e1
          subst e0 e1
          have h0 := hat 0 (by omega)
          have h1 := hat 1 (by omega)
          rw [Go.Deep.add_add] at h0 h1
          exact ⟨x, y, by simpa using h0, by simpa using h1, wx, wy⟩
    have key' : ∀ i, ∃ xy : Int × Int, i < n → w.cell? (a.add (i * 2)) = some (.int k xy.1) ∧ w.cell? (a.add (i * 2 + 1)) = some (.int k xy.2) ∧ (Lit.int k xy.1).wf = true ∧ (Lit.int k xy.2).wf = true := fun i => by
      by_cases h : i < n
      · obtain ⟨x, y, hh⟩ := key i h
        exact ⟨(x, y), fun _ => hh⟩
      · exact ⟨(0, 0), fun h' => absurd h' h⟩
    obtain ⟨F, hF⟩ := Classical.axiomOfChoice key'
    clear key' hi
    refine ⟨some a, n, cap, fun i => (F i).1, fun i => (F i).2, rfl, by unfold maxLen at hm; omega, fun hn => ?_⟩
    obtain ⟨x0, y0, hx0, _⟩ := key 0 hn
    obtain ⟨hs, hb⟩ := cell?_spot hx0
    clear key hf hv
    obtain ⟨b, off, sp⟩ := a
    simp [Addr.add] at hs hb
    subst hs
    refine ⟨b, off, rfl, hb, fun i hin => ?_⟩
    have hk := hF i hin
    rw [addr_add, addr_add] at hk
    exact ⟨hk.1, by rw [Nat.add_assoc]; exact hk.2.1, hk.2.2⟩
end Go
