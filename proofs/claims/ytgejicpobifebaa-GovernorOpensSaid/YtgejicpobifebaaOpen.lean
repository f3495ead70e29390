/- Arguments opened: a slice of bytes as seeds; a struct of integers. -/
import Derived.Test.YtgejicpobifebaaDice
import Derived.Test.YtgejicpobifebaaPairs
import Derived.Deep.Fields
namespace Go
open Go.RowKit Go.WideShapes Go.ChangeShapes Go.Deep

theorem open_fields {H : Type} {enc : TypeId × Value → H} {P : Program} {w : World} {t e : TypeId} {fs : Array Field} {k : IntKind} {v : Value} {d : DataW H} {p : List MemPlace} {base : Nat} {spare : Nat → Bool} {held : Bool}
    (ht : P.underlying t = some (.struct fs)) (hone : oneCellFields P fs = true) (hC : P.cellsOf t = fs.size) (hty : ∀ f ∈ fs.toList, f.type = e) (he : P.underlying e = some (.int k))
    {r : Reach} {b0 : Nat} (hv : Value.okWide P w r b0 t v) (h : DataW.Trod enc P w base spare held t v d p) :
    ∃ l : List Int, l.length = fs.size ∧ v = .agg (l.map (Value.int k)).toArray := by
  obtain ⟨cs, rfl, hsz⟩ := okWide_struct ht hv
  obtain ⟨fuel, hf⟩ := h
  obtain ⟨xs, n, _, _, hlen, hxl, hg⟩ := DataW.trod_struct ht hf
  have key : ∀ j, j < fs.size → ∃ x : Int, cs[j]? = some (.int k x) := by
    intro j hj
    have hfj : fs[j]? = some fs[j] := Array.getElem?_eq_getElem hj
    obtain ⟨ho, hk⟩ := hone_of hone j _ hfj
    have h1 := hg j _ hfj
    rw [ho, hk] at h1
    have hc : j < cs.toList.length := by have := hsz; simp; omega
    have hone' : (((Value.agg cs).cells.toList.drop j).take 1) = [cs.toList[j]] := by
      have : (Value.agg cs).cells.toList = cs.toList := rfl
      rw [this, List.drop_eq_getElem_cons hc]
      rfl
    have hxs : xs[j]? = some (xs[j]'(by omega)) := List.getElem?_eq_getElem (by omega)
    rw [hone', hxs] at h1
    have het : P.underlying fs[j].type = some (.int k) := by rw [hty _ (by simp)]; exact he
    obtain ⟨x, e0, _, _⟩ := DataW.trod_int het h1
    simp at e0
    exact ⟨x, by rw [Array.getElem?_eq_getElem (by simpa using hc), e0]⟩
  have key' : ∀ j, ∃ x : Int, j < fs.size → cs[j]? = some (.int k x) := fun j => by
    by_cases hj : j < fs.size
    · obtain ⟨x, hx⟩ := key j hj; exact ⟨x, fun _ => hx⟩
    · exact ⟨0, fun h => absurd h hj⟩
  obtain ⟨F, hF⟩ := Classical.axiomOfChoice key'
  refine ⟨(List.range fs.size).map F, by simp, ?_⟩
  congr 1
  apply Array.ext_getElem?
  intro j
  by_cases hj : j < fs.size
  · rw [hF j hj]; simp [hj]
  · rw [Array.getElem?_eq_none (by omega)]; simp [hj]

theorem open_seeds {H : Type} {enc : TypeId × Value → H} {P : Program} {w : World} {t e : TypeId} {v : Value} {d : DataW H} {p : List MemPlace} {base : Nat} {spare : Nat → Bool} {held : Bool}
    (ht : P.underlying t = some (.slice e)) (he : P.underlying e = some (.int .u8)) (hce : P.cellsOf e = 1)
    {r : Reach} {b0 : Nat} (hv : Value.okWide P w r b0 t v) (h : DataW.Trod enc P w base spare held t v d p) :
    ∃ (A : Option Addr) (n cap : Nat), v = .slice A n cap ∧ n ≤ cap ∧ cap ≤ 9223372036854775807 ∧ Go.Proofs.Ytgejicpobifebaa.Seeds w w.heap.size A n := by
  obtain ⟨A, n, cap, rfl⟩ := okWide_slice ht hv
  obtain ⟨fuel, hf⟩ := h
  rcases open_slice1 ht hce hf with ⟨hcs, _⟩ | ⟨a, len, cap', m, n', V, D, Pl, hcs, _, hl, hm, hmm, _, hi⟩
  · simp [Value.cells] at hcs
    obtain ⟨rfl, rfl, rfl⟩ := hcs
    exact ⟨none, 0, 0, rfl, by omega, by omega, fun k hk => absurd hk (by omega)⟩
  · simp [Value.cells] at hcs
    obtain ⟨rfl, rfl, rfl⟩ := hcs
    have hlm : n ≤ m := by rw [hmm]; split <;> omega
    refine ⟨some a, n, cap, rfl, hl, by unfold maxLen at hm; omega, fun k hk => ?_⟩
    obtain ⟨h0, _⟩ := hi 0 (by omega)
    obtain ⟨hs, hb⟩ := cell?_spot h0
    obtain ⟨hc, htr⟩ := hi k (by omega)
    obtain ⟨x, e0, _, wx⟩ := DataW.trod_int he htr
    simp at e0
    rw [e0] at hc
    clear hi hf hv
    obtain ⟨b, off, sp⟩ := a
    simp [Addr.add] at hs hb
    subst hs
    rw [addr_add] at hc
    have bx := bounds_u8 wx
    exact ⟨b, off, x, rfl, hb, hc, bx.1, bx.2⟩
end Go
