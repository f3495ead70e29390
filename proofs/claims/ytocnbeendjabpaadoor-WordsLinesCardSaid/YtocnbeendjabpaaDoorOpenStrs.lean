/- An argument of strings, opened; what the bound on bulk gives. -/
import Derived.Test.YtocnbeendjabpaaDoorWdSame
import Derived.SliceStrings
namespace Go.Proofs.YtocnbeendjabpaaDoor
open Go.RowKit Go.WideShapes Go.ChangeShapes

theorem addr_plain (b off k : Nat) : Addr.add ⟨b, off, none⟩ k = ⟨b, off + k, none⟩ := Addr.add_lit b off k
theorem spot_none {w : World} {a : Addr} {v : Value} (h : w.cell? a = some v) : a.spot = none := by
  obtain ⟨b, o, sp⟩ := a
  cases sp with
  | none => rfl
  | some s =>
    simp [World.cell?] at h
    split at h <;> cases h

theorem open_strs {H : Type} {enc : TypeId × Value → H} {w : World} {v : Value} {d : DataW H} {p : List MemPlace} {base : Nat} {spare : Nat → Bool} {held : Bool}
    {r : Reach} {b0 : Nat} (hv : Value.okWide Tryd.prog w r b0 23 v) (h : DataW.Trod enc Tryd.prog w base spare held 23 v d p) :
    ∃ (A : Option Addr) (l : List ByteArray) (c : Nat), v = .slice A l.length c ∧ Rd w A l ∧ l.length ≤ maxLen := by
  obtain ⟨A, n, cap, rfl⟩ := okWide_slice Tryd.underlying23 hv
  obtain ⟨fuel, hf⟩ := h
  rcases open_strings Tryd.underlying23 Tryd.underlying9 (by kernel_rfl) hf with ⟨hcs, _⟩ | ⟨a, len, cap', ss, hcs, _, hl, hm, hsl, _, hi, _⟩
  · simp [Value.cells] at hcs
    obtain ⟨rfl, rfl, rfl⟩ := hcs
    exact ⟨none, [], 0, rfl, fun k hk => absurd hk (by simp), by simp⟩
  · simp [Value.cells] at hcs
    obtain ⟨rfl, rfl, rfl⟩ := hcs
    have hlm : n ≤ ss.length := by rw [hsl]; split <;> omega
    have hlen : (ss.take n).length = n := by rw [List.length_take]; omega
    refine ⟨some a, ss.take n, cap, by rw [hlen], fun k hk => ?_, by rw [hlen]; omega⟩
    rw [hlen] at hk
    have hc := hi k (by omega)
    have h0 := hi 0 (by omega)
    have hs := spot_none h0
    obtain ⟨b, off, sp⟩ := a
    have hsp : sp = none := by simpa [Addr.add] using hs
    subst hsp
    rw [addr_plain] at hc
    refine ⟨b, off, rfl, ?_⟩
    rw [hc, List.getElem_take]
    simp [List.getD, List.getElem?_eq_getElem (show k < ss.length by omega)]
end Go.Proofs.YtocnbeendjabpaaDoor
