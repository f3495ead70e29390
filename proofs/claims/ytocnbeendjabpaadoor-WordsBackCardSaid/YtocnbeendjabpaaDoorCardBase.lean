/- What all cards of this seat share: what the listed variables give, and a world that holds them. -/
import Derived.Test.YtocnbeendjabpaaDoorCards
import Derived.Test.YtocnbeendjabpaaDoorTie
import Derived.Test.YtocnbeendjabpaaDoorLawsA
import Derived.Test.YtocnbeendjabpaaDoorOpenStrs
import Derived.Deep.DeepHandedRow
import Derived.Deep.DeepWitnessRowRef
import Derived.LaidMore
import Derived.LaidLaws
import Derived.Lib.LaidTab
import Derived.SevenTiedAt
namespace Go.Proofs.YtocnbeendjabpaaDoor
open Go.ChangeShapes Go.WideShapes Go.ChangeAt Go.RowKit

theorem own : ownKnob Tryd.prog.godebug = none := by kernel_rfl
theorem laidOut : laidOutB Tryd.prog = true := by kernel_rfl

theorem gTabType : (Tryd.prog.globals[2]?).map (·.type) = some 87 := by kernel_rfl
theorem cellsTab : Tryd.prog.cellsOf 87 = 20 := by kernel_rfl
theorem cellsU64 : Tryd.prog.cellsOf 55 = 1 := by kernel_rfl
theorem gErr : Tryd.prog.globalNamed "strconv.ErrRange" = some 1 := by kernel_rfl
theorem gErrType : (Tryd.prog.globals[1]?).map (·.type) = some 52 := by kernel_rfl
theorem gMax : (((begin Tryd.prog (fun _ _ => 0) default).world.heap[3]?).bind Obj.row?).map (fun x => (x.1.size, x.2)) = some (1, 3) := by kernel_rfl

/-- a variable of an integer type holds some integer -/
theorem int_of_shape {P : Program} {w : World} {g : Nat} {t : TypeId} {k : IntKind} (h : w.ShapedOpen P) (hg : g < P.globals.size)
    (h0 : (((begin P (fun _ _ => 0) default).world.heap[g]?).bind Obj.row?).map (fun x => (x.1.size, x.2)) = some (1, t))
    (hb : P.buildable t = true) (hc : P.cellTypes P.depth t = some [t]) (hu : P.underlying t = some (.int k)) : ∃ m, w.cell? ⟨g, 0, none⟩ = some (.int k m) := by
  obtain ⟨⟨zero, t'⟩, hz, he⟩ := Option.map_eq_some_iff.1 h0
  simp only [Prod.mk.injEq] at he
  obtain ⟨he1, rfl⟩ := he
  obtain ⟨cs, hh, hs, hr⟩ := h.1 g zero t' hg hz
  obtain ⟨ts, hts, _, hall⟩ := hr hb
  rw [hc] at hts
  cases hts
  have h1 : 0 < cs.size := by omega
  obtain ⟨u, hu', hok⟩ := hall 0 cs[0] (by simp [h1])
  have : u = t' := by simpa using hu'.symm
  subst this
  have hcell : w.cell? ⟨g, 0, none⟩ = some cs[0] := by simp [World.cell?, hh, h1]
  rw [hcell]
  unfold Cell.ok at hok
  rw [hu] at hok
  cases hv : cs[0] <;> rw [hv] at hok <;> first | (simp at hok; done) | (simp at hok; obtain ⟨rfl, _⟩ := hok; exact ⟨_, rfl⟩) | (simp at hok; exact ⟨_, by rw [hok.1]⟩)

theorem env_of {W : World} (hL : laidMetH Tryd.prog Rows.wordsSplitRow.laid W) (hS : W.ShapedOpen Tryd.prog) : Env W := by
  refine ⟨int_of_shape hS (by decide +kernel) gMax (by kernel_rfl) (by kernel_rfl) Tryd.underlying3, ?_, ?_⟩
  · have h := hL.filter (fun x => x.1 == "strconv.ErrRange")
    have e : (Rows.wordsSplitRow.laid.filter fun x => x.1 == "strconv.ErrRange") = [("strconv.ErrRange", Rows.laid_strconv_ErrRange)] := by rfl
    rw [e] at h
    have h2 : laidMet Tryd.prog [("strconv.ErrRange", Rows.laid_strconv_ErrRange)] W := h
    obtain ⟨ps, ⟨g', t', cs, fuel, p, q, hg', ht', hvar, hd, _, _⟩, _⟩ := h2
    obtain rfl := Option.some.inj (gErr.symm.trans hg')
    obtain rfl := Option.some.inj (gErrType.symm.trans ht')
    obtain ⟨_, u, v, hcs, _⟩ := iface_of_trod Tryd.underlying52 hd
    have hc := World.var?_cell gErr hvar 0
    refine ⟨.iface u v, ?_, .inr ⟨u, v, rfl⟩⟩
    rw [hc, ← Array.getElem?_toList, hcs]
    rfl
  · have h := hL.filter (fun x => x.1 == "internal/strconv.uint64pow10")
    have e : (Rows.wordsSplitRow.laid.filter fun x => x.1 == "internal/strconv.uint64pow10") = [("internal/strconv.uint64pow10", Rows.laid_internal_strconv_uint64pow10)] := by rfl
    rw [e] at h
    exact Lib.tabIs_of_head (rest := []) gTab gTabType Tryd.underlying87 Tryd.underlying55 cellsU64 cellsTab h

theorem bulk_string {H : Type} {l : List UInt8} (hk : Rows.uptoSmall H ([DataW.lit (.string l)] ++ []) = true) : l.length ≤ 1048576 := by
  have h := of_decide_eq_true hk
  simp only [List.append_nil, Rows.uptoBulkAll, Rows.uptoBulk] at h
  omega

/-- A world that holds what is listed: what the text's own initialisers lay, and the table that is held against the form's constant. -/
noncomputable def seatWorld (os : Os) : World :=
  { World.doorLaid Tryd.prog 200 os with heap := (World.doorLaid Tryd.prog 200 os).heap.modify 4 fun
      | .cells _ t frozen => .cells (Pinned.utf8FirstZ.map fun n => Value.int .u8 (n : Nat)).toArray t frozen
      | o => o }
end Go.Proofs.YtocnbeendjabpaaDoor
