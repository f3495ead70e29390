/- speculateref01.Same: two lists of words. -/
import Derived.Test.YtocnbeendjabpaaDoorWdSplit
namespace Go.Proofs.YtocnbeendjabpaaDoor
open Go.RowKit

/-- a slice that reads as a list of strings -/
def Rd (w : World) (A : Option Addr) (l : List ByteArray) : Prop := ∀ k (h : k < l.length), ∃ b off, A = some ⟨b, off, none⟩ ∧ w.cell? ⟨b, off + k, none⟩ = some (.string l[k])
theorem Rd.own {w : World} {B : Nat} {V : Value} {l : List ByteArray} (h : w.ownsRow B 9 1 V l.length (l.map Value.string)) : ∃ A c, V = .slice A l.length c ∧ Rd w A l := by
  rcases h.2 with ⟨rfl, h0⟩ | ⟨g, cap, cur, rfl, _⟩
  · refine ⟨none, 0, by rw [h0], fun k hk => absurd hk (by omega)⟩
  · refine ⟨_, _, rfl, fun k hk => ⟨g, 0, rfl, ?_⟩⟩
    have := h.cells (g := g) rfl k (.string l[k]) (by simp [List.getElem?_eq_getElem hk])
    rwa [Addr.add_lit] at this
theorem Rd.below {w w' : World} {A : Option Addr} {l : List ByteArray} {N : Nat} (h : Rd w A l) (hb : Below N w w') (hN : w.heap.size ≤ N) : Rd w' A l := fun k hk => by
  obtain ⟨b, off, hA, hc⟩ := h k hk
  have hlt : b < w.heap.size := World.block_lt_of_cell? w ⟨b, off + k, none⟩ hc
  exact ⟨b, off, hA, (hb.cell (p := ⟨b, off + k, none⟩) (by simp; omega)).trans hc⟩

def SameRel (w : World) (la lb : List ByteArray) (i : Value) (wr : World) : Prop := ∃ k q, i = .int .i64 (k : Nat) ∧ k ≤ la.length ∧ wr = w.drewN q ∧ la.take k = lb.take k

set_option maxRecDepth 100000 in
set_option maxHeartbeats 2000000 in
theorem same_eq (A B : Option Addr) (ca cb : Nat) (la lb : List ByteArray) (w : World) (ha : Rd w A la) (hb : Rd w B lb) (hl : la.length = lb.length) (hm : la.length ≤ 9223372036854775807) :
    Calls Tryd.prog 12 #[.slice A la.length ca, .slice B lb.length cb] w fun e w' => e = .returned (.bool (decide (la = lb))) ∧ Below w.heap.size w w' := by
  have HA := Lib.hid ha
  have HB := Lib.hid hb
  have HL := Lib.hid hl
  rw [← hl]
  clear ha hb hl
  go_enter Tryd.func12, Tryd.ntmps12
  go_wp2
  go_loopw [13] (fun i wr => SameRel w la lb i wr) (fun i _ => la.length - (intOf i).toNat)
  case atStart => exact ⟨0, 0, rfl, by omega, rfl, rfl⟩
  case round =>
    obtain ⟨k, q, rfl, hk, rfl, ht⟩ := hrel
    have HT := Lib.hid ht
    clear ht
    by_cases hlt : k < la.length
    · obtain ⟨b, off, rfl, hca⟩ := HA.out k hlt
      obtain ⟨b', off', rfl, hcb⟩ := HB.out k (by have := HL.out; omega)
      have hb1 : k < lb.length := by have := HL.out; omega
      go_wp2
      go_quiet (fail)
      go_wp2
      · have hne : la[k] ≠ lb[k] := by
          have hh : (!la[k].toList == lb[k].toList) = true := by assumption
          intro h
          rw [h] at hh
          simp at hh
        go_ret
        refine ⟨?_, below_drewN (below_drewN (Below.refl _ _) _) _⟩
        have : la ≠ lb := by rintro rfl; exact hne rfl
        rw [show decide (la = lb) = false by simpa using this]
        rfl
      · have he : la[k].toList = lb[k].toList := by
          have hh : (!la[k].toList == lb[k].toList) = false := by assumption
          simpa using hh
        refine ⟨⟨k + 1, _, by go_num, by omega, rfl, ?_⟩, by simp [intOf]; omega⟩
        have he2 : la[k] = lb[k] := by
          rw [Lib.toList_data, Lib.toList_data] at he
          exact ByteArray.ext (Array.toList_inj.1 he)
        rw [List.take_add_one, List.take_add_one, HT.out, List.getElem?_eq_getElem hlt, List.getElem?_eq_getElem hb1, he2]
    · obtain rfl : k = la.length := by omega
      have hs : la = lb := by
        have := HT.out
        rwa [List.take_length, HL.out, List.take_length] at this
      have HS := Lib.hid hs
      clear hs
      go_wp2
      go_ret
      refine ⟨?_, below_drewN (Below.refl _ _) _⟩
      rw [show decide (la = lb) = true by simpa using HS.out]
      rfl

set_option maxHeartbeats 400000 in
theorem same_ne (A B : Option Addr) (ca cb : Nat) (la lb : List ByteArray) (w : World) (hl : la.length ≠ lb.length) :
    Calls Tryd.prog 12 #[.slice A la.length ca, .slice B lb.length cb] w fun e w' => e = .returned (.bool (decide (la = lb))) ∧ Below w.heap.size w w' := by
  have hb : ((la.length : Int) != (lb.length : Int)) = true := by simpa using (fun h => hl (by omega))
  have hd : decide (la = lb) = false := by simpa using (fun h => hl (congrArg List.length h))
  have HD := Lib.hid hd
  clear hd hl
  go_enter Tryd.func12, Tryd.ntmps12
  go_wp2
  go_ret
  refine ⟨?_, Below.refl _ _⟩
  rw [HD.out]
  rfl

/-- Same of two rows, wherever they lie. -/
theorem same_any (A B : Option Addr) (ca cb : Nat) (la lb : List ByteArray) (w : World) (ha : Rd w A la) (hb : Rd w B lb) (hm : la.length ≤ 9223372036854775807) :
    Calls Tryd.prog 12 #[.slice A la.length ca, .slice B lb.length cb] w fun e w' => e = .returned (.bool (decide (la = lb))) ∧ Below w.heap.size w w' := by
  by_cases hl : la.length = lb.length
  · exact same_eq A B ca cb la lb w ha hb hl hm
  · exact same_ne A B ca cb la lb w hl
end Go.Proofs.YtocnbeendjabpaaDoor
