/- The lines of a text, in plain Lean. -/
import Derived.Test.YtocnbeendjabpaaDoorWdSame
import Derived.Lib.Split
namespace Go.Proofs.YtocnbeendjabpaaDoor
open Go.RowKit

/-- a text cut at its line feeds -/
def pcs : List UInt8 → List (List UInt8)
  | [] => [[]]
  | c :: l => if c = 10 then [] :: pcs l else match pcs l with
    | [] => [[c]]
    | p :: ps => (c :: p) :: ps
theorem pcs_ne (l : List UInt8) : pcs l ≠ [] := by
  cases l with
  | nil => simp [pcs]
  | cons c l =>
    unfold pcs
    split
    · simp
    · split <;> simp
theorem pcs_feed : ∀ (p r : List UInt8), 10 ∉ p → pcs (p ++ 10 :: r) = p :: pcs r
  | [], r, _ => by simp [pcs]
  | c :: p, r, h => by
    simp only [List.mem_cons, not_or] at h
    have hc : c ≠ 10 := fun e => h.1 e.symm
    simp only [List.cons_append, pcs, if_neg hc, pcs_feed p r h.2]
theorem pcs_none : ∀ (p : List UInt8), 10 ∉ p → pcs p = [p]
  | [], _ => rfl
  | c :: p, h => by
    simp only [List.mem_cons, not_or] at h
    have hc : c ≠ 10 := fun e => h.1 e.symm
    simp only [pcs, if_neg hc, pcs_none p h.2]
/-- the lines of a text -/
def linesL (l : List UInt8) : List (List UInt8) := if (pcs l).getLast (pcs_ne l) = [] then (pcs l).dropLast else pcs l
theorem linesL_feed (p r : List UInt8) (h : 10 ∉ p) : linesL (p ++ 10 :: r) = p :: linesL r := by
  unfold linesL
  simp only [pcs_feed p r h, List.getLast_cons (pcs_ne r)]
  split
  · rw [List.dropLast_cons_of_ne_nil (pcs_ne r)]
  · rfl
theorem linesL_none (p : List UInt8) (h : 10 ∉ p) : linesL p = if p = [] then [] else [p] := by
  unfold linesL
  simp only [pcs_none p h, List.getLast_singleton]
  rfl

theorem index_pcs : ∀ (l : List UInt8), (Lib.index l [10] = -1 ∧ 10 ∉ l) ∨ ∃ p r, l = p ++ 10 :: r ∧ 10 ∉ p ∧ Lib.index l [10] = (p.length : Int)
  | [] => .inl ⟨rfl, by simp⟩
  | c :: l => by
    by_cases hc : c = 10
    · subst hc
      exact .inr ⟨[], l, rfl, by simp, by simp [Lib.index, List.isPrefixOf]⟩
    · have hn : ¬ ((10 : UInt8) = c) := fun e => hc e.symm
      have hp : ([10] : List UInt8).isPrefixOf (c :: l) = false := by simp [List.isPrefixOf, hn]
      rcases index_pcs l with ⟨h1, h2⟩ | ⟨p, r, rfl, h2, h3⟩
      · exact .inl ⟨by simp [Lib.index, hp, h1], by simp [hn, h2]⟩
      · refine .inr ⟨c :: p, r, rfl, by simp [hn, h2], ?_⟩
        have : ¬ ((p.length : Int) = -1) := by omega
        simp only [Lib.index, hp, h3]
        simp [this]

theorem split_pcs : ∀ (n : Nat) (l : List UInt8), l.length ≤ n → Lib.splitK [10] 0 (Lib.count l [10]) l = pcs l := by
  intro n
  induction n with
  | zero =>
    intro l h
    obtain rfl : l = [] := List.eq_nil_of_length_eq_zero (by omega)
    rfl
  | succ n ih =>
    intro l h
    rcases index_pcs l with ⟨h1, h2⟩ | ⟨p, r, rfl, h2, h3⟩
    · rw [Lib.count_miss h1, pcs_none l h2]
      rfl
    · rw [Lib.count_hit (by decide) h3, Nat.add_comm, pcs_feed p r h2]
      have hm : ¬ (Lib.index (p ++ 10 :: r) [10] == -1) = true := by rw [h3, beq_iff_eq]; omega
      rw [Lib.splitK, if_neg hm, h3]
      have hd : (p ++ 10 :: r).drop (p.length + 1) = r := by
        rw [← List.drop_drop, List.drop_left]; rfl
      simp only [Int.toNat_natCast, Nat.add_zero, List.length_singleton, hd, List.take_left]
      rw [ih r (by simp at h; omega)]

theorem pcs_length_le : ∀ l : List UInt8, (pcs l).length ≤ l.length + 1
  | [] => by simp [pcs]
  | c :: l => by
    have := pcs_length_le l
    unfold pcs
    split
    · simp; omega
    · split
      · simp
      · rename_i h; rw [h] at this; simp at this ⊢; omega

/-- bytes as a string -/
def mk (p : List UInt8) : ByteArray := ⟨p.toArray⟩
theorem mk_inj {p q : List UInt8} (h : mk p = mk q) : p = q := by
  have := congrArg (fun s : ByteArray => s.data.toList) h
  simpa [mk] using this
theorem mk_data (s : ByteArray) : mk s.data.toList = s := by
  rcases s with ⟨⟨l⟩⟩
  rfl
theorem data_mk (p : List UInt8) : (mk p).data.toList = p := rfl

theorem splitB_pcs (s : ByteArray) : Lib.splitB ⟨#[10]⟩ 0 (Lib.countB s ⟨#[10]⟩) s = (pcs s.data.toList).map mk := by
  have h := Lib.splitB_data ⟨#[10]⟩ 0 (Lib.countB s ⟨#[10]⟩) s
  have h2 := split_pcs s.data.toList.length s.data.toList (Nat.le_refl _)
  have h3 : (Lib.splitB ⟨#[10]⟩ 0 (Lib.countB s ⟨#[10]⟩) s).map (fun t => t.data.toList) = pcs s.data.toList := h.trans h2
  rw [← h3, List.map_map]
  conv => lhs; rw [← List.map_id (Lib.splitB ⟨#[10]⟩ 0 (Lib.countB s ⟨#[10]⟩) s)]
  apply List.map_congr_left
  intro t _
  exact (mk_data t).symm
end Go.Proofs.YtocnbeendjabpaaDoor
