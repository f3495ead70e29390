/- The plain law: both ways to split a line agree. -/
import Derived.Test.YtocnbeendjabpaaDoorWdRSplit
namespace Go.Proofs.YtocnbeendjabpaaDoor
open Go.RowKit

/-- where a reader ends: its words, or none -/
def fin : Option (Int × List Int × List ByteArray) → Option (List ByteArray)
  | none => none
  | some (st, word, words) => if st = 1 ∨ st = 4 then some (words ++ [strOfNums word]) else none

theorem tk0 (word : List Int) (words : List ByteArray) (c : Int) : tk 0 word words c = if c = 34 then some (2, word, words) else if simpB c then some (1, word ++ [c], words) else none := by simp [tk]
theorem tk1 (word : List Int) (words : List ByteArray) (c : Int) : tk 1 word words c = if c = 32 then some (0, [], words ++ [strOfNums word]) else if simpB c then some (1, word ++ [c], words) else none := by simp [tk]
theorem tk4 (word : List Int) (words : List ByteArray) (c : Int) : tk 4 word words c = if c = 32 then some (0, [], words ++ [strOfNums word]) else none := by simp [tk]
theorem tk2 (word : List Int) (words : List ByteArray) (c : Int) : tk 2 word words c = if c = 34 then some (4, word, words) else if c = 92 then some (3, word, words) else if c = 10 ∨ c = 13 then none else some (2, word ++ [c], words) := by simp [tk]
theorem tk3 (word : List Int) (words : List ByteArray) (c : Int) : tk 3 word words c = if meanB c then some (2, word ++ [meanV c], words) else none := by simp [tk]
theorem tkAll_cons (c : Int) (l : List Int) (st : Int) (word : List Int) (words : List ByteArray) : tkAll (c :: l) (st, word, words) = match tk st word words c with
    | none => none
    | some s' => tkAll l s' := rfl

/-- behind a word: the end, a blank and the next word, or an error -/
def after (l : List Int) (words : List ByteArray) : Option (List ByteArray) :=
  match l with
  | [] => some words
  | c :: r => if c = 32 then fin (tkAll r (0, [], words)) else none

theorem simpB_32 : simpB 32 = false := by decide

theorem run_plain : ∀ (l : List Int) (word : List Int) (words : List ByteArray), fin (tkAll l (1, word, words)) = after (l.drop (l.takeWhile simpB).length) (words ++ [strOfNums (word ++ l.takeWhile simpB)])
  | [], word, words => by simp [tkAll, fin, after]
  | c :: l, word, words => by
    rw [tkAll_cons, tk1]
    by_cases h32 : c = 32
    · subst h32
      simp [simpB_32, after]
    · rw [if_neg h32, List.takeWhile_cons]
      cases hs : simpB c with
      | true =>
        simp only [if_true, List.length_cons, List.drop_succ_cons]
        rw [run_plain l (word ++ [c]) words]
        simp
      | false =>
        simp [fin, after, h32]

theorem run_after4 (l word : List Int) (words : List ByteArray) : fin (tkAll l (4, word, words)) = after l (words ++ [strOfNums word]) := by
  cases l with
  | nil => simp [tkAll, fin, after]
  | cons c l =>
    rw [tkAll_cons, tk4]
    by_cases h32 : c = 32
    · subst h32; simp [after]
    · simp [h32, after, fin]

theorem run_quo : ∀ (n : Nat) (l : List Int) (word : List Int) (words : List ByteArray), l.length ≤ n → fin (tkAll l (2, word, words)) = match quo l word with
    | none => none
    | some (x, rest) => after rest (words ++ [strOfNums x]) := by
  intro n
  induction n with
  | zero => intro l word words hl; obtain rfl : l = [] := List.eq_nil_of_length_eq_zero (by omega); simp [tkAll, fin, quo]
  | succ n ih =>
    intro l word words hl
    cases l with
    | nil => simp [tkAll, fin, quo]
    | cons c l =>
      rw [tkAll_cons, tk2, quo.eq_def]
      simp only [List.length_cons] at hl
      by_cases h34 : c = 34
      · simp only [h34, if_true]
        exact run_after4 l word words
      · simp only [h34, if_false]
        by_cases h92 : c = 92
        · subst h92
          simp only [if_true, show ¬((92 : Int) = 10 ∨ (92 : Int) = 13) by decide, if_false]
          cases l with
          | nil => simp [tkAll, fin]
          | cons d l' =>
            rw [tkAll_cons, tk3]
            cases hm : meanB d with
            | true =>
              simp only [hm, if_true]
              exact ih l' _ _ (by simp at hl; omega)
            | false => simp [fin, hm]
        · simp only [h92, if_false]
          by_cases hcr : c = 10 ∨ c = 13
          · simp [hcr, fin]
          · simp only [hcr, if_false]
            exact ih l _ _ (by omega)

theorem run_word (l : List Int) (words : List ByteArray) : fin (tkAll l (0, [], words)) = match wordR l with
    | none => none
    | some (x, rest) => after rest (words ++ [strOfNums x]) := by
  cases l with
  | nil => simp [tkAll, fin, wordR]
  | cons c l =>
    rw [tkAll_cons, tk0]
    by_cases h34 : c = 34
    · subst h34
      simp only [if_true]
      exact run_quo _ l [] words (Nat.le_refl _)
    · rw [wordR_plain h34]
      simp only [h34, if_false]
      rw [List.takeWhile_cons]
      cases hs : simpB c with
      | true =>
        simp only [if_true, List.length_cons, List.drop_succ_cons, Nat.add_one_ne_zero, if_false]
        rw [run_plain]
        simp
      | false => simp [fin]

theorem run_all : ∀ (n : Nat) (l : List Int) (words : List ByteArray), l.length < n → fin (tkAll l (0, [], words)) = refW n l words := by
  intro n
  induction n with
  | zero => intro l words h; omega
  | succ n ih =>
    intro l words hl
    rw [run_word, refW]
    rcases hw : wordR l with _ | ⟨x, rest⟩
    · rfl
    · simp only
      obtain ⟨p, hp, hp0⟩ := wordR_suffix hw
      cases rest with
      | nil => rfl
      | cons c r =>
        simp only [after]
        by_cases h32 : c = 32
        · simp only [h32, if_true]
          refine ih r _ ?_
          have := congrArg List.length hp
          simp at this
          omega
        · simp [h32]

theorem split_same (l : List Int) : splitR l = rsplitR l := by
  unfold splitR rsplitR
  by_cases h1 : 4096 < l.length
  · simp [h1]
  · by_cases h0 : l.length = 0
    · simp [h0]
    · rw [if_neg h1, if_neg h0, if_neg h1, if_neg h0, ← run_all (l.length + 1) l [] (by omega)]
      rcases tkAll l (0, [], []) with _ | ⟨st, word, words⟩
      · rfl
      · simp only [fin]
        by_cases hst : st = 1 ∨ st = 4
        · simp [hst]
        · simp [hst]
end Go.Proofs.YtocnbeendjabpaaDoor
