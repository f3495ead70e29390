/- The plain laws of WordsBack, WordsLimits and WordsLines: words, numbers and lines come back. -/
import Derived.Test.YtocnbeendjabpaaDoorLawsA
namespace Go.Proofs.YtocnbeendjabpaaDoor
open Go.RowKit

/-! ### words -/
theorem quo_esc (rest : List Int) : ∀ (l out : List Int), quo (l.flatMap esc ++ 34 :: rest) out = some (out ++ l, rest)
  | [], out => by
    rw [List.flatMap_nil, List.nil_append, quo.eq_def]
    simp
  | c :: l, out => by
    rw [List.flatMap_cons, List.append_assoc]
    by_cases h1 : c = 34 ∨ c = 92
    · have e : esc c = [92, c] := by unfold esc; rw [if_pos h1]
      have hm : meanB c = true ∧ meanV c = c := by rcases h1 with rfl | rfl <;> decide
      rw [e, quo.eq_def]
      simp only [List.cons_append, List.nil_append]
      rw [if_neg (by decide), if_neg (by decide), if_pos trivial, if_pos hm.1, hm.2, quo_esc rest l (out ++ [c])]
      simp
    · by_cases h2 : c = 10
      · have e : esc c = [92, 110] := by unfold esc; rw [if_neg h1, if_pos h2]
        rw [e, quo.eq_def]
        simp only [List.cons_append, List.nil_append]
        rw [if_neg (by decide), if_neg (by decide), if_pos trivial, if_pos (by decide), show meanV 110 = c by rw [h2]; decide, quo_esc rest l (out ++ [c])]
        simp
      · by_cases h3 : c = 13
        · have e : esc c = [92, 114] := by unfold esc; rw [if_neg h1, if_neg h2, if_pos h3]
          rw [e, quo.eq_def]
          simp only [List.cons_append, List.nil_append]
          rw [if_neg (by decide), if_neg (by decide), if_pos trivial, if_pos (by decide), show meanV 114 = c by rw [h3]; decide, quo_esc rest l (out ++ [c])]
          simp
        · have e : esc c = [c] := by unfold esc; rw [if_neg h1, if_neg h2, if_neg h3]
          rw [e, quo.eq_def]
          simp only [List.cons_append, List.nil_append]
          rw [if_neg (fun h => h1 (.inl h)), if_neg (fun h => h.elim h2 h3), if_neg (fun h => h1 (.inr h)), quo_esc rest l (out ++ [c])]
          simp

/-- the end of a line, or a blank -/
def Sep (rest : List Int) : Prop := rest = [] ∨ ∃ r, rest = 32 :: r
theorem takeWhile_sep {l rest : List Int} (h : l.all simpB = true) (hr : Sep rest) : (l ++ rest).takeWhile simpB = l := by
  induction l with
  | nil =>
    rcases hr with rfl | ⟨r, rfl⟩
    · rfl
    · rw [List.nil_append, List.takeWhile_cons, simpB_32]
      rfl
  | cons c l ih =>
    simp only [List.all_cons, Bool.and_eq_true] at h
    rw [List.cons_append, List.takeWhile_cons, h.1]
    simp only [if_true]
    rw [ih h.2]
theorem wordR_writ {l rest : List Int} (hr : Sep rest) : wordR (writ l ++ rest) = some (l, rest) := by
  unfold writ
  cases hp : plainS l with
  | true =>
    simp only [if_true]
    unfold plainS at hp
    rw [Bool.and_eq_true] at hp
    cases l with
    | nil => simp at hp
    | cons c l =>
      have hc : simpB c = true := by have := hp.1; simp only [List.all_cons, Bool.and_eq_true] at this; exact this.1
      have h34 : c ≠ 34 := by rintro rfl; revert hc; decide
      have ht := takeWhile_sep hp.1 hr
      rw [List.cons_append, wordR_plain h34, ← List.cons_append, ht, if_neg (by simp), List.drop_left]
  | false =>
    simp only [Bool.false_eq_true, if_false, List.cons_append, List.append_assoc, List.nil_append]
    show quo (l.flatMap esc ++ 34 :: rest) [] = _
    rw [quo_esc]
    rfl
theorem line_back : ∀ (r : List ByteArray) (x : ByteArray) (ws : List ByteArray), fin (tkAll (writ (ints x) ++ r.flatMap fun y => 32 :: writ (ints y)) (0, [], ws)) = some (ws ++ x :: r)
  | [], x, ws => by
    rw [run_word, List.flatMap_nil, wordR_writ (.inl rfl)]
    simp only [after]
    rw [strOfNums_ints]
  | y :: r, x, ws => by
    rw [run_word, List.flatMap_cons, List.cons_append, wordR_writ (.inr ⟨_, rfl⟩)]
    simp only [after, if_true]
    rw [strOfNums_ints, line_back r y]
    simp
theorem writ_ne (l : List Int) : 0 < (writ l).length := by
  unfold writ
  cases hp : plainS l with
  | true =>
    simp only [if_true]
    cases l with
    | nil => simp [plainS] at hp
    | cons c l => simp
  | false => simp
theorem jAll_pos {l : List ByteArray} (h : l ≠ []) : 0 < (jAll l).length := by
  cases l with
  | nil => exact absurd rfl h
  | cons x r => simp only [jAll, List.length_append]; have := writ_ne (ints x); omega
theorem jAll_range (l : List ByteArray) : ∀ x ∈ jAll l, 0 ≤ x ∧ x < 256 := by
  cases l with
  | nil => intro x hx; simp [jAll] at hx
  | cons y r =>
    intro x hx
    simp only [jAll, List.mem_append, List.mem_flatMap, List.mem_cons] at hx
    rcases hx with h | ⟨z, _, rfl | h⟩
    · exact writ_range (ints_range y) x h
    · omega
    · exact writ_range (ints_range z) x h
/-- words come back from their line -/
theorem words_back {l : List ByteArray} (h1 : l.length ≤ 256) (h2 : (jAll l).length ≤ 4096) : splitR (ints (strOfNums (jAll l))) = (0, l) := by
  rw [ints_nums (jAll_range l)]
  cases l with
  | nil => rfl
  | cons x r =>
    have hp := jAll_pos (l := x :: r) (by simp)
    rw [splitR_some hp h2]
    have hb := line_back r x []
    have hj : jAll (x :: r) = writ (ints x) ++ r.flatMap fun y => 32 :: writ (ints y) := rfl
    rw [← hj] at hb
    rcases ht : tkAll (jAll (x :: r)) (0, [], []) with _ | ⟨st, word, words⟩
    · rw [ht] at hb; cases hb
    · rw [ht] at hb
      simp only [fin] at hb
      by_cases hst : st = 1 ∨ st = 4
      · rw [if_pos hst] at hb
        have hb2 := Option.some.inj hb
        have hl := congrArg List.length hb2
        simp only [List.length_append, List.length_cons, List.length_nil] at hl h1
        simp only [hst, if_true]
        rw [if_neg (by omega), hb2]
        simp
      · rw [if_neg hst] at hb; cases hb
theorem joinR_ok {l : List ByteArray} {S : ByteArray} (h : joinR l = (S, 0)) : l.length ≤ 256 ∧ (jAll l).length ≤ 4096 ∧ S = strOfNums (jAll l) := by
  unfold joinR at h
  split at h
  · have := congrArg Prod.snd h; simp at this
  · exact ⟨by omega, by omega, (congrArg Prod.fst h).symm⟩

/-! ### no line feed in a line of words -/
theorem writ_clean (l : List Int) : (10 : Int) ∉ writ l := by
  unfold writ
  cases hp : plainS l with
  | true =>
    simp only [if_true]
    intro hm
    unfold plainS at hp
    rw [Bool.and_eq_true, List.all_eq_true] at hp
    have := hp.1 10 hm
    revert this; decide
  | false =>
    simp only [Bool.false_eq_true, if_false, List.mem_cons, List.mem_append, List.mem_flatMap, List.mem_nil_iff, or_false, not_or, not_exists, not_and]
    refine ⟨by decide, fun c _ hc => ?_, by decide⟩
    unfold esc at hc
    split at hc
    · rename_i h; simp at hc; omega
    · split at hc
      · simp at hc
      · split at hc
        · simp at hc
        · simp at hc; omega
theorem jAll_clean (l : List ByteArray) : (10 : Int) ∉ jAll l := by
  cases l with
  | nil => simp [jAll]
  | cons y r =>
    simp only [jAll, List.mem_append, List.mem_flatMap, List.mem_cons, not_or, not_exists, not_and]
    exact ⟨writ_clean _, fun z _ => ⟨by decide, writ_clean _⟩⟩
theorem line_clean {S : ByteArray} {l : List ByteArray} (h : S = strOfNums (jAll l)) : 10 ∉ S.data.toList := by
  intro hm
  have : (10 : Int) ∈ ints S := by
    unfold ints
    rw [List.mem_map]
    exact ⟨10, hm, rfl⟩
  rw [h, ints_nums (jAll_range l)] at this
  exact jAll_clean l this
theorem lines_twice {S : ByteArray} (h : 10 ∉ S.data.toList) : linesR (S ++ ⟨#[10]⟩ ++ S ++ ⟨#[10]⟩) = [S, S] := by
  unfold linesR
  rw [app_data, app_data, app_data, show (⟨#[10]⟩ : ByteArray).data.toList = [10] from rfl, List.append_assoc, List.append_assoc, List.singleton_append, linesL_feed _ _ h, linesL_feed _ _ h]
  simp [linesL, pcs, mk_data]

/-! ### numbers -/
theorem dec_ne (u : Nat) : Lib.decDigits u ≠ [] := by
  rw [Lib.decDigits]
  split <;> simp
theorem dig_ok {u : Nat} (h : u < 10) : isDig (UInt8.ofNat (48 + u)) = true ∧ (UInt8.ofNat (48 + u)).toNat - 48 = u := by
  have : (UInt8.ofNat (48 + u)).toNat = 48 + u := UInt8.toNat_ofNat_of_lt' (by show 48 + u < 256; omega)
  constructor
  · unfold isDig
    rw [this]
    simp
    omega
  · rw [this]; omega
theorem dec_facts : ∀ (n u : Nat), u ≤ n → (Lib.decDigits u).all isDig = true ∧ valF 0 (Lib.decDigits u) = u ∧ (1 ≤ u → (Lib.decDigits u).head? ≠ some 48) := by
  intro n
  induction n with
  | zero =>
    intro u h
    obtain rfl : u = 0 := by omega
    refine ⟨by decide +kernel, ?_, fun h => by omega⟩
    rw [Lib.decDigits, dif_pos (by decide), valF_cons, valF_nil]
    decide
  | succ n ih =>
    intro u h
    by_cases h10 : u < 10
    · rw [Lib.decDigits, dif_pos h10]
      obtain ⟨h1, h2⟩ := dig_ok h10
      refine ⟨by rw [List.all_cons, h1]; rfl, by rw [valF_cons, valF_nil, h2]; omega, fun hu => ?_⟩
      simp only [List.head?_cons, ne_eq, Option.some.injEq]
      intro e
      rw [e] at h2
      revert h2
      show (48 : UInt8).toNat - 48 = u → False
      intro h2
      have : (48 : UInt8).toNat = 48 := rfl
      omega
    · rw [Lib.decDigits, dif_neg h10]
      obtain ⟨i1, i2, i3⟩ := ih (u / 10) (by omega)
      obtain ⟨h1, h2⟩ := dig_ok (u := u % 10) (by omega)
      refine ⟨by rw [List.all_append, i1, List.all_cons, h1]; rfl, by rw [valF_snoc, i2, h2]; omega, fun _ => ?_⟩
      rw [List.head?_append]
      have := i3 (by omega)
      cases hh : (Lib.decDigits (u / 10)).head? with
      | none => exact absurd (List.head?_eq_none_iff.1 hh) (dec_ne _)
      | some c =>
        rw [hh] at this
        simpa using this
theorem dec_head_digit (u : Nat) : (Lib.decDigits u).head? ≠ some 45 := by
  intro h
  have ha := (dec_facts u u (Nat.le_refl _)).1
  cases hd : Lib.decDigits u with
  | nil => exact dec_ne u hd
  | cons c l =>
    rw [hd] at h ha
    simp only [List.head?_cons, Option.some.injEq] at h
    subst h
    simp [isDig] at ha
/-- numbers come back from their string -/
theorem num_back (n : Int) (h0 : -9223372036854775808 ≤ n) (h1 : n ≤ 9223372036854775807) : numR (Lib.itoa n) = (n, 0) := by
  unfold Lib.itoa
  by_cases hn : n < 0
  · rw [if_pos hn, numR_neg]
    obtain ⟨i1, i2, i3⟩ := dec_facts n.natAbs n.natAbs (Nat.le_refl _)
    unfold numD
    rw [if_neg, if_neg (by rw [i1]; decide), if_pos rfl, i2, if_pos (by omega)]
    · congr 1; omega
    · rintro (h | ⟨h, _⟩)
      · exact dec_ne _ h
      · exact i3 (by omega) h
  · rw [if_neg hn, numR_pos (dec_head_digit _)]
    obtain ⟨i1, i2, i3⟩ := dec_facts n.toNat n.toNat (Nat.le_refl _)
    unfold numD
    rw [if_neg, if_neg (by rw [i1]; decide), if_neg (by decide), i2, if_pos (by omega)]
    · congr 1; omega
    · rintro (h | ⟨h, h2⟩)
      · exact dec_ne _ h
      · by_cases hz : 1 ≤ n.toNat
        · exact i3 hz h
        · have : n.toNat = 0 := by omega
          rw [this] at h2
          revert h2
          decide +kernel

/-! ### lines -/
def cat (L : List (List UInt8)) : List UInt8 := L.flatMap fun p => p ++ [10]
theorem cat_lines : ∀ (n : Nat) (l : List UInt8), l.length ≤ n → cat (linesL l) = l ∨ (cat (linesL l) = l ++ [10] ∧ ∃ c, l.getLast? = some c ∧ c ≠ 10) := by
  intro n
  induction n with
  | zero =>
    intro l h
    obtain rfl : l = [] := List.eq_nil_of_length_eq_zero (by omega)
    exact .inl (by decide +kernel)
  | succ n ih =>
    intro l h
    rcases index_pcs l with ⟨_, h2⟩ | ⟨p, r, rfl, h2, _⟩
    · rw [linesL_none l h2]
      by_cases hl : l = []
      · rw [if_pos hl, hl]; exact .inl rfl
      · rw [if_neg hl]
        refine .inr ⟨by simp [cat], l.getLast hl, List.getLast?_eq_some_getLast hl, fun e => h2 (by rw [← e]; exact List.getLast_mem hl)⟩
    · rw [linesL_feed p r h2]
      have hc : cat (p :: linesL r) = p ++ 10 :: cat (linesL r) := by simp [cat]
      rw [hc]
      rcases ih r (by simp at h; omega) with e | ⟨e, c, e1, e2⟩
      · exact .inl (by rw [e])
      · refine .inr ⟨by rw [e]; simp, c, ?_, e2⟩
        rw [List.getLast?_append, List.getLast?_cons, e1]
        rfl
end Go.Proofs.YtocnbeendjabpaaDoor
