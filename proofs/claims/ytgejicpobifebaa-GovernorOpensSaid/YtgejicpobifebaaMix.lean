/- A region that draws its order: its plain operations (loads, arithmetic) are taken first, each call comes in the one order that the text forces, and leaves a world of a smaller class; a tail in one forced order may write. -/
import Derived.Test.YtgejicpobifebaaRegion
import Derived.OrdersHeld
import Derived.Deep.RegionHeld3
namespace Go
open Go.RowKit

/-- A number and a growth: the index of a class of worlds. -/
structure KG where
  k : Nat
  g : Growth
instance : Inhabited KG := ⟨⟨0, ⟨#[], 0⟩⟩⟩

theorem plus_drawn (v : World) (g : Growth) : { v.plus g with drawn := (v.plus g).drawn + 1 } = v.plus ⟨g.blocks, g.drawn + 1⟩ := rfl

/-- An operation that makes a value and enters nothing. -/
def Op.plain : Op → Bool
  | .move _ | .assign _ | .pick .. | .load .. | .binOp .. | .unOp .. | .convert .. | .fieldAddr .. | .field .. | .indexAddr .. | .index .. | .build .. | .slice .. | .makeInterface .. | .extract .. | .nilCheck _ => true
  | _ => false

theorem run_valued {P : Program} {w w' : World} {α : Type} {s : Sem α} {g : α → Value} {n : Next} (h : Sem.run P (do pure (Next.value (g (← s)))) w = .ok n w') : ∃ u, n = .value u := by
  simp only [Sem.run_bind, Sem.run_pure] at h
  generalize Sem.run P s w = r at h
  cases r with
  | ok x w1 => simp only [Result.andThen_ok, Result.ok.injEq] at h; exact ⟨g x, h.1.symm⟩
  | halt x w1 => simp [Result.andThen] at h

theorem Op.plain_value {P : Program} {o : Oper} {f : Operand → Value} {w w' : World} {n : Next} (hp : o.op.plain = true) (h : (execOp f o).run P w = .ok n w') : ∃ u, n = .value u := by
  unfold execOp at h
  cases ho : o.op <;> simp only [ho, Op.plain, Bool.false_eq_true] at hp h
  case nilCheck x =>
    split at h
    · simp [runtimePanic] at h
    · simp [runtimePanic] at h
    · simp [runtimePanic] at h
    · split at h
      · simp [runtimePanic] at h
      · simp only [Sem.run_bind] at h
        generalize Sem.run P program w = r1 at h
        cases r1 with
        | halt x w1 => simp [Result.andThen] at h
        | ok p w1 =>
          simp only [Result.andThen_ok] at h
          generalize Sem.run P _ w1 = r2 at h
          cases r2 with
          | halt x w2 => simp [Result.andThen] at h
          | ok b w2 =>
            simp only [Result.andThen_ok] at h
            split at h
            · simp [unsupported] at h
            · simp only [Sem.run_pure, Result.ok.injEq] at h; exact ⟨_, h.1.symm⟩
      · simp only [Sem.run_pure, Result.ok.injEq] at h; exact ⟨_, h.1.symm⟩
    · simp only [Sem.run_pure, Result.ok.injEq] at h; exact ⟨_, h.1.symm⟩
  all_goals first
    | exact run_valued (g := fun x => x) h
    | exact run_valued h
    | (simp only [Sem.run_pure, Result.ok.injEq] at h; exact ⟨_, h.1.symm⟩)

section
variable {P : Program} {ops : Array Oper} {md : Region.Mode} {Q : Exit → Act → World → Prop}

theorem yieldsIf_of_quiet {C : World → Prop} {o : Oper} {a : Act} {v : Value} (hp : o.op.plain = true) (hw : Region.wanted o (yielded ops a.tmps) = true) (h : ∀ w, C w → o.quietAt P a C w v) : YieldsIf P ops C o v a := by
  refine .inl ⟨hw, fun w hC => ?_⟩
  have h1 := h w hC
  unfold Oper.quietAt at h1
  generalize hr : (execOp a.eval o).run P w = r at h1
  cases r with
  | halt x w' => exact h1.elim
  | ok n w' =>
    obtain ⟨u, rfl⟩ := Op.plain_value hp hr
    obtain ⟨rfl, rfl⟩ := h1
    rfl

/-- Behind a call in the walk: the world is of a class within C, and the rest goes on in that class. -/
def MixPost (C : World → Prop) (K : (World → Prop) → Act → Prop) : Exit → Act → World → Prop
  | .normal, a, w => ∃ C' : World → Prop, (∀ w, C' w → C w) ∧ C' w ∧ K C' a
  | _, _, _ => False

/-- Operation number i comes up in whatever world of the class. -/
def mOp (P : Program) (ops : Array Oper) (Q : Exit → Act → World → Prop) (i : Nat) (C : World → Prop) (K : (World → Prop) → Act → Prop) (a : Act) : Prop :=
  ∀ w, C w → wpOp P ops (NoPanic Q) i (fun a' w' => ∃ C' : World → Prop, (∀ w, C' w → C w) ∧ C' w' ∧ K C' a') a w

/-- Whatever order is picked: for so many operations, all of them before number n. -/
def headM (P : Program) (md : Region.Mode) (ops : Array Oper) (Q : Exit → Act → World → Prop) (n : Nat) (L : Array Bool → (World → Prop) → Act → Prop) : Nat → Array Bool → (World → Prop) → Act → Prop
  | 0, listed, C, a => L listed C a
  | f + 1, listed, C, a => Region.ready md ops listed ≠ [] ∧ ∀ i ∈ Region.ready md ops listed, i < n ∧ mOp P ops Q i C (headM P md ops Q n L f (listed.setIfInBounds i true)) a

theorem wpAny_of_headM {n rest : Nat} {L : Array Bool → (World → Prop) → Act → Prop} (hL : ∀ listed C a w, C w → L listed C a → wpAny P md ops (NoPanic Q) rest listed a w) :
    ∀ (f : Nat) (listed : Array Bool) (C : World → Prop) (a : Act) (w : World), C w → headM P md ops Q n L f listed C a → wpAny P md ops (NoPanic Q) (f + rest) listed a w := by
  intro f
  induction f with
  | zero => intro listed C a w hw h; rw [Nat.zero_add]; exact hL _ _ _ _ hw h
  | succ f ih =>
    intro listed C a w hw h
    have e : f + 1 + rest = (f + rest) + 1 := by omega
    rw [e]
    exact ⟨fun h0 => (h.1 h0).elim, fun i hi => wpOp_mono (fun a' w' ⟨C', _, hw', hK⟩ => ih _ C' a' w' hw' hK) ((h.2 i hi).2 w hw)⟩

/-- While an operation of the head is wanting, only operations of the head come up. -/
def HeadFirst (md : Region.Mode) (ops : Array Oper) (n : Nat) : Prop :=
  ∀ listed i, HeadInv md ops n listed → i < n → listed.getD i true = false → ∀ j ∈ Region.ready md ops listed, j < n

theorem headM_first {n i : Nat} {oi : Oper} {v : Value} {L : Array Bool → (World → Prop) → Act → Prop} (hi : ops[i]? = some oi) (hsel : ∀ (j : Nat) (o : Oper) cs b, ops[j]? = some o → o.op ≠ .select cs b)
    (hF : HeadFirst md ops n) (hin : i < n) (hdone : ∀ listed C a, L listed C a → ∀ j ∈ Region.ready md ops listed, n ≤ j) (f : Nat) :
    ∀ (listed : Array Bool) (C : World → Prop) (a : Act), HeadInv md ops n listed →
      (∀ j oj, ops[j]? = some oj → j ≠ i → listed.getD j true = false → (∀ e ∈ oj.after, Region.binds md e = true → e.on ≠ i) → oi.apart ops oj = true) →
      i ∈ Region.ready md ops listed → YieldsIf P ops C oi v a →
      headM P md ops Q n L f (listed.setIfInBounds i true) C (a.put oi.dst v) → headM P md ops Q n L (f + 1) listed C a := by
  have mine : ∀ (K : (World → Prop) → Act → Prop) (C : World → Prop) (a : Act), YieldsIf P ops C oi v a → K C (a.put oi.dst v) → mOp P ops Q i C K a :=
    fun K C a hy hK w hw => hy.wpOp hi hw ⟨C, fun _ h => h, hw, hK⟩
  induction f with
  | zero =>
    intro listed C a inv _ hr hy H
    have hlt := hF listed i inv hin (mem_ready.1 hr).1
    refine ⟨fun h0 => by rw [h0] at hr; exact absurd hr (by simp), fun j hj => ⟨hlt j hj, ?_⟩⟩
    by_cases hji : j = i
    · rw [hji]; exact mine _ C a hy H
    · exact absurd (hdone _ _ _ H j (ready_mono hj hji)) (by have := hlt j hj; omega)
  | succ f ih =>
    intro listed C a inv hfree hr hy H
    have hun := (mem_ready.1 hr).1
    have hlt := hF listed i inv hin hun
    refine ⟨fun h0 => by rw [h0] at hr; exact absurd hr (by simp), fun j hj => ⟨hlt j hj, ?_⟩⟩
    by_cases hji : j = i
    · rw [hji]; exact mine _ C a hy H
    · obtain ⟨hjun, oj, hoj, hall⟩ := mem_ready.1 hj
      have hno : ∀ e ∈ oj.after, Region.binds md e = true → e.on ≠ i := fun e he hb heq => by
        have h1 := hall e he hb
        rw [heq, getD_both hun] at h1
        exact Bool.noConfusion h1
      intro w hw
      have h2 := wpOp_putIf hoj (hfree j oj hoj hji hjun hno) (fun cs b => hsel i oi cs b hi) (fun cs b => hsel j oj cs b hoj) (fun c a w h => (h : False).elim) hy ((H.2 j (ready_mono hj hji)).2 w hw)
      refine wpOp_mono (fun a' w' h3 => ?_) h2
      obtain ⟨hy', C', hsub, hw', hK⟩ := h3
      have hyC : YieldsIf P ops C' oi v a' := hy'.imp (fun ⟨x, y⟩ => ⟨x, fun w h => y w (hsub w h)⟩) id
      refine ⟨C', hsub, hw', ih (listed.setIfInBounds j true) C' a' (inv.set hj (hlt j hj)) (fun k ok hk hki hunk hnok => ?_) (ready_mono hr (Ne.symm hji)) hyC ?_⟩
      · refine hfree k ok hk hki ?_ hnok
        by_cases hjk : j = k
        · rw [← hjk]; exact hjun
        · rwa [getD_set_ne true hjk] at hunk
      · rw [Array.setIfInBounds_comm _ _ hji]; exact hK

theorem Oper.wp_only {o : Oper} {a : Act} {w : World} {K K' : Act → World → Prop} {R R' : Exit → Act → World → Prop} (hK : ∀ a w, K a w → K' a w) (hp : ∀ c a w, ¬ R (.panic c) a w) (ho : ∀ a w, ¬ R .outgrown a w)
    (h : o.wp P a w K R) : o.wp P a w K' R' := by
  unfold Oper.wp at *
  generalize (execOp a.eval o).run P w = r at *
  cases r with
  | ok n w' =>
    cases n <;> simp only [Oper.upon] at h ⊢
    case value u => exact hK _ _ h
    case skip => exact hK _ _ h
    case defer d => exact hK _ _ h
    case enter f args =>
      refine Calls.mono h fun e w'' he => ?_
      cases e with
      | returned u => exact hK _ _ he
      | panicked c => exact (hp _ _ _ he).elim
      | outgrown => obtain ⟨a', w', hh⟩ := he; exact (ho _ _ hh).elim
    case row row args => exact Rows.mono h fun u w'' he => hK _ _ he
  | halt x w' =>
    cases x <;> simp only [Oper.upon] at h ⊢
    case panic u => exact (hp _ _ _ h).elim

theorem headM_call {n i f : Nat} {o : Oper} {L : Array Bool → (World → Prop) → Act → Prop} {listed : Array Bool} {C : World → Prop} {a : Act} (ho : ops[i]? = some o) (hr : Region.ready md ops listed = [i]) (hin : i < n)
    (h : ∀ w, C w → wpList P ops (MixPost C (headM P md ops Q n L f (listed.setIfInBounds i true))) [o] a w) : headM P md ops Q n L (f + 1) listed C a := by
  refine ⟨by rw [hr]; simp, fun j hj => ?_⟩
  rw [hr] at hj
  obtain rfl : j = i := by simpa using hj
  refine ⟨hin, fun w hw => ?_⟩
  have h1 := h w hw
  unfold wpOp
  simp only [ho]
  unfold wpList at h1
  split
  · rename_i hwt
    rw [if_pos hwt] at h1
    rcases h1 with h1 | ⟨_, a', w', h1⟩
    · exact .inl (Oper.wp_only (fun a w hh => hh) (fun _ _ _ hh => hh) (fun _ _ hh => hh) h1)
    · exact h1.elim
  · rename_i hwt
    rw [if_neg hwt] at h1
    exact h1

/-- All of a list have come up. -/
def setAll (is : List Nat) (listed : Array Bool) : Array Bool := is.foldl (fun l i => l.setIfInBounds i true) listed
/-- Plain operations, one behind the other, each ready. -/
def plainB (md : Region.Mode) (ops : Array Oper) (n : Nat) : List Nat → Array Bool → Bool
  | [], _ => true
  | i :: is, listed => (Region.ready md ops listed).contains i && Region.free md ops listed i && decide (i < n) && (match ops[i]? with | some o => o.op.plain | none => false) && plainB md ops n is (listed.setIfInBounds i true)

theorem headM_plain {n f : Nat} {L : Array Bool → (World → Prop) → Act → Prop} {C : World → Prop} {Kq : Act → Prop} (hsel : Region.noSelect ops = true)
    (hF : HeadFirst md ops n) (hdone : ∀ listed C a, L listed C a → ∀ j ∈ Region.ready md ops listed, n ≤ j) (is : List Nat) :
    ∀ (listed : Array Bool) (a : Act), HeadInv md ops n listed → plainB md ops n is listed = true →
      (∀ a', HeadInv md ops n (setAll is listed) → Kq a' → headM P md ops Q n L f (setAll is listed) C a') → wpQuiet P ops C Kq (is.filterMap (ops[·]?)) a → headM P md ops Q n L (is.length + f) listed C a := by
  induction is with
  | nil => intro listed a inv _ hK h; rw [List.length_nil, Nat.zero_add]; exact hK a inv h
  | cons i is ih =>
    intro listed a inv hB hK h
    simp only [plainB, Bool.and_eq_true, decide_eq_true_eq] at hB
    obtain ⟨⟨⟨⟨hr, hf⟩, hin⟩, hp⟩, hB'⟩ := hB
    cases hi : ops[i]? with
    | none => simp [hi] at hp
    | some o =>
      rw [hi] at hp
      simp only [List.filterMap_cons, hi] at h
      have hr' : i ∈ Region.ready md ops listed := by simpa using hr
      have go : ∀ v, YieldsIf P ops C o v a → wpQuiet P ops C Kq (is.filterMap (ops[·]?)) (a.put o.dst v) → headM P md ops Q n L ((i :: is).length + f) listed C a := fun v hy hh => by
        rw [List.length_cons, show is.length + 1 + f = (is.length + f) + 1 by omega]
        exact headM_first hi (Region.noSelect_spec hsel) hF hin hdone _ listed C a inv (Region.free_spec hi hf) hr' hy (ih _ _ (inv.set hr' hin) hB' hK hh)
      unfold wpQuiet at h
      split at h
      · rename_i hwt
        obtain ⟨v, h1, h2⟩ := h
        exact go v (yieldsIf_of_quiet hp hwt h1) h2
      · rename_i hwt
        exact go undef (.inr ⟨by simpa using hwt, rfl⟩) h

/-- The schedule: plain operations, and one other behind them, and so on; last, plain ones. -/
def mixB (md : Region.Mode) (ops : Array Oper) (n : Nat) (fin : Array Bool → Bool) : List (List Nat × Nat) → List Nat → Array Bool → Bool
  | [], last, listed => plainB md ops n last listed && fin (setAll last listed)
  | (st, i) :: r, last, listed => plainB md ops n st listed && decide (Region.ready md ops (setAll st listed) = [i]) && decide (i < n) && mixB md ops n fin r last ((setAll st listed).setIfInBounds i true)
def mixLen : List (List Nat × Nat) → List Nat → Nat
  | [], last => last.length
  | (st, _) :: r, last => st.length + (mixLen r last + 1)
/-- The walk of a schedule. -/
def wpMix (P : Program) (ops : Array Oper) (E : (World → Prop) → Act → Prop) : List (List Nat × Nat) → List Nat → (World → Prop) → Act → Prop
  | [], last, C, a => wpQuiet P ops C (fun a' => E C a') (last.filterMap (ops[·]?)) a
  | (st, i) :: r, last, C, a => wpQuiet P ops C (fun a' => ∀ w, C w → wpList P ops (MixPost C (wpMix P ops E r last)) ([i].filterMap (ops[·]?)) a' w) (st.filterMap (ops[·]?)) a

theorem wpMix_seg {E : (World → Prop) → Act → Prop} {st : List Nat} {i : Nat} {r : List (List Nat × Nat)} {last : List Nat} {C : World → Prop} {a : Act}
    (h : wpQuiet P ops C (fun a' => ∀ w, C w → wpList P ops (MixPost C (wpMix P ops E r last)) ([i].filterMap (ops[·]?)) a' w) (st.filterMap (ops[·]?)) a) : wpMix P ops E ((st, i) :: r) last C a := h
theorem wpMix_last {E : (World → Prop) → Act → Prop} {last : List Nat} {C : World → Prop} {a : Act} (h : wpQuiet P ops C (fun a' => E C a') (last.filterMap (ops[·]?)) a) : wpMix P ops E [] last C a := h

theorem MixPost.imp {C : World → Prop} {K K' : (World → Prop) → Act → Prop} (h : ∀ C a, K C a → K' C a) : ∀ e a w, MixPost C K e a w → MixPost C K' e a w := fun e a w hh => by
  cases e <;> first | (obtain ⟨C', h1, h2, h3⟩ := hh; exact ⟨C', h1, h2, h _ _ h3⟩) | exact hh

theorem wpList_one {o : Oper} {a : Act} {w : World} {R R' : Exit → Act → World → Prop} (hn : ∀ a w, R .normal a w → R' .normal a w) (hp : ∀ c a w, ¬ R (.panic c) a w) (ho : ∀ a w, ¬ R .outgrown a w)
    (h : wpList P ops R [o] a w) : wpList P ops R' [o] a w := by
  unfold wpList at h ⊢
  split
  · rename_i hwt
    rw [if_pos hwt] at h
    rcases h with h | ⟨_, a', w', h⟩
    · exact .inl (Oper.wp_only (fun a w hh => hn a w hh) hp ho h)
    · exact (ho _ _ h).elim
  · rename_i hwt
    rw [if_neg hwt] at h
    exact hn _ _ h

theorem headM_mix {n : Nat} {L : Array Bool → (World → Prop) → Act → Prop} {E : (World → Prop) → Act → Prop} {fin : Array Bool → Bool} (hsel : Region.noSelect ops = true)
    (hF : HeadFirst md ops n) (hdone : ∀ listed C a, L listed C a → ∀ j ∈ Region.ready md ops listed, n ≤ j) (hE : ∀ listed C a, fin listed = true → E C a → L listed C a) (last : List Nat) (segs : List (List Nat × Nat)) :
    ∀ (listed : Array Bool) (C : World → Prop) (a : Act), HeadInv md ops n listed → mixB md ops n fin segs last listed = true → wpMix P ops E segs last C a → headM P md ops Q n L (mixLen segs last) listed C a := by
  induction segs with
  | nil =>
    intro listed C a inv hB h
    simp only [mixB, Bool.and_eq_true] at hB
    exact headM_plain (f := 0) hsel hF hdone last listed a inv hB.1 (fun a' _ hE' => hE _ _ _ hB.2 hE') h
  | cons s r ih =>
    obtain ⟨st, i⟩ := s
    intro listed C a inv hB h
    simp only [mixB, Bool.and_eq_true, decide_eq_true_eq] at hB
    obtain ⟨⟨⟨hp, hr⟩, hin⟩, hB'⟩ := hB
    refine headM_plain (f := mixLen r last + 1) hsel hF hdone st listed a inv hp (fun a' inv' hK => ?_) h
    have hmem : i ∈ Region.ready md ops (setAll st listed) := by rw [hr]; simp
    obtain ⟨_, o, ho, _⟩ := mem_ready.1 hmem
    refine headM_call ho hr hin fun w hw => ?_
    have h1 := hK w hw
    simp only [List.filterMap_cons, ho, List.filterMap_nil] at h1
    exact wpList_one (fun a'' w'' hh => MixPost.imp (fun C' a' hh => ih _ C' a' (inv'.set hmem hin) hB' hh) .normal a'' w'' hh) (fun _ _ _ hh => hh) (fun _ _ hh => hh) h1

/-- The end of a walk: only the ordinary end, and what follows behind a variable. -/
def KPost (K : Act → World → Prop) : Exit → Act → World → Prop
  | .normal, a, w => K a w
  | _, _, _ => False

theorem wpList_K {K : Act → World → Prop} {R : Exit → Act → World → Prop} (hK : ∀ a w, K a w → R .normal a w) (l : List Oper) : ∀ (a : Act) (w : World), wpList P ops (KPost K) l a w → wpList P ops R l a w := by
  induction l with
  | nil => intro a w h; exact hK a w h
  | cons o l ih =>
    intro a w h
    unfold wpList at h ⊢
    split
    · rename_i hwt
      rw [if_pos hwt] at h
      rcases h with h | ⟨_, a', w', h⟩
      · exact .inl (Oper.wp_only (fun a w hh => ih a w hh) (fun _ _ _ hh => hh) (fun _ _ hh => hh) h)
      · exact h.elim
    · rename_i hwt
      rw [if_neg hwt] at h
      exact ih _ _ h

def mixTailB (md : Region.Mode) (ops : Array Oper) (n : Nat) (segs : List (List Nat × Nat)) (last : List Nat) : Bool :=
  Region.noSelect ops && decide (n < ops.size) && Region.sinkB md ops n && Region.chainB md ops n && decide (mixLen segs last = n) && mixB md ops n (fun listed => Region.seqB md ops (ops.size - n) n listed) segs last (Array.replicate ops.size false)
def mixWholeB (md : Region.Mode) (ops : Array Oper) (segs : List (List Nat × Nat)) (last : List Nat) : Bool :=
  Region.noSelect ops && decide (mixLen segs last = ops.size) && mixB md ops ops.size (fun listed => (Region.ready md ops listed).isEmpty) segs last (Array.replicate ops.size false)

theorem headInv0 (n : Nat) : HeadInv md ops n (Array.replicate ops.size false) :=
  ⟨by simp, fun j oj _ hl => (by rw [getD_replicate_false] at hl; exact Bool.noConfusion hl), fun t _ ht => getD_in (by simpa using ht) (getD_replicate_false _ _)⟩

/-- THE WHOLE REGION BY A SCHEDULE. -/
theorem wp_region_mix {id : Nat} {a : Act} {w : World} {l : List Oper} (segs : List (List Nat × Nat)) (last : List Nat) (C : World → Prop) (hm : P.follows .mixedOrders = true) (hB : mixWholeB .any l.toArray segs last = true)
    (hC : C { w with drawn := w.drawn + 1 }) (h : wpMix P l.toArray (fun C a => ∀ w, C w → Q .normal a w) segs last C a) : (Code.region id l.toArray true).wp P Q a w := by
  simp only [mixWholeB, Bool.and_eq_true, decide_eq_true_eq] at hB
  obtain ⟨⟨hsel, hlen⟩, hmix⟩ := hB
  have hF : HeadFirst .any l.toArray l.toArray.size := fun listed i _ _ _ j hj => by
    obtain ⟨_, o, ho, _⟩ := mem_ready.1 hj
    exact (Array.getElem?_eq_some_iff.1 ho).1
  have H := headM_mix (P := P) (Q := Q) (md := .any) (L := fun listed C a => Region.ready .any l.toArray listed = [] ∧ ∀ w, C w → Q .normal a w) hsel hF (fun listed C a hL => by rw [hL.1]; simp)
    (fun listed C a hf hE => ⟨by simpa using hf, hE⟩) last segs _ C a (headInv0 _) hmix h
  refine wp_region_noPanic (wp_region_any hm ?_)
  have := wpAny_of_headM (rest := 0) (fun listed C a w hw hL => ⟨hL.1, hL.2 w hw⟩) _ _ C a _ hC H
  rwa [hlen, Nat.add_zero] at this

/-- THE REGION BY A SCHEDULE, and a tail in one order. -/
theorem wp_region_mix_tail {id : Nat} {a : Act} {w : World} {l : List Oper} (n : Nat) (segs : List (List Nat × Nat)) (last : List Nat) (C : World → Prop) (hm : P.follows .mixedOrders = true) (hB : mixTailB .any l.toArray n segs last = true)
    (hC : C { w with drawn := w.drawn + 1 })
    (h : wpMix P l.toArray (fun C a => ∀ w, C w → ∀ K : Act → World → Prop, (∀ a w, Q .normal a w → K a w) → wpList P l.toArray (KPost K) (l.drop n) a w) segs last C a) : (Code.region id l.toArray true).wp P Q a w := by
  simp only [mixTailB, Bool.and_eq_true, decide_eq_true_eq] at hB
  obtain ⟨⟨⟨⟨⟨hsel, hn⟩, hs⟩, hc⟩, hlen⟩, hmix⟩ := hB
  have hdl : (l.drop n).length = l.toArray.size - n := by simp
  have hF : HeadFirst .any l.toArray n := fun listed i inv hin hun j hj => Nat.lt_of_not_le fun h => tail_waits hs hc hn inv _ i rfl hin hun j h hj
  have H := headM_mix (P := P) (Q := Q) (md := .any) (n := n)
    (L := fun listed C a => Region.seqB .any l.toArray (l.toArray.size - n) n listed = true ∧ ∀ w, C w → ∀ K : Act → World → Prop, (∀ a w, Q .normal a w → K a w) → wpList P l.toArray (KPost K) (l.drop n) a w)
    (fin := fun listed => Region.seqB .any l.toArray (l.toArray.size - n) n listed) hsel hF (fun listed C a hL => seqB_ready hL.1) (fun listed C a hf hE => ⟨hf, hE⟩) last segs _ C a (headInv0 _) hmix h
  refine wp_region_noPanic (wp_region_any hm ?_)
  have := wpAny_of_headM (rest := l.toArray.size - n) (fun listed C a w hw hL => by
    have h1 := wpList_K (R := NoPanic Q) (K := Q .normal) (fun a w hh => hh) _ a w (hL.2 w hw (Q .normal) (fun _ _ hh => hh))
    have := wpAny_of_seq (md := .any) (Q' := NoPanic Q) (l.drop n) n listed a w (fun j => by simp [List.getElem?_drop]) (by rw [hdl]; exact hL.1) h1
    rwa [hdl] at this) _ _ C a _ hC H
  rwa [hlen, show n + (l.toArray.size - n) = l.toArray.size by omega] at this

end
end Go
