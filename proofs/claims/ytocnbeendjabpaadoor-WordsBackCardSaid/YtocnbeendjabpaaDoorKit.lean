/- Small laws of our own: a world that has grown (World.plus), and how the walk reads and writes it. -/
import Derived.Test.YtocnbeendjabpaaDoorRows
import Derived.WalkKit
import Derived.WalkSpells
import Derived.WalkLawsBesides
import Derived.BigQuiet
import Derived.Deep.QuietTactic
import Derived.Lib.Hide
import Derived.Handy
import Derived.ProofKit
import Derived.ChangeSame
import Derived.OpenShut
namespace Go
open Go.RowKit

/-- How a world has grown: the new blocks, and the count of draws. -/
structure Growth where
  blocks : Array Obj
  drawn : Nat
instance : Inhabited Growth := ⟨⟨#[], 0⟩⟩
def Growth.size (g : Growth) : Nat := g.blocks.size
def Growth.add (g g' : Growth) : Growth := ⟨g.blocks ++ g'.blocks, g'.drawn⟩
@[go_sem, simp] theorem Growth.size_add (g g' : Growth) : (g.add g').size = g.size + g'.size := by
  simp [Growth.size, Growth.add]

/-- w with new blocks behind its own, and another count of draws. -/
def World.plus (w : World) (g : Growth) : World := { w with heap := w.heap ++ g.blocks, drawn := g.drawn }

theorem World.heap_plus (w : World) (g : Growth) (n : Nat) (h : n < w.heap.size) : (w.plus g).heap[n]? = w.heap[n]? := by
  show (w.heap ++ g.blocks)[n]? = _
  rw [Array.getElem?_append_left h]
@[go_sem, simp] theorem World.size_plus (w : World) (g : Growth) : (w.plus g).heap.size = w.heap.size + g.size := by
  show (w.heap ++ g.blocks).size = _
  simp [Growth.size]
@[go_sem] theorem World.cell?_plus (w : World) (g : Growth) (n i : Nat) (h : n < w.heap.size) : (w.plus g).cell? ⟨n, i, none⟩ = w.cell? ⟨n, i, none⟩ :=
  World.cell?_of_block (w := w) (a := ⟨n, i, none⟩) (World.heap_plus w g n h)
@[go_sem] theorem World.frozen?_plus (w : World) (g : Growth) (n i : Nat) (h : n < w.heap.size) : (w.plus g).frozen? ⟨n, i, none⟩ = w.frozen? ⟨n, i, none⟩ :=
  World.frozen?_of_block (w := w) (a := ⟨n, i, none⟩) (World.heap_plus w g n h)
@[go_sem] theorem World.setCell_plus (w : World) (g : Growth) (n i : Nat) (v : Value) (h : n < w.heap.size) :
    (w.plus g).setCell ⟨n, i, none⟩ v = (w.setCell ⟨n, i, none⟩ v).plus g := by
  unfold World.setCell World.plus
  congr 1
  apply Array.ext_getElem?
  intro k
  simp only [Array.getElem?_modify, Array.getElem?_append, Array.size_modify]
  by_cases hk : k = n
  · subst hk; simp [h]
  · have hk' : ¬ n = k := fun e => hk e.symm
    simp [hk']
@[go_sem] theorem World.drew_plus (w : World) (g : Growth) : w.drew.plus g = w.plus g := rfl
@[go_sem] theorem World.drewN_plus (w : World) (n : Nat) (g : Growth) : (w.drewN n).plus g = w.plus g := rfl
@[go_sem] theorem World.plus_plus (w : World) (g g' : Growth) : (w.plus g).plus g' = w.plus (g.add g') := by
  unfold World.plus Growth.add; simp [Array.append_assoc]
/- a block is older than what stands behind it -/
@[go_sem] theorem lt_plus1 (a x1 : Nat) : a < a + 1 + x1 := by omega
@[go_sem] theorem lt_plus2 (a x1 x2 : Nat) : a < a + 1 + x1 + x2 := by omega
@[go_sem] theorem lt_plus3 (a x1 x2 x3 : Nat) : a < a + 1 + x1 + x2 + x3 := by omega
@[go_sem] theorem lt_plus4 (a x1 x2 x3 x4 : Nat) : a < a + 1 + x1 + x2 + x3 + x4 := by omega
@[go_sem] theorem lt_plus5 (a x1 x2 x3 x4 x5 : Nat) : a < a + 1 + x1 + x2 + x3 + x4 + x5 := by omega
@[go_sem] theorem lt_plus6 (a x1 x2 x3 x4 x5 x6 : Nat) : a < a + 1 + x1 + x2 + x3 + x4 + x5 + x6 := by omega
@[go_sem] theorem lt_plus7 (a x1 x2 x3 x4 x5 x6 x7 : Nat) : a < a + 1 + x1 + x2 + x3 + x4 + x5 + x6 + x7 := by omega
@[go_sem] theorem lt_plus8 (a x1 x2 x3 x4 x5 x6 x7 x8 : Nat) : a < a + 1 + x1 + x2 + x3 + x4 + x5 + x6 + x7 + x8 := by omega
@[go_sem] theorem lt_plus9 (a x1 x2 x3 x4 x5 x6 x7 x8 x9 : Nat) : a < a + 1 + x1 + x2 + x3 + x4 + x5 + x6 + x7 + x8 + x9 := by omega
@[go_sem] theorem lt_plus10 (a x1 x2 x3 x4 x5 x6 x7 x8 x9 x10 : Nat) : a < a + 1 + x1 + x2 + x3 + x4 + x5 + x6 + x7 + x8 + x9 + x10 := by omega

theorem RowKit.Below.of_plus (w : World) (g : Growth) : Below w.heap.size w (w.plus g) :=
  ⟨rfl, rfl, rfl, by simp, fun k hk => World.heap_plus w g k hk⟩
theorem RowKit.Below.plus {w w' : World} (h : Below w.heap.size w w') : ∃ g, w' = w.plus g := by
  refine ⟨⟨w'.heap.extract w.heap.size w'.heap.size, w'.drawn⟩, ?_⟩
  have hh : w'.heap = w.heap ++ w'.heap.extract w.heap.size w'.heap.size := by
    apply Array.ext_getElem?
    intro k
    rw [Array.getElem?_append]
    split
    · rename_i hk; exact h.block k hk
    · rename_i hk
      have := h.size
      rw [Array.getElem?_extract]
      split
      · congr 1; omega
      · rw [Array.getElem?_eq_none (by omega)]
  obtain ⟨a, b, c, d, e⟩ := w'
  unfold World.plus
  have h1 := h.os; have h2 := h.tape; have h3 := h.output
  simp only at h1 h2 h3 hh ⊢
  subst h1 h2 h3
  congr 1
theorem RowKit.Below.plus_mono {a w : World} {B : Nat} {g : Growth} (h : Below B a w) (hB : B ≤ w.heap.size) : Below B a (w.plus g) :=
  h.trans ((Below.of_plus w g).mono hB)

/-- w' is w with new blocks behind its own, and some draws. -/
def Ext (w w' : World) : Prop := ∃ g, w' = w.plus g
theorem Ext.below {w w' : World} (h : Ext w w') : Below w.heap.size w w' := by
  obtain ⟨g, rfl⟩ := h
  exact RowKit.Below.of_plus w g
theorem Ext.of_below {w w' : World} (h : Below w.heap.size w w') : Ext w w' := RowKit.Below.plus h
theorem Ext.refl (w : World) : Ext w w := Ext.of_below (Below.refl _ _)
theorem Ext.trans {a b c : World} (h : Ext a b) (k : Ext b c) : Ext a c := by
  obtain ⟨g, rfl⟩ := h
  obtain ⟨g', rfl⟩ := k
  exact ⟨g.add g', World.plus_plus _ _ _⟩
theorem Ext.plus {a b : World} (h : Ext a b) (g : Growth) : Ext a (b.plus g) := h.trans ⟨g, rfl⟩
theorem Ext.alloc {a b : World} (h : Ext a b) (o : Obj) : Ext a (b.alloc o) := h.trans (Ext.of_below ((Below.refl _ _).alloc (Nat.le_refl _) o))
theorem Ext.drew {a b : World} (h : Ext a b) : Ext a b.drew := h.trans (Ext.of_below (Below.refl _ _).drew)
theorem Ext.drewN {a b : World} (h : Ext a b) (n : Nat) : Ext a (b.drewN n) := h.trans (Ext.of_below (below_drewN (Below.refl _ _) n))
theorem Ext.size {a b : World} (h : Ext a b) : a.heap.size ≤ b.heap.size := h.below.size

/-- A callee's contract, met in a world that has grown. -/
theorem Calls.ext_of {P : Program} {f : FuncId} {args : Array Value} {w : World} {n : Growth} {v : Value}
    (h : Calls P f args (w.plus n) fun e w' => e = .returned v ∧ Ext (w.plus n) w') : Calls P f args (w.plus n) fun e w'' => e = .returned v ∧ ∃ m, w'' = w.plus m :=
  h.mono fun _ _ ⟨he, m, hm⟩ => ⟨he, n.add m, by rw [hm, World.plus_plus]⟩

section
open Go.WideShapes Go.ChangeShapes
variable {H : Type} {enc : TypeId × Value → H} {P : Program}
/-- the row's last step: the arguments read as before, the result's reading is given -/
theorem post_of_ext {f : Func} {s : ChangeSpec} {apart fresh handsOn again : Bool} {W W' : World} {args : Array Value} {v : Value} {ds gs : List (DataW H)} {before pa pv : List MemPlace}
    (hW : DataW.Whole enc P f.params.toList s.vars apart W args.toList ds gs before)
    (hres : ∀ (b : Nat) (sp : Nat → Bool) (hd : Bool), DataW.TrodAll enc P W' b sp hd f.resultTypes.toList (v.resultList f.resultTypes.size) (s.fn H (ds ++ gs)).results [])
    (hargs : ∀ sp : Nat → Bool, (∀ p ∈ before, sp p.block = true) → DataW.TrodAll enc P W' 0 sp true f.params.toList args.toList (s.fn H (ds ++ gs)).args pa)
    (hvars : ∀ sp : Nat → Bool, (∀ p ∈ before, sp p.block = true) → DataW.TrodVars enc P W' sp s.vars (s.fn H (ds ++ gs)).vars pv)
    (hps : before = pa ++ pv) (hx : Ext W W')
    (hok : ∀ (j : Nat) (t : TypeId) (r : Value), f.resultTypes[j]? = some t → (v.resultList f.resultTypes.size)[j]? = some r → Value.okWide P W' .any 0 t r) :
    s.post enc P f apart fresh handsOn again W args v W' := by
  have hb := hx.below
  have hlt : ∀ p ∈ before, p.block < W.heap.size := fun p hp => hW.lt p hp
  have hold : ∀ p ∈ before, (fun b => decide (b < W.heap.size)) p.block = true := fun p hp => by simpa using hlt p hp
  refine ⟨ds, gs, before, [], pa, pv, hW, hres _ _ _, hargs _ hold, hvars _ hold, World.keptBut_mono (fun p hp => ⟨hp, ?_⟩) (hb.frame (· ∈ before)), fun _ => ?_⟩
  · rw [hps, List.mem_append] at hp
    exact Or.inr hp
  · obtain ⟨_, _, _, _, _, hz, hn⟩ := hW
    refine ⟨hok, _, _, ([] ++ pa) ++ pv, ⟨[] ++ pa, pv, trodAll_append (hargs _ (fun _ _ => rfl)) (hres _ _ _), hvars _ (fun _ _ => rfl), rfl, ?_, ?_⟩, ?_⟩
    · intro b off hp
      have hin : MemPlace.cell b off ∈ before := by rw [hps]; simpa using hp
      rw [hb.frozen (hlt _ hin)]
      exact hz b off hin
    · intro ha
      have := hn ha
      rw [hps] at this
      simpa using this
    · intro p hp _
      rw [hps]
      simpa using hp

theorem trodAll_ext (hl : laidOutB P = true) {W W' : World} (hb : Below W.heap.size W W') {sp : Nat → Bool} {ts : List TypeId} :
    ∀ {vs : List Value} {ds : List (DataW H)} {ps : List MemPlace}, (∀ t ∈ ts, P.readableRec t = true ∧ t < P.types.size) →
      DataW.TrodAll enc P W 0 (fun _ => true) true ts vs ds ps → (∀ x ∈ ps, x.block < W.heap.size) → (∀ x ∈ ps, sp x.block = true) → DataW.TrodAll enc P W' 0 sp true ts vs ds ps := by
  induction ts with
  | nil =>
    intro vs ds ps _ h _ _
    obtain ⟨rfl, rfl, rfl⟩ := trodAll_nil h
    exact trodAll_mk0
  | cons t ts ih =>
    intro vs ds ps hts h hlt hsp
    obtain ⟨v, vs', d, ds', p, q, rfl, rfl, rfl, hv, hr⟩ := trodAll_cons h
    have ht := hts t (by simp)
    refine trodAll_cons_mk (WideElems.Trod_stays hl ht.1 ht.2 hv (fun x hx => hb.same (hlt x (by simp [hx]))) (fun x hx => hsp x (by simp [hx])))
      (ih (fun t' ht' => hts t' (by simp [ht'])) hr (fun x hx => hlt x (by simp [hx])) (fun x hx => hsp x (by simp [hx])))

/-- A LAW's LAST STEP: it returned true, and the world has grown. -/
theorem post_law {f : Func} {s : ChangeSpec} {apart fresh handsOn again : Bool} {W W' : World} {args : Array Value} {ds gs : List (DataW H)} {before : List MemPlace} {tb : TypeId}
    (hl : laidOutB P = true) (hts : ∀ t ∈ f.params.toList, P.readableRec t = true ∧ t < P.types.size) (hrt : f.resultTypes = #[tb]) (hu : P.underlying tb = some .bool) (hv : s.vars = [])
    (hW : DataW.Whole enc P f.params.toList s.vars apart W args.toList ds gs before) (hs : s.fn H (ds ++ gs) = { results := [.lit (.bool true)], args := ds }) (hx : Ext W W') :
    s.post enc P f apart fresh handsOn again W args (.bool true) W' := by
  have hW0 := hW
  obtain ⟨p, q, hA, hV, hbef, hz, hn⟩ := hW
  rw [hv] at hV
  obtain ⟨rfl, rfl⟩ := trodVars_none hV
  rw [List.append_nil] at hbef
  subst hbef
  have hlt : ∀ x ∈ before, x.block < W.heap.size := fun x hx => hW0.lt x hx
  refine post_of_ext (pa := before) (pv := []) hW0 ?_ ?_ ?_ (by simp) hx ?_
  · intro b sp hd
    rw [hs, hrt]
    exact trodAll_mk1 (shut_bool hu _)
  · intro sp hsp
    rw [hs]
    exact trodAll_ext hl hx.below hts hA hlt hsp
  · intro sp _
    rw [hs, hv]
    rfl
  · exact ok_one hrt rfl (okWide_bool_mk hu _)
end
end Go
