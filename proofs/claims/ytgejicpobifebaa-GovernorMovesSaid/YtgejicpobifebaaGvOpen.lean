/- A governor that comes in. -/
import Derived.Test.YtgejicpobifebaaOpen
import Derived.Test.YtgejicpobifebaaGvDef
namespace Go.Proofs.Ytgejicpobifebaa
open Go.RowKit Go.WideShapes Go.ChangeShapes Go.Deep
theorem open_gov {H : Type} {enc : TypeId × Value → H} {P : Program} {w : World} {t e : TypeId} {f0 f1 f2 f3 f4 : Field} {v : Value} {d : DataW H} {p : List MemPlace} {base : Nat} {spare : Nat → Bool} {held : Bool}
    (ht : P.underlying t = some (.struct #[f0, f1, f2, f3, f4])) (hone : oneCellFields P #[f0, f1, f2, f3, f4] = true) (hC : P.cellsOf t = 5) (hty : f0.type = e ∧ f1.type = e ∧ f2.type = e ∧ f3.type = e ∧ f4.type = e) (he : P.underlying e = some (.int .i64))
    {r : Reach} {b0 : Nat} (hv : Value.okWide P w r b0 t v) (h : DataW.Trod enc P w base spare held t v d p) : ∃ R : Gov, v = .agg R.cs := by
  obtain ⟨l, hl, rfl⟩ := open_fields ht hone hC (e := e) (by simpa using hty) he hv h
  match l, hl with
  | [a, b, c, d, e], _ => exact ⟨⟨a, b, c, d, e⟩, rfl⟩
end Go.Proofs.Ytgejicpobifebaa
