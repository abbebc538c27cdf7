/- Arguments that are structs. -/
import Derived.Test.YtmldjemjjpibmaaDoorOpen
set_option linter.unusedVariables false
set_option linter.unusedSimpArgs false
namespace Go.Proofs.YtmldjemjjpibmaaDoor
open Go.ChangeShapes Go.WideShapes Go.ChangeAt Go.RowKit
open Go.Proofs.YtmldjemjjpibmaaDoorW.PrintWords

theorem open_arg_struct {P : Program} {t : TypeId} {fs : Array Field} {α : Type} {d : Kd α} {W : α → Prop} (ht : P.underlying t = some (.struct fs)) (h : Opens P t d W)
    {H : Type} {enc : TypeId × Value → H} {w : World} {r : Reach} {b0 : Nat} {v : Value} {x : DataW H} {ps : List MemPlace}
    (hv : Value.okWide P w r b0 t v) (hx : DataW.Trod enc P w 0 (fun _ => true) true t v x ps) :
    ∃ cs y, v = .agg cs ∧ d.K w y cs.toList ∧ W y := by
  obtain ⟨fuel, hf⟩ := hx
  obtain ⟨y, hk, hw⟩ := h hf
  have hag : ∃ cs, v = .agg cs := by
    simp only [Value.okWide, ht] at hv
    obtain ⟨cs, rfl, _⟩ := hv
    exact ⟨cs, rfl⟩
  obtain ⟨cs, rfl⟩ := hag
  exact ⟨cs, y, rfl, hk, hw⟩
end Go.Proofs.YtmldjemjjpibmaaDoor
