/- Arguments that are structs. -/
import Derived.Test.YtckcdgmcoomngaaOpenR
set_option linter.unusedVariables false
set_option linter.unusedSimpArgs false
namespace Go.Proofs.Ytckcdgmcoomngaa
open Go.ChangeShapes Go.WideShapes Go.ChangeAt Go.RowKit
open Go.Proofs.YtckcdgmcoomngaaW.PrintWords

theorem open_arg_struct {P : Program} {t : TypeId} {fs : Array Field} {α : Type} {d : Kd α} {W : α → Prop} (ht : P.underlying t = some (.struct fs)) (h : Opens P t d W)
    {H : Type} {enc : TypeId × Value → H} {w : World} {r : Reach} {b0 : Nat} {v : Value} {x : DataW H} {ps : List MemPlace}
    (hv : Value.okWide P w r b0 t v) (hx : DataW.Trod enc P w 0 (fun _ => true) true t v x ps) :
    ∃ cs y, v = .agg cs ∧ d.K w y cs.toList ∧ W y := by
  obtain ⟨fuel, hf⟩ := hx
  obtain ⟨y, hk, hw⟩ := h hf
  have hag : ∃ cs, v = .agg cs := by
    simp only [Value.okWide, ht] at hv
    obtain ⟨cs, rfl, _⟩ := hv
    exact ⟨cs, rfl⟩
  obtain ⟨cs, rfl⟩ := hag
  exact ⟨cs, y, rfl, hk, hw⟩
set_option maxRecDepth 100000 in
theorem open_arg_rec {H : Type} {enc : TypeId × Value → H} {w : World} {r : Reach} {b0 : Nat} {v : Value} {x : DataW H} {ps : List MemPlace}
    (hv : Value.okWide Try.prog w r b0 27 v) (hx : DataW.Trod enc Try.prog w 0 (fun _ => true) true 27 v x ps) :
    ∃ (y : Rec) (Ad Ab : Option Addr) (cd cb : Nat), v = recV y Ad Ab cd cb ∧ RecAt w y Ad Ab cd cb ∧ (IdOk y.1 ∧ (Lit.int .i64 y.2.1).wf = true ∧ (∀ z ∈ y.2.2.1, IdOk z) ∧ ∀ z ∈ y.2.2.2, (Lit.int .i64 z.1).wf = true ∧ z.2.1.size ≤ maxLen ∧ z.2.2 < 2 ^ 64) := by
  obtain ⟨cs, y, rfl, hk, hw⟩ := open_arg_struct Try.underlying27 opens_rec hv hx
  obtain ⟨Ad, Ab, cd, cb, hc, hr⟩ := recK_K hk
  refine ⟨y, Ad, Ab, cd, cb, ?_, hr, hw⟩
  rw [show cs = (recCells y Ad Ab cd cb).toArray from by rw [← hc]]
end Go.Proofs.Ytckcdgmcoomngaa
