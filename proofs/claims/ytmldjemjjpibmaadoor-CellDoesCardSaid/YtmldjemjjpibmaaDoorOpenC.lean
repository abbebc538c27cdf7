/- Ids and commands as arguments. -/
import Derived.Test.YtmldjemjjpibmaaDoorOpenT
import Derived.Test.YtmldjemjjpibmaaDoorOpenS
import Derived.Test.YtmldjemjjpibmaaDoorCmdD
set_option linter.unusedVariables false
set_option linter.unusedSimpArgs false
namespace Go.Proofs.YtmldjemjjpibmaaDoor
open Go.ChangeShapes Go.WideShapes Go.ChangeAt Go.RowKit
open Go.Proofs.YtmldjemjjpibmaaDoorW.PrintWords

theorem Opens.imp {P : Program} {t : TypeId} {α : Type} {d : Kd α} {W W' : α → Prop} (h : Opens P t d W) (hw : ∀ x, W x → W' x) : Opens P t d W' := fun hx => by
  obtain ⟨y, hk, h1⟩ := h hx
  exact ⟨y, hk, hw y h1⟩
theorem opens_cmd : Opens Tryd.prog 26 cmdK (fun x => (Lit.int .i64 x.1).wf = true ∧ x.2.1.size ≤ maxLen ∧ x.2.2 < 2 ^ 64) :=
  opens_struct3 Tryd.underlying26 (opens_int Tryd.underlying3) (opens_string Tryd.underlying9) (opens_float Tryd.underlying22) (by kernel_rfl) (by kernel_rfl) (by kernel_rfl) rfl rfl rfl (by kernel_rfl)
end Go.Proofs.YtmldjemjjpibmaaDoor
