/- Writers and items as arguments. -/
import Derived.Test.YtoklncfdhlplkaaOpenC
import Derived.Test.YtoklncfdhlplkaaFold
set_option linter.unusedVariables false
set_option linter.unusedSimpArgs false
namespace Go.Proofs.Ytoklncfdhlplkaa
open Go.ChangeShapes Go.WideShapes Go.ChangeAt Go.RowKit
open Go.Proofs.YtoklncfdhlplkaaW.PrintWords

theorem opens_wr : Opens Try.prog 75 wrK (fun x => IdOk x.1 ∧ (Lit.int .i64 x.2).wf = true) :=
  opens_struct2 Try.underlying75 opens_id (opens_int Try.underlying3) (by kernel_rfl) (by kernel_rfl) rfl rfl (by kernel_rfl)
theorem opens_item : Opens Try.prog 34 itemK (fun x => IdOk x.1 ∧ ∀ y ∈ x.2, (Lit.int .i64 y.1).wf = true ∧ y.2.1.size ≤ maxLen ∧ y.2.2 < 2 ^ 64) :=
  opens_struct2 Try.underlying34 opens_id (opens_slice Try.underlying32 opens_cmd (by kernel_rfl)) (by kernel_rfl) (by kernel_rfl) rfl rfl (by kernel_rfl)
end Go.Proofs.Ytoklncfdhlplkaa
