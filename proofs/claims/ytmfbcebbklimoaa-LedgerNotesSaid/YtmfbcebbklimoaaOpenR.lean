/- Records as arguments. -/
import Derived.Test.YtmfbcebbklimoaaOpenC
import Derived.Test.YtmfbcebbklimoaaRecs
set_option linter.unusedVariables false
set_option linter.unusedSimpArgs false
namespace Go.Proofs.Ytmfbcebbklimoaa
open Go.ChangeShapes Go.WideShapes Go.ChangeAt Go.RowKit
open Go.Proofs.YtmfbcebbklimoaaW.PrintWords

theorem opens_rec : Opens Try.prog 33 recK (fun x => IdOk x.1 ∧ (Lit.int .i64 x.2.1).wf = true ∧ (∀ y ∈ x.2.2.1, IdOk y) ∧ ∀ y ∈ x.2.2.2, (Lit.int .i64 y.1).wf = true ∧ y.2.1.size ≤ maxLen ∧ y.2.2 < 2 ^ 64) :=
  opens_struct4 Try.underlying33 opens_id (opens_int Try.underlying3) (opens_slice Try.underlying30 opens_id (by kernel_rfl)) (opens_slice Try.underlying31 opens_cmd (by kernel_rfl)) (by kernel_rfl) (by kernel_rfl) (by kernel_rfl) (by kernel_rfl) rfl rfl rfl rfl (by kernel_rfl)
end Go.Proofs.Ytmfbcebbklimoaa
