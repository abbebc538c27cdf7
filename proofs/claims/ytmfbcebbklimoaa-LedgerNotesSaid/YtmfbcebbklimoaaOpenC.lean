/- Ids and commands as arguments. -/
import Derived.Test.YtmfbcebbklimoaaOpenT
import Derived.Test.YtmfbcebbklimoaaOpenS
import Derived.Test.YtmfbcebbklimoaaCmdD
set_option linter.unusedVariables false
set_option linter.unusedSimpArgs false
namespace Go.Proofs.Ytmfbcebbklimoaa
open Go.ChangeShapes Go.WideShapes Go.ChangeAt Go.RowKit
open Go.Proofs.YtmfbcebbklimoaaW.PrintWords

theorem opens_id : Opens Try.prog 29 idK IdOk :=
  opens_struct2 Try.underlying29 (opens_int Try.underlying3) (opens_int Try.underlying3) (by kernel_rfl) (by kernel_rfl) rfl rfl (by kernel_rfl)
theorem Opens.imp {P : Program} {t : TypeId} {α : Type} {d : Kd α} {W W' : α → Prop} (h : Opens P t d W) (hw : ∀ x, W x → W' x) : Opens P t d W' := fun hx => by
  obtain ⟨y, hk, h1⟩ := h hx
  exact ⟨y, hk, hw y h1⟩
theorem opens_cmd : Opens Try.prog 54 cmdK (fun x => (Lit.int .i64 x.1).wf = true ∧ x.2.1.size ≤ maxLen ∧ x.2.2 < 2 ^ 64) :=
  opens_struct3 Try.underlying54 (opens_int Try.underlying3) (opens_string Try.underlying9) (opens_float Try.underlying52) (by kernel_rfl) (by kernel_rfl) (by kernel_rfl) rfl rfl rfl (by kernel_rfl)
end Go.Proofs.Ytmfbcebbklimoaa
