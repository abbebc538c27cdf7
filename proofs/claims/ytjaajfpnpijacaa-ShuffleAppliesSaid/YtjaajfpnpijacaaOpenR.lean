/- Records, ids and commands as arguments. -/
import Derived.Test.YtjaajfpnpijacaaOpenT
import Derived.Test.YtjaajfpnpijacaaOpenS
import Derived.Test.YtjaajfpnpijacaaRecs
set_option linter.unusedVariables false
set_option linter.unusedSimpArgs false
namespace Go.Proofs.Ytjaajfpnpijacaa
open Go.ChangeShapes Go.WideShapes Go.ChangeAt Go.RowKit
open Go.Proofs.YtjaajfpnpijacaaW.PrintWords

theorem opens_id : Opens Try.prog 39 idK IdOk :=
  opens_struct2 Try.underlying39 (opens_int Try.underlying3) (opens_int Try.underlying3) (by kernel_rfl) (by kernel_rfl) rfl rfl (by kernel_rfl)
theorem Opens.imp {P : Program} {t : TypeId} {α : Type} {d : Kd α} {W W' : α → Prop} (h : Opens P t d W) (hw : ∀ x, W x → W' x) : Opens P t d W' := fun hx => by
  obtain ⟨y, hk, h1⟩ := h hx
  exact ⟨y, hk, hw y h1⟩
theorem opens_cmd : Opens Try.prog 57 cmdK (fun x => (Lit.int .i64 x.1).wf = true ∧ x.2.1.size ≤ maxLen ∧ x.2.2 < 2 ^ 64) :=
  opens_struct3 Try.underlying57 (opens_int Try.underlying3) (opens_string Try.underlying9) (opens_float Try.underlying55) (by kernel_rfl) (by kernel_rfl) (by kernel_rfl) rfl rfl rfl (by kernel_rfl)
theorem opens_rec : Opens Try.prog 43 recK (fun x => IdOk x.1 ∧ (Lit.int .i64 x.2.1).wf = true ∧ (∀ y ∈ x.2.2.1, IdOk y) ∧ ∀ y ∈ x.2.2.2, (Lit.int .i64 y.1).wf = true ∧ y.2.1.size ≤ maxLen ∧ y.2.2 < 2 ^ 64) :=
  opens_struct4 Try.underlying43 opens_id (opens_int Try.underlying3) (opens_slice Try.underlying40 opens_id (by kernel_rfl)) (opens_slice Try.underlying41 opens_cmd (by kernel_rfl)) (by kernel_rfl) (by kernel_rfl) (by kernel_rfl) (by kernel_rfl) rfl rfl rfl rfl (by kernel_rfl)
end Go.Proofs.Ytjaajfpnpijacaa
