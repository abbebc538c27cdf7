/- RealSums: the law's row. -/
import Derived.Test.YtlpigldogglmcaaRealT
import Derived.Test.YtlpigldogglmcaaOpenS
import Derived.Test.YtlpigldogglmcaaLaw
import Derived.Test.YtlpigldogglmcaaOpen
set_option linter.unusedVariables false
set_option linter.unusedSimpArgs false
namespace Go.Proofs.Ytlpigldogglmcaa
open Go.ChangeShapes Go.WideShapes Go.ChangeAt Go.RowKit
open Go.Proofs.YtlpigldogglmcaaW.PrintWords


set_option maxRecDepth 100000 in
theorem realSums_lifted (os : Os) (started : os.Started) (H : Type) (enc : TypeId × Value → H) :
    ReturnsInHanded {} Try.checked os 13 .any (Rows.realSumsSpec.pre6 enc Try.prog Try.f13 Rows.realSumsRow.domain false) (Rows.realSumsSpec.post enc Try.prog Try.f13 false true false false) := by
  refine returnsInHanded_of_change (C := Try.checked) own started (by kernel_rfl) Try.func13
    (ChangeSpec.witness6 (enc := enc) (C := Try.checked) false ⟨#[], #[.float .f64 0, .float .f64 0], []⟩ 8 (by kernel_rfl) (by kernel_rfl) (by kernel_rfl) (by kernel_rfl)) ?_
  intro W base args ds gs before hval0 hW hcnd _
  have hval : ∀ (j : Nat) t v, Try.f13.params[j]? = some t → args[j]? = some v → Value.okWide Try.prog W .any base t v := hval0
  have hW' := hW
  obtain ⟨p, q, hA0, hV, rfl, hfz, hnd⟩ := hW
  have hA : DataW.TrodAll enc Try.prog W 0 (fun _ => true) true Try.f13.params.toList args.toList ds p := hA0
  rw [Try.params13] at hA hval
  obtain ⟨v0, v1, d0, d1, p0, p1, rfl, rfl, rfl, h0, h1⟩ := trodAll_two hA
  obtain ⟨x, rfl, hx⟩ := open_arg_float Try.underlying94 (hval 0 94 v0 rfl rfl) h0
  replace hx : x < 18446744073709551616 := hx
  obtain ⟨y, rfl, hy⟩ := open_arg_float Try.underlying94 (hval 1 94 v1 rfl rfl) h1
  replace hy : y < 18446744073709551616 := hy
  clear hA0 hval0
  have walk : Calls Try.prog 13 #[.float .f64 x, .float .f64 y] W fun r w' => r = .returned (.bool true) ∧ Fr (fun _ => False) W w' := lawSums1 x y W hx hy
  refine walk.mono fun e W' ⟨he, hF⟩ => ⟨_, he, ?_⟩
  exact law_post laidOut (by kernel_rfl) rfl Try.underlying4 rfl rfl (fun x hx => by subst hx; rfl) hW' (hF.below fun _ _ h => h)

theorem RealSums : Rows.RealSumsSaid :=
  OpenClaim.holds_of_wide 13 Try.f13 rfl rfl rfl rfl rfl rfl rfl ⟨rfl, rfl, rfl, rfl, rfl⟩ rfl rfl rfl rfl rfl (by kernel_rfl) Try.func13 (by kernel_rfl)
    (of_decide_eq_true (by kernel_rfl)) (by unfold Func.isWrapper; rw [if_neg (of_decide_eq_false (by kernel_rfl))]; exact ⟨rfl, rfl⟩)
    (fun os started H enc _ => realSums_lifted os started H enc)
end Go.Proofs.Ytlpigldogglmcaa
