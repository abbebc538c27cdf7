/- BatchPairs: the law's row. -/
import Derived.Test.YtckcdgmcoomngaaPairs7
import Derived.Test.YtckcdgmcoomngaaOpenC
import Derived.Test.YtckcdgmcoomngaaLaw
import Derived.Test.YtckcdgmcoomngaaOpen
set_option linter.unusedVariables false
set_option linter.unusedSimpArgs false
namespace Go.Proofs.Ytckcdgmcoomngaa
open Go.ChangeShapes Go.WideShapes Go.ChangeAt Go.RowKit
open Go.Proofs.YtckcdgmcoomngaaW.PrintWords


set_option maxRecDepth 100000 in
theorem batchPairs_lifted (os : Os) (started : os.Started) (H : Type) (enc : TypeId × Value → H) :
    ReturnsInHanded {} Try.checked os 6 .any (Rows.batchPairsSpec.pre6 enc Try.prog Try.f6 Rows.batchPairsRow.domain false) (Rows.batchPairsSpec.post enc Try.prog Try.f6 false true false false) := by
  refine returnsInHanded_of_change (C := Try.checked) own started (by kernel_rfl) Try.func6
    (ChangeSpec.witness6 (enc := enc) (C := Try.checked) false ⟨#[], #[.slice none 0 0, .slice none 0 0], []⟩ 8 (by kernel_rfl) (by kernel_rfl) (by kernel_rfl) (by kernel_rfl)) ?_
  intro W base args ds gs before hval0 hW hcnd _
  have hval : ∀ (j : Nat) t v, Try.f6.params[j]? = some t → args[j]? = some v → Value.okWide Try.prog W .any base t v := hval0
  have hW' := hW
  obtain ⟨p, q, hA0, hV, rfl, hfz, hnd⟩ := hW
  have hA : DataW.TrodAll enc Try.prog W 0 (fun _ => true) true Try.f6.params.toList args.toList ds p := hA0
  rw [Try.params6] at hA hval
  obtain ⟨v0, v1, d0, d1, p0, p1, rfl, rfl, rfl, h0, h1⟩ := trodAll_two hA
  obtain ⟨A, c, l, rfl, hlc, hC, hl⟩ := open_arg_slice Try.underlying25 opens_cmd (by kernel_rfl) (hval 0 25 v0 rfl rfl) h0
  obtain ⟨A', c', l', rfl, hlc', hC', hl'⟩ := open_arg_slice Try.underlying25 opens_cmd (by kernel_rfl) (hval 1 25 v1 rfl rfl) h1
  clear hA0 hval0
  have walk : Calls Try.prog 6 #[.slice A l.length c, .slice A' l'.length c'] W fun r w' => r = .returned (.bool true) ∧ Fr (fun _ => False) W w' :=
    lawPairs7 A A' l.length c l'.length c' l l' W hC hC' (fun x hx => ⟨(hl x hx).2.1, (hl x hx).2.2⟩) (fun x hx => ⟨(hl' x hx).2.1, (hl' x hx).2.2⟩)
  refine walk.mono fun e W' ⟨he, hF⟩ => ⟨_, he, ?_⟩
  exact law_post laidOut (by kernel_rfl) rfl Try.underlying4 rfl rfl (fun x hx => by subst hx; rfl) hW' (hF.below fun _ _ h => h)

theorem BatchPairs : Rows.BatchPairsSaid :=
  OpenClaim.holds_of_wide 6 Try.f6 rfl rfl rfl rfl rfl rfl rfl ⟨rfl, rfl, rfl, rfl, rfl⟩ rfl rfl rfl rfl rfl (by kernel_rfl) Try.func6 (by kernel_rfl)
    (of_decide_eq_true (by kernel_rfl)) (by unfold Func.isWrapper; rw [if_neg (of_decide_eq_false (by kernel_rfl))]; exact ⟨rfl, rfl⟩)
    (fun os started H enc _ => batchPairs_lifted os started H enc)
end Go.Proofs.Ytckcdgmcoomngaa
