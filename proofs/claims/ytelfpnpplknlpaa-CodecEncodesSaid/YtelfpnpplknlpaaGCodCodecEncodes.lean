/- CodecEncodes: the law's row. -/
import Derived.Test.YtelfpnpplknlpaaGCod27
import Derived.Test.YtelfpnpplknlpaaGCod25
import Derived.Test.YtelfpnpplknlpaaGCod3
set_option linter.unusedVariables false
set_option linter.unusedSimpArgs false
/- CodecEncodes: the law's row. -/
namespace Go.Proofs.Ytelfpnpplknlpaa
open Go.ChangeShapes Go.WideShapes Go.ChangeAt Go.RowKit
open Go.Proofs.YtelfpnpplknlpaaW.PrintWords


set_option maxRecDepth 100000 in
theorem codecEncodes_lifted (os : Os) (started : os.Started) (H : Type) (enc : TypeId × Value → H) :
    ReturnsInHanded {} Try.checked os 5 .any (Rows.codecEncodesSpec.pre6 enc Try.prog Try.f5 Rows.codecEncodesRow.domain false) (Rows.codecEncodesSpec.post enc Try.prog Try.f5 false true false false) := by
  refine returnsInHanded_of_change (C := Try.checked) own started (by kernel_rfl) Try.func5
    (ChangeSpec.witness6 (enc := enc) (C := Try.checked) false ⟨#[], #[.agg #[.int .i64 0, .int .i64 0, .int .i64 0, .slice none 0 0, .slice none 0 0]], []⟩ 8 (by kernel_rfl) (by kernel_rfl) (by kernel_rfl) (by kernel_rfl)) ?_
  intro W base args ds gs before hval0 hW hcnd _
  have hval : ∀ (j : Nat) t v, Try.f5.params[j]? = some t → args[j]? = some v → Value.okWide Try.prog W .any base t v := hval0
  have hW' := hW
  obtain ⟨p, q, hA0, hV, rfl, hfz, hnd⟩ := hW
  have hA : DataW.TrodAll enc Try.prog W 0 (fun _ => true) true Try.f5.params.toList args.toList ds p := hA0
  rw [Try.params5] at hA hval
  obtain ⟨v0, d0, rfl, rfl, h0⟩ := trodAll_one hA
  obtain ⟨r, Ad, Ab, cd, cb, rfl, hR, hl⟩ := open_arg_rec (hval 0 32 v0 rfl rfl) h0
  clear hA0 hval0
  have walk : Calls Try.prog 5 #[recV r Ad Ab cd cb] W fun r w' => r = .returned (.bool true) ∧ Fr (fun _ => False) W w' :=
    lawEncodes11 r Ad Ab cd cb W hR (fun x hx => ⟨(hl.2.2.2 x hx).2.1, (hl.2.2.2 x hx).2.2⟩)
  refine walk.mono fun e W' ⟨he, hF⟩ => ⟨_, he, ?_⟩
  exact law_post laidOut (by kernel_rfl) rfl Try.underlying4 rfl rfl (fun x hx => by subst hx; rfl) hW' (hF.below fun _ _ h => h)

theorem CodecEncodes : Rows.CodecEncodesSaid :=
  OpenClaim.holds_of_wide 5 Try.f5 rfl rfl rfl rfl rfl rfl rfl ⟨rfl, rfl, rfl, rfl, rfl⟩ rfl rfl rfl rfl rfl (by kernel_rfl) Try.func5 (by kernel_rfl)
    (of_decide_eq_true (by kernel_rfl)) (by unfold Func.isWrapper; rw [if_neg (of_decide_eq_false (by kernel_rfl))]; exact ⟨rfl, rfl⟩)
    (fun os started H enc _ => codecEncodes_lifted os started H enc)
end Go.Proofs.Ytelfpnpplknlpaa
