/- ShuffleRanks: the law's row. -/
import Derived.Test.YtjaajfpnpijacaaShufU
import Derived.Test.YtjaajfpnpijacaaOpenS
import Derived.Test.YtjaajfpnpijacaaLaw
import Derived.Test.YtjaajfpnpijacaaOpen
set_option linter.unusedVariables false
set_option linter.unusedSimpArgs false
namespace Go.Proofs.Ytjaajfpnpijacaa
open Go.ChangeShapes Go.WideShapes Go.ChangeAt Go.RowKit
open Go.Proofs.YtjaajfpnpijacaaW.PrintWords


set_option maxRecDepth 100000 in
theorem shuffleRanks_lifted (os : Os) (started : os.Started) (H : Type) (enc : TypeId × Value → H) :
    ReturnsInHanded {} Try.checked os 4 .any (Rows.shuffleRanksSpec.pre6 enc Try.prog Try.f4 Rows.shuffleRanksRow.domain false) (Rows.shuffleRanksSpec.post enc Try.prog Try.f4 false true false false) := by
  refine returnsInHanded_of_change (C := Try.checked) own started (by kernel_rfl) Try.func4
    (ChangeSpec.witness6 (enc := enc) (C := Try.checked) false ⟨#[], #[.slice none 0 0, .int .i64 0, .int .u64 0], []⟩ 8 (by kernel_rfl) (by kernel_rfl) (by kernel_rfl) (by kernel_rfl)) ?_
  intro W base args ds gs before hval0 hW hcnd _
  have hval : ∀ (j : Nat) t v, Try.f4.params[j]? = some t → args[j]? = some v → Value.okWide Try.prog W .any base t v := hval0
  have hW' := hW
  obtain ⟨p, q, hA0, hV, rfl, hfz, hnd⟩ := hW
  have hA : DataW.TrodAll enc Try.prog W 0 (fun _ => true) true Try.f4.params.toList args.toList ds p := hA0
  rw [Try.params4] at hA hval
  obtain ⟨v0, v1, v2, d0, d1, d2, p0, p1, p2, rfl, rfl, rfl, h0, h1, h2⟩ := trodAll_three hA
  obtain ⟨A, c, l, rfl, hlc, hC, hl⟩ := open_arg_slice Try.underlying24 (opens_int Try.underlying3) (by kernel_rfl) (hval 0 24 v0 rfl rfl) h0
  obtain ⟨n, rfl, hn⟩ := open_int Try.underlying3 (hval 1 3 v1 rfl rfl) h1
  obtain ⟨k0, rfl, hk0⟩ := open_int Try.underlying22 (hval 2 22 v2 rfl rfl) h2
  obtain ⟨k, rfl, hk⟩ := bnd_u64 hk0.2.2
  clear hA0 hval0
  have walk : Calls Try.prog 4 #[.slice A l.length c, .int .i64 n, .int .u64 k] W fun r w' => r = .returned (.bool true) ∧ Fr (fun _ => False) W w' :=
    lawRanks A l.length c l n k W hC hk
  refine walk.mono fun e W' ⟨he, hF⟩ => ⟨_, he, ?_⟩
  exact law_post laidOut (by kernel_rfl) rfl Try.underlying4 rfl rfl (fun x hx => by subst hx; rfl) hW' (hF.below fun _ _ h => h)

theorem ShuffleRanks : Rows.ShuffleRanksSaid :=
  OpenClaim.holds_of_wide 4 Try.f4 rfl rfl rfl rfl rfl rfl rfl ⟨rfl, rfl, rfl, rfl, rfl⟩ rfl rfl rfl rfl rfl (by kernel_rfl) Try.func4 (by kernel_rfl)
    (of_decide_eq_true (by kernel_rfl)) (by unfold Func.isWrapper; rw [if_neg (of_decide_eq_false (by kernel_rfl))]; exact ⟨rfl, rfl⟩)
    (fun os started H enc _ => shuffleRanks_lifted os started H enc)
end Go.Proofs.Ytjaajfpnpijacaa
