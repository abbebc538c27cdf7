/- VaultSwaps: the law's row. -/
import Derived.Test.YtepfhcimmbkilaaGVaultSwaps8
import Derived.Test.YtepfhcimmbkilaaGVaultSwaps1
set_option linter.unusedVariables false
set_option linter.unusedSimpArgs false
/- VaultSwaps: the law's row. -/
namespace Go.Proofs.Ytepfhcimmbkilaa
open Go.ChangeShapes Go.WideShapes Go.ChangeAt Go.RowKit
open Go.Proofs.YtepfhcimmbkilaaW.PrintWords


theorem item_arr {cs : Array Value} {l : List Value} (h : cs.toList = l) : cs = l.toArray := by rw [← h]

set_option maxRecDepth 100000 in
theorem vaultSwaps_lifted (os : Os) (started : os.Started) (H : Type) (enc : TypeId × Value → H) :
    ReturnsInHanded {} Try.checked os 4 .any (Rows.vaultSwapsSpec.pre6 enc Try.prog Try.f4 Rows.vaultSwapsRow.domain false) (Rows.vaultSwapsSpec.post enc Try.prog Try.f4 false true false false) := by
  refine returnsInHanded_of_change (C := Try.checked) own started (by kernel_rfl) Try.func4
    (ChangeSpec.witness6 (enc := enc) (C := Try.checked) false ⟨#[], #[.slice none 0 0, .agg #[.int .i64 0, .int .i64 0, .slice none 0 0], .agg #[.int .i64 0, .int .i64 0, .slice none 0 0]], []⟩ 8 (by kernel_rfl) (by kernel_rfl) (by kernel_rfl) (by kernel_rfl)) ?_
  intro W base args ds gs before hval0 hW hcnd _
  have hval : ∀ (j : Nat) t v, Try.f4.params[j]? = some t → args[j]? = some v → Value.okWide Try.prog W .any base t v := hval0
  have hW' := hW
  obtain ⟨p, q, hA0, hV, rfl, hfz, hnd⟩ := hW
  have hA : DataW.TrodAll enc Try.prog W 0 (fun _ => true) true Try.f4.params.toList args.toList ds p := hA0
  rw [Try.params4] at hA hval
  obtain ⟨v0, v1, v2, d0, d1, d2, p0, p1, p2, rfl, rfl, rfl, h0, h1, h2⟩ := trodAll_three hA
  obtain ⟨A, c, l, rfl, hlc, hC, hl⟩ := open_arg_slice Try.underlying22 opens_item (by kernel_rfl) (hval 0 22 v0 rfl rfl) h0
  obtain ⟨cs1, a, rfl, ha, hao⟩ := open_arg_struct Try.underlying30 opens_item (hval 1 30 v1 rfl rfl) h1
  obtain ⟨cs2, b, rfl, hb, hbo⟩ := open_arg_struct Try.underlying30 opens_item (hval 2 30 v2 rfl rfl) h2
  obtain ⟨Aa, ca, hca, hla, hCa⟩ := itemK_K ha
  obtain ⟨Ab, cb, hcb, hlb, hCb⟩ := itemK_K hb
  obtain rfl := item_arr hca
  obtain rfl := item_arr hcb
  clear hA0 hval0
  have walk : Calls Try.prog 4 #[.slice A l.length c, .agg #[.int .i64 a.1.1, .int .i64 a.1.2, .slice Aa a.2.length ca], .agg #[.int .i64 b.1.1, .int .i64 b.1.2, .slice Ab b.2.length cb]] W fun r w' => r = .returned (.bool true) ∧ Fr (fun _ => False) W w' :=
    lawSwaps13 A l.length c l a b Aa Ab ca cb W hC (fun it hi x hx => ⟨((hl it hi).2 x hx).2.1, ((hl it hi).2 x hx).2.2⟩) hla hlb hCa hCb (fun x hx => ⟨(hao.2 x hx).2.1, (hao.2 x hx).2.2⟩) (fun x hx => ⟨(hbo.2 x hx).2.1, (hbo.2 x hx).2.2⟩)
  refine walk.mono fun e W' ⟨he, hF⟩ => ⟨_, he, ?_⟩
  exact law_post laidOut (by kernel_rfl) rfl Try.underlying4 rfl rfl (fun x hx => by subst hx; rfl) hW' (hF.below fun _ _ h => h)

theorem VaultSwaps : Rows.VaultSwapsSaid :=
  OpenClaim.holds_of_wide 4 Try.f4 rfl rfl rfl rfl rfl rfl rfl ⟨rfl, rfl, rfl, rfl, rfl⟩ rfl rfl rfl rfl rfl (by kernel_rfl) Try.func4 (by kernel_rfl)
    (of_decide_eq_true (by kernel_rfl)) (by unfold Func.isWrapper; rw [if_neg (of_decide_eq_false (by kernel_rfl))]; exact ⟨rfl, rfl⟩)
    (fun os started H enc _ => vaultSwaps_lifted os started H enc)
end Go.Proofs.Ytepfhcimmbkilaa
