/- WireGets: the law's row. -/
import Derived.Test.YtlpigldogglmcaaWireL
import Derived.Test.YtlpigldogglmcaaLaw
import Derived.Test.YtlpigldogglmcaaOpen
set_option linter.unusedVariables false
set_option linter.unusedSimpArgs false
namespace Go.Proofs.Ytlpigldogglmcaa
open Go.ChangeShapes Go.WideShapes Go.ChangeAt Go.RowKit
open Go.Proofs.YtlpigldogglmcaaW.PrintWords


theorem byt_wf {l : List Int} (h : ∀ y ∈ l, (Lit.int .u8 y).wf = true) : Byt l := by
  intro y hy
  have := h y hy
  simpa [Lit.wf, IntKind.min, IntKind.max, IntKind.signed, IntKind.bits] using this
theorem wf_u8 {n : Int} (h : (Lit.int .u8 n).wf = true) : 0 ≤ n ∧ n ≤ 255 := by
  simpa [Lit.wf, IntKind.min, IntKind.max, IntKind.signed, IntKind.bits] using h

set_option maxRecDepth 100000 in
theorem wireGets_lifted (os : Os) (started : os.Started) (H : Type) (enc : TypeId × Value → H) :
    ReturnsInHanded {} Try.checked os 7 .any (Rows.wireGetsSpec.pre6 enc Try.prog Try.f7 Rows.wireGetsRow.domain false) (Rows.wireGetsSpec.post enc Try.prog Try.f7 false true false false) := by
  refine returnsInHanded_of_change (C := Try.checked) own started (by kernel_rfl) Try.func7
    (ChangeSpec.witness6 (enc := enc) (C := Try.checked) false ⟨#[], #[.slice none 0 0, .int .u8 0], []⟩ 8 (by kernel_rfl) (by kernel_rfl) (by kernel_rfl) (by kernel_rfl)) ?_
  intro W base args ds gs before hval0 hW hcnd _
  have hval : ∀ (j : Nat) t v, Try.f7.params[j]? = some t → args[j]? = some v → Value.okWide Try.prog W .any base t v := hval0
  have hW' := hW
  obtain ⟨p, q, hA0, hV, rfl, hfz, hnd⟩ := hW
  have hA : DataW.TrodAll enc Try.prog W 0 (fun _ => true) true Try.f7.params.toList args.toList ds p := hA0
  rw [Try.params7] at hA hval
  obtain ⟨v0, v1, d0, d1, p0, p1, rfl, rfl, rfl, h0, h1⟩ := trodAll_two hA
  obtain ⟨A, c, l, rfl, hlc, hC, hl⟩ := open_arg_slice Try.underlying39 (opens_int Try.underlying5) (by kernel_rfl) (hval 0 39 v0 rfl rfl) h0
  obtain ⟨most, rfl, hmw⟩ := open_int Try.underlying5 (hval 1 5 v1 rfl rfl) h1
  have hm := wf_u8 hmw.2.2
  clear hA0 hval0
  have walk : Calls Try.prog 7 #[.slice A l.length c, .int .u8 most] W fun r w' => r = .returned (.bool true) ∧ Fr (fun _ => False) W w' := by
    rcases Nat.lt_or_ge 1000 l.length with hlt | hge
    · exact lawGets_long A l.length c most W hlt hC.2.1
    · exact lawGets A l c most W hge hlc (Kd.reads_of_C (enc := Value.int .u8) (d := (0 : Int)) (h1 := fun _ => rfl) hC) (byt_wf hl) hm.1 hm.2
  refine walk.mono fun e W' ⟨he, hF⟩ => ⟨_, he, ?_⟩
  exact law_post laidOut (by kernel_rfl) rfl Try.underlying4 rfl rfl (fun x hx => by subst hx; rfl) hW' (hF.below fun _ _ h => h)

theorem WireGets : Rows.WireGetsSaid :=
  OpenClaim.holds_of_wide 7 Try.f7 rfl rfl rfl rfl rfl rfl rfl ⟨rfl, rfl, rfl, rfl, rfl⟩ rfl rfl rfl rfl rfl (by kernel_rfl) Try.func7 (by kernel_rfl)
    (of_decide_eq_true (by kernel_rfl)) (by unfold Func.isWrapper; rw [if_neg (of_decide_eq_false (by kernel_rfl))]; exact ⟨rfl, rfl⟩)
    (fun os started H enc _ => wireGets_lifted os started H enc)
end Go.Proofs.Ytlpigldogglmcaa
