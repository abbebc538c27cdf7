/- CodecDamaged: the law's row. -/
import Derived.Test.YtelfpnpplknlpaaGCod25
import Derived.Test.YtelfpnpplknlpaaGCod3
set_option linter.unusedVariables false
set_option linter.unusedSimpArgs false
/- CodecDamaged: the law's row. -/
namespace Go.Proofs.Ytelfpnpplknlpaa
open Go.ChangeShapes Go.WideShapes Go.ChangeAt Go.RowKit
open Go.Proofs.YtelfpnpplknlpaaW.PrintWords


theorem bnd_u16 {n : Int} (h : (Lit.int .u16 n).wf = true) : 0 ≤ n ∧ n ≤ 65535 := by
  simpa [Lit.wf, IntKind.min, IntKind.max, IntKind.signed, IntKind.bits] using h

set_option maxRecDepth 100000 in
theorem codecDamaged_lifted (os : Os) (started : os.Started) (H : Type) (enc : TypeId × Value → H) :
    ReturnsInHanded {} Try.checked os 4 .any (Rows.codecDamagedSpec.pre6 enc Try.prog Try.f4 Rows.codecDamagedRow.domain false) (Rows.codecDamagedSpec.post enc Try.prog Try.f4 false true false false) := by
  refine returnsInHanded_of_change (C := Try.checked) own started (by kernel_rfl) Try.func4
    (ChangeSpec.witness6 (enc := enc) (C := Try.checked) false ⟨#[], #[.agg #[.int .i64 0, .int .i64 0, .int .i64 0, .slice none 0 0, .slice none 0 0], .int .u16 0, .int .u8 0], []⟩ 8 (by kernel_rfl) (by kernel_rfl) (by kernel_rfl) (by kernel_rfl)) ?_
  intro W base args ds gs before hval0 hW hcnd _
  have hval : ∀ (j : Nat) t v, Try.f4.params[j]? = some t → args[j]? = some v → Value.okWide Try.prog W .any base t v := hval0
  have hW' := hW
  obtain ⟨p, q, hA0, hV, rfl, hfz, hnd⟩ := hW
  have hA : DataW.TrodAll enc Try.prog W 0 (fun _ => true) true Try.f4.params.toList args.toList ds p := hA0
  rw [Try.params4] at hA hval
  obtain ⟨v0, v1, v2, d0, d1, d2, p0, p1, p2, rfl, rfl, rfl, h0, h1, h2⟩ := trodAll_three hA
  obtain ⟨r, Ad, Ab, cd, cb, rfl, hR, hl⟩ := open_arg_rec (hval 0 32 v0 rfl rfl) h0
  obtain ⟨n, rfl, hnw⟩ := open_int Try.underlying40 (hval 1 40 v1 rfl rfl) h1
  obtain ⟨ha0, ha1⟩ := bnd_u16 hnw.2.2
  obtain ⟨b, rfl, hmw⟩ := open_int Try.underlying5 (hval 2 5 v2 rfl rfl) h2
  obtain ⟨hb0, hb1⟩ := bnd_u8 hmw.2.2
  clear hA0 hval0
  have walk : Calls Try.prog 4 #[recV r Ad Ab cd cb, .int .u16 n, .int .u8 b] W fun r w' => r = .returned (.bool true) ∧ Fr (fun _ => False) W w' :=
    lawDamaged11 r Ad Ab cd cb n b W hR (fun x hx => ⟨(hl.2.2.2 x hx).2.1, (hl.2.2.2 x hx).2.2⟩) ha0 ha1 hb0 hb1
  refine walk.mono fun e W' ⟨he, hF⟩ => ⟨_, he, ?_⟩
  exact law_post laidOut (by kernel_rfl) rfl Try.underlying4 rfl rfl (fun x hx => by subst hx; rfl) hW' (hF.below fun _ _ h => h)

theorem CodecDamaged : Rows.CodecDamagedSaid :=
  OpenClaim.holds_of_wide 4 Try.f4 rfl rfl rfl rfl rfl rfl rfl ⟨rfl, rfl, rfl, rfl, rfl⟩ rfl rfl rfl rfl rfl (by kernel_rfl) Try.func4 (by kernel_rfl)
    (of_decide_eq_true (by kernel_rfl)) (by unfold Func.isWrapper; rw [if_neg (of_decide_eq_false (by kernel_rfl))]; exact ⟨rfl, rfl⟩)
    (fun os started H enc _ => codecDamaged_lifted os started H enc)
end Go.Proofs.Ytelfpnpplknlpaa
