/- LedgerNotes: the law's row. -/
import Derived.Test.YtmfbcebbklimoaaNotes28
import Derived.Test.YtmfbcebbklimoaaOpenR
import Derived.Test.YtmfbcebbklimoaaOpenS
import Derived.Test.YtmfbcebbklimoaaLaw
import Derived.Test.YtmfbcebbklimoaaOpen
set_option linter.unusedVariables false
set_option linter.unusedSimpArgs false
namespace Go.Proofs.Ytmfbcebbklimoaa
open Go.ChangeShapes Go.WideShapes Go.ChangeAt Go.RowKit
open Go.Proofs.YtmfbcebbklimoaaW.PrintWords


theorem opens_ent : Opens Try.prog 35 entK (fun x => (Lit.int .i64 x.1).wf = true ∧ (IdOk x.2.1 ∧ (Lit.int .i64 x.2.2.1).wf = true ∧ (∀ y ∈ x.2.2.2.1, IdOk y) ∧ ∀ y ∈ x.2.2.2.2, (Lit.int .i64 y.1).wf = true ∧ y.2.1.size ≤ maxLen ∧ y.2.2 < 2 ^ 64)) :=
  opens_struct2 Try.underlying35 (opens_int Try.underlying23) opens_rec (by kernel_rfl) (by kernel_rfl) rfl rfl (by kernel_rfl)

set_option maxRecDepth 100000 in
theorem ledgerNotes_lifted (os : Os) (started : os.Started) (H : Type) (enc : TypeId × Value → H) :
    ReturnsInHanded {} Try.checked os 3 .any (Rows.ledgerNotesSpec.pre6 enc Try.prog Try.f3 Rows.ledgerNotesRow.domain false) (Rows.ledgerNotesSpec.post enc Try.prog Try.f3 false true false false) := by
  refine returnsInHanded_of_change (C := Try.checked) own started (by kernel_rfl) Try.func3
    (ChangeSpec.witness6 (enc := enc) (C := Try.checked) false ⟨#[], #[.slice none 0 0, .int .i64 0, .int .u8 0], []⟩ 8 (by kernel_rfl) (by kernel_rfl) (by kernel_rfl) (by kernel_rfl)) ?_
  intro W base args ds gs before hval0 hW hcnd _
  have hval : ∀ (j : Nat) t v, Try.f3.params[j]? = some t → args[j]? = some v → Value.okWide Try.prog W .any base t v := hval0
  have hW' := hW
  obtain ⟨p, q, hA0, hV, rfl, hfz, hnd⟩ := hW
  have hA : DataW.TrodAll enc Try.prog W 0 (fun _ => true) true Try.f3.params.toList args.toList ds p := hA0
  rw [Try.params3] at hA hval
  obtain ⟨v0, v1, v2, d0, d1, d2, p0, p1, p2, rfl, rfl, rfl, h0, h1, h2⟩ := trodAll_three hA
  obtain ⟨A, c, l, rfl, hlc, hC, hl⟩ := open_arg_slice Try.underlying22 opens_ent (by kernel_rfl) (hval 0 22 v0 rfl rfl) h0
  obtain ⟨e, rfl, he⟩ := open_int Try.underlying23 (hval 1 23 v1 rfl rfl) h1
  obtain ⟨tw, rfl, htw⟩ := open_int Try.underlying5 (hval 2 5 v2 rfl rfl) h2
  obtain ⟨ht0, ht1⟩ := bnd_u8 htw.2.2
  clear hA0 hval0
  have walk : Calls Try.prog 3 #[.slice A l.length c, .int .i64 e, .int .u8 tw] W fun r w' => r = .returned (.bool true) ∧ Fr (fun _ => False) W w' :=
    lawNotes28 A l.length c l e tw W hC (fun a ha => ⟨(hl a ha).1, fun x hx => ((hl a ha).2.2.2.2 x hx).2.2⟩) he.2.2 (by omega) (by omega)
  refine walk.mono fun e W' ⟨he, hF⟩ => ⟨_, he, ?_⟩
  exact law_post laidOut (by kernel_rfl) rfl Try.underlying4 rfl rfl (fun x hx => by subst hx; rfl) hW' (hF.below fun _ _ h => h)

theorem LedgerNotes : Rows.LedgerNotesSaid :=
  OpenClaim.holds_of_wide 3 Try.f3 rfl rfl rfl rfl rfl rfl rfl ⟨rfl, rfl, rfl, rfl, rfl⟩ rfl rfl rfl rfl rfl (by kernel_rfl) Try.func3 (by kernel_rfl)
    (of_decide_eq_true (by kernel_rfl)) (by unfold Func.isWrapper; rw [if_neg (of_decide_eq_false (by kernel_rfl))]; exact ⟨rfl, rfl⟩)
    (fun os started H enc _ => ledgerNotes_lifted os started H enc)
end Go.Proofs.Ytmfbcebbklimoaa
