/- TallyCounts: whatever is counted, all counts are what they must be. No conditions. -/
import Derived.Test.YtlpigldogglmcaaTallyC
import Derived.Test.YtlpigldogglmcaaLaw
import Derived.Test.YtlpigldogglmcaaOpen
set_option linter.unusedVariables false
set_option linter.unusedSimpArgs false
namespace Go.Proofs.Ytlpigldogglmcaa
open Go.ChangeShapes Go.WideShapes Go.ChangeAt Go.RowKit
open Go.Proofs.YtlpigldogglmcaaW.PrintWords

theorem opens_pair8 : Opens Try.prog 59 (Kd.pair (Kd.int .i8) (Kd.int .i8)) (fun x => (Lit.int .i8 x.1).wf = true ∧ (Lit.int .i8 x.2).wf = true) :=
  opens_array2 Try.underlying59 (opens_int Try.underlying58) (by kernel_rfl) (by kernel_rfl)
theorem wf8 {n : Int} (h : (Lit.int .i8 n).wf = true) : -128 ≤ n ∧ n ≤ 127 := by
  simpa [Lit.wf, IntKind.min, IntKind.max, IntKind.signed, IntKind.bits] using h

theorem pairs8 {w : World} {A : Option Addr} {l : List (Int × Int)} (h : (Kd.pair (Kd.int .i8) (Kd.int .i8)).C w A l.length l) (hw : ∀ y ∈ l, (Lit.int .i8 y.1).wf = true ∧ (Lit.int .i8 y.2).wf = true) :
    Pairs8 w A l.length (fun i => (l.getD i (0, 0)).1) (fun i => (l.getD i (0, 0)).2) := by
  intro i hi
  obtain ⟨b, off, c, _, rfl, hc, ⟨c0, c1, rfl, h0, h1⟩, hcell⟩ := C_at h (by decide) hi
  have h0' : c0 = [.int .i8 l[i].1] := h0
  have h1' : c1 = [.int .i8 l[i].2] := h1
  subst h0' h1'
  have g0 := hcell 0 _ rfl
  have g1 := hcell 1 _ rfl
  obtain ⟨w0, w1⟩ := hw _ (List.getElem_mem hi)
  have hx := wf8 w0
  have hy := wf8 w1
  have e : l.getD i (0, 0) = l[i] := by rw [List.getD_eq_getElem?_getD, List.getElem?_eq_getElem hi]; rfl
  simp only [e]
  exact ⟨b, off, rfl, g0, g1, hx.1, hx.2, hy.1, hy.2⟩

set_option maxRecDepth 100000 in
theorem tallyCounts_lifted (os : Os) (started : os.Started) (H : Type) (enc : TypeId × Value → H) :
    ReturnsInHanded {} Try.checked os 6 .any (Rows.tallyCountsSpec.pre6 enc Try.prog Try.f6 Rows.tallyCountsRow.domain false) (Rows.tallyCountsSpec.post enc Try.prog Try.f6 false true false false) := by
  refine returnsInHanded_of_change (C := Try.checked) own started (by kernel_rfl) Try.func6
    (ChangeSpec.witness6 (enc := enc) (C := Try.checked) false ⟨#[], #[.slice none 0 0], []⟩ 8 (by kernel_rfl) (by kernel_rfl) (by kernel_rfl) (by kernel_rfl)) ?_
  intro W base args ds gs before hval0 hW hcnd _
  have hval : ∀ (j : Nat) t v, Try.f6.params[j]? = some t → args[j]? = some v → Value.okWide Try.prog W .any base t v := hval0
  have hW' := hW
  obtain ⟨p, q, hA0, hV, rfl, hfz, hnd⟩ := hW
  have hA : DataW.TrodAll enc Try.prog W 0 (fun _ => true) true Try.f6.params.toList args.toList ds p := hA0
  rw [Try.params6] at hA hval
  obtain ⟨v0, d0, rfl, rfl, h0⟩ := trodAll_one hA
  obtain ⟨A, c, l, rfl, hlc, hC, hl⟩ := open_arg_slice Try.underlying55 opens_pair8 (by kernel_rfl) (hval 0 55 v0 rfl rfl) h0
  clear hA0 hval0
  have walk : Calls Try.prog 6 #[.slice A l.length c] W fun r w' => r = .returned (.bool true) ∧ Fr (fun _ => False) W w' := by
    rcases Nat.lt_or_ge 200 l.length with hlt | hge
    · exact lawCounts_long A l.length c W hlt hC.2.1
    · exact lawCounts A l.length c _ _ W hge (pairs8 hC hl)
  refine walk.mono fun e W' ⟨he, hF⟩ => ⟨_, he, ?_⟩
  exact law_post laidOut (by kernel_rfl) rfl Try.underlying4 rfl rfl (fun x hx => by subst hx; rfl) hW' (hF.below fun _ _ h => h)

theorem TallyCounts : Rows.TallyCountsSaid :=
  OpenClaim.holds_of_wide 6 Try.f6 rfl rfl rfl rfl rfl rfl rfl ⟨rfl, rfl, rfl, rfl, rfl⟩ rfl rfl rfl rfl rfl (by kernel_rfl) Try.func6 (by kernel_rfl)
    (of_decide_eq_true (by kernel_rfl)) (by unfold Func.isWrapper; rw [if_neg (of_decide_eq_false (by kernel_rfl))]; exact ⟨rfl, rfl⟩)
    (fun os started H enc _ => tallyCounts_lifted os started H enc)
end Go.Proofs.Ytlpigldogglmcaa
