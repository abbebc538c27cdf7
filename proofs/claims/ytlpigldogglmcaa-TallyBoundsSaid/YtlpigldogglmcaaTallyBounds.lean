/- TallyBounds: of any counts the bound is told, and whether visits and scans are within it. No conditions. -/
import Derived.Test.YtlpigldogglmcaaTallyL
import Derived.Test.YtlpigldogglmcaaLaw
import Derived.Lib.SmallJoins
set_option linter.unusedVariables false
set_option linter.unusedSimpArgs false
namespace Go.Proofs.Ytlpigldogglmcaa
open Go.ChangeShapes Go.WideShapes Go.ChangeAt Go.RowKit

theorem open_array4 {H : Type} {enc : TypeId × Value → H} {P : Program} {w : World} {r : Reach} {b0 base : Nat} {spare : Nat → Bool} {held : Bool} {t e : TypeId} {k : IntKind} {v : Value} {d : DataW H} {ps : List MemPlace}
    (ht : P.underlying t = some (.array 4 e)) (he : P.underlying e = some (.int k)) (hc : P.cellsOf t = 4) (hce : P.cellsOf e = 1)
    (hv : Value.okWide P w r b0 t v) (h : DataW.Trod enc P w base spare held t v d ps) :
    ∃ x0 x1 x2 x3 : Int, v = .agg #[.int k x0, .int k x1, .int k x2, .int k x3] := by
  simp only [Value.okWide, ht] at hv
  obtain ⟨cs, rfl, hsz, _⟩ := hv
  rw [hc] at hsz
  obtain ⟨c0, c1, c2, c3, rfl⟩ := Joins.array4 hsz
  obtain ⟨fuel, hf⟩ := h
  obtain ⟨xs, m, _, _, _, hl, hx⟩ := DataW.trod_array ht hf
  have get : ∀ i c, i < 4 → (#[c0, c1, c2, c3] : Array Value).toList[i]? = some c → ∃ n, c = .int k n := by
    intro i c hi hci
    have h1 := hx i hi
    rw [hce, Nat.mul_one] at h1
    have h2 : (((Value.agg #[c0, c1, c2, c3]).cells.toList).drop i).take 1 = [c] := by
      simp only [Value.cells] at *
      match i, hi, hci with
      | 0, _, hci => simp at hci; simp [hci]
      | 1, _, hci => simp at hci; simp [hci]
      | 2, _, hci => simp at hci; simp [hci]
      | 3, _, hci => simp at hci; simp [hci]
    rw [h2, List.getElem?_eq_getElem (by omega)] at h1
    obtain ⟨n, h3, _⟩ := DataW.trod_int he h1
    exact ⟨n, by simpa using h3⟩
  obtain ⟨x0, rfl⟩ := get 0 c0 (by omega) rfl
  obtain ⟨x1, rfl⟩ := get 1 c1 (by omega) rfl
  obtain ⟨x2, rfl⟩ := get 2 c2 (by omega) rfl
  obtain ⟨x3, rfl⟩ := get 3 c3 (by omega) rfl
  exact ⟨x0, x1, x2, x3, rfl⟩

set_option maxRecDepth 100000 in
theorem tallyBounds_lifted (os : Os) (started : os.Started) (H : Type) (enc : TypeId × Value → H) :
    ReturnsInHanded {} Try.checked os 5 .any (Rows.tallyBoundsSpec.pre6 enc Try.prog Try.f5 Rows.tallyBoundsRow.domain false) (Rows.tallyBoundsSpec.post enc Try.prog Try.f5 false true false false) := by
  refine returnsInHanded_of_change (C := Try.checked) own started (by kernel_rfl) Try.func5
    (ChangeSpec.witness6 (enc := enc) (C := Try.checked) false ⟨#[], #[.int .i64 0, .int .i64 0, .agg #[.int .i64 0, .int .i64 0, .int .i64 0, .int .i64 0]], []⟩ 8 (by kernel_rfl) (by kernel_rfl) (by kernel_rfl) (by kernel_rfl)) ?_
  intro W base args ds gs before hval0 hW hcnd _
  have hval : ∀ (j : Nat) t v, Try.f5.params[j]? = some t → args[j]? = some v → Value.okWide Try.prog W .any base t v := hval0
  have hW' := hW
  obtain ⟨p, q, hA0, hV, rfl, hfz, hnd⟩ := hW
  have hA : DataW.TrodAll enc Try.prog W 0 (fun _ => true) true Try.f5.params.toList args.toList ds p := hA0
  rw [Try.params5] at hA hval
  obtain ⟨v0, v1, v2, d0, d1, d2, p0, p1, p2, rfl, rfl, rfl, h0, h1, h2⟩ := trodAll_three hA
  obtain ⟨a, rfl, _⟩ := open_int Try.underlying2 (hval 0 2 v0 rfl rfl) h0
  obtain ⟨b, rfl, _⟩ := open_int Try.underlying2 (hval 1 2 v1 rfl rfl) h1
  obtain ⟨x0, x1, x2, x3, rfl⟩ := open_array4 Try.underlying49 Try.underlying2 (by kernel_rfl) (by kernel_rfl) (hval 2 49 v2 rfl rfl) h2
  clear hA0 hval0
  refine (lawBounds a b x0 x1 x2 x3 W).mono fun e W' ⟨he, hF⟩ => ⟨_, he, ?_⟩
  exact law_post laidOut (by kernel_rfl) rfl Try.underlying4 rfl rfl (fun x hx => by subst hx; rfl) hW' (hF.below fun _ _ h => h)

theorem TallyBounds : Rows.TallyBoundsSaid :=
  OpenClaim.holds_of_wide 5 Try.f5 rfl rfl rfl rfl rfl rfl rfl ⟨rfl, rfl, rfl, rfl, rfl⟩ rfl rfl rfl rfl rfl (by kernel_rfl) Try.func5 (by kernel_rfl)
    (of_decide_eq_true (by kernel_rfl)) (by unfold Func.isWrapper; rw [if_neg (of_decide_eq_false (by kernel_rfl))]; exact ⟨rfl, rfl⟩)
    (fun os started H enc _ => tallyBounds_lifted os started H enc)
end Go.Proofs.Ytlpigldogglmcaa
