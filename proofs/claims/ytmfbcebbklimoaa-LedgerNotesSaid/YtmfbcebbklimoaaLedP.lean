/- The worst of what was counted, in plain words. -/
import Derived.Test.YtmfbcebbklimoaaLedA
set_option linter.unusedVariables false
set_option linter.unusedSimpArgs false
namespace Go.Proofs.Ytmfbcebbklimoaa
open Go.RowKit

def IsWorst (P : Int → Prop) (cnt : Int → Nat) (x : Int) (m : Nat) : Prop :=
  (m = 0 ∧ x = 0 ∧ ∀ e, P e → e ≠ 0 → cnt e = 0) ∨ (0 < m ∧ P x ∧ x ≠ 0 ∧ cnt x = m ∧ ∀ e, P e → e ≠ 0 → cnt e ≤ m ∧ (cnt e = m → x ≤ e))
theorem IsWorst.start (cnt : Int → Nat) : IsWorst (fun _ => False) cnt 0 0 := .inl ⟨rfl, rfl, fun _ h => h.elim⟩
theorem IsWorst.congr {P P' : Int → Prop} {cnt : Int → Nat} {x : Int} {m : Nat} (h : IsWorst P cnt x m) (hp : ∀ e, P e ↔ P' e) : IsWorst P' cnt x m := by
  have : P = P' := funext fun e => propext (hp e)
  rwa [← this]
/-- What the code asks of one more. -/
def worse (x : Int) (m : Nat) (a : Int) (n : Nat) : Prop := a ≠ 0 ∧ (m < n ∨ n = m ∧ a < x)
theorem IsWorst.skip {P : Int → Prop} {cnt : Int → Nat} {x : Int} {m : Nat} (h : IsWorst P cnt x m) {a : Int} (hn : 0 < cnt a) (hw : ¬ worse x m a (cnt a)) : IsWorst (fun e => P e ∨ e = a) cnt x m := by
  unfold worse at hw
  rcases h with ⟨rfl, rfl, h⟩ | ⟨hm, hx, hx0, hc, h⟩
  · refine .inl ⟨rfl, rfl, fun e he h0 => he.elim (fun he => h e he h0) (fun he => ?_)⟩
    subst he
    exact absurd ⟨h0, .inl hn⟩ hw
  · refine .inr ⟨hm, .inl hx, hx0, hc, fun e he h0 => he.elim (fun he => h e he h0) (fun he => ?_)⟩
    subst he
    have h1 : ¬ (m < cnt e ∨ cnt e = m ∧ e < x) := fun h => hw ⟨h0, h⟩
    exact ⟨by omega, fun h => by omega⟩
theorem IsWorst.take {P : Int → Prop} {cnt : Int → Nat} {x : Int} {m : Nat} (h : IsWorst P cnt x m) {a : Int} (hn : 0 < cnt a) (hw : worse x m a (cnt a)) : IsWorst (fun e => P e ∨ e = a) cnt a (cnt a) := by
  obtain ⟨ha, hw⟩ := hw
  refine .inr ⟨hn, .inr rfl, ha, rfl, fun e he h0 => ?_⟩
  rcases he with he | rfl
  · rcases h with ⟨rfl, rfl, h⟩ | ⟨hm, hx, hx0, hc, h⟩
    · have := h e he h0
      exact ⟨by omega, fun h => by omega⟩
    · have := h e he h0
      exact ⟨by omega, fun h => by omega⟩
  · exact ⟨Nat.le_refl _, fun _ => Int.le_refl _⟩
theorem IsWorst.one {P : Int → Prop} {cnt : Int → Nat} {x x' : Int} {m m' : Nat} (h : IsWorst P cnt x m) (h' : IsWorst P cnt x' m') : x = x' ∧ m = m' := by
  rcases h with ⟨rfl, rfl, h⟩ | ⟨hm, hx, hx0, hc, h⟩ <;> rcases h' with ⟨rfl, rfl, h'⟩ | ⟨hm', hx', hx0', hc', h'⟩
  · exact ⟨rfl, rfl⟩
  · have := h x' hx' hx0'
    omega
  · have := h' x hx hx0
    omega
  · have h1 := h x' hx' hx0'
    have h2 := h' x hx hx0
    have h3 : m = m' := by omega
    have h4 := h1.2 (by omega)
    have h5 := h2.2 (by omega)
    exact ⟨by omega, h3⟩
end Go.Proofs.Ytmfbcebbklimoaa
