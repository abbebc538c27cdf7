/- Arguments that are strings, floats; bounds of numbers. -/
import Derived.Test.YtmldjemjjpibmaaDoorOpen
set_option linter.unusedVariables false
set_option linter.unusedSimpArgs false
namespace Go.Proofs.YtmldjemjjpibmaaDoor
open Go.ChangeShapes Go.WideShapes Go.ChangeAt Go.RowKit
open Go.Proofs.YtmldjemjjpibmaaDoorW.PrintWords

/-- An argument of one cell. -/
theorem open_arg_string {P : Program} {t : TypeId} (ht : P.underlying t = some .string)
    {H : Type} {enc : TypeId × Value → H} {w : World} {r : Reach} {b0 : Nat} {v : Value} {x : DataW H} {ps : List MemPlace}
    (hv : Value.okWide P w r b0 t v) (hx : DataW.Trod enc P w 0 (fun _ => true) true t v x ps) :
    ∃ s, v = .string s ∧ s.size ≤ maxLen := by
  obtain ⟨s, rfl⟩ := okWide_string ht hv
  obtain ⟨fuel, hf⟩ := hx
  obtain ⟨s', h, hW⟩ := opens_string ht hf
  have h' : [Value.string s] = [.string s'] := h
  injection h' with h1 _
  injection h1 with h2
  subst h2
  exact ⟨s, rfl, hW⟩
theorem okWide_float {P : Program} {w : World} {r : Reach} {base : Nat} {t : TypeId} {v : Value} (ht : P.underlying t = some (.float .f64)) (h : Value.okWide P w r base t v) : ∃ b, v = .float .f64 b := by
  cases v <;> simp_all [Value.okWide, Cell.okWide, Cell.ok]
  all_goals (try (rename_i k b; cases k <;> simp_all))
theorem open_arg_float {P : Program} {t : TypeId} (ht : P.underlying t = some (.float .f64))
    {H : Type} {enc : TypeId × Value → H} {w : World} {r : Reach} {b0 : Nat} {v : Value} {x : DataW H} {ps : List MemPlace}
    (hv : Value.okWide P w r b0 t v) (hx : DataW.Trod enc P w 0 (fun _ => true) true t v x ps) :
    ∃ b, v = .float .f64 b ∧ b < 2 ^ 64 := by
  obtain ⟨s, rfl⟩ := okWide_float ht hv
  obtain ⟨fuel, hf⟩ := hx
  obtain ⟨s', h, hW⟩ := opens_float ht hf
  have h' : [Value.float .f64 s] = [.float .f64 s'] := h
  injection h' with h1 _
  injection h1 with _ h2
  subst h2
  exact ⟨s, rfl, hW⟩
theorem bnd_u8 {n : Int} (h : (Lit.int .u8 n).wf = true) : 0 ≤ n ∧ n ≤ 255 := by
  simpa [Lit.wf, IntKind.min, IntKind.max, IntKind.signed, IntKind.bits] using h
theorem bnd_i64 {n : Int} (h : (Lit.int .i64 n).wf = true) : -9223372036854775808 ≤ n ∧ n ≤ 9223372036854775807 := by
  simpa [Lit.wf, IntKind.min, IntKind.max, IntKind.signed, IntKind.bits] using h
theorem bnd_u64 {n : Int} (h : (Lit.int .u64 n).wf = true) : ∃ m : Nat, n = m ∧ m < 18446744073709551616 := by
  have h1 : 0 ≤ n ∧ n ≤ 18446744073709551615 := by simpa [Lit.wf, IntKind.min, IntKind.max, IntKind.signed, IntKind.bits] using h
  exact ⟨n.toNat, by omega, by omega⟩
theorem maxLen_le {n : Nat} (h : n ≤ maxLen) : n ≤ 9223372036854775807 := by simp only [maxLen] at h; omega
end Go.Proofs.YtmldjemjjpibmaaDoor
