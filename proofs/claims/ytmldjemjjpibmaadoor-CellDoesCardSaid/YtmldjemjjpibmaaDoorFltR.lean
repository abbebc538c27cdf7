/- Floats told by the program: bits, the one NaN, the same. -/
import Derived.Test.YtmldjemjjpibmaaDoorFlt
set_option linter.unusedVariables false
set_option linter.unusedSimpArgs false
namespace Go.Proofs.YtmldjemjjpibmaaDoor
open Go.RowKit

theorem ex_bits (b : Nat) (w : World) : (callFunc 41 #[.float .f64 b]).run Tryd.prog w = .ok (.value (.int .u64 b)) w := by
  rw [run_callFunc_extern Tryd.func41 (by kernel_rfl) (by kernel_rfl) (by kernel_rfl) (e := Extern.MathFloatBits.float64bits) (by kernel_rfl)]
  rfl
theorem ex_from (b : Nat) (w : World) : (callFunc 40 #[.int .u64 b]).run Tryd.prog w = .ok (.value (.float .f64 b)) w := by
  rw [run_callFunc_extern Tryd.func40 (by kernel_rfl) (by kernel_rfl) (by kernel_rfl) (e := Extern.MathFloatBits.float64frombits) (by kernel_rfl)]
  rfl

open Go.RowKit

def canonP (x : Nat) : Nat := if nanW x then 9221120237041090561 else x
theorem real_canon (x : Nat) (w : World) : Calls Tryd.prog 29 #[.float .f64 x] w fun r w' => r = .returned (.float .f64 (canonP x)) ∧ w = w' := by
  have hf : ∀ w : World, (callFunc 40 #[.int .u64 9221120237041090561]).run Tryd.prog w = .ok (.value (.float .f64 9221120237041090561)) w := ex_from 9221120237041090561
  by_cases hn : nanW x
  · have h1 := ford_nan (x := x) (y := x) (.inl hn)
    have hk : canonP x = 9221120237041090561 := by unfold canonP; rw [if_pos hn]
    rw [hk]
    clear hn hk
    go_enter Tryd.func29, Tryd.ntmps29
    go_wp2_with fail
    go_ret
    exact ⟨rfl, rfl⟩
  · have h1 := ford_self hn
    have hk : canonP x = x := by unfold canonP; rw [if_neg hn]
    rw [hk]
    clear hn hk
    go_enter Tryd.func29, Tryd.ntmps29
    go_wp2_with fail
    go_ret
    exact ⟨rfl, rfl⟩
theorem real_bits (x : Nat) (w : World) : Calls Tryd.prog 32 #[.float .f64 x] w fun r w' => r = .returned (.int .u64 (canonP x)) ∧ w = w' := by
  have hf := ex_bits (canonP x)
  go_enter Tryd.func32, Tryd.ntmps32
  go_wp2_with fail
  refine (real_canon x w).mono ?_
  rintro r w1 ⟨rfl, rfl⟩
  go_wp2_with fail
  go_ret
  exact ⟨rfl, rfl⟩
theorem key_canon {x y : Nat} (hx : x < 18446744073709551616) (hy : y < 18446744073709551616) : canonP x = canonP y ↔ key x = key y := by
  have hc : nanW 9221120237041090561 := by decide +kernel
  have e : ∀ x : Nat, x < 18446744073709551616 → x = if negW x then 9223372036854775808 + rung x else rung x := by
    intro x hx
    unfold negW rung
    have : x / 9223372036854775808 = 0 ∨ x / 9223372036854775808 = 1 := by omega
    rcases this with h | h <;> rw [h] <;> simp <;> omega
  have ex := e x hx
  have ey := e y hy
  have bx : rung x < 9223372036854775808 := Nat.mod_lt _ (by omega)
  have bY : rung y < 9223372036854775808 := Nat.mod_lt _ (by omega)
  unfold canonP key
  by_cases h1 : nanW x <;> by_cases h2 : nanW y
  · rw [if_pos h1, if_pos h2, if_pos h1, if_pos h2]; simp
  · rw [if_pos h1, if_neg h2, if_pos h1, if_neg h2]
    refine ⟨fun h => absurd (h ▸ hc) h2, fun h => ?_⟩
    exfalso
    split at h <;> omega
  · rw [if_neg h1, if_pos h2, if_neg h1, if_pos h2]
    refine ⟨fun h => absurd (h ▸ hc) h1, fun h => ?_⟩
    exfalso
    split at h <;> omega
  · rw [if_neg h1, if_neg h2, if_neg h1, if_neg h2]
    refine ⟨fun h => by rw [h], fun h => ?_⟩
    rw [ex, ey]
    cases hA : negW x <;> cases hB : negW y <;> rw [hA, hB] at h <;> simp only [if_true, if_false, Bool.false_eq_true] at h ⊢ <;> omega
theorem real_same (x y : Nat) (w : World) (hx : x < 18446744073709551616) (hy : y < 18446744073709551616) : Calls Tryd.prog 22 #[.float .f64 x, .float .f64 y] w fun r w' => r = .returned (.bool (decide (key x = key y))) ∧ w = w' := by
  have hc : decide (key x = key y) = ((canonP x : Int) == (canonP y : Int)) := by
    rw [Bool.eq_iff_iff, decide_eq_true_iff, beq_iff_eq, ← key_canon hx hy]
    omega
  rw [hc]
  clear hc
  go_enter Tryd.func22, Tryd.ntmps22
  go_wp2_with fail
  refine (real_bits x w).mono ?_
  rintro r w1 ⟨rfl, rfl⟩
  go_wp2_with fail
  refine (real_bits y w).mono ?_
  rintro r w1 ⟨rfl, rfl⟩
  go_wp2_with fail
  go_ret
  exact ⟨rfl, rfl⟩
end Go.Proofs.YtmldjemjjpibmaaDoor
