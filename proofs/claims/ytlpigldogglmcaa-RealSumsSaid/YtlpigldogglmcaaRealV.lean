/- Layer 1, on: Canon, Bits, Same, Order; the document's greatest number, kind. -/
import Derived.Test.YtlpigldogglmcaaRealW
set_option linter.unusedVariables false
set_option linter.unusedSimpArgs false
namespace Go.Proofs.Ytlpigldogglmcaa
open Go.RowKit

def canonP (x : Nat) : Nat := if nanW x then 9221120237041090561 else x
theorem ford_self {x : Nat} (h : ¬ nanW x) : ford x x = some .eq := ford_eq h h rfl
theorem real_canon (x : Nat) (w : World) : Calls Try.prog 67 #[.float .f64 x] w fun r w' => r = .returned (.float .f64 (canonP x)) ∧ w = w' := by
  have hf : ∀ w : World, (callFunc 86 #[.int .u64 9221120237041090561]).run Try.prog w = .ok (.value (.float .f64 9221120237041090561)) w := ex_from 9221120237041090561
  by_cases hn : nanW x
  · have h1 := ford_nan (x := x) (y := x) (.inl hn)
    have hk : canonP x = 9221120237041090561 := by unfold canonP; rw [if_pos hn]
    rw [hk]
    clear hn hk
    go_enter Try.func67, Try.ntmps67
    go_wp2_with fail
    go_ret
    exact ⟨rfl, rfl⟩
  · have h1 := ford_self hn
    have hk : canonP x = x := by unfold canonP; rw [if_neg hn]
    rw [hk]
    clear hn hk
    go_enter Try.func67, Try.ntmps67
    go_wp2_with fail
    go_ret
    exact ⟨rfl, rfl⟩
theorem real_bits (x : Nat) (w : World) : Calls Try.prog 69 #[.float .f64 x] w fun r w' => r = .returned (.int .u64 (canonP x)) ∧ w = w' := by
  have hf := ex_bits (canonP x)
  go_enter Try.func69, Try.ntmps69
  go_wp2_with fail
  refine (real_canon x w).mono ?_
  rintro r w1 ⟨rfl, rfl⟩
  go_wp2_with fail
  go_ret
  exact ⟨rfl, rfl⟩
/-- How a number stands: the NaNs first, then the rest, -0 ahead of +0. -/
def key (x : Nat) : Int := if nanW x then -18446744073709551616 else if negW x then -(rung x : Int) - 1 else rung x
theorem key_canon {x y : Nat} (hx : x < 18446744073709551616) (hy : y < 18446744073709551616) : canonP x = canonP y ↔ key x = key y := by
  have hc : nanW 9221120237041090561 := by decide +kernel
  have e : ∀ x : Nat, x < 18446744073709551616 → x = if negW x then 9223372036854775808 + rung x else rung x := by
    intro x hx
    unfold negW rung
    have : x / 9223372036854775808 = 0 ∨ x / 9223372036854775808 = 1 := by omega
    rcases this with h | h <;> rw [h] <;> simp <;> omega
  have ex := e x hx
  have ey := e y hy
  have bx : rung x < 9223372036854775808 := Nat.mod_lt _ (by omega)
  have bY : rung y < 9223372036854775808 := Nat.mod_lt _ (by omega)
  unfold canonP key
  by_cases h1 : nanW x <;> by_cases h2 : nanW y
  · rw [if_pos h1, if_pos h2, if_pos h1, if_pos h2]; simp
  · rw [if_pos h1, if_neg h2, if_pos h1, if_neg h2]
    refine ⟨fun h => absurd (h ▸ hc) h2, fun h => ?_⟩
    exfalso
    split at h <;> omega
  · rw [if_neg h1, if_pos h2, if_neg h1, if_pos h2]
    refine ⟨fun h => absurd (h ▸ hc) h1, fun h => ?_⟩
    exfalso
    split at h <;> omega
  · rw [if_neg h1, if_neg h2, if_neg h1, if_neg h2]
    refine ⟨fun h => by rw [h], fun h => ?_⟩
    rw [ex, ey]
    cases hA : negW x <;> cases hB : negW y <;> rw [hA, hB] at h <;> simp only [if_true, if_false, Bool.false_eq_true] at h ⊢ <;> omega
theorem real_same (x y : Nat) (w : World) (hx : x < 18446744073709551616) (hy : y < 18446744073709551616) : Calls Try.prog 62 #[.float .f64 x, .float .f64 y] w fun r w' => r = .returned (.bool (decide (key x = key y))) ∧ w = w' := by
  have hc : decide (key x = key y) = ((canonP x : Int) == (canonP y : Int)) := by
    rw [Bool.eq_iff_iff, decide_eq_true_iff, beq_iff_eq, ← key_canon hx hy]
    omega
  rw [hc]
  clear hc
  go_enter Try.func62, Try.ntmps62
  go_wp2_with fail
  refine (real_bits x w).mono ?_
  rintro r w1 ⟨rfl, rfl⟩
  go_wp2_with fail
  refine (real_bits y w).mono ?_
  rintro r w1 ⟨rfl, rfl⟩
  go_wp2_with fail
  go_ret
  exact ⟨rfl, rfl⟩

theorem key_kind (x y : Nat) : (kindP x < kindP y → key x < key y) ∧ (kindP x = kindP y → (nanW x ∧ nanW y ∧ key x = key y) ∨ (¬ nanW x ∧ ¬ nanW y ∧ (rank x < rank y → key x < key y) ∧ (rank y < rank x → key y < key x) ∧ (rank x = rank y → key x = key y))) := by
  have hz : ∀ x : Nat, key x = if nanW x then -18446744073709551616 else if negW x then -(rung x : Int) - 1 else rung x := fun _ => rfl
  have bx : rung x < 9223372036854775808 := Nat.mod_lt _ (by omega)
  have bY : rung y < 9223372036854775808 := Nat.mod_lt _ (by omega)
  unfold kindP key rank
  by_cases h1 : nanW x <;> by_cases h2 : nanW y
  · simp only [h1, h2, if_true]
    exact ⟨fun h => by omega, fun _ => .inl ⟨trivial, trivial, trivial⟩⟩
  all_goals cases hA : negW x <;> cases hB : negW y <;> simp only [h1, h2, if_true, if_false, Bool.false_eq_true, not_true, not_false_iff, true_and, false_and, and_false, or_false, false_or] <;> unfold nanW at h1 h2 <;> (repeat' split) <;> omega
/-- How two stand. -/
def sgn (a b : Int) : Int := if a < b then -1 else if b < a then 1 else 0
end Go.Proofs.Ytlpigldogglmcaa
