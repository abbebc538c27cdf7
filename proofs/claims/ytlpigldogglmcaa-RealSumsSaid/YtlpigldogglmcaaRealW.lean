/- Layer 1's functions and the document's, each walked once. -/
import Derived.Test.YtlpigldogglmcaaRealP
import Derived.Test.YtlpigldogglmcaaLaw
import Derived.Laws.Externs
import Derived.Laws.FloatArith
set_option linter.unusedVariables false
set_option linter.unusedSimpArgs false
namespace Go.Proofs.Ytlpigldogglmcaa
open Go.RowKit

abbrev fl (b : Nat) : Value := .float .f64 b
abbrev ford (x y : Nat) : Option Ordering := FloatKind.f64.format.order x y
theorem ex_bits (b : Nat) (w : World) : (callFunc 87 #[.float .f64 b]).run Try.prog w = .ok (.value (.int .u64 b)) w := by
  rw [run_callFunc_extern Try.func87 (by kernel_rfl) (by kernel_rfl) (by kernel_rfl) (e := Extern.MathFloatBits.float64bits) (by kernel_rfl)]
  rfl
theorem ex_from (b : Nat) (w : World) : (callFunc 86 #[.int .u64 b]).run Try.prog w = .ok (.value (.float .f64 b)) w := by
  rw [run_callFunc_extern Try.func86 (by kernel_rfl) (by kernel_rfl) (by kernel_rfl) (e := Extern.MathFloatBits.float64frombits) (by kernel_rfl)]
  rfl
theorem ref_nan (x : Nat) (w : World) : Calls Try.prog 68 #[.float .f64 x] w fun r w' => r = .returned (.bool (ford x x != some .eq)) ∧ w = w' := by
  go_enter Try.func68, Try.ntmps68
  go_wp2_with fail
  go_ret
  exact ⟨rfl, rfl⟩
theorem m_signbit (x : Nat) (w : World) : Calls Try.prog 84 #[.float .f64 x] w fun r w' => r = .returned (.bool (decide (wrap64 (x : Int) < 0))) ∧ w = w' := by
  have h1 := ex_bits x
  go_enter Try.func84, Try.ntmps84
  go_wp2_with fail
  go_ret
  exact ⟨rfl, rfl⟩
theorem m_isInf (x : Nat) (w : World) : Calls Try.prog 83 #[.float .f64 x, .int .i64 1] w fun r w' => r = .returned (.bool (ford x 9218868437227405311 == some .gt)) ∧ w = w' := by
  go_enter Try.func83, Try.ntmps83
  go_wp2_with fail
  go_ret
  exact ⟨rfl, rfl⟩
theorem un_neg (b : Nat) : Op.unary .neg (.float .f64 b) = pure (.float .f64 (Op.negFloat .f64 b)) := rfl
theorem m_isInfN (x : Nat) (w : World) : Calls Try.prog 83 #[.float .f64 x, .int .i64 (-1)] w fun r w' => r = .returned (.bool (ford (Op.negFloat .f64 x) 9218868437227405311 == some .gt)) ∧ w = w' := by
  have h1 := un_neg x
  go_enter Try.func83, Try.ntmps83
  go_wp2_with fail
  go_ret
  exact ⟨rfl, rfl⟩

theorem cmp_lt {a b : Int} (h : a < b) : compare a b = .lt := by show compareOfLessAndEq a b = _; unfold compareOfLessAndEq; rw [if_pos h]
theorem cmp_gt {a b : Int} (h : b < a) : compare a b = .gt := by show compareOfLessAndEq a b = _; unfold compareOfLessAndEq; rw [if_neg (by omega), if_neg (by omega)]
theorem cmp_eq {a b : Int} (h : a = b) : compare a b = .eq := by show compareOfLessAndEq a b = _; unfold compareOfLessAndEq; rw [if_neg (by omega), if_pos h]
theorem ford_nan {x y : Nat} (h : nanW x ∨ nanW y) : ford x y = none := order_nan x y h
theorem ford_lt {x y : Nat} (hx : ¬ nanW x) (hy : ¬ nanW y) (h : rank x < rank y) : ford x y = some .lt := (order_rank x y hx hy).trans (by rw [cmp_lt h])
theorem ford_gt {x y : Nat} (hx : ¬ nanW x) (hy : ¬ nanW y) (h : rank y < rank x) : ford x y = some .gt := (order_rank x y hx hy).trans (by rw [cmp_gt h])
theorem ford_eq {x y : Nat} (hx : ¬ nanW x) (hy : ¬ nanW y) (h : rank x = rank y) : ford x y = some .eq := (order_rank x y hx hy).trans (by rw [cmp_eq h])
theorem rank_max : rank 9218868437227405311 = 9218868437227405311 := by decide +kernel
theorem rank_nil : rank 0 = 0 := by decide +kernel
theorem nan_max : ¬ nanW 9218868437227405311 := by decide +kernel
theorem nan_nil : ¬ nanW 0 := by decide +kernel
theorem rung_neg (x : Nat) : rung (Op.negFloat .f64 x) = rung x := by
  show (x ^^^ 2 ^ 63) % 2 ^ 63 = x % 2 ^ 63
  rw [Nat.xor_mod_two_pow, Nat.mod_self, Nat.xor_zero]
theorem negW_neg (x : Nat) (hx : x < 18446744073709551616) : negW (Op.negFloat .f64 x) = !negW x := by
  show ((x ^^^ 2 ^ 63) / 2 ^ 63 % 2 == 1) = !(x / 2 ^ 63 % 2 == 1)
  rw [Nat.xor_div_two_pow, show 2 ^ 63 / 2 ^ 63 = 1 from by decide +kernel]
  have : x / 2 ^ 63 = 0 ∨ x / 2 ^ 63 = 1 := by omega
  rcases this with h | h <;> rw [h] <;> rfl
theorem rank_neg (x : Nat) (hx : x < 18446744073709551616) : rank (Op.negFloat .f64 x) = -rank x := by
  unfold rank
  rw [negW_neg x hx, rung_neg]
  cases negW x <;> simp
theorem nan_neg (x : Nat) : nanW (Op.negFloat .f64 x) ↔ nanW x := by unfold nanW; rw [rung_neg]

/-- A number's kind. -/
def kindP (x : Nat) : Int :=
  if nanW x then 0 else if rank x < -9218868437227405311 then 1 else if rank x < 0 then 2 else if rank x = 0 then (if negW x then 3 else 4) else if 9218868437227405311 < rank x then 6 else 5
theorem zero_cases {x : Nat} (hx : x < 18446744073709551616) (h : rank x = 0) : x = 0 ∨ x = 9223372036854775808 := by
  unfold rank rung at h
  cases hn : negW x <;> rw [hn] at h <;> simp only [if_true, if_false, Bool.false_eq_true] at h <;> omega

set_option maxRecDepth 100000 in
theorem real_kind (x : Nat) (hx : x < 18446744073709551616) (w : World) : Calls Try.prog 60 #[.float .f64 x] w fun r w' => r = .returned (.int .i64 (kindP x)) ∧ w = w' := by
  by_cases hn : nanW x
  · have h1 := ford_nan (x := x) (y := x) (.inl hn)
    have hk : kindP x = 0 := by unfold kindP; rw [if_pos hn]
    rw [hk]
    clear hn hk
    go_enter Try.func60, Try.ntmps60
    go_wp2_with fail
    go_step3
    go_wp2_with fail
    go_step3
    go_wp2_with fail
    rw [Exit.noGoto_ret]
    go_ret
    exact ⟨rfl, rfl⟩
  · have h1 := ford_eq hn hn (rfl : rank x = rank x)
    have hN : ¬ nanW (Op.negFloat .f64 x) := fun h => hn ((nan_neg x).1 h)
    have hRN := rank_neg x hx
    rcases Int.lt_or_le (rank x) (-9218868437227405311) with a1 | a1
    · have h2 : (ford (Op.negFloat .f64 x) 9218868437227405311 == some .gt) = true := by rw [ford_gt hN nan_max (by rw [hRN, rank_max]; omega)]; rfl
      have hk : kindP x = 1 := by unfold kindP; rw [if_neg hn, if_pos a1]
      rw [hk]
      clear hn hk hN
      go_enter Try.func60, Try.ntmps60
      go_wp2_with fail
      go_step3
      go_wp2_with fail
      go_step3
      go_wp2_with fail
      refine (m_isInfN _ _).mono ?_
      rintro r w1 ⟨rfl, rfl⟩
      rw [h2]
      go_wp2_with fail
      rw [Exit.noGoto_ret]
      go_ret
      exact ⟨rfl, rfl⟩
    have h2 : (ford (Op.negFloat .f64 x) 9218868437227405311 == some .gt) = false := by
      rcases Int.lt_or_le (-rank x) 9218868437227405311 with a | a
      · rw [ford_lt hN nan_max (by rw [hRN, rank_max]; omega)]; rfl
      · rw [ford_eq hN nan_max (by rw [hRN, rank_max]; omega)]; rfl
    rcases Int.lt_or_le (rank x) 0 with a2 | a2
    · have h3 := ford_lt hn nan_nil (by rw [rank_nil]; exact a2)
      have hk : kindP x = 2 := by unfold kindP; rw [if_neg hn, if_neg (by omega), if_pos a2]
      rw [hk]
      clear hn hk hN
      go_enter Try.func60, Try.ntmps60
      go_wp2_with fail
      go_step3
      go_wp2_with fail
      go_step3
      go_wp2_with fail
      refine (m_isInfN _ _).mono ?_
      rintro r w1 ⟨rfl, rfl⟩
      rw [h2]
      go_wp2_with fail
      rw [Exit.noGoto_ret]
      go_ret
      exact ⟨rfl, rfl⟩
    by_cases a3 : rank x = 0
    · have h3 := ford_eq hn nan_nil (by rw [rank_nil]; exact a3)
      rcases zero_cases hx a3 with rfl | rfl
      · have hk : kindP 0 = 4 := by decide +kernel
        rw [hk]
        clear hn hk hN a1 a2 a3 hRN
        go_enter Try.func60, Try.ntmps60
        go_wp2_with fail
        go_step3
        go_wp2_with fail
        go_step3
        go_wp2_with fail
        refine (m_isInfN _ _).mono ?_
        rintro r w1 ⟨rfl, rfl⟩
        rw [h2]
        go_wp2_with fail
        refine (m_signbit _ _).mono ?_
        rintro r w1 ⟨rfl, rfl⟩
        rw [show decide (wrap64 ((0 : Nat) : Int) < 0) = false from by decide +kernel]
        go_wp2_with fail
        rw [Exit.noGoto_ret]
        go_ret
        exact ⟨rfl, rfl⟩
      · have hk : kindP 9223372036854775808 = 3 := by decide +kernel
        rw [hk]
        clear hn hk hN a1 a2 a3 hRN
        go_enter Try.func60, Try.ntmps60
        go_wp2_with fail
        go_step3
        go_wp2_with fail
        go_step3
        go_wp2_with fail
        refine (m_isInfN _ _).mono ?_
        rintro r w1 ⟨rfl, rfl⟩
        rw [h2]
        go_wp2_with fail
        refine (m_signbit _ _).mono ?_
        rintro r w1 ⟨rfl, rfl⟩
        rw [show decide (wrap64 ((9223372036854775808 : Nat) : Int) < 0) = true from by decide +kernel]
        go_wp2_with fail
        rw [Exit.noGoto_ret]
        go_ret
        exact ⟨rfl, rfl⟩
    have h3 := ford_gt hn nan_nil (by rw [rank_nil]; omega)
    rcases Int.lt_or_le 9218868437227405311 (rank x) with a4 | a4
    · have h4 : (ford x 9218868437227405311 == some .gt) = true := by rw [ford_gt hn nan_max (by rw [rank_max]; omega)]; rfl
      have hk : kindP x = 6 := by unfold kindP; rw [if_neg hn, if_neg (by omega), if_neg (by omega), if_neg a3, if_pos a4]
      rw [hk]
      clear hn hk hN
      go_enter Try.func60, Try.ntmps60
      go_wp2_with fail
      go_step3
      go_wp2_with fail
      go_step3
      go_wp2_with fail
      refine (m_isInfN _ _).mono ?_
      rintro r w1 ⟨rfl, rfl⟩
      rw [h2]
      go_wp2_with fail
      refine (m_isInf _ _).mono ?_
      rintro r w1 ⟨rfl, rfl⟩
      rw [h4]
      go_wp2_with fail
      rw [Exit.noGoto_ret]
      go_ret
      exact ⟨rfl, rfl⟩
    · have h4 : (ford x 9218868437227405311 == some .gt) = false := by
        rcases Int.lt_or_le (rank x) 9218868437227405311 with a | a
        · rw [ford_lt hn nan_max (by rw [rank_max]; omega)]; rfl
        · rw [ford_eq hn nan_max (by rw [rank_max]; omega)]; rfl
      have hk : kindP x = 5 := by unfold kindP; rw [if_neg hn, if_neg (by omega), if_neg (by omega), if_neg a3, if_neg (by omega)]
      rw [hk]
      clear hn hk hN
      go_enter Try.func60, Try.ntmps60
      go_wp2_with fail
      go_step3
      go_wp2_with fail
      go_step3
      go_wp2_with fail
      refine (m_isInfN _ _).mono ?_
      rintro r w1 ⟨rfl, rfl⟩
      rw [h2]
      go_wp2_with fail
      refine (m_isInf _ _).mono ?_
      rintro r w1 ⟨rfl, rfl⟩
      rw [h4]
      go_wp2_with fail
      rw [Exit.noGoto_ret]
      go_ret
      exact ⟨rfl, rfl⟩
end Go.Proofs.Ytlpigldogglmcaa
