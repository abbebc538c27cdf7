/- A number's kind, by layer 1. -/
import Derived.Test.YtmldjemjjpibmaaDoorFltK
import Derived.Test.YtmldjemjjpibmaaDoorFltR
set_option linter.unusedVariables false
set_option linter.unusedSimpArgs false
namespace Go.Proofs.YtmldjemjjpibmaaDoor
open Go.RowKit

theorem m_signbit (x : Nat) (w : World) : Calls Tryd.prog 43 #[.float .f64 x] w fun r w' => r = .returned (.bool (decide (wrap64 (x : Int) < 0))) ∧ w = w' := by
  have h1 := ex_bits x
  go_enter Tryd.func43, Tryd.ntmps43
  go_wp2_with fail
  go_ret
  exact ⟨rfl, rfl⟩
theorem m_isInf (x : Nat) (w : World) : Calls Tryd.prog 42 #[.float .f64 x, .int .i64 1] w fun r w' => r = .returned (.bool (ford x 9218868437227405311 == some .gt)) ∧ w = w' := by
  go_enter Tryd.func42, Tryd.ntmps42
  go_wp2_with fail
  go_ret
  exact ⟨rfl, rfl⟩
theorem m_isInfN (x : Nat) (w : World) : Calls Tryd.prog 42 #[.float .f64 x, .int .i64 (-1)] w fun r w' => r = .returned (.bool (ford (Op.negFloat .f64 x) 9218868437227405311 == some .gt)) ∧ w = w' := by
  have h1 := un_neg x
  go_enter Tryd.func42, Tryd.ntmps42
  go_wp2_with fail
  go_ret
  exact ⟨rfl, rfl⟩

set_option maxRecDepth 100000 in
theorem real_kind (x : Nat) (hx : x < 18446744073709551616) (w : World) : Calls Tryd.prog 34 #[.float .f64 x] w fun r w' => r = .returned (.int .i64 (kindP x)) ∧ w = w' := by
  by_cases hn : nanW x
  · have h1 := ford_nan (x := x) (y := x) (.inl hn)
    have hk : kindP x = 0 := by unfold kindP; rw [if_pos hn]
    rw [hk]
    clear hn hk
    go_enter Tryd.func34, Tryd.ntmps34
    go_wp2_with fail
    go_step3
    go_wp2_with fail
    go_step3
    go_wp2_with fail
    rw [Exit.noGoto_ret]
    go_ret
    exact ⟨rfl, rfl⟩
  · have h1 := ford_eq hn hn (rfl : rank x = rank x)
    have hN : ¬ nanW (Op.negFloat .f64 x) := fun h => hn ((nan_neg x).1 h)
    have hRN := rank_neg x hx
    rcases Int.lt_or_le (rank x) (-9218868437227405311) with a1 | a1
    · have h2 : (ford (Op.negFloat .f64 x) 9218868437227405311 == some .gt) = true := by rw [ford_gt hN nan_max (by rw [hRN, rank_max]; omega)]; rfl
      have hk : kindP x = 1 := by unfold kindP; rw [if_neg hn, if_pos a1]
      rw [hk]
      clear hn hk hN
      go_enter Tryd.func34, Tryd.ntmps34
      go_wp2_with fail
      go_step3
      go_wp2_with fail
      go_step3
      go_wp2_with fail
      refine (m_isInfN _ _).mono ?_
      rintro r w1 ⟨rfl, rfl⟩
      rw [h2]
      go_wp2_with fail
      rw [Exit.noGoto_ret]
      go_ret
      exact ⟨rfl, rfl⟩
    have h2 : (ford (Op.negFloat .f64 x) 9218868437227405311 == some .gt) = false := by
      rcases Int.lt_or_le (-rank x) 9218868437227405311 with a | a
      · rw [ford_lt hN nan_max (by rw [hRN, rank_max]; omega)]; rfl
      · rw [ford_eq hN nan_max (by rw [hRN, rank_max]; omega)]; rfl
    rcases Int.lt_or_le (rank x) 0 with a2 | a2
    · have h3 := ford_lt hn nan_nil (by rw [rank_nil]; exact a2)
      have hk : kindP x = 2 := by unfold kindP; rw [if_neg hn, if_neg (by omega), if_pos a2]
      rw [hk]
      clear hn hk hN
      go_enter Tryd.func34, Tryd.ntmps34
      go_wp2_with fail
      go_step3
      go_wp2_with fail
      go_step3
      go_wp2_with fail
      refine (m_isInfN _ _).mono ?_
      rintro r w1 ⟨rfl, rfl⟩
      rw [h2]
      go_wp2_with fail
      rw [Exit.noGoto_ret]
      go_ret
      exact ⟨rfl, rfl⟩
    by_cases a3 : rank x = 0
    · have h3 := ford_eq hn nan_nil (by rw [rank_nil]; exact a3)
      rcases zero_cases hx a3 with rfl | rfl
      · have hk : kindP 0 = 4 := by decide +kernel
        rw [hk]
        clear hn hk hN a1 a2 a3 hRN
        go_enter Tryd.func34, Tryd.ntmps34
        go_wp2_with fail
        go_step3
        go_wp2_with fail
        go_step3
        go_wp2_with fail
        refine (m_isInfN _ _).mono ?_
        rintro r w1 ⟨rfl, rfl⟩
        rw [h2]
        go_wp2_with fail
        refine (m_signbit _ _).mono ?_
        rintro r w1 ⟨rfl, rfl⟩
        rw [show decide (wrap64 ((0 : Nat) : Int) < 0) = false from by decide +kernel]
        go_wp2_with fail
        rw [Exit.noGoto_ret]
        go_ret
        exact ⟨rfl, rfl⟩
      · have hk : kindP 9223372036854775808 = 3 := by decide +kernel
        rw [hk]
        clear hn hk hN a1 a2 a3 hRN
        go_enter Tryd.func34, Tryd.ntmps34
        go_wp2_with fail
        go_step3
        go_wp2_with fail
        go_step3
        go_wp2_with fail
        refine (m_isInfN _ _).mono ?_
        rintro r w1 ⟨rfl, rfl⟩
        rw [h2]
        go_wp2_with fail
        refine (m_signbit _ _).mono ?_
        rintro r w1 ⟨rfl, rfl⟩
        rw [show decide (wrap64 ((9223372036854775808 : Nat) : Int) < 0) = true from by decide +kernel]
        go_wp2_with fail
        rw [Exit.noGoto_ret]
        go_ret
        exact ⟨rfl, rfl⟩
    have h3 := ford_gt hn nan_nil (by rw [rank_nil]; omega)
    rcases Int.lt_or_le 9218868437227405311 (rank x) with a4 | a4
    · have h4 : (ford x 9218868437227405311 == some .gt) = true := by rw [ford_gt hn nan_max (by rw [rank_max]; omega)]; rfl
      have hk : kindP x = 6 := by unfold kindP; rw [if_neg hn, if_neg (by omega), if_neg (by omega), if_neg a3, if_pos a4]
      rw [hk]
      clear hn hk hN
      go_enter Tryd.func34, Tryd.ntmps34
      go_wp2_with fail
      go_step3
      go_wp2_with fail
      go_step3
      go_wp2_with fail
      refine (m_isInfN _ _).mono ?_
      rintro r w1 ⟨rfl, rfl⟩
      rw [h2]
      go_wp2_with fail
      refine (m_isInf _ _).mono ?_
      rintro r w1 ⟨rfl, rfl⟩
      rw [h4]
      go_wp2_with fail
      rw [Exit.noGoto_ret]
      go_ret
      exact ⟨rfl, rfl⟩
    · have h4 : (ford x 9218868437227405311 == some .gt) = false := by
        rcases Int.lt_or_le (rank x) 9218868437227405311 with a | a
        · rw [ford_lt hn nan_max (by rw [rank_max]; omega)]; rfl
        · rw [ford_eq hn nan_max (by rw [rank_max]; omega)]; rfl
      have hk : kindP x = 5 := by unfold kindP; rw [if_neg hn, if_neg (by omega), if_neg (by omega), if_neg a3, if_neg (by omega)]
      rw [hk]
      clear hn hk hN
      go_enter Tryd.func34, Tryd.ntmps34
      go_wp2_with fail
      go_step3
      go_wp2_with fail
      go_step3
      go_wp2_with fail
      refine (m_isInfN _ _).mono ?_
      rintro r w1 ⟨rfl, rfl⟩
      rw [h2]
      go_wp2_with fail
      refine (m_isInf _ _).mono ?_
      rintro r w1 ⟨rfl, rfl⟩
      rw [h4]
      go_wp2_with fail
      rw [Exit.noGoto_ret]
      go_ret
      exact ⟨rfl, rfl⟩
end Go.Proofs.YtmldjemjjpibmaaDoor
