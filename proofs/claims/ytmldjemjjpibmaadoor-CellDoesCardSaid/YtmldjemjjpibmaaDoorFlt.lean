/- Floats told by the reference: which two are the same (one NaN, two zeros). -/
import Derived.Test.YtmldjemjjpibmaaDoorRealP
import Derived.Laws.Externs
import Derived.Laws.FloatArith
set_option linter.unusedVariables false
set_option linter.unusedSimpArgs false
namespace Go.Proofs.YtmldjemjjpibmaaDoor
open Go.RowKit

abbrev ford (x y : Nat) : Option Ordering := FloatKind.f64.format.order x y
theorem ref_nan (x : Nat) (w : World) : Calls Tryd.prog 25 #[.float .f64 x] w fun r w' => r = .returned (.bool (ford x x != some .eq)) ∧ w = w' := by
  go_enter Tryd.func25, Tryd.ntmps25
  go_wp2_with fail
  go_ret
  exact ⟨rfl, rfl⟩
theorem cmp_lt {a b : Int} (h : a < b) : compare a b = .lt := by show compareOfLessAndEq a b = _; unfold compareOfLessAndEq; rw [if_pos h]
theorem cmp_gt {a b : Int} (h : b < a) : compare a b = .gt := by show compareOfLessAndEq a b = _; unfold compareOfLessAndEq; rw [if_neg (by omega), if_neg (by omega)]
theorem cmp_eq {a b : Int} (h : a = b) : compare a b = .eq := by show compareOfLessAndEq a b = _; unfold compareOfLessAndEq; rw [if_neg (by omega), if_pos h]
theorem ford_nan {x y : Nat} (h : nanW x ∨ nanW y) : ford x y = none := order_nan x y h
theorem ford_lt {x y : Nat} (hx : ¬ nanW x) (hy : ¬ nanW y) (h : rank x < rank y) : ford x y = some .lt := (order_rank x y hx hy).trans (by rw [cmp_lt h])
theorem ford_gt {x y : Nat} (hx : ¬ nanW x) (hy : ¬ nanW y) (h : rank y < rank x) : ford x y = some .gt := (order_rank x y hx hy).trans (by rw [cmp_gt h])
theorem ford_eq {x y : Nat} (hx : ¬ nanW x) (hy : ¬ nanW y) (h : rank x = rank y) : ford x y = some .eq := (order_rank x y hx hy).trans (by rw [cmp_eq h])
theorem rank_nil : rank 0 = 0 := by decide +kernel
theorem nan_nil : ¬ nanW 0 := by decide +kernel
theorem zero_cases {x : Nat} (hx : x < 18446744073709551616) (h : rank x = 0) : x = 0 ∨ x = 9223372036854775808 := by
  unfold rank rung at h
  cases hn : negW x <;> rw [hn] at h <;> simp only [if_true, if_false, Bool.false_eq_true] at h <;> omega
theorem ford_self {x : Nat} (h : ¬ nanW x) : ford x x = some .eq := ford_eq h h rfl
/-- How a number stands: the NaNs first, then the rest, -0 ahead of +0. -/
def key (x : Nat) : Int := if nanW x then -18446744073709551616 else if negW x then -(rung x : Int) - 1 else rung x
theorem quoF {a b r : Nat} (h : Ieee.double.div a b = some r) (w : World) : (binOp .quo 22 (.float .f64 a) (.float .f64 b)).run Tryd.prog w = .ok (.float .f64 r) w :=
  run_float_arith w .quo 22 .f64 a b r h
theorem key_rank {x y : Nat} (n1 : ¬ nanW x) (n2 : ¬ nanW y) (h : rank x ≠ 0 ∨ rank y ≠ 0) : key x = key y ↔ rank x = rank y := by
  unfold key
  rw [if_neg n1, if_neg n2]
  unfold rank at h ⊢
  cases hA : negW x <;> cases hB : negW y <;> rw [hA, hB] at h <;> simp only [if_true, if_false, Bool.false_eq_true] at h ⊢ <;> omega
theorem key_nan {x y : Nat} (n1 : nanW x) (n2 : ¬ nanW y) : key x ≠ key y := by
  have : rung y < 9223372036854775808 := Nat.mod_lt _ (by omega)
  unfold key
  rw [if_pos n1, if_neg n2]
  split <;> omega
theorem ford_ne0 {x : Nat} (n : ¬ nanW x) (h : rank x ≠ 0) : (ford x 0 == some .eq) = false := by
  rcases Int.lt_trichotomy (rank x) 0 with a | a | a
  · rw [ford_lt n nan_nil (by rw [rank_nil]; exact a)]; rfl
  · exact absurd a h
  · rw [ford_gt n nan_nil (by rw [rank_nil]; exact a)]; rfl
theorem ford_same {x y : Nat} (n1 : ¬ nanW x) (n2 : ¬ nanW y) : (ford x y == some .eq) = decide (rank x = rank y) := by
  rcases Int.lt_trichotomy (rank x) (rank y) with a | a | a
  · rw [ford_lt n1 n2 a, decide_eq_false (by omega)]; rfl
  · rw [ford_eq n1 n2 a, decide_eq_true a]; rfl
  · rw [ford_gt n1 n2 a, decide_eq_false (by omega)]; rfl
set_option maxRecDepth 100000 in
theorem ref_same (x y : Nat) (w : World) (hx : x < 18446744073709551616) (hy : y < 18446744073709551616) : Calls Tryd.prog 14 #[.float .f64 x, .float .f64 y] w fun r w' => r = .returned (.bool (decide (key x = key y))) ∧ w = w' := by
  by_cases n1 : nanW x
  · have h1 : (ford x x != some .eq) = true := by rw [ford_nan (x := x) (y := x) (.inl n1)]; rfl
    by_cases n2 : nanW y
    · have h2 : (ford y y != some .eq) = true := by rw [ford_nan (x := y) (y := y) (.inl n2)]; rfl
      have hk : decide (key x = key y) = true := by rw [decide_eq_true_iff]; unfold key; rw [if_pos n1, if_pos n2]
      rw [hk]
      clear n1 n2 hk
      go_enter Tryd.func14, Tryd.ntmps14
      go_wp2_with fail
      refine (ref_nan _ w).mono ?_
      rintro r w1 ⟨rfl, rfl⟩
      rw [h1]
      go_wp2_with fail
      refine (ref_nan _ w).mono ?_
      rintro r w1 ⟨rfl, rfl⟩
      rw [h1]
      go_wp2_with fail
      refine (ref_nan _ w).mono ?_
      rintro r w1 ⟨rfl, rfl⟩
      rw [h2]
      go_wp2_with fail
      go_ret
      exact ⟨rfl, rfl⟩
    · have h2 : (ford y y != some .eq) = false := by rw [ford_self n2]; rfl
      have hk : decide (key x = key y) = false := by rw [decide_eq_false_iff_not]; exact key_nan n1 n2
      rw [hk]
      clear n1 n2 hk
      go_enter Tryd.func14, Tryd.ntmps14
      go_wp2_with fail
      refine (ref_nan _ w).mono ?_
      rintro r w1 ⟨rfl, rfl⟩
      rw [h1]
      go_wp2_with fail
      refine (ref_nan _ w).mono ?_
      rintro r w1 ⟨rfl, rfl⟩
      rw [h1]
      go_wp2_with fail
      refine (ref_nan _ w).mono ?_
      rintro r w1 ⟨rfl, rfl⟩
      rw [h2]
      go_wp2_with fail
      go_ret
      exact ⟨rfl, rfl⟩
  · have h1 : (ford x x != some .eq) = false := by rw [ford_self n1]; rfl
    by_cases n2 : nanW y
    · have h2 : (ford y y != some .eq) = true := by rw [ford_nan (x := y) (y := y) (.inl n2)]; rfl
      have hk : decide (key x = key y) = false := by rw [decide_eq_false_iff_not]; exact fun h => key_nan n2 n1 h.symm
      rw [hk]
      clear n1 n2 hk
      go_enter Tryd.func14, Tryd.ntmps14
      go_wp2_with fail
      refine (ref_nan _ w).mono ?_
      rintro r w1 ⟨rfl, rfl⟩
      rw [h1]
      go_wp2_with fail
      refine (ref_nan _ w).mono ?_
      rintro r w1 ⟨rfl, rfl⟩
      rw [h2]
      go_wp2_with fail
      refine (ref_nan _ w).mono ?_
      rintro r w1 ⟨rfl, rfl⟩
      rw [h1]
      go_wp2_with fail
      go_ret
      exact ⟨rfl, rfl⟩
    · have h2 : (ford y y != some .eq) = false := by rw [ford_self n2]; rfl
      by_cases a : rank x = 0
      · have h3 : (ford x 0 == some .eq) = true := by rw [ford_eq n1 nan_nil (by rw [rank_nil]; exact a)]; rfl
        by_cases b : rank y = 0
        · have h4 : (ford y 0 == some .eq) = true := by rw [ford_eq n2 nan_nil (by rw [rank_nil]; exact b)]; rfl
          have q0 := quoF (a := 4607182418800017408) (b := 0) (r := 9218868437227405312) (by decide +kernel)
          have q1 := quoF (a := 4607182418800017408) (b := 9223372036854775808) (r := 18442240474082181120) (by decide +kernel)
          rcases zero_cases hx a with rfl | rfl <;> rcases zero_cases hy b with rfl | rfl
          · have hk : decide (key 0 = key 0) = true := by decide +kernel
            have h5 : (ford 9218868437227405312 9218868437227405312 == some .eq) = true := by decide +kernel
            rw [hk]
            clear n1 n2 hk a b
            go_enter Tryd.func14, Tryd.ntmps14
            go_wp2_with fail
            refine (ref_nan _ w).mono ?_
            rintro r w1 ⟨rfl, rfl⟩
            rw [h1]
            go_wp2_with fail
            refine (ref_nan _ w).mono ?_
            rintro r w1 ⟨rfl, rfl⟩
            rw [h2]
            go_wp2_with fail
            go_ret
            exact ⟨rfl, rfl⟩
          · have hk : decide (key 0 = key 9223372036854775808) = false := by decide +kernel
            have h5 : (ford 9218868437227405312 18442240474082181120 == some .eq) = false := by decide +kernel
            rw [hk]
            clear n1 n2 hk a b
            go_enter Tryd.func14, Tryd.ntmps14
            go_wp2_with fail
            refine (ref_nan _ w).mono ?_
            rintro r w1 ⟨rfl, rfl⟩
            rw [h1]
            go_wp2_with fail
            refine (ref_nan _ w).mono ?_
            rintro r w1 ⟨rfl, rfl⟩
            rw [h2]
            go_wp2_with fail
            go_ret
            exact ⟨rfl, rfl⟩
          · have hk : decide (key 9223372036854775808 = key 0) = false := by decide +kernel
            have h5 : (ford 18442240474082181120 9218868437227405312 == some .eq) = false := by decide +kernel
            rw [hk]
            clear n1 n2 hk a b
            go_enter Tryd.func14, Tryd.ntmps14
            go_wp2_with fail
            refine (ref_nan _ w).mono ?_
            rintro r w1 ⟨rfl, rfl⟩
            rw [h1]
            go_wp2_with fail
            refine (ref_nan _ w).mono ?_
            rintro r w1 ⟨rfl, rfl⟩
            rw [h2]
            go_wp2_with fail
            go_ret
            exact ⟨rfl, rfl⟩
          · have hk : decide (key 9223372036854775808 = key 9223372036854775808) = true := by decide +kernel
            have h5 : (ford 18442240474082181120 18442240474082181120 == some .eq) = true := by decide +kernel
            rw [hk]
            clear n1 n2 hk a b
            go_enter Tryd.func14, Tryd.ntmps14
            go_wp2_with fail
            refine (ref_nan _ w).mono ?_
            rintro r w1 ⟨rfl, rfl⟩
            rw [h1]
            go_wp2_with fail
            refine (ref_nan _ w).mono ?_
            rintro r w1 ⟨rfl, rfl⟩
            rw [h2]
            go_wp2_with fail
            go_ret
            exact ⟨rfl, rfl⟩
        · have h4 := ford_ne0 n2 b
          have h5 := ford_same n1 n2
          have hk : decide (key x = key y) = decide (rank x = rank y) := by rw [Bool.eq_iff_iff, decide_eq_true_iff, decide_eq_true_iff]; exact key_rank n1 n2 (.inr b)
          rw [hk, ← h5]
          clear n1 n2 hk a b h5
          go_enter Tryd.func14, Tryd.ntmps14
          go_wp2_with fail
          refine (ref_nan _ w).mono ?_
          rintro r w1 ⟨rfl, rfl⟩
          rw [h1]
          go_wp2_with fail
          refine (ref_nan _ w).mono ?_
          rintro r w1 ⟨rfl, rfl⟩
          rw [h2]
          go_wp2_with fail
          go_ret
          exact ⟨rfl, rfl⟩
      · have h3 := ford_ne0 n1 a
        have h5 := ford_same n1 n2
        have hk : decide (key x = key y) = decide (rank x = rank y) := by rw [Bool.eq_iff_iff, decide_eq_true_iff, decide_eq_true_iff]; exact key_rank n1 n2 (.inl a)
        rw [hk, ← h5]
        clear n1 n2 hk a h5
        go_enter Tryd.func14, Tryd.ntmps14
        go_wp2_with fail
        refine (ref_nan _ w).mono ?_
        rintro r w1 ⟨rfl, rfl⟩
        rw [h1]
        go_wp2_with fail
        refine (ref_nan _ w).mono ?_
        rintro r w1 ⟨rfl, rfl⟩
        rw [h2]
        go_wp2_with fail
        go_ret
        exact ⟨rfl, rfl⟩
end Go.Proofs.YtmldjemjjpibmaaDoor
