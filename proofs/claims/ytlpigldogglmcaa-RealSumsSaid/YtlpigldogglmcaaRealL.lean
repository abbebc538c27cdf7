/- Layer 1's laws RealTells, RealOne, RealOrder, walked. -/
import Derived.Test.YtlpigldogglmcaaRealU
set_option linter.unusedVariables false
set_option linter.unusedSimpArgs false
namespace Go.Proofs.Ytlpigldogglmcaa
open Go.RowKit

theorem real_add_ok {x y s : Nat} (h : Ieee.double.add x y = some s) (w : World) : Calls Try.prog 70 #[.float .f64 x, .float .f64 y] w fun r w' => r = .returned (.float .f64 (canonP s)) ∧ w = w' := by
  have hq := addF h
  go_enter Try.func70, Try.ntmps70
  go_wp2_with fail
  refine (real_canon s w).mono ?_
  rintro r w1 ⟨rfl, rfl⟩
  go_wp2_with fail
  go_ret
  exact ⟨rfl, rfl⟩

set_option maxRecDepth 100000 in
theorem works01 (w : World) : Calls Try.prog 66 #[] w fun r w' => r = .returned (.bool true) ∧ Fr (fun _ => False) w w' := by
  have F := Fr.refl (fun _ => False) w
  have q0 := quoF (a := 13830554455654793216) (b := 0) (r := 18442240474082181120) (by decide +kernel)
  have q1 := quoF (a := 4607182418800017408) (b := 18442240474082181120) (r := 9223372036854775808) (by decide +kernel)
  have q2 := quoF (a := 4607182418800017408) (b := 0) (r := 9218868437227405312) (by decide +kernel)
  have k3 : kindP 9223372036854775808 = 3 := by decide +kernel
  have k6 : kindP 9218868437227405312 = 6 := by decide +kernel
  have ks : sgn (key 4607182418800017408) (key 4611686018427387904) = -1 := by decide +kernel
  have kc : canonP 4604930618986332160 = 4604930618986332160 := by decide +kernel

  have ke : canonP 4607182418800017408 = 4607182418800017408 := by decide +kernel
  go_enter Try.func66, Try.ntmps66
  go_wp2_with fail
  refine (real_kind 9223372036854775808 (by omega) w).mono ?_
  rintro r w1 ⟨rfl, rfl⟩
  rw [k3]
  go_wp2_with fail
  refine (real_kind 9218868437227405312 (by omega) w).mono ?_
  rintro r w1 ⟨rfl, rfl⟩
  rw [k6]
  go_wp2_with fail
  refine (real_order 4607182418800017408 4611686018427387904 w (by omega) (by omega)).mono ?_
  rintro r w1 ⟨rfl, rfl⟩
  rw [ks]
  go_wp2_with fail
  refine (real_add_ok (x := 4602678819172646912) (y := 4598175219545276416) (s := 4604930618986332160) (by decide +kernel) w).mono ?_
  rintro r w1 ⟨rfl, rfl⟩
  rw [kc]
  go_wp2_with fail
  refine (real_same 4604930618986332160 4604930618986332160 w (by omega) (by omega)).mono ?_
  rintro r w1 ⟨rfl, rfl⟩
  go_wp2_with fail
  refine (real_bits 4607182418800017408 w).mono ?_
  rintro r w1 ⟨rfl, rfl⟩
  rw [ke]
  go_wp2_with fail
  go_ret
  exact ⟨rfl, F⟩

set_option maxRecDepth 100000 in
theorem lawTells1 (x y : Nat) (w : World) (hx : x < 18446744073709551616) (hy : y < 18446744073709551616) : Calls Try.prog 11 #[.float .f64 x, .float .f64 y] w fun r w' => r = .returned (.bool true) ∧ Fr (fun _ => False) w w' := by
  go_enter Try.func11, Try.ntmps11
  go_wp2_with fail
  refine (real_kind x hx w).mono ?_
  rintro r w1 ⟨rfl, rfl⟩
  go_wp2_with fail
  refine (ref_kind x hx w).mono ?_
  rintro r w1 ⟨rfl, rfl⟩
  go_wp2_with fail
  refine (real_same x y w hx hy).mono ?_
  rintro r w1 ⟨rfl, rfl⟩
  go_wp2_with fail
  refine (ref_same x y w hx hy).mono ?_
  rintro r w1 ⟨rfl, rfl⟩
  go_wp2_with fail
  refine (real_order x y w hx hy).mono ?_
  rintro r w1 ⟨rfl, rfl⟩
  go_wp2_with fail
  refine (ref_order x y w hx hy).mono ?_
  rintro r w1 ⟨rfl, rfl⟩
  go_wp2_with fail
  refine (works01 _).mono ?_
  rintro r w1 ⟨rfl, F⟩
  go_wp2_with fail
  go_ret
  exact ⟨rfl, F⟩

set_option maxRecDepth 100000 in
theorem lawOne1 (x y : Nat) (w : World) (hx : x < 18446744073709551616) (hy : y < 18446744073709551616) : Calls Try.prog 12 #[.float .f64 x, .float .f64 y] w fun r w' => r = .returned (.bool true) ∧ Fr (fun _ => False) w w' := by
  have hcl : canonP x < 18446744073709551616 := by unfold canonP; split; omega; exact hx
  have hcc : canonP (canonP x) = canonP x := by
    have hn : nanW 9221120237041090561 := by decide +kernel
    unfold canonP
    by_cases h : nanW x
    · rw [if_pos h, if_pos hn]
    · rw [if_neg h, if_neg h]
  have hks : decide (key (canonP x) = key x) = true := by rw [decide_eq_true_iff]; exact (key_canon hcl hx).1 hcc
  have hkb : decide (key x = key y) = ((canonP x : Int) == (canonP y : Int)) := by
    rw [Bool.eq_iff_iff, decide_eq_true_iff, beq_iff_eq, ← key_canon hx hy]
    omega
  by_cases hn : nanW x
  · have h1 : (ford x x != some .eq) = true := by rw [ford_nan (x := x) (y := x) (.inl hn)]; rfl
    have hcn : canonP x = 9221120237041090561 := by unfold canonP; rw [if_pos hn]
    clear hn
    rw [hcn] at hcc hks hkb hcl
    go_enter Try.func12, Try.ntmps12
    go_wp2_with fail
    refine (real_canon x w).mono ?_
    rintro r w1 ⟨rfl, rfl⟩
    rw [hcn]
    go_wp2_with fail
    refine (ref_same 9221120237041090561 x w hcl hx).mono ?_
    rintro r w1 ⟨rfl, rfl⟩
    rw [hks]
    go_wp2_with fail
    refine (ref_nan x w).mono ?_
    rintro r w1 ⟨rfl, rfl⟩
    rw [h1]
    go_wp2_with fail
    refine (real_bits x w).mono ?_
    rintro r w1 ⟨rfl, rfl⟩
    rw [hcn]
    go_wp2_with fail
    refine (real_bits x w).mono ?_
    rintro r w1 ⟨rfl, rfl⟩
    rw [hcn]
    go_wp2_with fail
    refine (real_bits y w).mono ?_
    rintro r w1 ⟨rfl, rfl⟩
    go_wp2_with fail
    refine (ref_same x y w hx hy).mono ?_
    rintro r w1 ⟨rfl, rfl⟩
    rw [hkb]
    go_wp2_with fail
    refine (real_bits 9221120237041090561 w).mono ?_
    rintro r w1 ⟨rfl, rfl⟩
    rw [hcc]
    go_wp2_with fail
    refine (real_bits x w).mono ?_
    rintro r w1 ⟨rfl, rfl⟩
    rw [hcn]
    go_wp2_with fail
    refine (works01 _).mono ?_
    rintro r w1 ⟨rfl, F⟩
    go_wp2_with fail
    go_ret
    exact ⟨rfl, F⟩
  · have h1 : (ford x x != some .eq) = false := by rw [ford_self hn]; rfl
    clear hn
    go_enter Try.func12, Try.ntmps12
    go_wp2_with fail
    refine (real_canon x w).mono ?_
    rintro r w1 ⟨rfl, rfl⟩
    go_wp2_with fail
    refine (ref_same (canonP x) x w hcl hx).mono ?_
    rintro r w1 ⟨rfl, rfl⟩
    rw [hks]
    go_wp2_with fail
    refine (ref_nan x w).mono ?_
    rintro r w1 ⟨rfl, rfl⟩
    rw [h1]
    go_wp2_with fail
    refine (real_bits x w).mono ?_
    rintro r w1 ⟨rfl, rfl⟩
    go_wp2_with fail
    refine (real_bits y w).mono ?_
    rintro r w1 ⟨rfl, rfl⟩
    go_wp2_with fail
    refine (ref_same x y w hx hy).mono ?_
    rintro r w1 ⟨rfl, rfl⟩
    rw [hkb]
    go_wp2_with fail
    refine (real_bits (canonP x) w).mono ?_
    rintro r w1 ⟨rfl, rfl⟩
    rw [hcc]
    go_wp2_with fail
    refine (real_bits x w).mono ?_
    rintro r w1 ⟨rfl, rfl⟩
    go_wp2_with fail
    refine (works01 _).mono ?_
    rintro r w1 ⟨rfl, F⟩
    go_wp2_with fail
    go_ret
    exact ⟨rfl, F⟩

set_option maxRecDepth 100000 in
theorem lawOrder1 (x y z : Nat) (w : World) (hx : x < 18446744073709551616) (hy : y < 18446744073709551616) (hz : z < 18446744073709551616) : Calls Try.prog 14 #[.float .f64 x, .float .f64 y, .float .f64 z] w fun r w' => r = .returned (.bool true) ∧ Fr (fun _ => False) w w' := by
  rcases Int.lt_trichotomy (key x) (key y) with h | h | h
  · have hab : sgn (key x) (key y) = -1 := by unfold sgn; rw [if_pos (by omega)]
    have hba : sgn (key y) (key x) = 1 := by unfold sgn; rw [if_neg (by omega), if_pos (by omega)]
    have hsm : decide (key x = key y) = false := by rw [decide_eq_false_iff_not]; omega
    rcases Int.lt_or_le (key z) (key y) with g | g
    · have hbc : sgn (key y) (key z) = 1 := by unfold sgn; rw [if_neg (by omega), if_pos (by omega)]
      clear h g
      go_enter Try.func14, Try.ntmps14
      go_wp2_with fail
      refine (real_order x y w hx hy).mono ?_
      rintro r w1 ⟨rfl, rfl⟩
      rw [hab]
      go_wp2_with fail
      refine (real_order y x w hy hx).mono ?_
      rintro r w1 ⟨rfl, rfl⟩
      rw [hba]
      go_wp2_with fail
      refine (real_order x y w hx hy).mono ?_
      rintro r w1 ⟨rfl, rfl⟩
      rw [hab]
      go_wp2_with fail
      refine (ref_same x y w hx hy).mono ?_
      rintro r w1 ⟨rfl, rfl⟩
      rw [hsm]
      go_wp2_with fail
      refine (real_order x y w hx hy).mono ?_
      rintro r w1 ⟨rfl, rfl⟩
      rw [hab]
      go_wp2_with fail
      refine (real_order y z w hy hz).mono ?_
      rintro r w1 ⟨rfl, rfl⟩
      rw [hbc]
      go_wp2_with fail
      refine (works01 _).mono ?_
      rintro r w1 ⟨rfl, F⟩
      go_wp2_with fail
      go_ret
      exact ⟨rfl, F⟩
    · have hac : sgn (key x) (key z) = -1 := by unfold sgn; rw [if_pos (by omega)]
      rcases Int.lt_or_le (key y) (key z) with g2 | g2
      · have hbc : sgn (key y) (key z) = -1 := by unfold sgn; rw [if_pos (by omega)]
        clear h g g2
        go_enter Try.func14, Try.ntmps14
        go_wp2_with fail
        refine (real_order x y w hx hy).mono ?_
        rintro r w1 ⟨rfl, rfl⟩
        rw [hab]
        go_wp2_with fail
        refine (real_order y x w hy hx).mono ?_
        rintro r w1 ⟨rfl, rfl⟩
        rw [hba]
        go_wp2_with fail
        refine (real_order x y w hx hy).mono ?_
        rintro r w1 ⟨rfl, rfl⟩
        rw [hab]
        go_wp2_with fail
        refine (ref_same x y w hx hy).mono ?_
        rintro r w1 ⟨rfl, rfl⟩
        rw [hsm]
        go_wp2_with fail
        refine (real_order x y w hx hy).mono ?_
        rintro r w1 ⟨rfl, rfl⟩
        rw [hab]
        go_wp2_with fail
        refine (real_order y z w hy hz).mono ?_
        rintro r w1 ⟨rfl, rfl⟩
        rw [hbc]
        go_wp2_with fail
        refine (real_order x z w hx hz).mono ?_
        rintro r w1 ⟨rfl, rfl⟩
        rw [hac]
        go_wp2_with fail
        refine (works01 _).mono ?_
        rintro r w1 ⟨rfl, F⟩
        go_wp2_with fail
        go_ret
        exact ⟨rfl, F⟩
      · have hbc : sgn (key y) (key z) = 0 := by unfold sgn; rw [if_neg (by omega), if_neg (by omega)]
        clear h g g2
        go_enter Try.func14, Try.ntmps14
        go_wp2_with fail
        refine (real_order x y w hx hy).mono ?_
        rintro r w1 ⟨rfl, rfl⟩
        rw [hab]
        go_wp2_with fail
        refine (real_order y x w hy hx).mono ?_
        rintro r w1 ⟨rfl, rfl⟩
        rw [hba]
        go_wp2_with fail
        refine (real_order x y w hx hy).mono ?_
        rintro r w1 ⟨rfl, rfl⟩
        rw [hab]
        go_wp2_with fail
        refine (ref_same x y w hx hy).mono ?_
        rintro r w1 ⟨rfl, rfl⟩
        rw [hsm]
        go_wp2_with fail
        refine (real_order x y w hx hy).mono ?_
        rintro r w1 ⟨rfl, rfl⟩
        rw [hab]
        go_wp2_with fail
        refine (real_order y z w hy hz).mono ?_
        rintro r w1 ⟨rfl, rfl⟩
        rw [hbc]
        go_wp2_with fail
        refine (real_order x z w hx hz).mono ?_
        rintro r w1 ⟨rfl, rfl⟩
        rw [hac]
        go_wp2_with fail
        refine (works01 _).mono ?_
        rintro r w1 ⟨rfl, F⟩
        go_wp2_with fail
        go_ret
        exact ⟨rfl, F⟩
  · have hab : sgn (key x) (key y) = 0 := by unfold sgn; rw [if_neg (by omega), if_neg (by omega)]
    have hba : sgn (key y) (key x) = 0 := by unfold sgn; rw [if_neg (by omega), if_neg (by omega)]
    have hsm : decide (key x = key y) = true := by rw [decide_eq_true_iff]; exact h
    rcases Int.lt_trichotomy (key y) (key z) with g | g | g
    · have hbc : sgn (key y) (key z) = -1 := by unfold sgn; rw [if_pos (by omega)]
      have hac : sgn (key x) (key z) = -1 := by unfold sgn; rw [if_pos (by omega)]
      clear h g
      go_enter Try.func14, Try.ntmps14
      go_wp2_with fail
      refine (real_order x y w hx hy).mono ?_
      rintro r w1 ⟨rfl, rfl⟩
      rw [hab]
      go_wp2_with fail
      refine (real_order y x w hy hx).mono ?_
      rintro r w1 ⟨rfl, rfl⟩
      rw [hba]
      go_wp2_with fail
      refine (real_order x y w hx hy).mono ?_
      rintro r w1 ⟨rfl, rfl⟩
      rw [hab]
      go_wp2_with fail
      refine (ref_same x y w hx hy).mono ?_
      rintro r w1 ⟨rfl, rfl⟩
      rw [hsm]
      go_wp2_with fail
      refine (real_order x y w hx hy).mono ?_
      rintro r w1 ⟨rfl, rfl⟩
      rw [hab]
      go_wp2_with fail
      refine (real_order y z w hy hz).mono ?_
      rintro r w1 ⟨rfl, rfl⟩
      rw [hbc]
      go_wp2_with fail
      refine (real_order x z w hx hz).mono ?_
      rintro r w1 ⟨rfl, rfl⟩
      rw [hac]
      go_wp2_with fail
      refine (works01 _).mono ?_
      rintro r w1 ⟨rfl, F⟩
      go_wp2_with fail
      go_ret
      exact ⟨rfl, F⟩
    · have hbc : sgn (key y) (key z) = 0 := by unfold sgn; rw [if_neg (by omega), if_neg (by omega)]
      have hac : sgn (key x) (key z) = 0 := by unfold sgn; rw [if_neg (by omega), if_neg (by omega)]
      clear h g
      go_enter Try.func14, Try.ntmps14
      go_wp2_with fail
      refine (real_order x y w hx hy).mono ?_
      rintro r w1 ⟨rfl, rfl⟩
      rw [hab]
      go_wp2_with fail
      refine (real_order y x w hy hx).mono ?_
      rintro r w1 ⟨rfl, rfl⟩
      rw [hba]
      go_wp2_with fail
      refine (real_order x y w hx hy).mono ?_
      rintro r w1 ⟨rfl, rfl⟩
      rw [hab]
      go_wp2_with fail
      refine (ref_same x y w hx hy).mono ?_
      rintro r w1 ⟨rfl, rfl⟩
      rw [hsm]
      go_wp2_with fail
      refine (real_order x y w hx hy).mono ?_
      rintro r w1 ⟨rfl, rfl⟩
      rw [hab]
      go_wp2_with fail
      refine (real_order y z w hy hz).mono ?_
      rintro r w1 ⟨rfl, rfl⟩
      rw [hbc]
      go_wp2_with fail
      refine (real_order x z w hx hz).mono ?_
      rintro r w1 ⟨rfl, rfl⟩
      rw [hac]
      go_wp2_with fail
      refine (works01 _).mono ?_
      rintro r w1 ⟨rfl, F⟩
      go_wp2_with fail
      go_ret
      exact ⟨rfl, F⟩
    · have hbc : sgn (key y) (key z) = 1 := by unfold sgn; rw [if_neg (by omega), if_pos (by omega)]
      clear h g
      go_enter Try.func14, Try.ntmps14
      go_wp2_with fail
      refine (real_order x y w hx hy).mono ?_
      rintro r w1 ⟨rfl, rfl⟩
      rw [hab]
      go_wp2_with fail
      refine (real_order y x w hy hx).mono ?_
      rintro r w1 ⟨rfl, rfl⟩
      rw [hba]
      go_wp2_with fail
      refine (real_order x y w hx hy).mono ?_
      rintro r w1 ⟨rfl, rfl⟩
      rw [hab]
      go_wp2_with fail
      refine (ref_same x y w hx hy).mono ?_
      rintro r w1 ⟨rfl, rfl⟩
      rw [hsm]
      go_wp2_with fail
      refine (real_order x y w hx hy).mono ?_
      rintro r w1 ⟨rfl, rfl⟩
      rw [hab]
      go_wp2_with fail
      refine (real_order y z w hy hz).mono ?_
      rintro r w1 ⟨rfl, rfl⟩
      rw [hbc]
      go_wp2_with fail
      refine (works01 _).mono ?_
      rintro r w1 ⟨rfl, F⟩
      go_wp2_with fail
      go_ret
      exact ⟨rfl, F⟩
  · have hab : sgn (key x) (key y) = 1 := by unfold sgn; rw [if_neg (by omega), if_pos (by omega)]
    have hba : sgn (key y) (key x) = -1 := by unfold sgn; rw [if_pos (by omega)]
    have hsm : decide (key x = key y) = false := by rw [decide_eq_false_iff_not]; omega
    clear h
    go_enter Try.func14, Try.ntmps14
    go_wp2_with fail
    refine (real_order x y w hx hy).mono ?_
    rintro r w1 ⟨rfl, rfl⟩
    rw [hab]
    go_wp2_with fail
    refine (real_order y x w hy hx).mono ?_
    rintro r w1 ⟨rfl, rfl⟩
    rw [hba]
    go_wp2_with fail
    refine (real_order x y w hx hy).mono ?_
    rintro r w1 ⟨rfl, rfl⟩
    rw [hab]
    go_wp2_with fail
    refine (ref_same x y w hx hy).mono ?_
    rintro r w1 ⟨rfl, rfl⟩
    rw [hsm]
    go_wp2_with fail
    refine (real_order x y w hx hy).mono ?_
    rintro r w1 ⟨rfl, rfl⟩
    rw [hab]
    go_wp2_with fail
    refine (works01 _).mono ?_
    rintro r w1 ⟨rfl, F⟩
    go_wp2_with fail
    go_ret
    exact ⟨rfl, F⟩
end Go.Proofs.Ytlpigldogglmcaa
