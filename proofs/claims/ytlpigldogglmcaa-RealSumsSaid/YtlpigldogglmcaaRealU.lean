/- Layer 1, on: Order; the document's greatest number, kind, order, sameness. -/
import Derived.Test.YtlpigldogglmcaaRealV
set_option linter.unusedVariables false
set_option linter.unusedSimpArgs false
namespace Go.Proofs.Ytlpigldogglmcaa
open Go.RowKit

set_option maxRecDepth 100000 in
theorem real_order (x y : Nat) (w : World) (hx : x < 18446744073709551616) (hy : y < 18446744073709551616) : Calls Try.prog 64 #[.float .f64 x, .float .f64 y] w fun r w' => r = .returned (.int .i64 (sgn (key x) (key y))) ∧ w = w' := by
  obtain ⟨k1, k2⟩ := key_kind x y
  obtain ⟨k3, k4⟩ := key_kind y x
  obtain ⟨a, ha⟩ : ∃ a, kindP x = a := ⟨_, rfl⟩
  obtain ⟨b, hb⟩ : ∃ b, kindP y = b := ⟨_, rfl⟩
  rw [ha, hb] at k1 k2 k3
  clear k4
  rcases Int.lt_trichotomy a b with h | h | h
  · have hs : sgn (key x) (key y) = -1 := by unfold sgn; rw [if_pos (k1 h)]
    rw [hs]
    clear k1 k2 k3 hs
    go_enter Try.func64, Try.ntmps64
    go_wp2_with fail
    refine (real_kind x hx w).mono ?_
    rintro r w1 ⟨rfl, rfl⟩
    rw [ha]
    go_wp2_with fail
    refine (real_kind y hy w).mono ?_
    rintro r w1 ⟨rfl, rfl⟩
    rw [hb]
    go_wp2_with fail
    go_ret
    exact ⟨rfl, rfl⟩
  · rcases k2 h with ⟨n1, n2, e⟩ | ⟨n1, n2, e1, e2, e3⟩
    · have hs : sgn (key x) (key y) = 0 := by unfold sgn; rw [if_neg (by omega), if_neg (by omega)]
      rw [hs]
      have hf := ford_nan (x := x) (y := y) (.inl n1)
      clear k1 k2 k3 n1 n2 e hs
      subst h
      go_enter Try.func64, Try.ntmps64
      go_wp2_with fail
      refine (real_kind x hx w).mono ?_
      rintro r w1 ⟨rfl, rfl⟩
      rw [ha]
      go_wp2_with fail
      refine (real_kind y hy w).mono ?_
      rintro r w1 ⟨rfl, rfl⟩
      rw [hb]
      go_wp2_with fail
      go_ret
      exact ⟨rfl, rfl⟩
    · rcases Int.lt_trichotomy (rank x) (rank y) with g | g | g
      · have hs : sgn (key x) (key y) = -1 := by unfold sgn; rw [if_pos (e1 g)]
        rw [hs]
        have hf := ford_lt n1 n2 g
        clear k1 k2 k3 n1 n2 e1 e2 e3 hs g
        subst h
        go_enter Try.func64, Try.ntmps64
        go_wp2_with fail
        refine (real_kind x hx w).mono ?_
        rintro r w1 ⟨rfl, rfl⟩
        rw [ha]
        go_wp2_with fail
        refine (real_kind y hy w).mono ?_
        rintro r w1 ⟨rfl, rfl⟩
        rw [hb]
        go_wp2_with fail
        go_ret
        exact ⟨rfl, rfl⟩
      · have hs : sgn (key x) (key y) = 0 := by unfold sgn; rw [if_neg (by have := e3 g; omega), if_neg (by have := e3 g; omega)]
        rw [hs]
        have hf := ford_eq n1 n2 g
        clear k1 k2 k3 n1 n2 e1 e2 e3 hs g
        subst h
        go_enter Try.func64, Try.ntmps64
        go_wp2_with fail
        refine (real_kind x hx w).mono ?_
        rintro r w1 ⟨rfl, rfl⟩
        rw [ha]
        go_wp2_with fail
        refine (real_kind y hy w).mono ?_
        rintro r w1 ⟨rfl, rfl⟩
        rw [hb]
        go_wp2_with fail
        go_ret
        exact ⟨rfl, rfl⟩
      · have hs : sgn (key x) (key y) = 1 := by unfold sgn; rw [if_neg (by have := e2 g; omega), if_pos (e2 g)]
        rw [hs]
        have hf := ford_gt n1 n2 g
        clear k1 k2 k3 n1 n2 e1 e2 e3 hs g
        subst h
        go_enter Try.func64, Try.ntmps64
        go_wp2_with fail
        refine (real_kind x hx w).mono ?_
        rintro r w1 ⟨rfl, rfl⟩
        rw [ha]
        go_wp2_with fail
        refine (real_kind y hy w).mono ?_
        rintro r w1 ⟨rfl, rfl⟩
        rw [hb]
        go_wp2_with fail
        go_ret
        exact ⟨rfl, rfl⟩
  · have hs : sgn (key x) (key y) = 1 := by unfold sgn; rw [if_neg (by have := k3 h; omega), if_pos (k3 h)]
    rw [hs]
    clear k1 k2 k3 hs
    go_enter Try.func64, Try.ntmps64
    go_wp2_with fail
    refine (real_kind x hx w).mono ?_
    rintro r w1 ⟨rfl, rfl⟩
    rw [ha]
    go_wp2_with fail
    refine (real_kind y hy w).mono ?_
    rintro r w1 ⟨rfl, rfl⟩
    rw [hb]
    go_wp2_with fail
    go_ret
    exact ⟨rfl, rfl⟩

theorem big_step : ∀ k, k < 1023 → Ieee.double.mul 4611686018427387904 (4607182418800017408 + k * 4503599627370496) = some (4607182418800017408 + (k + 1) * 4503599627370496) := by decide +kernel
theorem mulF {a b r : Nat} (h : Ieee.double.mul a b = some r) (w : World) : (binOp .mul 94 (.float .f64 a) (.float .f64 b)).run Try.prog w = .ok (.float .f64 r) w :=
  run_float_arith w .mul 94 .f64 a b r h
theorem quoF {a b r : Nat} (h : Ieee.double.div a b = some r) (w : World) : (binOp .quo 94 (.float .f64 a) (.float .f64 b)).run Try.prog w = .ok (.float .f64 r) w :=
  run_float_arith w .quo 94 .f64 a b r h
theorem subF {a b r : Nat} (h : Ieee.double.sub a b = some r) (w : World) : (binOp .sub 94 (.float .f64 a) (.float .f64 b)).run Try.prog w = .ok (.float .f64 r) w :=
  run_float_arith w .sub 94 .f64 a b r h
theorem addF {a b r : Nat} (h : Ieee.double.add a b = some r) (w : World) : (binOp .add 94 (.float .f64 a) (.float .f64 b)).run Try.prog w = .ok (.float .f64 r) w :=
  run_float_arith w .add 94 .f64 a b r h
set_option maxRecDepth 100000 in
theorem ref_big1 (w : World) : Calls Try.prog 85 #[] w fun r w' => r = .returned (.float .f64 9218868437227405311) ∧ w = w' := by
  go_enter Try.func85, Try.ntmps85
  go_wp2_with fail
  go_loop [1, 2] (fun v i => ∃ k : Nat, k ≤ 1023 ∧ i = .int .i64 k ∧ v = .float .f64 (4607182418800017408 + k * 4503599627370496)) (fun _ i => 1023 - (intOf i).toNat)
  case atStart => exact ⟨0, by omega, rfl, rfl⟩
  case round =>
    obtain ⟨k, hk, rfl, rfl⟩ := hrel
    rcases Nat.lt_or_ge k 1023 with hlt | hge
    · have hm := mulF (big_step k hlt)
      go_wp2_with fail
      exact ⟨⟨k + 1, by omega, by simp, rfl⟩, by simp [intOf]; omega⟩
    · obtain rfl : k = 1023 := by omega
      have h1 := quoF (a := 9214364837600034816) (b := 4841369599423283200) (r := 8980177656976769024) (by decide +kernel)
      have h2 := subF (a := 9214364837600034816) (b := 8980177656976769024) (r := 9214364837600034814) (by decide +kernel)
      have h3 := addF (a := 9214364837600034816) (b := 9214364837600034814) (r := 9218868437227405311) (by decide +kernel)
      go_wp2_with fail
      go_ret
      exact ⟨rfl, rfl⟩

theorem nan_negmax : ¬ nanW (Op.negFloat .f64 9218868437227405311) := fun h => nan_max ((nan_neg _).1 h)
theorem rank_negmax : rank (Op.negFloat .f64 9218868437227405311) = -9218868437227405311 := by rw [rank_neg _ (by omega), rank_max]
set_option maxRecDepth 100000 in
theorem ref_kind (x : Nat) (hx : x < 18446744073709551616) (w : World) : Calls Try.prog 61 #[.float .f64 x] w fun r w' => r = .returned (.int .i64 (kindP x)) ∧ w = w' := by
  have hu := un_neg 9218868437227405311
  by_cases hn : nanW x
  · have h1 : (ford x x != some .eq) = true := by rw [ford_nan (x := x) (y := x) (.inl hn)]; rfl
    have hk : kindP x = 0 := by unfold kindP; rw [if_pos hn]
    rw [hk]
    clear hn hk
    go_enter Try.func61, Try.ntmps61
    go_wp2_with fail
    refine (ref_nan _ w).mono ?_
    rintro r w1 ⟨rfl, rfl⟩
    rw [h1]
    go_wp2_with fail
    go_ret
    exact ⟨rfl, rfl⟩
  · have h1 : (ford x x != some .eq) = false := by rw [ford_self hn]; rfl
    have hN : True := trivial
    have hRN : True := trivial
    by_cases a3 : rank x = 0
    · have h3 := ford_eq hn nan_nil (by rw [rank_nil]; exact a3)
      rcases zero_cases hx a3 with rfl | rfl
      · have hk : kindP 0 = 4 := by decide +kernel
        rw [hk]
        have hq := quoF (a := 4607182418800017408) (b := 0) (r := 9218868437227405312) (by decide +kernel)
        have h5 : ford 9218868437227405312 0 = some .gt := by decide +kernel
        clear hn hk hN hRN a3
        go_enter Try.func61, Try.ntmps61
        go_wp2_with fail
        refine (ref_nan _ w).mono ?_
        rintro r w1 ⟨rfl, rfl⟩
        rw [h1]
        go_wp2_with fail
        go_ret
        exact ⟨rfl, rfl⟩
      · have hk : kindP 9223372036854775808 = 3 := by decide +kernel
        rw [hk]
        have hq := quoF (a := 4607182418800017408) (b := 9223372036854775808) (r := 18442240474082181120) (by decide +kernel)
        have h5 : ford 18442240474082181120 0 = some .lt := by decide +kernel
        clear hn hk hN hRN a3
        go_enter Try.func61, Try.ntmps61
        go_wp2_with fail
        refine (ref_nan _ w).mono ?_
        rintro r w1 ⟨rfl, rfl⟩
        rw [h1]
        go_wp2_with fail
        go_ret
        exact ⟨rfl, rfl⟩
    rcases Int.lt_or_le (rank x) 0 with a2 | a2
    · have h3 := ford_lt hn nan_nil (by rw [rank_nil]; exact a2)
      rcases Int.lt_or_le (rank x) (-9218868437227405311) with a1 | a1
      · have h4 := ford_lt hn nan_negmax (by rw [rank_negmax]; exact a1)
        have hk : kindP x = 1 := by unfold kindP; rw [if_neg hn, if_pos a1]
        rw [hk]
        clear hn hk hN hRN
        go_enter Try.func61, Try.ntmps61
        go_wp2_with fail
        refine (ref_nan _ w).mono ?_
        rintro r w1 ⟨rfl, rfl⟩
        rw [h1]
        go_wp2_with fail
        refine (ref_big1 w).mono ?_
        rintro r w1 ⟨rfl, rfl⟩
        go_wp2_with fail
        go_ret
        exact ⟨rfl, rfl⟩
      · have h4 : (ford x (Op.negFloat .f64 9218868437227405311) == some .lt) = false := by
          rcases Int.lt_or_le (-9218868437227405311) (rank x) with a | a
          · rw [ford_gt hn nan_negmax (by rw [rank_negmax]; exact a)]; rfl
          · rw [ford_eq hn nan_negmax (by rw [rank_negmax]; omega)]; rfl
        have hk : kindP x = 2 := by unfold kindP; rw [if_neg hn, if_neg (by omega), if_pos a2]
        rw [hk]
        clear hn hk hN hRN
        go_enter Try.func61, Try.ntmps61
        go_wp2_with fail
        refine (ref_nan _ w).mono ?_
        rintro r w1 ⟨rfl, rfl⟩
        rw [h1]
        go_wp2_with fail
        refine (ref_big1 w).mono ?_
        rintro r w1 ⟨rfl, rfl⟩
        go_wp2_with fail
        go_ret
        exact ⟨rfl, rfl⟩
    have h3 := ford_gt hn nan_nil (by rw [rank_nil]; omega)
    rcases Int.lt_or_le 9218868437227405311 (rank x) with a4 | a4
    · have h4 := ford_gt hn nan_max (by rw [rank_max]; exact a4)
      have hk : kindP x = 6 := by unfold kindP; rw [if_neg hn, if_neg (by omega), if_neg (by omega), if_neg a3, if_pos a4]
      rw [hk]
      clear hn hk hN hRN
      go_enter Try.func61, Try.ntmps61
      go_wp2_with fail
      refine (ref_nan _ w).mono ?_
      rintro r w1 ⟨rfl, rfl⟩
      rw [h1]
      go_wp2_with fail
      refine (ref_big1 w).mono ?_
      rintro r w1 ⟨rfl, rfl⟩
      go_wp2_with fail
      go_ret
      exact ⟨rfl, rfl⟩
    · have h4 : (ford x 9218868437227405311 == some .gt) = false := by
        rcases Int.lt_or_le (rank x) 9218868437227405311 with a | a
        · rw [ford_lt hn nan_max (by rw [rank_max]; omega)]; rfl
        · rw [ford_eq hn nan_max (by rw [rank_max]; omega)]; rfl
      have hk : kindP x = 5 := by unfold kindP; rw [if_neg hn, if_neg (by omega), if_neg (by omega), if_neg a3, if_neg (by omega)]
      rw [hk]
      clear hn hk hN hRN
      go_enter Try.func61, Try.ntmps61
      go_wp2_with fail
      refine (ref_nan _ w).mono ?_
      rintro r w1 ⟨rfl, rfl⟩
      rw [h1]
      go_wp2_with fail
      refine (ref_big1 w).mono ?_
      rintro r w1 ⟨rfl, rfl⟩
      go_wp2_with fail
      go_ret
      exact ⟨rfl, rfl⟩
set_option maxRecDepth 100000 in
theorem ref_order (x y : Nat) (w : World) (hx : x < 18446744073709551616) (hy : y < 18446744073709551616) : Calls Try.prog 65 #[.float .f64 x, .float .f64 y] w fun r w' => r = .returned (.int .i64 (sgn (key x) (key y))) ∧ w = w' := by
  obtain ⟨k1, k2⟩ := key_kind x y
  obtain ⟨k3, k4⟩ := key_kind y x
  obtain ⟨a, ha⟩ : ∃ a, kindP x = a := ⟨_, rfl⟩
  obtain ⟨b, hb⟩ : ∃ b, kindP y = b := ⟨_, rfl⟩
  rw [ha, hb] at k1 k2 k3
  clear k4
  rcases Int.lt_trichotomy a b with h | h | h
  · have hs : sgn (key x) (key y) = -1 := by unfold sgn; rw [if_pos (k1 h)]
    rw [hs]
    clear k1 k2 k3 hs
    go_enter Try.func65, Try.ntmps65
    go_wp2_with fail
    refine (ref_kind x hx w).mono ?_
    rintro r w1 ⟨rfl, rfl⟩
    rw [ha]
    go_wp2_with fail
    refine (ref_kind y hy w).mono ?_
    rintro r w1 ⟨rfl, rfl⟩
    rw [hb]
    go_wp2_with fail
    refine (ref_kind x hx w).mono ?_
    rintro r w1 ⟨rfl, rfl⟩
    rw [ha]
    go_wp2_with fail
    refine (ref_kind y hy w).mono ?_
    rintro r w1 ⟨rfl, rfl⟩
    rw [hb]
    go_wp2_with fail
    go_ret
    exact ⟨rfl, rfl⟩
  · rcases k2 h with ⟨n1, n2, e⟩ | ⟨n1, n2, e1, e2, e3⟩
    · have hs : sgn (key x) (key y) = 0 := by unfold sgn; rw [if_neg (by omega), if_neg (by omega)]
      rw [hs]
      have hf := ford_nan (x := x) (y := y) (.inl n1)
      clear k1 k2 k3 n1 n2 e hs
      subst h
      go_enter Try.func65, Try.ntmps65
      go_wp2_with fail
      refine (ref_kind x hx w).mono ?_
      rintro r w1 ⟨rfl, rfl⟩
      rw [ha]
      go_wp2_with fail
      refine (ref_kind y hy w).mono ?_
      rintro r w1 ⟨rfl, rfl⟩
      rw [hb]
      go_wp2_with fail
      go_ret
      exact ⟨rfl, rfl⟩
    · rcases Int.lt_trichotomy (rank x) (rank y) with g | g | g
      · have hs : sgn (key x) (key y) = -1 := by unfold sgn; rw [if_pos (e1 g)]
        rw [hs]
        have hf := ford_lt n1 n2 g
        clear k1 k2 k3 n1 n2 e1 e2 e3 hs g
        subst h
        go_enter Try.func65, Try.ntmps65
        go_wp2_with fail
        refine (ref_kind x hx w).mono ?_
        rintro r w1 ⟨rfl, rfl⟩
        rw [ha]
        go_wp2_with fail
        refine (ref_kind y hy w).mono ?_
        rintro r w1 ⟨rfl, rfl⟩
        rw [hb]
        go_wp2_with fail
        go_ret
        exact ⟨rfl, rfl⟩
      · have hs : sgn (key x) (key y) = 0 := by unfold sgn; rw [if_neg (by have := e3 g; omega), if_neg (by have := e3 g; omega)]
        rw [hs]
        have hf := ford_eq n1 n2 g
        clear k1 k2 k3 n1 n2 e1 e2 e3 hs g
        subst h
        go_enter Try.func65, Try.ntmps65
        go_wp2_with fail
        refine (ref_kind x hx w).mono ?_
        rintro r w1 ⟨rfl, rfl⟩
        rw [ha]
        go_wp2_with fail
        refine (ref_kind y hy w).mono ?_
        rintro r w1 ⟨rfl, rfl⟩
        rw [hb]
        go_wp2_with fail
        go_ret
        exact ⟨rfl, rfl⟩
      · have hs : sgn (key x) (key y) = 1 := by unfold sgn; rw [if_neg (by have := e2 g; omega), if_pos (e2 g)]
        rw [hs]
        have hf := ford_gt n1 n2 g
        clear k1 k2 k3 n1 n2 e1 e2 e3 hs g
        subst h
        go_enter Try.func65, Try.ntmps65
        go_wp2_with fail
        refine (ref_kind x hx w).mono ?_
        rintro r w1 ⟨rfl, rfl⟩
        rw [ha]
        go_wp2_with fail
        refine (ref_kind y hy w).mono ?_
        rintro r w1 ⟨rfl, rfl⟩
        rw [hb]
        go_wp2_with fail
        go_ret
        exact ⟨rfl, rfl⟩
  · have hs : sgn (key x) (key y) = 1 := by unfold sgn; rw [if_neg (by have := k3 h; omega), if_pos (k3 h)]
    rw [hs]
    clear k1 k2 k3 hs
    go_enter Try.func65, Try.ntmps65
    go_wp2_with fail
    refine (ref_kind x hx w).mono ?_
    rintro r w1 ⟨rfl, rfl⟩
    rw [ha]
    go_wp2_with fail
    refine (ref_kind y hy w).mono ?_
    rintro r w1 ⟨rfl, rfl⟩
    rw [hb]
    go_wp2_with fail
    refine (ref_kind x hx w).mono ?_
    rintro r w1 ⟨rfl, rfl⟩
    rw [ha]
    go_wp2_with fail
    refine (ref_kind y hy w).mono ?_
    rintro r w1 ⟨rfl, rfl⟩
    rw [hb]
    go_wp2_with fail
    go_ret
    exact ⟨rfl, rfl⟩

theorem key_rank {x y : Nat} (n1 : ¬ nanW x) (n2 : ¬ nanW y) (h : rank x ≠ 0 ∨ rank y ≠ 0) : key x = key y ↔ rank x = rank y := by
  unfold key
  rw [if_neg n1, if_neg n2]
  unfold rank at h ⊢
  cases hA : negW x <;> cases hB : negW y <;> rw [hA, hB] at h <;> simp only [if_true, if_false, Bool.false_eq_true] at h ⊢ <;> omega
theorem key_nan {x y : Nat} (n1 : nanW x) (n2 : ¬ nanW y) : key x ≠ key y := by
  have : rung y < 9223372036854775808 := Nat.mod_lt _ (by omega)
  unfold key
  rw [if_pos n1, if_neg n2]
  split <;> omega
theorem ford_ne0 {x : Nat} (n : ¬ nanW x) (h : rank x ≠ 0) : (ford x 0 == some .eq) = false := by
  rcases Int.lt_trichotomy (rank x) 0 with a | a | a
  · rw [ford_lt n nan_nil (by rw [rank_nil]; exact a)]; rfl
  · exact absurd a h
  · rw [ford_gt n nan_nil (by rw [rank_nil]; exact a)]; rfl
theorem ford_same {x y : Nat} (n1 : ¬ nanW x) (n2 : ¬ nanW y) : (ford x y == some .eq) = decide (rank x = rank y) := by
  rcases Int.lt_trichotomy (rank x) (rank y) with a | a | a
  · rw [ford_lt n1 n2 a, decide_eq_false (by omega)]; rfl
  · rw [ford_eq n1 n2 a, decide_eq_true a]; rfl
  · rw [ford_gt n1 n2 a, decide_eq_false (by omega)]; rfl
set_option maxRecDepth 100000 in
theorem ref_same (x y : Nat) (w : World) (hx : x < 18446744073709551616) (hy : y < 18446744073709551616) : Calls Try.prog 63 #[.float .f64 x, .float .f64 y] w fun r w' => r = .returned (.bool (decide (key x = key y))) ∧ w = w' := by
  by_cases n1 : nanW x
  · have h1 : (ford x x != some .eq) = true := by rw [ford_nan (x := x) (y := x) (.inl n1)]; rfl
    by_cases n2 : nanW y
    · have h2 : (ford y y != some .eq) = true := by rw [ford_nan (x := y) (y := y) (.inl n2)]; rfl
      have hk : decide (key x = key y) = true := by rw [decide_eq_true_iff]; unfold key; rw [if_pos n1, if_pos n2]
      rw [hk]
      clear n1 n2 hk
      go_enter Try.func63, Try.ntmps63
      go_wp2_with fail
      refine (ref_nan _ w).mono ?_
      rintro r w1 ⟨rfl, rfl⟩
      rw [h1]
      go_wp2_with fail
      refine (ref_nan _ w).mono ?_
      rintro r w1 ⟨rfl, rfl⟩
      rw [h1]
      go_wp2_with fail
      refine (ref_nan _ w).mono ?_
      rintro r w1 ⟨rfl, rfl⟩
      rw [h2]
      go_wp2_with fail
      go_ret
      exact ⟨rfl, rfl⟩
    · have h2 : (ford y y != some .eq) = false := by rw [ford_self n2]; rfl
      have hk : decide (key x = key y) = false := by rw [decide_eq_false_iff_not]; exact key_nan n1 n2
      rw [hk]
      clear n1 n2 hk
      go_enter Try.func63, Try.ntmps63
      go_wp2_with fail
      refine (ref_nan _ w).mono ?_
      rintro r w1 ⟨rfl, rfl⟩
      rw [h1]
      go_wp2_with fail
      refine (ref_nan _ w).mono ?_
      rintro r w1 ⟨rfl, rfl⟩
      rw [h1]
      go_wp2_with fail
      refine (ref_nan _ w).mono ?_
      rintro r w1 ⟨rfl, rfl⟩
      rw [h2]
      go_wp2_with fail
      go_ret
      exact ⟨rfl, rfl⟩
  · have h1 : (ford x x != some .eq) = false := by rw [ford_self n1]; rfl
    by_cases n2 : nanW y
    · have h2 : (ford y y != some .eq) = true := by rw [ford_nan (x := y) (y := y) (.inl n2)]; rfl
      have hk : decide (key x = key y) = false := by rw [decide_eq_false_iff_not]; exact fun h => key_nan n2 n1 h.symm
      rw [hk]
      clear n1 n2 hk
      go_enter Try.func63, Try.ntmps63
      go_wp2_with fail
      refine (ref_nan _ w).mono ?_
      rintro r w1 ⟨rfl, rfl⟩
      rw [h1]
      go_wp2_with fail
      refine (ref_nan _ w).mono ?_
      rintro r w1 ⟨rfl, rfl⟩
      rw [h2]
      go_wp2_with fail
      refine (ref_nan _ w).mono ?_
      rintro r w1 ⟨rfl, rfl⟩
      rw [h1]
      go_wp2_with fail
      go_ret
      exact ⟨rfl, rfl⟩
    · have h2 : (ford y y != some .eq) = false := by rw [ford_self n2]; rfl
      by_cases a : rank x = 0
      · have h3 : (ford x 0 == some .eq) = true := by rw [ford_eq n1 nan_nil (by rw [rank_nil]; exact a)]; rfl
        by_cases b : rank y = 0
        · have h4 : (ford y 0 == some .eq) = true := by rw [ford_eq n2 nan_nil (by rw [rank_nil]; exact b)]; rfl
          have q0 := quoF (a := 4607182418800017408) (b := 0) (r := 9218868437227405312) (by decide +kernel)
          have q1 := quoF (a := 4607182418800017408) (b := 9223372036854775808) (r := 18442240474082181120) (by decide +kernel)
          rcases zero_cases hx a with rfl | rfl <;> rcases zero_cases hy b with rfl | rfl
          · have hk : decide (key 0 = key 0) = true := by decide +kernel
            have h5 : (ford 9218868437227405312 9218868437227405312 == some .eq) = true := by decide +kernel
            rw [hk]
            clear n1 n2 hk a b
            go_enter Try.func63, Try.ntmps63
            go_wp2_with fail
            refine (ref_nan _ w).mono ?_
            rintro r w1 ⟨rfl, rfl⟩
            rw [h1]
            go_wp2_with fail
            refine (ref_nan _ w).mono ?_
            rintro r w1 ⟨rfl, rfl⟩
            rw [h2]
            go_wp2_with fail
            go_ret
            exact ⟨rfl, rfl⟩
          · have hk : decide (key 0 = key 9223372036854775808) = false := by decide +kernel
            have h5 : (ford 9218868437227405312 18442240474082181120 == some .eq) = false := by decide +kernel
            rw [hk]
            clear n1 n2 hk a b
            go_enter Try.func63, Try.ntmps63
            go_wp2_with fail
            refine (ref_nan _ w).mono ?_
            rintro r w1 ⟨rfl, rfl⟩
            rw [h1]
            go_wp2_with fail
            refine (ref_nan _ w).mono ?_
            rintro r w1 ⟨rfl, rfl⟩
            rw [h2]
            go_wp2_with fail
            go_ret
            exact ⟨rfl, rfl⟩
          · have hk : decide (key 9223372036854775808 = key 0) = false := by decide +kernel
            have h5 : (ford 18442240474082181120 9218868437227405312 == some .eq) = false := by decide +kernel
            rw [hk]
            clear n1 n2 hk a b
            go_enter Try.func63, Try.ntmps63
            go_wp2_with fail
            refine (ref_nan _ w).mono ?_
            rintro r w1 ⟨rfl, rfl⟩
            rw [h1]
            go_wp2_with fail
            refine (ref_nan _ w).mono ?_
            rintro r w1 ⟨rfl, rfl⟩
            rw [h2]
            go_wp2_with fail
            go_ret
            exact ⟨rfl, rfl⟩
          · have hk : decide (key 9223372036854775808 = key 9223372036854775808) = true := by decide +kernel
            have h5 : (ford 18442240474082181120 18442240474082181120 == some .eq) = true := by decide +kernel
            rw [hk]
            clear n1 n2 hk a b
            go_enter Try.func63, Try.ntmps63
            go_wp2_with fail
            refine (ref_nan _ w).mono ?_
            rintro r w1 ⟨rfl, rfl⟩
            rw [h1]
            go_wp2_with fail
            refine (ref_nan _ w).mono ?_
            rintro r w1 ⟨rfl, rfl⟩
            rw [h2]
            go_wp2_with fail
            go_ret
            exact ⟨rfl, rfl⟩
        · have h4 := ford_ne0 n2 b
          have h5 := ford_same n1 n2
          have hk : decide (key x = key y) = decide (rank x = rank y) := by rw [Bool.eq_iff_iff, decide_eq_true_iff, decide_eq_true_iff]; exact key_rank n1 n2 (.inr b)
          rw [hk, ← h5]
          clear n1 n2 hk a b h5
          go_enter Try.func63, Try.ntmps63
          go_wp2_with fail
          refine (ref_nan _ w).mono ?_
          rintro r w1 ⟨rfl, rfl⟩
          rw [h1]
          go_wp2_with fail
          refine (ref_nan _ w).mono ?_
          rintro r w1 ⟨rfl, rfl⟩
          rw [h2]
          go_wp2_with fail
          go_ret
          exact ⟨rfl, rfl⟩
      · have h3 := ford_ne0 n1 a
        have h5 := ford_same n1 n2
        have hk : decide (key x = key y) = decide (rank x = rank y) := by rw [Bool.eq_iff_iff, decide_eq_true_iff, decide_eq_true_iff]; exact key_rank n1 n2 (.inl a)
        rw [hk, ← h5]
        clear n1 n2 hk a h5
        go_enter Try.func63, Try.ntmps63
        go_wp2_with fail
        refine (ref_nan _ w).mono ?_
        rintro r w1 ⟨rfl, rfl⟩
        rw [h1]
        go_wp2_with fail
        refine (ref_nan _ w).mono ?_
        rintro r w1 ⟨rfl, rfl⟩
        rw [h2]
        go_wp2_with fail
        go_ret
        exact ⟨rfl, rfl⟩

end Go.Proofs.Ytlpigldogglmcaa
