/- Floats: the reference's kind. -/
import Derived.Test.YtmldjemjjpibmaaDoorFltR
set_option linter.unusedVariables false
set_option linter.unusedSimpArgs false
namespace Go.Proofs.YtmldjemjjpibmaaDoor
open Go.RowKit

theorem un_neg (b : Nat) : Op.unary .neg (.float .f64 b) = pure (.float .f64 (Op.negFloat .f64 b)) := rfl
theorem rank_max : rank 9218868437227405311 = 9218868437227405311 := by decide +kernel
theorem nan_max : ¬ nanW 9218868437227405311 := by decide +kernel
theorem rung_neg (x : Nat) : rung (Op.negFloat .f64 x) = rung x := by
  show (x ^^^ 2 ^ 63) % 2 ^ 63 = x % 2 ^ 63
  rw [Nat.xor_mod_two_pow, Nat.mod_self, Nat.xor_zero]
theorem negW_neg (x : Nat) (hx : x < 18446744073709551616) : negW (Op.negFloat .f64 x) = !negW x := by
  show ((x ^^^ 2 ^ 63) / 2 ^ 63 % 2 == 1) = !(x / 2 ^ 63 % 2 == 1)
  rw [Nat.xor_div_two_pow, show 2 ^ 63 / 2 ^ 63 = 1 from by decide +kernel]
  have : x / 2 ^ 63 = 0 ∨ x / 2 ^ 63 = 1 := by omega
  rcases this with h | h <;> rw [h] <;> rfl
theorem rank_neg (x : Nat) (hx : x < 18446744073709551616) : rank (Op.negFloat .f64 x) = -rank x := by
  unfold rank
  rw [negW_neg x hx, rung_neg]
  cases negW x <;> simp
theorem nan_neg (x : Nat) : nanW (Op.negFloat .f64 x) ↔ nanW x := by unfold nanW; rw [rung_neg]
/-- A number's kind. -/
def kindP (x : Nat) : Int :=
  if nanW x then 0 else if rank x < -9218868437227405311 then 1 else if rank x < 0 then 2 else if rank x = 0 then (if negW x then 3 else 4) else if 9218868437227405311 < rank x then 6 else 5
theorem big_step : ∀ k, k < 1023 → Ieee.double.mul 4611686018427387904 (4607182418800017408 + k * 4503599627370496) = some (4607182418800017408 + (k + 1) * 4503599627370496) := by decide +kernel
theorem mulF {a b r : Nat} (h : Ieee.double.mul a b = some r) (w : World) : (binOp .mul 22 (.float .f64 a) (.float .f64 b)).run Tryd.prog w = .ok (.float .f64 r) w :=
  run_float_arith w .mul 22 .f64 a b r h
theorem subF {a b r : Nat} (h : Ieee.double.sub a b = some r) (w : World) : (binOp .sub 22 (.float .f64 a) (.float .f64 b)).run Tryd.prog w = .ok (.float .f64 r) w :=
  run_float_arith w .sub 22 .f64 a b r h
theorem addF {a b r : Nat} (h : Ieee.double.add a b = some r) (w : World) : (binOp .add 22 (.float .f64 a) (.float .f64 b)).run Tryd.prog w = .ok (.float .f64 r) w :=
  run_float_arith w .add 22 .f64 a b r h
set_option maxRecDepth 100000 in
theorem ref_big1 (w : World) : Calls Tryd.prog 31 #[] w fun r w' => r = .returned (.float .f64 9218868437227405311) ∧ w = w' := by
  go_enter Tryd.func31, Tryd.ntmps31
  go_wp2_with fail
  go_loop [1, 2] (fun v i => ∃ k : Nat, k ≤ 1023 ∧ i = .int .i64 k ∧ v = .float .f64 (4607182418800017408 + k * 4503599627370496)) (fun _ i => 1023 - (intOf i).toNat)
  case atStart => exact ⟨0, by omega, rfl, rfl⟩
  case round =>
    obtain ⟨k, hk, rfl, rfl⟩ := hrel
    rcases Nat.lt_or_ge k 1023 with hlt | hge
    · have hm := mulF (big_step k hlt)
      go_wp2_with fail
      exact ⟨⟨k + 1, by omega, by simp, rfl⟩, by simp [intOf]; omega⟩
    · obtain rfl : k = 1023 := by omega
      have h1 := quoF (a := 9214364837600034816) (b := 4841369599423283200) (r := 8980177656976769024) (by decide +kernel)
      have h2 := subF (a := 9214364837600034816) (b := 8980177656976769024) (r := 9214364837600034814) (by decide +kernel)
      have h3 := addF (a := 9214364837600034816) (b := 9214364837600034814) (r := 9218868437227405311) (by decide +kernel)
      go_wp2_with fail
      go_ret
      exact ⟨rfl, rfl⟩
theorem nan_negmax : ¬ nanW (Op.negFloat .f64 9218868437227405311) := fun h => nan_max ((nan_neg _).1 h)
theorem rank_negmax : rank (Op.negFloat .f64 9218868437227405311) = -9218868437227405311 := by rw [rank_neg _ (by omega), rank_max]
set_option maxRecDepth 100000 in
theorem ref_kind (x : Nat) (hx : x < 18446744073709551616) (w : World) : Calls Tryd.prog 21 #[.float .f64 x] w fun r w' => r = .returned (.int .i64 (kindP x)) ∧ w = w' := by
  have hu := un_neg 9218868437227405311
  by_cases hn : nanW x
  · have h1 : (ford x x != some .eq) = true := by rw [ford_nan (x := x) (y := x) (.inl hn)]; rfl
    have hk : kindP x = 0 := by unfold kindP; rw [if_pos hn]
    rw [hk]
    clear hn hk
    go_enter Tryd.func21, Tryd.ntmps21
    go_wp2_with fail
    refine (ref_nan _ w).mono ?_
    rintro r w1 ⟨rfl, rfl⟩
    rw [h1]
    go_wp2_with fail
    go_ret
    exact ⟨rfl, rfl⟩
  · have h1 : (ford x x != some .eq) = false := by rw [ford_self hn]; rfl
    have hN : True := trivial
    have hRN : True := trivial
    by_cases a3 : rank x = 0
    · have h3 := ford_eq hn nan_nil (by rw [rank_nil]; exact a3)
      rcases zero_cases hx a3 with rfl | rfl
      · have hk : kindP 0 = 4 := by decide +kernel
        rw [hk]
        have hq := quoF (a := 4607182418800017408) (b := 0) (r := 9218868437227405312) (by decide +kernel)
        have h5 : ford 9218868437227405312 0 = some .gt := by decide +kernel
        clear hn hk hN hRN a3
        go_enter Tryd.func21, Tryd.ntmps21
        go_wp2_with fail
        refine (ref_nan _ w).mono ?_
        rintro r w1 ⟨rfl, rfl⟩
        rw [h1]
        go_wp2_with fail
        go_ret
        exact ⟨rfl, rfl⟩
      · have hk : kindP 9223372036854775808 = 3 := by decide +kernel
        rw [hk]
        have hq := quoF (a := 4607182418800017408) (b := 9223372036854775808) (r := 18442240474082181120) (by decide +kernel)
        have h5 : ford 18442240474082181120 0 = some .lt := by decide +kernel
        clear hn hk hN hRN a3
        go_enter Tryd.func21, Tryd.ntmps21
        go_wp2_with fail
        refine (ref_nan _ w).mono ?_
        rintro r w1 ⟨rfl, rfl⟩
        rw [h1]
        go_wp2_with fail
        go_ret
        exact ⟨rfl, rfl⟩
    rcases Int.lt_or_le (rank x) 0 with a2 | a2
    · have h3 := ford_lt hn nan_nil (by rw [rank_nil]; exact a2)
      rcases Int.lt_or_le (rank x) (-9218868437227405311) with a1 | a1
      · have h4 := ford_lt hn nan_negmax (by rw [rank_negmax]; exact a1)
        have hk : kindP x = 1 := by unfold kindP; rw [if_neg hn, if_pos a1]
        rw [hk]
        clear hn hk hN hRN
        go_enter Tryd.func21, Tryd.ntmps21
        go_wp2_with fail
        refine (ref_nan _ w).mono ?_
        rintro r w1 ⟨rfl, rfl⟩
        rw [h1]
        go_wp2_with fail
        refine (ref_big1 w).mono ?_
        rintro r w1 ⟨rfl, rfl⟩
        go_wp2_with fail
        go_ret
        exact ⟨rfl, rfl⟩
      · have h4 : (ford x (Op.negFloat .f64 9218868437227405311) == some .lt) = false := by
          rcases Int.lt_or_le (-9218868437227405311) (rank x) with a | a
          · rw [ford_gt hn nan_negmax (by rw [rank_negmax]; exact a)]; rfl
          · rw [ford_eq hn nan_negmax (by rw [rank_negmax]; omega)]; rfl
        have hk : kindP x = 2 := by unfold kindP; rw [if_neg hn, if_neg (by omega), if_pos a2]
        rw [hk]
        clear hn hk hN hRN
        go_enter Tryd.func21, Tryd.ntmps21
        go_wp2_with fail
        refine (ref_nan _ w).mono ?_
        rintro r w1 ⟨rfl, rfl⟩
        rw [h1]
        go_wp2_with fail
        refine (ref_big1 w).mono ?_
        rintro r w1 ⟨rfl, rfl⟩
        go_wp2_with fail
        go_ret
        exact ⟨rfl, rfl⟩
    have h3 := ford_gt hn nan_nil (by rw [rank_nil]; omega)
    rcases Int.lt_or_le 9218868437227405311 (rank x) with a4 | a4
    · have h4 := ford_gt hn nan_max (by rw [rank_max]; exact a4)
      have hk : kindP x = 6 := by unfold kindP; rw [if_neg hn, if_neg (by omega), if_neg (by omega), if_neg a3, if_pos a4]
      rw [hk]
      clear hn hk hN hRN
      go_enter Tryd.func21, Tryd.ntmps21
      go_wp2_with fail
      refine (ref_nan _ w).mono ?_
      rintro r w1 ⟨rfl, rfl⟩
      rw [h1]
      go_wp2_with fail
      refine (ref_big1 w).mono ?_
      rintro r w1 ⟨rfl, rfl⟩
      go_wp2_with fail
      go_ret
      exact ⟨rfl, rfl⟩
    · have h4 : (ford x 9218868437227405311 == some .gt) = false := by
        rcases Int.lt_or_le (rank x) 9218868437227405311 with a | a
        · rw [ford_lt hn nan_max (by rw [rank_max]; omega)]; rfl
        · rw [ford_eq hn nan_max (by rw [rank_max]; omega)]; rfl
      have hk : kindP x = 5 := by unfold kindP; rw [if_neg hn, if_neg (by omega), if_neg (by omega), if_neg a3, if_neg (by omega)]
      rw [hk]
      clear hn hk hN hRN
      go_enter Tryd.func21, Tryd.ntmps21
      go_wp2_with fail
      refine (ref_nan _ w).mono ?_
      rintro r w1 ⟨rfl, rfl⟩
      rw [h1]
      go_wp2_with fail
      refine (ref_big1 w).mono ?_
      rintro r w1 ⟨rfl, rfl⟩
      go_wp2_with fail
      go_ret
      exact ⟨rfl, rfl⟩
end Go.Proofs.YtmldjemjjpibmaaDoor
