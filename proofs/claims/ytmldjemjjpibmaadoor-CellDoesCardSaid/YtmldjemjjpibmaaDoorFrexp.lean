/- math.Frexp and math.Ldexp of a finite number that is not 0. -/
import Derived.Test.YtmldjemjjpibmaaDoorBitOps
import Derived.Test.YtmldjemjjpibmaaDoorExOne
set_option linter.unusedVariables false
set_option linter.unusedSimpArgs false
namespace Go.Proofs.YtmldjemjjpibmaaDoor
open Go.RowKit
open Go.Proofs.YtmldjemjjpibmaaDoorW.PrintWords

theorem rung_lt (x : Nat) : rung x < 9223372036854775808 := Nat.mod_lt _ (by decide)
theorem fin_nan {x : Nat} (h : rung x < 9218868437227405312) : ¬ nanW x := by unfold nanW; omega
theorem rank_ne {x : Nat} (h : 0 < rung x) : rank x ≠ 0 := by unfold rank; cases negW x <;> simp <;> omega
theorem ford_zero {x : Nat} (h0 : 0 < rung x) (h1 : rung x < 9218868437227405312) : ford x 0 = some .lt ∨ ford x 0 = some .gt := by
  have h := rank_ne h0
  rcases Int.lt_or_lt_of_ne h with h | h
  · exact .inl (ford_lt (fin_nan h1) nan_nil (by rw [rank_nil]; exact h))
  · exact .inr (ford_gt (fin_nan h1) nan_nil (by rw [rank_nil]; exact h))
theorem ford_pos {a b : Nat} (ha : a ≤ 9218868437227405312) (hb : b ≤ 9218868437227405312) : ford a b = some (if a < b then .lt else if a = b then .eq else .gt) := by
  have na := nan_pos ha
  have nb := nan_pos hb
  have ra := rank_pos (y := a) (by omega)
  have rb := rank_pos (y := b) (by omega)
  rcases Nat.lt_or_ge a b with h | h
  · rw [if_pos h]; exact ford_lt na nb (by rw [ra, rb]; omega)
  · rw [if_neg (by omega)]
    by_cases h2 : a = b
    · rw [if_pos h2]; exact ford_eq na nb (by rw [ra, rb, h2])
    · rw [if_neg h2]; exact ford_gt na nb (by rw [ra, rb]; omega)
theorem m_abs (x : Nat) (hx : x < 18446744073709551616) (w : World) : Calls Tryd.prog 48 #[.float .f64 x] w fun r w' => r = .returned (.float .f64 (rung x)) ∧ w = w' := by
  have h1 := ex_bits x
  have h2 := ex_fromI (rung x : Nat) (rung x) rfl
  have h3 := mask_sign x hx
  go_enter Tryd.func48, Tryd.ntmps48
  go_wp2_with fail
  go_ret
  exact ⟨rfl, rfl⟩
theorem m_inf0 (x : Nat) (hx : x < 18446744073709551616) (h : rung x < 9218868437227405312) (w : World) : Calls Tryd.prog 42 #[.float .f64 x, .int .i64 0] w fun r w' => r = .returned (.bool false) ∧ w = w' := by
  have h3 : (ford (rung x) 9218868437227405311 == some .gt) = false := by
    rw [ford_pos (by omega) (by omega)]
    split
    · rfl
    · rw [if_pos (by omega)]; rfl
  go_enter Tryd.func42, Tryd.ntmps42
  go_wp2_with fail
  refine (m_abs x hx _).mono ?_
  rintro r w1 ⟨rfl, rfl⟩
  go_wp2_with fail
  go_ret
  exact ⟨rfl, rfl⟩
theorem m_nan0 (x : Nat) (h : rung x < 9218868437227405312) (w : World) : Calls Tryd.prog 57 #[.float .f64 x] w fun r w' => r = .returned (.bool false) ∧ w = w' := by
  have h3 : ford x x = some .eq := ford_eq (fin_nan h) (fin_nan h) rfl
  go_enter Tryd.func57, Tryd.ntmps57
  go_wp2_with fail
  go_ret
  exact ⟨rfl, rfl⟩
structure Norm (x y d : Nat) : Prop where
  lt : y < 18446744073709551616
  neg : negW y = negW x
  lo : 4503599627370496 ≤ rung y
  hi : rung y < 9218868437227405312
  sc : scale (rung y) = scale (rung x) * 2 ^ d
theorem m_norm (x : Nat) (hx : x < 18446744073709551616) (h0 : 0 < rung x) (h1 : rung x < 9218868437227405312) (w : World) :
    Calls Tryd.prog 58 #[.float .f64 x] w fun r w' => (∃ y d, Norm x y d ∧ (4503599627370496 ≤ rung x → y = x ∧ d = 0) ∧ (d = 0 ∨ d = 52) ∧ r = .returned (.tuple #[.float .f64 y, .int .i64 (-(d : Int))])) ∧ w = w' := by
  rcases Nat.lt_or_ge (rung x) 4503599627370496 with h | h
  · obtain ⟨y, hm, hy, hn, _, hl, hh, hs⟩ := mul52 x hx h0 h
    have h3 : ford (rung x) 4503599627370496 = some .lt := by rw [ford_pos (by omega) (by omega), if_pos h]
    have h4 := mulF (a := x) (b := 4841369599423283200) (r := y) hm
    have HN := Lib.hid (show Norm x y 52 from ⟨hy, hn, hl, hh, hs⟩)
    clear hm hy hn hl hh hs
    go_enter Tryd.func58, Tryd.ntmps58
    go_wp2_with fail
    refine (m_abs x hx _).mono ?_
    rintro r w1 ⟨rfl, rfl⟩
    go_wp2_with fail
    go_ret2
    exact ⟨⟨y, 52, HN.out, fun h' => by omega, .inr rfl, rfl⟩, rfl⟩
  · have h3 : ford (rung x) 4503599627370496 = some (if rung x = 4503599627370496 then .eq else .gt) := by rw [ford_pos (by omega) (by omega), if_neg (by omega)]
    have HN := Lib.hid (show Norm x x 0 from ⟨hx, rfl, h, h1, by rw [Nat.pow_zero, Nat.mul_one]⟩)
    split at h3
    all_goals
      go_enter Tryd.func58, Tryd.ntmps58
      go_wp2_with fail
      refine (m_abs x hx _).mono ?_
      rintro r w1 ⟨rfl, rfl⟩
      go_wp2_with fail
      go_ret2
      exact ⟨⟨x, 0, HN.out, fun _ => ⟨rfl, rfl⟩, .inl rfl, rfl⟩, rfl⟩
set_option maxRecDepth 100000 in
theorem m_frexp (x : Nat) (hx : x < 18446744073709551616) (h0 : 0 < rung x) (h1 : rung x < 9218868437227405312) (w : World) :
    Calls Tryd.prog 50 #[.float .f64 x] w fun r w' => (∃ y d, Norm x y d ∧ r = .returned (.tuple #[.float .f64 (y / 9223372036854775808 * 9223372036854775808 + 1022 * 4503599627370496 + y % 4503599627370496), .int .i64 ((rung y / 4503599627370496 : Nat) - 1022 - (d : Int))])) ∧ w = w' := by
  rcases ford_zero h0 h1 with hz | hz
  all_goals
    go_enter Tryd.func50, Tryd.ntmps50
    go_wp2_with fail
    refine (m_inf0 x hx h1 _).mono ?_
    rintro r w1 ⟨rfl, rfl⟩
    go_wp2_with fail
    refine (m_nan0 x h1 _).mono ?_
    rintro r w1 ⟨rfl, rfl⟩
    go_wp2_with fail
    refine (m_norm x hx h0 h1 _).mono ?_
    rintro r w1 ⟨⟨y, d, hN, _, hd, rfl⟩, rfl⟩
    have g1 := ex_bits y
    have g2 := and_exp y hN.lt
    have g3 := mask_exp y hN.lt
    have g4 := or_exp (y / 9223372036854775808) (y % 4503599627370496) 1022 (by have := hN.lt; omega) (Nat.mod_lt _ (by decide)) (by decide) 4602678819172646912 rfl
    obtain ⟨a1, ha1⟩ : ∃ a, a = y / 9223372036854775808 * 9223372036854775808 + y % 4503599627370496 := ⟨_, rfl⟩
    obtain ⟨a2, ha2⟩ : ∃ a, a = y / 9223372036854775808 * 9223372036854775808 + 1022 * 4503599627370496 + y % 4503599627370496 := ⟨_, rfl⟩
    rw [← ha1] at g3 g4
    rw [← ha2] at g4
    have g5 := ex_fromI (a2 : Int) a2 rfl
    obtain ⟨E, hE⟩ : ∃ E, E = rung y / 4503599627370496 := ⟨_, rfl⟩
    have hEb : E ≤ 2046 := by rw [hE]; have := hN.hi; omega
    have HN := Lib.hid hN
    have HE := Lib.hid hE
    have HA := Lib.hid ha2
    rw [← hE] at g2
    clear hN hE ha1 ha2
    rcases hd with rfl | rfl
    all_goals
      go_wp2_with fail
      go_ret2
      refine ⟨⟨y, _, HN.out, ?_⟩, rfl⟩
      rw [← HE.out, ← HA.out]
      first | rfl | (simp only [Ending.returned.injEq, Value.tuple.injEq]; go_num) | (congr 5; omega)
theorem m_Frexp (x : Nat) (hx : x < 18446744073709551616) (h0 : 0 < rung x) (h1 : rung x < 9218868437227405312) (w : World) :
    Calls Tryd.prog 44 #[.float .f64 x] w fun r w' => (∃ y d, Norm x y d ∧ r = .returned (.tuple #[.float .f64 (y / 9223372036854775808 * 9223372036854775808 + 1022 * 4503599627370496 + y % 4503599627370496), .int .i64 ((rung y / 4503599627370496 : Nat) - 1022 - (d : Int))])) ∧ w = w' := by
  go_enter Tryd.func44, Tryd.ntmps44
  go_wp2_with fail
  refine (m_frexp x hx h0 h1 _).mono ?_
  rintro r w1 ⟨⟨y, d, hN, rfl⟩, rfl⟩
  go_wp2_with fail
  go_ret2
  exact ⟨⟨y, d, hN, rfl⟩, rfl⟩
/-- Ldexp by 53 of a number from a half to 1: a whole one. -/
theorem m_ldexp (z M q : Nat) (hq : q < 2) (hM : M < 4503599627370496) (hz : z = q * 9223372036854775808 + 1022 * 4503599627370496 + M) (w : World) :
    Calls Tryd.prog 52 #[.float .f64 z, .int .i64 53] w fun r w' => r = .returned (.float .f64 (q * 9223372036854775808 + 1075 * 4503599627370496 + M)) ∧ w = w' := by
  have hzl : z < 18446744073709551616 := by omega
  have hr : rung z = 1022 * 4503599627370496 + M := by unfold rung; omega
  have g1 := ex_bits z
  have g3 := mask_exp z hzl
  have g4 := or_exp q M 1075 hq hM (by decide) 4841369599423283200 rfl
  obtain ⟨a2, ha2⟩ : ∃ a, a = q * 9223372036854775808 + 1075 * 4503599627370496 + M := ⟨_, rfl⟩
  have g6 := mulF (mul_one a2 (by omega) (by unfold rung; omega))
  rw [show z / 9223372036854775808 * 9223372036854775808 + z % 4503599627370496 = q * 9223372036854775808 + M from by omega] at g3
  obtain ⟨a1, ha1⟩ : ∃ a, a = q * 9223372036854775808 + M := ⟨_, rfl⟩
  rw [← ha1] at g3 g4
  rw [← ha2] at g4 ⊢
  have g5 := ex_fromI (a2 : Int) a2 rfl
  have g2 := and_exp_i (z / 4503599627370496) (by omega)
  rw [show z / 4503599627370496 % 2048 = 1022 from by omega] at g2
  have g2' : bits .and .i64 ((z : Int) / 4503599627370496) 2047 = 1022 := g2
  have hzi : (z : Int) / 4503599627370496 ≤ 4096 := by omega
  have hzi0 : 0 ≤ (z : Int) / 4503599627370496 := by omega
  have hzl2 := hzl
  have HR := Lib.hid (show 4503599627370496 ≤ rung z ∧ rung z < 9218868437227405312 from by omega)
  clear ha1 ha2 hz hq hM hr g2
  rcases ford_zero (x := z) (by have := HR.out; omega) (by have := HR.out; omega) with hz | hz
  all_goals
    go_enter Tryd.func52, Tryd.ntmps52
    go_wp2_with fail
    refine (m_inf0 z hzl (by have := HR.out; omega) _).mono ?_
    rintro r w1 ⟨rfl, rfl⟩
    go_wp2_with fail
    refine (m_nan0 z (by have := HR.out; omega) _).mono ?_
    rintro r w1 ⟨rfl, rfl⟩
    go_wp2_with fail
    refine (m_norm z hzl (by have := HR.out; omega) (by have := HR.out; omega) _).mono ?_
    rintro r w1 ⟨⟨y, d, hN, hy, hd, rfl⟩, rfl⟩
    obtain ⟨rfl, rfl⟩ := hy (by have := HR.out; omega)
    clear hN hd hy
    go_wp2_with fail
    go_ret
    exact ⟨rfl, rfl⟩
theorem m_Ldexp (z M q : Nat) (hq : q < 2) (hM : M < 4503599627370496) (hz : z = q * 9223372036854775808 + 1022 * 4503599627370496 + M) (w : World) :
    Calls Tryd.prog 45 #[.float .f64 z, .int .i64 53] w fun r w' => r = .returned (.float .f64 (q * 9223372036854775808 + 1075 * 4503599627370496 + M)) ∧ w = w' := by
  have h := m_ldexp z M q hq hM hz
  clear hz hM hq
  go_enter Tryd.func45, Tryd.ntmps45
  go_wp2_with fail
  refine (h _).mono ?_
  rintro r w1 ⟨rfl, rfl⟩
  go_wp2_with fail
  go_ret
  exact ⟨rfl, rfl⟩
theorem cv_i64 {z : Nat} {n : Int} (h : (Ieee.double.read z).toInt .zero = some n) (h1 : -9223372036854775808 ≤ n) (h2 : n ≤ 9223372036854775807) (w : World) : (convert 22 2 (.float .f64 z)).run Tryd.prog w = .ok (.int .i64 n) w := by
  refine run_convert_float_int w 22 2 .f64 .i64 z n (by rw [Tryd.underlying22]; rfl) Tryd.underlying2 ?_
  unfold floatToIntVal
  rw [show FloatKind.f64.decode z = Ieee.double.read z from rfl, h]
  simp only
  rw [if_pos ⟨h1, h2⟩]
end Go.Proofs.YtmldjemjjpibmaaDoor
