/- A double's bits by doubling and halving: plainly. No program in sight. -/
import Derived.Test.YtmldjemjjpibmaaDoorHalf
import Derived.Test.YtmldjemjjpibmaaDoorFltK
import Derived.Test.YtmldjemjjpibmaaDoorFltA
import Derived.Laws.FloatArith
set_option linter.unusedVariables false
set_option linter.unusedSimpArgs false
namespace Go.Proofs.YtmldjemjjpibmaaDoor
open Ieee

def k74 : Nat := 1074
theorem k74_is : k74 = 1074 := rfl
theorem toInt_exact (x n : Nat) (h : rung x < 9218868437227405312) (hs : scale (rung x) = n * 2 ^ k74) : (double.read x).toInt .zero = some (if negW x then -(n : Int) else n) := by
  obtain ⟨m, a, he, hm⟩ := read_num x h
  rw [he]
  rw [hs] at hm
  have hk := k74_is
  generalize k74 = k at hk hm
  have key : Toward.zero.cut (negW x) (m <<< ((-1074 : Int) + a).toNat) (-((-1074 : Int) + a)).toNat = n := by
    rcases Nat.le_total a k with ha | ha
    · rw [show ((-1074 : Int) + a).toNat = 0 from by omega, show (-((-1074 : Int) + a)).toNat = k - a from by omega, Nat.shiftLeft_zero]
      have : m = n * 2 ^ (k - a) := by
        have h1 : m * 2 ^ a = n * 2 ^ (k - a) * 2 ^ a := by rw [hm, Nat.mul_assoc, ← Nat.pow_add, Nat.sub_add_cancel ha]
        exact Nat.eq_of_mul_eq_mul_right (Nat.two_pow_pos a) h1
      rw [this]
      exact cut_exact .zero (.inr rfl) _ _ _
    · rw [show ((-1074 : Int) + a).toNat = a - k from by omega, show (-((-1074 : Int) + a)).toNat = 0 from by omega, Nat.shiftLeft_eq]
      have : m * 2 ^ (a - k) = n := by
        have h1 : m * 2 ^ (a - k) * 2 ^ k = n * 2 ^ k := by rw [Nat.mul_assoc, ← Nat.pow_add, Nat.sub_add_cancel ha, hm]
        exact Nat.eq_of_mul_eq_mul_right (Nat.two_pow_pos k) h1
      rw [this]
      have := cut_exact .zero (.inr rfl) (negW x) n 0
      rwa [Nat.pow_zero, Nat.mul_one] at this
  simp only [Datum.toInt, Datum.integral, key, signed, Nat.shiftLeft_zero]
theorem scale_dbl {z : Nat} : scale (if z < 4503599627370496 then 2 * z else z + 4503599627370496) = 2 * scale z := by
  rcases Nat.lt_or_ge z 4503599627370496 with h | h
  · rw [if_pos h]
    unfold scale
    rw [if_pos h]
    rcases Nat.lt_or_ge (2 * z) 4503599627370496 with h2 | h2
    · rw [if_pos h2]
    · rw [if_neg (by omega), show 2 * z / 4503599627370496 - 1 = 0 from by omega, Nat.pow_zero, Nat.mul_one]
      omega
  · rw [if_neg (by omega)]
    unfold scale
    rw [if_neg (by omega), if_neg (by omega), show (z + 4503599627370496) % 4503599627370496 = z % 4503599627370496 from by omega, show (z + 4503599627370496) / 4503599627370496 - 1 = (z / 4503599627370496 - 1) + 1 from by omega, Nat.pow_succ, ← Nat.mul_assoc, Nat.mul_comm _ 2]
theorem scale_le {a b : Nat} (h : a ≤ b) : scale a ≤ scale b := by
  rcases Nat.eq_or_lt_of_le h with h | h
  · rw [h]; exact Nat.le_refl _
  · exact Nat.le_of_lt (scale_mono h)
theorem scale_c2 : scale 4841369599423283200 = 4503599627370496 * 2 ^ k74 := by
  unfold scale
  rw [if_neg (by omega), show 4841369599423283200 / 4503599627370496 - 1 = k74 from by rw [k74_is]]
/-- Behind i doublings of y. -/
structure Dbl (y i z : Nat) : Prop where
  sc : scale z = scale y * 2 ^ i
  norm : 4503599627370496 ≤ y → z = y + i * 4503599627370496
theorem Dbl.zero (y : Nat) : Dbl y 0 y := ⟨by rw [Nat.pow_zero, Nat.mul_one], fun _ => by omega⟩
theorem Dbl.succ {y i z : Nat} (h : Dbl y i z) : Dbl y (i + 1) (if z < 4503599627370496 then 2 * z else z + 4503599627370496) :=
  ⟨by rw [scale_dbl, h.sc, Nat.pow_succ, Nat.mul_comm, Nat.mul_assoc], fun hy => by have := h.norm hy; rw [if_neg (by omega), this]; omega⟩
theorem Dbl.pos {y i z : Nat} (h : Dbl y i z) (hy : 0 < y) : 0 < z := by
  rcases Nat.eq_zero_or_pos z with hz | hz
  · have h1 := h.sc
    rw [hz, scale_zero] at h1
    have h2 : scale 0 < scale y := scale_mono hy
    rw [scale_zero] at h2
    have := Nat.mul_pos h2 (Nat.two_pow_pos i)
    omega
  · exact hz
/-- A subnormal one stays below 2^52 as long as there are places. -/
theorem Dbl.low {y i z : Nat} (h : Dbl y i z) (hy : y < 4503599627370496) (hi : i ≤ 1074) : z < 4841369599423283200 := by
  rcases Nat.lt_or_ge z 4841369599423283200 with hz | hz
  · exact hz
  · have h1 := scale_le hz
    rw [scale_c2, h.sc] at h1
    have h2 : scale y = y := by unfold scale; rw [if_pos hy]
    rw [h2] at h1
    have h3 : y * 2 ^ i < 4503599627370496 * 2 ^ k74 := Nat.lt_of_lt_of_le (Nat.mul_lt_mul_of_pos_right hy (Nat.two_pow_pos i)) (Nat.mul_le_mul_left _ (Nat.pow_le_pow_right (by decide) (by rw [k74_is]; exact hi)))
    omega
theorem rank_pos {y : Nat} (h : y < 9223372036854775808) : rank y = y := by
  unfold rank negW rung
  rw [show y / 9223372036854775808 = 0 from by omega]
  simp
  omega
theorem rung_pos {y : Nat} (h : y < 9223372036854775808) : rung y = y := Nat.mod_eq_of_lt h
theorem nan_pos {y : Nat} (h : y ≤ 9218868437227405312) : ¬ nanW y := by unfold nanW; rw [rung_pos (by omega)]; omega
theorem neg_pos {y : Nat} (h : y < 9223372036854775808) : negW y = false := by unfold negW; rw [show y / 9223372036854775808 = 0 from by omega]; rfl
/-- What is left when the doublings end at a whole number between 2^52 and 2^53. -/
theorem whole_hi {z : Nat} (h1 : 4841369599423283200 ≤ z) (h2 : z < 4845873199050653696) : (double.read z).toInt .zero = some ((4503599627370496 + z % 4503599627370496 : Nat) : Int) := by
  rw [toInt_exact z (4503599627370496 + z % 4503599627370496) (by rw [rung_pos (by omega)]; omega) (by
    rw [rung_pos (by omega)]
    unfold scale
    rw [if_neg (by omega), show z / 4503599627370496 - 1 = k74 from by rw [k74_is]; omega]), neg_pos (by omega)]
  rfl
theorem whole_lo {y z : Nat} (h : Dbl y k74 z) (hy : y < 4503599627370496) : (double.read z).toInt .zero = some (y : Int) := by
  have hz := h.low hy (by rw [k74_is]; exact Nat.le_refl _)
  rw [toInt_exact z y (by rw [rung_pos (by omega)]; omega) (by
    rw [rung_pos (by omega), h.sc]
    have h2 : scale y = y := by unfold scale; rw [if_pos hy]
    rw [h2]), neg_pos (by omega)]
  rfl
end Go.Proofs.YtmldjemjjpibmaaDoor
