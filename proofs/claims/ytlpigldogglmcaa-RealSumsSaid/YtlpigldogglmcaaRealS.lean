/- Sums of doubles, plain: whichever comes first; +0 changes none but -0; an invalid sum is a NaN. -/
import Derived.Test.YtlpigldogglmcaaRealL
set_option linter.unusedVariables false
set_option linter.unusedSimpArgs false
namespace Go.Proofs.Ytlpigldogglmcaa
open Go.RowKit
open Ieee

theorem sum_comm (a b : Datum) : a.sum b = b.sum a := by
  cases a <;> cases b <;> try rfl
  · rename_i s m i t n j
    simp only [Datum.sum]
    rw [Int.min_comm j i, Int.add_comm (signed t n _), Bool.and_comm t s]
  · rename_i s t
    simp only [Datum.sum]
    by_cases h : s = t
    · subst h; rfl
    · rw [if_neg h, if_neg (fun e => h e.symm)]
theorem add_comm8 (x y : Nat) : double.add x y = double.add y x := by
  unfold Format.add
  rw [sum_comm]
theorem add_nan {x y : Nat} (h : nanW x ∨ nanW y) : double.add x y = none := by
  unfold Format.add
  rcases h with h | h
  · obtain ⟨t, e⟩ := read_nan x h
    rw [e]; rfl
  · obtain ⟨t, e⟩ := read_nan y h
    rw [e]
    cases double.read x <;> rfl
theorem cut_exact (m e : Nat) (neg : Bool) (hm : m ≠ 0) : Toward.even.cut neg (m * 2 ^ e) e = m := by
  have hl : e ≤ (m * 2 ^ e).log2 + 2 := by
    have : e ≤ (m * 2 ^ e).log2 := by
      rw [Nat.le_log2 (by have := Nat.two_pow_pos e; exact Nat.mul_ne_zero hm (by omega))]
      exact Nat.le_mul_of_pos_left _ (by omega)
    omega
  have hp := Nat.two_pow_pos e
  unfold Toward.cut
  simp only [Nat.min_eq_left hl, Nat.shiftLeft_eq, Nat.one_mul, Nat.mul_div_cancel _ hp, Nat.mul_mod_left, Nat.mul_zero]
  have h1 : ¬ (2 ^ e < 0) := by omega
  have h2 : (2 ^ e == 0) = false := by simp
  simp [h2]
theorem log_norm (f e : Nat) (hfl : f < 4503599627370496) : ((4503599627370496 + f) * 2 ^ e).log2 = 52 + e := by
  have hp := Nat.two_pow_pos e
  generalize hq : (2 : Nat) ^ e = q at hp ⊢
  rw [Nat.log2_eq_iff (Nat.mul_ne_zero (by omega) (by omega))]
  have h52 : (2 : Nat) ^ (52 + e) = 4503599627370496 * q := by rw [Nat.pow_add, hq]
  have h53 : (2 : Nat) ^ (52 + e + 1) = 9007199254740992 * q := by rw [show 52 + e + 1 = 53 + e from by omega, Nat.pow_add, hq]
  rw [h52, h53]
  exact ⟨Nat.mul_le_mul_right q (by omega), Nat.mul_lt_mul_of_pos_right (by omega) hp⟩
theorem min_norm (r e f : Nat) (hr : r = e * 4503599627370496 + 4503599627370496 + f) (h : r < 9218868437227405312) : min (e * 4503599627370496 + (4503599627370496 + f)) 9218868437227405312 = r := by
  rw [Nat.min_def, if_pos (by omega)]; omega
theorem nearest_scale (neg : Bool) (r : Nat) (h0 : r ≠ 0) (h : r < 9218868437227405312) : double.nearest neg (scale r) (-1074) = double.word neg r := by
  have e2 : double.binade = 4503599627370496 := by decide +kernel
  have e3 : double.infRung = 9218868437227405312 := by decide +kernel
  have e4 : double.leastPlace = -1074 := by decide +kernel
  have e5 : double.fractionBits = 52 := rfl
  have hs : scale r ≠ 0 := by
    have := scale_mono (a := 0) (b := r) (by omega)
    rw [scale_zero] at this; omega
  unfold Format.nearest
  rw [if_neg hs, e2, e3, e4, e5]
  simp only
  rcases Nat.lt_or_ge r 4503599627370496 with h1 | h1
  · have hsr : scale r = r := by unfold scale; rw [if_pos h1]
    rw [hsr]
    have hlog : r.log2 < 52 := (Nat.log2_lt h0).2 (by omega)
    have hmax : max (-1074 + (r.log2 : Int) - ((52 : Nat) : Int)) (-1074) = -1074 := by omega
    have hc := cut_exact r 0 neg h0
    rw [Nat.pow_zero, Nat.mul_one] at hc
    rw [hmax]
    rw [show ((-1074 : Int) - -1074).toNat = 0 from rfl, Nat.shiftLeft_zero, hc]
    have hz : min (0 * 4503599627370496 + r) 9218868437227405312 = r := by omega
    rw [hz]
  · have hsr : scale r = (4503599627370496 + r % 4503599627370496) * 2 ^ (r / 4503599627370496 - 1) := by unfold scale; rw [if_neg (by omega)]
    generalize he : r / 4503599627370496 - 1 = e at hsr
    generalize hf : r % 4503599627370496 = f at hsr
    have hr : r = e * 4503599627370496 + 4503599627370496 + f := by omega
    have hlog : (scale r).log2 = 52 + e := by
      rw [hsr]
      exact log_norm f e (by omega)
    rw [hlog]
    have hmax : max (-1074 + ((52 + e : Nat) : Int) - ((52 : Nat) : Int)) (-1074) = -1074 + (e : Int) := by omega
    rw [hmax]
    have hc := cut_exact (4503599627370496 + f) e neg (by omega)
    have z1 : (-1074 - (-1074 + (e : Int))).toNat = 0 := by omega
    have z2 : (-1074 + (e : Int) - -1074).toNat = e := by omega
    rw [z1, z2, Nat.shiftLeft_zero, hsr, hc]
    have hz := min_norm r e f hr h
    clear he hf hr h1 h hs hsr hlog hmax hc z1 z2
    rw [hz]
theorem word_back (x : Nat) (hx : x < 18446744073709551616) : double.word (negW x) (rung x) = x := by
  have e1 : double.signWeight = 9223372036854775808 := by decide +kernel
  unfold Format.word
  rw [e1]
  unfold negW rung
  have : x / 9223372036854775808 = 0 ∨ x / 9223372036854775808 = 1 := by omega
  rcases this with h | h <;> rw [h] <;> simp <;> omega
/-- +0 changes none but -0. -/
theorem add_zero8 (x : Nat) (hx : x < 18446744073709551616) (hn : ¬ nanW x) : double.add x 0 = some (if rank x = 0 then 0 else x) := by
  have r0 : double.read 0 = .number false 0 (-1074) := by decide +kernel
  unfold Format.add
  rw [r0]
  rcases Nat.lt_or_ge (rung x) 9218868437227405312 with h1 | h1
  · obtain ⟨m, a, e, hm⟩ := read_num x h1
    rw [e]
    have hb : min (-1074 + (a : Int)) (-1074) = -1074 := by omega
    have ha : (-1074 + (a : Int) - -1074).toNat = a := by omega
    have hz : ∀ u, signed false 0 u = 0 := fun u => by unfold signed; simp
    have hsv : signed (negW x) m a = sval (negW x) (rung x) := by unfold signed sval; rw [Nat.shiftLeft_eq, hm]
    simp only [Datum.sum, hb, ha, hz, hsv, Int.add_zero, Option.map_some, Bool.and_false]
    clear e hm hb ha hsv
    congr 1
    by_cases h0 : rung x = 0
    · have hr : rank x = 0 := by unfold rank; rw [h0]; simp
      have hs : sval (negW x) (rung x) = 0 := by unfold sval; rw [h0, scale_zero]; simp
      rw [if_pos hr, hs]
      decide +kernel
    · have hr : rank x ≠ 0 := by unfold rank; split <;> omega
      have hp := scale_mono (a := 0) (b := rung x) (by omega)
      rw [scale_zero] at hp
      have hs : sval (negW x) (rung x) ≠ 0 := by unfold sval; split <;> omega
      have hlt : decide (sval (negW x) (rung x) < 0) = negW x := by
        unfold sval
        cases hA : negW x
        · rw [if_neg (by simp), decide_eq_false (by omega)]
        · rw [if_pos rfl, decide_eq_true (by omega)]
      have hab : (sval (negW x) (rung x)).natAbs = scale (rung x) := by unfold sval; split <;> omega
      rw [if_neg hr, if_neg hs, hlt, hab]
      show double.nearest _ _ _ = x
      rw [nearest_scale _ _ h0 h1, word_back x hx]
  · have hi : rung x = 9218868437227405312 := by unfold nanW at hn; omega
    have hr : rank x ≠ 0 := by unfold rank; rw [hi]; split <;> omega
    rw [read_inf x hi, if_neg hr]
    have e3 : double.infRung = 9218868437227405312 := by decide +kernel
    show some (double.word (negW x) double.infRung) = some x
    rw [e3, ← hi, word_back x hx]
end Go.Proofs.Ytlpigldogglmcaa
