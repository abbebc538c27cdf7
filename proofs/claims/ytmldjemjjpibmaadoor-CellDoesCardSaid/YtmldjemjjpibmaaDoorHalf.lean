/- Doubles, plain: twice, half, and the whole number that one is. No program in sight. -/
import Derived.Test.YtmldjemjjpibmaaDoorRealP
set_option linter.unusedVariables false
set_option linter.unusedSimpArgs false
namespace Go.Proofs.YtmldjemjjpibmaaDoor
open Ieee

theorem read_norm (x : Nat) (h1 : 4503599627370496 ≤ rung x) (h : rung x < 9218868437227405312) : double.read x = .number (negW x) (4503599627370496 + rung x % 4503599627370496) (-1074 + ((rung x / 4503599627370496 - 1 : Nat) : Int)) := by
  have e1 : double.signWeight = 9223372036854775808 := by decide +kernel
  have e2 : double.binade = 4503599627370496 := by decide +kernel
  have e3 : double.infRung = 9218868437227405312 := by decide +kernel
  have e4 : double.leastPlace = -1074 := by decide +kernel
  unfold Format.read
  rw [e1, e2, e3, e4]
  simp only
  change x % 9223372036854775808 < _ at h
  change _ ≤ x % 9223372036854775808 at h1
  rw [if_neg (by omega), if_pos h]; rfl
theorem read_low (x : Nat) (h1 : rung x < 4503599627370496) : double.read x = .number (negW x) (rung x) (-1074) := by
  have e1 : double.signWeight = 9223372036854775808 := by decide +kernel
  have e2 : double.binade = 4503599627370496 := by decide +kernel
  have e4 : double.leastPlace = -1074 := by decide +kernel
  unfold Format.read
  rw [e1, e2, e4]
  simp only
  change x % 9223372036854775808 < _ at h1
  rw [if_pos h1]; rfl
theorem word_self (x : Nat) (hx : x < 18446744073709551616) (d : Nat) (r : Nat) (hr : r = rung x + d) : double.word (negW x) r = x + d := by
  have e1 : double.signWeight = 9223372036854775808 := by decide +kernel
  unfold Format.word
  rw [e1]
  unfold negW
  unfold rung at hr
  by_cases h : x / 9223372036854775808 % 2 = 1
  · rw [if_pos (by rw [h]; rfl)]; omega
  · rw [if_neg (by simpa using h)]; omega
theorem word_less (x : Nat) (hx : x < 18446744073709551616) (d : Nat) (hd : d ≤ rung x) (r : Nat) (hr : r = rung x - d) : double.word (negW x) r = x - d := by
  have e1 : double.signWeight = 9223372036854775808 := by decide +kernel
  unfold Format.word
  rw [e1]
  unfold negW
  unfold rung at hr hd
  by_cases h : x / 9223372036854775808 % 2 = 1
  · rw [if_pos (by rw [h]; rfl)]; omega
  · rw [if_neg (by simpa using h)]; omega
/-- What is cut exactly. -/
theorem cut_exact (way : Toward) (hw : way = .even ∨ way = .zero) (s : Bool) (n d : Nat) : way.cut s (n * 2 ^ d) d = n := by
  unfold Toward.cut
  have hg : ∃ g, g ≤ d ∧ (n = 0 ∨ g = d) ∧ min d ((n * 2 ^ d).log2 + 2) = g := by
    rcases Nat.eq_zero_or_pos n with h | h
    · exact ⟨_, Nat.min_le_left _ _, .inl h, rfl⟩
    · have hp : 0 < n * 2 ^ d := Nat.mul_pos h (Nat.two_pow_pos d)
      have h1 : d ≤ (n * 2 ^ d).log2 := (Nat.le_log2 (by omega)).2 (Nat.le_mul_of_pos_left _ h)
      exact ⟨d, Nat.le_refl _, .inr rfl, by omega⟩
  obtain ⟨g, hgd, hor, he⟩ := hg
  have hpos : 0 < 2 ^ g := Nat.two_pow_pos g
  simp only [he, Nat.shiftLeft_eq, Nat.one_mul]
  have h1 : n * 2 ^ d / 2 ^ g = n := by
    rcases hor with h | h
    · subst h; simp
    · subst h; exact Nat.mul_div_cancel _ hpos
  have h2 : n * 2 ^ d % 2 ^ g = 0 := by
    rcases hor with h | h
    · subst h; simp
    · subst h; exact Nat.mul_mod_left _ _
  rw [h1, h2]
  rcases hw with rfl | rfl
  · have : ¬ 2 ^ g < 2 * 0 := by omega
    have h3 : (2 ^ g == 2 * 0) = false := by
      rw [beq_eq_false_iff_ne]; omega
    simp [h3]
  · simp
/-- A number whose digits all fit is written as it is. -/
theorem nearest_exact (s : Bool) (mag : Nat) (p last : Int) (k t : Nat) (hm : mag ≠ 0) (ht : mag.log2 = t) (hl : last = max (p + t - 52) (-1074)) (hk : mag <<< (p - last).toNat = k * 2 ^ (last - p).toNat) (hs : (last + 1074).toNat * 4503599627370496 + k < 9218868437227405312) :
    double.nearest s mag p = double.word s ((last + 1074).toNat * 4503599627370496 + k) := by
  have e2 : double.binade = 4503599627370496 := by decide +kernel
  have e3 : double.infRung = 9218868437227405312 := by decide +kernel
  have e4 : double.leastPlace = -1074 := by decide +kernel
  have e5 : double.fractionBits = 52 := by decide +kernel
  unfold Format.nearest
  rw [if_neg hm, e2, e3, e4, e5, ht]
  simp only
  rw [show max (p + (t : Int) - ((52 : Nat) : Int)) (-1074) = last from by rw [hl]; rfl]
  rw [hk, cut_exact .even (.inl rfl), show last - -1074 = last + 1074 from by omega, Nat.min_eq_left (by omega)]
theorem log2_of {n k : Nat} (h1 : 2 ^ k ≤ n) (h2 : n < 2 ^ (k + 1)) : n.log2 = k := by
  have : n ≠ 0 := by have := Nat.two_pow_pos k; omega
  exact (Nat.log2_eq_iff this).2 ⟨h1, h2⟩
theorem two_read : double.read 4611686018427387904 = .number false 4503599627370496 (-51) := by decide +kernel
/-- Twice. -/
theorem mul2 (x : Nat) (hx : x < 18446744073709551616) (h0 : 0 < rung x) (h : rung x < 9214364837600034816) :
    double.mul 4611686018427387904 x = some (if rung x < 4503599627370496 then x + rung x else x + 4503599627370496) := by
  unfold Format.mul
  rw [two_read]
  rcases Nat.lt_or_ge (rung x) 4503599627370496 with h1 | h1
  · rw [read_low x h1, if_pos h1]
    simp only [Datum.product, Option.map_some, Bool.false_xor]
    show some (double.nearest _ _ _) = _
    obtain ⟨t, ht⟩ : ∃ t, t = (rung x).log2 := ⟨_, rfl⟩
    have hlt : t ≤ 51 := by
      have : (rung x).log2 < 52 := (Nat.log2_lt (by omega)).2 h1
      omega
    have hle : 2 ^ t ≤ rung x := by rw [ht]; exact Nat.log2_self_le (by omega)
    have hlt2 : rung x < 2 ^ (t + 1) := by rw [ht]; exact Nat.lt_log2_self
    have hlog : (4503599627370496 * rung x).log2 = 52 + t := by
      refine log2_of ?_ ?_
      · rw [Nat.pow_add]; exact Nat.mul_le_mul_left _ hle
      · rw [show 52 + t + 1 = 52 + (t + 1) from by omega, Nat.pow_add]
        exact Nat.mul_lt_mul_of_pos_left hlt2 (by decide)
    rw [nearest_exact (negW x) (4503599627370496 * rung x) (-51 + -1074) (-1074) (2 * rung x) (52 + t) (by omega) hlog (by push_cast; omega) (by
      show (4503599627370496 * rung x) <<< 0 = 2 * rung x * 2 ^ 51
      rw [Nat.shiftLeft_zero]
      have : (2 : Nat) ^ 51 = 2251799813685248 := by decide
      omega) (by show 0 * 4503599627370496 + 2 * rung x < _; omega)]
    rw [word_self x hx (rung x) _ (by show 0 * 4503599627370496 + 2 * rung x = _; omega)]
  · rw [read_norm x h1 (by omega), if_neg (by omega)]
    simp only [Datum.product, Option.map_some, Bool.false_xor]
    show some (double.nearest _ _ _) = _
    obtain ⟨q, hq⟩ : ∃ q, q = rung x / 4503599627370496 := ⟨_, rfl⟩
    obtain ⟨m, hm⟩ : ∃ m, m = 4503599627370496 + rung x % 4503599627370496 := ⟨_, rfl⟩
    have hq1 : 1 ≤ q := by rw [hq]; omega
    have hm1 : 4503599627370496 ≤ m := by omega
    have hm2 : m < 9007199254740992 := by omega
    rw [← hq, ← hm]
    have hlog : (4503599627370496 * m).log2 = 104 := by
      refine log2_of ?_ ?_
      · rw [show (2 : Nat) ^ 104 = 4503599627370496 * 4503599627370496 from by decide]; exact Nat.mul_le_mul_left _ hm1
      · rw [show (2 : Nat) ^ (104 + 1) = 4503599627370496 * 9007199254740992 from by decide]; exact Nat.mul_lt_mul_of_pos_left hm2 (by decide)
    obtain ⟨p, hp⟩ : ∃ p : Int, p = -51 + (-1074 + ((q - 1 : Nat) : Int)) := ⟨_, rfl⟩
    rw [← hp]
    have hl1 : (p + 52 + 1074).toNat = q := by omega
    rw [nearest_exact (negW x) (4503599627370496 * m) p (p + 52) m 104 (by omega) hlog (by push_cast; omega) (by
      rw [show (p - (p + 52)).toNat = 0 from by omega, show (p + 52 - p).toNat = 52 from by omega, Nat.shiftLeft_zero, show (2 : Nat) ^ 52 = 4503599627370496 from by decide, Nat.mul_comm]) (by rw [hl1]; omega)]
    rw [word_self x hx 4503599627370496 _ (by rw [hl1]; omega)]
/-- Half. -/
theorem div2 (x : Nat) (hx : x < 18446744073709551616) (h1 : 9007199254740992 ≤ rung x) (h : rung x < 9218868437227405312) :
    double.div x 4611686018427387904 = some (x - 4503599627370496) := by
  unfold Format.div
  have e5 : double.fractionBits = 52 := by decide +kernel
  rw [two_read, read_norm x (by omega) h, e5]
  obtain ⟨q, hq⟩ : ∃ q, q = rung x / 4503599627370496 := ⟨_, rfl⟩
  obtain ⟨m, hm⟩ : ∃ m, m = 4503599627370496 + rung x % 4503599627370496 := ⟨_, rfl⟩
  have hq1 : 2 ≤ q := by rw [hq]; omega
  have hm1 : 4503599627370496 ≤ m := by omega
  have hm2 : m < 9007199254740992 := by omega
  rw [← hq, ← hm]
  have hlm : m.log2 = 52 := log2_of (by rw [show (2 : Nat) ^ 52 = 4503599627370496 from by decide]; exact hm1) (by rw [show (2 : Nat) ^ (52 + 1) = 9007199254740992 from by decide]; exact hm2)
  have hl2 : (4503599627370496 : Nat).log2 = 52 := log2_of (by decide) (by decide)
  simp only [Datum.quotient, Option.map_some, Bool.xor_false, hlm, hl2]
  rw [if_neg (by decide)]
  simp only [Option.map_some, Nat.shiftLeft_eq]
  have hd : m * 2 ^ (52 + 2 + 52 - 52) / 4503599627370496 = 4 * m := by
    rw [show (2 : Nat) ^ (52 + 2 + 52 - 52) = 4 * 4503599627370496 from by decide, ← Nat.mul_assoc, Nat.mul_div_cancel _ (by decide), Nat.mul_comm]
  have hr : m * 2 ^ (52 + 2 + 52 - 52) % 4503599627370496 = 0 := by
    rw [show (2 : Nat) ^ (52 + 2 + 52 - 52) = 4 * 4503599627370496 from by decide, ← Nat.mul_assoc, Nat.mul_mod_left]
  rw [hd, hr]
  show some (double.nearest _ _ _) = _
  obtain ⟨p, hp⟩ : ∃ p : Int, p = -1074 + ((q - 1 : Nat) : Int) - -51 - ((52 + 2 + 52 - 52 : Nat) : Int) - 1 := ⟨_, rfl⟩
  have hpp : p = (q : Int) - 1079 := by omega
  rw [← hp]
  have hmag : 2 * (4 * m) + ((0 : Nat) != 0).toNat = 8 * m := by
    have : ((0 : Nat) != 0).toNat = 0 := rfl
    omega
  rw [hmag]
  have hlog : (8 * m).log2 = 55 := log2_of (by rw [show (2 : Nat) ^ 55 = 8 * 4503599627370496 from by decide]; omega) (by rw [show (2 : Nat) ^ (55 + 1) = 8 * 9007199254740992 from by decide]; omega)
  rw [nearest_exact (negW x) (8 * m) p (p + 3) m 55 (by omega) hlog (by push_cast; omega) (by
    rw [show (p - (p + 3)).toNat = 0 from by omega, show (p + 3 - p).toNat = 3 from by omega, Nat.shiftLeft_zero, show (2 : Nat) ^ 3 = 8 from by decide, Nat.mul_comm]) (by rw [show (p + 3 + 1074).toNat = q - 2 from by omega]; omega)]
  rw [word_less x hx 4503599627370496 (by omega) _ (by rw [show (p + 3 + 1074).toNat = q - 2 from by omega]; omega)]
end Go.Proofs.YtmldjemjjpibmaaDoor
