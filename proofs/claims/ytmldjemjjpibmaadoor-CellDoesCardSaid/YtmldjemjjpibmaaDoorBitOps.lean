/- A double's parts by masks; a double times 2^52, and times 1. No program in sight. -/
import Derived.Test.YtmldjemjjpibmaaDoorTextP
import Derived.Laws.Bits64b
set_option linter.unusedVariables false
set_option linter.unusedSimpArgs false
namespace Go.Proofs.YtmldjemjjpibmaaDoor
open Ieee

theorem u64_andNot_nat (a b : Nat) (ha : a < 18446744073709551616) (hb : b < 18446744073709551616) : bits .andNot .u64 (a : Int) (b : Int) = ((a &&& (18446744073709551615 - b) : Nat) : Int) := by
  have hx : a &&& (18446744073709551615 - b) < 2 ^ 64 := Nat.and_lt_two_pow _ (by omega)
  have h1 : (BitVec.ofInt 64 (a : Int)).toNat = a := by
    rw [BitVec.ofInt_natCast, BitVec.toNat_ofNat]; exact Nat.mod_eq_of_lt (by omega)
  have h2 : (BitVec.ofInt 64 (b : Int)).toNat = b := by
    rw [BitVec.ofInt_natCast, BitVec.toNat_ofNat]; exact Nat.mod_eq_of_lt (by omega)
  show IntKind.u64.wrap ((BitVec.ofInt 64 (a : Int) &&& ~~~BitVec.ofInt 64 (b : Int)).toNat : Int) = _
  rw [BitVec.toNat_and, BitVec.toNat_not, h1, h2, IntKind.wrap_u64]
  have e : 2 ^ 64 - 1 - b = 18446744073709551615 - b := by omega
  rw [e]
  omega
theorem mask_sign (x : Nat) (hx : x < 18446744073709551616) : bits .andNot .u64 (x : Int) 9223372036854775808 = ((rung x : Nat) : Int) := by
  have h := u64_andNot_nat x 9223372036854775808 hx (by decide)
  have h2 : x &&& 9223372036854775807 = x % 9223372036854775808 := Nat.and_two_pow_sub_one_eq_mod x 63
  rw [show (18446744073709551615 - 9223372036854775808 : Nat) = 9223372036854775807 from rfl, h2] at h
  exact h
theorem nat_mask (x : Nat) (hx : x < 18446744073709551616) : x &&& 9227875636482146303 = x / 9223372036854775808 * 9223372036854775808 + x % 4503599627370496 := by
  have hc : (9227875636482146303 : Nat) = 2 ^ 63 * 1 + (2 ^ 52 - 1) := by decide
  have hr : x / 9223372036854775808 * 9223372036854775808 + x % 4503599627370496 = 2 ^ 63 * (x / 2 ^ 63) + x % 2 ^ 52 := by
    rw [show (2 : Nat) ^ 63 = 9223372036854775808 from by decide, show (2 : Nat) ^ 52 = 4503599627370496 from by decide, Nat.mul_comm]
  rw [hc, hr]
  refine Nat.eq_of_testBit_eq fun i => ?_
  rw [Nat.testBit_and, Nat.testBit_two_pow_mul_add _ (by decide), Nat.testBit_two_pow_mul_add _ (Nat.lt_of_lt_of_le (Nat.mod_lt _ (Nat.two_pow_pos 52)) (by decide))]
  by_cases h : i < 63
  · rw [if_pos h, if_pos h, Nat.testBit_two_pow_sub_one, Nat.testBit_mod_two_pow, Bool.and_comm]
  · rw [if_neg h, if_neg h, Nat.testBit_div_two_pow]
    by_cases h2 : i = 63
    · subst h2; simp
    · have h3 : x.testBit i = false := Nat.testBit_lt_two_pow (Nat.lt_of_lt_of_le hx (by rw [show (18446744073709551616 : Nat) = 2 ^ 64 from by decide]; exact Nat.pow_le_pow_right (by decide) (by omega)))
      rw [show i - 63 + 63 = i from by omega, h3, Bool.false_and]
theorem mask_exp (x : Nat) (hx : x < 18446744073709551616) : bits .andNot .u64 (x : Int) 9218868437227405312 = ((x / 9223372036854775808 * 9223372036854775808 + x % 4503599627370496 : Nat) : Int) := by
  have h := u64_andNot_nat x 9218868437227405312 hx (by decide)
  rw [show (18446744073709551615 - 9218868437227405312 : Nat) = 9227875636482146303 from rfl, nat_mask x hx] at h
  exact h
theorem nat_or (q M k : Nat) (hM : M < 4503599627370496) (hk : k < 2048) : (q * 9223372036854775808 + M) ||| (k * 4503599627370496) = q * 9223372036854775808 + k * 4503599627370496 + M := by
  have h1 : q * 9223372036854775808 + M = 2 ^ 63 * q ||| M := by
    rw [← Nat.two_pow_add_eq_or_of_lt (i := 63) (by have : (2 : Nat) ^ 63 = 9223372036854775808 := by decide
                                                    omega) q]
    have : (2 : Nat) ^ 63 = 9223372036854775808 := by decide
    omega
  have h2 : 2 ^ 63 * q ||| 2 ^ 52 * k = 2 ^ 52 * (2048 * q + k) := by
    rw [← Nat.two_pow_add_eq_or_of_lt (i := 63) (by have h3 : (2 : Nat) ^ 63 = 2 ^ 52 * 2048 := by decide
                                                    rw [h3]; exact Nat.mul_lt_mul_of_pos_left hk (by decide)) q]
    have h3 : (2 : Nat) ^ 63 = 2 ^ 52 * 2048 := by decide
    rw [h3, Nat.mul_add, Nat.mul_assoc]
  have h4 : k * 4503599627370496 = 2 ^ 52 * k := by rw [show (2 : Nat) ^ 52 = 4503599627370496 from by decide, Nat.mul_comm]
  have h5 : M < 2 ^ 52 := by rw [show (2 : Nat) ^ 52 = 4503599627370496 from by decide]; exact hM
  rw [h1, h4, Nat.or_assoc, Nat.or_comm M, ← Nat.or_assoc, h2, ← Nat.two_pow_add_eq_or_of_lt h5]
  rw [show (2 : Nat) ^ 52 = 4503599627370496 from by decide]
  omega
theorem or_exp (q M k : Nat) (hq : q < 2) (hM : M < 4503599627370496) (hk : k < 2048) (z : Int) (hz : z = ((k * 4503599627370496 : Nat) : Int)) : bits .or .u64 ((q * 9223372036854775808 + M : Nat) : Int) z = ((q * 9223372036854775808 + k * 4503599627370496 + M : Nat) : Int) := by
  rw [hz, bits_or_u64_nat _ _ (by omega) (by omega), nat_or q M k hM hk]
theorem and_exp (x : Nat) (hx : x < 18446744073709551616) : bits .and .u64 ((x : Int) / 4503599627370496) 2047 = ((rung x / 4503599627370496 : Nat) : Int) := by
  have h := bits_and_u64_nat (x / 4503599627370496) 2047 (by omega) (by decide)
  rw [show (x / 4503599627370496) &&& 2047 = x / 4503599627370496 % 2048 from Nat.and_two_pow_sub_one_eq_mod _ 11] at h
  have h2 : x / 4503599627370496 % 2048 = rung x / 4503599627370496 := by unfold rung; omega
  rw [h2] at h
  exact h
theorem and_exp_i (a : Nat) (ha : a < 4096) : bits .and .i64 (a : Int) 2047 = ((a % 2048 : Nat) : Int) := by
  have h1 : (BitVec.ofInt 64 (a : Int)).toNat = a := by
    rw [BitVec.ofInt_natCast, BitVec.toNat_ofNat]; exact Nat.mod_eq_of_lt (by omega)
  show IntKind.i64.wrap ((BitVec.ofInt 64 (a : Int) &&& BitVec.ofInt 64 2047).toNat : Int) = _
  rw [BitVec.toNat_and, h1, show (BitVec.ofInt 64 2047).toNat = 2047 from by decide, show a &&& 2047 = a % 2048 from Nat.and_two_pow_sub_one_eq_mod _ 11]
  rw [IntKind.wrap_i64]
  omega
/-- Times 2^52, a small one. -/
theorem mul52 (x : Nat) (hx : x < 18446744073709551616) (h0 : 0 < rung x) (h1 : rung x < 4503599627370496) :
    ∃ y, double.mul x 4841369599423283200 = some y ∧ y < 18446744073709551616 ∧ negW y = negW x ∧ y / 9223372036854775808 = x / 9223372036854775808 ∧ 4503599627370496 ≤ rung y ∧ rung y < 9218868437227405312 ∧ scale (rung y) = scale (rung x) * 2 ^ 52 := by
  have hr2 : double.read 4841369599423283200 = .number false 4503599627370496 0 := by decide +kernel
  unfold Format.mul
  rw [hr2, read_low x h1]
  simp only [Datum.product, Option.map_some, Bool.xor_false]
  obtain ⟨t, ht⟩ : ∃ t, t = (rung x).log2 := ⟨_, rfl⟩
  have hlt : t ≤ 51 := by
    have : (rung x).log2 < 52 := (Nat.log2_lt (by omega)).2 h1
    omega
  have hle : 2 ^ t ≤ rung x := by rw [ht]; exact Nat.log2_self_le (by omega)
  have hlt2 : rung x < 2 ^ (t + 1) := by rw [ht]; exact Nat.lt_log2_self
  have hlog : (rung x * 4503599627370496).log2 = t + 52 := by
    refine log2_of ?_ ?_
    · rw [Nat.pow_add]; exact Nat.mul_le_mul hle (Nat.le_refl _)
    · rw [show t + 52 + 1 = (t + 1) + 52 from by omega, Nat.pow_add]
      exact Nat.mul_lt_mul_of_pos_right hlt2 (by decide)
  obtain ⟨m, hm⟩ : ∃ m, m = rung x * 2 ^ (52 - t) := ⟨_, rfl⟩
  have hp1 : 2 ^ t * 2 ^ (52 - t) = 4503599627370496 := by rw [← Nat.pow_add, show t + (52 - t) = 52 from by omega]
  have hm1 : 4503599627370496 ≤ m := by rw [hm, ← hp1]; exact Nat.mul_le_mul_right _ hle
  have hm2 : m < 9007199254740992 := by
    have h3 := Nat.mul_lt_mul_of_pos_right hlt2 (Nat.two_pow_pos (52 - t))
    rw [Nat.pow_succ, Nat.mul_right_comm, hp1, ← hm] at h3
    omega
  have hmt : m * 2 ^ t = rung x * 4503599627370496 := by rw [hm, Nat.mul_assoc, Nat.mul_comm (2 ^ (52 - t)), hp1]
  have hk := nearest_exact (negW x) (rung x * 4503599627370496) (-1074 + 0) (-1074 + (t : Int)) m (t + 52) (by omega) hlog (by push_cast; omega) (by
    rw [show ((-1074 + 0 : Int) - (-1074 + (t : Int))).toNat = 0 from by omega, show (-1074 + (t : Int) - (-1074 + 0)).toNat = t from by omega, Nat.shiftLeft_zero, hmt]) (by
    rw [show (-1074 + (t : Int) + 1074).toNat = t from by omega]; omega)
  rw [show (-1074 + (t : Int) + 1074).toNat = t from by omega] at hk
  obtain ⟨r, hr⟩ : ∃ r, r = t * 4503599627370496 + m := ⟨_, rfl⟩
  rw [← hr] at hk
  have hrq : r / 4503599627370496 = t + 1 ∧ r % 4503599627370496 = m - 4503599627370496 := by omega
  obtain ⟨w1, w2, w3⟩ := word_facts (negW x) r (by omega)
  have hsx : scale (rung x) = rung x := by unfold scale; rw [if_pos h1]
  refine ⟨_, congrArg some hk, w1, w2, ?_, by rw [w3]; omega, by rw [w3]; omega, ?_⟩
  · have h3 : ∀ a, a < 18446744073709551616 → ∀ b, b < 18446744073709551616 → negW a = negW b → a / 9223372036854775808 = b / 9223372036854775808 := fun a ha b hb h => by
      unfold negW at h
      have h4 : (a / 9223372036854775808 % 2 = 1) ↔ (b / 9223372036854775808 % 2 = 1) := by
        rw [← beq_iff_eq, ← beq_iff_eq (b := 1), h]
      omega
    exact h3 _ w1 _ hx w2
  · rw [w3, hsx]
    unfold scale
    rw [if_neg (by omega), hrq.1, hrq.2, show 4503599627370496 + (m - 4503599627370496) = m from by omega, show t + 1 - 1 = t from by omega, hmt]
/-- Once a whole one between 2^52 and 2^53. -/
theorem mul_one (z : Nat) (hz : z < 18446744073709551616) (h1 : rung z / 4503599627370496 = 1075) : double.mul 4607182418800017408 z = some z := by
  have hr2 : double.read 4607182418800017408 = .number false 4503599627370496 (-52) := by decide +kernel
  unfold Format.mul
  rw [hr2, read_norm z (by omega) (by omega)]
  simp only [Datum.product, Option.map_some, Bool.false_xor]
  show some (double.nearest _ _ _) = _
  obtain ⟨m, hm⟩ : ∃ m, m = 4503599627370496 + rung z % 4503599627370496 := ⟨_, rfl⟩
  have hm1 : 4503599627370496 ≤ m := by omega
  have hm2 : m < 9007199254740992 := by omega
  rw [← hm, h1]
  have hlog : (4503599627370496 * m).log2 = 104 := by
    refine log2_of ?_ ?_
    · rw [show (2 : Nat) ^ 104 = 4503599627370496 * 4503599627370496 from by decide]; exact Nat.mul_le_mul_left _ hm1
    · rw [show (2 : Nat) ^ (104 + 1) = 4503599627370496 * 9007199254740992 from by decide]; exact Nat.mul_lt_mul_of_pos_left hm2 (by decide)
  rw [nearest_exact (negW z) (4503599627370496 * m) (-52 + (-1074 + ((1075 - 1 : Nat) : Int))) 0 m 104 (by omega) hlog (by decide) (by
    show (4503599627370496 * m) <<< 0 = m * 2 ^ 52
    rw [Nat.shiftLeft_zero, show (2 : Nat) ^ 52 = 4503599627370496 from by decide, Nat.mul_comm]) (by show 1074 * 4503599627370496 + m < _; omega)]
  rw [word_self z hz 0 _ (by show 1074 * 4503599627370496 + m = _; omega), Nat.add_zero]
end Go.Proofs.YtmldjemjjpibmaaDoor
