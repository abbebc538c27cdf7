/- A number's odd factor and its power, plainly; the text of a number. No program in sight. -/
import Derived.Test.YtmldjemjjpibmaaDoorBitsP
import Derived.Lib.ItoaNum
set_option linter.unusedVariables false
set_option linter.unusedSimpArgs false
namespace Go.Proofs.YtmldjemjjpibmaaDoor
open Ieee

theorem odd_ex : ∀ (s : Nat), 0 < s → ∃ o t, s = o * 2 ^ t ∧ o % 2 = 1 := by
  intro s
  induction s using Nat.strongRecOn with
  | _ s ih =>
    intro h
    rcases Nat.mod_two_eq_zero_or_one s with h0 | h1
    · obtain ⟨o, t, h2, h3⟩ := ih (s / 2) (by omega) (by omega)
      refine ⟨o, t + 1, ?_, h3⟩
      rw [Nat.pow_succ, ← Nat.mul_assoc, ← h2]
      omega
    · exact ⟨s, 0, by rw [Nat.pow_zero, Nat.mul_one], h1⟩
theorem odd_lt {o t o' t' : Nat} (h : o * 2 ^ t = o' * 2 ^ t') (ho : o % 2 = 1) : t' ≤ t := by
  rcases Nat.lt_or_ge t t' with hlt | hge
  · obtain ⟨d, rfl⟩ : ∃ d, t' = t + 1 + d := ⟨t' - t - 1, by omega⟩
    have h1 : o * 2 ^ t = (2 * (o' * 2 ^ d)) * 2 ^ t := by
      rw [h, show t + 1 + d = d + 1 + t from by omega, Nat.pow_add, Nat.pow_add, Nat.pow_one]
      simp only [Nat.mul_assoc, Nat.mul_left_comm, Nat.mul_comm]
    have h2 := Nat.eq_of_mul_eq_mul_right (Nat.two_pow_pos t) h1
    omega
  · exact hge
theorem odd_one {o t o' t' : Nat} (h : o * 2 ^ t = o' * 2 ^ t') (ho : o % 2 = 1) (ho' : o' % 2 = 1) : o = o' ∧ t = t' := by
  have h1 := odd_lt h ho
  have h2 := odd_lt h.symm ho'
  obtain rfl : t = t' := by omega
  exact ⟨Nat.eq_of_mul_eq_mul_right (Nat.two_pow_pos t) h, rfl⟩
def sgnI (b : Bool) (n : Nat) : Int := if b then -(n : Int) else n
theorem sgnI_abs (b : Bool) (n : Nat) : (sgnI b n).natAbs = n := by unfold sgnI; cases b <;> simp
/-- The text of a number: the odd factor, and the power. -/
def finText (x : Nat) (s : List UInt8) : Prop := ∃ o t : Nat, scale (rung x) = o * 2 ^ t ∧ o % 2 = 1 ∧ s = Lib.itoa (sgnI (negW x) o) ++ 112 :: Lib.itoa ((t : Int) - 1074)
theorem finText.one {x : Nat} {s s' : List UInt8} (h : finText x s) (h' : finText x s') : s = s' := by
  obtain ⟨o, t, h1, h2, h3⟩ := h
  obtain ⟨o', t', h1', h2', h3'⟩ := h'
  obtain ⟨rfl, rfl⟩ := odd_one (h1.symm.trans h1') h2 h2'
  rw [h3, h3']
def kindText (k : Int) : List UInt8 := if k = 0 then [110, 97, 110] else if k = 1 then [45, 105, 110, 102] else if k = 3 then [45, 48] else if k = 4 then [48] else [105, 110, 102]
def TextIs (x : Nat) (s : List UInt8) : Prop := (kindP x = 2 ∨ kindP x = 5) ∧ finText x s ∨ ¬ (kindP x = 2 ∨ kindP x = 5) ∧ s = kindText (kindP x)
theorem TextIs.one {x : Nat} {s s' : List UInt8} (h : TextIs x s) (h' : TextIs x s') : s = s' := by
  rcases h with ⟨h, h1⟩ | ⟨h, h1⟩ <;> rcases h' with ⟨h', h1'⟩ | ⟨h', h1'⟩
  · exact h1.one h1'
  · exact absurd h h'
  · exact absurd h' h
  · rw [h1, h1']
theorem decDigits_add (u : Nat) (h : ¬ u < 10) : Lib.decDigits u = Lib.decDigits (u / 10) ++ [UInt8.ofNat (48 + u % 10)] := by rw [Lib.decDigits, dif_neg h]
theorem word_facts (s : Bool) (r : Nat) (hr : r < 9223372036854775808) : double.word s r < 18446744073709551616 ∧ negW (double.word s r) = s ∧ rung (double.word s r) = r := by
  have e1 : double.signWeight = 9223372036854775808 := by decide +kernel
  unfold Format.word negW rung
  rw [e1]
  cases s
  · rw [if_neg (by decide)]
    refine ⟨by omega, ?_, by omega⟩
    rw [show r / 9223372036854775808 = 0 from by omega]; rfl
  · rw [if_pos rfl]
    refine ⟨by omega, ?_, by omega⟩
    rw [show (9223372036854775808 + r) / 9223372036854775808 = 1 from by omega]; rfl
/-- A whole number below 2^53, as a double. -/
theorem ofInt_exact (s : Bool) (n : Nat) (h0 : 0 < n) (h1 : n < 9007199254740992) : ∃ d, double.nearest s n 0 = d ∧ d < 18446744073709551616 ∧ negW d = s ∧ scale (rung d) = n * 2 ^ k74 ∧ rung d < 9218868437227405312 := by
  obtain ⟨t, ht⟩ : ∃ t, t = n.log2 := ⟨_, rfl⟩
  have hle : 2 ^ t ≤ n := by rw [ht]; exact Nat.log2_self_le (by omega)
  have hlt : n < 2 ^ (t + 1) := by rw [ht]; exact Nat.lt_log2_self
  have h52 : t ≤ 52 := by
    have : n.log2 < 53 := (Nat.log2_lt (by omega)).2 h1
    omega
  obtain ⟨m, hm⟩ : ∃ m, m = n * 2 ^ (52 - t) := ⟨_, rfl⟩
  have hp1 : 2 ^ t * 2 ^ (52 - t) = 4503599627370496 := by rw [← Nat.pow_add, show t + (52 - t) = 52 from by omega]
  have hm1 : 4503599627370496 ≤ m := by rw [hm, ← hp1]; exact Nat.mul_le_mul_right _ hle
  have hm2 : m < 9007199254740992 := by
    have h3 := Nat.mul_lt_mul_of_pos_right hlt (Nat.two_pow_pos (52 - t))
    rw [Nat.pow_succ, Nat.mul_right_comm, hp1, ← hm] at h3
    omega
  have hk := nearest_exact s n 0 ((t : Int) - 52) m t (by omega) ht.symm (by omega) (by
    rw [show (0 - ((t : Int) - 52)).toNat = 52 - t from by omega, show ((t : Int) - 52 - 0).toNat = 0 from by omega, Nat.shiftLeft_eq, Nat.pow_zero, Nat.mul_one, hm]) (by
    rw [show ((t : Int) - 52 + 1074).toNat = t + 1022 from by omega]; omega)
  rw [show ((t : Int) - 52 + 1074).toNat = t + 1022 from by omega] at hk
  obtain ⟨r, hr⟩ : ∃ r, r = (t + 1022) * 4503599627370496 + m := ⟨_, rfl⟩
  rw [← hr] at hk
  have hrl : r < 9218868437227405312 := by omega
  have hrq : r / 4503599627370496 = t + 1023 ∧ r % 4503599627370496 = m - 4503599627370496 := by omega
  obtain ⟨w1, w2, w3⟩ := word_facts s r (by omega)
  refine ⟨_, hk, w1, w2, ?_, by rw [w3]; exact hrl⟩
  rw [w3]
  unfold scale
  rw [if_neg (by omega), hrq.1, hrq.2, show 4503599627370496 + (m - 4503599627370496) = m from by omega, hm, Nat.mul_assoc, ← Nat.pow_add, show 52 - t + (t + 1023 - 1) = k74 from by rw [k74_is]; omega]
end Go.Proofs.YtmldjemjjpibmaaDoor
