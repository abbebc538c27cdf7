/- Texts of Cod, merged (18 of 27): TextP, NumP. -/
import Derived.Test.YtelfpnpplknlpaaGCod15
import Derived.Lib.ItoaNum
set_option linter.unusedVariables false
set_option linter.unusedSimpArgs false
/- A number's odd factor and its power, plainly; the text of a number. No program in sight. -/
namespace Go.Proofs.Ytelfpnpplknlpaa
open Ieee

theorem odd_ex : ∀ (s : Nat), 0 < s → ∃ o t, s = o * 2 ^ t ∧ o % 2 = 1 := by
  intro s
  induction s using Nat.strongRecOn with
  | _ s ih =>
    intro h
    rcases Nat.mod_two_eq_zero_or_one s with h0 | h1
    · obtain ⟨o, t, h2, h3⟩ := ih (s / 2) (by omega) (by omega)
      refine ⟨o, t + 1, ?_, h3⟩
      rw [Nat.pow_succ, ← Nat.mul_assoc, ← h2]
      omega
    · exact ⟨s, 0, by rw [Nat.pow_zero, Nat.mul_one], h1⟩
theorem odd_lt {o t o' t' : Nat} (h : o * 2 ^ t = o' * 2 ^ t') (ho : o % 2 = 1) : t' ≤ t := by
  rcases Nat.lt_or_ge t t' with hlt | hge
  · obtain ⟨d, rfl⟩ : ∃ d, t' = t + 1 + d := ⟨t' - t - 1, by omega⟩
    have h1 : o * 2 ^ t = (2 * (o' * 2 ^ d)) * 2 ^ t := by
      rw [h, show t + 1 + d = d + 1 + t from by omega, Nat.pow_add, Nat.pow_add, Nat.pow_one]
      simp only [Nat.mul_assoc, Nat.mul_left_comm, Nat.mul_comm]
    have h2 := Nat.eq_of_mul_eq_mul_right (Nat.two_pow_pos t) h1
    omega
  · exact hge
theorem odd_one {o t o' t' : Nat} (h : o * 2 ^ t = o' * 2 ^ t') (ho : o % 2 = 1) (ho' : o' % 2 = 1) : o = o' ∧ t = t' := by
  have h1 := odd_lt h ho
  have h2 := odd_lt h.symm ho'
  obtain rfl : t = t' := by omega
  exact ⟨Nat.eq_of_mul_eq_mul_right (Nat.two_pow_pos t) h, rfl⟩
def sgnI (b : Bool) (n : Nat) : Int := if b then -(n : Int) else n
theorem sgnI_abs (b : Bool) (n : Nat) : (sgnI b n).natAbs = n := by unfold sgnI; cases b <;> simp
/-- The text of a number: the odd factor, and the power. -/
def finText (x : Nat) (s : List UInt8) : Prop := ∃ o t : Nat, scale (rung x) = o * 2 ^ t ∧ o % 2 = 1 ∧ s = Lib.itoa (sgnI (negW x) o) ++ 112 :: Lib.itoa ((t : Int) - 1074)
theorem finText.one {x : Nat} {s s' : List UInt8} (h : finText x s) (h' : finText x s') : s = s' := by
  obtain ⟨o, t, h1, h2, h3⟩ := h
  obtain ⟨o', t', h1', h2', h3'⟩ := h'
  obtain ⟨rfl, rfl⟩ := odd_one (h1.symm.trans h1') h2 h2'
  rw [h3, h3']
def kindText (k : Int) : List UInt8 := if k = 0 then [110, 97, 110] else if k = 1 then [45, 105, 110, 102] else if k = 3 then [45, 48] else if k = 4 then [48] else [105, 110, 102]
def TextIs (x : Nat) (s : List UInt8) : Prop := (kindP x = 2 ∨ kindP x = 5) ∧ finText x s ∨ ¬ (kindP x = 2 ∨ kindP x = 5) ∧ s = kindText (kindP x)
theorem TextIs.one {x : Nat} {s s' : List UInt8} (h : TextIs x s) (h' : TextIs x s') : s = s' := by
  rcases h with ⟨h, h1⟩ | ⟨h, h1⟩ <;> rcases h' with ⟨h', h1'⟩ | ⟨h', h1'⟩
  · exact h1.one h1'
  · exact absurd h h'
  · exact absurd h' h
  · rw [h1, h1']
theorem decDigits_add (u : Nat) (h : ¬ u < 10) : Lib.decDigits u = Lib.decDigits (u / 10) ++ [UInt8.ofNat (48 + u % 10)] := by rw [Lib.decDigits, dif_neg h]
theorem word_facts (s : Bool) (r : Nat) (hr : r < 9223372036854775808) : double.word s r < 18446744073709551616 ∧ negW (double.word s r) = s ∧ rung (double.word s r) = r := by
  have e1 : double.signWeight = 9223372036854775808 := by decide +kernel
  unfold Format.word negW rung
  rw [e1]
  cases s
  · rw [if_neg (by decide)]
    refine ⟨by omega, ?_, by omega⟩
    rw [show r / 9223372036854775808 = 0 from by omega]; rfl
  · rw [if_pos rfl]
    refine ⟨by omega, ?_, by omega⟩
    rw [show (9223372036854775808 + r) / 9223372036854775808 = 1 from by omega]; rfl
/-- A whole number below 2^53, as a double. -/
theorem ofInt_exact (s : Bool) (n : Nat) (h0 : 0 < n) (h1 : n < 9007199254740992) : ∃ d, double.nearest s n 0 = d ∧ d < 18446744073709551616 ∧ negW d = s ∧ scale (rung d) = n * 2 ^ k74 ∧ rung d < 9218868437227405312 := by
  obtain ⟨t, ht⟩ : ∃ t, t = n.log2 := ⟨_, rfl⟩
  have hle : 2 ^ t ≤ n := by rw [ht]; exact Nat.log2_self_le (by omega)
  have hlt : n < 2 ^ (t + 1) := by rw [ht]; exact Nat.lt_log2_self
  have h52 : t ≤ 52 := by
    have : n.log2 < 53 := (Nat.log2_lt (by omega)).2 h1
    omega
  obtain ⟨m, hm⟩ : ∃ m, m = n * 2 ^ (52 - t) := ⟨_, rfl⟩
  have hp1 : 2 ^ t * 2 ^ (52 - t) = 4503599627370496 := by rw [← Nat.pow_add, show t + (52 - t) = 52 from by omega]
  have hm1 : 4503599627370496 ≤ m := by rw [hm, ← hp1]; exact Nat.mul_le_mul_right _ hle
  have hm2 : m < 9007199254740992 := by
    have h3 := Nat.mul_lt_mul_of_pos_right hlt (Nat.two_pow_pos (52 - t))
    rw [Nat.pow_succ, Nat.mul_right_comm, hp1, ← hm] at h3
    omega
  have hk := nearest_exact s n 0 ((t : Int) - 52) m t (by omega) ht.symm (by omega) (by
    rw [show (0 - ((t : Int) - 52)).toNat = 52 - t from by omega, show ((t : Int) - 52 - 0).toNat = 0 from by omega, Nat.shiftLeft_eq, Nat.pow_zero, Nat.mul_one, hm]) (by
    rw [show ((t : Int) - 52 + 1074).toNat = t + 1022 from by omega]; omega)
  rw [show ((t : Int) - 52 + 1074).toNat = t + 1022 from by omega] at hk
  obtain ⟨r, hr⟩ : ∃ r, r = (t + 1022) * 4503599627370496 + m := ⟨_, rfl⟩
  rw [← hr] at hk
  have hrl : r < 9218868437227405312 := by omega
  have hrq : r / 4503599627370496 = t + 1023 ∧ r % 4503599627370496 = m - 4503599627370496 := by omega
  obtain ⟨w1, w2, w3⟩ := word_facts s r (by omega)
  refine ⟨_, hk, w1, w2, ?_, by rw [w3]; exact hrl⟩
  rw [w3]
  unfold scale
  rw [if_neg (by omega), hrq.1, hrq.2, show 4503599627370496 + (m - 4503599627370496) = m from by omega, hm, Nat.mul_assoc, ← Nat.pow_add, show 52 - t + (t + 1023 - 1) = k74 from by rw [k74_is]; omega]
end Go.Proofs.Ytelfpnpplknlpaa
/- A double out of its bits, by doubling and halving: plainly. No program in sight. -/
namespace Go.Proofs.Ytelfpnpplknlpaa
open Ieee

theorem log2_shift {m u X d t : Nat} (hm : 0 < m) (h : m * 2 ^ u = X * 2 ^ d) (h1 : 2 ^ t ≤ X) (h2 : X < 2 ^ (t + 1)) : m.log2 + u = t + d := by
  have e1 : (m * 2 ^ u).log2 = m.log2 + u := by
    refine log2_of ?_ ?_
    · rw [Nat.pow_add]; exact Nat.mul_le_mul_right _ (Nat.log2_self_le (by omega))
    · rw [show m.log2 + u + 1 = m.log2 + 1 + u from by omega, Nat.pow_add]
      exact Nat.mul_lt_mul_of_pos_right Nat.lt_log2_self (Nat.two_pow_pos u)
  have e2 : (X * 2 ^ d).log2 = t + d := by
    refine log2_of ?_ ?_
    · rw [Nat.pow_add]; exact Nat.mul_le_mul_right _ h1
    · rw [show t + d + 1 = t + 1 + d from by omega, Nat.pow_add]
      exact Nat.mul_lt_mul_of_pos_right h2 (Nat.two_pow_pos d)
  rw [← e1, ← e2, h]
theorem cut_pow {m u X d : Nat} (h : m * 2 ^ u = X * 2 ^ d) (hd : d ≤ u) : m * 2 ^ (u - d) = X :=
  Nat.eq_of_mul_eq_mul_right (Nat.two_pow_pos d) (by rw [Nat.mul_assoc, ← Nat.pow_add, Nat.sub_add_cancel hd, h])
/-- A value that is a word's is rounded to it. -/
theorem nearest_word (s : Bool) (m : Nat) (p : Int) (r u d : Nat) (hr : 0 < r) (hl : r < 9218868437227405312) (h : m * 2 ^ u = scale r * 2 ^ d) (hp : p = -1074 + (u : Int) - (d : Int)) : double.nearest s m p = double.word s r := by
  have hm : 0 < m := by
    rcases Nat.eq_zero_or_pos m with h0 | h0
    · rw [h0, Nat.zero_mul] at h
      have h1 := scale_mono hr
      rw [scale_zero] at h1
      have := Nat.mul_pos h1 (Nat.two_pow_pos d)
      omega
    · exact h0
  rcases Nat.lt_or_ge r 4503599627370496 with h1 | h1
  · have hs : scale r = r := by unfold scale; rw [if_pos h1]
    rw [hs] at h
    obtain ⟨t, ht⟩ : ∃ t, t = r.log2 := ⟨_, rfl⟩
    have t1 : 2 ^ t ≤ r := by rw [ht]; exact Nat.log2_self_le (by omega)
    have t2 : r < 2 ^ (t + 1) := by rw [ht]; exact Nat.lt_log2_self
    have t3 : t < 52 := by rw [ht]; exact (Nat.log2_lt (by omega)).2 h1
    have hlog := log2_shift hm h t1 t2
    rw [nearest_exact s m p (-1074) r m.log2 (by omega) rfl (by omega) (by
      rcases Nat.le_total d u with hd | hd
      · rw [show (p - -1074).toNat = u - d from by omega, show (-1074 - p).toNat = 0 from by omega, Nat.shiftLeft_eq, cut_pow h hd, Nat.pow_zero, Nat.mul_one]
      · rw [show (p - -1074).toNat = 0 from by omega, show (-1074 - p).toNat = d - u from by omega, Nat.shiftLeft_zero, cut_pow h.symm hd]) (by rw [show ((-1074 : Int) + 1074).toNat = 0 from rfl]; omega)]
    rw [show ((-1074 : Int) + 1074).toNat = 0 from rfl, Nat.zero_mul, Nat.zero_add]
  · obtain ⟨E, hE⟩ : ∃ E, E = r / 4503599627370496 := ⟨_, rfl⟩
    obtain ⟨M, hM⟩ : ∃ M, M = 4503599627370496 + r % 4503599627370496 := ⟨_, rfl⟩
    have hE1 : 1 ≤ E := by rw [hE]; omega
    have hs : scale r = M * 2 ^ (E - 1) := by unfold scale; rw [if_neg (by omega), hM, hE]
    rw [hs, Nat.mul_assoc, ← Nat.pow_add] at h
    have hlog := log2_shift hm h (t := 52) (by rw [show (2 : Nat) ^ 52 = 4503599627370496 from by decide]; omega) (by rw [show (2 : Nat) ^ (52 + 1) = 9007199254740992 from by decide]; omega)
    have hrr : (E - 1) * 4503599627370496 + M = r := by
      rw [Nat.sub_mul, hM]
      have : E * 4503599627370496 + r % 4503599627370496 = r := by rw [hE]; omega
      have : 1 * 4503599627370496 ≤ E * 4503599627370496 := Nat.mul_le_mul_right _ hE1
      omega
    rw [nearest_exact s m p (-1074 + ((E - 1 : Nat) : Int)) M m.log2 (by omega) rfl (by omega) (by
      rcases Nat.le_total (E - 1 + d) u with hd | hd
      · rw [show (p - (-1074 + ((E - 1 : Nat) : Int))).toNat = u - (E - 1 + d) from by omega, show (-1074 + ((E - 1 : Nat) : Int) - p).toNat = 0 from by omega, Nat.shiftLeft_eq, cut_pow h hd, Nat.pow_zero, Nat.mul_one]
      · rw [show (p - (-1074 + ((E - 1 : Nat) : Int))).toNat = 0 from by omega, show (-1074 + ((E - 1 : Nat) : Int) - p).toNat = E - 1 + d - u from by omega, Nat.shiftLeft_zero, cut_pow h.symm hd]) (by
      rw [show (-1074 + ((E - 1 : Nat) : Int) + 1074).toNat = E - 1 from by omega, hrr]; exact hl)]
    rw [show (-1074 + ((E - 1 : Nat) : Int) + 1074).toNat = E - 1 from by omega, hrr]
theorem one_read : double.read 4607182418800017408 = .number false 4503599627370496 (-52) := by decide +kernel
theorem neg1_read : double.read 13830554455654793216 = .number true 4503599627370496 (-52) := by decide +kernel
theorem c52_read : double.read 4841369599423283200 = .number false 4503599627370496 0 := by decide +kernel
theorem word_pos (r : Nat) : double.word false r = r := by unfold Format.word; rfl
theorem word_neg (r : Nat) : double.word true r = 9223372036854775808 + r := by
  have e1 : double.signWeight = 9223372036854775808 := by decide +kernel
  unfold Format.word
  rw [if_pos rfl, e1]
/-- One times, and minus one times, a positive number. -/
theorem mul1 (s : Bool) (y : Nat) (h0 : 0 < y) (h1 : y < 9218868437227405312) : double.mul (if s then 13830554455654793216 else 4607182418800017408) y = some (double.word s y) := by
  obtain ⟨m, a, he, hm⟩ := read_num y (by rw [rung_pos (by omega)]; exact h1)
  rw [rung_pos (by omega)] at hm
  rw [neg_pos (by omega)] at he
  have hn : double.nearest s (4503599627370496 * m) (-52 + (-1074 + (a : Int))) = double.word s y := by
    refine nearest_word s _ _ y a 52 h0 h1 ?_ (by omega)
    rw [← hm, show (2 : Nat) ^ 52 = 4503599627370496 from by decide, Nat.mul_assoc, Nat.mul_comm]
  have hr : double.read (if s then 13830554455654793216 else 4607182418800017408) = .number s 4503599627370496 (-52) := by cases s with
    | false => exact one_read
    | true => exact neg1_read
  unfold Format.mul
  rw [hr, he]
  simp only [Datum.product, Option.map_some, Bool.xor_false]
  show some (double.nearest _ _ _) = _
  rw [hn]
/-- A whole number below 2^52 and 2^52. -/
theorem add_c52 (n z : Nat) (hn : n < 4503599627370496) (hz : z < 9218868437227405312) (hs : scale z = n * 2 ^ k74) : double.add z 4841369599423283200 = some (4841369599423283200 + n) := by
  obtain ⟨m, a, he, hm⟩ := read_num z (by rw [rung_pos (by omega)]; exact hz)
  rw [rung_pos (by omega)] at hm
  rw [neg_pos (by omega)] at he
  rw [hs] at hm
  have hk := k74_is
  have hsc : scale (4841369599423283200 + n) = (4503599627370496 + n) * 2 ^ k74 := by
    unfold scale
    rw [if_neg (by omega), show (4841369599423283200 + n) % 4503599627370496 = n from by omega, show (4841369599423283200 + n) / 4503599627370496 - 1 = 1074 from by omega, k74_is]
  have fin : ∀ (T : Nat) (base : Int) (u d : Nat), 0 < T → T * 2 ^ u = (4503599627370496 + n) * 2 ^ k74 * 2 ^ d → base = -1074 + (u : Int) - (d : Int) →
      some (double.write (.number (if (T : Int) = 0 then (false && false) else decide ((T : Int) < 0)) (T : Int).natAbs base)) = some (4841369599423283200 + n) := fun T base u d h0 h1 h2 => by
    rw [if_neg (by omega), show decide ((T : Int) < 0) = false from decide_eq_false (by omega), Int.natAbs_natCast]
    show some (double.nearest false T base) = _
    rw [nearest_word false T base (4841369599423283200 + n) u d (by omega) (by omega) (by rw [hsc]; exact h1) h2, word_pos]
  unfold Format.add
  rw [he, c52_read]
  simp only [Datum.sum, signed, Bool.false_eq_true, if_false, Option.map_some]
  rcases Nat.le_total a k74 with ha | ha
  · have hmn : m = n * 2 ^ (k74 - a) := (cut_pow hm.symm ha).symm
    rw [show min ((-1074 : Int) + (a : Int)) 0 = -1074 + (a : Int) from by omega, show ((-1074 : Int) + (a : Int) - (-1074 + (a : Int))).toNat = 0 from by omega, show ((0 : Int) - (-1074 + (a : Int))).toNat = k74 - a from by omega, Nat.shiftLeft_zero, Nat.shiftLeft_eq, ← Int.natCast_add]
    have hT : m + 4503599627370496 * 2 ^ (k74 - a) = (4503599627370496 + n) * 2 ^ (k74 - a) := by rw [hmn, Nat.add_mul, Nat.add_comm]
    rw [hT]
    exact fin _ _ a 0 (Nat.mul_pos (by omega) (Nat.two_pow_pos _)) (by rw [Nat.mul_assoc, ← Nat.pow_add, Nat.sub_add_cancel ha, Nat.pow_zero, Nat.mul_one]) (by omega)
  · have hmn : m * 2 ^ (a - k74) = n := cut_pow hm ha
    rw [show min ((-1074 : Int) + (a : Int)) 0 = 0 from by omega, show ((-1074 : Int) + (a : Int) - 0).toNat = a - k74 from by omega, show ((0 : Int) - 0).toNat = 0 from rfl, Nat.shiftLeft_zero, Nat.shiftLeft_eq, hmn, ← Int.natCast_add, Nat.add_comm n]
    exact fin _ _ k74 0 (by omega) (by rw [Nat.pow_zero, Nat.mul_one]) (by omega)
/-- Half of what was doubled. -/
theorem half_dbl {z : Nat} (h0 : 0 < z) (h1 : (if z < 4503599627370496 then 2 * z else z + 4503599627370496) < 9218868437227405312) : double.div (if z < 4503599627370496 then 2 * z else z + 4503599627370496) 4611686018427387904 = some z := by
  rcases Nat.lt_or_ge z 4503599627370496 with h | h
  · rw [if_pos h]
    have hread : double.read (2 * z) = .number false (2 * z) (-1074) := by
      rcases Nat.lt_or_ge (2 * z) 4503599627370496 with h2 | h2
      · rw [read_low (2 * z) (by rw [rung_pos (by omega)]; exact h2), rung_pos (by omega), neg_pos (by omega)]
      · rw [read_norm (2 * z) (by rw [rung_pos (by omega)]; exact h2) (by rw [rung_pos (by omega)]; omega), rung_pos (by omega), neg_pos (by omega), show 4503599627370496 + 2 * z % 4503599627370496 = 2 * z from by omega, show 2 * z / 4503599627370496 - 1 = 0 from by omega]
        rfl
    unfold Format.div
    have e5 : double.fractionBits = 52 := by decide +kernel
    rw [two_read, hread, e5]
    have hl2 : (4503599627370496 : Nat).log2 = 52 := log2_of (by decide) (by decide)
    obtain ⟨m, hm⟩ : ∃ m, m = 2 * z := ⟨_, rfl⟩
    obtain ⟨t, ht⟩ : ∃ t, t = m.log2 := ⟨_, rfl⟩
    have t3 : t ≤ 52 := by
      have : m.log2 < 53 := (Nat.log2_lt (by omega)).2 (by omega)
      omega
    rw [← hm]
    simp only [Datum.quotient, Option.map_some, Bool.xor_false, ← ht, hl2]
    rw [if_neg (by decide)]
    simp only [Option.map_some, Nat.shiftLeft_eq]
    have hpw : m * 2 ^ (52 + 2 + 52 - t) = m * 2 ^ (54 - t) * 4503599627370496 := by
      rw [show 52 + 2 + 52 - t = 54 - t + 52 from by omega, Nat.pow_add, show (2 : Nat) ^ 52 = 4503599627370496 from by decide, Nat.mul_assoc]
    rw [hpw, Nat.mul_div_cancel _ (by decide), Nat.mul_mod_left]
    show some (double.nearest _ _ _) = _
    have hmag : 2 * (m * 2 ^ (54 - t)) + ((0 : Nat) != 0).toNat = m * 2 ^ (55 - t) := by
      have : ((0 : Nat) != 0).toNat = 0 := rfl
      rw [this, Nat.add_zero, show 55 - t = 54 - t + 1 from by omega, Nat.pow_succ, Nat.mul_comm 2, Nat.mul_assoc]
    rw [hmag, nearest_word false _ _ z 0 (56 - t) h0 (by omega) (by
      have hs : scale z = z := by unfold scale; rw [if_pos h]
      rw [hs, hm, Nat.pow_zero, Nat.mul_one, show 56 - t = 55 - t + 1 from by omega, Nat.pow_succ, Nat.mul_comm 2 z, Nat.mul_assoc, Nat.mul_comm 2]) (by omega), word_pos]
  · rw [if_neg (by omega)] at h1 ⊢
    rw [div2 (z + 4503599627370496) (by omega) (by rw [rung_pos (by omega)]; omega) (by rw [rung_pos (by omega)]; exact h1)]
    rw [Nat.add_sub_cancel]
/-- i doublings. -/
def dbls (y : Nat) : Nat → Nat
  | 0 => y
  | i + 1 => if dbls y i < 4503599627370496 then 2 * dbls y i else dbls y i + 4503599627370496
theorem dbls_is (y : Nat) : ∀ i, Dbl y i (dbls y i)
  | 0 => Dbl.zero y
  | i + 1 => (dbls_is y i).succ
/-- A subnormal's whole number, halved. -/
theorem dbls_half {y : Nat} (h0 : 0 < y) (h1 : y < 4503599627370496) {i : Nat} (hi : i < 1074) : double.div (dbls y (i + 1)) 4611686018427387904 = some (dbls y i) := by
  have h := dbls_is y i
  have hl := (dbls_is y (i + 1)).low h1 (by omega)
  exact half_dbl (h.pos h0) (by
    have : (if dbls y i < 4503599627370496 then 2 * dbls y i else dbls y i + 4503599627370496) = dbls y (i + 1) := rfl
    rw [this]; omega)
/-- A whole number, as a double: what its magnitude is. -/
theorem whole_dbl (n : Nat) (h1 : n < 4503599627370496) : ∃ z, double.nearest false n 0 = z ∧ z < 9218868437227405312 ∧ scale z = n * 2 ^ k74 := by
  rcases Nat.eq_zero_or_pos n with h | h
  · subst h
    exact ⟨0, by decide +kernel, by decide, by rw [Nat.zero_mul]; rfl⟩
  · obtain ⟨d, hd, h2, h3, h4, h5⟩ := ofInt_exact false n h (by omega)
    have hr : rung d = d := by
      unfold rung
      unfold negW at h3
      have : ¬ (d / 9223372036854775808 % 2 = 1) := by simpa using h3
      omega
    rw [hr] at h4 h5
    exact ⟨d, hd, h5, h4⟩
theorem scale_inj' {a b : Nat} (h : scale a = scale b) : a = b := by
  rcases Nat.lt_trichotomy a b with h1 | h1 | h1
  · have := scale_mono h1; omega
  · exact h1
  · have := scale_mono h1; omega
theorem whole_dbls {n z : Nat} (h1 : n < 4503599627370496) (hs : scale z = n * 2 ^ k74) : z = dbls n 1074 := by
  refine scale_inj' ?_
  rw [hs, (dbls_is n 1074).sc, k74_is]
  unfold scale
  rw [if_pos h1]
end Go.Proofs.Ytelfpnpplknlpaa
