/- Whole numbers among the doubles. -/
import Derived.Test.YtmldjemjjpibmaaDoorDigs
set_option linter.unusedVariables false
set_option linter.unusedSimpArgs false
namespace Go.Proofs.YtmldjemjjpibmaaDoor
open Ieee Go.RowKit
open Go.Proofs.YtmldjemjjpibmaaDoorW.PrintWords

theorem cut_zero (s : Bool) (n d : Nat) : Toward.zero.cut s n d = n / 2 ^ d := by
  unfold Toward.cut
  simp only [Nat.shiftLeft_eq, Nat.one_mul]
  show n / 2 ^ min d (n.log2 + 2) + 0 = n / 2 ^ d
  rw [Nat.add_zero]
  rcases Nat.le_total d (n.log2 + 2) with h | h
  · rw [Nat.min_eq_left h]
  · rw [Nat.min_eq_right h]
    have h1 : n < 2 ^ (n.log2 + 1) := Nat.lt_log2_self
    have h2 : 2 ^ (n.log2 + 1) ≤ 2 ^ (n.log2 + 2) := Nat.pow_le_pow_right (by decide) (by omega)
    have h3 : 2 ^ (n.log2 + 2) ≤ 2 ^ d := Nat.pow_le_pow_right (by decide) h
    rw [Nat.div_eq_of_lt (by omega), Nat.div_eq_of_lt (by omega)]
theorem toInt_trunc (x : Nat) (h : rung x < 9218868437227405312) : (double.read x).toInt .zero = some (sgnI (negW x) (scale (rung x) / 2 ^ k74)) := by
  obtain ⟨m, a, he, hm⟩ := read_num x h
  rw [he, ← hm]
  have hk := k74_is
  generalize k74 = k at hk
  have key : Toward.zero.cut (negW x) (m <<< ((-1074 : Int) + a).toNat) (-((-1074 : Int) + a)).toNat = m * 2 ^ a / 2 ^ k := by
    rw [cut_zero, Nat.shiftLeft_eq]
    rcases Nat.le_total a k with ha | ha
    · rw [show ((-1074 : Int) + a).toNat = 0 from by omega, show (-((-1074 : Int) + a)).toNat = k - a from by omega, Nat.pow_zero, Nat.mul_one]
      have : 2 ^ k = 2 ^ (k - a) * 2 ^ a := by rw [← Nat.pow_add, Nat.sub_add_cancel ha]
      rw [this, Nat.mul_div_mul_right _ _ (Nat.two_pow_pos a)]
    · rw [show ((-1074 : Int) + a).toNat = a - k from by omega, show (-((-1074 : Int) + a)).toNat = 0 from by omega, Nat.pow_zero, Nat.div_one]
      have : m * 2 ^ a = m * 2 ^ (a - k) * 2 ^ k := by rw [Nat.mul_assoc, ← Nat.pow_add, Nat.sub_add_cancel ha]
      rw [this, Nat.mul_div_cancel _ (Nat.two_pow_pos k)]
  simp only [Datum.toInt, Datum.integral, key, signed, Nat.shiftLeft_zero]
  rfl
def sbt (s : Bool) : Nat := if s then 9223372036854775808 else 0
theorem sbt_facts (s : Bool) {v : Nat} (hv : v < 9223372036854775808) : sbt s + v < 18446744073709551616 ∧ negW (sbt s + v) = s ∧ rung (sbt s + v) = v := by
  unfold sbt negW rung
  cases s
  · simp only [Bool.false_eq_true, if_false, Nat.zero_add]
    refine ⟨by omega, ?_, by omega⟩
    rw [show v / 9223372036854775808 = 0 from by omega]; rfl
  · simp only [if_true]
    refine ⟨by omega, ?_, by omega⟩
    rw [show (9223372036854775808 + v) / 9223372036854775808 = 1 from by omega]; rfl
theorem rank_sbt (s : Bool) {v : Nat} (hv : v < 9223372036854775808) : rank (sbt s + v) = sgnI s v := by
  unfold rank sgnI
  rw [(sbt_facts s hv).2.1, (sbt_facts s hv).2.2]
theorem scale_inj {a b : Nat} (h : scale a = scale b) : a = b := by
  rcases Nat.lt_trichotomy a b with h1 | h1 | h1
  · have := scale_mono h1; omega
  · exact h1
  · have := scale_mono h1; omega
theorem scale_c1 : scale 4845873199050653696 = 9007199254740992 * 2 ^ k74 := by
  unfold scale
  rw [if_neg (by omega), show 4845873199050653696 / 4503599627370496 - 1 = k74 + 1 from by rw [k74_is], Nat.pow_succ]
  generalize 2 ^ k74 = p
  omega
theorem ford_some {x y : Nat} (hx : ¬ nanW x) (hy : ¬ nanW y) : ∃ o, ford x y = some o ∧ (o = .eq ↔ rank x = rank y) := by
  rcases Int.lt_trichotomy (rank x) (rank y) with h | h | h
  · exact ⟨.lt, ford_lt hx hy h, ⟨fun h => (nomatch h), fun h2 => by omega⟩⟩
  · exact ⟨.eq, ford_eq hx hy h, ⟨fun _ => h, fun _ => rfl⟩⟩
  · exact ⟨.gt, ford_gt hx hy h, ⟨fun h => (nomatch h), fun h2 => by omega⟩⟩
/-- There and back. -/
theorem back_eq (s : Bool) (v : Nat) (h0 : 0 < v) (h1 : v < 4845873199050653696) : scale v / 2 ^ k74 < 9007199254740992 ∧ ∃ o, ford (floatOfInt .f64 (sgnI s (scale v / 2 ^ k74))) (sbt s + v) = some o ∧ (o = .eq ↔ scale v % 2 ^ k74 = 0) := by
  have hp : 0 < 2 ^ k74 := Nat.two_pow_pos _
  obtain ⟨n, hn⟩ : ∃ n, n = scale v / 2 ^ k74 := ⟨_, rfl⟩
  have hn53 : n < 9007199254740992 := by
    rw [hn, Nat.div_lt_iff_lt_mul hp, ← scale_c1]
    exact scale_mono h1
  rw [← hn]
  refine ⟨hn53, ?_⟩
  obtain ⟨f1, f2, f3⟩ := sbt_facts s (v := v) (by omega)
  have hnn : ¬ nanW (sbt s + v) := fin_nan (by rw [f3]; omega)
  have hdm := Nat.div_add_mod (scale v) (2 ^ k74)
  rw [← hn] at hdm
  rcases Nat.eq_zero_or_pos n with hz | hz
  · subst hz
    have h2 : floatOfInt .f64 (sgnI s 0) = 0 := by
      rw [show sgnI s 0 = 0 from by unfold sgnI; cases s <;> rfl]
      decide +kernel
    rw [h2]
    obtain ⟨o, ho, hor⟩ := ford_some nan_nil hnn
    refine ⟨o, ho, hor.trans ?_⟩
    rw [rank_nil, rank_sbt s (by omega)]
    have hs0 : 0 < scale v := by have := scale_mono h0; omega
    constructor
    · intro h
      have := sgnI_abs s v
      rw [← h] at this
      omega
    · intro h
      rw [h] at hdm
      omega
  · obtain ⟨d, hd, hd1, hd2, hd3, hd4⟩ := ofInt_exact s n hz hn53
    have h2 : floatOfInt .f64 (sgnI s n) = d := by
      rw [← hd]
      show double.nearest (decide (sgnI s n < 0)) (sgnI s n).natAbs 0 = double.nearest s n 0
      rw [sgnI_abs, show decide (sgnI s n < 0) = s from by
        unfold sgnI
        cases s
        · exact decide_eq_false (by simp)
        · exact decide_eq_true (by simp; omega)]
    rw [h2]
    obtain ⟨o, ho, hor⟩ := ford_some (x := d) (fin_nan hd4) hnn
    refine ⟨o, ho, hor.trans ?_⟩
    rw [rank_sbt s (by omega), show rank d = sgnI s (rung d) from by unfold rank sgnI; rw [hd2]]
    constructor
    · intro h
      have h3 : rung d = v := by rw [← sgnI_abs s (rung d), ← sgnI_abs s v, h]
      rw [← h3, hd3, Nat.mul_mod_left]
    · intro h
      have h3 : scale (rung d) = scale v := by rw [hd3]; rw [h] at hdm; rw [← hdm, Nat.mul_comm]; omega
      rw [scale_inj h3]
theorem ref_whole (s : Bool) (v : Nat) (h0 : 0 < v) (h1 : v < 4845873199050653696) (w : World) :
    Calls Tryd.prog 38 #[.float .f64 (sbt s + v)] w fun r w' => r = .returned (.bool (decide (scale v % 2 ^ k74 = 0))) ∧ w = w' := by
  obtain ⟨hn, o, ho, hor⟩ := back_eq s v h0 h1
  obtain ⟨f1, f2, f3⟩ := sbt_facts s (v := v) (by omega)
  have ht := toInt_trunc (sbt s + v) (by rw [f3]; omega)
  rw [f2, f3] at ht
  obtain ⟨z, hz⟩ : ∃ z, z = sgnI s (scale v / 2 ^ k74) := ⟨_, rfl⟩
  have hza := sgnI_abs s (scale v / 2 ^ k74)
  rw [← hz] at ht ho hza
  have hcv := cv_i64 ht (by omega) (by omega)
  obtain ⟨x, hx⟩ : ∃ x, x = sbt s + v := ⟨_, rfl⟩
  rw [← hx] at ho hcv ⊢
  obtain ⟨fl, hfl⟩ : ∃ fl, fl = floatOfInt .f64 z := ⟨_, rfl⟩
  rw [← hfl] at ho
  have hfl' := hfl.symm
  have hd : decide (scale v % 2 ^ k74 = 0) = decide (o = .eq) := by
    by_cases h : o = .eq
    · rw [decide_eq_true h, decide_eq_true (hor.1 h)]
    · rw [decide_eq_false h, decide_eq_false (fun h2 => h (hor.2 h2))]
  rw [hd]
  clear hn hor f1 f2 f3 ht hz hza hx hfl hd h0 h1
  rcases o with _ | _ | _
  all_goals
    go_enter Tryd.func38, Tryd.ntmps38
    go_wp2_with fail
    go_ret
    exact ⟨rfl, rfl⟩
end Go.Proofs.YtmldjemjjpibmaaDoor
