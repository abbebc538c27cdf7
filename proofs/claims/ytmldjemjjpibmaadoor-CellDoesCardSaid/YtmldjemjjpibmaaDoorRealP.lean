/- Doubles, plain: how two words stand is how their ranks stand. No program in sight. -/
import Derived.Test.YtmldjemjjpibmaaDoorBase
import Ieee.Arith
set_option linter.unusedVariables false
set_option linter.unusedSimpArgs false
namespace Go.Proofs.YtmldjemjjpibmaaDoor
open Ieee

def rung (x : Nat) : Nat := x % 9223372036854775808
def negW (x : Nat) : Bool := x / 9223372036854775808 % 2 == 1
def nanW (x : Nat) : Prop := 9218868437227405312 < rung x
instance (x : Nat) : Decidable (nanW x) := inferInstanceAs (Decidable (_ < _))
def rank (x : Nat) : Int := if negW x then -(rung x : Int) else rung x

/-- The magnitude of a finite rung, in units of the least one. -/
def scale (r : Nat) : Nat := if r < 4503599627370496 then r else (4503599627370496 + r % 4503599627370496) * 2 ^ (r / 4503599627370496 - 1)

theorem scale_step (r : Nat) : scale r < scale (r + 1) := by
  unfold scale
  rcases Nat.lt_or_ge (r + 1) 4503599627370496 with h | h
  · rw [if_pos (by omega), if_pos h]; omega
  · rcases Nat.lt_or_ge r 4503599627370496 with h1 | h1
    · have : r = 4503599627370495 := by omega
      subst this
      decide
    · rw [if_neg (by omega), if_neg (by omega)]
      rcases Nat.lt_or_ge (r % 4503599627370496 + 1) 4503599627370496 with h2 | h2
      · have e1 : (r + 1) / 4503599627370496 = r / 4503599627370496 := by omega
        have e2 : (r + 1) % 4503599627370496 = r % 4503599627370496 + 1 := by omega
        rw [e1, e2]
        exact Nat.mul_lt_mul_of_pos_right (by omega) (Nat.two_pow_pos _)
      · have e1 : (r + 1) / 4503599627370496 = r / 4503599627370496 + 1 := by omega
        have e2 : (r + 1) % 4503599627370496 = 0 := by omega
        have e3 : r / 4503599627370496 + 1 - 1 = (r / 4503599627370496 - 1) + 1 := by omega
        rw [e1, e2, e3, Nat.pow_succ, Nat.add_zero, Nat.mul_comm (2 ^ _) 2, ← Nat.mul_assoc]
        exact Nat.mul_lt_mul_of_pos_right (by omega) (Nat.two_pow_pos _)
theorem scale_mono {a b : Nat} (h : a < b) : scale a < scale b := by
  induction b with
  | zero => omega
  | succ b ih =>
    rcases Nat.lt_or_ge a b with h1 | h1
    · exact Nat.lt_trans (ih h1) (scale_step b)
    · have : a = b := by omega
      subst this; exact scale_step a
theorem scale_zero : scale 0 = 0 := rfl

def sval (n : Bool) (r : Nat) : Int := if n then -(scale r : Int) else scale r
theorem sval_cmp (x y : Nat) : compare (sval (negW x) (rung x)) (sval (negW y) (rung y)) = compare (rank x) (rank y) := by
  have key : ∀ a b : Nat, (scale a < scale b ↔ a < b) := fun a b => ⟨fun h => by
    rcases Nat.lt_or_ge a b with h1 | h1
    · exact h1
    · rcases Nat.eq_or_lt_of_le h1 with h2 | h2
      · subst h2; omega
      · have := scale_mono h2; omega, scale_mono⟩
  have k1 := key (rung x) (rung y)
  have k2 := key (rung y) (rung x)
  have k3 := key 0 (rung x)
  have k4 := key 0 (rung y)
  rw [scale_zero] at k3 k4
  have hlt : sval (negW x) (rung x) < sval (negW y) (rung y) ↔ rank x < rank y := by
    unfold sval rank
    cases negW x <;> cases negW y <;> simp only [if_true, if_false, Bool.false_eq_true] <;> omega
  have heq : sval (negW x) (rung x) = sval (negW y) (rung y) ↔ rank x = rank y := by
    unfold sval rank
    cases negW x <;> cases negW y <;> simp only [if_true, if_false, Bool.false_eq_true] <;> omega
  show compareOfLessAndEq _ _ = compareOfLessAndEq _ _
  unfold compareOfLessAndEq
  by_cases h1 : rank x < rank y
  · rw [if_pos h1, if_pos (hlt.2 h1)]
  · rw [if_neg h1, if_neg (fun h => h1 (hlt.1 h))]
    by_cases h2 : rank x = rank y
    · rw [if_pos h2, if_pos (heq.2 h2)]
    · rw [if_neg h2, if_neg (fun h => h2 (heq.1 h))]

theorem cmp_scale (a b : Int) (p : Nat) (hp : 0 < p) : compare (a * p) (b * p) = compare a b := by
  have hlt : a * p < b * p ↔ a < b := Int.mul_lt_mul_right (by omega)
  have heq : a * p = b * p ↔ a = b := Int.mul_eq_mul_right_iff (by omega)
  show compareOfLessAndEq _ _ = compareOfLessAndEq _ _
  unfold compareOfLessAndEq
  by_cases h1 : a < b
  · rw [if_pos h1, if_pos (hlt.2 h1)]
  · rw [if_neg h1, if_neg (fun h => h1 (hlt.1 h))]
    by_cases h2 : a = b
    · rw [if_pos h2, if_pos (heq.2 h2)]
    · rw [if_neg h2, if_neg (fun h => h2 (heq.1 h))]

theorem signed_mul (s : Bool) (m u p : Nat) : signed s m u * (2 ^ p : Nat) = signed s m (u + p) := by
  unfold signed
  rw [Nat.shiftLeft_eq, Nat.shiftLeft_eq, Nat.pow_add]
  cases s
  · simp only [if_false, Bool.false_eq_true]; push_cast; rw [Int.mul_assoc]
  · simp only [if_true]; push_cast; rw [Int.neg_mul, Int.mul_assoc]

/-- What a finite word reads as: its sign, and a magnitude at a place such that in units of the least one it is its scale. -/
theorem read_num (x : Nat) (h : rung x < 9218868437227405312) : ∃ m a : Nat, double.read x = .number (negW x) m (-1074 + (a : Int)) ∧ m * 2 ^ a = scale (rung x) := by
  unfold scale
  have e1 : double.signWeight = 9223372036854775808 := by decide +kernel
  have e2 : double.binade = 4503599627370496 := by decide +kernel
  have e3 : double.infRung = 9218868437227405312 := by decide +kernel
  have e4 : double.leastPlace = -1074 := by decide +kernel
  unfold Format.read
  rw [e1, e2, e3, e4]
  simp only
  change x % 9223372036854775808 < _ at h
  rcases Nat.lt_or_ge (x % 9223372036854775808) 4503599627370496 with h1 | h1
  · refine ⟨x % 9223372036854775808, 0, ?_, ?_⟩
    · rw [if_pos h1]; rfl
    · unfold rung; rw [if_pos h1]; omega
  · refine ⟨4503599627370496 + x % 9223372036854775808 % 4503599627370496, x % 9223372036854775808 / 4503599627370496 - 1, ?_, ?_⟩
    · rw [if_neg (by omega), if_pos h]; rfl
    · unfold rung; rw [if_neg (by omega)]
theorem read_inf (x : Nat) (h : rung x = 9218868437227405312) : double.read x = .infinity (negW x) := by
  have e1 : double.signWeight = 9223372036854775808 := by decide +kernel
  have e2 : double.binade = 4503599627370496 := by decide +kernel
  have e3 : double.infRung = 9218868437227405312 := by decide +kernel
  unfold Format.read
  rw [e1, e2, e3]
  simp only
  change x % 9223372036854775808 = _ at h
  rw [if_neg (by omega), if_neg (by omega), if_pos h]; rfl
theorem read_nan (x : Nat) (h : nanW x) : ∃ t, double.read x = .nan (negW x) t := by
  have e1 : double.signWeight = 9223372036854775808 := by decide +kernel
  have e2 : double.binade = 4503599627370496 := by decide +kernel
  have e3 : double.infRung = 9218868437227405312 := by decide +kernel
  unfold Format.read
  rw [e1, e2, e3]
  simp only
  change _ < x % 9223372036854775808 at h
  refine ⟨x % 9223372036854775808 - 9218868437227405312, ?_⟩
  rw [if_neg (by omega), if_neg (by omega), if_neg (by omega)]; rfl

theorem order_nan (x y : Nat) (h : nanW x ∨ nanW y) : double.order x y = none := by
  unfold Format.order
  rcases h with h | h
  · obtain ⟨t, e⟩ := read_nan x h
    rw [e]; rfl
  · obtain ⟨t, e⟩ := read_nan y h
    rw [e]
    cases double.read x <;> rfl
theorem order_rank (x y : Nat) (hx : ¬ nanW x) (hy : ¬ nanW y) : double.order x y = some (compare (rank x) (rank y)) := by
  unfold Format.order
  unfold nanW at hx hy
  have cmp : ∀ a b : Int, (a < b → compare a b = .lt) ∧ (b < a → compare a b = .gt) ∧ (a = b → compare a b = .eq) := fun a b => by
    refine ⟨fun h => ?_, fun h => ?_, fun h => ?_⟩ <;> show compareOfLessAndEq a b = _ <;> unfold compareOfLessAndEq
    · rw [if_pos h]
    · rw [if_neg (by omega), if_neg (by omega)]
    · rw [if_neg (by omega), if_pos h]
  rcases Nat.lt_or_ge (rung x) 9218868437227405312 with h1 | h1
  · obtain ⟨m, a, e, hm⟩ := read_num x h1
    rw [e]
    rcases Nat.lt_or_ge (rung y) 9218868437227405312 with h2 | h2
    · obtain ⟨n, b, f, hn⟩ := read_num y h2
      rw [f]
      unfold Datum.order
      simp only
      congr 1
      rw [← sval_cmp]
      have hb : ∀ a b : Nat, ((-1074 + (a : Int)) - min (-1074 + (a : Int)) (-1074 + (b : Int))).toNat + min a b = a := fun a b => by omega
      have hb2 : ∀ a b : Nat, ((-1074 + (b : Int)) - min (-1074 + (a : Int)) (-1074 + (b : Int))).toNat + min a b = b := fun a b => by omega
      rw [← cmp_scale _ _ (2 ^ min a b) (Nat.two_pow_pos _), signed_mul, signed_mul, hb, hb2]
      have hs : ∀ (s : Bool) (m a r : Nat), m * 2 ^ a = scale r → signed s m a = sval s r := fun s m a r h => by
        unfold signed sval
        rw [Nat.shiftLeft_eq, h]
      rw [hs _ _ _ _ hm, hs _ _ _ _ hn]
    · rw [read_inf y (by omega)]
      have hy2 : rung y = 9218868437227405312 := by omega
      unfold Datum.order
      simp only
      congr 1
      have hr : rank y = if negW y then -9218868437227405312 else 9218868437227405312 := by unfold rank; rw [hy2]; rfl
      have hq : -9218868437227405312 < rank x ∧ rank x < 9218868437227405312 := by unfold rank; cases negW x <;> simp only [if_true, if_false, Bool.false_eq_true] <;> omega
      rw [hr]
      cases negW y
      · exact ((cmp _ _).1 hq.2).symm
      · exact ((cmp _ _).2.1 hq.1).symm
  · have hx2 : rung x = 9218868437227405312 := by omega
    rw [read_inf x hx2]
    have hr : rank x = if negW x then -9218868437227405312 else 9218868437227405312 := by unfold rank; rw [hx2]; rfl
    rcases Nat.lt_or_ge (rung y) 9218868437227405312 with h2 | h2
    · obtain ⟨n, b, f, hn⟩ := read_num y h2
      rw [f]
      unfold Datum.order
      simp only
      congr 1
      have hq : -9218868437227405312 < rank y ∧ rank y < 9218868437227405312 := by unfold rank; cases negW y <;> simp only [if_true, if_false, Bool.false_eq_true] <;> omega
      rw [hr]
      cases negW x
      · exact ((cmp _ _).2.1 hq.2).symm
      · exact ((cmp _ _).1 hq.1).symm
    · have hy2 : rung y = 9218868437227405312 := by omega
      have hr2 : rank y = if negW y then -9218868437227405312 else 9218868437227405312 := by unfold rank; rw [hy2]; rfl
      rw [read_inf y hy2, hr, hr2]
      cases negW x <;> cases negW y <;> rfl
end Go.Proofs.YtmldjemjjpibmaaDoor
