/- Sums of doubles: what the sum is, as its one word; canonical cells. -/
import Derived.Test.YtmldjemjjpibmaaDoorFltK
import Derived.Test.YtmldjemjjpibmaaDoorFltR
import Derived.Laws.NewFold
set_option linter.unusedVariables false
set_option linter.unusedSimpArgs false
namespace Go.Proofs.YtmldjemjjpibmaaDoor
open Go.RowKit

theorem add_nan {x y : Nat} (h : nanW x ∨ nanW y) : Ieee.double.add x y = none := by
  unfold Ieee.Format.add
  rcases h with h | h
  · obtain ⟨t, e⟩ := read_nan x h
    rw [e]; rfl
  · obtain ⟨t, e⟩ := read_nan y h
    rw [e]
    cases Ieee.double.read x <;> rfl
theorem nan_cut (x y t : Nat) : nanW (Question.cut (.nanBits .f64 x y) t) ∧ Question.cut (.nanBits .f64 x y) t < 18446744073709551616 := by
  have e : Question.cut (.nanBits .f64 x y) t = (t % 2) * 9223372036854775808 + 9218868437227405312 + 1 + (t / 2) % 4503599627370495 := rfl
  rw [e]
  unfold nanW rung
  have h1 : t % 2 = 0 ∨ t % 2 = 1 := by omega
  have h2 : t / 2 % 4503599627370495 < 4503599627370495 := Nat.mod_lt _ (by omega)
  generalize t / 2 % 4503599627370495 = b at h2
  rcases h1 with h | h <;> rw [h] <;> omega
theorem nan_add {x y : Nat} (h : Ieee.double.add x y = none) (w : World) : ∃ r, nanW r ∧ r < 18446744073709551616 ∧ (binOp .add 22 (.float .f64 x) (.float .f64 y)).run Tryd.prog w = .ok (.float .f64 r) w.drew := by
  have h' : FloatKind.f64.format.add x y = none := h
  refine ⟨_, (nan_cut x y (w.tape w.drawn (.nanBits .f64 x y))).1, (nan_cut x y (w.tape w.drawn (.nanBits .f64 x y))).2, ?_⟩
  simp [binOp, Op.floatArith, h', Question.forced]
/-- The sum of two: what it is, as the one word of its kind; the world may have drawn. -/
theorem add_any (x y : Nat) (hx : x < 18446744073709551616) (hy : y < 18446744073709551616) (w : World) :
    ∃ r w1, r < 18446744073709551616 ∧ (binOp .add 22 (.float .f64 x) (.float .f64 y)).run Tryd.prog w = .ok (.float .f64 r) w1 ∧ Fr (fun _ => False) w w1 ∧
      ((Ieee.double.add x y = none ∧ nanW r) ∨ Ieee.double.add x y = some r) := by
  cases h : Ieee.double.add x y with
  | none =>
    obtain ⟨r, h1, h2, h3⟩ := nan_add h w
    exact ⟨r, w.drew, h2, h3, (Fr.refl _ _).drew, .inl ⟨rfl, h1⟩⟩
  | some r => exact ⟨r, w, Ieee.Format.add_lt _ h, addF h w, Fr.refl _ _, .inr rfl⟩
theorem real_add (x y : Nat) (hx : x < 18446744073709551616) (hy : y < 18446744073709551616) (w : World) :
    Calls Tryd.prog 19 #[.float .f64 x, .float .f64 y] w fun r w' => ∃ s, r = .returned (.float .f64 (canonP s)) ∧ s < 18446744073709551616 ∧ Fr (fun _ => False) w w' ∧ ((Ieee.double.add x y = none ∧ nanW s) ∨ Ieee.double.add x y = some s) := by
  obtain ⟨s, w1, hs, hrun, hF, hor⟩ := add_any x y hx hy w
  go_enter Tryd.func19, Tryd.ntmps19
  go_wp2_with fail
  refine (real_canon s w1).mono ?_
  rintro r w2 ⟨rfl, rfl⟩
  go_wp2_with fail
  go_ret
  exact ⟨s, rfl, hs, hF, hor⟩
theorem canon_lt {x : Nat} (hx : x < 18446744073709551616) : canonP x < 18446744073709551616 := by unfold canonP; split; omega; exact hx
theorem canon_canon (x : Nat) : canonP (canonP x) = canonP x := by
  have hn : nanW 9221120237041090561 := by decide +kernel
  unfold canonP
  by_cases h : nanW x
  · rw [if_pos h, if_pos hn]
  · rw [if_neg h, if_neg h]
/-- Two sums of the same two have one key. -/
theorem keys_sum {x y s t : Nat} (hs : s < 18446744073709551616) (ht : t < 18446744073709551616) (h1 : (Ieee.double.add x y = none ∧ nanW s) ∨ Ieee.double.add x y = some s) (h2 : (Ieee.double.add x y = none ∧ nanW t) ∨ Ieee.double.add x y = some t) : key s = key t := by
  rcases h1 with ⟨e1, n1⟩ | e1 <;> rcases h2 with ⟨e2, n2⟩ | e2
  · unfold key; rw [if_pos n1, if_pos n2]
  · rw [e1] at e2; cases e2
  · rw [e1] at e2; cases e2
  · rw [e1] at e2; injection e2 with e; rw [e]
theorem key_canonP {x : Nat} (hx : x < 18446744073709551616) : key (canonP x) = key x := (key_canon (canon_lt hx) hx).1 (canon_canon x)

/-- The one word of a sum. -/
def sumC (x y : Nat) : Nat := match Ieee.double.add x y with | some r => canonP r | none => 9221120237041090561
theorem canon_nan {x : Nat} (h : nanW x) : canonP x = 9221120237041090561 := if_pos h
theorem nan_canon {x : Nat} (h : nanW x) : nanW (canonP x) := by rw [canon_nan h]; decide +kernel
theorem canon_not {x : Nat} (h : ¬ nanW x) : canonP x = x := if_neg h
theorem sumC_of {x y s : Nat} (h : (Ieee.double.add x y = none ∧ nanW s) ∨ Ieee.double.add x y = some s) : canonP s = sumC x y := by
  unfold sumC
  rcases h with ⟨h1, h2⟩ | h
  · rw [h1]; exact canon_nan h2
  · rw [h]
theorem sumC_l (x y : Nat) : sumC (canonP x) y = sumC x y := by
  by_cases h : nanW x
  · unfold sumC; rw [add_nan (.inl h), add_nan (.inl (nan_canon h))]
  · rw [canon_not h]
theorem sumC_r (x y : Nat) : sumC x (canonP y) = sumC x y := by
  by_cases h : nanW y
  · unfold sumC; rw [add_nan (.inr h), add_nan (.inr (nan_canon h))]
  · rw [canon_not h]
theorem sumC_lt (x y : Nat) : sumC x y < 18446744073709551616 := by
  unfold sumC
  cases h : Ieee.double.add x y with
  | none => decide
  | some r => exact canon_lt (Ieee.Format.add_lt _ h)
theorem canon_sumC (x y : Nat) : canonP (sumC x y) = sumC x y := by
  unfold sumC
  cases h : Ieee.double.add x y with
  | none => decide +kernel
  | some r => exact canon_canon r
theorem real_sum (x y : Nat) (hx : x < 18446744073709551616) (hy : y < 18446744073709551616) (w : World) :
    Calls Tryd.prog 19 #[.float .f64 x, .float .f64 y] w fun r w' => r = .returned (.float .f64 (sumC x y)) ∧ Fr (fun _ => False) w w' :=
  (real_add x y hx hy w).mono fun r w' ⟨s, h1, _, h3, h4⟩ => ⟨by rw [h1, sumC_of h4], h3⟩
end Go.Proofs.YtmldjemjjpibmaaDoor
