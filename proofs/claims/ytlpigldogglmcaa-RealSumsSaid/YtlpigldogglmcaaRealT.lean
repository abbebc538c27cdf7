/- The law RealSums, walked. -/
import Derived.Test.YtlpigldogglmcaaRealS
import Derived.Laws.NewFold
set_option linter.unusedVariables false
set_option linter.unusedSimpArgs false
namespace Go.Proofs.Ytlpigldogglmcaa
open Go.RowKit

theorem nan_cut (x y t : Nat) : nanW (Question.cut (.nanBits .f64 x y) t) ∧ Question.cut (.nanBits .f64 x y) t < 18446744073709551616 := by
  have e : Question.cut (.nanBits .f64 x y) t = (t % 2) * 9223372036854775808 + 9218868437227405312 + 1 + (t / 2) % 4503599627370495 := rfl
  rw [e]
  unfold nanW rung
  have h1 : t % 2 = 0 ∨ t % 2 = 1 := by omega
  have h2 : t / 2 % 4503599627370495 < 4503599627370495 := Nat.mod_lt _ (by omega)
  generalize t / 2 % 4503599627370495 = b at h2
  rcases h1 with h | h <;> rw [h] <;> omega
theorem nan_add {x y : Nat} (h : Ieee.double.add x y = none) (w : World) : ∃ r, nanW r ∧ r < 18446744073709551616 ∧ (binOp .add 94 (.float .f64 x) (.float .f64 y)).run Try.prog w = .ok (.float .f64 r) w.drew := by
  have h' : FloatKind.f64.format.add x y = none := h
  refine ⟨_, (nan_cut x y (w.tape w.drawn (.nanBits .f64 x y))).1, (nan_cut x y (w.tape w.drawn (.nanBits .f64 x y))).2, ?_⟩
  simp [binOp, Op.floatArith, h', Question.forced]
/-- The sum of two: what it is, as the one word of its kind; the world may have drawn. -/
theorem add_any (x y : Nat) (hx : x < 18446744073709551616) (hy : y < 18446744073709551616) (w : World) :
    ∃ r w1, r < 18446744073709551616 ∧ (binOp .add 94 (.float .f64 x) (.float .f64 y)).run Try.prog w = .ok (.float .f64 r) w1 ∧ Fr (fun _ => False) w w1 ∧
      ((Ieee.double.add x y = none ∧ nanW r) ∨ Ieee.double.add x y = some r) := by
  cases h : Ieee.double.add x y with
  | none =>
    obtain ⟨r, h1, h2, h3⟩ := nan_add h w
    exact ⟨r, w.drew, h2, h3, (Fr.refl _ _).drew, .inl ⟨rfl, h1⟩⟩
  | some r => exact ⟨r, w, Ieee.Format.add_lt _ h, addF h w, Fr.refl _ _, .inr rfl⟩
theorem real_add (x y : Nat) (hx : x < 18446744073709551616) (hy : y < 18446744073709551616) (w : World) :
    Calls Try.prog 70 #[.float .f64 x, .float .f64 y] w fun r w' => ∃ s, r = .returned (.float .f64 (canonP s)) ∧ s < 18446744073709551616 ∧ Fr (fun _ => False) w w' ∧ ((Ieee.double.add x y = none ∧ nanW s) ∨ Ieee.double.add x y = some s) := by
  obtain ⟨s, w1, hs, hrun, hF, hor⟩ := add_any x y hx hy w
  go_enter Try.func70, Try.ntmps70
  go_wp2_with fail
  refine (real_canon s w1).mono ?_
  rintro r w2 ⟨rfl, rfl⟩
  go_wp2_with fail
  go_ret
  exact ⟨s, rfl, hs, hF, hor⟩
theorem canon_lt {x : Nat} (hx : x < 18446744073709551616) : canonP x < 18446744073709551616 := by unfold canonP; split; omega; exact hx
theorem canon_canon (x : Nat) : canonP (canonP x) = canonP x := by
  have hn : nanW 9221120237041090561 := by decide +kernel
  unfold canonP
  by_cases h : nanW x
  · rw [if_pos h, if_pos hn]
  · rw [if_neg h, if_neg h]
/-- Two sums of the same two have one key. -/
theorem keys_sum {x y s t : Nat} (hs : s < 18446744073709551616) (ht : t < 18446744073709551616) (h1 : (Ieee.double.add x y = none ∧ nanW s) ∨ Ieee.double.add x y = some s) (h2 : (Ieee.double.add x y = none ∧ nanW t) ∨ Ieee.double.add x y = some t) : key s = key t := by
  rcases h1 with ⟨e1, n1⟩ | e1 <;> rcases h2 with ⟨e2, n2⟩ | e2
  · unfold key; rw [if_pos n1, if_pos n2]
  · rw [e1] at e2; cases e2
  · rw [e1] at e2; cases e2
  · rw [e1] at e2; injection e2 with e; rw [e]
theorem key_canonP {x : Nat} (hx : x < 18446744073709551616) : key (canonP x) = key x := (key_canon (canon_lt hx) hx).1 (canon_canon x)

set_option maxRecDepth 100000 in
theorem lawSums1 (x y : Nat) (w : World) (hx : x < 18446744073709551616) (hy : y < 18446744073709551616) : Calls Try.prog 13 #[.float .f64 x, .float .f64 y] w fun r w' => r = .returned (.bool true) ∧ Fr (fun _ => False) w w' := by
  go_enter Try.func13, Try.ntmps13
  go_wp2_with fail
  refine (real_add x y hx hy w).mono ?_
  rintro r w1 ⟨s, rfl, hs, F1, o1⟩
  go_wp2_with fail
  refine (ref_kind x hx w1).mono ?_
  rintro r w2 ⟨rfl, rfl⟩
  obtain ⟨t, w2, ht, hrun, F2, o2⟩ := add_any x y hx hy w1
  have HK := Lib.hid (keys_sum hs ht o1 o2)
  have HS := Lib.hid hs
  have HT := Lib.hid ht
  have HO := Lib.hid o1
  obtain ⟨k, hk⟩ : ∃ k, kindP x = k := ⟨_, rfl⟩
  have HKX := Lib.hid hk
  rw [hk]
  obtain ⟨wt, hwt, hwl⟩ : ∃ wt : Nat, (wt = if k = 3 then 0 else x) ∧ wt < 18446744073709551616 := ⟨_, rfl, by split <;> omega⟩
  -- the third sum: of the first and +0
  have hwant : ∀ u : Nat, ((Ieee.double.add x 0 = none ∧ nanW u) ∨ Ieee.double.add x 0 = some u) → key u = key wt := by
    intro u hu
    by_cases hn : nanW x
    · have hkx : k = 0 := by rw [← hk]; unfold kindP; rw [if_pos hn]
      rw [hwt, if_neg (by omega)]
      rcases hu with ⟨_, h⟩ | h
      · unfold key; rw [if_pos h, if_pos hn]
      · rw [add_nan (.inl hn)] at h; cases h
    · rw [add_zero8 x hx hn] at hu
      rcases hu with ⟨h, _⟩ | h
      · cases h
      · injection h with h
        rw [← h, hwt]
        by_cases h0 : rank x = 0
        · rw [if_pos h0]
          rcases zero_cases hx h0 with rfl | rfl
          · rw [← hk]; decide +kernel
          · rw [← hk]; decide +kernel
        · rw [if_neg h0]
          have hk3 : k ≠ 3 := by rw [← hk]; unfold kindP; rw [if_neg hn]; (repeat' split) <;> omega
          rw [if_neg hk3]
  have HW := Lib.hid hwant
  have HWL := Lib.hid hwl
  clear o1 o2 hs ht hk hwant
  have hsame1 : decide (key (canonP s) = key t) = true := by rw [decide_eq_true_iff, key_canonP HS.out]; exact HK.out
  by_cases hk3 : k = 3
  · have hw0 : wt = 0 := by rw [hwt, if_pos hk3]
    subst hk3 hw0
    clear hwt hwl
    go_wp2_with fail
    refine (ref_same (canonP s) t w2 (canon_lt HS.out) HT.out).mono ?_
    rintro r w3 ⟨rfl, rfl⟩
    rw [hsame1]
    go_wp2_with fail
    refine (real_add y x hy hx w2).mono ?_
    rintro r w3 ⟨s2, rfl, hs2, F3, o3⟩
    have hsame2 : decide (key (canonP s2) = key (canonP s)) = true := by
      rw [decide_eq_true_iff, key_canonP HS.out, key_canonP hs2]
      rw [add_comm8 y x] at o3
      exact keys_sum hs2 HS.out o3 HO.out
    have HS2 := Lib.hid hs2
    clear hs2 o3
    go_wp2_with fail
    refine (ref_same (canonP s2) (canonP s) w3 (canon_lt HS2.out) (canon_lt HS.out)).mono ?_
    rintro r w4 ⟨rfl, rfl⟩
    rw [hsame2]
    go_wp2_with fail
    refine (real_add x 0 hx (by omega) w3).mono ?_
    rintro r w4 ⟨s3, rfl, hs3, F4, o4⟩
    have hsame3 : decide (key (canonP s3) = key 0) = true := by
      rw [decide_eq_true_iff, key_canonP hs3]; exact HW.out _ o4
    have HS3 := Lib.hid hs3
    clear hs3 o4
    go_wp2_with fail
    refine (ref_same (canonP s3) 0 w4 (canon_lt HS3.out) (by first | omega | assumption)).mono ?_
    rintro r w5 ⟨rfl, rfl⟩
    rw [hsame3]
    go_wp2_with fail
    refine (works01 _).mono ?_
    rintro r w6 ⟨rfl, F6⟩
    go_wp2_with fail
    go_ret
    exact ⟨rfl, F1.trans (F2.trans (F3.trans (F4.trans F6)))⟩
  · have hw0 : x = wt := by rw [hwt, if_neg hk3]
    have hkb : (k == 3) = false := by simp [hk3]
    clear hwt hwl
    subst hw0
    go_wp2_with fail
    refine (ref_same (canonP s) t w2 (canon_lt HS.out) HT.out).mono ?_
    rintro r w3 ⟨rfl, rfl⟩
    rw [hsame1]
    go_wp2_with fail
    refine (real_add y x hy hx w2).mono ?_
    rintro r w3 ⟨s2, rfl, hs2, F3, o3⟩
    have hsame2 : decide (key (canonP s2) = key (canonP s)) = true := by
      rw [decide_eq_true_iff, key_canonP HS.out, key_canonP hs2]
      rw [add_comm8 y x] at o3
      exact keys_sum hs2 HS.out o3 HO.out
    have HS2 := Lib.hid hs2
    clear hs2 o3
    go_wp2_with fail
    refine (ref_same (canonP s2) (canonP s) w3 (canon_lt HS2.out) (canon_lt HS.out)).mono ?_
    rintro r w4 ⟨rfl, rfl⟩
    rw [hsame2]
    go_wp2_with fail
    refine (real_add x 0 hx (by omega) w3).mono ?_
    rintro r w4 ⟨s3, rfl, hs3, F4, o4⟩
    have hsame3 : decide (key (canonP s3) = key x) = true := by
      rw [decide_eq_true_iff, key_canonP hs3]; exact HW.out _ o4
    have HS3 := Lib.hid hs3
    clear hs3 o4
    go_wp2_with fail
    refine (ref_same (canonP s3) x w4 (canon_lt HS3.out) (by first | omega | assumption)).mono ?_
    rintro r w5 ⟨rfl, rfl⟩
    rw [hsame3]
    go_wp2_with fail
    refine (works01 _).mono ?_
    rintro r w6 ⟨rfl, F6⟩
    go_wp2_with fail
    go_ret
    exact ⟨rfl, F1.trans (F2.trans (F3.trans (F4.trans F6)))⟩
end Go.Proofs.Ytlpigldogglmcaa
