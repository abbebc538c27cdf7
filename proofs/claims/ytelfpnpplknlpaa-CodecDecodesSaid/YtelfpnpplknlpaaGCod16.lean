/- Texts of Cod, merged (16 of 27): Bits11. -/
import Derived.Test.YtelfpnpplknlpaaGCod15
import Derived.Test.YtelfpnpplknlpaaWWords
set_option linter.unusedVariables false
set_option linter.unusedSimpArgs false
/- The reference's Bits: a double's bits, by doubling and halving. -/
namespace Go.Proofs.Ytelfpnpplknlpaa
open Go.RowKit
open Go.Proofs.YtelfpnpplknlpaaW.PrintWords

theorem u64_small {z : Int} (h : 0 ≤ z ∧ z < 18446744073709551616) : IntKind.u64.wrap z = z := by
  simp [IntKind.wrap, IntKind.bits, IntKind.signed]
  omega
theorem divF {a b r : Nat} (h : Ieee.double.div a b = some r) (w : World) : (binOp .quo 56 (.float .f64 a) (.float .f64 b)).run Try.prog w = .ok (.float .f64 r) w :=
  run_float_arith w .quo 56 .f64 a b r h
theorem neg_word {x : Nat} (hx : x < 18446744073709551616) (hn : negW x = true) : Op.negFloat .f64 x = rung x := by
  have h1 := rung_neg x
  have h2 := negW_neg x hx
  rw [hn] at h2
  have hlt : Op.negFloat .f64 x < 18446744073709551616 := by
    show x ^^^ 2 ^ 63 < 2 ^ 64
    exact Nat.xor_lt_two_pow (by simpa using hx) (by decide)
  unfold negW at h2
  unfold rung at h1 ⊢
  have h3 : ¬ (Op.negFloat .f64 x / 9223372036854775808 % 2 = 1) := by simpa using h2
  omega
theorem step_le {j c y z : Nat} (h : z = y - j * c) (h2 : c ≤ z) (hj : j * c ≤ y) : (j + 1) * c ≤ y := by rw [Nat.succ_mul]; omega
theorem fin_bits {y z v n i j E : Nat} (hz : z = y - j * 4503599627370496) (hv : v = z + i * 4503599627370496) (hn : n = 4503599627370496 + v % 4503599627370496) (h1 : 4841369599423283200 ≤ v) (h2 : v < 4845873199050653696)
    (hE : (1075 + (j : Int) - (i : Int)) = (E : Int)) (hzy : z ≤ y) (hij : i = 0 ∨ j = 0) : y = E * 4503599627370496 + (n - 4503599627370496) ∧ 4503599627370496 ≤ n := by
  have hvm : v = 1075 * 4503599627370496 + v % 4503599627370496 := by omega
  have hE' : E = 1075 + j - i := by omega
  subst hE'
  generalize v % 4503599627370496 = M at *
  rcases hij with rfl | rfl
  · obtain ⟨t, ht⟩ : ∃ t, t = j * 4503599627370496 := ⟨_, rfl⟩
    rw [← ht] at hz
    rw [show 1075 + j - 0 = 1075 + j from by omega, Nat.add_mul, ← ht]
    omega
  · obtain ⟨t, ht⟩ : ∃ t, t = i * 4503599627370496 := ⟨_, rfl⟩
    rw [← ht] at hv
    rw [Nat.zero_mul] at hz
    rw [show 1075 + 0 - i = 1075 - i from by omega, Nat.sub_mul, ← ht]
    omega
theorem val_pos {E n y : Nat} (h : y = E * 4503599627370496 + (n - 4503599627370496) ∧ 4503599627370496 ≤ n) (hn : n < 9007199254740992) (hE : E < 2047) :
    IntKind.u64.wrap (IntKind.u64.wrap (IntKind.u64.wrap (IntKind.u64.wrap (E : Int) * 4503599627370496)) + IntKind.u64.wrap ((n : Int) - 4503599627370496)) = (y : Int) := by
  obtain ⟨h1, h2⟩ := h
  rw [u64_small (z := (E : Int)) (by omega), u64_small (z := (E : Int) * 4503599627370496) (by omega), u64_small (z := (E : Int) * 4503599627370496) (by omega), u64_small (z := (n : Int) - 4503599627370496) (by omega), u64_small (by omega)]
  omega
theorem val_neg {E n y : Nat} (h : y = E * 4503599627370496 + (n - 4503599627370496) ∧ 4503599627370496 ≤ n) (hn : n < 9007199254740992) (hE : E < 2047) :
    IntKind.u64.wrap (IntKind.u64.wrap (9223372036854775808 + IntKind.u64.wrap (IntKind.u64.wrap (E : Int) * 4503599627370496)) + IntKind.u64.wrap ((n : Int) - 4503599627370496)) = ((9223372036854775808 + y : Nat) : Int) := by
  obtain ⟨h1, h2⟩ := h
  rw [u64_small (z := (E : Int)) (by omega), u64_small (z := (E : Int) * 4503599627370496) (by omega), u64_small (z := 9223372036854775808 + (E : Int) * 4503599627370496) (by omega), u64_small (z := (n : Int) - 4503599627370496) (by omega), u64_small (by omega)]
  omega
theorem cv_u64 {z n : Nat} (h : (Ieee.double.read z).toInt .zero = some (n : Int)) (hn : n < 18446744073709551616) (w : World) : (convert 56 25 (.float .f64 z)).run Try.prog w = .ok (.int .u64 n) w := by
  refine run_convert_float_int w 56 25 .f64 .u64 z n (by rw [Try.underlying56]; rfl) Try.underlying25 ?_
  unfold floatToIntVal
  rw [show FloatKind.f64.decode z = Ieee.double.read z from rfl, h]
  simp only
  rw [if_pos ⟨by show (0 : Int) ≤ _; omega, by show _ ≤ (18446744073709551615 : Int); omega⟩]
theorem ford_c1_ge {y : Nat} (h : 4845873199050653696 ≤ y) (h2 : y < 9218868437227405312) : ford y 4845873199050653696 = some .gt ∨ ford y 4845873199050653696 = some .eq := by
  rcases Nat.eq_or_lt_of_le h with h1 | h1
  · exact .inr (ford_eq (nan_pos (by omega)) (nan_pos (by decide)) (by rw [h1]))
  · exact .inl (ford_gt (nan_pos (by omega)) (nan_pos (by decide)) (by rw [rank_pos (y := y) (by omega), rank_pos (y := 4845873199050653696) (by decide)]; omega))
theorem ford_c1_lt {y : Nat} (h : y < 4845873199050653696) : ford y 4845873199050653696 = some .lt := ford_lt (nan_pos (by omega)) (nan_pos (by decide)) (by rw [rank_pos (y := y) (by omega), rank_pos (y := 4845873199050653696) (by decide)]; omega)
theorem ford_c2_ge {y : Nat} (h : 4841369599423283200 ≤ y) (h2 : y < 9218868437227405312) : ford y 4841369599423283200 = some .gt ∨ ford y 4841369599423283200 = some .eq := by
  rcases Nat.eq_or_lt_of_le h with h1 | h1
  · exact .inr (ford_eq (nan_pos (by omega)) (nan_pos (by decide)) (by rw [h1]))
  · exact .inl (ford_gt (nan_pos (by omega)) (nan_pos (by decide)) (by rw [rank_pos (y := y) (by omega), rank_pos (y := 4841369599423283200) (by decide)]; omega))
theorem ford_c2_lt {y : Nat} (h : y < 4841369599423283200) : ford y 4841369599423283200 = some .lt := ford_lt (nan_pos (by omega)) (nan_pos (by decide)) (by rw [rank_pos (y := y) (by omega), rank_pos (y := 4841369599423283200) (by decide)]; omega)
set_option maxRecDepth 100000 in
set_option maxHeartbeats 4000000 in
theorem ref_bits_pos (x : Nat) (hx : x < 18446744073709551616) (hk : kindP x = 5) (hn : ¬ nanW x) (hs : negW x = false) (h0 : 0 < rung x) (h1 : rung x < 9218868437227405312) (w : World) :
    Calls Try.prog 36 #[.float .f64 x] w fun r w' => r = .returned (.int .u64 x) ∧ w = w' := by
  obtain ⟨y, hy⟩ : ∃ y, y = rung x := ⟨_, rfl⟩
  rw [← hy] at h0 h1
  have hyx : x = 0 + y := by
    unfold negW at hs
    unfold rung at hy
    have : ¬ (x / 9223372036854775808 % 2 = 1) := by simpa using hs
    omega
  have hz : ford x 0 = some .gt := ford_gt hn nan_nil (by rw [rank_nil]; unfold rank; rw [hs, if_neg (by decide), ← hy]; omega)
  skip
  have HX := Lib.hid hyx
  clear hyx hy
  go_enter Try.func36, Try.ntmps36
  go_wp2_with fail
  refine (ref_kind x hx _).mono ?_
  rintro r w1 ⟨rfl, rfl⟩
  rw [hk]
  clear hn hs hk
  go_wp2_with fail
  skip
  go_loop [0, 5] (fun f e => ∃ j : Nat, j * 4503599627370496 ≤ y ∧ f = .float .f64 (y - j * 4503599627370496) ∧ e = .int .i64 (1075 + (j : Int)) ∧ (j = 0 ∨ 4841369599423283200 ≤ y - j * 4503599627370496)) (fun _ e => 4000 - (intOf e).toNat)
  case atStart => exact ⟨0, by omega, by rw [HX.out]; simp, rfl, .inl rfl⟩
  case round =>
    obtain ⟨j, hj, rfl, rfl, hor⟩ := hrel
    have hjb : j ≤ 2047 := by omega
    obtain ⟨z, hzz⟩ : ∃ z, z = y - j * 4503599627370496 := ⟨_, rfl⟩
    rw [← hzz] at hor ⊢
    have HZZ := Lib.hid hzz
    rcases Nat.lt_or_ge z 4845873199050653696 with hlt | hge
    · have f1 := ford_c1_lt hlt
      have HOR := Lib.hid hor
      have hzb : z ≤ y := by omega
      have hz0 : 0 < z := by omega
      clear hor hzz hj
      go_wp2_with fail
      clear f1
      go_loop [0, 5] (fun f e => ∃ (i v : Nat), f = .float .f64 v ∧ e = .int .i64 (1075 + (j : Int) - (i : Int)) ∧ Dbl z i v ∧ (i = 0 ∨ j = 0) ∧ i ≤ 1074 ∧ v < 4845873199050653696) (fun _ e => (intOf e).toNat)
      case atStart => exact ⟨0, z, rfl, by go_num, Dbl.zero z, .inl rfl, by omega, hlt⟩
      case round =>
        obtain ⟨i, v, rfl, rfl, hD, hij, hi, hv⟩ := hrel
        have hv0 := hD.pos hz0
        have HD := Lib.hid hD
        clear hD
        rcases Nat.lt_or_ge v 4841369599423283200 with hl2 | hg2
        · have f2 := ford_c2_lt hl2
          have hj0 : j = 0 := by
            rcases HOR.out with h | h
            · exact h
            · rcases hij with h' | h'
              · have h2 := HD.out.sc
                rw [h', Nat.pow_zero, Nat.mul_one] at h2
                have h3 := scale_le h
                have h4 := scale_mono hl2
                omega
              · exact h'
          subst hj0
          rcases Nat.lt_or_ge i 1074 with hi1 | hi1
          · have te : decide ((1 : Int) < 1075 + ((0 : Nat) : Int) - (i : Int)) = true := decide_eq_true (by omega)
            have te' : decide ((1 : Int) < 1075 - (i : Int)) = true := decide_eq_true (by omega)
            have hm := mulF (mul2 v (by omega) (by rw [rung_pos (by omega)]; exact hv0) (by rw [rung_pos (by omega)]; omega))
            rw [rung_pos (by omega)] at hm
            obtain ⟨u, hu⟩ : ∃ u, u = (if v < 4503599627370496 then v + v else v + 4503599627370496) := ⟨_, rfl⟩
            rw [← hu] at hm
            have hu' : u = (if v < 4503599627370496 then 2 * v else v + 4503599627370496) := by rw [hu]; split <;> omega
            have hub : u < 4845873199050653696 := by rw [hu]; split <;> omega
            have HU := Lib.hid hu'
            clear hu hu'
            go_wp2_with fail
            go_round
            case rel => exact ⟨i + 1, u, rfl, by go_num, by rw [HU.out]; exact HD.out.succ, by simp, by omega, hub⟩
            case measure => simp [intOf]; omega
          · obtain rfl : i = 1074 := by omega
            have te : decide ((1 : Int) < 1075 + ((0 : Nat) : Int) - ((1074 : Nat) : Int)) = false := decide_eq_false (by omega)
            have te' : decide ((1 : Int) < 1075 - 1074) = false := by decide
            have hzl : z < 4503599627370496 := by
              rcases Nat.lt_or_ge z 4503599627370496 with h | h
              · exact h
              · have := HD.out.norm h; omega
            have hcv := cv_u64 (whole_lo (y := z) (z := v) (by rw [k74_is]; exact HD.out) hzl) (by omega)
            have tl : decide ((z : Int) < 4503599627370496) = true := decide_eq_true (by omega)
            have hyz : z = y := by rw [HZZ.out]; omega
            have HYZ := Lib.hid hyz
            clear hzl hyz
            go_wp2_with fail
            go_ret
            exact ⟨ret_int (by rw [HX.out, HYZ.out]; omega), rfl⟩
        · obtain ⟨n, hn⟩ : ∃ n, n = 4503599627370496 + v % 4503599627370496 := ⟨_, rfl⟩
          have hcv := cv_u64 (whole_hi hg2 hv) (by omega)
          rw [← hn] at hcv
          have hvz : v = z + i * 4503599627370496 := by
            rcases Nat.lt_or_ge z 4503599627370496 with h | h
            · have := HD.out.low h hi; omega
            · exact HD.out.norm h
          obtain ⟨E, hE⟩ : ∃ E : Nat, (1075 + (j : Int) - (i : Int)) = (E : Int) := ⟨1075 + j - i, by omega⟩
          have HFIN := Lib.hid (fin_bits HZZ.out hvz hn hg2 hv hE hzb hij)
          have tl : decide (n < 4503599627370496) = false := decide_eq_false (by omega)
          have tl' : decide ((n : Int) < 4503599627370496) = false := decide_eq_false (by omega)
          have hnb : n < 9007199254740992 := by omega
          have HN := Lib.hid hnb
          have hEb : E < 2047 := by have := HFIN.out.1; omega
          have HEB := Lib.hid hEb
          rw [hE]
          clear hn hvz hij hE hnb hEb
          rcases ford_c2_ge hg2 (by omega) with f2 | f2
          · go_wp2_with fail
            go_ret
            exact ⟨ret_int (by rw [HX.out]; rw [Nat.zero_add]; exact val_pos HFIN.out HN.out HEB.out), rfl⟩
          · go_wp2_with fail
            go_ret
            exact ⟨ret_int (by rw [HX.out]; rw [Nat.zero_add]; exact val_pos HFIN.out HN.out HEB.out), rfl⟩
    · have hd := divF (div2 z (by omega) (by rw [rung_pos (by omega)]; omega) (by rw [rung_pos (by omega)]; omega))
      have hz2 : z - 4503599627370496 = y - (j + 1) * 4503599627370496 := by rw [hzz]; omega
      rw [hz2] at hd
      have hzb : z ≤ y := by omega
      have HJ1 := Lib.hid (step_le hzz (by omega) hj)
      have HLO := Lib.hid (show 4841369599423283200 ≤ y - (j + 1) * 4503599627370496 from by rw [← hz2]; omega)
      clear hz2 hzz hor
      rcases ford_c1_ge hge (by omega) with f1 | f1
      · go_wp2_with fail
        go_round
        case rel => exact ⟨j + 1, HJ1.out, rfl, by go_num, .inr HLO.out⟩
        case measure => simp [intOf]; omega
      · go_wp2_with fail
        go_round
        case rel => exact ⟨j + 1, HJ1.out, rfl, by go_num, .inr HLO.out⟩
        case measure => simp [intOf]; omega
set_option maxRecDepth 100000 in
set_option maxHeartbeats 4000000 in
theorem ref_bits_neg (x : Nat) (hx : x < 18446744073709551616) (hk : kindP x = 2) (hn : ¬ nanW x) (hs : negW x = true) (h0 : 0 < rung x) (h1 : rung x < 9218868437227405312) (w : World) :
    Calls Try.prog 36 #[.float .f64 x] w fun r w' => r = .returned (.int .u64 x) ∧ w = w' := by
  obtain ⟨y, hy⟩ : ∃ y, y = rung x := ⟨_, rfl⟩
  rw [← hy] at h0 h1
  have hyx : x = 9223372036854775808 + y := by
    unfold negW at hs
    unfold rung at hy
    have : x / 9223372036854775808 % 2 = 1 := by simpa using hs
    omega
  have hz : ford x 0 = some .lt := ford_lt hn nan_nil (by rw [rank_nil]; unfold rank; rw [hs, if_pos rfl, ← hy]; omega)
  have hun := un_neg x
  rw [show Op.negFloat .f64 x = y from by rw [neg_word hx hs, hy]] at hun
  have HX := Lib.hid hyx
  clear hyx hy
  go_enter Try.func36, Try.ntmps36
  go_wp2_with fail
  refine (ref_kind x hx _).mono ?_
  rintro r w1 ⟨rfl, rfl⟩
  rw [hk]
  clear hn hs hk
  go_wp2_with fail
  skip
  go_loop [0, 5] (fun f e => ∃ j : Nat, j * 4503599627370496 ≤ y ∧ f = .float .f64 (y - j * 4503599627370496) ∧ e = .int .i64 (1075 + (j : Int)) ∧ (j = 0 ∨ 4841369599423283200 ≤ y - j * 4503599627370496)) (fun _ e => 4000 - (intOf e).toNat)
  case atStart => exact ⟨0, by omega, by simp, rfl, .inl rfl⟩
  case round =>
    obtain ⟨j, hj, rfl, rfl, hor⟩ := hrel
    have hjb : j ≤ 2047 := by omega
    obtain ⟨z, hzz⟩ : ∃ z, z = y - j * 4503599627370496 := ⟨_, rfl⟩
    rw [← hzz] at hor ⊢
    have HZZ := Lib.hid hzz
    rcases Nat.lt_or_ge z 4845873199050653696 with hlt | hge
    · have f1 := ford_c1_lt hlt
      have HOR := Lib.hid hor
      have hzb : z ≤ y := by omega
      have hz0 : 0 < z := by omega
      clear hor hzz hj
      go_wp2_with fail
      clear f1
      go_loop [0, 5] (fun f e => ∃ (i v : Nat), f = .float .f64 v ∧ e = .int .i64 (1075 + (j : Int) - (i : Int)) ∧ Dbl z i v ∧ (i = 0 ∨ j = 0) ∧ i ≤ 1074 ∧ v < 4845873199050653696) (fun _ e => (intOf e).toNat)
      case atStart => exact ⟨0, z, rfl, by go_num, Dbl.zero z, .inl rfl, by omega, hlt⟩
      case round =>
        obtain ⟨i, v, rfl, rfl, hD, hij, hi, hv⟩ := hrel
        have hv0 := hD.pos hz0
        have HD := Lib.hid hD
        clear hD
        rcases Nat.lt_or_ge v 4841369599423283200 with hl2 | hg2
        · have f2 := ford_c2_lt hl2
          have hj0 : j = 0 := by
            rcases HOR.out with h | h
            · exact h
            · rcases hij with h' | h'
              · have h2 := HD.out.sc
                rw [h', Nat.pow_zero, Nat.mul_one] at h2
                have h3 := scale_le h
                have h4 := scale_mono hl2
                omega
              · exact h'
          subst hj0
          rcases Nat.lt_or_ge i 1074 with hi1 | hi1
          · have te : decide ((1 : Int) < 1075 + ((0 : Nat) : Int) - (i : Int)) = true := decide_eq_true (by omega)
            have te' : decide ((1 : Int) < 1075 - (i : Int)) = true := decide_eq_true (by omega)
            have hm := mulF (mul2 v (by omega) (by rw [rung_pos (by omega)]; exact hv0) (by rw [rung_pos (by omega)]; omega))
            rw [rung_pos (by omega)] at hm
            obtain ⟨u, hu⟩ : ∃ u, u = (if v < 4503599627370496 then v + v else v + 4503599627370496) := ⟨_, rfl⟩
            rw [← hu] at hm
            have hu' : u = (if v < 4503599627370496 then 2 * v else v + 4503599627370496) := by rw [hu]; split <;> omega
            have hub : u < 4845873199050653696 := by rw [hu]; split <;> omega
            have HU := Lib.hid hu'
            clear hu hu'
            go_wp2_with fail
            go_round
            case rel => exact ⟨i + 1, u, rfl, by go_num, by rw [HU.out]; exact HD.out.succ, by simp, by omega, hub⟩
            case measure => simp [intOf]; omega
          · obtain rfl : i = 1074 := by omega
            have te : decide ((1 : Int) < 1075 + ((0 : Nat) : Int) - ((1074 : Nat) : Int)) = false := decide_eq_false (by omega)
            have te' : decide ((1 : Int) < 1075 - 1074) = false := by decide
            have hzl : z < 4503599627370496 := by
              rcases Nat.lt_or_ge z 4503599627370496 with h | h
              · exact h
              · have := HD.out.norm h; omega
            have hcv := cv_u64 (whole_lo (y := z) (z := v) (by rw [k74_is]; exact HD.out) hzl) (by omega)
            have tl : decide ((z : Int) < 4503599627370496) = true := decide_eq_true (by omega)
            have hyz : z = y := by rw [HZZ.out]; omega
            have HYZ := Lib.hid hyz
            clear hzl hyz
            go_wp2_with fail
            go_ret
            exact ⟨ret_int (by rw [HX.out, HYZ.out]; omega), rfl⟩
        · obtain ⟨n, hn⟩ : ∃ n, n = 4503599627370496 + v % 4503599627370496 := ⟨_, rfl⟩
          have hcv := cv_u64 (whole_hi hg2 hv) (by omega)
          rw [← hn] at hcv
          have hvz : v = z + i * 4503599627370496 := by
            rcases Nat.lt_or_ge z 4503599627370496 with h | h
            · have := HD.out.low h hi; omega
            · exact HD.out.norm h
          obtain ⟨E, hE⟩ : ∃ E : Nat, (1075 + (j : Int) - (i : Int)) = (E : Int) := ⟨1075 + j - i, by omega⟩
          have HFIN := Lib.hid (fin_bits HZZ.out hvz hn hg2 hv hE hzb hij)
          have tl : decide (n < 4503599627370496) = false := decide_eq_false (by omega)
          have tl' : decide ((n : Int) < 4503599627370496) = false := decide_eq_false (by omega)
          have hnb : n < 9007199254740992 := by omega
          have HN := Lib.hid hnb
          have hEb : E < 2047 := by have := HFIN.out.1; omega
          have HEB := Lib.hid hEb
          rw [hE]
          clear hn hvz hij hE hnb hEb
          rcases ford_c2_ge hg2 (by omega) with f2 | f2
          · go_wp2_with fail
            go_ret
            exact ⟨ret_int (by rw [HX.out]; exact val_neg HFIN.out HN.out HEB.out), rfl⟩
          · go_wp2_with fail
            go_ret
            exact ⟨ret_int (by rw [HX.out]; exact val_neg HFIN.out HN.out HEB.out), rfl⟩
    · have hd := divF (div2 z (by omega) (by rw [rung_pos (by omega)]; omega) (by rw [rung_pos (by omega)]; omega))
      have hz2 : z - 4503599627370496 = y - (j + 1) * 4503599627370496 := by rw [hzz]; omega
      rw [hz2] at hd
      have hzb : z ≤ y := by omega
      have HJ1 := Lib.hid (step_le hzz (by omega) hj)
      have HLO := Lib.hid (show 4841369599423283200 ≤ y - (j + 1) * 4503599627370496 from by rw [← hz2]; omega)
      clear hz2 hzz hor
      rcases ford_c1_ge hge (by omega) with f1 | f1
      · go_wp2_with fail
        go_round
        case rel => exact ⟨j + 1, HJ1.out, rfl, by go_num, .inr HLO.out⟩
        case measure => simp [intOf]; omega
      · go_wp2_with fail
        go_round
        case rel => exact ⟨j + 1, HJ1.out, rfl, by go_num, .inr HLO.out⟩
        case measure => simp [intOf]; omega
theorem bits_cases (x : Nat) (hx : x < 18446744073709551616) : nanW x ∨ x = 18442240474082181120 ∨ x = 9218868437227405312 ∨ x = 9223372036854775808 ∨ x = 0 ∨ (¬ nanW x ∧ 0 < rung x ∧ rung x < 9218868437227405312) := by
  by_cases hn : nanW x
  · exact .inl hn
  · have h1 : rung x ≤ 9218868437227405312 := by unfold nanW at hn; omega
    by_cases h0 : rung x = 0
    · unfold rung at h0
      rcases Nat.lt_or_ge x 9223372036854775808 with h | h
      · exact .inr (.inr (.inr (.inr (.inl (by omega)))))
      · exact .inr (.inr (.inr (.inl (by omega))))
    · by_cases hi : rung x = 9218868437227405312
      · unfold rung at hi
        rcases Nat.lt_or_ge x 9223372036854775808 with h | h
        · exact .inr (.inr (.inl (by omega)))
        · exact .inr (.inl (by omega))
      · exact .inr (.inr (.inr (.inr (.inr ⟨hn, by omega, by omega⟩))))
set_option maxRecDepth 100000 in
theorem ref_bits11 (x : Nat) (hx : x < 18446744073709551616) (w : World) : Calls Try.prog 36 #[.float .f64 x] w fun r w' => r = .returned (.int .u64 (canonP x)) ∧ w = w' := by
  rcases bits_cases x hx with h | h | h | h | h | ⟨hn, h0, h1⟩
  · have hk : kindP x = 0 := if_pos h
    rw [canon_nan h]
    go_enter Try.func36, Try.ntmps36
    go_wp2_with fail
    refine (ref_kind _ hx _).mono ?_
    rintro r w1 ⟨rfl, rfl⟩
    rw [hk]
    clear hk hx
    go_wp2_with fail
    go_ret
    exact ⟨rfl, rfl⟩
  · subst h; have hk : kindP 18442240474082181120 = 1 := by decide +kernel
    rw [canon_not (by decide +kernel)]
    go_enter Try.func36, Try.ntmps36
    go_wp2_with fail
    refine (ref_kind _ hx _).mono ?_
    rintro r w1 ⟨rfl, rfl⟩
    rw [hk]
    clear hk hx
    go_wp2_with fail
    go_ret
    exact ⟨rfl, rfl⟩
  · subst h; have hk : kindP 9218868437227405312 = 6 := by decide +kernel
    rw [canon_not (by decide +kernel)]
    go_enter Try.func36, Try.ntmps36
    go_wp2_with fail
    refine (ref_kind _ hx _).mono ?_
    rintro r w1 ⟨rfl, rfl⟩
    rw [hk]
    clear hk hx
    go_wp2_with fail
    go_ret
    exact ⟨rfl, rfl⟩
  · subst h; have hk : kindP 9223372036854775808 = 3 := by decide +kernel
    rw [canon_not (by decide +kernel)]
    go_enter Try.func36, Try.ntmps36
    go_wp2_with fail
    refine (ref_kind _ hx _).mono ?_
    rintro r w1 ⟨rfl, rfl⟩
    rw [hk]
    clear hk hx
    go_wp2_with fail
    go_ret
    exact ⟨rfl, rfl⟩
  · subst h; have hk : kindP 0 = 4 := by decide +kernel
    rw [canon_not (by decide +kernel)]
    go_enter Try.func36, Try.ntmps36
    go_wp2_with fail
    refine (ref_kind _ hx _).mono ?_
    rintro r w1 ⟨rfl, rfl⟩
    rw [hk]
    clear hk hx
    go_wp2_with fail
    go_ret
    exact ⟨rfl, rfl⟩
  · rw [canon_not hn]
    cases hs : negW x
    · exact ref_bits_pos x hx (by unfold kindP rank; rw [if_neg hn, hs]; simp only [if_false, Bool.false_eq_true]; rw [if_neg (by omega), if_neg (by omega), if_neg (by omega), if_neg (by omega)]) hn hs h0 h1 w
    · exact ref_bits_neg x hx (by unfold kindP rank; rw [if_neg hn, hs]; simp only [if_true]; rw [if_neg (by omega), if_pos (by omega)]) hn hs h0 h1 w
end Go.Proofs.Ytelfpnpplknlpaa
