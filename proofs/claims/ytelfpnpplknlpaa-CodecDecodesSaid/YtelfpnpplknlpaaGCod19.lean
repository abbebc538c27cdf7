/- Texts of Cod, merged (19 of 27): NumW. -/
import Derived.Test.YtelfpnpplknlpaaGCod18
import Derived.Test.YtelfpnpplknlpaaGCod16
import Derived.Laws.Cover2
set_option linter.unusedVariables false
set_option linter.unusedSimpArgs false
/- The reference's Number: a double out of its bits. -/
namespace Go.Proofs.Ytelfpnpplknlpaa
open Go.RowKit
open Go.Proofs.YtelfpnpplknlpaaW.PrintWords

theorem plusF {a b r : Nat} (h : Ieee.double.add a b = some r) (w : World) : (binOp .add 56 (.float .f64 a) (.float .f64 b)).run Try.prog w = .ok (.float .f64 r) w :=
  run_float_arith w .add 56 .f64 a b r h
theorem timesF {a b r : Nat} (h : Ieee.double.mul a b = some r) (w : World) : (binOp .mul 56 (.float .f64 a) (.float .f64 b)).run Try.prog w = .ok (.float .f64 r) w :=
  run_float_arith w .mul 56 .f64 a b r h
theorem nan_quo (w : World) : ∃ r, nanW r ∧ r < 18446744073709551616 ∧ (binOp .quo 56 (.float .f64 0) (.float .f64 0)).run Try.prog w = .ok (.float .f64 r) w.drew := by
  have h' : FloatKind.f64.format.div 0 0 = none := by decide +kernel
  refine ⟨_, (nan_cut 0 0 (w.tape w.drawn (.nanBits .f64 0 0))).1, (nan_cut 0 0 (w.tape w.drawn (.nanBits .f64 0 0))).2, ?_⟩
  simp [binOp, Op.floatArith, h', Question.forced]
/-- What the reference's Number ends in. -/
def NumEnd (w : World) (b : Nat) (r : Ending) (w' : World) : Prop := ∃ f, r = .returned (.tuple #[.float .f64 f, .bool (decide (canonP b = b))]) ∧ f < 18446744073709551616 ∧ canonP f = canonP b ∧ Fr (fun _ => False) w w'
theorem NumEnd.self {w : World} {b : Nat} {t : Bool} (hb : b < 18446744073709551616) (hc : canonP b = b) (ht : t = true) : NumEnd w b (.returned (.tuple #[.float .f64 b, .bool t])) w := ⟨b, by rw [ht, decide_eq_true hc], hb, rfl, Fr.refl _ _⟩
theorem fl_of {n z : Nat} (h : Ieee.double.nearest false n 0 = z) : floatOfInt .f64 (n : Int) = z := by
  rw [← h]
  show Ieee.double.nearest (decide ((n : Int) < 0)) (n : Int).natAbs 0 = _
  rw [show decide ((n : Int) < 0) = false from decide_eq_false (by omega), Int.natAbs_natCast]
theorem canon_fin {s : Bool} {y b : Nat} (hb : b = Ieee.double.word s y) (hy : y ≤ 9218868437227405312) : canonP b = b := by
  obtain ⟨h1, h2, h3⟩ := word_facts s y (by omega)
  refine canon_not ?_
  unfold nanW
  rw [hb, h3]
  omega
set_option maxRecDepth 100000 in
set_option maxHeartbeats 2000000 in
theorem ref_num_false (b E n : Nat) (hb : b < 18446744073709551616) (hs : b / 9223372036854775808 = 0) (hE : b / 4503599627370496 % 2048 = E) (hn : b % 4503599627370496 = n) (w : World) :
    Calls Try.prog 60 #[.int .u64 (b : Int)] w (NumEnd w b) := by
  have e1 : ((b : Int) / 9223372036854775808 == 1) = false := by
    have : (b : Int) / 9223372036854775808 = ((0 : Nat) : Int) := by omega
    rw [this]; rfl
  have e2 : (b : Int) / 4503599627370496 % 2048 = (E : Int) := by omega
  have e3 : (b : Int) % 4503599627370496 = (n : Int) := by omega
  have hE2 : E < 2048 := by omega
  have hn2 : n < 4503599627370496 := by omega
  have HB := Lib.hid hb
  have HW := Lib.hid (show b = Ieee.double.word false (E * 4503599627370496 + n) from by rw [word_pos]; omega)
  clear hs hE hn
  rcases Nat.lt_or_ge E 2047 with hlt | hge
  · obtain ⟨z, hz, hzl, hzs⟩ := whole_dbl n hn2
    have hfl := fl_of hz
    have t0 : ((E : Int) == 2047) = false := by simp; omega
    have HCF := Lib.hid (canon_fin HW.out (by omega))
    rcases Nat.eq_zero_or_pos E with hE0 | hE0
    · subst hE0
      rw [Nat.zero_mul, Nat.zero_add] at HW
      have HZS := Lib.hid (whole_dbls hn2 hzs)
      clear t0
      rcases Nat.eq_zero_or_pos n with hn0 | hn0
      · subst hn0
        obtain rfl : z = 0 := by rw [← hz]; decide +kernel
        have d0 := divF (show Ieee.double.div 0 4611686018427387904 = some 0 from by decide +kernel)
        replace hfl : floatOfInt .f64 (0 : Int) = 0 := hfl
        replace e2 : (b : Int) / 4503599627370496 % 2048 = 0 := e2
        replace e3 : (b : Int) % 4503599627370496 = 0 := e3
        clear hz hzl hzs
        go_enter Try.func60, Try.ntmps60
        go_wp2_with fail
        go_loop [6, 8] (fun e f => e = .int .i64 1 ∧ f = .float .f64 0) (fun _ _ => 0)
        case atStart => exact ⟨rfl, rfl⟩
        case round =>
          obtain ⟨rfl, rfl⟩ := hrel
          go_wp2_with fail
          go_loop [6, 8] (fun e f => ∃ i : Nat, i ≤ 1074 ∧ e = .int .i64 (1 + (i : Int)) ∧ f = .float .f64 0) (fun e _ => 1075 - (intOf e).toNat)
          case atStart => exact ⟨0, by omega, rfl, rfl⟩
          case round =>
            obtain ⟨i, hi, rfl, rfl⟩ := hrel
            rcases Nat.lt_or_ge i 1074 with h1 | h1
            · have te : decide (1 + (i : Int) < 1075) = true := decide_eq_true (by omega)
              go_wp2_with fail
              go_round
              case rel => exact ⟨i + 1, by omega, by go_num, rfl⟩
              case measure => simp [intOf]; omega
            · obtain rfl : i = 1074 := by omega
              have te : decide (1 + ((1074 : Nat) : Int) < 1075) = false := by decide
              have f0 : ford 0 0 = some .eq := by decide +kernel
              have f1 : ford 4607182418800017408 0 = some .gt := by decide +kernel
              have q1 := timesF (show Ieee.double.mul 4607182418800017408 0 = some 0 from by decide +kernel)
              obtain rfl : b = 0 := by rw [HW.out]; decide +kernel
              go_wp2_with fail
              go_ret2
              exact NumEnd.self HB.out HCF.out rfl
      · obtain ⟨D, hD⟩ : ∃ D : Nat → Nat, D = dbls n := ⟨_, rfl⟩
        have HZD : z = D 1074 := by rw [hD]; exact HZS.out
        have HDH := Lib.hid (show ∀ k, k < 1074 → Ieee.double.div (D (k + 1)) 4611686018427387904 = some (D k) from fun k hk => by rw [hD]; exact dbls_half hn0 hn2 hk)
        have HD0 := Lib.hid (show D 0 = n from by rw [hD]; rfl)
        have HN0 := Lib.hid hn0
        replace e2 : (b : Int) / 4503599627370496 % 2048 = 0 := e2
        clear hD HZS
        have HZE := Lib.hid HZD
        clear hz hzl hzs HZD
        go_enter Try.func60, Try.ntmps60
        go_wp2_with fail
        go_loop [6, 8] (fun e f => e = .int .i64 1 ∧ f = .float .f64 z) (fun _ _ => 0)
        case atStart => exact ⟨rfl, rfl⟩
        case round =>
          obtain ⟨rfl, rfl⟩ := hrel
          go_wp2_with fail
          go_loop [6, 8] (fun e f => ∃ i : Nat, i ≤ 1074 ∧ e = .int .i64 (1 + (i : Int)) ∧ f = .float .f64 (D (1074 - i))) (fun e _ => 1075 - (intOf e).toNat)
          case atStart => exact ⟨0, by omega, rfl, by rw [HZE.out]⟩
          case round =>
            obtain ⟨i, hi, rfl, rfl⟩ := hrel
            rcases Nat.lt_or_ge i 1074 with h1 | h1
            · have te : decide (1 + (i : Int) < 1075) = true := decide_eq_true (by omega)
              obtain ⟨k, hk⟩ : ∃ k, k = 1074 - (i + 1) := ⟨_, rfl⟩
              have hd := divF (HDH.out k (by omega))
              rw [show 1074 - i = k + 1 from by omega]
              obtain ⟨d1, hd1⟩ : ∃ d, d = D (k + 1) := ⟨_, rfl⟩
              obtain ⟨d2, hd2⟩ : ∃ d, d = D k := ⟨_, rfl⟩
              rw [← hd1, ← hd2] at hd
              rw [← hd1]
              have HD2 := Lib.hid hd2
              have HK := Lib.hid hk
              clear hd1 hd2 hk
              go_wp2_with fail
              go_round
              case rel => exact ⟨i + 1, by omega, by go_num, by rw [HD2.out, HK.out]⟩
              case measure => simp [intOf]; omega
            · obtain rfl : i = 1074 := by omega
              have te : decide (1 + ((1074 : Nat) : Int) < 1075) = false := by decide
              rw [show D (1074 - 1074) = n from HD0.out]
              have f0 : ford n 0 = some .gt := ford_gt (nan_pos (by omega)) (nan_pos (by decide)) (by rw [rank_pos (y := n) (by omega), rank_pos (y := 0) (by decide)]; omega)
              have hm := timesF (mul1 false n hn0 (by omega))
              rw [← HW.out] at hm
              simp only [if_true, Bool.false_eq_true, if_false] at hm
              go_wp2_with fail
              go_ret2
              exact NumEnd.self HB.out HCF.out rfl
    · have t1 : decide ((0 : Int) < (E : Int)) = true := decide_eq_true (by omega)
      have t1' : decide (0 < E) = true := decide_eq_true hE0
      have ha := plusF (add_c52 n z hn2 hzl hzs)
      clear hz hzl hzs
      obtain ⟨y0, hy0⟩ : ∃ y, y = 4841369599423283200 + n := ⟨_, rfl⟩
      rw [← hy0] at ha
      go_enter Try.func60, Try.ntmps60
      have HY0 := Lib.hid hy0
      clear hy0
      go_wp2_with fail
      go_loop [6, 8] (fun e f => ∃ j : Nat, j ≤ E ∧ e = .int .i64 ((E : Int) - (j : Int)) ∧ f = .float .f64 (y0 + j * 4503599627370496) ∧ (j = 0 ∨ 1075 + j ≤ E)) (fun e _ => (intOf e).toNat)
      case atStart => exact ⟨0, by omega, by simpa using e2, by simp, .inl rfl⟩
      case round =>
        obtain ⟨j, hj, rfl, rfl, hor⟩ := hrel
        obtain ⟨x, hx⟩ : ∃ x, x = y0 + j * 4503599627370496 := ⟨_, rfl⟩
        obtain ⟨e, he⟩ : ∃ e : Nat, e = E - j := ⟨_, rfl⟩
        rw [← hx, show (E : Int) - (j : Int) = (e : Int) from by omega]
        have hxv : x = (1075 + j) * 4503599627370496 + n := by rw [hx, HY0.out, Nat.add_mul]; omega
        have HX := Lib.hid hx
        have HE := Lib.hid he
        have heb : (e : Int) ≤ 2047 := by omega
        rcases Nat.lt_or_ge 1075 e with h1 | h1
        · have te : decide ((1075 : Int) < (e : Int)) = true := decide_eq_true (by omega)
          have te' : decide (1075 < e) = true := decide_eq_true h1
          have hxb : x < 2046 * 4503599627370496 := by rw [hxv]; omega
          have hxp : 4503599627370496 ≤ x := by rw [hxv]; omega
          have hm := timesF (mul2 x (by omega) (by rw [rung_pos (by omega)]; omega) (by rw [rung_pos (by omega)]; omega))
          rw [rung_pos (by omega), if_neg (by omega)] at hm
          obtain ⟨x2, hx2⟩ : ∃ x2, x2 = x + 4503599627370496 := ⟨_, rfl⟩
          rw [← hx2] at hm
          have HX2 := Lib.hid (show x2 = y0 + (j + 1) * 4503599627370496 from by rw [hx2, hx, Nat.add_mul]; omega)
          have HJ := Lib.hid (show j + 1 ≤ E ∧ 1075 + (j + 1) ≤ E from by omega)
          clear hx hxv hxb hxp hx2 he hor
          go_wp2_with fail
          go_round
          case rel => exact ⟨j + 1, HJ.out.1, by have := HJ.out; have := HE.out; go_num, by rw [HX2.out], .inr HJ.out.2⟩
          case measure => simp [intOf]; omega
        · have te : decide ((1075 : Int) < (e : Int)) = false := decide_eq_false (by omega)
          have te' : decide (1075 < e) = false := decide_eq_false (by omega)
          have HO := Lib.hid (show (j = 0 ∧ e = E) ∨ (e = 1075 ∧ E = 1075 + j) from by omega)
          have HXV := Lib.hid hxv
          have he1 : 1 ≤ e := by omega
          clear hx hxv he hor
          go_wp2_with fail
          clear te te'
          go_loop [6, 8] (fun e' f => ∃ i : Nat, e' = .int .i64 ((e : Int) + (i : Int)) ∧ e + i ≤ 1075 ∧ f = .float .f64 (x - i * 4503599627370496)) (fun e' _ => 1075 - (intOf e').toNat)
          case atStart => exact ⟨0, by simp, by omega, by simp⟩
          case round =>
            obtain ⟨i, rfl, hi, rfl⟩ := hrel
            obtain ⟨v, hv⟩ : ∃ v, v = x - i * 4503599627370496 := ⟨_, rfl⟩
            rw [← hv]
            have hvv : i ≤ 1075 + j ∧ v = (1075 + j - i) * 4503599627370496 + n := by
              refine ⟨by omega, ?_⟩
              rw [hv, HXV.out, Nat.sub_mul]
              have : i * 4503599627370496 ≤ (1075 + j) * 4503599627370496 := Nat.mul_le_mul_right _ (by omega)
              omega
            have HV := Lib.hid hv
            rcases Nat.lt_or_ge (e + i) 1075 with h2 | h2
            · have te : decide ((e : Int) + (i : Int) < 1075) = true := decide_eq_true (by omega)
              have te' : decide (e + i < 1075) = true := decide_eq_true h2
              have hj0 : j = 0 := by have := HO.out; omega
              have hvb : 2 * 4503599627370496 ≤ v ∧ v < 2047 * 4503599627370496 := by rw [hvv.2, hj0]; omega
              have hd := divF (div2 v (by omega) (by rw [rung_pos (by omega)]; omega) (by rw [rung_pos (by omega)]; omega))
              obtain ⟨v2, hv2⟩ : ∃ v2, v2 = v - 4503599627370496 := ⟨_, rfl⟩
              rw [← hv2] at hd
              have HV2 := Lib.hid (show v2 = x - (i + 1) * 4503599627370496 from by rw [hv2, hv, Nat.add_mul]; omega)
              clear hv hvv hvb hv2
              go_wp2_with fail
              go_round
              case rel => exact ⟨i + 1, by go_num, by omega, by rw [HV2.out]⟩
              case measure => simp [intOf]; omega
            · have te : decide ((e : Int) + (i : Int) < 1075) = false := decide_eq_false (by omega)
              have te' : decide (e + i < 1075) = false := decide_eq_false (by omega)
              have hve : v = E * 4503599627370496 + n := by
                rw [hvv.2, show 1075 + j - i = E from by have := HO.out; omega]
              have f0 : ford v 0 = some .gt := ford_gt (nan_pos (by omega)) (nan_pos (by decide)) (by rw [rank_pos (y := v) (by omega), rank_pos (y := 0) (by decide)]; omega)
              have hm := timesF (mul1 false v (by omega) (by omega))
              rw [hve, ← HW.out, ← hve] at hm
              simp only [if_true, Bool.false_eq_true, if_false] at hm
              clear hv hvv hve
              go_wp2_with fail
              go_ret2
              exact NumEnd.self HB.out HCF.out rfl
  · obtain rfl : E = 2047 := by omega
    have hfl : True := trivial
    rcases Nat.eq_zero_or_pos n with hn0 | hn0
    · subst hn0
      have t1 : (((0 : Nat) : Int) == 0) = true := rfl
      have hq := divF (show Ieee.double.div 4607182418800017408 0 = some 9218868437227405312 from by decide +kernel)
      have hbb : b = 9218868437227405312 := by rw [HW.out]; decide +kernel
      have HCF := Lib.hid (show canonP b = b from by rw [hbb]; decide +kernel)
      subst hbb
      go_enter Try.func60, Try.ntmps60
      go_wp2_with fail
      go_ret2
      exact NumEnd.self HB.out HCF.out rfl
    · have t1 : ((n : Int) == 0) = false := by simp; omega
      obtain ⟨g, hg⟩ : ∃ g : World → Nat, ∀ w, nanW (g w) ∧ g w < 18446744073709551616 ∧ (binOp .quo 56 (.float .f64 0) (.float .f64 0)).run Try.prog w = .ok (.float .f64 (g w)) w.drew := ⟨fun w => (nan_quo w).choose, fun w => (nan_quo w).choose_spec⟩
      have hq := fun w => (hg w).2.2
      have HG := Lib.hid (fun w => And.intro (hg w).1 (hg w).2.1)
      have hnb : nanW b := by
        obtain ⟨h1, h2, h3⟩ := word_facts false (2047 * 4503599627370496 + n) (by omega)
        unfold nanW
        rw [HW.out, h3]
        omega
      have HC := Lib.hid (canon_nan hnb)
      have HT := Lib.hid (show ((b : Int) == 9221120237041090561) = decide (canonP b = b) from by
        rw [HC.out, Bool.eq_iff_iff]
        simp
        omega)
      clear hg hnb
      go_enter Try.func60, Try.ntmps60
      go_wp2_with fail
      go_ret2
      exact ⟨_, by rw [← HT.out]; rfl, (HG.out _).2, by rw [HC.out]; exact canon_nan (HG.out _).1, (Fr.refl _ _).drew⟩
set_option maxRecDepth 100000 in
set_option maxHeartbeats 2000000 in
theorem ref_num_true (b E n : Nat) (hb : b < 18446744073709551616) (hs : b / 9223372036854775808 = 1) (hE : b / 4503599627370496 % 2048 = E) (hn : b % 4503599627370496 = n) (w : World) :
    Calls Try.prog 60 #[.int .u64 (b : Int)] w (NumEnd w b) := by
  have e1 : ((b : Int) / 9223372036854775808 == 1) = true := by
    have : (b : Int) / 9223372036854775808 = ((1 : Nat) : Int) := by omega
    rw [this]; rfl
  have e2 : (b : Int) / 4503599627370496 % 2048 = (E : Int) := by omega
  have e3 : (b : Int) % 4503599627370496 = (n : Int) := by omega
  have hE2 : E < 2048 := by omega
  have hn2 : n < 4503599627370496 := by omega
  have HB := Lib.hid hb
  have HW := Lib.hid (show b = Ieee.double.word true (E * 4503599627370496 + n) from by rw [word_neg]; omega)
  clear hs hE hn
  rcases Nat.lt_or_ge E 2047 with hlt | hge
  · obtain ⟨z, hz, hzl, hzs⟩ := whole_dbl n hn2
    have hfl := fl_of hz
    have t0 : ((E : Int) == 2047) = false := by simp; omega
    have HCF := Lib.hid (canon_fin HW.out (by omega))
    rcases Nat.eq_zero_or_pos E with hE0 | hE0
    · subst hE0
      rw [Nat.zero_mul, Nat.zero_add] at HW
      have HZS := Lib.hid (whole_dbls hn2 hzs)
      clear t0
      rcases Nat.eq_zero_or_pos n with hn0 | hn0
      · subst hn0
        obtain rfl : z = 0 := by rw [← hz]; decide +kernel
        have d0 := divF (show Ieee.double.div 0 4611686018427387904 = some 0 from by decide +kernel)
        replace hfl : floatOfInt .f64 (0 : Int) = 0 := hfl
        replace e2 : (b : Int) / 4503599627370496 % 2048 = 0 := e2
        replace e3 : (b : Int) % 4503599627370496 = 0 := e3
        clear hz hzl hzs
        go_enter Try.func60, Try.ntmps60
        go_wp2_with fail
        go_loop [6, 8] (fun e f => e = .int .i64 1 ∧ f = .float .f64 0) (fun _ _ => 0)
        case atStart => exact ⟨rfl, rfl⟩
        case round =>
          obtain ⟨rfl, rfl⟩ := hrel
          go_wp2_with fail
          go_loop [6, 8] (fun e f => ∃ i : Nat, i ≤ 1074 ∧ e = .int .i64 (1 + (i : Int)) ∧ f = .float .f64 0) (fun e _ => 1075 - (intOf e).toNat)
          case atStart => exact ⟨0, by omega, rfl, rfl⟩
          case round =>
            obtain ⟨i, hi, rfl, rfl⟩ := hrel
            rcases Nat.lt_or_ge i 1074 with h1 | h1
            · have te : decide (1 + (i : Int) < 1075) = true := decide_eq_true (by omega)
              go_wp2_with fail
              go_round
              case rel => exact ⟨i + 1, by omega, by go_num, rfl⟩
              case measure => simp [intOf]; omega
            · obtain rfl : i = 1074 := by omega
              have te : decide (1 + ((1074 : Nat) : Int) < 1075) = false := by decide
              have f0 : ford 0 0 = some .eq := by decide +kernel
              have f1 : ford 13830554455654793216 0 = some .lt := by decide +kernel
              have q1 := divF (show Ieee.double.div 13830554455654793216 0 = some 18442240474082181120 from by decide +kernel)
              have q2 := divF (show Ieee.double.div 4607182418800017408 18442240474082181120 = some 9223372036854775808 from by decide +kernel)
              obtain rfl : b = 9223372036854775808 := by rw [HW.out]; decide +kernel
              go_wp2_with fail
              go_ret2
              exact NumEnd.self HB.out HCF.out rfl
      · obtain ⟨D, hD⟩ : ∃ D : Nat → Nat, D = dbls n := ⟨_, rfl⟩
        have HZD : z = D 1074 := by rw [hD]; exact HZS.out
        have HDH := Lib.hid (show ∀ k, k < 1074 → Ieee.double.div (D (k + 1)) 4611686018427387904 = some (D k) from fun k hk => by rw [hD]; exact dbls_half hn0 hn2 hk)
        have HD0 := Lib.hid (show D 0 = n from by rw [hD]; rfl)
        have HN0 := Lib.hid hn0
        replace e2 : (b : Int) / 4503599627370496 % 2048 = 0 := e2
        clear hD HZS
        have HZE := Lib.hid HZD
        clear hz hzl hzs HZD
        go_enter Try.func60, Try.ntmps60
        go_wp2_with fail
        go_loop [6, 8] (fun e f => e = .int .i64 1 ∧ f = .float .f64 z) (fun _ _ => 0)
        case atStart => exact ⟨rfl, rfl⟩
        case round =>
          obtain ⟨rfl, rfl⟩ := hrel
          go_wp2_with fail
          go_loop [6, 8] (fun e f => ∃ i : Nat, i ≤ 1074 ∧ e = .int .i64 (1 + (i : Int)) ∧ f = .float .f64 (D (1074 - i))) (fun e _ => 1075 - (intOf e).toNat)
          case atStart => exact ⟨0, by omega, rfl, by rw [HZE.out]⟩
          case round =>
            obtain ⟨i, hi, rfl, rfl⟩ := hrel
            rcases Nat.lt_or_ge i 1074 with h1 | h1
            · have te : decide (1 + (i : Int) < 1075) = true := decide_eq_true (by omega)
              obtain ⟨k, hk⟩ : ∃ k, k = 1074 - (i + 1) := ⟨_, rfl⟩
              have hd := divF (HDH.out k (by omega))
              rw [show 1074 - i = k + 1 from by omega]
              obtain ⟨d1, hd1⟩ : ∃ d, d = D (k + 1) := ⟨_, rfl⟩
              obtain ⟨d2, hd2⟩ : ∃ d, d = D k := ⟨_, rfl⟩
              rw [← hd1, ← hd2] at hd
              rw [← hd1]
              have HD2 := Lib.hid hd2
              have HK := Lib.hid hk
              clear hd1 hd2 hk
              go_wp2_with fail
              go_round
              case rel => exact ⟨i + 1, by omega, by go_num, by rw [HD2.out, HK.out]⟩
              case measure => simp [intOf]; omega
            · obtain rfl : i = 1074 := by omega
              have te : decide (1 + ((1074 : Nat) : Int) < 1075) = false := by decide
              rw [show D (1074 - 1074) = n from HD0.out]
              have f0 : ford n 0 = some .gt := ford_gt (nan_pos (by omega)) (nan_pos (by decide)) (by rw [rank_pos (y := n) (by omega), rank_pos (y := 0) (by decide)]; omega)
              have hm := timesF (mul1 true n hn0 (by omega))
              rw [← HW.out] at hm
              simp only [if_true, Bool.false_eq_true, if_false] at hm
              go_wp2_with fail
              go_ret2
              exact NumEnd.self HB.out HCF.out rfl
    · have t1 : decide ((0 : Int) < (E : Int)) = true := decide_eq_true (by omega)
      have t1' : decide (0 < E) = true := decide_eq_true hE0
      have ha := plusF (add_c52 n z hn2 hzl hzs)
      clear hz hzl hzs
      obtain ⟨y0, hy0⟩ : ∃ y, y = 4841369599423283200 + n := ⟨_, rfl⟩
      rw [← hy0] at ha
      go_enter Try.func60, Try.ntmps60
      have HY0 := Lib.hid hy0
      clear hy0
      go_wp2_with fail
      go_loop [6, 8] (fun e f => ∃ j : Nat, j ≤ E ∧ e = .int .i64 ((E : Int) - (j : Int)) ∧ f = .float .f64 (y0 + j * 4503599627370496) ∧ (j = 0 ∨ 1075 + j ≤ E)) (fun e _ => (intOf e).toNat)
      case atStart => exact ⟨0, by omega, by simpa using e2, by simp, .inl rfl⟩
      case round =>
        obtain ⟨j, hj, rfl, rfl, hor⟩ := hrel
        obtain ⟨x, hx⟩ : ∃ x, x = y0 + j * 4503599627370496 := ⟨_, rfl⟩
        obtain ⟨e, he⟩ : ∃ e : Nat, e = E - j := ⟨_, rfl⟩
        rw [← hx, show (E : Int) - (j : Int) = (e : Int) from by omega]
        have hxv : x = (1075 + j) * 4503599627370496 + n := by rw [hx, HY0.out, Nat.add_mul]; omega
        have HX := Lib.hid hx
        have HE := Lib.hid he
        have heb : (e : Int) ≤ 2047 := by omega
        rcases Nat.lt_or_ge 1075 e with h1 | h1
        · have te : decide ((1075 : Int) < (e : Int)) = true := decide_eq_true (by omega)
          have te' : decide (1075 < e) = true := decide_eq_true h1
          have hxb : x < 2046 * 4503599627370496 := by rw [hxv]; omega
          have hxp : 4503599627370496 ≤ x := by rw [hxv]; omega
          have hm := timesF (mul2 x (by omega) (by rw [rung_pos (by omega)]; omega) (by rw [rung_pos (by omega)]; omega))
          rw [rung_pos (by omega), if_neg (by omega)] at hm
          obtain ⟨x2, hx2⟩ : ∃ x2, x2 = x + 4503599627370496 := ⟨_, rfl⟩
          rw [← hx2] at hm
          have HX2 := Lib.hid (show x2 = y0 + (j + 1) * 4503599627370496 from by rw [hx2, hx, Nat.add_mul]; omega)
          have HJ := Lib.hid (show j + 1 ≤ E ∧ 1075 + (j + 1) ≤ E from by omega)
          clear hx hxv hxb hxp hx2 he hor
          go_wp2_with fail
          go_round
          case rel => exact ⟨j + 1, HJ.out.1, by have := HJ.out; have := HE.out; go_num, by rw [HX2.out], .inr HJ.out.2⟩
          case measure => simp [intOf]; omega
        · have te : decide ((1075 : Int) < (e : Int)) = false := decide_eq_false (by omega)
          have te' : decide (1075 < e) = false := decide_eq_false (by omega)
          have HO := Lib.hid (show (j = 0 ∧ e = E) ∨ (e = 1075 ∧ E = 1075 + j) from by omega)
          have HXV := Lib.hid hxv
          have he1 : 1 ≤ e := by omega
          clear hx hxv he hor
          go_wp2_with fail
          clear te te'
          go_loop [6, 8] (fun e' f => ∃ i : Nat, e' = .int .i64 ((e : Int) + (i : Int)) ∧ e + i ≤ 1075 ∧ f = .float .f64 (x - i * 4503599627370496)) (fun e' _ => 1075 - (intOf e').toNat)
          case atStart => exact ⟨0, by simp, by omega, by simp⟩
          case round =>
            obtain ⟨i, rfl, hi, rfl⟩ := hrel
            obtain ⟨v, hv⟩ : ∃ v, v = x - i * 4503599627370496 := ⟨_, rfl⟩
            rw [← hv]
            have hvv : i ≤ 1075 + j ∧ v = (1075 + j - i) * 4503599627370496 + n := by
              refine ⟨by omega, ?_⟩
              rw [hv, HXV.out, Nat.sub_mul]
              have : i * 4503599627370496 ≤ (1075 + j) * 4503599627370496 := Nat.mul_le_mul_right _ (by omega)
              omega
            have HV := Lib.hid hv
            rcases Nat.lt_or_ge (e + i) 1075 with h2 | h2
            · have te : decide ((e : Int) + (i : Int) < 1075) = true := decide_eq_true (by omega)
              have te' : decide (e + i < 1075) = true := decide_eq_true h2
              have hj0 : j = 0 := by have := HO.out; omega
              have hvb : 2 * 4503599627370496 ≤ v ∧ v < 2047 * 4503599627370496 := by rw [hvv.2, hj0]; omega
              have hd := divF (div2 v (by omega) (by rw [rung_pos (by omega)]; omega) (by rw [rung_pos (by omega)]; omega))
              obtain ⟨v2, hv2⟩ : ∃ v2, v2 = v - 4503599627370496 := ⟨_, rfl⟩
              rw [← hv2] at hd
              have HV2 := Lib.hid (show v2 = x - (i + 1) * 4503599627370496 from by rw [hv2, hv, Nat.add_mul]; omega)
              clear hv hvv hvb hv2
              go_wp2_with fail
              go_round
              case rel => exact ⟨i + 1, by go_num, by omega, by rw [HV2.out]⟩
              case measure => simp [intOf]; omega
            · have te : decide ((e : Int) + (i : Int) < 1075) = false := decide_eq_false (by omega)
              have te' : decide (e + i < 1075) = false := decide_eq_false (by omega)
              have hve : v = E * 4503599627370496 + n := by
                rw [hvv.2, show 1075 + j - i = E from by have := HO.out; omega]
              have f0 : ford v 0 = some .gt := ford_gt (nan_pos (by omega)) (nan_pos (by decide)) (by rw [rank_pos (y := v) (by omega), rank_pos (y := 0) (by decide)]; omega)
              have hm := timesF (mul1 true v (by omega) (by omega))
              rw [hve, ← HW.out, ← hve] at hm
              simp only [if_true, Bool.false_eq_true, if_false] at hm
              clear hv hvv hve
              go_wp2_with fail
              go_ret2
              exact NumEnd.self HB.out HCF.out rfl
  · obtain rfl : E = 2047 := by omega
    have hfl : True := trivial
    rcases Nat.eq_zero_or_pos n with hn0 | hn0
    · subst hn0
      have t1 : (((0 : Nat) : Int) == 0) = true := rfl
      have hq := divF (show Ieee.double.div 13830554455654793216 0 = some 18442240474082181120 from by decide +kernel)
      have hbb : b = 18442240474082181120 := by rw [HW.out]; decide +kernel
      have HCF := Lib.hid (show canonP b = b from by rw [hbb]; decide +kernel)
      subst hbb
      go_enter Try.func60, Try.ntmps60
      go_wp2_with fail
      go_ret2
      exact NumEnd.self HB.out HCF.out rfl
    · have t1 : ((n : Int) == 0) = false := by simp; omega
      obtain ⟨g, hg⟩ : ∃ g : World → Nat, ∀ w, nanW (g w) ∧ g w < 18446744073709551616 ∧ (binOp .quo 56 (.float .f64 0) (.float .f64 0)).run Try.prog w = .ok (.float .f64 (g w)) w.drew := ⟨fun w => (nan_quo w).choose, fun w => (nan_quo w).choose_spec⟩
      have hq := fun w => (hg w).2.2
      have HG := Lib.hid (fun w => And.intro (hg w).1 (hg w).2.1)
      have hnb : nanW b := by
        obtain ⟨h1, h2, h3⟩ := word_facts true (2047 * 4503599627370496 + n) (by omega)
        unfold nanW
        rw [HW.out, h3]
        omega
      have HC := Lib.hid (canon_nan hnb)
      have HT := Lib.hid (show ((b : Int) == 9221120237041090561) = decide (canonP b = b) from by
        rw [HC.out, Bool.eq_iff_iff]
        simp
        omega)
      clear hg hnb
      go_enter Try.func60, Try.ntmps60
      go_wp2_with fail
      go_ret2
      exact ⟨_, by rw [← HT.out]; rfl, (HG.out _).2, by rw [HC.out]; exact canon_nan (HG.out _).1, (Fr.refl _ _).drew⟩
theorem ref_number (b : Nat) (hb : b < 18446744073709551616) (w : World) :
    Calls Try.prog 60 #[.int .u64 (b : Int)] w (NumEnd w b) := by
  rcases Nat.lt_or_ge b 9223372036854775808 with h | h
  · exact ref_num_false b _ _ hb (by omega) rfl rfl w
  · exact ref_num_true b _ _ hb (by omega) rfl rfl w
end Go.Proofs.Ytelfpnpplknlpaa
