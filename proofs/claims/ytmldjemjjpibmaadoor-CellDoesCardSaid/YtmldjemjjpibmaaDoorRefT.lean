/- The reference's text of a number. -/
import Derived.Test.YtmldjemjjpibmaaDoorWhole
set_option linter.unusedVariables false
set_option linter.unusedSimpArgs false
namespace Go.Proofs.YtmldjemjjpibmaaDoor
open Go.RowKit
open Go.Proofs.YtmldjemjjpibmaaDoorW.PrintWords

theorem divF {a b r : Nat} (h : Ieee.double.div a b = some r) (w : World) : (binOp .quo 22 (.float .f64 a) (.float .f64 b)).run Tryd.prog w = .ok (.float .f64 r) w :=
  run_float_arith w .quo 22 .f64 a b r h
theorem scale_halved {y z j : Nat} (hz : z = y - j * 4503599627370496) (hj : j * 4503599627370496 ≤ y) (hor : j = 0 ∨ 4841369599423283200 ≤ z) : scale y = scale z * 2 ^ j := by
  rcases hor with rfl | h
  · rw [hz, Nat.zero_mul, Nat.sub_zero, Nat.pow_zero, Nat.mul_one]
  · have hy : y = z + j * 4503599627370496 := by omega
    unfold scale
    rw [if_neg (by omega), if_neg (by omega), hy, Nat.add_mul_mod_self_right, Nat.add_mul_div_right _ _ (by decide), Nat.mul_assoc, ← Nat.pow_add, show z / 4503599627370496 + j - 1 = z / 4503599627370496 - 1 + j from by omega]
theorem whole_big {v : Nat} (h : 4841369599423283200 ≤ v) : scale v % 2 ^ k74 = 0 := by
  unfold scale
  rw [if_neg (by omega)]
  obtain ⟨d, hd⟩ : ∃ d, v / 4503599627370496 - 1 = d + k74 := ⟨v / 4503599627370496 - 1 - k74, by have := k74_is; omega⟩
  rw [hd, Nat.pow_add, ← Nat.mul_assoc, Nat.mul_mod_left]
theorem ford_big (s : Bool) {v : Nat} (h : 4845873199050653696 ≤ v) (h2 : v < 9218868437227405312) :
    (ford (sbt s + v) 4845873199050653696 = some .gt) ∨ (ford (sbt s + v) 4845873199050653696 = some .eq) ∨ (ford (sbt s + v) 4845873199050653696 = some .lt ∧ ford (sbt s + v) 14069245235905429504 = some .lt) ∨ (ford (sbt s + v) 4845873199050653696 = some .lt ∧ ford (sbt s + v) 14069245235905429504 = some .eq) := by
  have hn : ¬ nanW (sbt s + v) := fin_nan (by rw [(sbt_facts s (by omega)).2.2]; omega)
  have hr := rank_sbt s (v := v) (by omega)
  have c1 : rank 4845873199050653696 = 4845873199050653696 := rank_pos (y := 4845873199050653696) (by decide)
  have c2 : rank 14069245235905429504 = -4845873199050653696 := by decide +kernel
  have n1 : ¬ nanW 4845873199050653696 := by decide +kernel
  have n2 : ¬ nanW 14069245235905429504 := by decide +kernel
  cases s
  · have hr' : rank (sbt false + v) = (v : Int) := hr
    rcases Nat.eq_or_lt_of_le h with h1 | h1
    · exact .inr (.inl (ford_eq hn n1 (by rw [hr', c1]; omega)))
    · exact .inl (ford_gt hn n1 (by rw [hr', c1]; omega))
  · have hr' : rank (sbt true + v) = -(v : Int) := hr
    have h0 := ford_lt hn n1 (by rw [hr', c1]; omega)
    rcases Nat.eq_or_lt_of_le h with h1 | h1
    · exact .inr (.inr (.inr ⟨h0, ford_eq hn n2 (by rw [hr', c2]; omega)⟩))
    · exact .inr (.inr (.inl ⟨h0, ford_lt hn n2 (by rw [hr', c2]; omega)⟩))
theorem ford_small (s : Bool) {v : Nat} (h : v < 4845873199050653696) : ford (sbt s + v) 4845873199050653696 = some .lt ∧ ford (sbt s + v) 14069245235905429504 = some .gt := by
  have hn : ¬ nanW (sbt s + v) := fin_nan (by rw [(sbt_facts s (by omega)).2.2]; omega)
  have hr := rank_sbt s (v := v) (by omega)
  have c1 : rank 4845873199050653696 = 4845873199050653696 := rank_pos (y := 4845873199050653696) (by decide)
  have c2 : rank 14069245235905429504 = -4845873199050653696 := by decide +kernel
  have n1 : ¬ nanW 4845873199050653696 := by decide +kernel
  have n2 : ¬ nanW 14069245235905429504 := by decide +kernel
  have ha := sgnI_abs s v
  exact ⟨ford_lt hn n1 (by rw [hr, c1]; omega), ford_gt hn n2 (by rw [hr, c2]; omega)⟩
theorem wrap64I (j : Int) (h0 : -9223372036854775808 ≤ j) (h1 : j ≤ 9223372036854775807) : IntKind.i64.wrap j = j := by
  simp only [IntKind.wrap, IntKind.signed, IntKind.bits]
  first | omega | go_num
theorem step_le {j c y z : Nat} (h : z = y - j * c) (h2 : c ≤ z) (hj : j * c ≤ y) : (j + 1) * c ≤ y := by rw [Nat.succ_mul]; omega
theorem step_ge {j y z : Nat} (h : z = y - j * 4503599627370496) (hg : 4845873199050653696 ≤ z) : 4841369599423283200 ≤ y - (j + 1) * 4503599627370496 := by rw [Nat.succ_mul]; omega
set_option maxRecDepth 100000 in
set_option maxHeartbeats 4000000 in
theorem ref_text_fin (s : Bool) (y o t : Nat) (h0 : 0 < y) (h1 : y < 9218868437227405312) (hk : kindP (sbt s + y) = 2 ∨ kindP (sbt s + y) = 5) (hs : scale y = o * 2 ^ t) (ho : o % 2 = 1) (w : World) :
    Calls Tryd.prog 24 #[.float .f64 (sbt s + y)] w fun r w' => r = .returned (.string ⟨(Lib.itoa (sgnI s o) ++ 112 :: Lib.itoa ((t : Int) - 1074)).toArray⟩) ∧ Fr (fun _ => False) w w' := by
  have HS := Lib.hid hs
  have HO := Lib.hid ho
  have HKK := Lib.hid (ref_kind (sbt s + y) (sbt_facts s (v := y) (by omega)).1)
  clear hs ho
  rcases hk with hk | hk
  all_goals
    go_enter Tryd.func24, Tryd.ntmps24
    go_wp2_with fail
    refine (HKK.out _).mono ?_
    rintro r w1 ⟨rfl, rfl⟩
    rw [hk]
    clear hk
    go_wp2_with fail
    go_loop [0, 4] (fun f e => ∃ j : Nat, j * 4503599627370496 ≤ y ∧ f = .float .f64 (sbt s + (y - j * 4503599627370496)) ∧ e = .int .i64 (j : Int) ∧ (j = 0 ∨ 4841369599423283200 ≤ y - j * 4503599627370496)) (fun _ e => 4000 - (intOf e).toNat)
    case atStart => exact ⟨0, by omega, by rw [Nat.zero_mul, Nat.sub_zero], rfl, .inl rfl⟩
    case round =>
      obtain ⟨j, hj, rfl, rfl, hor⟩ := hrel
      have hjb : j ≤ 2047 := by omega
      obtain ⟨z, hzz⟩ : ∃ z, z = y - j * 4503599627370496 := ⟨_, rfl⟩
      rw [← hzz] at hor ⊢
      have HZZ := Lib.hid hzz
      rcases Nat.lt_or_ge z 4845873199050653696 with hlt | hge
      · obtain ⟨f1, f2⟩ := ford_small s hlt
        have HSC := Lib.hid (scale_halved hzz hj hor)
        have hz0 : 0 < z := by omega
        clear hor hzz hj
        go_wp2_with fail
        clear f1 f2
        go_loop [0, 4] (fun f e => ∃ (i v : Nat), f = .float .f64 (sbt s + v) ∧ e = .int .i64 ((j : Int) - (i : Int)) ∧ Dbl z i v ∧ i ≤ 1074 ∧ v < 4845873199050653696) (fun _ e => (intOf e + 3000).toNat)
        case atStart => exact ⟨0, z, rfl, by go_num, Dbl.zero z, by omega, hlt⟩
        case round =>
          obtain ⟨i, v, rfl, rfl, hD, hi, hv⟩ := hrel
          have hv0 := hD.pos hz0
          have HD := Lib.hid hD
          clear hD
          by_cases hw : scale v % 2 ^ k74 = 0
          · have HW := Lib.hid (ref_whole s v hv0 hv)
            have hdw : decide (scale v % 2 ^ k74 = 0) = true := decide_eq_true hw
            rw [hdw] at HW
            obtain ⟨x, hx⟩ : ∃ x, x = sbt s + v := ⟨_, rfl⟩
            have ht := toInt_trunc (sbt s + v) (by rw [(sbt_facts s (v := v) (by omega)).2.2]; omega)
            rw [(sbt_facts s (v := v) (by omega)).2.1, (sbt_facts s (v := v) (by omega)).2.2] at ht
            have hn53 := (back_eq s v hv0 hv).1
            have hsv : scale v = scale v / 2 ^ k74 * 2 ^ k74 := by
              have h := Nat.div_add_mod (scale v) (2 ^ k74)
              rw [hw, Nat.add_zero, Nat.mul_comm] at h
              exact h.symm
            have hsp : 0 < scale v := by have := scale_mono hv0; omega
            obtain ⟨n, hn⟩ : ∃ n, n = scale v / 2 ^ k74 := ⟨_, rfl⟩
            rw [← hn] at ht hn53 hsv
            have hn0 : 0 < n := by
              rcases Nat.eq_zero_or_pos n with h | h
              · rw [h, Nat.zero_mul] at hsv; omega
              · exact h
            obtain ⟨o', J, hoJ, ho'⟩ := odd_ex n hn0
            have hall : o * 2 ^ (t + i) = o' * 2 ^ (J + (k74 + j)) := by
              rw [Nat.pow_add, ← Nat.mul_assoc, ← HS.out, HSC.out, Nat.mul_right_comm, ← HD.out.sc, hsv, hoJ, Nat.pow_add, Nat.pow_add]
              simp only [Nat.mul_assoc]
            obtain ⟨rfl, hJ⟩ := odd_one hall HO.out ho'
            rw [k74_is] at hJ
            have hJ52 : J ≤ 52 := by
              rcases Nat.lt_or_ge 52 J with h | h
              · have h2 : 2 ^ 53 ≤ 2 ^ J := Nat.pow_le_pow_right (by decide) h
                have h3 : 2 ^ J ≤ o * 2 ^ J := Nat.le_mul_of_pos_left _ (by omega)
                have h4 : (2 : Nat) ^ 53 = 9007199254740992 := by decide
                omega
              · exact h
            have hq0 : o * 2 ^ J ≤ 9007199254740992 := by omega
            rw [hoJ] at ht
            have hcv := cv_i64 ht (by have := sgnI_abs s (o * 2 ^ J); omega) (by have := sgnI_abs s (o * 2 ^ J); omega)
            have HE := Lib.hid (show (j : Int) - (i : Int) = (t : Int) - 1074 - (J : Int) from by omega)
            obtain ⟨ej, hej⟩ : ∃ e : Int, e = (j : Int) - (i : Int) := ⟨_, rfl⟩
            rw [← hej] at HE ⊢
            have HT3 := Lib.hid (show t ≤ 4000 from by omega)
            have HQ0 := Lib.hid hq0
            have HJ := Lib.hid hJ52
            obtain ⟨qv, hqv⟩ : ∃ q, q = sgnI s (o * 2 ^ J) := ⟨_, rfl⟩
            rw [← hqv] at hcv
            rw [← hx] at HW hcv ⊢
            have HQV := Lib.hid hqv
            clear hw hdw hx ht hn53 hsv hsp hn hn0 hoJ ho' hall hJ hJ52 hq0 hej hqv hv hv0 hi hz0 hlt hjb
            go_wp2_with fail
            refine (HW.out _).mono ?_
            rintro r w2 ⟨rfl, rfl⟩
            go_wp2_with fail
            clear hcv
            go_loop [4, 5] (fun e q => ∃ k : Nat, k ≤ 52 ∧ q = .int .i64 (sgnI s (o * 2 ^ k)) ∧ e = .int .i64 ((t : Int) - 1074 - (k : Int)) ∧ o * 2 ^ k ≤ 9007199254740992) (fun _ q => (intOf q).natAbs)
            case atStart => exact ⟨J, HJ.out, by rw [HQV.out], by rw [HE.out], HQ0.out⟩
            case round =>
              obtain ⟨k, hk, rfl, rfl, hkb⟩ := hrel
              obtain ⟨q, hq⟩ : ∃ q, q = sgnI s (o * 2 ^ k) := ⟨_, rfl⟩
              obtain ⟨e, he⟩ : ∃ e : Int, e = (t : Int) - 1074 - (k : Int) := ⟨_, rfl⟩
              rw [← hq, ← he]
              have hea : -4200 ≤ e := by omega
              have heb : e ≤ 4000 := by have := HT3.out; omega
              have HEE := Lib.hid he
              rcases k with _ | k
              · rw [Nat.pow_zero, Nat.mul_one] at hq hkb
                have htm := half_end s o HO.out
                rw [← hq] at htm
                have hqa := sgnI_abs s o
                rw [← hq] at hqa
                have hd1 := dig_all q (by omega) (by omega)
                have hd2 := dig_all e (by omega) (by omega)
                have z1 : (⟨(Lib.itoa q).toArray⟩ : ByteArray).size ≤ 21 := Lib.itoa_length_le q (by omega) (by omega)
                have z2 : (⟨(Lib.itoa e).toArray⟩ : ByteArray).size ≤ 21 := Lib.itoa_length_le e (by omega) (by omega)
                obtain ⟨s1, hs1⟩ : ∃ s, s = (⟨(Lib.itoa q).toArray⟩ : ByteArray) := ⟨_, rfl⟩
                obtain ⟨s2, hs2⟩ : ∃ s, s = (⟨(Lib.itoa e).toArray⟩ : ByteArray) := ⟨_, rfl⟩
                rw [← hs1] at hd1 z1
                rw [← hs2] at hd2 z2
                have z3 : (s1 ++ ⟨#[112]⟩).size ≤ 22 := by rw [ByteArray.size_append]; exact Nat.add_le_add_right z1 1
                have HD1 := Lib.hid hd1
                have HD2 := Lib.hid hd2
                have HSS := Lib.hid (And.intro hs1 hs2)
                have HQQ := Lib.hid hq
                clear hd1 hd2 hs1 hs2 hq hqa hkb hk he hea heb
                rcases htm with htm | htm
                all_goals
                  go_wp2_with fail
                  refine (HD1.out _).mono ?_
                  rintro r w3 ⟨rfl, hF3⟩
                  go_wp2_with fail
                  refine (HD2.out _).mono ?_
                  rintro r w4 ⟨rfl, hF4⟩
                  go_wp2_with fail
                  go_ret
                  refine ⟨?_, hF3.trans hF4⟩
                  rw [HSS.out.1, HSS.out.2, cat_text, ← HQQ.out, show (t : Int) - 1074 = e from by have := HEE.out; push_cast at this; omega]
                  rfl
              · obtain ⟨t1, t2, t3⟩ := half_step s o k hkb
                obtain ⟨pv, hpv⟩ : ∃ q, q = sgnI s (o * 2 ^ k) := ⟨_, rfl⟩
                rw [← hq] at t1 t2
                rw [← hpv] at t2 t3
                have t4 : IntKind.i64.wrap pv = pv := by have := sgnI_abs s (o * 2 ^ k); rw [← hpv] at this; rw [Nat.pow_succ, ← Nat.mul_assoc] at hkb; exact wrap64I _ (by omega) (by omega)
                have hJb : o * 2 ^ k ≤ 9007199254740992 := by
                  rw [Nat.pow_succ, ← Nat.mul_assoc] at hkb
                  omega
                have HM := Lib.hid (show pv.natAbs < q.natAbs from by
                  rw [hpv, hq, sgnI_abs, sgnI_abs, Nat.pow_succ, ← Nat.mul_assoc]
                  have h2 : 0 < o * 2 ^ k := Nat.mul_pos (by have := HO.out; omega) (Nat.two_pow_pos k)
                  omega)
                have HPV := Lib.hid hpv
                have HJB := Lib.hid hJb
                clear hq hpv hkb hJb he
                go_wp2_with fail
                go_round
                case rel => exact ⟨k, by omega, by rw [HPV.out], by have := HEE.out; push_cast at this; rw [show e + 1 = (t : Int) - 1074 - (k : Int) from by omega], HJB.out⟩
                case measure => have := HM.out; simp [intOf]; omega
          · have HW := Lib.hid (ref_whole s v hv0 hv)
            rw [decide_eq_false hw] at HW
            have hi1 : i < 1074 := by
              rcases Nat.lt_or_ge i 1074 with h | h
              · exact h
              · have hik : i = k74 := by rw [k74_is]; omega
                refine absurd ?_ hw
                rw [HD.out.sc, hik, Nat.mul_mod_left]
            have hl2 : v < 4841369599423283200 := by
              rcases Nat.lt_or_ge v 4841369599423283200 with h | h
              · exact h
              · exact absurd (whole_big h) hw
            have hrv := (sbt_facts s (v := v) (by omega)).2.2
            have hm := mulF (mul2 (sbt s + v) (sbt_facts s (v := v) (by omega)).1 (by rw [hrv]; exact hv0) (by rw [hrv]; omega))
            rw [hrv] at hm
            obtain ⟨u, hu⟩ : ∃ u, u = (if v < 4503599627370496 then 2 * v else v + 4503599627370496) := ⟨_, rfl⟩
            have hu2 : (if v < 4503599627370496 then sbt s + v + v else sbt s + v + 4503599627370496) = sbt s + u := by rw [hu]; split <;> omega
            rw [hu2] at hm
            have hub : u < 4845873199050653696 := by rw [hu]; split <;> omega
            have HU := Lib.hid hu
            obtain ⟨x, hx⟩ : ∃ x, x = sbt s + v := ⟨_, rfl⟩
            obtain ⟨x2, hx2⟩ : ∃ x, x = sbt s + u := ⟨_, rfl⟩
            rw [← hx] at HW hm ⊢
            rw [← hx2] at hm
            have HX2 := Lib.hid hx2
            clear hw hrv hu hu2 hx hx2 hv hl2 hv0 hi
            go_wp2_with fail
            refine (HW.out _).mono ?_
            rintro r w2 ⟨rfl, rfl⟩
            go_wp2_with fail
            go_round
            case rel => exact ⟨i + 1, u, by rw [HX2.out], by go_num, by rw [HU.out]; exact HD.out.succ, by omega, hub⟩
            case measure => simp [intOf]; omega
      · have hz2 : z < 9218868437227405312 := by omega
        have hj2 : (j + 1) * 4503599627370496 ≤ y := step_le hzz (by omega) hj
        have hor2 : 4841369599423283200 ≤ y - (j + 1) * 4503599627370496 := step_ge hzz hge
        have hrz := (sbt_facts s (v := z) (by omega)).2.2
        have hdv := divF (div2 (sbt s + z) (sbt_facts s (v := z) (by omega)).1 (by rw [hrz]; omega) (by rw [hrz]; exact hz2))
        have hx2 : sbt s + z - 4503599627370496 = sbt s + (y - (j + 1) * 4503599627370496) := by rw [Nat.succ_mul]; omega
        rw [hx2] at hdv
        have hfb := ford_big s hge hz2
        obtain ⟨x, hx⟩ : ∃ x, x = sbt s + z := ⟨_, rfl⟩
        obtain ⟨x2, hxx⟩ : ∃ x, x = sbt s + (y - (j + 1) * 4503599627370496) := ⟨_, rfl⟩
        rw [← hx] at hdv hfb ⊢
        rw [← hxx] at hdv
        have HX := Lib.hid hxx
        have HJ2 := Lib.hid (And.intro hj2 hor2)
        clear hrz hx2 hx hxx hj2 hor2 hz2 hor hge hzz
        rcases hfb with f1 | f1 | ⟨f1, f2⟩ | ⟨f1, f2⟩
        all_goals
          go_wp2_with fail
          go_round
          case rel => exact ⟨j + 1, HJ2.out.1, by rw [HX.out], by go_num, .inr HJ2.out.2⟩
          case measure => simp [intOf]; omega
end Go.Proofs.YtmldjemjjpibmaaDoor
