/- A number's odd factor and power, by halving. -/
import Derived.Test.YtmldjemjjpibmaaDoorFrexp
set_option linter.unusedVariables false
set_option linter.unusedSimpArgs false
namespace Go.Proofs.YtmldjemjjpibmaaDoor
open Go.RowKit
open Go.Proofs.YtmldjemjjpibmaaDoorW.PrintWords

theorem half_step (s : Bool) (o j : Nat) (hb : o * 2 ^ (j + 1) ≤ 9007199254740992) : (sgnI s (o * 2 ^ (j + 1))).tmod 2 = 0 ∧ (sgnI s (o * 2 ^ (j + 1))).tdiv 2 = sgnI s (o * 2 ^ j) ∧ wrap64 (sgnI s (o * 2 ^ j)) = sgnI s (o * 2 ^ j) := by
  obtain ⟨p, hp⟩ : ∃ p, p = o * 2 ^ j := ⟨_, rfl⟩
  have h2 : o * 2 ^ (j + 1) = 2 * p := by rw [Nat.pow_succ, ← Nat.mul_assoc, ← hp, Nat.mul_comm]
  rw [h2] at hb ⊢
  rw [← hp]
  have h3 : sgnI s (2 * p) = 2 * sgnI s p := by unfold sgnI; cases s <;> simp <;> omega
  rw [h3]
  refine ⟨Int.mul_tmod_right _ _, Int.mul_tdiv_cancel_left _ (by decide), ?_⟩
  have h4 := sgnI_abs s p
  simp only [wrap64]
  omega
theorem half_end (s : Bool) (o : Nat) (ho : o % 2 = 1) : (sgnI s o).tmod 2 = 1 ∨ (sgnI s o).tmod 2 = -1 := by
  unfold sgnI
  cases s
  · left
    show (o : Int).tmod 2 = 1
    have : (o : Int).tmod 2 = ((o % 2 : Nat) : Int) := rfl
    rw [this, ho]; rfl
  · right
    show (-(o : Int)).tmod 2 = -1
    rw [Int.neg_tmod]
    have : (o : Int).tmod 2 = ((o % 2 : Nat) : Int) := rfl
    rw [this, ho]; rfl
set_option maxRecDepth 100000 in
theorem ex_parts (x o t : Nat) (hx : x < 18446744073709551616) (h0 : 0 < rung x) (h1 : rung x < 9218868437227405312) (hs : scale (rung x) = o * 2 ^ t) (ho : o % 2 = 1) (w : World) :
    Calls Tryd.prog 35 #[.float .f64 x] w fun r w' => r = .returned (.tuple #[.int .i64 (sgnI (negW x) o), .int .i64 ((t : Int) - 1074)]) ∧ w = w' := by
  have HS := Lib.hid hs
  have HO := Lib.hid ho
  clear hs ho
  obtain ⟨sg, hsg⟩ : ∃ b, b = negW x := ⟨_, rfl⟩
  rw [← hsg]
  have HSG := Lib.hid hsg
  clear hsg
  go_enter Tryd.func35, Tryd.ntmps35
  go_wp2_with fail
  refine wp_scope_jumps 0 (fun a' w' => w' = w ∧ ∃ (j : Nat) (q e : Int) (u0 u1 u2 u3 u4 u7 u8 u9 u10 u11 u12 u13 u14 u15 u16 u17 u18 u19 u20 u21 u22 u23 u24 u25 : Value), a' = { tmps := #[u0, u1, u2, u3, u4, .int .i64 e, .int .i64 q, u7, u8, u9, u10, u11, u12, u13, u14, u15, u16, u17, u18, u19, u20, u21, u22, u23, u24, u25], defers := [] } ∧ j ≤ 52 ∧ o * 2 ^ j ≤ 9007199254740992 ∧ t ≤ 3000 ∧ q = sgnI sg (o * 2 ^ j) ∧ e = (t : Int) - 1074 - (j : Int)) (fun a' _ => (intOf (a'.tmps.getD 6 undef)).natAbs) rfl ?_ ?_
  · go_wp2_with fail
    refine (m_Frexp x hx h0 h1 _).mono ?_
    rintro r w1 ⟨⟨y, d, hN, rfl⟩, rfl⟩
    obtain ⟨E, hE⟩ : ∃ E, E = rung y / 4503599627370496 := ⟨_, rfl⟩
    obtain ⟨M, hM⟩ : ∃ M, M = y % 4503599627370496 := ⟨_, rfl⟩
    obtain ⟨q, hq⟩ : ∃ q, q = y / 9223372036854775808 := ⟨_, rfl⟩
    rw [← hE, ← hM, ← hq]
    have hyl := hN.lt
    have hylo := hN.lo
    have hyhi := hN.hi
    have hMl : M < 4503599627370496 := by rw [hM]; exact Nat.mod_lt _ (by decide)
    have hql : q < 2 := by omega
    have hE1 : 1 ≤ E ∧ E ≤ 2046 := by omega
    have hMy : rung y % 4503599627370496 = M := by rw [hM]; unfold rung; omega
    have hsc : scale (rung y) = (4503599627370496 + M) * 2 ^ (E - 1) := by unfold scale; rw [if_neg (by omega), ← hE, hMy]
    obtain ⟨o', J, hoJ, ho'⟩ := odd_ex (4503599627370496 + M) (by omega)
    have hscx := hN.sc
    rw [hsc, hoJ, HS.out, Nat.mul_assoc, Nat.mul_assoc, ← Nat.pow_add, ← Nat.pow_add] at hscx
    obtain ⟨rfl, hJ⟩ := odd_one hscx ho' HO.out
    have hJ52 : J ≤ 52 := by
      rcases Nat.lt_or_ge 52 J with h | h
      · have h2 : 2 ^ 53 ≤ 2 ^ J := Nat.pow_le_pow_right (by decide) h
        have h3 : 2 ^ J ≤ o' * 2 ^ J := Nat.le_mul_of_pos_left _ (by omega)
        have h4 : (2 : Nat) ^ 53 = 9007199254740992 := by decide
        omega
      · exact h
    have hneg : negW (q * 9223372036854775808 + 1075 * 4503599627370496 + M) = sg := by
      rw [HSG.out, ← hN.neg]
      unfold negW
      rw [show (q * 9223372036854775808 + 1075 * 4503599627370496 + M) / 9223372036854775808 = q from by omega, hq]
    have hrg : rung (q * 9223372036854775808 + 1075 * 4503599627370496 + M) = 1075 * 4503599627370496 + M := by unfold rung; omega
    have hti := toInt_exact (q * 9223372036854775808 + 1075 * 4503599627370496 + M) (4503599627370496 + M) (by rw [hrg]; omega) (by
      rw [hrg]; unfold scale
      rw [if_neg (by omega), show (1075 * 4503599627370496 + M) % 4503599627370496 = M from by omega, show (1075 * 4503599627370496 + M) / 4503599627370496 - 1 = k74 from by rw [k74_is]; omega])
    rw [hneg] at hti
    have hcv := cv_i64 (z := q * 9223372036854775808 + 1075 * 4503599627370496 + M) (n := sgnI sg (o' * 2 ^ J)) (by rw [hti, hoJ]; rfl) (by have := sgnI_abs sg (o' * 2 ^ J); omega) (by have := sgnI_abs sg (o' * 2 ^ J); omega)
    have hLd := m_Ldexp _ M q hql hMl rfl
    obtain ⟨z, hz⟩ : ∃ z, z = q * 9223372036854775808 + 1022 * 4503599627370496 + M := ⟨_, rfl⟩
    obtain ⟨z2, hz2⟩ : ∃ z, z = q * 9223372036854775808 + 1075 * 4503599627370496 + M := ⟨_, rfl⟩
    rw [← hz, ← hz2] at hLd
    rw [← hz2] at hcv
    rw [← hz]
    obtain ⟨e0, he0⟩ : ∃ e0 : Int, e0 = (E : Int) - 1022 - (d : Int) := ⟨_, rfl⟩
    rw [← he0]
    have HET := Lib.hid (show e0 - 53 = (t : Int) - 1074 - (J : Int) from by omega)
    have ht3 : t ≤ 3000 := by omega
    have hea : -1200 ≤ e0 := by omega
    have heb : e0 ≤ 2000 := by omega
    have hqb : o' * 2 ^ J ≤ 9007199254740992 := by omega
    have HLd := Lib.hid hLd
    have HT3 := Lib.hid ht3
    clear hLd hz hz2 hti hneg hrg hoJ ho' hscx hsc hMy hE1 hql hMl hyl hylo hyhi hE hM hq hN he0 hJ ht3
    rcases J with _ | J
    · have hpo : o' * 2 ^ 0 = o' := by rw [Nat.pow_zero, Nat.mul_one]
      rw [hpo] at hcv
      obtain ⟨qv, hqv⟩ : ∃ q, q = sgnI sg o' := ⟨_, rfl⟩
      have htm := half_end sg o' HO.out
      rw [← hqv] at hcv htm
      have HQV := Lib.hid hqv
      clear hqv hpo hqb hJ52
      rcases htm with htm | htm
      all_goals
        go_wp2_with fail
        refine (HLd.out _).mono ?_
        rintro r w1 ⟨rfl, rfl⟩
        go_wp2_with fail
        go_step3
        go_wp2_with fail
        unfold Exit.jump
        simp only []
        go_ret2
        refine ⟨?_, rfl⟩
        rw [← HQV.out, show (t : Int) - 1074 = e0 - 53 from by have := HET.out; push_cast at this; omega]
        rfl
    · obtain ⟨t1, t2, t3⟩ := half_step sg o' J hqb
      obtain ⟨qv, hqv⟩ : ∃ q, q = sgnI sg (o' * 2 ^ (J + 1)) := ⟨_, rfl⟩
      obtain ⟨pv, hpv⟩ : ∃ q, q = sgnI sg (o' * 2 ^ J) := ⟨_, rfl⟩
      rw [← hqv] at t1 t2 hcv
      rw [← hpv] at t2 t3
      have hJb : o' * 2 ^ J ≤ 9007199254740992 := by
        rw [Nat.pow_succ, ← Nat.mul_assoc] at hqb
        omega
      have HPV := Lib.hid hpv
      have HJB := Lib.hid hJb
      clear hqv hpv hqb hJb
      go_wp2_with fail
      refine (HLd.out _).mono ?_
      rintro r w1 ⟨rfl, rfl⟩
      go_wp2_with fail
      go_step3
      go_wp2_with fail
      go_step3
      refine ⟨rfl, rfl, J, _, _, _, _, _, _, _, _, _, _, _, _, _, _, _, _, _, _, _, _, _, _, _, _, _, _, rfl, by omega, HJB.out, HT3.out, ?_, ?_⟩
      · first | exact HPV.out | (rw [t3]; exact HPV.out)
      · have := HET.out; push_cast at this; omega
  · rintro a' w' ⟨rfl, j, q, e, u0, u1, u2, u3, u4, u7, u8, u9, u10, u11, u12, u13, u14, u15, u16, u17, u18, u19, u20, u21, u22, u23, u24, u25, rfl, hj, hjb, ht3, hq, he⟩
    have HT3 := Lib.hid ht3
    have hea : -4200 ≤ e := by omega
    have heb : e ≤ 3000 := by omega
    have HE := Lib.hid he
    clear ht3 he
    rcases j with _ | j
    · rw [Nat.pow_zero, Nat.mul_one] at hq
      have htm := half_end sg o HO.out
      rw [← hq] at htm
      have HQ := Lib.hid hq
      clear hq hjb hj
      rcases htm with htm | htm
      all_goals
        go_wp2_with fail
        unfold Exit.jump
        simp only []
        go_ret2
        refine ⟨?_, rfl⟩
        rw [← HQ.out, show (t : Int) - 1074 = e from by have := HE.out; push_cast at this; omega]
        rfl
    · obtain ⟨t1, t2, t3⟩ := half_step sg o j hjb
      obtain ⟨pv, hpv⟩ : ∃ q, q = sgnI sg (o * 2 ^ j) := ⟨_, rfl⟩
      rw [← hq] at t1 t2
      rw [← hpv] at t2 t3
      have hJb : o * 2 ^ j ≤ 9007199254740992 := by
        rw [Nat.pow_succ, ← Nat.mul_assoc] at hjb
        omega
      have HM := Lib.hid (show pv.natAbs < q.natAbs from by
        rw [hpv, hq, sgnI_abs, sgnI_abs, Nat.pow_succ, ← Nat.mul_assoc]
        have h2 : 0 < o * 2 ^ j := Nat.mul_pos (by have := HO.out; omega) (Nat.two_pow_pos j)
        omega)
      have HPV := Lib.hid hpv
      have HJB := Lib.hid hJb
      clear hq hpv hjb hJb
      go_wp2_with fail
      go_step3
      refine ⟨rfl, ⟨rfl, j, _, _, _, _, _, _, _, _, _, _, _, _, _, _, _, _, _, _, _, _, _, _, _, _, _, _, rfl, by omega, HJB.out, HT3.out, ?_, ?_⟩, ?_⟩
      · first | exact HPV.out | (rw [t3]; exact HPV.out)
      · have := HE.out; push_cast at this; omega
      · have := HM.out
        simp [intOf]
        omega
end Go.Proofs.YtmldjemjjpibmaaDoor
