/- The text of the number 1. -/
import Derived.Test.YtmldjemjjpibmaaDoorKindW
import Derived.Test.YtmldjemjjpibmaaDoorMapR
import Derived.Test.YtmldjemjjpibmaaDoorCellR
set_option linter.unusedVariables false
set_option linter.unusedSimpArgs false
namespace Go.Proofs.YtmldjemjjpibmaaDoor
open Go.RowKit
open Go.Proofs.YtmldjemjjpibmaaDoorW.PrintWords

abbrev one64 : Nat := 4607182418800017408
theorem ex_fromI (z : Int) (b : Nat) (h : (b : Int) = z) (w : World) : (callFunc 40 #[.int .u64 z]).run Tryd.prog w = .ok (.value (.float .f64 b)) w := by
  subst h
  exact ex_from b w
theorem m_abs1 (w : World) : Calls Tryd.prog 48 #[.float .f64 4607182418800017408] w fun r w' => r = .returned (.float .f64 4607182418800017408) ∧ w = w' := by
  have h1 := ex_bits 4607182418800017408
  have h2 := ex_fromI 4607182418800017408 4607182418800017408 (by decide)
  have h3 : bits .andNot .u64 4607182418800017408 9223372036854775808 = 4607182418800017408 := by decide +kernel
  go_enter Tryd.func48, Tryd.ntmps48
  go_wp2_with fail
  go_ret
  exact ⟨rfl, rfl⟩
theorem m_inf1 (w : World) : Calls Tryd.prog 42 #[.float .f64 4607182418800017408, .int .i64 0] w fun r w' => r = .returned (.bool false) ∧ w = w' := by
  have h3 : (ford 4607182418800017408 9218868437227405311 == some .gt) = false := by decide +kernel
  go_enter Tryd.func42, Tryd.ntmps42
  go_wp2_with fail
  refine (m_abs1 _).mono ?_
  rintro r w1 ⟨rfl, rfl⟩
  go_wp2_with fail
  go_ret
  exact ⟨rfl, rfl⟩
theorem m_nan1 (w : World) : Calls Tryd.prog 57 #[.float .f64 4607182418800017408] w fun r w' => r = .returned (.bool false) ∧ w = w' := by
  have h3 : (ford 4607182418800017408 4607182418800017408) = some .eq := by decide +kernel
  go_enter Tryd.func57, Tryd.ntmps57
  go_wp2_with fail
  go_ret
  exact ⟨rfl, rfl⟩
theorem m_norm1 (w : World) : Calls Tryd.prog 58 #[.float .f64 4607182418800017408] w fun r w' => r = .returned (.tuple #[.float .f64 4607182418800017408, .int .i64 0]) ∧ w = w' := by
  have h3 : (ford 4607182418800017408 4503599627370496) = some .gt := by decide +kernel
  go_enter Tryd.func58, Tryd.ntmps58
  go_wp2_with fail
  refine (m_abs1 _).mono ?_
  rintro r w1 ⟨rfl, rfl⟩
  go_wp2_with fail
  go_ret2
  exact ⟨rfl, rfl⟩
theorem m_frexp1 (w : World) : Calls Tryd.prog 50 #[.float .f64 4607182418800017408] w fun r w' => r = .returned (.tuple #[.float .f64 4602678819172646912, .int .i64 1]) ∧ w = w' := by
  have h0 : (ford 4607182418800017408 0) = some .gt := by decide +kernel
  have h1 := ex_bits 4607182418800017408
  have h2 := ex_fromI 4602678819172646912 4602678819172646912 (by decide)
  have b1 : bits .and .u64 1023 2047 = 1023 := by decide +kernel
  have b2 : bits .andNot .u64 4607182418800017408 9218868437227405312 = 0 := by decide +kernel
  have b3 : bits .or .u64 0 4602678819172646912 = 4602678819172646912 := by decide +kernel
  go_enter Tryd.func50, Tryd.ntmps50
  go_wp2_with fail
  refine (m_inf1 _).mono ?_
  rintro r w1 ⟨rfl, rfl⟩
  go_wp2_with fail
  refine (m_nan1 _).mono ?_
  rintro r w1 ⟨rfl, rfl⟩
  go_wp2_with fail
  refine (m_norm1 _).mono ?_
  rintro r w1 ⟨rfl, rfl⟩
  go_wp2_with fail
  go_ret2
  exact ⟨rfl, rfl⟩
theorem m_Frexp1 (w : World) : Calls Tryd.prog 44 #[.float .f64 4607182418800017408] w fun r w' => r = .returned (.tuple #[.float .f64 4602678819172646912, .int .i64 1]) ∧ w = w' := by
  go_enter Tryd.func44, Tryd.ntmps44
  go_wp2_with fail
  refine (m_frexp1 _).mono ?_
  rintro r w1 ⟨rfl, rfl⟩
  go_wp2_with fail
  go_ret2
  exact ⟨rfl, rfl⟩
theorem m_absH (w : World) : Calls Tryd.prog 48 #[.float .f64 4602678819172646912] w fun r w' => r = .returned (.float .f64 4602678819172646912) ∧ w = w' := by
  have h1 := ex_bits 4602678819172646912
  have h2 := ex_fromI 4602678819172646912 4602678819172646912 (by decide)
  have h3 : bits .andNot .u64 4602678819172646912 9223372036854775808 = 4602678819172646912 := by decide +kernel
  go_enter Tryd.func48, Tryd.ntmps48
  go_wp2_with fail
  go_ret
  exact ⟨rfl, rfl⟩
theorem m_infH (w : World) : Calls Tryd.prog 42 #[.float .f64 4602678819172646912, .int .i64 0] w fun r w' => r = .returned (.bool false) ∧ w = w' := by
  have h3 : (ford 4602678819172646912 9218868437227405311 == some .gt) = false := by decide +kernel
  go_enter Tryd.func42, Tryd.ntmps42
  go_wp2_with fail
  refine (m_absH _).mono ?_
  rintro r w1 ⟨rfl, rfl⟩
  go_wp2_with fail
  go_ret
  exact ⟨rfl, rfl⟩
theorem m_nanH (w : World) : Calls Tryd.prog 57 #[.float .f64 4602678819172646912] w fun r w' => r = .returned (.bool false) ∧ w = w' := by
  have h3 : (ford 4602678819172646912 4602678819172646912) = some .eq := by decide +kernel
  go_enter Tryd.func57, Tryd.ntmps57
  go_wp2_with fail
  go_ret
  exact ⟨rfl, rfl⟩
theorem m_normH (w : World) : Calls Tryd.prog 58 #[.float .f64 4602678819172646912] w fun r w' => r = .returned (.tuple #[.float .f64 4602678819172646912, .int .i64 0]) ∧ w = w' := by
  have h3 : (ford 4602678819172646912 4503599627370496) = some .gt := by decide +kernel
  go_enter Tryd.func58, Tryd.ntmps58
  go_wp2_with fail
  refine (m_absH _).mono ?_
  rintro r w1 ⟨rfl, rfl⟩
  go_wp2_with fail
  go_ret2
  exact ⟨rfl, rfl⟩
theorem m_ldexp1 (w : World) : Calls Tryd.prog 52 #[.float .f64 4602678819172646912, .int .i64 53] w fun r w' => r = .returned (.float .f64 4841369599423283200) ∧ w = w' := by
  have h0 : (ford 4602678819172646912 0) = some .gt := by decide +kernel
  have h1 := ex_bits 4602678819172646912
  have h2 := ex_fromI 4841369599423283200 4841369599423283200 (by decide)
  have b1 : bits .and .i64 1022 2047 = 1022 := by decide +kernel
  have b2 : bits .andNot .u64 4602678819172646912 9218868437227405312 = 0 := by decide +kernel
  have b3 : bits .or .u64 0 4841369599423283200 = 4841369599423283200 := by decide +kernel
  have h4 := mulF (a := 4607182418800017408) (b := 4841369599423283200) (r := 4841369599423283200) (by decide +kernel)
  go_enter Tryd.func52, Tryd.ntmps52
  go_wp2_with fail
  refine (m_infH _).mono ?_
  rintro r w1 ⟨rfl, rfl⟩
  go_wp2_with fail
  refine (m_nanH _).mono ?_
  rintro r w1 ⟨rfl, rfl⟩
  go_wp2_with fail
  refine (m_normH _).mono ?_
  rintro r w1 ⟨rfl, rfl⟩
  go_wp2_with fail
  go_ret
  exact ⟨rfl, rfl⟩
theorem m_Ldexp1 (w : World) : Calls Tryd.prog 45 #[.float .f64 4602678819172646912, .int .i64 53] w fun r w' => r = .returned (.float .f64 4841369599423283200) ∧ w = w' := by
  go_enter Tryd.func45, Tryd.ntmps45
  go_wp2_with fail
  refine (m_ldexp1 _).mono ?_
  rintro r w1 ⟨rfl, rfl⟩
  go_wp2_with fail
  go_ret
  exact ⟨rfl, rfl⟩
theorem cv1 (w : World) : (convert 22 2 (.float .f64 4841369599423283200)).run Tryd.prog w = .ok (.int .i64 4503599627370496) w := by kernel_rfl
set_option maxRecDepth 100000 in
theorem parts1 (w : World) : Calls Tryd.prog 35 #[.float .f64 4607182418800017408] w fun r w' => r = .returned (.tuple #[.int .i64 1, .int .i64 0]) ∧ w = w' := by
  have h4 := cv1
  go_enter Tryd.func35, Tryd.ntmps35
  go_wp2_with fail
  refine wp_scope_jumps 0 (fun a' w' => w' = w ∧ ∃ (j : Nat) (q e : Int) (u0 u1 u2 u3 u4 u7 u8 u9 u10 u11 u12 u13 u14 u15 u16 u17 u18 u19 u20 u21 u22 u23 u24 u25 : Value), a' = { tmps := #[u0, u1, u2, u3, u4, .int .i64 e, .int .i64 q, u7, u8, u9, u10, u11, u12, u13, u14, u15, u16, u17, u18, u19, u20, u21, u22, u23, u24, u25], defers := [] } ∧ j ≤ 52 ∧ q = 2 ^ j ∧ e = -(j : Int)) (fun a' _ => (intOf (a'.tmps.getD 6 undef)).toNat) rfl ?_ ?_
  · go_wp2_with fail
    refine (m_Frexp1 _).mono ?_
    rintro r w1 ⟨rfl, rfl⟩
    go_wp2_with fail
    refine (m_Ldexp1 _).mono ?_
    rintro r w1 ⟨rfl, rfl⟩
    go_wp2_with fail
    go_step3
    go_wp2_with fail
    go_step3
    refine ⟨rfl, rfl, 51, _, _, _, _, _, _, _, _, _, _, _, _, _, _, _, _, _, _, _, _, _, _, _, _, _, _, rfl, by omega, by decide, by decide⟩
  · rintro a' w' ⟨rfl, j, q, e, u0, u1, u2, u3, u4, u7, u8, u9, u10, u11, u12, u13, u14, u15, u16, u17, u18, u19, u20, u21, u22, u23, u24, u25, rfl, hj, hq, he⟩
    rcases j with _ | j
    · have hq1 : q = 1 := by rw [hq]; rfl
      have he0 : e = 0 := by rw [he]; rfl
      subst hq1 he0
      clear hq he
      go_wp2_with fail
      unfold Exit.jump
      simp only []
      go_ret2
      exact ⟨rfl, rfl⟩
    · obtain ⟨p, hp⟩ : ∃ p : Int, p = 2 ^ j := ⟨_, rfl⟩
      have hpos : (0 : Int) < p := by rw [hp]; exact Int.pow_pos (by decide)
      have hlt : p ≤ 2251799813685248 := by
        have h1 : 2 ^ j ≤ 2 ^ 51 := Nat.pow_le_pow_right (n := 2) (by decide) (show j ≤ 51 by omega)
        have h2 := Int.ofNat_le.2 h1
        rw [Int.natCast_pow] at h2
        rw [hp]
        exact h2
      have hq2 : q = 2 * p := by rw [hq, hp, Int.pow_succ, Int.mul_comm]
      have t1 : q.tmod 2 = 0 := by rw [hq2]; exact Int.mul_tmod_right _ _
      have t2 : q.tdiv 2 = p := by rw [hq2]; exact Int.mul_tdiv_cancel_left _ (by decide)
      have t3 : wrap64 p = p := by simp only [wrap64]; omega
      have t4 : wrap64 (e + 1) = e + 1 := by simp only [wrap64]; omega
      have HQ := Lib.hid hq2
      have HP := Lib.hid hp
      have HE := Lib.hid he
      have HL := Lib.hid hlt
      have HO := Lib.hid hpos
      clear hq hq2 hp he hlt hpos
      go_wp2_with fail
      go_step3
      have hq2 := HQ.out
      have hpos := HO.out
      have he := HE.out
      refine ⟨rfl, ⟨rfl, j, _, _, _, _, _, _, _, _, _, _, _, _, _, _, _, _, _, _, _, _, _, _, _, _, _, _, rfl, by omega, by rw [t3]; exact HP.out, by omega⟩, ?_⟩
      simp [intOf]
      omega
def intE : KEnc Tryd.prog 3 Int where
  enc := .int .i64
  ok := fun a => (Lit.int .i64 a).wf = true
  law := Maps.int_keyed Tryd.underlying3
  key := fun {a} h => ⟨_, Maps.keyOf_int_mk Tryd.underlying3 h⟩
  inj := fun h => by injection h
abbrev strV (s : ByteArray) : Value := .string s
theorem names1 (w : World) : Calls Tryd.prog 33 #[] w fun r w' => ∃ m f, r = .returned (.map (some m)) ∧ MapIn intE strV w' m f ∧ f 5 = none ∧ w.heap.size ≤ m ∧ Fr (fun _ => False) w w' := by
  have hm0 := MapIn.new intE strV w
  have hF0 := (Fr.refl (fun _ => False) w).alloc (.map #[] 0)
  obtain ⟨w1, r1, M1, F1, z1⟩ := hm0.update Tryd.underlying55 (a := 0) (show (Lit.int .i64 _).wf = true by decide) ⟨#[110, 97, 110]⟩
  obtain ⟨w2, r2, M2, F2, z2⟩ := M1.update Tryd.underlying55 (a := 1) (show (Lit.int .i64 _).wf = true by decide) ⟨#[45, 105, 110, 102]⟩
  obtain ⟨w3, r3, M3, F3, z3⟩ := M2.update Tryd.underlying55 (a := 3) (show (Lit.int .i64 _).wf = true by decide) ⟨#[45, 48]⟩
  obtain ⟨w4, r4, M4, F4, z4⟩ := M3.update Tryd.underlying55 (a := 4) (show (Lit.int .i64 _).wf = true by decide) ⟨#[48]⟩
  obtain ⟨w5, r5, M5, F5, z5⟩ := M4.update Tryd.underlying55 (a := 6) (show (Lit.int .i64 _).wf = true by decide) ⟨#[105, 110, 102]⟩
  have hmm := @run_makeMap Tryd.prog
  have HM := Lib.hid M5
  have HF := Lib.hid (hF0.trans' ((((F1.trans F2).trans F3).trans F4).trans F5) (fun i hi h => by omega))
  have q1 : (Instr.mapUpdate 55 (.map (some w.heap.size)) (.int .i64 0) (.string ⟨#[110, 97, 110]⟩)).run Tryd.prog (w.alloc (.map #[] 0)) = .ok () w1 := r1
  have q2 : (Instr.mapUpdate 55 (.map (some w.heap.size)) (.int .i64 1) (.string ⟨#[45, 105, 110, 102]⟩)).run Tryd.prog (w1) = .ok () w2 := r2
  have q3 : (Instr.mapUpdate 55 (.map (some w.heap.size)) (.int .i64 3) (.string ⟨#[45, 48]⟩)).run Tryd.prog (w2) = .ok () w3 := r3
  have q4 : (Instr.mapUpdate 55 (.map (some w.heap.size)) (.int .i64 4) (.string ⟨#[48]⟩)).run Tryd.prog (w3) = .ok () w4 := r4
  have q5 : (Instr.mapUpdate 55 (.map (some w.heap.size)) (.int .i64 6) (.string ⟨#[105, 110, 102]⟩)).run Tryd.prog (w4) = .ok () w5 := r5
  clear r1 r2 r3 r4 r5
  clear hm0 hF0 M1 M2 M3 M4 M5 F1 F2 F3 F4 F5 z1 z2 z3 z4 z5
  go_enter Tryd.func33, Tryd.ntmps33
  go_wp2_with fail
  go_ret
  exact ⟨_, _, rfl, HM.out, rfl, Nat.le_refl _, HF.out⟩
theorem sm_0 (w : World) : Calls Tryd.prog 53 #[.int .i64 0] w fun r w' => r = .returned (.string ⟨#[48]⟩) ∧ w = w' := by
  go_enter Tryd.func53, Tryd.ntmps53
  go_wp2_with fail
  go_ret
  exact ⟨rfl, rfl⟩
theorem fi_0 (w : World) : Calls Tryd.prog 46 #[.int .i64 0, .int .i64 10] w fun r w' => r = .returned (.string ⟨#[48]⟩) ∧ w = w' := by
  go_enter Tryd.func46, Tryd.ntmps46
  go_wp2_with fail
  refine (sm_0 _).mono ?_
  rintro r w1 ⟨rfl, rfl⟩
  go_wp2_with fail
  go_ret
  exact ⟨rfl, rfl⟩
theorem sm_1 (w : World) : Calls Tryd.prog 53 #[.int .i64 1] w fun r w' => r = .returned (.string ⟨#[49]⟩) ∧ w = w' := by
  go_enter Tryd.func53, Tryd.ntmps53
  go_wp2_with fail
  go_ret
  exact ⟨rfl, rfl⟩
theorem fi_1 (w : World) : Calls Tryd.prog 46 #[.int .i64 1, .int .i64 10] w fun r w' => r = .returned (.string ⟨#[49]⟩) ∧ w = w' := by
  go_enter Tryd.func46, Tryd.ntmps46
  go_wp2_with fail
  refine (sm_1 _).mono ?_
  rintro r w1 ⟨rfl, rfl⟩
  go_wp2_with fail
  go_ret
  exact ⟨rfl, rfl⟩
theorem FI_1 (w : World) : Calls Tryd.prog 36 #[.int .i64 1, .int .i64 10] w fun r w' => r = .returned (.string ⟨#[49]⟩) ∧ w = w' := by
  go_enter Tryd.func36, Tryd.ntmps36
  go_wp2_with fail
  refine (fi_1 _).mono ?_
  rintro r w1 ⟨rfl, rfl⟩
  go_wp2_with fail
  go_ret
  exact ⟨rfl, rfl⟩
theorem it_0 (w : World) : Calls Tryd.prog 47 #[.int .i64 0] w fun r w' => r = .returned (.string ⟨#[48]⟩) ∧ w = w' := by
  go_enter Tryd.func47, Tryd.ntmps47
  go_wp2_with fail
  refine (fi_0 _).mono ?_
  rintro r w1 ⟨rfl, rfl⟩
  go_wp2_with fail
  go_ret
  exact ⟨rfl, rfl⟩
theorem IT_0 (w : World) : Calls Tryd.prog 37 #[.int .i64 0] w fun r w' => r = .returned (.string ⟨#[48]⟩) ∧ w = w' := by
  go_enter Tryd.func37, Tryd.ntmps37
  go_wp2_with fail
  refine (it_0 _).mono ?_
  rintro r w1 ⟨rfl, rfl⟩
  go_wp2_with fail
  go_ret
  exact ⟨rfl, rfl⟩
theorem text1 (w : World) : Calls Tryd.prog 23 #[.float .f64 4607182418800017408] w fun r w' => r = .returned (.string ⟨#[49, 112, 48]⟩) ∧ Fr (fun _ => False) w w' := by
  have hk : kindP 4607182418800017408 = 5 := by decide +kernel
  go_enter Tryd.func23, Tryd.ntmps23
  go_wp2_with fail
  refine (names1 _).mono ?_
  rintro r w1 ⟨m, f, rfl, hM, h5, hge, hF⟩
  have hl : (Instr.lookup 55 (.map (some m)) (.int .i64 5) true).run Tryd.prog w1 = .ok (.tuple #[.string ByteArray.empty, .bool false]) w1 := by
    have := hM.run_lookup Tryd.underlying55 (z := .string ByteArray.empty) (by kernel_rfl) (a := 5) (show (Lit.int .i64 5).wf = true by decide) true
    rw [h5] at this
    exact this
  have HF := Lib.hid hF
  clear hM h5 hge hF
  go_wp2_with fail
  refine (real_kind _ (by decide) _).mono ?_
  rintro r w2 ⟨rfl, rfl⟩
  rw [hk]
  go_wp2_with fail
  refine (parts1 _).mono ?_
  rintro r w2 ⟨rfl, rfl⟩
  go_wp2_with fail
  refine (FI_1 _).mono ?_
  rintro r w2 ⟨rfl, rfl⟩
  go_wp2_with fail
  refine (IT_0 _).mono ?_
  rintro r w2 ⟨rfl, rfl⟩
  go_wp2_with fail
  go_ret
  exact ⟨rfl, HF.out⟩
end Go.Proofs.YtmldjemjjpibmaaDoor
