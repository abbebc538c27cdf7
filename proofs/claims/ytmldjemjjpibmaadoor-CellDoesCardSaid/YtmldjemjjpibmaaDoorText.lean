/- The text of any number. -/
import Derived.Test.YtmldjemjjpibmaaDoorParts
import Derived.Test.YtmldjemjjpibmaaDoorShelfI
import Derived.Lib.AppendIntMem
import Derived.Lib.ItoaLen
set_option linter.unusedVariables false
set_option linter.unusedSimpArgs false
namespace Go.Proofs.YtmldjemjjpibmaaDoor
open Go.RowKit
open Go.Proofs.YtmldjemjjpibmaaDoorW.PrintWords

/-- The table of the powers of ten. -/
def Tab (w : World) : Prop := Lib.TabIs Tryd.prog w "internal/strconv.uint64pow10" .u64 Lib.pow10Tab
theorem Tab.fr {w w' : World} (h : Tab w) (hF : Fr (fun _ => False) w w') : Tab w' := Lib.tabBelow_of_tabIs h w' (hF.below (fun _ _ h => h))
theorem FI (n : Int) (h0 : -9223372036854775808 ≤ n) (h1 : n ≤ 9223372036854775807) (w : World) (ht : Tab w) : Calls Tryd.prog 36 #[.int .i64 n, .int .i64 10] w fun r w' => r = .returned (.string ⟨(Lib.itoa n).toArray⟩) ∧ Fr (fun _ => False) w w' := by
  go_enter Tryd.func36, Tryd.ntmps36
  go_wp2_with fail
  refine (Tryd.internal_strconv_FormatInt_10 n h0 h1 _ ht).mono ?_
  rintro r w1 ⟨rfl, k, os, rfl⟩
  obtain ⟨w1, hw1⟩ : ∃ w1, w1 = Go.Sort.grow (w.drewN k) os := ⟨_, rfl⟩
  have hF := Fr.of_below (S := fun _ => False) (Lib.below_grow w.heap.size w (Nat.le_refl _) k os)
  rw [← hw1] at hF ⊢
  clear hw1
  go_wp2_with fail
  go_ret
  exact ⟨rfl, hF⟩
theorem IT (n : Int) (h0 : -9223372036854775808 ≤ n) (h1 : n ≤ 9223372036854775807) (w : World) (ht : Tab w) : Calls Tryd.prog 37 #[.int .i64 n] w fun r w' => r = .returned (.string ⟨(Lib.itoa n).toArray⟩) ∧ Fr (fun _ => False) w w' := by
  go_enter Tryd.func37, Tryd.ntmps37
  go_wp2_with fail
  refine (Tryd.internal_strconv_Itoa n h0 h1 _ ht).mono ?_
  rintro r w1 ⟨rfl, k, os, rfl⟩
  obtain ⟨w1, hw1⟩ : ∃ w1, w1 = Go.Sort.grow (w.drewN k) os := ⟨_, rfl⟩
  have hF := Fr.of_below (S := fun _ => False) (Lib.below_grow w.heap.size w (Nat.le_refl _) k os)
  rw [← hw1] at hF ⊢
  clear hw1
  go_wp2_with fail
  go_ret
  exact ⟨rfl, hF⟩
theorem kind_fin {x : Nat} (h : kindP x = 2 ∨ kindP x = 5) : 0 < rung x ∧ rung x < 9218868437227405312 := by
  unfold kindP at h
  unfold nanW rank at h
  cases hn : negW x <;> rw [hn] at h <;> simp only [if_true, if_false, Bool.false_eq_true] at h
  all_goals
    repeat' split at h
    all_goals first | omega | (exfalso; revert h; decide)
theorem kind_all (x : Nat) : kindP x = 0 ∨ kindP x = 1 ∨ kindP x = 2 ∨ kindP x = 3 ∨ kindP x = 4 ∨ kindP x = 5 ∨ kindP x = 6 := by
  unfold kindP
  repeat' split
  all_goals simp
theorem odd_bound {x o t : Nat} (h0 : 0 < rung x) (h1 : rung x < 9218868437227405312) (hs : scale (rung x) = o * 2 ^ t) (ho : o % 2 = 1) : o < 9007199254740992 ∧ t ≤ 3000 := by
  unfold scale at hs
  rcases Nat.lt_or_ge (rung x) 4503599627370496 with h | h
  · rw [if_pos h] at hs
    have h2 : o ≤ rung x := by rw [hs]; exact Nat.le_mul_of_pos_right _ (Nat.two_pow_pos t)
    refine ⟨by omega, ?_⟩
    rcases Nat.lt_or_ge 3000 t with h3 | h3
    · have h4 : 2 ^ 52 ≤ 2 ^ t := Nat.pow_le_pow_right (by decide) (by omega)
      have h5 : 2 ^ t ≤ rung x := by rw [hs]; exact Nat.le_mul_of_pos_left _ (by omega)
      have h6 : (2 : Nat) ^ 52 = 4503599627370496 := by decide
      omega
    · exact h3
  · rw [if_neg (by omega)] at hs
    obtain ⟨o', J, hoJ, ho'⟩ := odd_ex (4503599627370496 + rung x % 4503599627370496) (by omega)
    rw [hoJ, Nat.mul_assoc, ← Nat.pow_add] at hs
    obtain ⟨rfl, hJ⟩ := odd_one hs ho' ho
    have h2 : o' ≤ o' * 2 ^ J := Nat.le_mul_of_pos_right _ (Nat.two_pow_pos J)
    refine ⟨by omega, ?_⟩
    rcases Nat.lt_or_ge 52 J with h3 | h3
    · have h4 : 2 ^ 53 ≤ 2 ^ J := Nat.pow_le_pow_right (by decide) (by omega)
      have h5 : 2 ^ J ≤ o' * 2 ^ J := Nat.le_mul_of_pos_left _ (by omega)
      have h6 : (2 : Nat) ^ 53 = 9007199254740992 := by decide
      omega
    · omega
theorem cat_text (a b : List UInt8) : (⟨a.toArray⟩ ++ ⟨#[112]⟩ ++ ⟨b.toArray⟩ : ByteArray) = ⟨(a ++ 112 :: b).toArray⟩ := by
  apply ByteArray.ext
  simp [ByteArray.data_append]
theorem namesA (w : World) : Calls Tryd.prog 33 #[] w fun r w' => ∃ m f, r = .returned (.map (some m)) ∧ MapIn intE strV w' m f ∧ (f 0 = some ⟨#[110, 97, 110]⟩ ∧ f 1 = some ⟨#[45, 105, 110, 102]⟩ ∧ f 2 = none ∧ f 3 = some ⟨#[45, 48]⟩ ∧ f 4 = some ⟨#[48]⟩ ∧ f 5 = none ∧ f 6 = some ⟨#[105, 110, 102]⟩) ∧ Fr (fun _ => False) w w' := by
  have hm0 := MapIn.new intE strV w
  have hF0 := (Fr.refl (fun _ => False) w).alloc (.map #[] 0)
  obtain ⟨w1, r1, M1, F1, z1⟩ := hm0.update Tryd.underlying55 (a := 0) (show (Lit.int .i64 _).wf = true by decide) ⟨#[110, 97, 110]⟩
  obtain ⟨w2, r2, M2, F2, z2⟩ := M1.update Tryd.underlying55 (a := 1) (show (Lit.int .i64 _).wf = true by decide) ⟨#[45, 105, 110, 102]⟩
  obtain ⟨w3, r3, M3, F3, z3⟩ := M2.update Tryd.underlying55 (a := 3) (show (Lit.int .i64 _).wf = true by decide) ⟨#[45, 48]⟩
  obtain ⟨w4, r4, M4, F4, z4⟩ := M3.update Tryd.underlying55 (a := 4) (show (Lit.int .i64 _).wf = true by decide) ⟨#[48]⟩
  obtain ⟨w5, r5, M5, F5, z5⟩ := M4.update Tryd.underlying55 (a := 6) (show (Lit.int .i64 _).wf = true by decide) ⟨#[105, 110, 102]⟩
  have hmm := @run_makeMap Tryd.prog
  have HM := Lib.hid M5
  have HF := Lib.hid (hF0.trans' ((((F1.trans F2).trans F3).trans F4).trans F5) (fun i hi h => by omega))
  have q1 : (Instr.mapUpdate 55 (.map (some w.heap.size)) (.int .i64 0) (.string ⟨#[110, 97, 110]⟩)).run Tryd.prog (w.alloc (.map #[] 0)) = .ok () w1 := r1
  have q2 : (Instr.mapUpdate 55 (.map (some w.heap.size)) (.int .i64 1) (.string ⟨#[45, 105, 110, 102]⟩)).run Tryd.prog (w1) = .ok () w2 := r2
  have q3 : (Instr.mapUpdate 55 (.map (some w.heap.size)) (.int .i64 3) (.string ⟨#[45, 48]⟩)).run Tryd.prog (w2) = .ok () w3 := r3
  have q4 : (Instr.mapUpdate 55 (.map (some w.heap.size)) (.int .i64 4) (.string ⟨#[48]⟩)).run Tryd.prog (w3) = .ok () w4 := r4
  have q5 : (Instr.mapUpdate 55 (.map (some w.heap.size)) (.int .i64 6) (.string ⟨#[105, 110, 102]⟩)).run Tryd.prog (w4) = .ok () w5 := r5
  clear r1 r2 r3 r4 r5
  clear hm0 hF0 M1 M2 M3 M4 M5 F1 F2 F3 F4 F5 z1 z2 z3 z4 z5
  go_enter Tryd.func33, Tryd.ntmps33
  go_wp2_with fail
  go_ret
  exact ⟨_, _, rfl, HM.out, ⟨rfl, rfl, rfl, rfl, rfl, rfl, rfl⟩, HF.out⟩
set_option maxRecDepth 100000 in
theorem ex_text (x : Nat) (hx : x < 18446744073709551616) (w : World) (htab : Tab w) : Calls Tryd.prog 23 #[.float .f64 x] w fun r w' => ∃ s, r = .returned (.string ⟨s.toArray⟩) ∧ TextIs x s ∧ Fr (fun _ => False) w w' := by
  have HT := Lib.hid htab
  clear htab
  obtain ⟨kd, hkd⟩ : ∃ k, k = kindP x := ⟨_, rfl⟩
  have HK := Lib.hid hkd
  have ha := kind_all x
  rw [← hkd] at ha
  go_enter Tryd.func23, Tryd.ntmps23
  go_wp2_with fail
  refine (namesA _).mono ?_
  rintro r w1 ⟨m, f, rfl, hM, ⟨f0, f1, f2, f3, f4, f5, f6⟩, hF⟩
  have hl := fun (k : Int) (h : (Lit.int .i64 k).wf = true) => hM.run_lookup Tryd.underlying55 (z := .string ByteArray.empty) (by kernel_rfl) (a := k) h true
  have HF := Lib.hid hF
  clear hM hF
  go_wp2_with fail
  refine (real_kind _ hx _).mono ?_
  rintro r w2 ⟨rfl, rfl⟩
  rw [← hkd]
  have hfin : kd = 2 ∨ kd = 5 → 0 < rung x ∧ rung x < 9218868437227405312 := fun h => kind_fin (by rw [← hkd]; exact h)
  clear hkd
  rcases ha with rfl | rfl | rfl | rfl | rfl | rfl | rfl
  · replace hl : (Instr.lookup 55 (.map (some m)) (.int .i64 0) true).run Tryd.prog w1 = .ok (.tuple #[.string ⟨#[110, 97, 110]⟩, .bool true]) w1 := by have h := hl 0 (by decide); rw [f0] at h; exact h
    clear f0 f1 f2 f3 f4 f5 f6 hfin
    go_wp2_with fail
    go_ret
    exact ⟨[110, 97, 110], rfl, .inr ⟨by rw [← HK.out]; decide, by rw [← HK.out]; rfl⟩, HF.out⟩
  · replace hl : (Instr.lookup 55 (.map (some m)) (.int .i64 1) true).run Tryd.prog w1 = .ok (.tuple #[.string ⟨#[45, 105, 110, 102]⟩, .bool true]) w1 := by have h := hl 1 (by decide); rw [f1] at h; exact h
    clear f0 f1 f2 f3 f4 f5 f6 hfin
    go_wp2_with fail
    go_ret
    exact ⟨[45, 105, 110, 102], rfl, .inr ⟨by rw [← HK.out]; decide, by rw [← HK.out]; rfl⟩, HF.out⟩
  · replace hl : (Instr.lookup 55 (.map (some m)) (.int .i64 2) true).run Tryd.prog w1 = .ok (.tuple #[.string ByteArray.empty, .bool false]) w1 := by have h := hl 2 (by decide); rw [f2] at h; exact h
    clear f0 f1 f2 f3 f4 f5 f6
    obtain ⟨h0, h1⟩ := hfin (by decide)
    have hs0 : 0 < scale (rung x) := by have := scale_mono h0; omega
    obtain ⟨o, t, hs, ho⟩ := odd_ex _ hs0
    have HP := Lib.hid (ex_parts x o t hx h0 h1 hs ho)
    have HS := Lib.hid (And.intro hs ho)
    have HB := Lib.hid (odd_bound h0 h1 hs ho)
    obtain ⟨mv, hmv⟩ : ∃ m, m = sgnI (negW x) o := ⟨_, rfl⟩
    obtain ⟨ev, hev⟩ : ∃ e, e = (t : Int) - 1074 := ⟨_, rfl⟩
    rw [← hmv, ← hev] at HP
    have HM := Lib.hid (And.intro hmv hev)
    have hmb := sgnI_abs (negW x) o
    rw [← hmv] at hmb
    have hm1 : -9223372036854775808 ≤ mv := by have := HB.out; omega
    have hm2 : mv ≤ 9223372036854775807 := by have := HB.out; omega
    have he1 : -9223372036854775808 ≤ ev := by have := HB.out; omega
    have he2 : ev ≤ 9223372036854775807 := by have := HB.out; omega
    have hfi := FI mv hm1 hm2
    have hit := IT ev he1 he2
    obtain ⟨s1, hs1⟩ : ∃ s, s = (⟨(Lib.itoa mv).toArray⟩ : ByteArray) := ⟨_, rfl⟩
    obtain ⟨s2, hs2⟩ : ∃ s, s = (⟨(Lib.itoa ev).toArray⟩ : ByteArray) := ⟨_, rfl⟩
    have z1 : s1.size ≤ 21 := by rw [hs1]; exact Lib.itoa_length_le mv hm1 hm2
    have z2 : s2.size ≤ 21 := by rw [hs2]; exact Lib.itoa_length_le ev he1 he2
    have z3 : (s1 ++ ⟨#[112]⟩).size ≤ 22 := by rw [ByteArray.size_append]; exact Nat.add_le_add_right z1 1
    rw [← hs1] at hfi
    rw [← hs2] at hit
    have HSS := Lib.hid (And.intro hs1 hs2)
    have HFI := Lib.hid hfi
    have HIT := Lib.hid hit
    clear hs1 hs2 hfin h0 h1 hs0 hs ho hmv hev hmb hm1 hm2 he1 he2 hfi hit
    go_wp2_with fail
    refine (HP.out _).mono ?_
    rintro r w2 ⟨rfl, rfl⟩
    go_wp2_with fail
    refine (HFI.out _ (HT.out.fr HF.out)).mono ?_
    rintro r w3 ⟨rfl, hF3⟩
    have HF3 := Lib.hid (HF.out.trans hF3)
    clear hF3
    go_wp2_with fail
    refine (HIT.out _ (HT.out.fr HF3.out)).mono ?_
    rintro r w4 ⟨rfl, hF4⟩
    have HF4 := Lib.hid (HF3.out.trans hF4)
    clear hF4
    go_wp2_with fail
    go_ret
    refine ⟨Lib.itoa mv ++ 112 :: Lib.itoa ev, ?_, .inl ⟨by rw [← HK.out]; decide, o, t, HS.out.1, HS.out.2, by rw [HM.out.1, HM.out.2]⟩, HF4.out⟩
    rw [HSS.out.1, HSS.out.2, cat_text]
    rfl
  · replace hl : (Instr.lookup 55 (.map (some m)) (.int .i64 3) true).run Tryd.prog w1 = .ok (.tuple #[.string ⟨#[45, 48]⟩, .bool true]) w1 := by have h := hl 3 (by decide); rw [f3] at h; exact h
    clear f0 f1 f2 f3 f4 f5 f6 hfin
    go_wp2_with fail
    go_ret
    exact ⟨[45, 48], rfl, .inr ⟨by rw [← HK.out]; decide, by rw [← HK.out]; rfl⟩, HF.out⟩
  · replace hl : (Instr.lookup 55 (.map (some m)) (.int .i64 4) true).run Tryd.prog w1 = .ok (.tuple #[.string ⟨#[48]⟩, .bool true]) w1 := by have h := hl 4 (by decide); rw [f4] at h; exact h
    clear f0 f1 f2 f3 f4 f5 f6 hfin
    go_wp2_with fail
    go_ret
    exact ⟨[48], rfl, .inr ⟨by rw [← HK.out]; decide, by rw [← HK.out]; rfl⟩, HF.out⟩
  · replace hl : (Instr.lookup 55 (.map (some m)) (.int .i64 5) true).run Tryd.prog w1 = .ok (.tuple #[.string ByteArray.empty, .bool false]) w1 := by have h := hl 5 (by decide); rw [f5] at h; exact h
    clear f0 f1 f2 f3 f4 f5 f6
    obtain ⟨h0, h1⟩ := hfin (by decide)
    have hs0 : 0 < scale (rung x) := by have := scale_mono h0; omega
    obtain ⟨o, t, hs, ho⟩ := odd_ex _ hs0
    have HP := Lib.hid (ex_parts x o t hx h0 h1 hs ho)
    have HS := Lib.hid (And.intro hs ho)
    have HB := Lib.hid (odd_bound h0 h1 hs ho)
    obtain ⟨mv, hmv⟩ : ∃ m, m = sgnI (negW x) o := ⟨_, rfl⟩
    obtain ⟨ev, hev⟩ : ∃ e, e = (t : Int) - 1074 := ⟨_, rfl⟩
    rw [← hmv, ← hev] at HP
    have HM := Lib.hid (And.intro hmv hev)
    have hmb := sgnI_abs (negW x) o
    rw [← hmv] at hmb
    have hm1 : -9223372036854775808 ≤ mv := by have := HB.out; omega
    have hm2 : mv ≤ 9223372036854775807 := by have := HB.out; omega
    have he1 : -9223372036854775808 ≤ ev := by have := HB.out; omega
    have he2 : ev ≤ 9223372036854775807 := by have := HB.out; omega
    have hfi := FI mv hm1 hm2
    have hit := IT ev he1 he2
    obtain ⟨s1, hs1⟩ : ∃ s, s = (⟨(Lib.itoa mv).toArray⟩ : ByteArray) := ⟨_, rfl⟩
    obtain ⟨s2, hs2⟩ : ∃ s, s = (⟨(Lib.itoa ev).toArray⟩ : ByteArray) := ⟨_, rfl⟩
    have z1 : s1.size ≤ 21 := by rw [hs1]; exact Lib.itoa_length_le mv hm1 hm2
    have z2 : s2.size ≤ 21 := by rw [hs2]; exact Lib.itoa_length_le ev he1 he2
    have z3 : (s1 ++ ⟨#[112]⟩).size ≤ 22 := by rw [ByteArray.size_append]; exact Nat.add_le_add_right z1 1
    rw [← hs1] at hfi
    rw [← hs2] at hit
    have HSS := Lib.hid (And.intro hs1 hs2)
    have HFI := Lib.hid hfi
    have HIT := Lib.hid hit
    clear hs1 hs2 hfin h0 h1 hs0 hs ho hmv hev hmb hm1 hm2 he1 he2 hfi hit
    go_wp2_with fail
    refine (HP.out _).mono ?_
    rintro r w2 ⟨rfl, rfl⟩
    go_wp2_with fail
    refine (HFI.out _ (HT.out.fr HF.out)).mono ?_
    rintro r w3 ⟨rfl, hF3⟩
    have HF3 := Lib.hid (HF.out.trans hF3)
    clear hF3
    go_wp2_with fail
    refine (HIT.out _ (HT.out.fr HF3.out)).mono ?_
    rintro r w4 ⟨rfl, hF4⟩
    have HF4 := Lib.hid (HF3.out.trans hF4)
    clear hF4
    go_wp2_with fail
    go_ret
    refine ⟨Lib.itoa mv ++ 112 :: Lib.itoa ev, ?_, .inl ⟨by rw [← HK.out]; decide, o, t, HS.out.1, HS.out.2, by rw [HM.out.1, HM.out.2]⟩, HF4.out⟩
    rw [HSS.out.1, HSS.out.2, cat_text]
    rfl
  · replace hl : (Instr.lookup 55 (.map (some m)) (.int .i64 6) true).run Tryd.prog w1 = .ok (.tuple #[.string ⟨#[105, 110, 102]⟩, .bool true]) w1 := by have h := hl 6 (by decide); rw [f6] at h; exact h
    clear f0 f1 f2 f3 f4 f5 f6 hfin
    go_wp2_with fail
    go_ret
    exact ⟨[105, 110, 102], rfl, .inr ⟨by rw [← HK.out]; decide, by rw [← HK.out]; rfl⟩, HF.out⟩
end Go.Proofs.YtmldjemjjpibmaaDoor
