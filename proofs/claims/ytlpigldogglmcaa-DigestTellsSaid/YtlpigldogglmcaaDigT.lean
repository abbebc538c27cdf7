/- The law DigestTells, walked. -/
import Derived.Test.YtlpigldogglmcaaDigL
import Derived.Test.YtlpigldogglmcaaReg
set_option linter.unusedVariables false
set_option linter.unusedSimpArgs false
namespace Go.Proofs.Ytlpigldogglmcaa
open Go.RowKit
open Go.Proofs.YtlpigldogglmcaaW.PrintWords

set_option maxRecDepth 100000 in
theorem lawTells_long (A : Option Addr) (n c : Nat) (x y : Int) (w : World) (hl : 5000 < n) (hm : n ≤ 9223372036854775807) :
    Calls Try.prog 8 #[.slice A n c, .int .u64 x, .int .u64 y] w fun r w' => r = .returned (.bool true) ∧ Fr (fun _ => False) w w' := by
  go_enter Try.func8, Try.ntmps8
  go_wp2_with fail
  refine (works10 _).mono ?_
  rintro r w4 ⟨rfl, F4⟩
  go_wp2_with fail
  go_ret
  exact ⟨rfl, F4⟩

set_option maxRecDepth 100000 in
set_option maxHeartbeats 1000000 in
theorem lawTells (A : Option Addr) (xs : List Int) (c x y : Nat) (w : World) (hl : xs.length ≤ 5000) (hc : xs.length ≤ c) (hr : RdB w A xs) (hx : Byt xs) (hmx : x < 18446744073709551616) (hmy : y < 18446744073709551616) :
    Calls Try.prog 8 #[.slice A xs.length c, .int .u64 x, .int .u64 y] w fun r w' => r = .returned (.bool true) ∧ Fr (fun _ => False) w w' := by
  have hb1 : ([] : List Int).length + xs.length ≤ 140737488355328 := by simp; omega
  have HHR := Lib.hid hr
  have HX := Lib.hid hx
  have HMX := Lib.hid hmx
  have HMY := Lib.hid hmy
  have hmk := make8 (xs.length + 9) (by omega)
  simp only [Int.natCast_add] at hmk
  replace hmk : ∀ W : World, (Instr.makeSlice 39 (.int .i64 0) (.int .i64 ((xs.length : Int) + 9))).run Try.prog W = .ok (.slice (some ⟨W.heap.size, 0, none⟩) 0 (xs.length + 9)) (W.alloc (.cells (madeCells #[.int .u8 0] (xs.length + 9)) 5)) := hmk
  have F0 : Fr (fun _ => False) w (w.alloc (.cells (madeCells #[.int .u8 0] (xs.length + 9)) 5)) := (Fr.refl _ _).alloc _
  have hr0 : RdB (w.alloc (.cells (madeCells #[.int .u8 0] (xs.length + 9)) 5)) A xs := hr.fr F0 (fun _ _ h => h)
  have ho0 := ow_make w (xs.length + 9) (by omega)
  have hs0 : w.heap.size ≤ (w.alloc (.cells (madeCells #[.int .u8 0] (xs.length + 9)) 5)).heap.size := F0.size
  clear hr hx hmx hmy
  go_enter Try.func8, Try.ntmps8
  go_wp2_with (at_builtin; go_must (refine append8_row w.heap.size rfl _ _ rfl (.slice (some ⟨w.heap.size, 0, none⟩) 0 (xs.length + 9)) [] xs A c rfl rfl ho0 hr0 hs0 hb1 ?_); intro v1 w1 hown hF)
  simp only [List.nil_append] at hown
  have F1 : Fr (fun _ => False) w w1 := F0.trans' hF (fun i hi hk => by have := hk.1; omega)
  clear F0 hF ho0 hr0 hs0 hmk
  obtain ⟨A1, c1, rfl, hr1⟩ := hown.reads
  have hc1 : xs.length ≤ c1 := hown.cap
  clear hown
  have HR1 := Lib.hid hr1
  clear hr1
  go_wp2_with fail
  refine (dig_seal A1 xs c1 w1 hc1 HR1.out HX.out (by omega)).mono ?_
  rintro r w2 ⟨v2, rfl, hos, F2⟩
  obtain ⟨S, hS⟩ : ∃ S, Hid (xs ++ be8 (dOf xs) = S) := ⟨_, rfl⟩
  rw [hS.out] at hos
  obtain ⟨AS, cS, rfl, hrS⟩ := hos.reads
  have F3 := F1.trans F2
  have KD : Fr (fun _ => False) w w2.drew := F3.drew
  have HB : ∀ w', Later w2.drew w' → Hid (RdB w' A xs) := fun w' hF => HHR.out.fr (KD.trans hF) (fun _ _ h => h)
  have kB : ∀ w', Later w2.drew w' → (convert 39 9 (.slice A xs.length c)).run Try.prog w' = .ok (.string (strOfNums xs)) w' := fun w' hF => conv_str8 (HB w' hF).out
  have kS : ∀ w', Later w2.drew w' → (convert 39 9 (.slice AS S.length cS)).run Try.prog w' = .ok (.string (strOfNums S)) w' := fun w' hF => conv_str8 (hrS.fr (((Fr.refl _ _).drew).trans hF) (fun _ _ h => h))
  have a1 := add_strO xs (be8 (dOf xs)) (by rw [be8_len]; omega)
  rw [hS.out] at a1
  obtain ⟨d, hd⟩ : ∃ d, Hid (dOf xs = d) := ⟨_, rfl⟩
  obtain ⟨X, hX⟩ : ∃ X, Hid (be8 x = X) := ⟨_, rfl⟩
  obtain ⟨Y, hY⟩ : ∃ Y, Hid (be8 y = Y) := ⟨_, rfl⟩
  obtain ⟨D, hD⟩ : ∃ D, Hid (be8 d = D) := ⟨_, rfl⟩
  have hXl : X.length + Y.length ≤ 140737488355328 := by rw [← hX.out, ← hY.out, be8_len, be8_len]; omega
  have bX : Hid (Byt (X ++ Y)) := by rw [← hX.out, ← hY.out]; exact (beTo_byt _ 8).append (beTo_byt _ 8)
  rw [hd.out, hD.out] at a1
  clear hos hrS F2 F1 HR1
  go_wp2_with fail
  refine rh_start 33 (by kernel_rfl) rfl ?_
  refine rh_take 0 (v := ?_) rfl (by kernel_rfl) (by kernel_rfl) (by kernel_rfl) (fun _ _ _ h => h) (by rfl) (by first | exact Fr.refl _ _ | assumption) ?_ ?_
  rotate_left 1
  · intro w hSw; go_simp <;> with_reducible rfl
  try simp only [Act.put, List.setIfInBounds_toArray, List.set_cons_zero, List.set_cons_succ]
  refine rh_take 2 (v := ?_) rfl (by kernel_rfl) (by kernel_rfl) (by kernel_rfl) (fun _ _ _ h => h) (by rfl) (by first | exact Fr.refl _ _ | assumption) ?_ ?_
  rotate_left 1
  · intro w hSw; go_simp <;> with_reducible rfl
  try simp only [Act.put, List.setIfInBounds_toArray, List.set_cons_zero, List.set_cons_succ]
  refine rh_one 1 rfl (by kernel_rfl) (fun K hK => ?_)
  go_simp
  refine (dig_of A xs c _ (HB _ (Fr.refl _ _)).out HX.out (by omega)).mono ?_
  rintro r w5 ⟨rfl, rfl⟩
  rw [hd.out]
  go_wp2_with fail
  refine hK.out _ _ _ (by first | assumption | exact Fr.refl _ _) (Fr.refl _ _) ?_
  clear hK K
  try simp only [Act.put, List.setIfInBounds_toArray, List.set_cons_zero, List.set_cons_succ]
  refine rh_one 3 rfl (by kernel_rfl) (fun K hK => ?_)
  go_simp
  refine (ref_of A xs c _ (HB _ (Fr.refl _ _)).out HX.out (by omega)).mono ?_
  rintro r w5 ⟨rfl, rfl⟩
  rw [hd.out]
  go_wp2_with fail
  refine hK.out _ _ _ (by first | assumption | exact Fr.refl _ _) (Fr.refl _ _) ?_
  clear hK K
  try simp only [Act.put, List.setIfInBounds_toArray, List.set_cons_zero, List.set_cons_succ]
  refine rh_take 4 (v := ?_) rfl (by kernel_rfl) (by kernel_rfl) (by kernel_rfl) (fun _ _ _ h => h) (by rfl) (by first | exact Fr.refl _ _ | assumption) ?_ ?_
  rotate_left 1
  · intro w hSw; go_simp <;> with_reducible rfl
  try simp only [Act.put, List.setIfInBounds_toArray, List.set_cons_zero, List.set_cons_succ]
  refine rh_take 5 (v := ?_) rfl (by kernel_rfl) (by kernel_rfl) (by kernel_rfl) (fun _ _ _ h => h) (by rfl) (by first | exact Fr.refl _ _ | assumption) ?_ ?_
  rotate_left 1
  · intro w hSw; go_simp <;> with_reducible rfl
  try simp only [Act.put, List.setIfInBounds_toArray, List.set_cons_zero, List.set_cons_succ]
  refine rh_take 6 (v := ?_) rfl (by kernel_rfl) (by kernel_rfl) (by kernel_rfl) (fun _ _ _ h => h) (by rfl) (by first | exact Fr.refl _ _ | assumption) ?_ ?_
  rotate_left 1
  · intro w hSw; go_simp <;> with_reducible rfl
  try simp only [Act.put, List.setIfInBounds_toArray, List.set_cons_zero, List.set_cons_succ]
  refine rh_take 7 (v := ?_) rfl (by kernel_rfl) (by kernel_rfl) (by kernel_rfl) (fun _ _ _ h => h) (by rfl) (by first | exact Fr.refl _ _ | assumption) ?_ ?_
  rotate_left 1
  · intro w hSw; go_simp <;> with_reducible rfl
  try simp only [Act.put, List.setIfInBounds_toArray, List.set_cons_zero, List.set_cons_succ]
  refine rh_take 9 (v := ?_) rfl (by kernel_rfl) (by kernel_rfl) (by kernel_rfl) (fun _ _ _ h => h) (by rfl) (by first | exact Fr.refl _ _ | assumption) ?_ ?_
  rotate_left 1
  · intro w hSw; go_simp <;> with_reducible rfl
  try simp only [Act.put, List.setIfInBounds_toArray, List.set_cons_zero, List.set_cons_succ]
  refine rh_take 11 (v := ?_) rfl (by kernel_rfl) (by kernel_rfl) (by kernel_rfl) (fun _ _ _ h => h) (by rfl) (by first | exact Fr.refl _ _ | assumption) ?_ ?_
  rotate_left 1
  · intro w hSw; go_simp <;> with_reducible rfl
  try simp only [Act.put, List.setIfInBounds_toArray, List.set_cons_zero, List.set_cons_succ]
  refine rh_one 8 rfl (by kernel_rfl) (fun K hK => ?_)
  go_simp
  refine (dig_mix x y _ HMX.out HMY.out).mono ?_
  rintro r w5 ⟨rfl, rfl⟩
  rw [hX.out, hY.out]
  go_wp2_with fail
  refine hK.out _ _ _ (by first | assumption | exact Fr.refl _ _) (Fr.refl _ _) ?_
  clear hK K
  try simp only [Act.put, List.setIfInBounds_toArray, List.set_cons_zero, List.set_cons_succ]
  refine rh_one 10 rfl (by kernel_rfl) (fun K hK => ?_)
  go_simp
  refine (ref_big x _ HMX.out).mono ?_
  rintro r w5 ⟨v5, rfl, ho5, F5⟩
  rw [hX.out] at ho5
  obtain ⟨A5, c5, rfl, _⟩ := ho5.reads
  have hs5 := F5.size
  go_wp2_with fail
  refine hK.out _ _ _ (Fr.refl _ _) (by first | assumption | exact Fr.refl _ _) ?_
  clear hK K
  try simp only [Act.put, List.setIfInBounds_toArray, List.set_cons_zero, List.set_cons_succ]
  refine rh_one 12 rfl (by kernel_rfl) (fun K hK => ?_)
  go_simp
  refine (ref_big y _ HMY.out).mono ?_
  rintro r w6 ⟨v6, rfl, ho6, F6⟩
  rw [hY.out] at ho6
  obtain ⟨A6, c6, rfl, hr6⟩ := ho6.reads
  have hs6 := F6.size
  replace ho5 := ho5.fr F6 (fun _ _ _ h => h)
  have F7 := F5.trans F6
  clear F5 F6
  go_wp2_with fail
  refine hK.out _ _ _ (Fr.refl _ _) (by first | assumption | exact Fr.refl _ _) ?_
  clear hK K
  try simp only [Act.put, List.setIfInBounds_toArray, List.set_cons_zero, List.set_cons_succ]
  refine rh_one 13 rfl (by kernel_rfl) (fun K hK => ?_)
  refine wp_append8 w2.drew.heap.size (by rfl) _ _ rfl (.slice A5 X.length c5) X Y A6 c6 rfl rfl ho5 hr6 (by omega) hXl ?_
  intro v7 w7 ho7 hF7
  have F8 : Fr (fun _ => False) w2.drew w7 := F7.trans' hF7 (fun i hi hk => by have := own_base ho5 i hk.symm; omega)
  obtain ⟨L, hL⟩ : ∃ L, Hid (X ++ Y = L) := ⟨_, rfl⟩
  have hLl : L.length ≤ 140737488355328 := by rw [← hL.out, List.length_append]; exact hXl
  rw [hL.out] at ho7 bX
  obtain ⟨A7, c7, rfl, hr7⟩ := ho7.reads
  clear ho7 ho5 ho6 hr6 hF7 F7
  refine hK.out _ _ _ (Fr.refl _ _) (by first | assumption | exact Fr.refl _ _) ?_
  clear hK K
  try simp only [Act.put, List.setIfInBounds_toArray, List.set_cons_zero, List.set_cons_succ]
  refine rh_one 14 rfl (by kernel_rfl) (fun K hK => ?_)
  go_simp
  refine (ref_of A7 L c7 _ hr7 bX.out hLl).mono ?_
  rintro r w8 ⟨rfl, rfl⟩
  rw [← hL.out]
  go_wp2_with fail
  refine hK.out _ _ _ (Fr.refl _ _) (by first | assumption | exact Fr.refl _ _) ?_
  clear hK K
  try simp only [Act.put, List.setIfInBounds_toArray, List.set_cons_zero, List.set_cons_succ]
  refine rh_take 15 (v := ?_) rfl (by kernel_rfl) (by kernel_rfl) (by kernel_rfl) (fun _ _ _ h => h) (by rfl) (by first | exact Fr.refl _ _ | assumption) ?_ ?_
  rotate_left 1
  · intro w hSw; go_simp <;> with_reducible rfl
  try simp only [Act.put, List.setIfInBounds_toArray, List.set_cons_zero, List.set_cons_succ]
  refine rh_take 16 (v := ?_) rfl (by kernel_rfl) (by kernel_rfl) (by kernel_rfl) (fun _ _ _ h => h) (by rfl) (by first | exact Fr.refl _ _ | assumption) ?_ ?_
  rotate_left 1
  · intro w hSw; go_simp <;> with_reducible rfl
  try simp only [Act.put, List.setIfInBounds_toArray, List.set_cons_zero, List.set_cons_succ]
  refine rh_take 17 (v := ?_) rfl (by kernel_rfl) (by kernel_rfl) (by kernel_rfl) (fun _ _ _ h => h) (by rfl) (by first | exact Fr.refl _ _ | assumption) ?_ ?_
  rotate_left 1
  · intro w hSw; go_simp <;> with_reducible rfl
  try simp only [Act.put, List.setIfInBounds_toArray, List.set_cons_zero, List.set_cons_succ]
  refine rh_take 18 (v := ?_) rfl (by kernel_rfl) (by kernel_rfl) (by kernel_rfl) (fun _ _ _ h => h) (by rfl) (by first | exact Fr.refl _ _ | assumption) ?_ ?_
  rotate_left 1
  · intro w hSw; go_simp <;> with_reducible rfl
  try simp only [Act.put, List.setIfInBounds_toArray, List.set_cons_zero, List.set_cons_succ]
  refine rh_take 19 (v := ?_) rfl (by kernel_rfl) (by kernel_rfl) (by kernel_rfl) (fun _ _ _ h => h) (by rfl) (by first | exact Fr.refl _ _ | assumption) ?_ ?_
  rotate_left 1
  · intro w hSw; go_simp <;> with_reducible rfl
  try simp only [Act.put, List.setIfInBounds_toArray, List.set_cons_zero, List.set_cons_succ]
  refine rh_take 20 (v := ?_) rfl (by kernel_rfl) (by kernel_rfl) (by kernel_rfl) (fun _ _ _ h => h) (by rfl) (by first | exact Fr.refl _ _ | assumption) ?_ ?_
  rotate_left 1
  · intro w hSw; go_simp <;> with_reducible rfl
  try simp only [Act.put, List.setIfInBounds_toArray, List.set_cons_zero, List.set_cons_succ]
  refine rh_take 21 (v := ?_) rfl (by kernel_rfl) (by kernel_rfl) (by kernel_rfl) (fun _ _ _ h => h) (by rfl) (by first | exact Fr.refl _ _ | assumption) ?_ ?_
  rotate_left 1
  · intro w hSw; go_simp <;> with_reducible rfl
  try simp only [Act.put, List.setIfInBounds_toArray, List.set_cons_zero, List.set_cons_succ]
  refine rh_take 22 (v := ?_) rfl (by kernel_rfl) (by kernel_rfl) (by kernel_rfl) (fun _ _ _ h => h) (by rfl) (by first | exact Fr.refl _ _ | assumption) ?_ ?_
  rotate_left 1
  · intro w hSw; go_simp <;> with_reducible rfl
  try simp only [Act.put, List.setIfInBounds_toArray, List.set_cons_zero, List.set_cons_succ]
  refine rh_one 23 rfl (by kernel_rfl) (fun K hK => ?_)
  go_simp
  refine (ref_of A xs c _ (HB _ F8).out HX.out (by omega)).mono ?_
  rintro r w5 ⟨rfl, rfl⟩
  rw [hd.out]
  go_wp2_with fail
  refine hK.out _ _ _ (Fr.refl _ _) (by first | assumption | exact Fr.refl _ _) ?_
  clear hK K
  try simp only [Act.put, List.setIfInBounds_toArray, List.set_cons_zero, List.set_cons_succ]
  refine rh_one 24 rfl (by kernel_rfl) (fun K hK => ?_)
  go_simp
  refine (ref_big d _ (by rw [← hd.out]; exact dOf_lt _)).mono ?_
  rintro r w9 ⟨v9, rfl, ho9, F9⟩
  rw [hD.out] at ho9
  obtain ⟨A9, c9, rfl, hr9⟩ := ho9.reads
  have F10 := F8.trans F9
  have k9 : ∀ w', Later w9 w' → (convert 39 9 (.slice A9 D.length c9)).run Try.prog w' = .ok (.string (strOfNums D)) w' := fun w' hF => conv_str8 (hr9.fr hF (fun _ _ h => h))
  replace kS := fun w' hF => kS w' (F10.trans hF)
  replace kB := fun w' hF => kB w' (F10.trans hF)
  replace HB := fun w' hF => HB w' (F10.trans hF)
  clear F8 ho9 hr9
  replace KD := KD.trans F10
  go_wp2_with fail
  refine hK.out _ _ _ (by first | assumption | exact Fr.refl _ _) (Fr.refl _ _) ?_
  clear hK K
  try simp only [Act.put, List.setIfInBounds_toArray, List.set_cons_zero, List.set_cons_succ]
  refine rh_take 25 (v := ?_) rfl (by kernel_rfl) (by kernel_rfl) (by kernel_rfl) (fun _ _ _ h => h) (by rfl) (by first | exact Fr.refl _ _ | assumption) ?_ ?_
  rotate_left 1
  · intro w hSw; go_simp <;> with_reducible rfl
  try simp only [Act.put, List.setIfInBounds_toArray, List.set_cons_zero, List.set_cons_succ]
  refine rh_take 26 (v := ?_) rfl (by kernel_rfl) (by kernel_rfl) (by kernel_rfl) (fun _ _ _ h => h) (by rfl) (by first | exact Fr.refl _ _ | assumption) ?_ ?_
  rotate_left 1
  · intro w hSw; go_simp <;> with_reducible rfl
  try simp only [Act.put, List.setIfInBounds_toArray, List.set_cons_zero, List.set_cons_succ]
  refine rh_take 27 (v := ?_) rfl (by kernel_rfl) (by kernel_rfl) (by kernel_rfl) (fun _ _ _ h => h) (by rfl) (by first | exact Fr.refl _ _ | assumption) ?_ ?_
  rotate_left 1
  · intro w hSw; go_simp <;> with_reducible rfl
  try simp only [Act.put, List.setIfInBounds_toArray, List.set_cons_zero, List.set_cons_succ]
  refine rh_take 28 (v := ?_) rfl (by kernel_rfl) (by kernel_rfl) (by kernel_rfl) (fun _ _ _ h => h) (by rfl) (by first | exact Fr.refl _ _ | assumption) ?_ ?_
  rotate_left 1
  · intro w hSw; go_simp <;> with_reducible rfl
  try simp only [Act.put, List.setIfInBounds_toArray, List.set_cons_zero, List.set_cons_succ]
  refine rh_take 29 (v := ?_) rfl (by kernel_rfl) (by kernel_rfl) (by kernel_rfl) (fun _ _ _ h => h) (by rfl) (by first | exact Fr.refl _ _ | assumption) ?_ ?_
  rotate_left 1
  · intro w hSw; go_simp <;> with_reducible rfl
  try simp only [Act.put, List.setIfInBounds_toArray, List.set_cons_zero, List.set_cons_succ]
  refine rh_one 30 rfl (by kernel_rfl) (fun K hK => ?_)
  go_simp
  refine (works10 _).mono ?_
  rintro r w11 ⟨rfl, F11⟩
  replace KD := KD.trans F11
  go_wp2_with fail
  refine hK.out _ _ _ (by first | assumption | exact Fr.refl _ _) (Fr.refl _ _) ?_
  clear hK K
  try simp only [Act.put, List.setIfInBounds_toArray, List.set_cons_zero, List.set_cons_succ]
  refine rh_take 31 (v := ?_) rfl (by kernel_rfl) (by kernel_rfl) (by kernel_rfl) (fun _ _ _ h => h) (by rfl) (by first | exact Fr.refl _ _ | assumption) ?_ ?_
  rotate_left 1
  · intro w hSw; go_simp <;> with_reducible rfl
  try simp only [Act.put, List.setIfInBounds_toArray, List.set_cons_zero, List.set_cons_succ]
  refine rh_take 32 (v := ?_) rfl (by kernel_rfl) (by kernel_rfl) (by kernel_rfl) (fun _ _ _ h => h) (by rfl) (by first | exact Fr.refl _ _ | assumption) ?_ ?_
  rotate_left 1
  · intro w hSw; go_simp <;> with_reducible rfl
  try simp only [Act.put, List.setIfInBounds_toArray, List.set_cons_zero, List.set_cons_succ]
  refine rh_done (by kernel_rfl) ?_
  go_wp2_with fail
  go_ret
  exact ⟨rfl, KD⟩
end Go.Proofs.Ytlpigldogglmcaa
