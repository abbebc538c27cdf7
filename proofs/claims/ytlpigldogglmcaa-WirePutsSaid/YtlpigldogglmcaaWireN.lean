/- The law WirePuts, walked. -/
import Derived.Test.YtlpigldogglmcaaWireL
import Derived.Test.YtlpigldogglmcaaWireM
import Derived.Test.YtlpigldogglmcaaRegion
set_option linter.unusedVariables false
set_option linter.unusedSimpArgs false
namespace Go.Proofs.Ytlpigldogglmcaa
open Go.RowKit
open Go.Proofs.YtlpigldogglmcaaW.PrintWords

set_option maxRecDepth 100000 in
set_option maxHeartbeats 1000000 in
theorem lawPuts_long (A : Option Addr) (n c : Nat) (m : Int) (s : ByteArray) (w : World) (hl : 100 < n ∨ 1000 < s.size) (hm : n ≤ 9223372036854775807) (hs : s.size ≤ 9223372036854775807) :
    Calls Try.prog 9 #[.slice A n c, .int .u64 m, .string s] w fun r w' => r = .returned (.bool true) ∧ Fr (fun _ => False) w w' := by
  rcases Nat.lt_or_ge 100 n with h1 | h1
  · go_enter Try.func9, Try.ntmps9
    go_wp2_with fail
    refine (works09 _).mono ?_
    rintro r w4 ⟨rfl, F4⟩
    go_wp2_with fail
    go_ret
    exact ⟨rfl, F4⟩
  · have h2 : 1000 < s.size := by omega
    clear hl
    go_enter Try.func9, Try.ntmps9
    go_wp2_with fail
    refine (works09 _).mono ?_
    rintro r w4 ⟨rfl, F4⟩
    go_wp2_with fail
    go_ret
    exact ⟨rfl, F4⟩

set_option maxRecDepth 100000 in
set_option maxHeartbeats 4000000 in
theorem lawPuts (A : Option Addr) (xs : List Int) (c m : Nat) (s : ByteArray) (w : World) (hl : xs.length ≤ 100) (hsl : s.size ≤ 1000) (hc : xs.length ≤ c) (hr : RdB w A xs) (hx : Byt xs) (hm : m < 18446744073709551616) :
    Calls Try.prog 9 #[.slice A xs.length c, .int .u64 m, .string s] w fun r w' => r = .returned (.bool true) ∧ Fr (fun _ => False) w w' := by
  have hb1 : ([] : List Int).length + xs.length ≤ 140737488355328 := by simp; omega
  have HHR := Lib.hid hr
  have HX := Lib.hid hx
  have HM := Lib.hid hm
  have hmk := make8 (xs.length + 40) (by omega)
  simp only [Int.natCast_add] at hmk
  replace hmk : ∀ W : World, (Instr.makeSlice 39 (.int .i64 0) (.int .i64 ((xs.length : Int) + 40))).run Try.prog W = .ok (.slice (some ⟨W.heap.size, 0, none⟩) 0 (xs.length + 40)) (W.alloc (.cells (madeCells #[.int .u8 0] (xs.length + 40)) 5)) := hmk
  have F0 : Fr (fun _ => False) w (w.alloc (.cells (madeCells #[.int .u8 0] (xs.length + 40)) 5)) := (Fr.refl _ _).alloc _
  have hr0 : RdB (w.alloc (.cells (madeCells #[.int .u8 0] (xs.length + 40)) 5)) A xs := hr.fr F0 (fun _ _ h => h)
  have ho0 := ow_make w (xs.length + 40) (by omega)
  have hs0 : w.heap.size ≤ (w.alloc (.cells (madeCells #[.int .u8 0] (xs.length + 40)) 5)).heap.size := F0.size
  clear hr hx hm
  go_enter Try.func9, Try.ntmps9
  go_wp2_with (at_builtin; go_must (refine append8_row w.heap.size rfl _ _ rfl (.slice (some ⟨w.heap.size, 0, none⟩) 0 (xs.length + 40)) [] xs A c rfl rfl ho0 hr0 hs0 hb1 ?_); intro v1 w1 hown hF)
  simp only [List.nil_append] at hown
  have F1 : Fr (fun _ => False) w w1 := F0.trans' hF (fun i hi hk => by have := hk.1; omega)
  clear F0 hF ho0 hr0 hs0 hmk
  obtain ⟨A1, c1, rfl, hr1⟩ := hown.reads
  have hc1 : xs.length ≤ c1 := hown.cap
  clear hown
  have hs12 := F1.size
  have HR1 := Lib.hid hr1
  clear hr1
  go_wp2_with fail
  refine (wire_put A1 xs c1 m w1 hc1 HR1.out (by omega) HM.out).mono ?_
  rintro r w2 ⟨vx, rfl, hox, F2⟩
  have hxB := Lib.hid (fun (k : Nat) (hk : some k = vx.ownBlock) => And.intro (own_base hox k hk.symm) (own_lt hox k hk.symm))
  have HOX := Lib.hid hox
  clear hox
  go_wp2_with fail
  refine (wire_putText A1 xs c1 s w2 hc1 (HR1.out.fr F2 (fun _ _ h => h)) (by omega)).mono ?_
  rintro r w3 ⟨vy, rfl, hoy, F3⟩
  have hyB := Lib.hid (fun (k : Nat) (hk : some k = vy.ownBlock) => And.intro (own_base hoy k hk.symm) (own_lt hoy k hk.symm))
  have HOY := Lib.hid hoy
  clear hoy
  go_wp2_with fail
  refine (wire_eight A1 xs c1 m w3 hc1 (HR1.out.fr (F2.trans F3) (fun _ _ h => h)) (by omega) HM.out).mono ?_
  rintro r w4 ⟨vz, rfl, hoz, F4⟩
  have HOX2 := Lib.hid (HOX.out.fr (F3.trans F4) (fun _ _ _ h => h))
  have HOY2 := Lib.hid (HOY.out.fr F4 (fun _ _ _ h => h))
  have hzB := Lib.hid (fun (k : Nat) (hk : some k = vz.ownBlock) => And.intro (own_base hoz k hk.symm) (own_lt hoz k hk.symm))
  have HOZ2 := Lib.hid hoz
  have FW := F1.trans (F2.trans (F3.trans F4))
  clear hoz HOX HOY
  obtain ⟨X, hX⟩ : ∃ X, Hid (xs ++ digs m = X) := ⟨_, rfl⟩
  obtain ⟨Y, hY⟩ : ∃ Y, Hid (xs ++ digs s.size ++ bytesOf s = Y) := ⟨_, rfl⟩
  obtain ⟨Z, hZ⟩ : ∃ Z, Hid (xs ++ be8 m = Z) := ⟨_, rfl⟩
  rw [hX.out] at HOX2
  rw [hY.out] at HOY2
  rw [hZ.out] at HOZ2
  obtain ⟨AX, cX, rfl, hrX⟩ := HOX2.out.reads
  obtain ⟨AY, cY, rfl, hrY⟩ := HOY2.out.reads
  obtain ⟨AZ, cZ, rfl, hrZ⟩ := HOZ2.out.reads
  have hs23 := F2.size
  have hs34 := F3.size
  have hs45 := F4.size
  have kX : ∀ w', Fr (fun _ => False) w4 w' → (convert 39 9 (.slice AX X.length cX)).run Try.prog w' = .ok (.string (strOfNums X)) w' := fun w' hF => conv_str8 (hrX.fr hF (fun _ _ h => h))
  have kY : ∀ w', Fr (fun _ => False) w4 w' → (convert 39 9 (.slice AY Y.length cY)).run Try.prog w' = .ok (.string (strOfNums Y)) w' := fun w' hF => conv_str8 (hrY.fr hF (fun _ _ h => h))
  have kZ : ∀ w', Fr (fun _ => False) w4 w' → (convert 39 9 (.slice AZ Z.length cZ)).run Try.prog w' = .ok (.string (strOfNums Z)) w' := fun w' hF => conv_str8 (hrZ.fr hF (fun _ _ h => h))
  have kB : ∀ w', Fr (fun _ => False) w4 w' → (convert 39 9 (.slice A xs.length c)).run Try.prog w' = .ok (.string (strOfNums xs)) w' := fun w' hF => conv_str8 (HHR.out.fr (FW.trans hF) (fun _ _ h => h))
  have KD : Fr (fun _ => False) w4 w4.drew := (Fr.refl _ _).drew
  have hdl := digs_len10 HM.out
  have hdl2 := digs_len10 (m := s.size) (by omega)
  have a1 := add_strO xs (digs m) (by omega)
  have a2 := add_strO xs (digs s.size ++ bytesOf s) (by rw [List.length_append, bytesOf_length]; omega)
  have a3 := add_strO xs (be8 m) (by have : (be8 m).length = 8 := rfl; omega)
  rw [hX.out] at a1
  rw [← List.append_assoc, hY.out] at a2
  rw [hZ.out] at a3
  obtain ⟨D, hD⟩ : ∃ D, Hid (digs s.size ++ bytesOf s = D) := ⟨_, rfl⟩
  obtain ⟨E, hE⟩ : ∃ E, Hid (be8 m = E) := ⟨_, rfl⟩
  obtain ⟨G, hG⟩ : ∃ G, Hid (digs m = G) := ⟨_, rfl⟩
  rw [hD.out] at a2
  rw [hE.out] at a3
  rw [hG.out] at a1
  have hlX : xs.length ≤ X.length := by rw [← hX.out, List.length_append]; omega
  replace kX := fun w' hF => kX w' (KD.trans hF)
  replace kY := fun w' hF => kY w' (KD.trans hF)
  replace kZ := fun w' hF => kZ w' (KD.trans hF)
  replace kB := fun w' hF => kB w' (KD.trans hF)
  clear hrX hrY hrZ F2 F3 F4
  go_wp2_with fail
  refine rg_start 38 (by kernel_rfl) rfl ?_
  refine rg_take 0 (v := ?_) rfl (by kernel_rfl) (by kernel_rfl) (by kernel_rfl) (fun _ _ _ h => h) (by rfl) ?_ ?_
  rotate_left 1
  · intro w hSw; go_simp <;> with_reducible rfl
  try simp only [Act.put, List.setIfInBounds_toArray, List.set_cons_zero, List.set_cons_succ]
  refine rg_take 1 (v := ?_) rfl (by kernel_rfl) (by kernel_rfl) (by kernel_rfl) (fun _ _ _ h => h) (by rfl) ?_ ?_
  rotate_left 1
  · intro w hSw; go_simp <;> with_reducible rfl
  try simp only [Act.put, List.setIfInBounds_toArray, List.set_cons_zero, List.set_cons_succ]
  refine rg_take 2 (v := ?_) rfl (by kernel_rfl) (by kernel_rfl) (by kernel_rfl) (fun _ _ _ h => h) (by rfl) ?_ ?_
  rotate_left 1
  · intro w hSw; go_simp <;> with_reducible rfl
  try simp only [Act.put, List.setIfInBounds_toArray, List.set_cons_zero, List.set_cons_succ]
  refine rg_take 3 (v := ?_) rfl (by kernel_rfl) (by kernel_rfl) (by kernel_rfl) (fun _ _ _ h => h) (by rfl) ?_ ?_
  rotate_left 1
  · intro w hSw; go_simp <;> with_reducible rfl
  try simp only [Act.put, List.setIfInBounds_toArray, List.set_cons_zero, List.set_cons_succ]
  refine rg_take 4 (v := ?_) rfl (by kernel_rfl) (by kernel_rfl) (by kernel_rfl) (fun _ _ _ h => h) (by rfl) ?_ ?_
  rotate_left 1
  · intro w hSw; go_simp <;> with_reducible rfl
  try simp only [Act.put, List.setIfInBounds_toArray, List.set_cons_zero, List.set_cons_succ]
  refine rg_one 5 rfl (by kernel_rfl) (fun K hK => ?_)
  go_simp
  refine (ref_bytes m _ HM.out).mono ?_
  rintro r w5 ⟨v5, rfl, ho5, F5⟩
  rw [hG.out] at ho5
  obtain ⟨A5, c5, rfl, hr5⟩ := ho5.reads
  have k5 : ∀ w', Later w5 w' → (convert 39 9 (.slice A5 G.length c5)).run Try.prog w' = .ok (.string (strOfNums G)) w' := fun w' hF => conv_str8 (hr5.fr hF (fun _ _ h => h))
  replace kX := fun w' hF => kX w' (F5.trans hF)
  replace kY := fun w' hF => kY w' (F5.trans hF)
  replace kZ := fun w' hF => kZ w' (F5.trans hF)
  replace kB := fun w' hF => kB w' (F5.trans hF)
  replace KD := KD.trans F5
  clear ho5 hr5
  go_wp2_with fail
  refine hK.out _ _ (by assumption) ?_
  clear hK K
  try simp only [Act.put, List.setIfInBounds_toArray, List.set_cons_zero, List.set_cons_succ]
  refine rg_take 6 (v := ?_) rfl (by kernel_rfl) (by kernel_rfl) (by kernel_rfl) (fun _ _ _ h => h) (by rfl) ?_ ?_
  rotate_left 1
  · intro w hSw; go_simp <;> with_reducible rfl
  try simp only [Act.put, List.setIfInBounds_toArray, List.set_cons_zero, List.set_cons_succ]
  refine rg_take 7 (v := ?_) rfl (by kernel_rfl) (by kernel_rfl) (by kernel_rfl) (fun _ _ _ h => h) (by rfl) ?_ ?_
  rotate_left 1
  · intro w hSw; go_simp <;> with_reducible rfl
  try simp only [Act.put, List.setIfInBounds_toArray, List.set_cons_zero, List.set_cons_succ]
  refine rg_take 8 (v := ?_) rfl (by kernel_rfl) (by kernel_rfl) (by kernel_rfl) (fun _ _ _ h => h) (by rfl) ?_ ?_
  rotate_left 1
  · intro w hSw; go_simp <;> with_reducible rfl
  try simp only [Act.put, List.setIfInBounds_toArray, List.set_cons_zero, List.set_cons_succ]
  refine rg_take 9 (v := ?_) rfl (by kernel_rfl) (by kernel_rfl) (by kernel_rfl) (fun _ _ _ h => h) (by rfl) ?_ ?_
  rotate_left 1
  · intro w hSw; go_simp <;> with_reducible rfl
  try simp only [Act.put, List.setIfInBounds_toArray, List.set_cons_zero, List.set_cons_succ]
  refine rg_take 10 (v := ?_) rfl (by kernel_rfl) (by kernel_rfl) (by kernel_rfl) (fun _ _ _ h => h) (by rfl) ?_ ?_
  rotate_left 1
  · intro w hSw; go_simp <;> with_reducible rfl
  try simp only [Act.put, List.setIfInBounds_toArray, List.set_cons_zero, List.set_cons_succ]
  refine rg_take 11 (v := ?_) rfl (by kernel_rfl) (by kernel_rfl) (by kernel_rfl) (fun _ _ _ h => h) (by rfl) ?_ ?_
  rotate_left 1
  · intro w hSw; go_simp <;> with_reducible rfl
  try simp only [Act.put, List.setIfInBounds_toArray, List.set_cons_zero, List.set_cons_succ]
  refine rg_take 12 (v := ?_) rfl (by kernel_rfl) (by kernel_rfl) (by kernel_rfl) (fun _ _ _ h => h) (by rfl) ?_ ?_
  rotate_left 1
  · intro w hSw; go_simp <;> with_reducible rfl
  try simp only [Act.put, List.setIfInBounds_toArray, List.set_cons_zero, List.set_cons_succ]
  refine rg_take 13 (v := ?_) rfl (by kernel_rfl) (by kernel_rfl) (by kernel_rfl) (fun _ _ _ h => h) (by rfl) ?_ ?_
  rotate_left 1
  · intro w hSw; go_simp <;> with_reducible rfl
  try simp only [Act.put, List.setIfInBounds_toArray, List.set_cons_zero, List.set_cons_succ]
  refine rg_take 14 (v := ?_) rfl (by kernel_rfl) (by kernel_rfl) (by kernel_rfl) (fun _ _ _ h => h) (by rfl) ?_ ?_
  rotate_left 1
  · intro w hSw; go_simp <;> with_reducible rfl
  try simp only [Act.put, List.setIfInBounds_toArray, List.set_cons_zero, List.set_cons_succ]
  refine rg_one 15 rfl (by kernel_rfl) (fun K hK => ?_)
  go_simp
  clear k5
  refine (ref_text s _ (by omega)).mono ?_
  rintro r w6 ⟨v6, rfl, ho6, F6⟩
  rw [hD.out] at ho6
  obtain ⟨A6, c6, rfl, hr6⟩ := ho6.reads
  have k6 : ∀ w', Later w6 w' → (convert 39 9 (.slice A6 D.length c6)).run Try.prog w' = .ok (.string (strOfNums D)) w' := fun w' hF => conv_str8 (hr6.fr hF (fun _ _ h => h))
  replace kX := fun w' hF => kX w' (F6.trans hF)
  replace kY := fun w' hF => kY w' (F6.trans hF)
  replace kZ := fun w' hF => kZ w' (F6.trans hF)
  replace kB := fun w' hF => kB w' (F6.trans hF)
  replace KD := KD.trans F6
  clear ho6 hr6
  go_wp2_with fail
  refine hK.out _ _ (by assumption) ?_
  clear hK K
  try simp only [Act.put, List.setIfInBounds_toArray, List.set_cons_zero, List.set_cons_succ]
  refine rg_take 16 (v := ?_) rfl (by kernel_rfl) (by kernel_rfl) (by kernel_rfl) (fun _ _ _ h => h) (by rfl) ?_ ?_
  rotate_left 1
  · intro w hSw; go_simp <;> with_reducible rfl
  try simp only [Act.put, List.setIfInBounds_toArray, List.set_cons_zero, List.set_cons_succ]
  refine rg_take 17 (v := ?_) rfl (by kernel_rfl) (by kernel_rfl) (by kernel_rfl) (fun _ _ _ h => h) (by rfl) ?_ ?_
  rotate_left 1
  · intro w hSw; go_simp <;> with_reducible rfl
  try simp only [Act.put, List.setIfInBounds_toArray, List.set_cons_zero, List.set_cons_succ]
  refine rg_take 18 (v := ?_) rfl (by kernel_rfl) (by kernel_rfl) (by kernel_rfl) (fun _ _ _ h => h) (by rfl) ?_ ?_
  rotate_left 1
  · intro w hSw; go_simp <;> with_reducible rfl
  try simp only [Act.put, List.setIfInBounds_toArray, List.set_cons_zero, List.set_cons_succ]
  refine rg_take 19 (v := ?_) rfl (by kernel_rfl) (by kernel_rfl) (by kernel_rfl) (fun _ _ _ h => h) (by rfl) ?_ ?_
  rotate_left 1
  · intro w hSw; go_simp <;> with_reducible rfl
  try simp only [Act.put, List.setIfInBounds_toArray, List.set_cons_zero, List.set_cons_succ]
  refine rg_take 20 (v := ?_) rfl (by kernel_rfl) (by kernel_rfl) (by kernel_rfl) (fun _ _ _ h => h) (by rfl) ?_ ?_
  rotate_left 1
  · intro w hSw; go_simp <;> with_reducible rfl
  try simp only [Act.put, List.setIfInBounds_toArray, List.set_cons_zero, List.set_cons_succ]
  refine rg_take 21 (v := ?_) rfl (by kernel_rfl) (by kernel_rfl) (by kernel_rfl) (fun _ _ _ h => h) (by rfl) ?_ ?_
  rotate_left 1
  · intro w hSw; go_simp <;> with_reducible rfl
  try simp only [Act.put, List.setIfInBounds_toArray, List.set_cons_zero, List.set_cons_succ]
  refine rg_take 22 (v := ?_) rfl (by kernel_rfl) (by kernel_rfl) (by kernel_rfl) (fun _ _ _ h => h) (by rfl) ?_ ?_
  rotate_left 1
  · intro w hSw; go_simp <;> with_reducible rfl
  try simp only [Act.put, List.setIfInBounds_toArray, List.set_cons_zero, List.set_cons_succ]
  refine rg_take 23 (v := ?_) rfl (by kernel_rfl) (by kernel_rfl) (by kernel_rfl) (fun _ _ _ h => h) (by rfl) ?_ ?_
  rotate_left 1
  · intro w hSw; go_simp <;> with_reducible rfl
  try simp only [Act.put, List.setIfInBounds_toArray, List.set_cons_zero, List.set_cons_succ]
  refine rg_take 24 (v := ?_) rfl (by kernel_rfl) (by kernel_rfl) (by kernel_rfl) (fun _ _ _ h => h) (by rfl) ?_ ?_
  rotate_left 1
  · intro w hSw; go_simp <;> with_reducible rfl
  try simp only [Act.put, List.setIfInBounds_toArray, List.set_cons_zero, List.set_cons_succ]
  refine rg_take 25 (v := ?_) rfl (by kernel_rfl) (by kernel_rfl) (by kernel_rfl) (fun _ _ _ h => h) (by rfl) ?_ ?_
  rotate_left 1
  · intro w hSw; go_simp <;> with_reducible rfl
  try simp only [Act.put, List.setIfInBounds_toArray, List.set_cons_zero, List.set_cons_succ]
  refine rg_one 26 rfl (by kernel_rfl) (fun K hK => ?_)
  go_simp
  clear k6
  refine (ref_big m _ HM.out).mono ?_
  rintro r w7 ⟨v7, rfl, ho7, F7⟩
  rw [hE.out] at ho7
  obtain ⟨A7, c7, rfl, hr7⟩ := ho7.reads
  have k7 : ∀ w', Later w7 w' → (convert 39 9 (.slice A7 E.length c7)).run Try.prog w' = .ok (.string (strOfNums E)) w' := fun w' hF => conv_str8 (hr7.fr hF (fun _ _ h => h))
  replace kX := fun w' hF => kX w' (F7.trans hF)
  replace kY := fun w' hF => kY w' (F7.trans hF)
  replace kZ := fun w' hF => kZ w' (F7.trans hF)
  replace kB := fun w' hF => kB w' (F7.trans hF)
  replace KD := KD.trans F7
  clear ho7 hr7
  go_wp2_with fail
  refine hK.out _ _ (by assumption) ?_
  clear hK K
  try simp only [Act.put, List.setIfInBounds_toArray, List.set_cons_zero, List.set_cons_succ]
  refine rg_take 27 (v := ?_) rfl (by kernel_rfl) (by kernel_rfl) (by kernel_rfl) (fun _ _ _ h => h) (by rfl) ?_ ?_
  rotate_left 1
  · intro w hSw; go_simp <;> with_reducible rfl
  try simp only [Act.put, List.setIfInBounds_toArray, List.set_cons_zero, List.set_cons_succ]
  refine rg_take 28 (v := ?_) rfl (by kernel_rfl) (by kernel_rfl) (by kernel_rfl) (fun _ _ _ h => h) (by rfl) ?_ ?_
  rotate_left 1
  · intro w hSw; go_simp <;> with_reducible rfl
  try simp only [Act.put, List.setIfInBounds_toArray, List.set_cons_zero, List.set_cons_succ]
  refine rg_take 29 (v := ?_) rfl (by kernel_rfl) (by kernel_rfl) (by kernel_rfl) (fun _ _ _ h => h) (by rfl) ?_ ?_
  rotate_left 1
  · intro w hSw; go_simp <;> with_reducible rfl
  try simp only [Act.put, List.setIfInBounds_toArray, List.set_cons_zero, List.set_cons_succ]
  refine rg_take 30 (v := ?_) rfl (by kernel_rfl) (by kernel_rfl) (by kernel_rfl) (fun _ _ _ h => h) (by rfl) ?_ ?_
  rotate_left 1
  · intro w hSw; go_simp <;> with_reducible rfl
  try simp only [Act.put, List.setIfInBounds_toArray, List.set_cons_zero, List.set_cons_succ]
  refine rg_take 31 (v := ?_) rfl (by kernel_rfl) (by kernel_rfl) (by kernel_rfl) (fun _ _ _ h => h) (by rfl) ?_ ?_
  rotate_left 1
  · intro w hSw; go_simp <;> with_reducible rfl
  try simp only [Act.put, List.setIfInBounds_toArray, List.set_cons_zero, List.set_cons_succ]
  refine rg_take 32 (v := ?_) rfl (by kernel_rfl) (by kernel_rfl) (by kernel_rfl) (fun _ _ _ h => h) (by rfl) ?_ ?_
  rotate_left 1
  · intro w hSw; go_simp <;> with_reducible rfl
  try simp only [Act.put, List.setIfInBounds_toArray, List.set_cons_zero, List.set_cons_succ]
  refine rg_take 33 (v := ?_) rfl (by kernel_rfl) (by kernel_rfl) (by kernel_rfl) (fun _ _ _ h => h) (by rfl) ?_ ?_
  rotate_left 1
  · intro w hSw; go_simp <;> with_reducible rfl
  try simp only [Act.put, List.setIfInBounds_toArray, List.set_cons_zero, List.set_cons_succ]
  refine rg_take 34 (v := ?_) rfl (by kernel_rfl) (by kernel_rfl) (by kernel_rfl) (fun _ _ _ h => h) (by rfl) ?_ ?_
  rotate_left 1
  · intro w hSw; go_simp <;> with_reducible rfl
  try simp only [Act.put, List.setIfInBounds_toArray, List.set_cons_zero, List.set_cons_succ]
  refine rg_take 35 (v := ?_) rfl (by kernel_rfl) (by kernel_rfl) (by kernel_rfl) (fun _ _ _ h => h) (by rfl) ?_ ?_
  rotate_left 1
  · intro w hSw; go_simp <;> with_reducible rfl
  try simp only [Act.put, List.setIfInBounds_toArray, List.set_cons_zero, List.set_cons_succ]
  refine rg_take 36 (v := ?_) rfl (by kernel_rfl) (by kernel_rfl) (by kernel_rfl) (fun _ _ _ h => h) (by rfl) ?_ ?_
  rotate_left 1
  · intro w hSw; go_simp <;> with_reducible rfl
  try simp only [Act.put, List.setIfInBounds_toArray, List.set_cons_zero, List.set_cons_succ]
  refine rg_take 37 (v := ?_) rfl (by kernel_rfl) (by kernel_rfl) (by kernel_rfl) (fun _ _ _ h => h) (by rfl) ?_ ?_
  rotate_left 1
  · intro w hSw; go_simp <;> with_reducible rfl
  try simp only [Act.put, List.setIfInBounds_toArray, List.set_cons_zero, List.set_cons_succ]
  refine rg_done (by kernel_rfl) ?_
  have F7w := FW.trans KD
  have HRb := Lib.hid (HHR.out.fr F7w (fun _ _ h => h))
  have OX := Lib.hid (HOX2.out.fr KD (fun _ _ _ h => h))
  have OY := Lib.hid (HOY2.out.fr KD (fun _ _ _ h => h))
  have OZ := Lib.hid (HOZ2.out.fr KD (fun _ _ _ h => h))
  have hs57 := KD.size
  have hXl : X.length + xs.length ≤ 140737488355328 := by rw [← hX.out, List.length_append]; omega
  have hYl : Y.length + xs.length ≤ 140737488355328 := by rw [← hY.out, List.length_append, List.length_append, bytesOf_length]; omega
  have hZl : Z.length + xs.length ≤ 140737488355328 := by rw [← hZ.out, List.length_append]; have : (be8 m).length = 8 := rfl; omega
  clear KD kX kY kZ kB k7 a1 a2 a3 HOX2 HOY2 HOZ2 FW F7
  obtain ⟨LX, hLX⟩ : ∃ L, Hid (X ++ xs = L) := ⟨_, rfl⟩
  obtain ⟨LY, hLY⟩ : ∃ L, Hid (Y ++ xs = L) := ⟨_, rfl⟩
  obtain ⟨LZ, hLZ⟩ : ∃ L, Hid (Z ++ xs = L) := ⟨_, rfl⟩
  have nX : xs.length ≤ LX.length := by rw [← hLX.out, List.length_append]; omega
  have nY : xs.length ≤ LY.length := by rw [← hLY.out, List.length_append]; omega
  have nZ : xs.length ≤ LZ.length := by rw [← hLZ.out, List.length_append]; omega
  have dX : LX.drop xs.length = digs m ++ xs := by rw [← hLX.out, ← hX.out, List.append_assoc, List.drop_left]
  have dY : LY.drop xs.length = digs s.size ++ bytesOf s ++ xs := by rw [← hLY.out, ← hY.out, List.append_assoc, List.append_assoc, List.drop_left, List.append_assoc]
  have dZ : LZ.drop xs.length = be8 m ++ xs := by rw [← hLZ.out, ← hZ.out, List.append_assoc, List.drop_left]
  have gX := Lib.hid (get_digs xs HM.out)
  have gY := Lib.hid (text_digs s xs 1000 (by omega) (by omega))
  have gZ : Hid (beVal ((be8 m ++ xs).take 8) = m) := by
    rw [List.take_left' (by rfl)]; exact beVal_be8 HM.out
  have bX : Hid (Byt (digs m ++ xs)) := (digs_byt10 HM.out).append HX.out
  have bY : Hid (Byt (digs s.size ++ bytesOf s ++ xs)) := ((digs_byt10 (by omega)).append (bytes_byt s)).append HX.out
  have bZ : Hid (Byt (be8 m ++ xs)) := (beTo_byt m 8).append HX.out
  rw [← dX, hG.out] at gX
  rw [← dY] at gY
  rw [← dZ] at gZ
  rw [← dX] at bX
  rw [← dY] at bY
  rw [← dZ] at bZ
  have lX : (LX.drop xs.length).length ≤ 140737488355328 := by rw [dX, List.length_append]; omega
  have lY : (LY.drop xs.length).length ≤ 140737488355328 := by rw [dY, List.length_append, List.length_append, bytesOf_length]; omega
  have lZ : (LZ.drop xs.length).length ≤ 140737488355328 ∧ 8 ≤ (LZ.drop xs.length).length := by rw [dZ, List.length_append]; have : (be8 m).length = 8 := rfl; omega
  have eD : (digs s.size).length + s.size = D.length := by rw [← hD.out, List.length_append, bytesOf_length]
  rw [eD] at gY
  clear dX dY dZ eD hdl hdl2
  have HN := Lib.hid (And.intro lX (And.intro lY lZ))
  clear lX lY lZ
  go_wp2_with (at_builtin; go_must (refine append8_mine w1.heap.size rfl _ _ rfl (.slice AX X.length cX) X xs A c rfl rfl OX.out HRb.out (by omega) hXl ?_); intro v8 w8 hown hF8)
  have FF8 : Fr (fun _ => False) w w8 := F7w.trans' hF8 (fun i hi hk => by have := (hxB.out i hk).1; omega)
  rw [hLX.out] at hown
  have hsz8 := hF8.size
  have HRb8 := Lib.hid (HHR.out.fr FF8 (fun _ _ h => h))
  have OY8 := Lib.hid (OY.out.fr hF8 (fun k hB hl hk => by have := (hxB.out k hk).2; omega))
  have OZ8 := Lib.hid (OZ.out.fr hF8 (fun k hB hl hk => by have := (hxB.out k hk).2; omega))
  clear OX OY OZ HRb
  obtain ⟨A8, c8, rfl, hr8⟩ := hown.reads
  have hc8 : LX.length ≤ c8 := hown.cap
  obtain ⟨B8, ys8, hcut8, hys8⟩ := cut_from8 A8 c8 LX xs.length nX hc8
  have hrd8 := hys8.out.2.2 _ hr8
  have hcc8 := hys8.out.2.1
  rw [← hys8.out.1] at gX bX HN
  clear hown hr8 hF8 nX hXl
  have HC8 := Lib.hid (wire_get B8 ys8 (c8 - xs.length) w8 hrd8 bX.out HN.out.1)
  clear hrd8 hcc8
  go_simp
  go_wp2_with fail
  refine HC8.out.mono ?_
  rintro r w8' ⟨rfl, rfl⟩
  rw [gX.out]
  clear HC8 hcut8 hys8 gX bX
  go_wp2_with (at_builtin; go_must (refine append8_mine w2.heap.size rfl _ _ rfl (.slice AY Y.length cY) Y xs A c rfl rfl OY8.out HRb8.out (by omega) hYl ?_); intro v9 w9 hown hF9)
  have FF9 : Fr (fun _ => False) w w9 := FF8.trans' hF9 (fun i hi hk => by have := (hyB.out i hk).1; omega)
  rw [hLY.out] at hown
  have hsz9 := hF9.size
  have HRb9 := Lib.hid (HHR.out.fr FF9 (fun _ _ h => h))
  have OZ9 := Lib.hid (OZ8.out.fr hF9 (fun k hB hl hk => by have := (hyB.out k hk).2; omega))
  clear OY8 OZ8 HRb8
  obtain ⟨A9, c9, rfl, hr9⟩ := hown.reads
  have hc9 : LY.length ≤ c9 := hown.cap
  obtain ⟨B9, ys9, hcut9, hys9⟩ := cut_from8 A9 c9 LY xs.length nY hc9
  have hrd9 := hys9.out.2.2 _ hr9
  have hcc9 := hys9.out.2.1
  rw [← hys9.out.1] at gY bY HN
  clear hown hr9 hF9 nY hYl
  have HC9 := Lib.hid (wire_getText B9 ys9 (c9 - xs.length) 1000 w9 hrd9 bY.out HN.out.2.1 hcc9 (by omega) (by omega))
  clear hrd9 hcc9
  go_simp
  go_wp2_with fail
  refine HC9.out.mono ?_
  rintro r w9' ⟨rfl, rfl⟩
  rw [gY.out]
  simp only [bytes_str]
  clear HC9 hcut9 hys9 gY bY
  go_wp2_with (at_builtin; go_must (refine append8_mine w3.heap.size rfl _ _ rfl (.slice AZ Z.length cZ) Z xs A c rfl rfl OZ9.out HRb9.out (by omega) hZl ?_); intro v10 w10 hown hF10)
  have FF10 : Fr (fun _ => False) w w10 := FF9.trans' hF10 (fun i hi hk => by have := (hzB.out i hk).1; omega)
  rw [hLZ.out] at hown
  have hsz10 := hF10.size
  clear OZ9 HRb9
  obtain ⟨A10, c10, rfl, hr10⟩ := hown.reads
  have hc10 : LZ.length ≤ c10 := hown.cap
  obtain ⟨B10, ys10, hcut10, hys10⟩ := cut_from8 A10 c10 LZ xs.length nZ hc10
  have hrd10 := hys10.out.2.2 _ hr10
  have hcc10 := hys10.out.2.1
  rw [← hys10.out.1] at gZ bZ HN
  clear hown hr10 hF10 nZ hZl
  have HC10 := Lib.hid (wire_getEight B10 ys10 (c10 - xs.length) w10 hrd10 bZ.out HN.out.2.2.1 hcc10 HN.out.2.2.2)
  clear hrd10 hcc10
  go_simp
  go_wp2_with fail
  refine HC10.out.mono ?_
  rintro r w10' ⟨rfl, rfl⟩
  rw [gZ.out]
  clear HC10 hcut10 hys10 gZ bZ
  go_wp2_with fail
  refine (ref_bytes m _ HM.out).mono ?_
  rintro r w11 ⟨v11, rfl, ho11, F11⟩
  rw [hG.out] at ho11
  obtain ⟨A11, c11, rfl, _⟩ := ho11.reads
  clear ho11
  go_wp2_with fail
  refine (ref_text s _ (by omega)).mono ?_
  rintro r w12 ⟨v12, rfl, ho12, F12⟩
  rw [hD.out] at ho12
  obtain ⟨A12, c12, rfl, _⟩ := ho12.reads
  clear ho12
  go_wp2_with fail
  refine (works09 _).mono ?_
  rintro r w13 ⟨rfl, F13⟩
  go_wp2_with fail
  go_ret
  exact ⟨rfl, FF10.trans (F11.trans (F12.trans F13))⟩
end Go.Proofs.Ytlpigldogglmcaa
