/- The law DigestOpens, walked. -/
import Derived.Test.YtlpigldogglmcaaDigL
import Derived.Test.YtlpigldogglmcaaDigP
import Derived.Test.YtlpigldogglmcaaReg
set_option linter.unusedVariables false
set_option linter.unusedSimpArgs false
namespace Go.Proofs.Ytlpigldogglmcaa
open Go.RowKit
open Go.Proofs.YtlpigldogglmcaaW.PrintWords

theorem OwB.at0 {w : World} {B n c : Nat} {A : Option Addr} {xs : List Int} (h : OwB w B (.slice A n c) xs) (hn : 0 < xs.length) : ∃ g, A = some ⟨g, 0, none⟩ ∧ B ≤ g ∧ g < w.heap.size := by
  rcases h.2 with ⟨h1, h2⟩ | ⟨g, cap, cur, h1, hb, hh, h2, _⟩
  · omega
  · injection h1 with h3 _ _
    exact ⟨g, h3, hb, (Array.getElem?_eq_some_iff.1 hh).1⟩

set_option maxRecDepth 100000 in
theorem lawOpens_long (A : Option Addr) (n c : Nat) (at_ by_ : Int) (w : World) (hl : 2000 < n) (hm : n ≤ 9223372036854775807) :
    Calls Try.prog 4 #[.slice A n c, .int .u16 at_, .int .u8 by_] w fun r w' => r = .returned (.bool true) ∧ Fr (fun _ => False) w w' := by
  go_enter Try.func4, Try.ntmps4
  go_wp2_with fail
  refine (works10 _).mono ?_
  rintro r w4 ⟨rfl, F4⟩
  go_wp2_with fail
  go_ret
  exact ⟨rfl, F4⟩

set_option maxRecDepth 100000 in
set_option maxHeartbeats 1000000 in
theorem lawOpens (A : Option Addr) (xs : List Int) (c : Nat) (at_ by_ : Int) (w : World) (hl : xs.length ≤ 2000) (hc : xs.length ≤ c) (hr : RdB w A xs) (hx : Byt xs) (ha0 : 0 ≤ at_) (ha1 : at_ ≤ 65535) (hb0 : 0 ≤ by_) (hb9 : by_ ≤ 255) :
    Calls Try.prog 4 #[.slice A xs.length c, .int .u16 at_, .int .u8 by_] w fun r w' => r = .returned (.bool true) ∧ Fr (fun _ => False) w w' := by
  have hb1 : ([] : List Int).length + xs.length ≤ 140737488355328 := by simp; omega
  have HHR := Lib.hid hr
  have HX := Lib.hid hx
  have hr0 : RdB (w.alloc (.cells #[] 5)) A xs := hr.fr ((Fr.refl (fun _ => False) _).alloc _) (fun _ _ h => h)
  have F0 : Fr (fun _ => False) w (w.alloc (.cells #[] 5)) := (Fr.refl _ _).alloc _
  have ho0 := ow_lit0 w
  have hs0 : w.heap.size ≤ (w.alloc (.cells #[] 5)).heap.size := F0.size
  obtain ⟨S, hS⟩ : ∃ S, Hid (xs ++ be8 (dOf xs) = S) := ⟨_, rfl⟩
  have hS8 : (S.length : Int) = (xs.length : Int) + 8 := by rw [← hS.out, List.length_append, be8_len]; omega
  have HOS : ∀ A1 c1 w1, xs.length + 8 ≤ c1 → RdB w1 A1 S → Calls Try.prog 25 #[.slice A1 S.length c1] w1 fun r w' => ∃ v, r = .returned (.tuple #[v, .int .i64 0]) ∧ OwB w' w1.heap.size v xs ∧ Fr (fun _ => False) w1 w' := by
    intro A1 c1 w1 h1 h2
    rw [← hS.out] at h2 ⊢
    exact open_sealed A1 xs c1 w1 h1 h2 HX.out (by omega)
  replace HOS := fun A1 c1 w1 h1 h2 => Lib.hid (HOS A1 c1 w1 h1 h2)
  obtain ⟨k, hk, hk9⟩ : ∃ k : Nat, at_.tmod ((xs.length : Int) + 8) = (k : Int) ∧ k < xs.length + 8 := by
    have h1 := Int.tmod_nonneg ((xs.length : Int) + 8) ha0
    have h2 := Int.tmod_lt_of_pos at_ (show (0 : Int) < (xs.length : Int) + 8 by omega)
    exact ⟨(at_.tmod ((xs.length : Int) + 8)).toNat, by omega, by omega⟩
  have HSB : Hid (Byt S) := by rw [← hS.out]; exact seal_byt HX.out
  clear hr hx
  go_enter Try.func4, Try.ntmps4
  go_wp2_with (at_builtin; go_must (refine append8_row w.heap.size rfl _ _ rfl (.slice (some ⟨w.heap.size, 0, none⟩) 0 0) [] xs A c rfl rfl ho0 hr0 hs0 hb1 ?_); intro v1 w1 hown hF)
  simp only [List.nil_append] at hown
  have F1 : Fr (fun _ => False) w w1 := F0.trans' hF (fun i hi hk => by have := hk.1; omega)
  clear F0 hF ho0 hr0 hs0
  obtain ⟨A1, c1, rfl, hr1⟩ := hown.reads
  have hc1 : xs.length ≤ c1 := hown.cap
  clear hown
  go_wp2_with fail
  rcases Nat.lt_or_ge xs.length 8 with h8 | h8
  · refine (dig_open_short A1 xs.length c1 w1 h8).mono ?_
    rintro r w2 ⟨rfl, F2⟩
    have FA := F1.trans F2
    clear F1 F2 hr1 hc1
    go_wp2_with fail
    refine (dig_seal A xs c _ hc (HHR.out.fr FA (fun _ _ h => h)) HX.out (by omega)).mono ?_
    rintro r ws ⟨vS, rfl, hos, FS⟩
    rw [hS.out] at hos
    obtain ⟨AS, cS, rfl, hrS⟩ := hos.reads
    have hcS : S.length ≤ cS := hos.cap
    obtain ⟨gS, rfl, hg1, hg2⟩ := hos.at0 (by omega)
    have HOp := HOS (some ⟨gS, 0, none⟩) cS ws (by omega) hrS
    have FB := FA.trans FS
    have hsz := FA.size
    clear FA FS hrS
    go_wp2_with fail
    refine HOp.out.mono ?_
    rintro r wo ⟨vO, rfl, hoo, FO⟩
    obtain ⟨AO, cO, rfl, hrO⟩ := hoo.reads
    have kO := conv_str8 (c := cO) hrO
    have kB := conv_str8 (c := c) (HHR.out.fr (FB.trans FO) (fun _ _ h => h))
    have hos2 : OwB wo w2.heap.size (.slice (some ⟨gS, 0, none⟩) S.length cS) S := hos.fr FO (fun _ _ _ h => h)
    clear HOp hoo hrO hos
    go_wp2_with fail
    obtain ⟨hcell, hfz⟩ := own_at hos2 k (by omega) (by omega)
    simp only [Int.toNat_natCast] at hcell hfz
    have hx0 := HSB.out _ (rd_mem (show k < S.length by omega))
    generalize hxv : rd S k = x at hcell hx0
    clear kO kB
    go_region
    have hos3 := (own_store hos2 k ((x + by_) % 256)).1
    simp only [Int.toNat_natCast] at hos3
    have hy0 : 0 ≤ (x + by_) % 256 ∧ (x + by_) % 256 ≤ 255 := by omega
    have hyx : by_ = 0 ∨ x ≠ (x + by_) % 256 := by omega
    have hye : by_ = 0 → (x + by_) % 256 = x := by omega
    have FD : Fr (fun _ => False) w (wo.setCell ⟨gS, k, none⟩ (.int .u8 ((x + by_) % 256))).drew := ((FB.trans FO).setCell (.inr (by show w.heap.size ≤ gS; omega)) _).drew
    have hgd : S.getD k 0 = x := by rw [← hxv]; rfl
    replace hos3 : OwB (wo.setCell ⟨gS, k, none⟩ (.int .u8 ((x + by_) % 256))).drew w2.heap.size (.slice (some ⟨gS, 0, none⟩) S.length cS) (S.set k ((x + by_) % 256)) := by
      refine OwB.fr (S := fun _ => False) (w := (wo.setCell ⟨gS, k, none⟩ (.int .u8 ((x + by_) % 256)))) ?_ ((Fr.refl _ _).drew) (fun _ _ _ h => h)
      show World.ownsRow _ _ _ _ _ _ _
      rw [List.length_set]
      exact hos3
    clear hcell hfz hxv hos2 FB FO hx0
    generalize (x + by_) % 256 = y at *
    generalize (wo.setCell ⟨gS, k, none⟩ (.int .u8 y)).drew = wz at *
    obtain ⟨AZ, cZ, hv, hrZ⟩ := hos3.reads
    have hlz : (S.set k y).length = S.length := List.length_set
    rw [hlz] at hv
    injection hv with hv1 _ hv2
    subst hv1 hv2
    by_cases hby : by_ = 0
    · have hset : S.set k y = S := by rw [hye hby, ← hgd]; exact set_same (by omega)
      rw [hset] at hrZ
      have HZ := HOS (some ⟨gS, 0, none⟩) cS wz (by omega) hrZ
      subst hby
      clear hos3 hrZ hyx hgd hlz hk hye hset
      go_wp2_with fail
      refine HZ.out.mono ?_
      rintro r wy ⟨vy, rfl, _, FY⟩
      go_wp2_with fail
      refine (works10 _).mono ?_
      rintro r wq ⟨rfl, FQ⟩
      go_wp2_with fail
      go_ret
      exact ⟨rfl, FD.trans (FY.trans FQ)⟩
    · have hbb : (by_ == 0) = false := by simp [hby]
      have hne : S.getD k 0 ≠ y := by rw [hgd]; rcases hyx with h | h; exact absurd h hby; exact h
      have HZ : Hid (Calls Try.prog 25 #[.slice (some ⟨gS, 0, none⟩) S.length cS] wz fun r w' => r = .returned (.tuple #[.slice none 0 0, .int .i64 21]) ∧ Fr (fun _ => False) wz w') := by
        have h1 := seal_changed HX.out k y hy0.1 hy0.2 (by rw [hS.out]; omega) (by rw [hS.out]; exact hne)
        rw [hS.out] at h1
        have h2 := dig_open_sum (some ⟨gS, 0, none⟩) (S.set k y) cS xs.length wz (by omega) (by omega) hrZ (set_byt HSB.out hy0.1 hy0.2) (by omega) h1
        rw [hlz] at h2
        exact h2
      clear hos3 hrZ hyx hgd hlz hne hk hye
      go_wp2_with fail
      refine HZ.out.mono ?_
      rintro r wy ⟨rfl, FY⟩
      go_wp2_with fail
      refine (works10 _).mono ?_
      rintro r wq ⟨rfl, FQ⟩
      go_wp2_with fail
      go_ret
      exact ⟨rfl, FD.trans (FY.trans FQ)⟩
  · obtain ⟨m, hm⟩ : ∃ m, xs.length = m + 8 := ⟨xs.length - 8, by omega⟩
    have hsub : (xs.length : Int) - 8 = (m : Int) := by omega
    obtain ⟨AD, D, hcutF, hD⟩ := cut_from8 A c xs m (by omega) hc
    obtain ⟨T, hcutT, hT⟩ := cut_to8 A c xs m (by omega) hc
    obtain ⟨hT1, hTl, hT3⟩ := hT.out
    obtain ⟨hD1, _, hD3⟩ := hD.out
    subst hTl
    have hDl : D.length = 8 := by rw [hD1, List.length_drop]; omega
    have bD : Hid (Byt D) := by rw [hD1]; exact fun x h => HX.out x (List.mem_of_mem_drop h)
    have bT : Hid (Byt T) := by rw [hT1]; exact fun x h => HX.out x (List.mem_of_mem_take h)
    have rD : ∀ w', RdB w' A xs → Hid (RdB w' AD D) := fun w' h => hD3 w' h
    have rT : ∀ w', RdB w' A xs → Hid (RdB w' A T) := fun w' h => hT3 w' h
    obtain ⟨E, hE⟩ : ∃ E, Hid (be8 (dOf T) = E) := ⟨_, rfl⟩
    have bE : Hid (Byt E) := by rw [← hE.out]; exact beTo_byt _ 8
    have hElen : E.length = 8 := by rw [← hE.out]; rfl
    have HElen := Lib.hid hElen
    have HDl := Lib.hid hDl
    have hTb : T.length ≤ 2000 := by omega
    have hdl := Lib.hid (dOf_lt T)
    clear hD hT hElen hDl
    by_cases hd : dOf T = beVal D
    · -- what stands behind is the digest
      have hDE : D = E := by rw [← hE.out]; exact (sum_iff HDl.out bD.out hdl.out).1 hd
      subst hDE
      have HO1 : Hid (Calls Try.prog 25 #[.slice A1 xs.length c1] w1 fun r w' => ∃ v, r = .returned (.tuple #[v, .int .i64 0]) ∧ OwB w' w1.heap.size v T ∧ Fr (fun _ => False) w1 w') := by
        have h := dig_open_ok A1 xs c1 T.length w1 hm hc1 hr1 HX.out (by omega) (by rw [← hT1, ← hD1]; exact hd)
        rw [← hT1] at h
        exact h
      generalize hdd : dOf T = d at hdl
      have Hdd := Lib.hid hdd
      have Hm := Lib.hid hm
      clear hd hdd hT1 hD1 hT3 hD3 hm
      refine HO1.out.mono ?_
      rintro r w2 ⟨vI, rfl, hoI, F2⟩
      obtain ⟨AI, cI, rfl, hrI⟩ := hoI.reads
      have FA := F1.trans F2
      have HB : ∀ w', Later w2.drew w' → Hid (RdB w' A xs) := fun w' hF => HHR.out.fr ((FA.drew).trans hF) (fun _ _ h => h)
      have kI : ∀ w', Later w2.drew w' → (convert 39 9 (.slice AI T.length cI)).run Try.prog w' = .ok (.string (strOfNums T)) w' := fun w' hF => conv_str8 (hrI.fr (((Fr.refl _ _).drew).trans hF) (fun _ _ h => h))
      have kT : ∀ w', Later w2.drew w' → (convert 39 9 (.slice A T.length c)).run Try.prog w' = .ok (.string (strOfNums T)) w' := fun w' hF => conv_str8 (rT _ (HB w' hF).out).out
      have kD : ∀ w', Later w2.drew w' → (convert 39 9 (.slice AD D.length (c - T.length))).run Try.prog w' = .ok (.string (strOfNums D)) w' := fun w' hF => conv_str8 (rD _ (HB w' hF).out).out
      clear HO1 F1 F2 hr1 hc1 hoI hrI rD
      go_wp2_with fail
      refine rh_start 12 (by kernel_rfl) rfl ?_
      refine rh_take 0 (v := ?_) rfl (by kernel_rfl) (by kernel_rfl) (by kernel_rfl) (fun _ _ _ h => h) (by rfl) (by first | exact Fr.refl _ _ | assumption) ?_ ?_
      rotate_left 1
      · intro w hSw; go_simp <;> with_reducible rfl
      try simp only [Act.put, List.setIfInBounds_toArray, List.set_cons_zero, List.set_cons_succ]
      refine rh_take 1 (v := ?_) rfl (by kernel_rfl) (by kernel_rfl) (by kernel_rfl) (fun _ _ _ h => h) (by rfl) (by first | exact Fr.refl _ _ | assumption) ?_ ?_
      rotate_left 1
      · intro w hSw; go_simp <;> with_reducible rfl
      try simp only [Act.put, List.setIfInBounds_toArray, List.set_cons_zero, List.set_cons_succ]
      refine rh_take 2 (v := ?_) rfl (by kernel_rfl) (by kernel_rfl) (by kernel_rfl) (fun _ _ _ h => h) (by rfl) (by first | exact Fr.refl _ _ | assumption) ?_ ?_
      rotate_left 1
      · intro w hSw; go_simp <;> with_reducible rfl
      try simp only [Act.put, List.setIfInBounds_toArray, List.set_cons_zero, List.set_cons_succ]
      refine rh_take 3 (v := ?_) rfl (by kernel_rfl) (by kernel_rfl) (by kernel_rfl) (fun _ _ _ h => h) (by rfl) (by first | exact Fr.refl _ _ | assumption) ?_ ?_
      rotate_left 1
      · intro w hSw; go_simp <;> with_reducible rfl
      try simp only [Act.put, List.setIfInBounds_toArray, List.set_cons_zero, List.set_cons_succ]
      refine rh_take 4 (v := ?_) rfl (by kernel_rfl) (by kernel_rfl) (by kernel_rfl) (fun _ _ _ h => h) (by rfl) (by first | exact Fr.refl _ _ | assumption) ?_ ?_
      rotate_left 1
      · intro w hSw; go_simp <;> with_reducible rfl
      try simp only [Act.put, List.setIfInBounds_toArray, List.set_cons_zero, List.set_cons_succ]
      refine rh_take 5 (v := ?_) rfl (by kernel_rfl) (by kernel_rfl) (by kernel_rfl) (fun _ _ _ h => h) (by rfl) (by first | exact Fr.refl _ _ | assumption) ?_ ?_
      rotate_left 1
      · intro w hSw; go_simp <;> with_reducible rfl
      try simp only [Act.put, List.setIfInBounds_toArray, List.set_cons_zero, List.set_cons_succ]
      refine rh_take 6 (v := ?_) rfl (by kernel_rfl) (by kernel_rfl) (by kernel_rfl) (fun _ _ _ h => h) (by rfl) (by first | exact Fr.refl _ _ | assumption) ?_ ?_
      rotate_left 1
      · intro w hSw; go_simp <;> with_reducible rfl
      try simp only [Act.put, List.setIfInBounds_toArray, List.set_cons_zero, List.set_cons_succ]
      refine rh_one 7 rfl (by kernel_rfl) (fun K hK => ?_)
      go_simp
      refine (ref_of A T c _ (rT _ (HB _ (Fr.refl _ _)).out).out bT.out (by omega)).mono ?_
      rintro r w3 ⟨rfl, rfl⟩
      rw [Hdd.out]
      go_wp2_with fail
      refine hK.out _ _ _ (by first | assumption | exact Fr.refl _ _) (Fr.refl _ _) ?_
      clear hK K
      try simp only [Act.put, List.setIfInBounds_toArray, List.set_cons_zero, List.set_cons_succ]
      refine rh_one 8 rfl (by kernel_rfl) (fun K hK => ?_)
      go_simp
      refine (ref_big d _ hdl.out).mono ?_
      rintro r w5 ⟨v5, rfl, ho5, F5⟩
      rw [← Hdd.out, hE.out] at ho5
      obtain ⟨A5, c5, rfl, hr5⟩ := ho5.reads
      have k5 : ∀ w', Later w5 w' → (convert 39 9 (.slice A5 D.length c5)).run Try.prog w' = .ok (.string (strOfNums D)) w' := fun w' hF => conv_str8 (hr5.fr hF (fun _ _ h => h))
      replace FA := FA.drew.trans F5
      have F5d : Later w2.drew w5.drew := F5.drew
      go_wp2_with fail
      refine hK.out _ _ _ (by first | assumption | exact Fr.refl _ _) (Fr.refl _ _) ?_
      clear hK K
      try simp only [Act.put, List.setIfInBounds_toArray, List.set_cons_zero, List.set_cons_succ]
      refine rh_take 9 (v := ?_) rfl (by kernel_rfl) (by kernel_rfl) (by kernel_rfl) (fun _ _ _ h => h) (by rfl) (by first | exact Fr.refl _ _ | assumption) ?_ ?_
      rotate_left 1
      · intro w hSw; go_simp <;> with_reducible rfl
      try simp only [Act.put, List.setIfInBounds_toArray, List.set_cons_zero, List.set_cons_succ]
      refine rh_take 10 (v := ?_) rfl (by kernel_rfl) (by kernel_rfl) (by kernel_rfl) (fun _ _ _ h => h) (by rfl) (by first | exact Fr.refl _ _ | assumption) ?_ ?_
      rotate_left 1
      · intro w hSw; go_simp <;> with_reducible rfl
      try simp only [Act.put, List.setIfInBounds_toArray, List.set_cons_zero, List.set_cons_succ]
      refine rh_take 11 (v := ?_) rfl (by kernel_rfl) (by kernel_rfl) (by kernel_rfl) (fun _ _ _ h => h) (by rfl) (by first | exact Fr.refl _ _ | assumption) ?_ ?_
      rotate_left 1
      · intro w hSw; go_simp <;> with_reducible rfl
      try simp only [Act.put, List.setIfInBounds_toArray, List.set_cons_zero, List.set_cons_succ]
      refine rh_done (by kernel_rfl) ?_
      go_wp2_with fail
      replace kI := fun w' (hF : Later w5.drew w') => kI w' (F5d.trans hF)
      replace kT := fun w' (hF : Later w5.drew w') => kT w' (F5d.trans hF)
      replace FA := FA.drew
      clear kD k5 ho5 hr5 F5 HB rT
      go_wp2_with fail
      refine rh_start 27 (by kernel_rfl) rfl ?_
      refine rh_take 0 (v := ?_) rfl (by kernel_rfl) (by kernel_rfl) (by kernel_rfl) (fun _ _ _ h => h) (by rfl) (by first | exact Fr.refl _ _ | assumption) ?_ ?_
      rotate_left 1
      · intro w hSw; go_simp <;> with_reducible rfl
      try simp only [Act.put, List.setIfInBounds_toArray, List.set_cons_zero, List.set_cons_succ]
      refine rh_take 1 (v := ?_) rfl (by kernel_rfl) (by kernel_rfl) (by kernel_rfl) (fun _ _ _ h => h) (by rfl) (by first | exact Fr.refl _ _ | assumption) ?_ ?_
      rotate_left 1
      · intro w hSw; go_simp <;> with_reducible rfl
      try simp only [Act.put, List.setIfInBounds_toArray, List.set_cons_zero, List.set_cons_succ]
      refine rh_take 2 (v := ?_) rfl (by kernel_rfl) (by kernel_rfl) (by kernel_rfl) (fun _ _ _ h => h) (by rfl) (by first | exact Fr.refl _ _ | assumption) ?_ ?_
      rotate_left 1
      · intro w hSw; go_simp <;> with_reducible rfl
      try simp only [Act.put, List.setIfInBounds_toArray, List.set_cons_zero, List.set_cons_succ]
      refine rh_take 3 (v := ?_) rfl (by kernel_rfl) (by kernel_rfl) (by kernel_rfl) (fun _ _ _ h => h) (by rfl) (by first | exact Fr.refl _ _ | assumption) ?_ ?_
      rotate_left 1
      · intro w hSw; go_simp <;> with_reducible rfl
      try simp only [Act.put, List.setIfInBounds_toArray, List.set_cons_zero, List.set_cons_succ]
      refine rh_take 4 (v := ?_) rfl (by kernel_rfl) (by kernel_rfl) (by kernel_rfl) (fun _ _ _ h => h) (by rfl) (by first | exact Fr.refl _ _ | assumption) ?_ ?_
      rotate_left 1
      · intro w hSw; go_simp <;> with_reducible rfl
      try simp only [Act.put, List.setIfInBounds_toArray, List.set_cons_zero, List.set_cons_succ]
      refine rh_take 5 (v := ?_) rfl (by kernel_rfl) (by kernel_rfl) (by kernel_rfl) (fun _ _ _ h => h) (by rfl) (by first | exact Fr.refl _ _ | assumption) ?_ ?_
      rotate_left 1
      · intro w hSw; go_simp <;> with_reducible rfl
      try simp only [Act.put, List.setIfInBounds_toArray, List.set_cons_zero, List.set_cons_succ]
      refine rh_take 6 (v := ?_) rfl (by kernel_rfl) (by kernel_rfl) (by kernel_rfl) (fun _ _ _ h => h) (by rfl) (by first | exact Fr.refl _ _ | assumption) ?_ ?_
      rotate_left 1
      · intro w hSw; go_simp <;> with_reducible rfl
      try simp only [Act.put, List.setIfInBounds_toArray, List.set_cons_zero, List.set_cons_succ]
      refine rh_take 7 (v := ?_) rfl (by kernel_rfl) (by kernel_rfl) (by kernel_rfl) (fun _ _ _ h => h) (by rfl) (by first | exact Fr.refl _ _ | assumption) ?_ ?_
      rotate_left 1
      · intro w hSw; go_simp <;> with_reducible rfl
      try simp only [Act.put, List.setIfInBounds_toArray, List.set_cons_zero, List.set_cons_succ]
      refine rh_take 8 (v := ?_) rfl (by kernel_rfl) (by kernel_rfl) (by kernel_rfl) (fun _ _ _ h => h) (by rfl) (by first | exact Fr.refl _ _ | assumption) ?_ ?_
      rotate_left 1
      · intro w hSw; go_simp <;> with_reducible rfl
      try simp only [Act.put, List.setIfInBounds_toArray, List.set_cons_zero, List.set_cons_succ]
      refine rh_take 9 (v := ?_) rfl (by kernel_rfl) (by kernel_rfl) (by kernel_rfl) (fun _ _ _ h => h) (by rfl) (by first | exact Fr.refl _ _ | assumption) ?_ ?_
      rotate_left 1
      · intro w hSw; go_simp <;> with_reducible rfl
      try simp only [Act.put, List.setIfInBounds_toArray, List.set_cons_zero, List.set_cons_succ]
      refine rh_take 10 (v := ?_) rfl (by kernel_rfl) (by kernel_rfl) (by kernel_rfl) (fun _ _ _ h => h) (by rfl) (by first | exact Fr.refl _ _ | assumption) ?_ ?_
      rotate_left 1
      · intro w hSw; go_simp <;> with_reducible rfl
      try simp only [Act.put, List.setIfInBounds_toArray, List.set_cons_zero, List.set_cons_succ]
      refine rh_take 11 (v := ?_) rfl (by kernel_rfl) (by kernel_rfl) (by kernel_rfl) (fun _ _ _ h => h) (by rfl) (by first | exact Fr.refl _ _ | assumption) ?_ ?_
      rotate_left 1
      · intro w hSw; go_simp <;> with_reducible rfl
      try simp only [Act.put, List.setIfInBounds_toArray, List.set_cons_zero, List.set_cons_succ]
      refine rh_take 12 (v := ?_) rfl (by kernel_rfl) (by kernel_rfl) (by kernel_rfl) (fun _ _ _ h => h) (by rfl) (by first | exact Fr.refl _ _ | assumption) ?_ ?_
      rotate_left 1
      · intro w hSw; go_simp <;> with_reducible rfl
      try simp only [Act.put, List.setIfInBounds_toArray, List.set_cons_zero, List.set_cons_succ]
      refine rh_take 13 (v := ?_) rfl (by kernel_rfl) (by kernel_rfl) (by kernel_rfl) (fun _ _ _ h => h) (by rfl) (by first | exact Fr.refl _ _ | assumption) ?_ ?_
      rotate_left 1
      · intro w hSw; go_simp <;> with_reducible rfl
      try simp only [Act.put, List.setIfInBounds_toArray, List.set_cons_zero, List.set_cons_succ]
      refine rh_take 14 (v := ?_) rfl (by kernel_rfl) (by kernel_rfl) (by kernel_rfl) (fun _ _ _ h => h) (by rfl) (by first | exact Fr.refl _ _ | assumption) ?_ ?_
      rotate_left 1
      · intro w hSw; go_simp <;> with_reducible rfl
      try simp only [Act.put, List.setIfInBounds_toArray, List.set_cons_zero, List.set_cons_succ]
      refine rh_take 15 (v := ?_) rfl (by kernel_rfl) (by kernel_rfl) (by kernel_rfl) (fun _ _ _ h => h) (by rfl) (by first | exact Fr.refl _ _ | assumption) ?_ ?_
      rotate_left 1
      · intro w hSw; go_simp <;> with_reducible rfl
      try simp only [Act.put, List.setIfInBounds_toArray, List.set_cons_zero, List.set_cons_succ]
      refine rh_take 16 (v := ?_) rfl (by kernel_rfl) (by kernel_rfl) (by kernel_rfl) (fun _ _ _ h => h) (by rfl) (by first | exact Fr.refl _ _ | assumption) ?_ ?_
      rotate_left 1
      · intro w hSw; go_simp <;> with_reducible rfl
      try simp only [Act.put, List.setIfInBounds_toArray, List.set_cons_zero, List.set_cons_succ]
      refine rh_take 17 (v := ?_) rfl (by kernel_rfl) (by kernel_rfl) (by kernel_rfl) (fun _ _ _ h => h) (by rfl) (by first | exact Fr.refl _ _ | assumption) ?_ ?_
      rotate_left 1
      · intro w hSw; go_simp <;> with_reducible rfl
      try simp only [Act.put, List.setIfInBounds_toArray, List.set_cons_zero, List.set_cons_succ]
      refine rh_skip 18 rfl (by kernel_rfl) (by kernel_rfl) (by kernel_rfl) (fun _ _ _ h => h) (by rfl) (by first | exact Fr.refl _ _ | assumption) ?_
      try simp only [Act.put, List.setIfInBounds_toArray, List.set_cons_zero, List.set_cons_succ]
      refine rh_skip 19 rfl (by kernel_rfl) (by kernel_rfl) (by kernel_rfl) (fun _ _ _ h => h) (by rfl) (by first | exact Fr.refl _ _ | assumption) ?_
      try simp only [Act.put, List.setIfInBounds_toArray, List.set_cons_zero, List.set_cons_succ]
      refine rh_skip 20 rfl (by kernel_rfl) (by kernel_rfl) (by kernel_rfl) (fun _ _ _ h => h) (by rfl) (by first | exact Fr.refl _ _ | assumption) ?_
      try simp only [Act.put, List.setIfInBounds_toArray, List.set_cons_zero, List.set_cons_succ]
      refine rh_skip 21 rfl (by kernel_rfl) (by kernel_rfl) (by kernel_rfl) (fun _ _ _ h => h) (by rfl) (by first | exact Fr.refl _ _ | assumption) ?_
      try simp only [Act.put, List.setIfInBounds_toArray, List.set_cons_zero, List.set_cons_succ]
      refine rh_skip 22 rfl (by kernel_rfl) (by kernel_rfl) (by kernel_rfl) (fun _ _ _ h => h) (by rfl) (by first | exact Fr.refl _ _ | assumption) ?_
      try simp only [Act.put, List.setIfInBounds_toArray, List.set_cons_zero, List.set_cons_succ]
      refine rh_skip 23 rfl (by kernel_rfl) (by kernel_rfl) (by kernel_rfl) (fun _ _ _ h => h) (by rfl) (by first | exact Fr.refl _ _ | assumption) ?_
      try simp only [Act.put, List.setIfInBounds_toArray, List.set_cons_zero, List.set_cons_succ]
      refine rh_skip 24 rfl (by kernel_rfl) (by kernel_rfl) (by kernel_rfl) (fun _ _ _ h => h) (by rfl) (by first | exact Fr.refl _ _ | assumption) ?_
      try simp only [Act.put, List.setIfInBounds_toArray, List.set_cons_zero, List.set_cons_succ]
      refine rh_take 25 (v := ?_) rfl (by kernel_rfl) (by kernel_rfl) (by kernel_rfl) (fun _ _ _ h => h) (by rfl) (by first | exact Fr.refl _ _ | assumption) ?_ ?_
      rotate_left 1
      · intro w hSw; go_simp <;> with_reducible rfl
      try simp only [Act.put, List.setIfInBounds_toArray, List.set_cons_zero, List.set_cons_succ]
      refine rh_take 26 (v := ?_) rfl (by kernel_rfl) (by kernel_rfl) (by kernel_rfl) (fun _ _ _ h => h) (by rfl) (by first | exact Fr.refl _ _ | assumption) ?_ ?_
      rotate_left 1
      · intro w hSw; go_simp <;> with_reducible rfl
      try simp only [Act.put, List.setIfInBounds_toArray, List.set_cons_zero, List.set_cons_succ]
      refine rh_done (by kernel_rfl) ?_
      go_wp2_with fail
      refine (dig_seal A xs c _ hc (HHR.out.fr FA (fun _ _ h => h)) HX.out (by omega)).mono ?_
      rintro r ws ⟨vS, rfl, hos, FS⟩
      rw [hS.out] at hos
      obtain ⟨AS, cS, rfl, hrS⟩ := hos.reads
      have hcS : S.length ≤ cS := hos.cap
      obtain ⟨gS, rfl, hg1, hg2⟩ := hos.at0 (by omega)
      have HOp := HOS (some ⟨gS, 0, none⟩) cS ws (by omega) hrS
      have FB := FA.trans FS
      have hsz := FA.size
      clear FA FS hrS
      go_wp2_with fail
      refine HOp.out.mono ?_
      rintro r wo ⟨vO, rfl, hoo, FO⟩
      obtain ⟨AO, cO, rfl, hrO⟩ := hoo.reads
      have kO := conv_str8 (c := cO) hrO
      have kB := conv_str8 (c := c) (HHR.out.fr (FB.trans FO) (fun _ _ h => h))
      have hos2 : OwB wo w5.drew.heap.size (.slice (some ⟨gS, 0, none⟩) S.length cS) S := hos.fr FO (fun _ _ _ h => h)
      clear HOp hoo hrO hos
      go_wp2_with fail
      obtain ⟨hcell, hfz⟩ := own_at hos2 k (by omega) (by omega)
      simp only [Int.toNat_natCast] at hcell hfz
      have hx0 := HSB.out _ (rd_mem (show k < S.length by omega))
      generalize hxv : rd S k = x at hcell hx0
      clear kO kB
      go_region
      have hos3 := (own_store hos2 k ((x + by_) % 256)).1
      simp only [Int.toNat_natCast] at hos3
      have hy0 : 0 ≤ (x + by_) % 256 ∧ (x + by_) % 256 ≤ 255 := by omega
      have hyx : by_ = 0 ∨ x ≠ (x + by_) % 256 := by omega
      have hye : by_ = 0 → (x + by_) % 256 = x := by omega
      have FD : Fr (fun _ => False) w (wo.setCell ⟨gS, k, none⟩ (.int .u8 ((x + by_) % 256))).drew := ((FB.trans FO).setCell (.inr (by show w.heap.size ≤ gS; omega)) _).drew
      have hgd : S.getD k 0 = x := by rw [← hxv]; rfl
      replace hos3 : OwB (wo.setCell ⟨gS, k, none⟩ (.int .u8 ((x + by_) % 256))).drew w5.drew.heap.size (.slice (some ⟨gS, 0, none⟩) S.length cS) (S.set k ((x + by_) % 256)) := by
        refine OwB.fr (S := fun _ => False) (w := (wo.setCell ⟨gS, k, none⟩ (.int .u8 ((x + by_) % 256)))) ?_ ((Fr.refl _ _).drew) (fun _ _ _ h => h)
        show World.ownsRow _ _ _ _ _ _ _
        rw [List.length_set]
        exact hos3
      clear hcell hfz hxv hos2 FB FO hx0
      generalize (x + by_) % 256 = y at *
      generalize (wo.setCell ⟨gS, k, none⟩ (.int .u8 y)).drew = wz at *
      obtain ⟨AZ, cZ, hv, hrZ⟩ := hos3.reads
      have hlz : (S.set k y).length = S.length := List.length_set
      rw [hlz] at hv
      injection hv with hv1 _ hv2
      subst hv1 hv2
      by_cases hby : by_ = 0
      · have hset : S.set k y = S := by rw [hye hby, ← hgd]; exact set_same (by omega)
        rw [hset] at hrZ
        have HZ := HOS (some ⟨gS, 0, none⟩) cS wz (by omega) hrZ
        subst hby
        clear hos3 hrZ hyx hgd hlz hk hye hset
        go_wp2_with fail
        refine HZ.out.mono ?_
        rintro r wy ⟨vy, rfl, _, FY⟩
        go_wp2_with fail
        refine (works10 _).mono ?_
        rintro r wq ⟨rfl, FQ⟩
        go_wp2_with fail
        go_ret
        exact ⟨rfl, FD.trans (FY.trans FQ)⟩
      · have hbb : (by_ == 0) = false := by simp [hby]
        have hne : S.getD k 0 ≠ y := by rw [hgd]; rcases hyx with h | h; exact absurd h hby; exact h
        have HZ : Hid (Calls Try.prog 25 #[.slice (some ⟨gS, 0, none⟩) S.length cS] wz fun r w' => r = .returned (.tuple #[.slice none 0 0, .int .i64 21]) ∧ Fr (fun _ => False) wz w') := by
          have h1 := seal_changed HX.out k y hy0.1 hy0.2 (by rw [hS.out]; omega) (by rw [hS.out]; exact hne)
          rw [hS.out] at h1
          have h2 := dig_open_sum (some ⟨gS, 0, none⟩) (S.set k y) cS xs.length wz (by omega) (by omega) hrZ (set_byt HSB.out hy0.1 hy0.2) (by omega) h1
          rw [hlz] at h2
          exact h2
        clear hos3 hrZ hyx hgd hlz hne hk hye
        go_wp2_with fail
        refine HZ.out.mono ?_
        rintro r wy ⟨rfl, FY⟩
        go_wp2_with fail
        refine (works10 _).mono ?_
        rintro r wq ⟨rfl, FQ⟩
        go_wp2_with fail
        go_ret
        exact ⟨rfl, FD.trans (FY.trans FQ)⟩
    · -- it is not
      have hDE : ((strOfNums D).toList == (strOfNums E).toList) = false := str_ne bD.out bE.out (fun h => hd ((sum_iff HDl.out bD.out hdl.out).2 (by rw [h, hE.out])))
      have HO1 : Hid (Calls Try.prog 25 #[.slice A1 xs.length c1] w1 fun r w' => r = .returned (.tuple #[.slice none 0 0, .int .i64 21]) ∧ Fr (fun _ => False) w1 w') :=
        dig_open_sum A1 xs c1 T.length w1 hm hc1 hr1 HX.out (by omega) (by rw [← hT1, ← hD1]; exact hd)
      generalize hdd : dOf T = d at hdl
      have Hdd := Lib.hid hdd
      have Hm := Lib.hid hm
      clear hd hdd hT1 hD1 hT3 hD3 hm
      refine HO1.out.mono ?_
      rintro r w2 ⟨rfl, F2⟩
      have FA := F1.trans F2
      have HB : ∀ w', Later w2.drew w' → Hid (RdB w' A xs) := fun w' hF => HHR.out.fr ((FA.drew).trans hF) (fun _ _ h => h)
      have kD : ∀ w', Later w2.drew w' → (convert 39 9 (.slice AD D.length (c - T.length))).run Try.prog w' = .ok (.string (strOfNums D)) w' := fun w' hF => conv_str8 (rD _ (HB w' hF).out).out
      clear HO1 F1 F2 hr1 hc1 rD
      go_wp2_with fail
      refine rh_start 12 (by kernel_rfl) rfl ?_
      refine rh_take 0 (v := ?_) rfl (by kernel_rfl) (by kernel_rfl) (by kernel_rfl) (fun _ _ _ h => h) (by rfl) (by first | exact Fr.refl _ _ | assumption) ?_ ?_
      rotate_left 1
      · intro w hSw; go_simp <;> with_reducible rfl
      try simp only [Act.put, List.setIfInBounds_toArray, List.set_cons_zero, List.set_cons_succ]
      refine rh_take 1 (v := ?_) rfl (by kernel_rfl) (by kernel_rfl) (by kernel_rfl) (fun _ _ _ h => h) (by rfl) (by first | exact Fr.refl _ _ | assumption) ?_ ?_
      rotate_left 1
      · intro w hSw; go_simp <;> with_reducible rfl
      try simp only [Act.put, List.setIfInBounds_toArray, List.set_cons_zero, List.set_cons_succ]
      refine rh_take 2 (v := ?_) rfl (by kernel_rfl) (by kernel_rfl) (by kernel_rfl) (fun _ _ _ h => h) (by rfl) (by first | exact Fr.refl _ _ | assumption) ?_ ?_
      rotate_left 1
      · intro w hSw; go_simp <;> with_reducible rfl
      try simp only [Act.put, List.setIfInBounds_toArray, List.set_cons_zero, List.set_cons_succ]
      refine rh_take 3 (v := ?_) rfl (by kernel_rfl) (by kernel_rfl) (by kernel_rfl) (fun _ _ _ h => h) (by rfl) (by first | exact Fr.refl _ _ | assumption) ?_ ?_
      rotate_left 1
      · intro w hSw; go_simp <;> with_reducible rfl
      try simp only [Act.put, List.setIfInBounds_toArray, List.set_cons_zero, List.set_cons_succ]
      refine rh_take 4 (v := ?_) rfl (by kernel_rfl) (by kernel_rfl) (by kernel_rfl) (fun _ _ _ h => h) (by rfl) (by first | exact Fr.refl _ _ | assumption) ?_ ?_
      rotate_left 1
      · intro w hSw; go_simp <;> with_reducible rfl
      try simp only [Act.put, List.setIfInBounds_toArray, List.set_cons_zero, List.set_cons_succ]
      refine rh_take 5 (v := ?_) rfl (by kernel_rfl) (by kernel_rfl) (by kernel_rfl) (fun _ _ _ h => h) (by rfl) (by first | exact Fr.refl _ _ | assumption) ?_ ?_
      rotate_left 1
      · intro w hSw; go_simp <;> with_reducible rfl
      try simp only [Act.put, List.setIfInBounds_toArray, List.set_cons_zero, List.set_cons_succ]
      refine rh_take 6 (v := ?_) rfl (by kernel_rfl) (by kernel_rfl) (by kernel_rfl) (fun _ _ _ h => h) (by rfl) (by first | exact Fr.refl _ _ | assumption) ?_ ?_
      rotate_left 1
      · intro w hSw; go_simp <;> with_reducible rfl
      try simp only [Act.put, List.setIfInBounds_toArray, List.set_cons_zero, List.set_cons_succ]
      refine rh_one 7 rfl (by kernel_rfl) (fun K hK => ?_)
      go_simp
      refine (ref_of A T c _ (rT _ (HB _ (Fr.refl _ _)).out).out bT.out (by omega)).mono ?_
      rintro r w3 ⟨rfl, rfl⟩
      rw [Hdd.out]
      go_wp2_with fail
      refine hK.out _ _ _ (by first | assumption | exact Fr.refl _ _) (Fr.refl _ _) ?_
      clear hK K
      try simp only [Act.put, List.setIfInBounds_toArray, List.set_cons_zero, List.set_cons_succ]
      refine rh_one 8 rfl (by kernel_rfl) (fun K hK => ?_)
      go_simp
      refine (ref_big d _ hdl.out).mono ?_
      rintro r w5 ⟨v5, rfl, ho5, F5⟩
      rw [← Hdd.out, hE.out] at ho5
      obtain ⟨A5, c5, rfl, hr5⟩ := ho5.reads
      have k5 : ∀ w', Later w5 w' → (convert 39 9 (.slice A5 E.length c5)).run Try.prog w' = .ok (.string (strOfNums E)) w' := fun w' hF => conv_str8 (hr5.fr hF (fun _ _ h => h))
      replace FA := FA.drew.trans F5
      have F5d : Later w2.drew w5.drew := F5.drew
      go_wp2_with fail
      refine hK.out _ _ _ (by first | assumption | exact Fr.refl _ _) (Fr.refl _ _) ?_
      clear hK K
      try simp only [Act.put, List.setIfInBounds_toArray, List.set_cons_zero, List.set_cons_succ]
      refine rh_take 9 (v := ?_) rfl (by kernel_rfl) (by kernel_rfl) (by kernel_rfl) (fun _ _ _ h => h) (by rfl) (by first | exact Fr.refl _ _ | assumption) ?_ ?_
      rotate_left 1
      · intro w hSw; go_simp <;> with_reducible rfl
      try simp only [Act.put, List.setIfInBounds_toArray, List.set_cons_zero, List.set_cons_succ]
      refine rh_take 10 (v := ?_) rfl (by kernel_rfl) (by kernel_rfl) (by kernel_rfl) (fun _ _ _ h => h) (by rfl) (by first | exact Fr.refl _ _ | assumption) ?_ ?_
      rotate_left 1
      · intro w hSw; go_simp <;> with_reducible rfl
      try simp only [Act.put, List.setIfInBounds_toArray, List.set_cons_zero, List.set_cons_succ]
      refine rh_take 11 (v := ?_) rfl (by kernel_rfl) (by kernel_rfl) (by kernel_rfl) (fun _ _ _ h => h) (by rfl) (by first | exact Fr.refl _ _ | assumption) ?_ ?_
      rotate_left 1
      · intro w hSw; go_simp <;> with_reducible rfl
      try simp only [Act.put, List.setIfInBounds_toArray, List.set_cons_zero, List.set_cons_succ]
      refine rh_done (by kernel_rfl) ?_
      go_wp2_with fail
      replace FA := FA.drew
      clear kD k5 ho5 hr5 F5 HB rT hDE
      go_wp2_with fail
      refine rh_start 27 (by kernel_rfl) rfl ?_
      refine rh_take 0 (v := ?_) rfl (by kernel_rfl) (by kernel_rfl) (by kernel_rfl) (fun _ _ _ h => h) (by rfl) (by first | exact Fr.refl _ _ | assumption) ?_ ?_
      rotate_left 1
      · intro w hSw; go_simp <;> with_reducible rfl
      try simp only [Act.put, List.setIfInBounds_toArray, List.set_cons_zero, List.set_cons_succ]
      refine rh_take 1 (v := ?_) rfl (by kernel_rfl) (by kernel_rfl) (by kernel_rfl) (fun _ _ _ h => h) (by rfl) (by first | exact Fr.refl _ _ | assumption) ?_ ?_
      rotate_left 1
      · intro w hSw; go_simp <;> with_reducible rfl
      try simp only [Act.put, List.setIfInBounds_toArray, List.set_cons_zero, List.set_cons_succ]
      refine rh_skip 2 rfl (by kernel_rfl) (by kernel_rfl) (by kernel_rfl) (fun _ _ _ h => h) (by rfl) (by first | exact Fr.refl _ _ | assumption) ?_
      try simp only [Act.put, List.setIfInBounds_toArray, List.set_cons_zero, List.set_cons_succ]
      refine rh_skip 3 rfl (by kernel_rfl) (by kernel_rfl) (by kernel_rfl) (fun _ _ _ h => h) (by rfl) (by first | exact Fr.refl _ _ | assumption) ?_
      try simp only [Act.put, List.setIfInBounds_toArray, List.set_cons_zero, List.set_cons_succ]
      refine rh_skip 4 rfl (by kernel_rfl) (by kernel_rfl) (by kernel_rfl) (fun _ _ _ h => h) (by rfl) (by first | exact Fr.refl _ _ | assumption) ?_
      try simp only [Act.put, List.setIfInBounds_toArray, List.set_cons_zero, List.set_cons_succ]
      refine rh_skip 5 rfl (by kernel_rfl) (by kernel_rfl) (by kernel_rfl) (fun _ _ _ h => h) (by rfl) (by first | exact Fr.refl _ _ | assumption) ?_
      try simp only [Act.put, List.setIfInBounds_toArray, List.set_cons_zero, List.set_cons_succ]
      refine rh_skip 6 rfl (by kernel_rfl) (by kernel_rfl) (by kernel_rfl) (fun _ _ _ h => h) (by rfl) (by first | exact Fr.refl _ _ | assumption) ?_
      try simp only [Act.put, List.setIfInBounds_toArray, List.set_cons_zero, List.set_cons_succ]
      refine rh_skip 7 rfl (by kernel_rfl) (by kernel_rfl) (by kernel_rfl) (fun _ _ _ h => h) (by rfl) (by first | exact Fr.refl _ _ | assumption) ?_
      try simp only [Act.put, List.setIfInBounds_toArray, List.set_cons_zero, List.set_cons_succ]
      refine rh_skip 8 rfl (by kernel_rfl) (by kernel_rfl) (by kernel_rfl) (fun _ _ _ h => h) (by rfl) (by first | exact Fr.refl _ _ | assumption) ?_
      try simp only [Act.put, List.setIfInBounds_toArray, List.set_cons_zero, List.set_cons_succ]
      refine rh_skip 9 rfl (by kernel_rfl) (by kernel_rfl) (by kernel_rfl) (fun _ _ _ h => h) (by rfl) (by first | exact Fr.refl _ _ | assumption) ?_
      try simp only [Act.put, List.setIfInBounds_toArray, List.set_cons_zero, List.set_cons_succ]
      refine rh_skip 10 rfl (by kernel_rfl) (by kernel_rfl) (by kernel_rfl) (fun _ _ _ h => h) (by rfl) (by first | exact Fr.refl _ _ | assumption) ?_
      try simp only [Act.put, List.setIfInBounds_toArray, List.set_cons_zero, List.set_cons_succ]
      refine rh_skip 11 rfl (by kernel_rfl) (by kernel_rfl) (by kernel_rfl) (fun _ _ _ h => h) (by rfl) (by first | exact Fr.refl _ _ | assumption) ?_
      try simp only [Act.put, List.setIfInBounds_toArray, List.set_cons_zero, List.set_cons_succ]
      refine rh_skip 12 rfl (by kernel_rfl) (by kernel_rfl) (by kernel_rfl) (fun _ _ _ h => h) (by rfl) (by first | exact Fr.refl _ _ | assumption) ?_
      try simp only [Act.put, List.setIfInBounds_toArray, List.set_cons_zero, List.set_cons_succ]
      refine rh_take 13 (v := ?_) rfl (by kernel_rfl) (by kernel_rfl) (by kernel_rfl) (fun _ _ _ h => h) (by rfl) (by first | exact Fr.refl _ _ | assumption) ?_ ?_
      rotate_left 1
      · intro w hSw; go_simp <;> with_reducible rfl
      try simp only [Act.put, List.setIfInBounds_toArray, List.set_cons_zero, List.set_cons_succ]
      refine rh_take 14 (v := ?_) rfl (by kernel_rfl) (by kernel_rfl) (by kernel_rfl) (fun _ _ _ h => h) (by rfl) (by first | exact Fr.refl _ _ | assumption) ?_ ?_
      rotate_left 1
      · intro w hSw; go_simp <;> with_reducible rfl
      try simp only [Act.put, List.setIfInBounds_toArray, List.set_cons_zero, List.set_cons_succ]
      refine rh_take 15 (v := ?_) rfl (by kernel_rfl) (by kernel_rfl) (by kernel_rfl) (fun _ _ _ h => h) (by rfl) (by first | exact Fr.refl _ _ | assumption) ?_ ?_
      rotate_left 1
      · intro w hSw; go_simp <;> with_reducible rfl
      try simp only [Act.put, List.setIfInBounds_toArray, List.set_cons_zero, List.set_cons_succ]
      refine rh_take 16 (v := ?_) rfl (by kernel_rfl) (by kernel_rfl) (by kernel_rfl) (fun _ _ _ h => h) (by rfl) (by first | exact Fr.refl _ _ | assumption) ?_ ?_
      rotate_left 1
      · intro w hSw; go_simp <;> with_reducible rfl
      try simp only [Act.put, List.setIfInBounds_toArray, List.set_cons_zero, List.set_cons_succ]
      refine rh_take 17 (v := ?_) rfl (by kernel_rfl) (by kernel_rfl) (by kernel_rfl) (fun _ _ _ h => h) (by rfl) (by first | exact Fr.refl _ _ | assumption) ?_ ?_
      rotate_left 1
      · intro w hSw; go_simp <;> with_reducible rfl
      try simp only [Act.put, List.setIfInBounds_toArray, List.set_cons_zero, List.set_cons_succ]
      refine rh_take 18 (v := ?_) rfl (by kernel_rfl) (by kernel_rfl) (by kernel_rfl) (fun _ _ _ h => h) (by rfl) (by first | exact Fr.refl _ _ | assumption) ?_ ?_
      rotate_left 1
      · intro w hSw; go_simp <;> with_reducible rfl
      try simp only [Act.put, List.setIfInBounds_toArray, List.set_cons_zero, List.set_cons_succ]
      refine rh_take 19 (v := ?_) rfl (by kernel_rfl) (by kernel_rfl) (by kernel_rfl) (fun _ _ _ h => h) (by rfl) (by first | exact Fr.refl _ _ | assumption) ?_ ?_
      rotate_left 1
      · intro w hSw; go_simp <;> with_reducible rfl
      try simp only [Act.put, List.setIfInBounds_toArray, List.set_cons_zero, List.set_cons_succ]
      refine rh_take 20 (v := ?_) rfl (by kernel_rfl) (by kernel_rfl) (by kernel_rfl) (fun _ _ _ h => h) (by rfl) (by first | exact Fr.refl _ _ | assumption) ?_ ?_
      rotate_left 1
      · intro w hSw; go_simp <;> with_reducible rfl
      try simp only [Act.put, List.setIfInBounds_toArray, List.set_cons_zero, List.set_cons_succ]
      refine rh_take 21 (v := ?_) rfl (by kernel_rfl) (by kernel_rfl) (by kernel_rfl) (fun _ _ _ h => h) (by rfl) (by first | exact Fr.refl _ _ | assumption) ?_ ?_
      rotate_left 1
      · intro w hSw; go_simp <;> with_reducible rfl
      try simp only [Act.put, List.setIfInBounds_toArray, List.set_cons_zero, List.set_cons_succ]
      refine rh_take 22 (v := ?_) rfl (by kernel_rfl) (by kernel_rfl) (by kernel_rfl) (fun _ _ _ h => h) (by rfl) (by first | exact Fr.refl _ _ | assumption) ?_ ?_
      rotate_left 1
      · intro w hSw; go_simp <;> with_reducible rfl
      try simp only [Act.put, List.setIfInBounds_toArray, List.set_cons_zero, List.set_cons_succ]
      refine rh_take 23 (v := ?_) rfl (by kernel_rfl) (by kernel_rfl) (by kernel_rfl) (fun _ _ _ h => h) (by rfl) (by first | exact Fr.refl _ _ | assumption) ?_ ?_
      rotate_left 1
      · intro w hSw; go_simp <;> with_reducible rfl
      try simp only [Act.put, List.setIfInBounds_toArray, List.set_cons_zero, List.set_cons_succ]
      refine rh_take 24 (v := ?_) rfl (by kernel_rfl) (by kernel_rfl) (by kernel_rfl) (fun _ _ _ h => h) (by rfl) (by first | exact Fr.refl _ _ | assumption) ?_ ?_
      rotate_left 1
      · intro w hSw; go_simp <;> with_reducible rfl
      try simp only [Act.put, List.setIfInBounds_toArray, List.set_cons_zero, List.set_cons_succ]
      refine rh_take 25 (v := ?_) rfl (by kernel_rfl) (by kernel_rfl) (by kernel_rfl) (fun _ _ _ h => h) (by rfl) (by first | exact Fr.refl _ _ | assumption) ?_ ?_
      rotate_left 1
      · intro w hSw; go_simp <;> with_reducible rfl
      try simp only [Act.put, List.setIfInBounds_toArray, List.set_cons_zero, List.set_cons_succ]
      refine rh_take 26 (v := ?_) rfl (by kernel_rfl) (by kernel_rfl) (by kernel_rfl) (fun _ _ _ h => h) (by rfl) (by first | exact Fr.refl _ _ | assumption) ?_ ?_
      rotate_left 1
      · intro w hSw; go_simp <;> with_reducible rfl
      try simp only [Act.put, List.setIfInBounds_toArray, List.set_cons_zero, List.set_cons_succ]
      refine rh_done (by kernel_rfl) ?_
      go_wp2_with fail
      refine (dig_seal A xs c _ hc (HHR.out.fr FA (fun _ _ h => h)) HX.out (by omega)).mono ?_
      rintro r ws ⟨vS, rfl, hos, FS⟩
      rw [hS.out] at hos
      obtain ⟨AS, cS, rfl, hrS⟩ := hos.reads
      have hcS : S.length ≤ cS := hos.cap
      obtain ⟨gS, rfl, hg1, hg2⟩ := hos.at0 (by omega)
      have HOp := HOS (some ⟨gS, 0, none⟩) cS ws (by omega) hrS
      have FB := FA.trans FS
      have hsz := FA.size
      clear FA FS hrS
      go_wp2_with fail
      refine HOp.out.mono ?_
      rintro r wo ⟨vO, rfl, hoo, FO⟩
      obtain ⟨AO, cO, rfl, hrO⟩ := hoo.reads
      have kO := conv_str8 (c := cO) hrO
      have kB := conv_str8 (c := c) (HHR.out.fr (FB.trans FO) (fun _ _ h => h))
      have hos2 : OwB wo w5.drew.heap.size (.slice (some ⟨gS, 0, none⟩) S.length cS) S := hos.fr FO (fun _ _ _ h => h)
      clear HOp hoo hrO hos
      go_wp2_with fail
      obtain ⟨hcell, hfz⟩ := own_at hos2 k (by omega) (by omega)
      simp only [Int.toNat_natCast] at hcell hfz
      have hx0 := HSB.out _ (rd_mem (show k < S.length by omega))
      generalize hxv : rd S k = x at hcell hx0
      clear kO kB
      go_region
      have hos3 := (own_store hos2 k ((x + by_) % 256)).1
      simp only [Int.toNat_natCast] at hos3
      have hy0 : 0 ≤ (x + by_) % 256 ∧ (x + by_) % 256 ≤ 255 := by omega
      have hyx : by_ = 0 ∨ x ≠ (x + by_) % 256 := by omega
      have hye : by_ = 0 → (x + by_) % 256 = x := by omega
      have FD : Fr (fun _ => False) w (wo.setCell ⟨gS, k, none⟩ (.int .u8 ((x + by_) % 256))).drew := ((FB.trans FO).setCell (.inr (by show w.heap.size ≤ gS; omega)) _).drew
      have hgd : S.getD k 0 = x := by rw [← hxv]; rfl
      replace hos3 : OwB (wo.setCell ⟨gS, k, none⟩ (.int .u8 ((x + by_) % 256))).drew w5.drew.heap.size (.slice (some ⟨gS, 0, none⟩) S.length cS) (S.set k ((x + by_) % 256)) := by
        refine OwB.fr (S := fun _ => False) (w := (wo.setCell ⟨gS, k, none⟩ (.int .u8 ((x + by_) % 256)))) ?_ ((Fr.refl _ _).drew) (fun _ _ _ h => h)
        show World.ownsRow _ _ _ _ _ _ _
        rw [List.length_set]
        exact hos3
      clear hcell hfz hxv hos2 FB FO hx0
      generalize (x + by_) % 256 = y at *
      generalize (wo.setCell ⟨gS, k, none⟩ (.int .u8 y)).drew = wz at *
      obtain ⟨AZ, cZ, hv, hrZ⟩ := hos3.reads
      have hlz : (S.set k y).length = S.length := List.length_set
      rw [hlz] at hv
      injection hv with hv1 _ hv2
      subst hv1 hv2
      by_cases hby : by_ = 0
      · have hset : S.set k y = S := by rw [hye hby, ← hgd]; exact set_same (by omega)
        rw [hset] at hrZ
        have HZ := HOS (some ⟨gS, 0, none⟩) cS wz (by omega) hrZ
        subst hby
        clear hos3 hrZ hyx hgd hlz hk hye hset
        go_wp2_with fail
        refine HZ.out.mono ?_
        rintro r wy ⟨vy, rfl, _, FY⟩
        go_wp2_with fail
        refine (works10 _).mono ?_
        rintro r wq ⟨rfl, FQ⟩
        go_wp2_with fail
        go_ret
        exact ⟨rfl, FD.trans (FY.trans FQ)⟩
      · have hbb : (by_ == 0) = false := by simp [hby]
        have hne : S.getD k 0 ≠ y := by rw [hgd]; rcases hyx with h | h; exact absurd h hby; exact h
        have HZ : Hid (Calls Try.prog 25 #[.slice (some ⟨gS, 0, none⟩) S.length cS] wz fun r w' => r = .returned (.tuple #[.slice none 0 0, .int .i64 21]) ∧ Fr (fun _ => False) wz w') := by
          have h1 := seal_changed HX.out k y hy0.1 hy0.2 (by rw [hS.out]; omega) (by rw [hS.out]; exact hne)
          rw [hS.out] at h1
          have h2 := dig_open_sum (some ⟨gS, 0, none⟩) (S.set k y) cS xs.length wz (by omega) (by omega) hrZ (set_byt HSB.out hy0.1 hy0.2) (by omega) h1
          rw [hlz] at h2
          exact h2
        clear hos3 hrZ hyx hgd hlz hne hk hye
        go_wp2_with fail
        refine HZ.out.mono ?_
        rintro r wy ⟨rfl, FY⟩
        go_wp2_with fail
        refine (works10 _).mono ?_
        rintro r wq ⟨rfl, FQ⟩
        go_wp2_with fail
        go_ret
        exact ⟨rfl, FD.trans (FY.trans FQ)⟩
end Go.Proofs.Ytlpigldogglmcaa
