/- The law RootsActs, walked: the loop. -/
import Derived.Test.YtlpigldogglmcaaRootsT
set_option linter.unusedVariables false
set_option linter.unusedSimpArgs false
namespace Go.Proofs.Ytlpigldogglmcaa
open Go.RowKit
open Go.Proofs.YtlpigldogglmcaaW.PrintWords

set_option maxRecDepth 100000 in
set_option maxHeartbeats 16000000 in
theorem lawActs (A : Option Addr) (len cap : Nat) (xs : List (Bool × (Int × Int))) (w : World) (h : actK.C w A len xs) (hok : ∀ x ∈ xs, IdOk x.2) :
    Calls Try.prog 3 #[.slice A len cap] w fun r w' => r = .returned (.bool true) ∧ Fr (fun _ => False) w w' := by
  have hC := Lib.hid h
  have HOK := Lib.hid hok
  have hl := Lib.hid h.1
  have hmx : len ≤ 9223372036854775807 := h.2.1
  clear h hok
  by_cases hbig : 100 < len
  · go_enter Try.func3, Try.ntmps3
    go_wp2_with fail
    refine (works24 _).mono ?_
    rintro r w1 ⟨rfl, hF⟩
    go_wp2
    go_ret
    exact ⟨rfl, hF⟩
  · have hle : len ≤ 100 := by omega
    clear hbig
    go_enter Try.func3, Try.ntmps3
    go_wp2_with fail
    refine (row_new w).mono ?_
    rintro r w1 ⟨rfl, hw1⟩
    have hR := row_fresh w
    rw [← hw1] at hR
    have hF : Fr (fun _ => False) w w1 := by rw [hw1]; exact ((Fr.refl _ _).alloc _).alloc _
    obtain ⟨g, hg⟩ : ∃ g, g = w.heap.size + 1 := ⟨_, rfl⟩
    have hz1 : w1.heap.size = w.heap.size + 2 := by rw [hw1]; simp
    rw [← hg] at hR ⊢
    clear hw1 hg
    have hR1 := hR.fr ((Fr.refl (fun _ => False) _).alloc (.cells #[] 28)) (fun _ _ _ h => h)
    have hF1 := hF.alloc (.cells #[] 28)
    have hQ1 : idK.Q 28 (w1.alloc (.cells #[] 28)) w.heap.size (fun b => ¬ (w.heap.size ≤ b ∧ b < w.heap.size + 2)) (.slice (some ⟨w1.heap.size, 0, none⟩) 0 0) [] :=
      Kd.Q_lower (Kd.Q_mono (Kd.Q_of_R (R_empty idK 28 w1)) (fun b hb => by omega)) (by omega)
    clear hz1 hR hF
    go_wp2_with fail
    go_loopw [4, 5] (fun v i wr => ∃ (k : Nat) (S : Nat → Prop) (W : List (Int × Int)), k ≤ len ∧ i = .int .i64 k ∧ W.length ≤ k ∧ RowRep wr S w.heap.size k g W ∧ idK.Q 28 wr w.heap.size (fun b => ¬ S b) v W ∧ Fr (fun _ => False) w wr) (fun _ i _ => len - (intOf i).toNat)
    case atStart => exact ⟨0, _, [], by omega, rfl, by simp, hR1, hQ1, hF1⟩
    case round =>
      clear hR1 hQ1 hF1
      obtain ⟨k, S, W, hk, rfl, hWk, hR, hQ, hF⟩ := hrel
      have HR := Lib.hid hR
      have HF := Lib.hid hF
      rcases Nat.lt_or_ge k len with hlt | hge
      · obtain ⟨vA, vc, rfl, hvc, hvC⟩ := Kd.Q_reads hQ
        obtain ⟨b, off, p, a, hkx, hx, rfl, a0, a1, a2⟩ := acts_at hC.out hlt
        have ha : IdOk a := by have := HOK.out _ (List.getElem_mem hkx); rw [hx] at this; exact this
        have ha0 := Lib.hid a0
        have ha1 := Lib.hid a1
        have ha2 := Lib.hid a2
        have HQ := Lib.hid hQ
        have HV := Lib.hid hvC
        have HA := Lib.hid ha
        have d0 := hF.cell a0 (fun h => h)
        have d1 := hF.cell a1 (fun h => h)
        have d2 := hF.cell a2 (fun h => h)
        clear hR hQ hF hx hkx a0 a1 a2 hvC ha
        cases p
        · go_wp2_with fail
          refine (ids_has vA _ vc W a _ (Kd.C_below HV.out (Fr.below (Fr.refl (fun _ => False) _) (fun _ _ h => h))) (by omega)).mono ?_
          rintro r w3 ⟨rfl, hF3⟩
          have hR3 := HR.out.fr hF3 (fun _ _ _ h => h)
          have hQ3 := Kd.Q_below HQ.out (hF3.below (fun _ _ h => h))
          have hV3 := Kd.C_below HV.out (hF3.below (fun _ _ h => h))
          have hF4 := HF.out.trans hF3
          replace HR := Lib.hid hR3
          replace HQ := Lib.hid hQ3
          replace HV := Lib.hid hV3
          replace HF := Lib.hid hF4
          clear hR3 hQ3 hV3 hF4 hF3 d0
          replace d1 := HF.out.cell ha1.out (fun h => h)
          replace d2 := HF.out.cell ha2.out (fun h => h)
          by_cases hin : a ∈ W
          · rw [decide_eq_true hin]
            have HIN := Lib.hid hin
            go_wp2_with fail
            refine (row_push_no HR.out a HA.out HIN.out).mono ?_
            rintro r w4 ⟨rfl, hF3⟩
            have hR4 := (HR.out.fr hF3 (fun _ _ _ h => h)).more (show k ≤ k + 1 by omega)
            have hQ4 := Kd.Q_below HQ.out (hF3.below (fun _ _ h => h))
            have hV4 := Kd.C_below HV.out (hF3.below (fun _ _ h => h))
            have hF4 := HF.out.trans hF3
            replace HR := Lib.hid hR4
            replace HQ := Lib.hid hQ4
            replace HV := Lib.hid hV4
            replace HF := Lib.hid hF4
            clear hR4 hQ4 hF4 hF3 hV4 d1 d2 hin
            go_wp2_with fail
            generalize w4 = wN at *
            have hlW : (W).length ≤ k + 1 := by first | omega | (simp; omega) | (rw [HWE.out]; simp; omega) | (simp only [List.length_cons] at hWk; omega)
            have HLW := Lib.hid hlW
            obtain ⟨dd, hdd⟩ : ∃ dd, dd = decide (a ∈ W) := ⟨_, rfl⟩
            have HDD := Lib.hid hdd
            obtain ⟨St, hSt⟩ : ∃ St : World → Prop, St = Fr (fun _ => False) wN := ⟨_, rfl⟩
            have hT : ∀ w', Fr (fun _ => False) wN w' → At St w' := fun w' h => by unfold At; rw [hSt]; exact h
            have kd1 : ∀ w', At St w' → w'.cell? ⟨b, off + k * 3 + 1, none⟩ = some (.int .i64 a.1) := fun w' h => by
              replace h := h.out; rw [hSt] at h; exact (HF.out.trans h).cell ha1.out (fun h => h)
            have kd2 : ∀ w', At St w' → w'.cell? ⟨b, off + k * 3 + 1 + 1, none⟩ = some (.int .i64 a.2) := fun w' h => by
              replace h := h.out; rw [hSt] at h; exact (HF.out.trans h).cell ha2.out (fun h => h)
            have hT0 : At St wN.drew := hT _ (Fr.refl _ _).drew
            have hT := Lib.hid hT
            clear hSt hdd hlW
            refine rs_start 29 (At St) 29 (by kernel_rfl) rfl ?_
            refine rs_take 0 (v := ?_) rfl (by kernel_rfl) (by kernel_rfl) (by kernel_rfl) (by kernel_rfl) (fun _ _ _ h => h) (by rfl) (by first | assumption | exact HS0 _ rfl) ?_ ?_
            rotate_left 1
            · intro w hSw; go_simp <;> with_reducible rfl
            try simp only [Act.put, List.setIfInBounds_toArray, List.set_cons_zero, List.set_cons_succ]
            refine rs_take 2 (v := ?_) rfl (by kernel_rfl) (by kernel_rfl) (by kernel_rfl) (by kernel_rfl) (fun _ _ _ h => h) (by rfl) (by first | assumption | exact HS0 _ rfl) ?_ ?_
            rotate_left 1
            · intro w hSw; go_simp <;> with_reducible rfl
            try simp only [Act.put, List.setIfInBounds_toArray, List.set_cons_zero, List.set_cons_succ]
            refine rs_take 3 (v := ?_) rfl (by kernel_rfl) (by kernel_rfl) (by kernel_rfl) (by kernel_rfl) (fun _ _ _ h => h) (by rfl) (by first | assumption | exact HS0 _ rfl) ?_ ?_
            rotate_left 1
            · intro w hSw; go_simp <;> with_reducible rfl
            try simp only [Act.put, List.setIfInBounds_toArray, List.set_cons_zero, List.set_cons_succ]
            refine rs_one 1 rfl (by kernel_rfl) (fun K hK => ?_)
            go_simp
            refine (row_len (HR.out.fr (Fr.refl (fun _ => False) _).drew (fun _ _ _ h => h)) (by omega)).mono ?_
            rintro r wa ⟨rfl, hFa⟩
            have Fa : Fr (fun _ => False) wN wa := (Fr.refl _ _).drew.trans hFa
            have hTa := hT.out _ Fa
            go_wp2_with fail
            refine hK.out (At St) _ _ (fun _ h => h) (fun _ => by (assumption)) ?_
            clear hK K
            try simp only [Act.put, List.setIfInBounds_toArray, List.set_cons_zero, List.set_cons_succ]
            refine rs_take 4 (v := ?_) rfl (by kernel_rfl) (by kernel_rfl) (by kernel_rfl) (by kernel_rfl) (fun _ _ _ h => h) (by rfl) (by first | assumption | exact HS0 _ rfl) ?_ ?_
            rotate_left 1
            · intro w hSw; go_simp <;> with_reducible rfl
            try simp only [Act.put, List.setIfInBounds_toArray, List.set_cons_zero, List.set_cons_succ]
            refine rs_take 5 (v := ?_) rfl (by kernel_rfl) (by kernel_rfl) (by kernel_rfl) (by kernel_rfl) (fun _ _ _ h => h) (by rfl) (by first | assumption | exact HS0 _ rfl) ?_ ?_
            rotate_left 1
            · intro w hSw; go_simp <;> with_reducible rfl
            try simp only [Act.put, List.setIfInBounds_toArray, List.set_cons_zero, List.set_cons_succ]
            refine rs_take 6 (v := ?_) rfl (by kernel_rfl) (by kernel_rfl) (by kernel_rfl) (by kernel_rfl) (fun _ _ _ h => h) (by rfl) (by first | assumption | exact HS0 _ rfl) ?_ ?_
            rotate_left 1
            · intro w hSw; go_simp <;> with_reducible rfl
            try simp only [Act.put, List.setIfInBounds_toArray, List.set_cons_zero, List.set_cons_succ]
            refine rs_take 8 (v := ?_) rfl (by kernel_rfl) (by kernel_rfl) (by kernel_rfl) (by kernel_rfl) (fun _ _ _ h => h) (by rfl) (by first | assumption | exact HS0 _ rfl) ?_ ?_
            rotate_left 1
            · intro w hSw; go_simp <;> with_reducible rfl
            try simp only [Act.put, List.setIfInBounds_toArray, List.set_cons_zero, List.set_cons_succ]
            refine rs_one 7 rfl (by kernel_rfl) (fun K hK => ?_)
            go_simp
            refine (row_list (HR.out.fr Fa (fun _ _ _ h => h)) (by omega)).mono ?_
            rintro r wb ⟨A3, c3, rfl, hc3, hC3, hFb⟩
            have Fb : Fr (fun _ => False) wN wb := Fa.trans hFb
            have hTb := hT.out _ Fb
            have HC3 := Lib.hid hC3
            clear hC3
            go_wp2_with fail
            refine hK.out (At St) _ _ (fun _ h => h) (fun _ => by (assumption)) ?_
            clear hK K
            try simp only [Act.put, List.setIfInBounds_toArray, List.set_cons_zero, List.set_cons_succ]
            refine rs_one 9 rfl (by kernel_rfl) (fun K hK => ?_)
            go_simp
            refine (ids_same A3 vA _ c3 _ vc W W wb HC3.out (Kd.C_below HV.out (Fb.below (fun _ _ h => h))) (by have := HLW.out; omega) (by have := HLW.out; omega)).mono ?_
            rintro r wc ⟨rfl, hFc⟩
            rw [show decide (W = W) = true from decide_eq_true rfl]
            have Fc : Fr (fun _ => False) wN wc := Fb.trans hFc
            have hTc := hT.out _ Fc
            go_wp2_with fail
            refine hK.out (At St) _ _ (fun _ h => h) (fun _ => by (assumption)) ?_
            clear hK K
            try simp only [Act.put, List.setIfInBounds_toArray, List.set_cons_zero, List.set_cons_succ]
            refine rs_take 10 (v := ?_) rfl (by kernel_rfl) (by kernel_rfl) (by kernel_rfl) (by kernel_rfl) (fun _ _ _ h => h) (by rfl) (by first | assumption | exact HS0 _ rfl) ?_ ?_
            rotate_left 1
            · intro w hSw; go_simp <;> with_reducible rfl
            try simp only [Act.put, List.setIfInBounds_toArray, List.set_cons_zero, List.set_cons_succ]
            refine rs_take 11 (v := ?_) rfl (by kernel_rfl) (by kernel_rfl) (by kernel_rfl) (by kernel_rfl) (fun _ _ _ h => h) (by rfl) (by first | assumption | exact HS0 _ rfl) ?_ ?_
            rotate_left 1
            · intro w hSw; go_simp <;> with_reducible rfl
            try simp only [Act.put, List.setIfInBounds_toArray, List.set_cons_zero, List.set_cons_succ]
            refine rs_take 12 (v := ?_) rfl (by kernel_rfl) (by kernel_rfl) (by kernel_rfl) (by kernel_rfl) (fun _ _ _ h => h) (by rfl) (by first | assumption | exact HS0 _ rfl) ?_ ?_
            rotate_left 1
            · intro w hSw; go_simp <;> with_reducible rfl
            try simp only [Act.put, List.setIfInBounds_toArray, List.set_cons_zero, List.set_cons_succ]
            refine rs_take 13 (v := ?_) rfl (by kernel_rfl) (by kernel_rfl) (by kernel_rfl) (by kernel_rfl) (fun _ _ _ h => h) (by rfl) (by first | assumption | exact HS0 _ rfl) ?_ ?_
            rotate_left 1
            · intro w hSw; go_simp <;> with_reducible rfl
            try simp only [Act.put, List.setIfInBounds_toArray, List.set_cons_zero, List.set_cons_succ]
            refine rs_take 14 (v := ?_) rfl (by kernel_rfl) (by kernel_rfl) (by kernel_rfl) (by kernel_rfl) (fun _ _ _ h => h) (by rfl) (by first | assumption | exact HS0 _ rfl) ?_ ?_
            rotate_left 1
            · intro w hSw; go_simp <;> with_reducible rfl
            try simp only [Act.put, List.setIfInBounds_toArray, List.set_cons_zero, List.set_cons_succ]
            refine rs_take 15 (v := ?_) rfl (by kernel_rfl) (by kernel_rfl) (by kernel_rfl) (by kernel_rfl) (fun _ _ _ h => h) (by rfl) (by first | assumption | exact HS0 _ rfl) ?_ ?_
            rotate_left 1
            · intro w hSw; go_simp <;> with_reducible rfl
            try simp only [Act.put, List.setIfInBounds_toArray, List.set_cons_zero, List.set_cons_succ]
            refine rs_take 16 (v := ?_) rfl (by kernel_rfl) (by kernel_rfl) (by kernel_rfl) (by kernel_rfl) (fun _ _ _ h => h) (by rfl) (by first | assumption | exact HS0 _ rfl) ?_ ?_
            rotate_left 1
            · intro w hSw; go_simp <;> with_reducible rfl
            try simp only [Act.put, List.setIfInBounds_toArray, List.set_cons_zero, List.set_cons_succ]
            refine rs_take 17 (v := ?_) rfl (by kernel_rfl) (by kernel_rfl) (by kernel_rfl) (by kernel_rfl) (fun _ _ _ h => h) (by rfl) (by first | assumption | exact HS0 _ rfl) ?_ ?_
            rotate_left 1
            · intro w hSw; go_simp <;> with_reducible rfl
            try simp only [Act.put, List.setIfInBounds_toArray, List.set_cons_zero, List.set_cons_succ]
            refine rs_take 18 (v := ?_) rfl (by kernel_rfl) (by kernel_rfl) (by kernel_rfl) (by kernel_rfl) (fun _ _ _ h => h) (by rfl) (by first | assumption | exact HS0 _ rfl) ?_ ?_
            rotate_left 1
            · intro w hSw; go_simp <;> with_reducible rfl
            try simp only [Act.put, List.setIfInBounds_toArray, List.set_cons_zero, List.set_cons_succ]
            refine rs_take 20 (v := ?_) rfl (by kernel_rfl) (by kernel_rfl) (by kernel_rfl) (by kernel_rfl) (fun _ _ _ h => h) (by rfl) (by first | assumption | exact HS0 _ rfl) ?_ ?_
            rotate_left 1
            · intro w hSw; go_simp <;> with_reducible rfl
            try simp only [Act.put, List.setIfInBounds_toArray, List.set_cons_zero, List.set_cons_succ]
            refine rs_take 21 (v := ?_) rfl (by kernel_rfl) (by kernel_rfl) (by kernel_rfl) (by kernel_rfl) (fun _ _ _ h => h) (by rfl) (by first | assumption | exact HS0 _ rfl) ?_ ?_
            rotate_left 1
            · intro w hSw; go_simp <;> with_reducible rfl
            try simp only [Act.put, List.setIfInBounds_toArray, List.set_cons_zero, List.set_cons_succ]
            refine rs_take 22 (v := ?_) rfl (by kernel_rfl) (by kernel_rfl) (by kernel_rfl) (by kernel_rfl) (fun _ _ _ h => h) (by rfl) (by first | assumption | exact HS0 _ rfl) ?_ ?_
            rotate_left 1
            · intro w hSw; go_simp <;> with_reducible rfl
            try simp only [Act.put, List.setIfInBounds_toArray, List.set_cons_zero, List.set_cons_succ]
            refine rs_take 23 (v := ?_) rfl (by kernel_rfl) (by kernel_rfl) (by kernel_rfl) (by kernel_rfl) (fun _ _ _ h => h) (by rfl) (by first | assumption | exact HS0 _ rfl) ?_ ?_
            rotate_left 1
            · intro w hSw; go_simp <;> with_reducible rfl
            try simp only [Act.put, List.setIfInBounds_toArray, List.set_cons_zero, List.set_cons_succ]
            refine rs_take 24 (v := ?_) rfl (by kernel_rfl) (by kernel_rfl) (by kernel_rfl) (by kernel_rfl) (fun _ _ _ h => h) (by rfl) (by first | assumption | exact HS0 _ rfl) ?_ ?_
            rotate_left 1
            · intro w hSw; go_simp <;> with_reducible rfl
            try simp only [Act.put, List.setIfInBounds_toArray, List.set_cons_zero, List.set_cons_succ]
            refine rs_take 25 (v := ?_) rfl (by kernel_rfl) (by kernel_rfl) (by kernel_rfl) (by kernel_rfl) (fun _ _ _ h => h) (by rfl) (by first | assumption | exact HS0 _ rfl) ?_ ?_
            rotate_left 1
            · intro w hSw; go_simp <;> with_reducible rfl
            try simp only [Act.put, List.setIfInBounds_toArray, List.set_cons_zero, List.set_cons_succ]
            refine rs_one 19 rfl (by kernel_rfl) (fun K hK => ?_)
            go_simp
            refine (row_has (HR.out.fr Fc (fun _ _ _ h => h)) a HA.out).mono ?_
            rintro r we ⟨rfl, hFe⟩
            rw [← HDD.out]
            have Fe : Fr (fun _ => False) wN we := Fc.trans hFe
            have hTe := hT.out _ Fe
            go_wp2_with fail
            refine hK.out (At St) _ _ (fun _ h => h) (fun _ => by (assumption)) ?_
            clear hK K
            try simp only [Act.put, List.setIfInBounds_toArray, List.set_cons_zero, List.set_cons_succ]
            refine rs_one 26 rfl (by kernel_rfl) (fun K hK => ?_)
            go_simp
            refine (ids_has vA _ vc W a we (Kd.C_below HV.out (Fe.below (fun _ _ h => h))) (by have := HLW.out; omega)).mono ?_
            rintro r wf ⟨rfl, hFf⟩
            rw [← HDD.out]
            have Ff : Fr (fun _ => False) wN wf := Fe.trans hFf
            have hTf := hT.out _ Ff
            go_wp2_with fail
            refine hK.out (At St) _ _ (fun _ h => h) (fun _ => by (assumption)) ?_
            clear hK K
            try simp only [Act.put, List.setIfInBounds_toArray, List.set_cons_zero, List.set_cons_succ]
            refine rs_take 27 (v := ?_) rfl (by kernel_rfl) (by kernel_rfl) (by kernel_rfl) (by kernel_rfl) (fun _ _ _ h => h) (by rfl) (by first | assumption | exact HS0 _ rfl) ?_ ?_
            rotate_left 1
            · intro w hSw; go_simp <;> with_reducible rfl
            try simp only [Act.put, List.setIfInBounds_toArray, List.set_cons_zero, List.set_cons_succ]
            refine rs_take 28 (v := ?_) rfl (by kernel_rfl) (by kernel_rfl) (by kernel_rfl) (by kernel_rfl) (fun _ _ _ h => h) (by rfl) (by first | assumption | exact HS0 _ rfl) ?_ ?_
            rotate_left 1
            · intro w hSw; go_simp <;> with_reducible rfl
            try simp only [Act.put, List.setIfInBounds_toArray, List.set_cons_zero, List.set_cons_succ]
            refine rs_done (by kernel_rfl) ?_
            have HFf := Lib.hid Ff
            clear hT0 kd1 kd2 hTa hTb hTc hTe hTf Fa Fb Fc Fe Ff hFa hFb hFc hFe hFf
            go_wp2_with fail
            go_roundw
            case rel => exact ⟨k + 1, _, W, by omega, by go_num, HLW.out, HR.out.fr HFf.out (fun _ _ _ h => h), Kd.Q_below HQ.out (HFf.out.below (fun _ _ h => h)), HF.out.trans HFf.out⟩
            case measure => simp [intOf]; omega
          · rw [decide_eq_false hin]
            have HIN := Lib.hid hin
            go_wp2_with fail
            refine (row_push_yes HR.out a HA.out HIN.out (by omega)).mono ?_
            rintro r w4 ⟨rfl, S4, hR4, hF3, hS4⟩
            have hQ4 : idK.Q 28 w4 w.heap.size (fun b => ¬ S4 b) (.slice vA W.length vc) W :=
              Kd.Q_mono (Kd.Q_step (Kd.Q_bound HQ.out) (fun q hq hlt => hF3.block q hlt hq.1)) (fun q hq h => (hS4 q h).elim hq.1 (fun h2 => by have := hq.2.2.1; omega))
            have hF4 := HF.out.trans' hF3 (fun i hi h => by have := (HR.out.2.1 i h).1; omega)
            replace HR := Lib.hid hR4
            replace HQ := Lib.hid hQ4
            replace HF := Lib.hid hF4
            clear hR4 hQ4 hF4 hF3 hin hS4
            replace d1 := HF.out.cell ha1.out (fun h => h)
            replace d2 := HF.out.cell ha2.out (fun h => h)
            have hb4 : w.heap.size ≤ w4.heap.size := HF.out.size
            go_wp2_with (at_builtin; refine Kd.Q_append idK w.heap.size rfl (.tmp 79) (.tmp 85) 26 28 _ 16 rfl Try.underlying26 info_id rfl (by decide) (by decide) (.slice vA W.length vc) W a [.int .i64 a.1, .int .i64 a.2] (fun b => ¬ S4 b) (fun _ => False) (by rfl) (by rfl) (idK_M _ _ _ _) (fun _ h => h.elim) (fun q hq h => by have := (HR.out.2.1 q h).2; omega) HQ.out (Below.refl _ _) hb4 (by omega) ?_; intro v1 w6 hQ6 hB6 hg6 hat6; obtain ⟨W', hW'⟩ : ∃ W', W' = W ++ [a] := ⟨_, rfl⟩; rw [← hW'] at hQ6; have HWE := Lib.hid hW'; clear hW'; obtain ⟨A1, c1, rfl, hc1⟩ := Kd.Q_slice hQ6; have HQ6 := Lib.hid hQ6; have HG6 := Lib.hid hg6; clear hQ6 hB6 hg6 hat6 d1 d2)
            have hF6 : Fr (fun b => some b = (Value.slice vA W.length vc).ownBlock) w4 w6 := Fr.of_grown ⟨HG6.out.os, HG6.out.tape, HG6.out.output, HG6.out.size, HG6.out.block⟩
            have hR6 := HR.out.fr hF6 (fun q hq _ e => HQ.out.1 q e.symm hq)
            rw [← HWE.out] at hR6
            have hF7 := HF.out.trans' hF6 (fun i hi h => by have := Kd.Q_base HQ.out i h.symm; omega)
            have hV6 := (Kd.Q_reads' HQ6.out).2.2
            replace HR := Lib.hid hR6
            replace HQ := HQ6
            replace HV := Lib.hid hV6
            replace HF := Lib.hid hF7
            clear hF6 hR6 hF7 hV6 HG6 HQ6
            generalize w6 = wN at *
            have hlW : (W').length ≤ k + 1 := by first | omega | (simp; omega) | (rw [HWE.out]; simp; omega) | (simp only [List.length_cons] at hWk; omega)
            have HLW := Lib.hid hlW
            obtain ⟨dd, hdd⟩ : ∃ dd, dd = decide (a ∈ W') := ⟨_, rfl⟩
            have HDD := Lib.hid hdd
            obtain ⟨St, hSt⟩ : ∃ St : World → Prop, St = Fr (fun _ => False) wN := ⟨_, rfl⟩
            have hT : ∀ w', Fr (fun _ => False) wN w' → At St w' := fun w' h => by unfold At; rw [hSt]; exact h
            have kd1 : ∀ w', At St w' → w'.cell? ⟨b, off + k * 3 + 1, none⟩ = some (.int .i64 a.1) := fun w' h => by
              replace h := h.out; rw [hSt] at h; exact (HF.out.trans h).cell ha1.out (fun h => h)
            have kd2 : ∀ w', At St w' → w'.cell? ⟨b, off + k * 3 + 1 + 1, none⟩ = some (.int .i64 a.2) := fun w' h => by
              replace h := h.out; rw [hSt] at h; exact (HF.out.trans h).cell ha2.out (fun h => h)
            have hT0 : At St wN.drew := hT _ (Fr.refl _ _).drew
            have hT := Lib.hid hT
            clear hSt hdd hlW
            refine rs_start 29 (At St) 29 (by kernel_rfl) rfl ?_
            refine rs_take 0 (v := ?_) rfl (by kernel_rfl) (by kernel_rfl) (by kernel_rfl) (by kernel_rfl) (fun _ _ _ h => h) (by rfl) (by first | assumption | exact HS0 _ rfl) ?_ ?_
            rotate_left 1
            · intro w hSw; go_simp <;> with_reducible rfl
            try simp only [Act.put, List.setIfInBounds_toArray, List.set_cons_zero, List.set_cons_succ]
            refine rs_take 2 (v := ?_) rfl (by kernel_rfl) (by kernel_rfl) (by kernel_rfl) (by kernel_rfl) (fun _ _ _ h => h) (by rfl) (by first | assumption | exact HS0 _ rfl) ?_ ?_
            rotate_left 1
            · intro w hSw; go_simp <;> with_reducible rfl
            try simp only [Act.put, List.setIfInBounds_toArray, List.set_cons_zero, List.set_cons_succ]
            refine rs_take 3 (v := ?_) rfl (by kernel_rfl) (by kernel_rfl) (by kernel_rfl) (by kernel_rfl) (fun _ _ _ h => h) (by rfl) (by first | assumption | exact HS0 _ rfl) ?_ ?_
            rotate_left 1
            · intro w hSw; go_simp <;> with_reducible rfl
            try simp only [Act.put, List.setIfInBounds_toArray, List.set_cons_zero, List.set_cons_succ]
            refine rs_one 1 rfl (by kernel_rfl) (fun K hK => ?_)
            go_simp
            refine (row_len (HR.out.fr (Fr.refl (fun _ => False) _).drew (fun _ _ _ h => h)) (by omega)).mono ?_
            rintro r wa ⟨rfl, hFa⟩
            have Fa : Fr (fun _ => False) wN wa := (Fr.refl _ _).drew.trans hFa
            have hTa := hT.out _ Fa
            go_wp2_with fail
            refine hK.out (At St) _ _ (fun _ h => h) (fun _ => by (assumption)) ?_
            clear hK K
            try simp only [Act.put, List.setIfInBounds_toArray, List.set_cons_zero, List.set_cons_succ]
            refine rs_take 4 (v := ?_) rfl (by kernel_rfl) (by kernel_rfl) (by kernel_rfl) (by kernel_rfl) (fun _ _ _ h => h) (by rfl) (by first | assumption | exact HS0 _ rfl) ?_ ?_
            rotate_left 1
            · intro w hSw; go_simp <;> with_reducible rfl
            try simp only [Act.put, List.setIfInBounds_toArray, List.set_cons_zero, List.set_cons_succ]
            refine rs_take 5 (v := ?_) rfl (by kernel_rfl) (by kernel_rfl) (by kernel_rfl) (by kernel_rfl) (fun _ _ _ h => h) (by rfl) (by first | assumption | exact HS0 _ rfl) ?_ ?_
            rotate_left 1
            · intro w hSw; go_simp <;> with_reducible rfl
            try simp only [Act.put, List.setIfInBounds_toArray, List.set_cons_zero, List.set_cons_succ]
            refine rs_take 6 (v := ?_) rfl (by kernel_rfl) (by kernel_rfl) (by kernel_rfl) (by kernel_rfl) (fun _ _ _ h => h) (by rfl) (by first | assumption | exact HS0 _ rfl) ?_ ?_
            rotate_left 1
            · intro w hSw; go_simp <;> with_reducible rfl
            try simp only [Act.put, List.setIfInBounds_toArray, List.set_cons_zero, List.set_cons_succ]
            refine rs_take 8 (v := ?_) rfl (by kernel_rfl) (by kernel_rfl) (by kernel_rfl) (by kernel_rfl) (fun _ _ _ h => h) (by rfl) (by first | assumption | exact HS0 _ rfl) ?_ ?_
            rotate_left 1
            · intro w hSw; go_simp <;> with_reducible rfl
            try simp only [Act.put, List.setIfInBounds_toArray, List.set_cons_zero, List.set_cons_succ]
            refine rs_one 7 rfl (by kernel_rfl) (fun K hK => ?_)
            go_simp
            refine (row_list (HR.out.fr Fa (fun _ _ _ h => h)) (by omega)).mono ?_
            rintro r wb ⟨A3, c3, rfl, hc3, hC3, hFb⟩
            have Fb : Fr (fun _ => False) wN wb := Fa.trans hFb
            have hTb := hT.out _ Fb
            have HC3 := Lib.hid hC3
            clear hC3
            go_wp2_with fail
            refine hK.out (At St) _ _ (fun _ h => h) (fun _ => by (assumption)) ?_
            clear hK K
            try simp only [Act.put, List.setIfInBounds_toArray, List.set_cons_zero, List.set_cons_succ]
            refine rs_one 9 rfl (by kernel_rfl) (fun K hK => ?_)
            go_simp
            refine (ids_same A3 A1 _ c3 _ c1 W' W' wb HC3.out (Kd.C_below HV.out (Fb.below (fun _ _ h => h))) (by have := HLW.out; omega) (by have := HLW.out; omega)).mono ?_
            rintro r wc ⟨rfl, hFc⟩
            rw [show decide (W' = W') = true from decide_eq_true rfl]
            have Fc : Fr (fun _ => False) wN wc := Fb.trans hFc
            have hTc := hT.out _ Fc
            go_wp2_with fail
            refine hK.out (At St) _ _ (fun _ h => h) (fun _ => by (assumption)) ?_
            clear hK K
            try simp only [Act.put, List.setIfInBounds_toArray, List.set_cons_zero, List.set_cons_succ]
            refine rs_take 10 (v := ?_) rfl (by kernel_rfl) (by kernel_rfl) (by kernel_rfl) (by kernel_rfl) (fun _ _ _ h => h) (by rfl) (by first | assumption | exact HS0 _ rfl) ?_ ?_
            rotate_left 1
            · intro w hSw; go_simp <;> with_reducible rfl
            try simp only [Act.put, List.setIfInBounds_toArray, List.set_cons_zero, List.set_cons_succ]
            refine rs_take 11 (v := ?_) rfl (by kernel_rfl) (by kernel_rfl) (by kernel_rfl) (by kernel_rfl) (fun _ _ _ h => h) (by rfl) (by first | assumption | exact HS0 _ rfl) ?_ ?_
            rotate_left 1
            · intro w hSw; go_simp <;> with_reducible rfl
            try simp only [Act.put, List.setIfInBounds_toArray, List.set_cons_zero, List.set_cons_succ]
            refine rs_take 12 (v := ?_) rfl (by kernel_rfl) (by kernel_rfl) (by kernel_rfl) (by kernel_rfl) (fun _ _ _ h => h) (by rfl) (by first | assumption | exact HS0 _ rfl) ?_ ?_
            rotate_left 1
            · intro w hSw; go_simp <;> with_reducible rfl
            try simp only [Act.put, List.setIfInBounds_toArray, List.set_cons_zero, List.set_cons_succ]
            refine rs_take 13 (v := ?_) rfl (by kernel_rfl) (by kernel_rfl) (by kernel_rfl) (by kernel_rfl) (fun _ _ _ h => h) (by rfl) (by first | assumption | exact HS0 _ rfl) ?_ ?_
            rotate_left 1
            · intro w hSw; go_simp <;> with_reducible rfl
            try simp only [Act.put, List.setIfInBounds_toArray, List.set_cons_zero, List.set_cons_succ]
            refine rs_take 14 (v := ?_) rfl (by kernel_rfl) (by kernel_rfl) (by kernel_rfl) (by kernel_rfl) (fun _ _ _ h => h) (by rfl) (by first | assumption | exact HS0 _ rfl) ?_ ?_
            rotate_left 1
            · intro w hSw; go_simp <;> with_reducible rfl
            try simp only [Act.put, List.setIfInBounds_toArray, List.set_cons_zero, List.set_cons_succ]
            refine rs_take 15 (v := ?_) rfl (by kernel_rfl) (by kernel_rfl) (by kernel_rfl) (by kernel_rfl) (fun _ _ _ h => h) (by rfl) (by first | assumption | exact HS0 _ rfl) ?_ ?_
            rotate_left 1
            · intro w hSw; go_simp <;> with_reducible rfl
            try simp only [Act.put, List.setIfInBounds_toArray, List.set_cons_zero, List.set_cons_succ]
            refine rs_take 16 (v := ?_) rfl (by kernel_rfl) (by kernel_rfl) (by kernel_rfl) (by kernel_rfl) (fun _ _ _ h => h) (by rfl) (by first | assumption | exact HS0 _ rfl) ?_ ?_
            rotate_left 1
            · intro w hSw; go_simp <;> with_reducible rfl
            try simp only [Act.put, List.setIfInBounds_toArray, List.set_cons_zero, List.set_cons_succ]
            refine rs_take 17 (v := ?_) rfl (by kernel_rfl) (by kernel_rfl) (by kernel_rfl) (by kernel_rfl) (fun _ _ _ h => h) (by rfl) (by first | assumption | exact HS0 _ rfl) ?_ ?_
            rotate_left 1
            · intro w hSw; go_simp <;> with_reducible rfl
            try simp only [Act.put, List.setIfInBounds_toArray, List.set_cons_zero, List.set_cons_succ]
            refine rs_take 18 (v := ?_) rfl (by kernel_rfl) (by kernel_rfl) (by kernel_rfl) (by kernel_rfl) (fun _ _ _ h => h) (by rfl) (by first | assumption | exact HS0 _ rfl) ?_ ?_
            rotate_left 1
            · intro w hSw; go_simp <;> with_reducible rfl
            try simp only [Act.put, List.setIfInBounds_toArray, List.set_cons_zero, List.set_cons_succ]
            refine rs_take 20 (v := ?_) rfl (by kernel_rfl) (by kernel_rfl) (by kernel_rfl) (by kernel_rfl) (fun _ _ _ h => h) (by rfl) (by first | assumption | exact HS0 _ rfl) ?_ ?_
            rotate_left 1
            · intro w hSw; go_simp <;> with_reducible rfl
            try simp only [Act.put, List.setIfInBounds_toArray, List.set_cons_zero, List.set_cons_succ]
            refine rs_take 21 (v := ?_) rfl (by kernel_rfl) (by kernel_rfl) (by kernel_rfl) (by kernel_rfl) (fun _ _ _ h => h) (by rfl) (by first | assumption | exact HS0 _ rfl) ?_ ?_
            rotate_left 1
            · intro w hSw; go_simp <;> with_reducible rfl
            try simp only [Act.put, List.setIfInBounds_toArray, List.set_cons_zero, List.set_cons_succ]
            refine rs_take 22 (v := ?_) rfl (by kernel_rfl) (by kernel_rfl) (by kernel_rfl) (by kernel_rfl) (fun _ _ _ h => h) (by rfl) (by first | assumption | exact HS0 _ rfl) ?_ ?_
            rotate_left 1
            · intro w hSw; go_simp <;> with_reducible rfl
            try simp only [Act.put, List.setIfInBounds_toArray, List.set_cons_zero, List.set_cons_succ]
            refine rs_take 23 (v := ?_) rfl (by kernel_rfl) (by kernel_rfl) (by kernel_rfl) (by kernel_rfl) (fun _ _ _ h => h) (by rfl) (by first | assumption | exact HS0 _ rfl) ?_ ?_
            rotate_left 1
            · intro w hSw; go_simp <;> with_reducible rfl
            try simp only [Act.put, List.setIfInBounds_toArray, List.set_cons_zero, List.set_cons_succ]
            refine rs_take 24 (v := ?_) rfl (by kernel_rfl) (by kernel_rfl) (by kernel_rfl) (by kernel_rfl) (fun _ _ _ h => h) (by rfl) (by first | assumption | exact HS0 _ rfl) ?_ ?_
            rotate_left 1
            · intro w hSw; go_simp <;> with_reducible rfl
            try simp only [Act.put, List.setIfInBounds_toArray, List.set_cons_zero, List.set_cons_succ]
            refine rs_take 25 (v := ?_) rfl (by kernel_rfl) (by kernel_rfl) (by kernel_rfl) (by kernel_rfl) (fun _ _ _ h => h) (by rfl) (by first | assumption | exact HS0 _ rfl) ?_ ?_
            rotate_left 1
            · intro w hSw; go_simp <;> with_reducible rfl
            try simp only [Act.put, List.setIfInBounds_toArray, List.set_cons_zero, List.set_cons_succ]
            refine rs_one 19 rfl (by kernel_rfl) (fun K hK => ?_)
            go_simp
            refine (row_has (HR.out.fr Fc (fun _ _ _ h => h)) a HA.out).mono ?_
            rintro r we ⟨rfl, hFe⟩
            rw [← HDD.out]
            have Fe : Fr (fun _ => False) wN we := Fc.trans hFe
            have hTe := hT.out _ Fe
            go_wp2_with fail
            refine hK.out (At St) _ _ (fun _ h => h) (fun _ => by (assumption)) ?_
            clear hK K
            try simp only [Act.put, List.setIfInBounds_toArray, List.set_cons_zero, List.set_cons_succ]
            refine rs_one 26 rfl (by kernel_rfl) (fun K hK => ?_)
            go_simp
            refine (ids_has A1 _ c1 W' a we (Kd.C_below HV.out (Fe.below (fun _ _ h => h))) (by have := HLW.out; omega)).mono ?_
            rintro r wf ⟨rfl, hFf⟩
            rw [← HDD.out]
            have Ff : Fr (fun _ => False) wN wf := Fe.trans hFf
            have hTf := hT.out _ Ff
            go_wp2_with fail
            refine hK.out (At St) _ _ (fun _ h => h) (fun _ => by (assumption)) ?_
            clear hK K
            try simp only [Act.put, List.setIfInBounds_toArray, List.set_cons_zero, List.set_cons_succ]
            refine rs_take 27 (v := ?_) rfl (by kernel_rfl) (by kernel_rfl) (by kernel_rfl) (by kernel_rfl) (fun _ _ _ h => h) (by rfl) (by first | assumption | exact HS0 _ rfl) ?_ ?_
            rotate_left 1
            · intro w hSw; go_simp <;> with_reducible rfl
            try simp only [Act.put, List.setIfInBounds_toArray, List.set_cons_zero, List.set_cons_succ]
            refine rs_take 28 (v := ?_) rfl (by kernel_rfl) (by kernel_rfl) (by kernel_rfl) (by kernel_rfl) (fun _ _ _ h => h) (by rfl) (by first | assumption | exact HS0 _ rfl) ?_ ?_
            rotate_left 1
            · intro w hSw; go_simp <;> with_reducible rfl
            try simp only [Act.put, List.setIfInBounds_toArray, List.set_cons_zero, List.set_cons_succ]
            refine rs_done (by kernel_rfl) ?_
            have HFf := Lib.hid Ff
            clear hT0 kd1 kd2 hTa hTb hTc hTe hTf Fa Fb Fc Fe Ff hFa hFb hFc hFe hFf
            go_wp2_with fail
            go_roundw
            case rel => exact ⟨k + 1, _, W', by omega, by go_num, HLW.out, HR.out.fr HFf.out (fun _ _ _ h => h), Kd.Q_below HQ.out (HFf.out.below (fun _ _ h => h)), HF.out.trans HFf.out⟩
            case measure => simp [intOf]; omega
        · rcases W with _ | ⟨a', t⟩
          · go_wp2_with fail
            refine (row_pop_no HR.out (by omega)).mono ?_
            rintro r w3 ⟨rfl, hF3⟩
            have hY := Blk.new w3 28 #[.int .i64 0, .int .i64 0]
            obtain ⟨y0, y1⟩ := id_cells (a := (0, 0)) hY
            have he := fun w => neqId 0 0 0 0 w
            simp only [decide_true, Bool.not_true] at he
            have hG := hF3.alloc (.cells #[.int .i64 0, .int .i64 0] 28)
            have hR4 := (HR.out.fr hG (fun _ _ _ h => h)).more (show k ≤ k + 1 by omega)
            have hQ4 := Kd.Q_below HQ.out (hG.below (fun _ _ h => h))
            have hV4 := Kd.C_below HV.out (hG.below (fun _ _ h => h))
            have hF4 := HF.out.trans hG
            replace HR := Lib.hid hR4
            replace HQ := Lib.hid hQ4
            replace HV := Lib.hid hV4
            replace HF := Lib.hid hF4
            clear hR4 hQ4 hF4 hY hF3 hG hV4
            go_wp2_with fail
            go_quiet (fail)
            go_wp2_with fail
            clear y0 y1 he d0 d1 d2
            replace HR := Lib.hid (HR.out.fr ((Fr.refl (fun _ => False) _).drewN nq) (fun _ _ _ h => h))
            replace HQ := Lib.hid (Kd.Q_drewN HQ.out nq)
            replace HV := Lib.hid (Kd.C_drewN HV.out nq)
            replace HF := Lib.hid (HF.out.drewN nq)
            generalize (w3.alloc (.cells #[.int .i64 0, .int .i64 0] 28)).drewN nq = wN at *
            have hlW : (([] : List (Int × Int))).length ≤ k + 1 := by first | omega | (simp; omega) | (rw [HWE.out]; simp; omega) | (simp only [List.length_cons] at hWk; omega)
            have HLW := Lib.hid hlW
            obtain ⟨dd, hdd⟩ : ∃ dd, dd = decide (a ∈ ([] : List (Int × Int))) := ⟨_, rfl⟩
            have HDD := Lib.hid hdd
            obtain ⟨St, hSt⟩ : ∃ St : World → Prop, St = Fr (fun _ => False) wN := ⟨_, rfl⟩
            have hT : ∀ w', Fr (fun _ => False) wN w' → At St w' := fun w' h => by unfold At; rw [hSt]; exact h
            have kd1 : ∀ w', At St w' → w'.cell? ⟨b, off + k * 3 + 1, none⟩ = some (.int .i64 a.1) := fun w' h => by
              replace h := h.out; rw [hSt] at h; exact (HF.out.trans h).cell ha1.out (fun h => h)
            have kd2 : ∀ w', At St w' → w'.cell? ⟨b, off + k * 3 + 1 + 1, none⟩ = some (.int .i64 a.2) := fun w' h => by
              replace h := h.out; rw [hSt] at h; exact (HF.out.trans h).cell ha2.out (fun h => h)
            have hT0 : At St wN.drew := hT _ (Fr.refl _ _).drew
            have hT := Lib.hid hT
            clear hSt hdd hlW
            refine rs_start 29 (At St) 29 (by kernel_rfl) rfl ?_
            refine rs_take 0 (v := ?_) rfl (by kernel_rfl) (by kernel_rfl) (by kernel_rfl) (by kernel_rfl) (fun _ _ _ h => h) (by rfl) (by first | assumption | exact HS0 _ rfl) ?_ ?_
            rotate_left 1
            · intro w hSw; go_simp <;> with_reducible rfl
            try simp only [Act.put, List.setIfInBounds_toArray, List.set_cons_zero, List.set_cons_succ]
            refine rs_take 2 (v := ?_) rfl (by kernel_rfl) (by kernel_rfl) (by kernel_rfl) (by kernel_rfl) (fun _ _ _ h => h) (by rfl) (by first | assumption | exact HS0 _ rfl) ?_ ?_
            rotate_left 1
            · intro w hSw; go_simp <;> with_reducible rfl
            try simp only [Act.put, List.setIfInBounds_toArray, List.set_cons_zero, List.set_cons_succ]
            refine rs_take 3 (v := ?_) rfl (by kernel_rfl) (by kernel_rfl) (by kernel_rfl) (by kernel_rfl) (fun _ _ _ h => h) (by rfl) (by first | assumption | exact HS0 _ rfl) ?_ ?_
            rotate_left 1
            · intro w hSw; go_simp <;> with_reducible rfl
            try simp only [Act.put, List.setIfInBounds_toArray, List.set_cons_zero, List.set_cons_succ]
            refine rs_one 1 rfl (by kernel_rfl) (fun K hK => ?_)
            go_simp
            refine (row_len (HR.out.fr (Fr.refl (fun _ => False) _).drew (fun _ _ _ h => h)) (by omega)).mono ?_
            rintro r wa ⟨rfl, hFa⟩
            have Fa : Fr (fun _ => False) wN wa := (Fr.refl _ _).drew.trans hFa
            have hTa := hT.out _ Fa
            go_wp2_with fail
            refine hK.out (At St) _ _ (fun _ h => h) (fun _ => by (assumption)) ?_
            clear hK K
            try simp only [Act.put, List.setIfInBounds_toArray, List.set_cons_zero, List.set_cons_succ]
            refine rs_take 4 (v := ?_) rfl (by kernel_rfl) (by kernel_rfl) (by kernel_rfl) (by kernel_rfl) (fun _ _ _ h => h) (by rfl) (by first | assumption | exact HS0 _ rfl) ?_ ?_
            rotate_left 1
            · intro w hSw; go_simp <;> with_reducible rfl
            try simp only [Act.put, List.setIfInBounds_toArray, List.set_cons_zero, List.set_cons_succ]
            refine rs_take 5 (v := ?_) rfl (by kernel_rfl) (by kernel_rfl) (by kernel_rfl) (by kernel_rfl) (fun _ _ _ h => h) (by rfl) (by first | assumption | exact HS0 _ rfl) ?_ ?_
            rotate_left 1
            · intro w hSw; go_simp <;> with_reducible rfl
            try simp only [Act.put, List.setIfInBounds_toArray, List.set_cons_zero, List.set_cons_succ]
            refine rs_take 6 (v := ?_) rfl (by kernel_rfl) (by kernel_rfl) (by kernel_rfl) (by kernel_rfl) (fun _ _ _ h => h) (by rfl) (by first | assumption | exact HS0 _ rfl) ?_ ?_
            rotate_left 1
            · intro w hSw; go_simp <;> with_reducible rfl
            try simp only [Act.put, List.setIfInBounds_toArray, List.set_cons_zero, List.set_cons_succ]
            refine rs_take 8 (v := ?_) rfl (by kernel_rfl) (by kernel_rfl) (by kernel_rfl) (by kernel_rfl) (fun _ _ _ h => h) (by rfl) (by first | assumption | exact HS0 _ rfl) ?_ ?_
            rotate_left 1
            · intro w hSw; go_simp <;> with_reducible rfl
            try simp only [Act.put, List.setIfInBounds_toArray, List.set_cons_zero, List.set_cons_succ]
            refine rs_one 7 rfl (by kernel_rfl) (fun K hK => ?_)
            go_simp
            refine (row_list (HR.out.fr Fa (fun _ _ _ h => h)) (by omega)).mono ?_
            rintro r wb ⟨A3, c3, rfl, hc3, hC3, hFb⟩
            have Fb : Fr (fun _ => False) wN wb := Fa.trans hFb
            have hTb := hT.out _ Fb
            have HC3 := Lib.hid hC3
            clear hC3
            go_wp2_with fail
            refine hK.out (At St) _ _ (fun _ h => h) (fun _ => by (assumption)) ?_
            clear hK K
            try simp only [Act.put, List.setIfInBounds_toArray, List.set_cons_zero, List.set_cons_succ]
            refine rs_one 9 rfl (by kernel_rfl) (fun K hK => ?_)
            go_simp
            refine (ids_same A3 vA _ c3 _ vc ([] : List (Int × Int)) ([] : List (Int × Int)) wb HC3.out (Kd.C_below HV.out (Fb.below (fun _ _ h => h))) (by have := HLW.out; omega) (by have := HLW.out; omega)).mono ?_
            rintro r wc ⟨rfl, hFc⟩
            rw [show decide (([] : List (Int × Int)) = ([] : List (Int × Int))) = true from decide_eq_true rfl]
            have Fc : Fr (fun _ => False) wN wc := Fb.trans hFc
            have hTc := hT.out _ Fc
            go_wp2_with fail
            refine hK.out (At St) _ _ (fun _ h => h) (fun _ => by (assumption)) ?_
            clear hK K
            try simp only [Act.put, List.setIfInBounds_toArray, List.set_cons_zero, List.set_cons_succ]
            refine rs_take 10 (v := ?_) rfl (by kernel_rfl) (by kernel_rfl) (by kernel_rfl) (by kernel_rfl) (fun _ _ _ h => h) (by rfl) (by first | assumption | exact HS0 _ rfl) ?_ ?_
            rotate_left 1
            · intro w hSw; go_simp <;> with_reducible rfl
            try simp only [Act.put, List.setIfInBounds_toArray, List.set_cons_zero, List.set_cons_succ]
            refine rs_take 11 (v := ?_) rfl (by kernel_rfl) (by kernel_rfl) (by kernel_rfl) (by kernel_rfl) (fun _ _ _ h => h) (by rfl) (by first | assumption | exact HS0 _ rfl) ?_ ?_
            rotate_left 1
            · intro w hSw; go_simp <;> with_reducible rfl
            try simp only [Act.put, List.setIfInBounds_toArray, List.set_cons_zero, List.set_cons_succ]
            refine rs_take 12 (v := ?_) rfl (by kernel_rfl) (by kernel_rfl) (by kernel_rfl) (by kernel_rfl) (fun _ _ _ h => h) (by rfl) (by first | assumption | exact HS0 _ rfl) ?_ ?_
            rotate_left 1
            · intro w hSw; go_simp <;> with_reducible rfl
            try simp only [Act.put, List.setIfInBounds_toArray, List.set_cons_zero, List.set_cons_succ]
            refine rs_take 13 (v := ?_) rfl (by kernel_rfl) (by kernel_rfl) (by kernel_rfl) (by kernel_rfl) (fun _ _ _ h => h) (by rfl) (by first | assumption | exact HS0 _ rfl) ?_ ?_
            rotate_left 1
            · intro w hSw; go_simp <;> with_reducible rfl
            try simp only [Act.put, List.setIfInBounds_toArray, List.set_cons_zero, List.set_cons_succ]
            refine rs_take 14 (v := ?_) rfl (by kernel_rfl) (by kernel_rfl) (by kernel_rfl) (by kernel_rfl) (fun _ _ _ h => h) (by rfl) (by first | assumption | exact HS0 _ rfl) ?_ ?_
            rotate_left 1
            · intro w hSw; go_simp <;> with_reducible rfl
            try simp only [Act.put, List.setIfInBounds_toArray, List.set_cons_zero, List.set_cons_succ]
            refine rs_take 15 (v := ?_) rfl (by kernel_rfl) (by kernel_rfl) (by kernel_rfl) (by kernel_rfl) (fun _ _ _ h => h) (by rfl) (by first | assumption | exact HS0 _ rfl) ?_ ?_
            rotate_left 1
            · intro w hSw; go_simp <;> with_reducible rfl
            try simp only [Act.put, List.setIfInBounds_toArray, List.set_cons_zero, List.set_cons_succ]
            refine rs_take 16 (v := ?_) rfl (by kernel_rfl) (by kernel_rfl) (by kernel_rfl) (by kernel_rfl) (fun _ _ _ h => h) (by rfl) (by first | assumption | exact HS0 _ rfl) ?_ ?_
            rotate_left 1
            · intro w hSw; go_simp <;> with_reducible rfl
            try simp only [Act.put, List.setIfInBounds_toArray, List.set_cons_zero, List.set_cons_succ]
            refine rs_take 17 (v := ?_) rfl (by kernel_rfl) (by kernel_rfl) (by kernel_rfl) (by kernel_rfl) (fun _ _ _ h => h) (by rfl) (by first | assumption | exact HS0 _ rfl) ?_ ?_
            rotate_left 1
            · intro w hSw; go_simp <;> with_reducible rfl
            try simp only [Act.put, List.setIfInBounds_toArray, List.set_cons_zero, List.set_cons_succ]
            refine rs_take 18 (v := ?_) rfl (by kernel_rfl) (by kernel_rfl) (by kernel_rfl) (by kernel_rfl) (fun _ _ _ h => h) (by rfl) (by first | assumption | exact HS0 _ rfl) ?_ ?_
            rotate_left 1
            · intro w hSw; go_simp <;> with_reducible rfl
            try simp only [Act.put, List.setIfInBounds_toArray, List.set_cons_zero, List.set_cons_succ]
            refine rs_take 20 (v := ?_) rfl (by kernel_rfl) (by kernel_rfl) (by kernel_rfl) (by kernel_rfl) (fun _ _ _ h => h) (by rfl) (by first | assumption | exact HS0 _ rfl) ?_ ?_
            rotate_left 1
            · intro w hSw; go_simp <;> with_reducible rfl
            try simp only [Act.put, List.setIfInBounds_toArray, List.set_cons_zero, List.set_cons_succ]
            refine rs_take 21 (v := ?_) rfl (by kernel_rfl) (by kernel_rfl) (by kernel_rfl) (by kernel_rfl) (fun _ _ _ h => h) (by rfl) (by first | assumption | exact HS0 _ rfl) ?_ ?_
            rotate_left 1
            · intro w hSw; go_simp <;> with_reducible rfl
            try simp only [Act.put, List.setIfInBounds_toArray, List.set_cons_zero, List.set_cons_succ]
            refine rs_take 22 (v := ?_) rfl (by kernel_rfl) (by kernel_rfl) (by kernel_rfl) (by kernel_rfl) (fun _ _ _ h => h) (by rfl) (by first | assumption | exact HS0 _ rfl) ?_ ?_
            rotate_left 1
            · intro w hSw; go_simp <;> with_reducible rfl
            try simp only [Act.put, List.setIfInBounds_toArray, List.set_cons_zero, List.set_cons_succ]
            refine rs_take 23 (v := ?_) rfl (by kernel_rfl) (by kernel_rfl) (by kernel_rfl) (by kernel_rfl) (fun _ _ _ h => h) (by rfl) (by first | assumption | exact HS0 _ rfl) ?_ ?_
            rotate_left 1
            · intro w hSw; go_simp <;> with_reducible rfl
            try simp only [Act.put, List.setIfInBounds_toArray, List.set_cons_zero, List.set_cons_succ]
            refine rs_take 24 (v := ?_) rfl (by kernel_rfl) (by kernel_rfl) (by kernel_rfl) (by kernel_rfl) (fun _ _ _ h => h) (by rfl) (by first | assumption | exact HS0 _ rfl) ?_ ?_
            rotate_left 1
            · intro w hSw; go_simp <;> with_reducible rfl
            try simp only [Act.put, List.setIfInBounds_toArray, List.set_cons_zero, List.set_cons_succ]
            refine rs_take 25 (v := ?_) rfl (by kernel_rfl) (by kernel_rfl) (by kernel_rfl) (by kernel_rfl) (fun _ _ _ h => h) (by rfl) (by first | assumption | exact HS0 _ rfl) ?_ ?_
            rotate_left 1
            · intro w hSw; go_simp <;> with_reducible rfl
            try simp only [Act.put, List.setIfInBounds_toArray, List.set_cons_zero, List.set_cons_succ]
            refine rs_one 19 rfl (by kernel_rfl) (fun K hK => ?_)
            go_simp
            refine (row_has (HR.out.fr Fc (fun _ _ _ h => h)) a HA.out).mono ?_
            rintro r we ⟨rfl, hFe⟩
            rw [← HDD.out]
            have Fe : Fr (fun _ => False) wN we := Fc.trans hFe
            have hTe := hT.out _ Fe
            go_wp2_with fail
            refine hK.out (At St) _ _ (fun _ h => h) (fun _ => by (assumption)) ?_
            clear hK K
            try simp only [Act.put, List.setIfInBounds_toArray, List.set_cons_zero, List.set_cons_succ]
            refine rs_one 26 rfl (by kernel_rfl) (fun K hK => ?_)
            go_simp
            refine (ids_has vA _ vc ([] : List (Int × Int)) a we (Kd.C_below HV.out (Fe.below (fun _ _ h => h))) (by have := HLW.out; omega)).mono ?_
            rintro r wf ⟨rfl, hFf⟩
            rw [← HDD.out]
            have Ff : Fr (fun _ => False) wN wf := Fe.trans hFf
            have hTf := hT.out _ Ff
            go_wp2_with fail
            refine hK.out (At St) _ _ (fun _ h => h) (fun _ => by (assumption)) ?_
            clear hK K
            try simp only [Act.put, List.setIfInBounds_toArray, List.set_cons_zero, List.set_cons_succ]
            refine rs_take 27 (v := ?_) rfl (by kernel_rfl) (by kernel_rfl) (by kernel_rfl) (by kernel_rfl) (fun _ _ _ h => h) (by rfl) (by first | assumption | exact HS0 _ rfl) ?_ ?_
            rotate_left 1
            · intro w hSw; go_simp <;> with_reducible rfl
            try simp only [Act.put, List.setIfInBounds_toArray, List.set_cons_zero, List.set_cons_succ]
            refine rs_take 28 (v := ?_) rfl (by kernel_rfl) (by kernel_rfl) (by kernel_rfl) (by kernel_rfl) (fun _ _ _ h => h) (by rfl) (by first | assumption | exact HS0 _ rfl) ?_ ?_
            rotate_left 1
            · intro w hSw; go_simp <;> with_reducible rfl
            try simp only [Act.put, List.setIfInBounds_toArray, List.set_cons_zero, List.set_cons_succ]
            refine rs_done (by kernel_rfl) ?_
            have HFf := Lib.hid Ff
            clear hT0 kd1 kd2 hTa hTb hTc hTe hTf Fa Fb Fc Fe Ff hFa hFb hFc hFe hFf
            go_wp2_with fail
            go_roundw
            case rel => exact ⟨k + 1, _, ([] : List (Int × Int)), by omega, by go_num, HLW.out, HR.out.fr HFf.out (fun _ _ _ h => h), Kd.Q_below HQ.out (HFf.out.below (fun _ _ h => h)), HF.out.trans HFf.out⟩
            case measure => simp [intOf]; omega
          · have hcut := cut_from (P := Try.prog) 26 28 .i64 Try.underlying26 (info_parts info_id).choose_spec.1 2 (info_parts info_id).choose_spec.2.2.1 vA (a' :: t).length vc 1 (by omega) (by simp only [List.length_cons]; omega)
            have hQd := fun w' (h : idK.Q 28 w' w.heap.size (fun b => ¬ S b) (.slice vA (a' :: t).length vc) (a' :: t)) => Kd.Q_drop h (k := 1) (by simp)
            rw [show (1 : Int).toNat = 1 from rfl] at hcut
            obtain ⟨vA', hvA'⟩ : ∃ x, x = (if vc = 1 then vA else Option.map (fun x => x.add (1 * 2)) vA) := ⟨_, rfl⟩
            have es : idK.sz = 2 := rfl
            rw [es] at hQd
            rw [← hvA'] at hcut hQd
            simp only [List.length_cons, Nat.add_sub_cancel, List.drop_succ_cons, List.drop_zero] at hcut hQd
            have HQD := Lib.hid hQd
            clear hvA' es hQd
            go_wp2_with fail
            refine (row_pop_yes HR.out (by omega)).mono ?_
            rintro r w3 ⟨rfl, hR3, hF3⟩
            have hQ3 := Kd.Q_step HQ.out (fun q hq hlt => hF3.block q hlt hq)
            have hF30 := HF.out.trans' hF3 (fun i hi h => by have := (HR.out.2.1 i h).1; omega)
            have hY := Blk.new w3 28 #[.int .i64 a'.1, .int .i64 a'.2]
            obtain ⟨y0, y1⟩ := id_cells hY
            have he := fun w => neqId a'.1 a'.2 a'.1 a'.2 w
            simp only [decide_true, Bool.not_true] at he
            have hG := (Fr.refl (fun _ => False) w3).alloc (.cells #[.int .i64 a'.1, .int .i64 a'.2] 28)
            have hR4 := (hR3.fr hG (fun _ _ _ h => h)).more (show k ≤ k + 1 by omega)
            have hQ4 := Kd.Q_below hQ3 (hG.below (fun _ _ h => h))
            have hF4 := hF30.trans hG
            have hV4 := (Kd.Q_reads' hQ4).2.2
            obtain ⟨b1, off1, hvA, z0, z1⟩ := ids_at hV4 (i := 0) (by simp)
            subst hvA
            rw [show ida (a' :: t) 0 = a' from rfl, Nat.zero_mul, Nat.add_zero] at z0 z1
            have tp : decide ((0 : Int) < (t.length : Int) + 1) = true := decide_eq_true (by omega)
            have tp2 : (0 : Int) < (t.length : Int) + 1 := by omega
            replace HR := Lib.hid hR4
            replace HQ := Lib.hid hQ4
            replace HF := Lib.hid hF4
            clear hR4 hQ4 hF4 hY hF3 hG hV4 hR3 hQ3 hF30 HV
            go_wp2_with fail
            go_quiet (fail)
            go_wp2_with fail
            clear y0 y1 z0 z1 he tp tp2 hcut d0 d1 d2
            have hQ5 := HQD.out _ (Kd.Q_drewN HQ.out nq)
            have hV5 := (Kd.Q_reads' hQ5).2.2
            replace HR := Lib.hid (HR.out.fr ((Fr.refl (fun _ => False) _).drewN nq) (fun _ _ _ h => h))
            replace HQ := Lib.hid hQ5
            have HV := Lib.hid hV5
            replace HF := Lib.hid (HF.out.drewN nq)
            clear hQ5 hV5 HQD
            generalize (w3.alloc (.cells #[.int .i64 a'.1, .int .i64 a'.2] 28)).drewN nq = wN at *
            have hlW : (t).length ≤ k + 1 := by first | omega | (simp; omega) | (rw [HWE.out]; simp; omega) | (simp only [List.length_cons] at hWk; omega)
            have HLW := Lib.hid hlW
            obtain ⟨dd, hdd⟩ : ∃ dd, dd = decide (a ∈ t) := ⟨_, rfl⟩
            have HDD := Lib.hid hdd
            obtain ⟨St, hSt⟩ : ∃ St : World → Prop, St = Fr (fun _ => False) wN := ⟨_, rfl⟩
            have hT : ∀ w', Fr (fun _ => False) wN w' → At St w' := fun w' h => by unfold At; rw [hSt]; exact h
            have kd1 : ∀ w', At St w' → w'.cell? ⟨b, off + k * 3 + 1, none⟩ = some (.int .i64 a.1) := fun w' h => by
              replace h := h.out; rw [hSt] at h; exact (HF.out.trans h).cell ha1.out (fun h => h)
            have kd2 : ∀ w', At St w' → w'.cell? ⟨b, off + k * 3 + 1 + 1, none⟩ = some (.int .i64 a.2) := fun w' h => by
              replace h := h.out; rw [hSt] at h; exact (HF.out.trans h).cell ha2.out (fun h => h)
            have hT0 : At St wN.drew := hT _ (Fr.refl _ _).drew
            have hT := Lib.hid hT
            clear hSt hdd hlW
            refine rs_start 29 (At St) 29 (by kernel_rfl) rfl ?_
            refine rs_take 0 (v := ?_) rfl (by kernel_rfl) (by kernel_rfl) (by kernel_rfl) (by kernel_rfl) (fun _ _ _ h => h) (by rfl) (by first | assumption | exact HS0 _ rfl) ?_ ?_
            rotate_left 1
            · intro w hSw; go_simp <;> with_reducible rfl
            try simp only [Act.put, List.setIfInBounds_toArray, List.set_cons_zero, List.set_cons_succ]
            refine rs_take 2 (v := ?_) rfl (by kernel_rfl) (by kernel_rfl) (by kernel_rfl) (by kernel_rfl) (fun _ _ _ h => h) (by rfl) (by first | assumption | exact HS0 _ rfl) ?_ ?_
            rotate_left 1
            · intro w hSw; go_simp <;> with_reducible rfl
            try simp only [Act.put, List.setIfInBounds_toArray, List.set_cons_zero, List.set_cons_succ]
            refine rs_take 3 (v := ?_) rfl (by kernel_rfl) (by kernel_rfl) (by kernel_rfl) (by kernel_rfl) (fun _ _ _ h => h) (by rfl) (by first | assumption | exact HS0 _ rfl) ?_ ?_
            rotate_left 1
            · intro w hSw; go_simp <;> with_reducible rfl
            try simp only [Act.put, List.setIfInBounds_toArray, List.set_cons_zero, List.set_cons_succ]
            refine rs_one 1 rfl (by kernel_rfl) (fun K hK => ?_)
            go_simp
            refine (row_len (HR.out.fr (Fr.refl (fun _ => False) _).drew (fun _ _ _ h => h)) (by omega)).mono ?_
            rintro r wa ⟨rfl, hFa⟩
            have Fa : Fr (fun _ => False) wN wa := (Fr.refl _ _).drew.trans hFa
            have hTa := hT.out _ Fa
            go_wp2_with fail
            refine hK.out (At St) _ _ (fun _ h => h) (fun _ => by (assumption)) ?_
            clear hK K
            try simp only [Act.put, List.setIfInBounds_toArray, List.set_cons_zero, List.set_cons_succ]
            refine rs_take 4 (v := ?_) rfl (by kernel_rfl) (by kernel_rfl) (by kernel_rfl) (by kernel_rfl) (fun _ _ _ h => h) (by rfl) (by first | assumption | exact HS0 _ rfl) ?_ ?_
            rotate_left 1
            · intro w hSw; go_simp <;> with_reducible rfl
            try simp only [Act.put, List.setIfInBounds_toArray, List.set_cons_zero, List.set_cons_succ]
            refine rs_take 5 (v := ?_) rfl (by kernel_rfl) (by kernel_rfl) (by kernel_rfl) (by kernel_rfl) (fun _ _ _ h => h) (by rfl) (by first | assumption | exact HS0 _ rfl) ?_ ?_
            rotate_left 1
            · intro w hSw; go_simp <;> with_reducible rfl
            try simp only [Act.put, List.setIfInBounds_toArray, List.set_cons_zero, List.set_cons_succ]
            refine rs_take 6 (v := ?_) rfl (by kernel_rfl) (by kernel_rfl) (by kernel_rfl) (by kernel_rfl) (fun _ _ _ h => h) (by rfl) (by first | assumption | exact HS0 _ rfl) ?_ ?_
            rotate_left 1
            · intro w hSw; go_simp <;> with_reducible rfl
            try simp only [Act.put, List.setIfInBounds_toArray, List.set_cons_zero, List.set_cons_succ]
            refine rs_take 8 (v := ?_) rfl (by kernel_rfl) (by kernel_rfl) (by kernel_rfl) (by kernel_rfl) (fun _ _ _ h => h) (by rfl) (by first | assumption | exact HS0 _ rfl) ?_ ?_
            rotate_left 1
            · intro w hSw; go_simp <;> with_reducible rfl
            try simp only [Act.put, List.setIfInBounds_toArray, List.set_cons_zero, List.set_cons_succ]
            refine rs_one 7 rfl (by kernel_rfl) (fun K hK => ?_)
            go_simp
            refine (row_list (HR.out.fr Fa (fun _ _ _ h => h)) (by omega)).mono ?_
            rintro r wb ⟨A3, c3, rfl, hc3, hC3, hFb⟩
            have Fb : Fr (fun _ => False) wN wb := Fa.trans hFb
            have hTb := hT.out _ Fb
            have HC3 := Lib.hid hC3
            clear hC3
            go_wp2_with fail
            refine hK.out (At St) _ _ (fun _ h => h) (fun _ => by (assumption)) ?_
            clear hK K
            try simp only [Act.put, List.setIfInBounds_toArray, List.set_cons_zero, List.set_cons_succ]
            refine rs_one 9 rfl (by kernel_rfl) (fun K hK => ?_)
            go_simp
            refine (ids_same A3 vA' _ c3 _ (vc - 1) t t wb HC3.out (Kd.C_below HV.out (Fb.below (fun _ _ h => h))) (by have := HLW.out; omega) (by have := HLW.out; omega)).mono ?_
            rintro r wc ⟨rfl, hFc⟩
            rw [show decide (t = t) = true from decide_eq_true rfl]
            have Fc : Fr (fun _ => False) wN wc := Fb.trans hFc
            have hTc := hT.out _ Fc
            go_wp2_with fail
            refine hK.out (At St) _ _ (fun _ h => h) (fun _ => by (assumption)) ?_
            clear hK K
            try simp only [Act.put, List.setIfInBounds_toArray, List.set_cons_zero, List.set_cons_succ]
            refine rs_take 10 (v := ?_) rfl (by kernel_rfl) (by kernel_rfl) (by kernel_rfl) (by kernel_rfl) (fun _ _ _ h => h) (by rfl) (by first | assumption | exact HS0 _ rfl) ?_ ?_
            rotate_left 1
            · intro w hSw; go_simp <;> with_reducible rfl
            try simp only [Act.put, List.setIfInBounds_toArray, List.set_cons_zero, List.set_cons_succ]
            refine rs_take 11 (v := ?_) rfl (by kernel_rfl) (by kernel_rfl) (by kernel_rfl) (by kernel_rfl) (fun _ _ _ h => h) (by rfl) (by first | assumption | exact HS0 _ rfl) ?_ ?_
            rotate_left 1
            · intro w hSw; go_simp <;> with_reducible rfl
            try simp only [Act.put, List.setIfInBounds_toArray, List.set_cons_zero, List.set_cons_succ]
            refine rs_take 12 (v := ?_) rfl (by kernel_rfl) (by kernel_rfl) (by kernel_rfl) (by kernel_rfl) (fun _ _ _ h => h) (by rfl) (by first | assumption | exact HS0 _ rfl) ?_ ?_
            rotate_left 1
            · intro w hSw; go_simp <;> with_reducible rfl
            try simp only [Act.put, List.setIfInBounds_toArray, List.set_cons_zero, List.set_cons_succ]
            refine rs_take 13 (v := ?_) rfl (by kernel_rfl) (by kernel_rfl) (by kernel_rfl) (by kernel_rfl) (fun _ _ _ h => h) (by rfl) (by first | assumption | exact HS0 _ rfl) ?_ ?_
            rotate_left 1
            · intro w hSw; go_simp <;> with_reducible rfl
            try simp only [Act.put, List.setIfInBounds_toArray, List.set_cons_zero, List.set_cons_succ]
            refine rs_take 14 (v := ?_) rfl (by kernel_rfl) (by kernel_rfl) (by kernel_rfl) (by kernel_rfl) (fun _ _ _ h => h) (by rfl) (by first | assumption | exact HS0 _ rfl) ?_ ?_
            rotate_left 1
            · intro w hSw; go_simp <;> with_reducible rfl
            try simp only [Act.put, List.setIfInBounds_toArray, List.set_cons_zero, List.set_cons_succ]
            refine rs_take 15 (v := ?_) rfl (by kernel_rfl) (by kernel_rfl) (by kernel_rfl) (by kernel_rfl) (fun _ _ _ h => h) (by rfl) (by first | assumption | exact HS0 _ rfl) ?_ ?_
            rotate_left 1
            · intro w hSw; go_simp <;> with_reducible rfl
            try simp only [Act.put, List.setIfInBounds_toArray, List.set_cons_zero, List.set_cons_succ]
            refine rs_take 16 (v := ?_) rfl (by kernel_rfl) (by kernel_rfl) (by kernel_rfl) (by kernel_rfl) (fun _ _ _ h => h) (by rfl) (by first | assumption | exact HS0 _ rfl) ?_ ?_
            rotate_left 1
            · intro w hSw; go_simp <;> with_reducible rfl
            try simp only [Act.put, List.setIfInBounds_toArray, List.set_cons_zero, List.set_cons_succ]
            refine rs_take 17 (v := ?_) rfl (by kernel_rfl) (by kernel_rfl) (by kernel_rfl) (by kernel_rfl) (fun _ _ _ h => h) (by rfl) (by first | assumption | exact HS0 _ rfl) ?_ ?_
            rotate_left 1
            · intro w hSw; go_simp <;> with_reducible rfl
            try simp only [Act.put, List.setIfInBounds_toArray, List.set_cons_zero, List.set_cons_succ]
            refine rs_take 18 (v := ?_) rfl (by kernel_rfl) (by kernel_rfl) (by kernel_rfl) (by kernel_rfl) (fun _ _ _ h => h) (by rfl) (by first | assumption | exact HS0 _ rfl) ?_ ?_
            rotate_left 1
            · intro w hSw; go_simp <;> with_reducible rfl
            try simp only [Act.put, List.setIfInBounds_toArray, List.set_cons_zero, List.set_cons_succ]
            refine rs_take 20 (v := ?_) rfl (by kernel_rfl) (by kernel_rfl) (by kernel_rfl) (by kernel_rfl) (fun _ _ _ h => h) (by rfl) (by first | assumption | exact HS0 _ rfl) ?_ ?_
            rotate_left 1
            · intro w hSw; go_simp <;> with_reducible rfl
            try simp only [Act.put, List.setIfInBounds_toArray, List.set_cons_zero, List.set_cons_succ]
            refine rs_take 21 (v := ?_) rfl (by kernel_rfl) (by kernel_rfl) (by kernel_rfl) (by kernel_rfl) (fun _ _ _ h => h) (by rfl) (by first | assumption | exact HS0 _ rfl) ?_ ?_
            rotate_left 1
            · intro w hSw; go_simp <;> with_reducible rfl
            try simp only [Act.put, List.setIfInBounds_toArray, List.set_cons_zero, List.set_cons_succ]
            refine rs_take 22 (v := ?_) rfl (by kernel_rfl) (by kernel_rfl) (by kernel_rfl) (by kernel_rfl) (fun _ _ _ h => h) (by rfl) (by first | assumption | exact HS0 _ rfl) ?_ ?_
            rotate_left 1
            · intro w hSw; go_simp <;> with_reducible rfl
            try simp only [Act.put, List.setIfInBounds_toArray, List.set_cons_zero, List.set_cons_succ]
            refine rs_take 23 (v := ?_) rfl (by kernel_rfl) (by kernel_rfl) (by kernel_rfl) (by kernel_rfl) (fun _ _ _ h => h) (by rfl) (by first | assumption | exact HS0 _ rfl) ?_ ?_
            rotate_left 1
            · intro w hSw; go_simp <;> with_reducible rfl
            try simp only [Act.put, List.setIfInBounds_toArray, List.set_cons_zero, List.set_cons_succ]
            refine rs_take 24 (v := ?_) rfl (by kernel_rfl) (by kernel_rfl) (by kernel_rfl) (by kernel_rfl) (fun _ _ _ h => h) (by rfl) (by first | assumption | exact HS0 _ rfl) ?_ ?_
            rotate_left 1
            · intro w hSw; go_simp <;> with_reducible rfl
            try simp only [Act.put, List.setIfInBounds_toArray, List.set_cons_zero, List.set_cons_succ]
            refine rs_take 25 (v := ?_) rfl (by kernel_rfl) (by kernel_rfl) (by kernel_rfl) (by kernel_rfl) (fun _ _ _ h => h) (by rfl) (by first | assumption | exact HS0 _ rfl) ?_ ?_
            rotate_left 1
            · intro w hSw; go_simp <;> with_reducible rfl
            try simp only [Act.put, List.setIfInBounds_toArray, List.set_cons_zero, List.set_cons_succ]
            refine rs_one 19 rfl (by kernel_rfl) (fun K hK => ?_)
            go_simp
            refine (row_has (HR.out.fr Fc (fun _ _ _ h => h)) a HA.out).mono ?_
            rintro r we ⟨rfl, hFe⟩
            rw [← HDD.out]
            have Fe : Fr (fun _ => False) wN we := Fc.trans hFe
            have hTe := hT.out _ Fe
            go_wp2_with fail
            refine hK.out (At St) _ _ (fun _ h => h) (fun _ => by (assumption)) ?_
            clear hK K
            try simp only [Act.put, List.setIfInBounds_toArray, List.set_cons_zero, List.set_cons_succ]
            refine rs_one 26 rfl (by kernel_rfl) (fun K hK => ?_)
            go_simp
            refine (ids_has vA' _ (vc - 1) t a we (Kd.C_below HV.out (Fe.below (fun _ _ h => h))) (by have := HLW.out; omega)).mono ?_
            rintro r wf ⟨rfl, hFf⟩
            rw [← HDD.out]
            have Ff : Fr (fun _ => False) wN wf := Fe.trans hFf
            have hTf := hT.out _ Ff
            go_wp2_with fail
            refine hK.out (At St) _ _ (fun _ h => h) (fun _ => by (assumption)) ?_
            clear hK K
            try simp only [Act.put, List.setIfInBounds_toArray, List.set_cons_zero, List.set_cons_succ]
            refine rs_take 27 (v := ?_) rfl (by kernel_rfl) (by kernel_rfl) (by kernel_rfl) (by kernel_rfl) (fun _ _ _ h => h) (by rfl) (by first | assumption | exact HS0 _ rfl) ?_ ?_
            rotate_left 1
            · intro w hSw; go_simp <;> with_reducible rfl
            try simp only [Act.put, List.setIfInBounds_toArray, List.set_cons_zero, List.set_cons_succ]
            refine rs_take 28 (v := ?_) rfl (by kernel_rfl) (by kernel_rfl) (by kernel_rfl) (by kernel_rfl) (fun _ _ _ h => h) (by rfl) (by first | assumption | exact HS0 _ rfl) ?_ ?_
            rotate_left 1
            · intro w hSw; go_simp <;> with_reducible rfl
            try simp only [Act.put, List.setIfInBounds_toArray, List.set_cons_zero, List.set_cons_succ]
            refine rs_done (by kernel_rfl) ?_
            have HFf := Lib.hid Ff
            clear hT0 kd1 kd2 hTa hTb hTc hTe hTf Fa Fb Fc Fe Ff hFa hFb hFc hFe hFf
            go_wp2_with fail
            go_roundw
            case rel => exact ⟨k + 1, _, t, by omega, by go_num, HLW.out, HR.out.fr HFf.out (fun _ _ _ h => h), Kd.Q_below HQ.out (HFf.out.below (fun _ _ h => h)), HF.out.trans HFf.out⟩
            case measure => simp [intOf]; omega
      · have hkl : k = len := by omega
        clear hQ hR hF HR hWk
        go_wp2_with fail
        refine (nil_pop _).mono ?_
        rintro r w3 ⟨rfl, hF3⟩
        have hF4 := (HF.out.trans hF3).alloc (.cells #[.int .i64 0, .int .i64 0] 28)
        replace HF := Lib.hid hF4
        clear hF3 hF4
        go_wp2_with fail
        refine (nil_push (0, 0) _).mono ?_
        rintro r w4 ⟨rfl, hF3⟩
        replace HF := Lib.hid (HF.out.trans hF3)
        clear hF3
        go_wp2_with fail
        refine (nil_has (0, 0) _).mono ?_
        rintro r w5 ⟨rfl, hF3⟩
        replace HF := Lib.hid (HF.out.trans hF3)
        clear hF3
        go_wp2_with fail
        refine (nil_len _).mono ?_
        rintro r w6 ⟨rfl, rfl⟩
        go_wp2_with fail
        refine (nil_list _).mono ?_
        rintro r w6 ⟨rfl, rfl⟩
        go_wp2_with fail
        refine (works24 _).mono ?_
        rintro r w7 ⟨rfl, hF3⟩
        replace HF := Lib.hid (HF.out.trans hF3)
        clear hF3
        go_wp2_with fail
        go_ret
        exact ⟨rfl, HF.out⟩
end Go.Proofs.Ytlpigldogglmcaa
