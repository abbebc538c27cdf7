/- Commands: which are the same, as the references tell. -/
import Derived.Test.YtmfbcebbklimoaaCmdD
import Derived.Test.YtmfbcebbklimoaaIdS
set_option linter.unusedVariables false
set_option linter.unusedSimpArgs false
namespace Go.Proofs.Ytmfbcebbklimoaa
open Go.RowKit
open Go.Proofs.YtmfbcebbklimoaaW.PrintWords

set_option maxHeartbeats 1000000 in
theorem ref_cmd (a b : Cmd) (w : World) (ha : CmdOk a) (hb : CmdOk b) : Calls Try.prog 16 #[cmdV a, cmdV b] w fun r w' => r = .returned (.bool (cdec (cmdS a b))) ∧ Fr (fun _ => False) w w' := by
  obtain ⟨a1, a2, a3⟩ := a
  obtain ⟨b1, b2, b3⟩ := b
  have hF := ((Fr.refl (fun _ => False) w).alloc (.cells #[.int .i64 a1, .string a2, .float .f64 a3] 54)).alloc (.cells #[.int .i64 b1, .string b2, .float .f64 b3] 54)
  have hse := beq_list (a := a2) (b := b2)
  have HA := Lib.hid ha
  have HB := Lib.hid hb
  clear ha hb
  by_cases h1 : a1 = b1
  · have t1 : (a1 == b1) = true := by simp [h1]
    by_cases h2 : a2 = b2
    · rw [cdec_true h2] at hse
      have hd : cdec (cmdS (a1, a2, a3) (b1, b2, b3)) = decide (key a3 = key b3) := by
        by_cases h3 : key a3 = key b3
        · rw [decide_eq_true h3]; exact cdec_true ⟨h1, h2, h3⟩
        · rw [decide_eq_false h3]; exact cdec_false fun h => h3 h.2.2
      rw [hd]
      have H1 := Lib.hid h1
      have H2 := Lib.hid h2
      clear h1 h2 hd
      go_enter Try.func16, Try.ntmps16
      go_wp2_with fail
      refine (ref_same a3 b3 _ HA.out HB.out).mono ?_
      rintro r w1 ⟨rfl, rfl⟩
      go_wp2_with fail
      go_ret
      exact ⟨rfl, hF⟩
    · rw [cdec_false h2] at hse
      rw [cdec_false (show ¬ cmdS (a1, a2, a3) (b1, b2, b3) from fun h => h2 h.2.1)]
      clear h1 h2
      go_enter Try.func16, Try.ntmps16
      go_wp2_with fail
      go_ret
      exact ⟨rfl, hF⟩
  · have t1 : (a1 == b1) = false := by simp [h1]
    rw [cdec_false (show ¬ cmdS (a1, a2, a3) (b1, b2, b3) from fun h => h1 h.1)]
    clear h1
    go_enter Try.func16, Try.ntmps16
    go_wp2_with fail
    go_ret
    exact ⟨rfl, hF⟩
def cmdsS (L L' : List Cmd) : Prop := L.length = L'.length ∧ ∀ i, i < L.length → cmdS (cmx L i) (cmx L' i)
theorem cmdsS_refl (L : List Cmd) : cmdsS L L := ⟨rfl, fun _ _ => ⟨rfl, rfl, rfl⟩⟩
set_option maxRecDepth 100000 in
set_option maxHeartbeats 1000000 in
theorem ref_cmds (A A' : Option Addr) (n c n' c' : Nat) (L L' : List Cmd) (w : World) (h : cmdK.C w A n L) (h' : cmdK.C w A' n' L') (hn : n ≤ 9223372036854775807) (hn' : n' ≤ 9223372036854775807) (hL : ∀ x ∈ L, CmdOk x) (hL' : ∀ x ∈ L', CmdOk x) :
    Calls Try.prog 15 #[.slice A n c, .slice A' n' c'] w fun r w' => r = .returned (.bool (cdec (cmdsS L L'))) ∧ Fr (fun _ => False) w w' := by
  have HL := Lib.hid (show L.length = n from h.1)
  have HL' := Lib.hid (show L'.length = n' from h'.1)
  have HC := Lib.hid h
  have HC' := Lib.hid h'
  have HO := Lib.hid hL
  have HO' := Lib.hid hL'
  clear h h' hL hL'
  by_cases hnn : n = n'
  · subst hnn
    go_enter Try.func15, Try.ntmps15
    go_wp2_with fail
    go_loopw [5] (fun i wr => ∃ k : Nat, k ≤ n ∧ i = .int .i64 k ∧ (∀ j, j < k → cmdS (cmx L j) (cmx L' j)) ∧ Fr (fun _ => False) w wr) (fun i _ => n - (intOf i).toNat)
    case atStart => exact ⟨0, Nat.zero_le _, rfl, fun _ h => by omega, Fr.refl _ _⟩
    case round =>
      obtain ⟨k, hk, rfl, hno, hG⟩ := hrel
      replace hno := Lib.hid hno
      replace hG := Lib.hid hG
      rcases Nat.lt_or_ge k n with hlt | hge
      · obtain ⟨b, off, rfl, h0, h1, h2⟩ := cmds_at (Kd.C_below HC.out (hG.out.below (fun _ _ h => h))) hlt
        obtain ⟨b', off', rfl, h0', h1', h2'⟩ := cmds_at (Kd.C_below HC'.out (hG.out.below (fun _ _ h => h))) hlt
        obtain ⟨St, hSt⟩ : ∃ St : World → Prop, St = Fr (fun _ => False) wr := ⟨_, rfl⟩
        have HT := Lib.hid (show ∀ w', Fr (fun _ => False) wr w' → At St w' from fun w' h => by unfold At; rw [hSt]; exact h)
        have e0 : ∀ w', At St w' → w'.cell? ⟨b, off + k * 3, none⟩ = some (.int .i64 (cmx L k).1) := fun w' h => by replace h := h.out; rw [hSt] at h; exact h.cell h0 (fun h => h)
        have e1 : ∀ w', At St w' → w'.cell? ⟨b, off + k * 3 + 1, none⟩ = some (.string (cmx L k).2.1) := fun w' h => by replace h := h.out; rw [hSt] at h; exact h.cell h1 (fun h => h)
        have e2 : ∀ w', At St w' → w'.cell? ⟨b, off + k * 3 + 1 + 1, none⟩ = some (.float .f64 (cmx L k).2.2) := fun w' h => by replace h := h.out; rw [hSt] at h; exact h.cell h2 (fun h => h)
        have e0' : ∀ w', At St w' → w'.cell? ⟨b', off' + k * 3, none⟩ = some (.int .i64 (cmx L' k).1) := fun w' h => by replace h := h.out; rw [hSt] at h; exact h.cell h0' (fun h => h)
        have e1' : ∀ w', At St w' → w'.cell? ⟨b', off' + k * 3 + 1, none⟩ = some (.string (cmx L' k).2.1) := fun w' h => by replace h := h.out; rw [hSt] at h; exact h.cell h1' (fun h => h)
        have e2' : ∀ w', At St w' → w'.cell? ⟨b', off' + k * 3 + 1 + 1, none⟩ = some (.float .f64 (cmx L' k).2.2) := fun w' h => by replace h := h.out; rw [hSt] at h; exact h.cell h2' (fun h => h)
        have hT0 := HT.out wr.drew (Fr.refl _ _).drew
        have q1 := Lib.hid (HO.out _ (cmx_mem (i := k) (by rw [HL.out]; exact hlt)))
        have q2 := Lib.hid (HO'.out _ (cmx_mem (i := k) (by rw [HL'.out]; exact hlt)))
        clear hSt h0 h1 h2 h0' h1' h2'
        by_cases hq : cmdS (cmx L k) (cmx L' k)
        · replace hq := Lib.hid hq
          go_wp2_with fail
          refine rt_start [] (At St) 10 (by kernel_rfl) rfl ?_
          refine rt_free 0 (v := ?_) rfl (by kernel_rfl) (by kernel_rfl) (by kernel_rfl) (by kernel_rfl) (fun _ _ _ h => h) (by rfl) (fun _ => by first | assumption | exact HS0 _ rfl | exact HT.out _ (by repeat (first | exact Fr.refl _ _ | apply Fr.drew | refine Fr.alloc ?_ _))) ?_ ?_
          rotate_left 1
          · intro w; go_simp <;> with_reducible rfl
          try simp only [Act.put, List.setIfInBounds_toArray, List.set_cons_zero, List.set_cons_succ]
          refine rt_free 1 (v := ?_) rfl (by kernel_rfl) (by kernel_rfl) (by kernel_rfl) (by kernel_rfl) (fun _ _ _ h => h) (by rfl) (fun _ => by first | assumption | exact HS0 _ rfl | exact HT.out _ (by repeat (first | exact Fr.refl _ _ | apply Fr.drew | refine Fr.alloc ?_ _))) ?_ ?_
          rotate_left 1
          · intro w; go_simp <;> with_reducible rfl
          try simp only [Act.put, List.setIfInBounds_toArray, List.set_cons_zero, List.set_cons_succ]
          refine rt_free 2 (v := ?_) rfl (by kernel_rfl) (by kernel_rfl) (by kernel_rfl) (by kernel_rfl) (fun _ _ _ h => h) (by rfl) (fun _ => by first | assumption | exact HS0 _ rfl | exact HT.out _ (by repeat (first | exact Fr.refl _ _ | apply Fr.drew | refine Fr.alloc ?_ _))) ?_ ?_
          rotate_left 1
          · intro w; go_simp <;> with_reducible rfl
          try simp only [Act.put, List.setIfInBounds_toArray, List.set_cons_zero, List.set_cons_succ]
          refine rt_take 3 (v := ?_) rfl (by kernel_rfl) (by kernel_rfl) (by kernel_rfl) (by kernel_rfl) (fun _ _ _ h => h) (by rfl) (by first | assumption | exact HS0 _ rfl | exact HT.out _ (by repeat (first | exact Fr.refl _ _ | apply Fr.drew | refine Fr.alloc ?_ _))) ?_ ?_
          rotate_left 1
          · intro w hSw; go_simp <;> with_reducible rfl
          try simp only [Act.put, List.setIfInBounds_toArray, List.set_cons_zero, List.set_cons_succ]
          refine rt_free 4 (v := ?_) rfl (by kernel_rfl) (by kernel_rfl) (by kernel_rfl) (by kernel_rfl) (fun _ _ _ h => h) (by rfl) (fun _ => by first | assumption | exact HS0 _ rfl | exact HT.out _ (by repeat (first | exact Fr.refl _ _ | apply Fr.drew | refine Fr.alloc ?_ _))) ?_ ?_
          rotate_left 1
          · intro w; go_simp <;> with_reducible rfl
          try simp only [Act.put, List.setIfInBounds_toArray, List.set_cons_zero, List.set_cons_succ]
          refine rt_free 5 (v := ?_) rfl (by kernel_rfl) (by kernel_rfl) (by kernel_rfl) (by kernel_rfl) (fun _ _ _ h => h) (by rfl) (fun _ => by first | assumption | exact HS0 _ rfl | exact HT.out _ (by repeat (first | exact Fr.refl _ _ | apply Fr.drew | refine Fr.alloc ?_ _))) ?_ ?_
          rotate_left 1
          · intro w; go_simp <;> with_reducible rfl
          try simp only [Act.put, List.setIfInBounds_toArray, List.set_cons_zero, List.set_cons_succ]
          refine rt_free 6 (v := ?_) rfl (by kernel_rfl) (by kernel_rfl) (by kernel_rfl) (by kernel_rfl) (fun _ _ _ h => h) (by rfl) (fun _ => by first | assumption | exact HS0 _ rfl | exact HT.out _ (by repeat (first | exact Fr.refl _ _ | apply Fr.drew | refine Fr.alloc ?_ _))) ?_ ?_
          rotate_left 1
          · intro w; go_simp <;> with_reducible rfl
          try simp only [Act.put, List.setIfInBounds_toArray, List.set_cons_zero, List.set_cons_succ]
          refine rt_take 7 (v := ?_) rfl (by kernel_rfl) (by kernel_rfl) (by kernel_rfl) (by kernel_rfl) (fun _ _ _ h => h) (by rfl) (by first | assumption | exact HS0 _ rfl | exact HT.out _ (by repeat (first | exact Fr.refl _ _ | apply Fr.drew | refine Fr.alloc ?_ _))) ?_ ?_
          rotate_left 1
          · intro w hSw; go_simp <;> with_reducible rfl
          try simp only [Act.put, List.setIfInBounds_toArray, List.set_cons_zero, List.set_cons_succ]
          refine rt_one 8 rfl (by kernel_rfl) (fun K hK => ?_)
          go_simp
          refine (ref_cmd (cmx L k) (cmx L' k) _ q1.out q2.out).mono ?_
          rintro r w1 ⟨rfl, hF1⟩
          rw [cdec_true hq.out]
          have F1 : Fr (fun _ => False) wr w1 := (Fr.refl _ _).drew.trans hF1
          have hT1 := HT.out _ F1
          go_wp2_with fail
          refine hK.out (At St) _ _ (fun _ h => h) (fun _ => by (assumption)) ?_
          clear hK K
          try simp only [Act.put, List.setIfInBounds_toArray, List.set_cons_zero, List.set_cons_succ]
          refine rt_free 9 (v := ?_) rfl (by kernel_rfl) (by kernel_rfl) (by kernel_rfl) (by kernel_rfl) (fun _ _ _ h => h) (by rfl) (fun _ => by first | assumption | exact HS0 _ rfl | exact HT.out _ (by repeat (first | exact Fr.refl _ _ | apply Fr.drew | refine Fr.alloc ?_ _))) ?_ ?_
          rotate_left 1
          · intro w; go_simp <;> with_reducible rfl
          try simp only [Act.put, List.setIfInBounds_toArray, List.set_cons_zero, List.set_cons_succ]
          refine rt_done (by kernel_rfl) ?_
          have F1' := Lib.hid F1
          clear hT0 hT1 F1 hF1 e0 e1 e2 e0' e1' e2'
          go_wp2_with fail
          go_roundw
          case rel => exact ⟨k + 1, by omega, by go_num, fun j hj => by
            rcases Nat.lt_or_ge j k with h' | h'
            · exact hno.out j h'
            · rw [show j = k by omega]; exact hq.out, hG.out.trans F1'.out⟩
          case measure => simp [intOf]; omega
        · replace hq := Lib.hid hq
          go_wp2_with fail
          refine rt_start [] (At St) 10 (by kernel_rfl) rfl ?_
          refine rt_free 0 (v := ?_) rfl (by kernel_rfl) (by kernel_rfl) (by kernel_rfl) (by kernel_rfl) (fun _ _ _ h => h) (by rfl) (fun _ => by first | assumption | exact HS0 _ rfl | exact HT.out _ (by repeat (first | exact Fr.refl _ _ | apply Fr.drew | refine Fr.alloc ?_ _))) ?_ ?_
          rotate_left 1
          · intro w; go_simp <;> with_reducible rfl
          try simp only [Act.put, List.setIfInBounds_toArray, List.set_cons_zero, List.set_cons_succ]
          refine rt_free 1 (v := ?_) rfl (by kernel_rfl) (by kernel_rfl) (by kernel_rfl) (by kernel_rfl) (fun _ _ _ h => h) (by rfl) (fun _ => by first | assumption | exact HS0 _ rfl | exact HT.out _ (by repeat (first | exact Fr.refl _ _ | apply Fr.drew | refine Fr.alloc ?_ _))) ?_ ?_
          rotate_left 1
          · intro w; go_simp <;> with_reducible rfl
          try simp only [Act.put, List.setIfInBounds_toArray, List.set_cons_zero, List.set_cons_succ]
          refine rt_free 2 (v := ?_) rfl (by kernel_rfl) (by kernel_rfl) (by kernel_rfl) (by kernel_rfl) (fun _ _ _ h => h) (by rfl) (fun _ => by first | assumption | exact HS0 _ rfl | exact HT.out _ (by repeat (first | exact Fr.refl _ _ | apply Fr.drew | refine Fr.alloc ?_ _))) ?_ ?_
          rotate_left 1
          · intro w; go_simp <;> with_reducible rfl
          try simp only [Act.put, List.setIfInBounds_toArray, List.set_cons_zero, List.set_cons_succ]
          refine rt_take 3 (v := ?_) rfl (by kernel_rfl) (by kernel_rfl) (by kernel_rfl) (by kernel_rfl) (fun _ _ _ h => h) (by rfl) (by first | assumption | exact HS0 _ rfl | exact HT.out _ (by repeat (first | exact Fr.refl _ _ | apply Fr.drew | refine Fr.alloc ?_ _))) ?_ ?_
          rotate_left 1
          · intro w hSw; go_simp <;> with_reducible rfl
          try simp only [Act.put, List.setIfInBounds_toArray, List.set_cons_zero, List.set_cons_succ]
          refine rt_free 4 (v := ?_) rfl (by kernel_rfl) (by kernel_rfl) (by kernel_rfl) (by kernel_rfl) (fun _ _ _ h => h) (by rfl) (fun _ => by first | assumption | exact HS0 _ rfl | exact HT.out _ (by repeat (first | exact Fr.refl _ _ | apply Fr.drew | refine Fr.alloc ?_ _))) ?_ ?_
          rotate_left 1
          · intro w; go_simp <;> with_reducible rfl
          try simp only [Act.put, List.setIfInBounds_toArray, List.set_cons_zero, List.set_cons_succ]
          refine rt_free 5 (v := ?_) rfl (by kernel_rfl) (by kernel_rfl) (by kernel_rfl) (by kernel_rfl) (fun _ _ _ h => h) (by rfl) (fun _ => by first | assumption | exact HS0 _ rfl | exact HT.out _ (by repeat (first | exact Fr.refl _ _ | apply Fr.drew | refine Fr.alloc ?_ _))) ?_ ?_
          rotate_left 1
          · intro w; go_simp <;> with_reducible rfl
          try simp only [Act.put, List.setIfInBounds_toArray, List.set_cons_zero, List.set_cons_succ]
          refine rt_free 6 (v := ?_) rfl (by kernel_rfl) (by kernel_rfl) (by kernel_rfl) (by kernel_rfl) (fun _ _ _ h => h) (by rfl) (fun _ => by first | assumption | exact HS0 _ rfl | exact HT.out _ (by repeat (first | exact Fr.refl _ _ | apply Fr.drew | refine Fr.alloc ?_ _))) ?_ ?_
          rotate_left 1
          · intro w; go_simp <;> with_reducible rfl
          try simp only [Act.put, List.setIfInBounds_toArray, List.set_cons_zero, List.set_cons_succ]
          refine rt_take 7 (v := ?_) rfl (by kernel_rfl) (by kernel_rfl) (by kernel_rfl) (by kernel_rfl) (fun _ _ _ h => h) (by rfl) (by first | assumption | exact HS0 _ rfl | exact HT.out _ (by repeat (first | exact Fr.refl _ _ | apply Fr.drew | refine Fr.alloc ?_ _))) ?_ ?_
          rotate_left 1
          · intro w hSw; go_simp <;> with_reducible rfl
          try simp only [Act.put, List.setIfInBounds_toArray, List.set_cons_zero, List.set_cons_succ]
          refine rt_one 8 rfl (by kernel_rfl) (fun K hK => ?_)
          go_simp
          refine (ref_cmd (cmx L k) (cmx L' k) _ q1.out q2.out).mono ?_
          rintro r w1 ⟨rfl, hF1⟩
          rw [cdec_false hq.out]
          have F1 : Fr (fun _ => False) wr w1 := (Fr.refl _ _).drew.trans hF1
          have hT1 := HT.out _ F1
          go_wp2_with fail
          refine hK.out (At St) _ _ (fun _ h => h) (fun _ => by (assumption)) ?_
          clear hK K
          try simp only [Act.put, List.setIfInBounds_toArray, List.set_cons_zero, List.set_cons_succ]
          refine rt_free 9 (v := ?_) rfl (by kernel_rfl) (by kernel_rfl) (by kernel_rfl) (by kernel_rfl) (fun _ _ _ h => h) (by rfl) (fun _ => by first | assumption | exact HS0 _ rfl | exact HT.out _ (by repeat (first | exact Fr.refl _ _ | apply Fr.drew | refine Fr.alloc ?_ _))) ?_ ?_
          rotate_left 1
          · intro w; go_simp <;> with_reducible rfl
          try simp only [Act.put, List.setIfInBounds_toArray, List.set_cons_zero, List.set_cons_succ]
          refine rt_done (by kernel_rfl) ?_
          have F1' := Lib.hid F1
          clear hT0 hT1 F1 hF1 e0 e1 e2 e0' e1' e2'
          go_wp2_with fail
          go_ret
          exact ⟨ret_bool (cdec_false fun e => hq.out (e.2 k (by rw [HL.out]; exact hlt))).symm, hG.out.trans F1'.out⟩
      · go_wp2_with fail
        go_ret
        exact ⟨ret_bool (cdec_true ⟨by rw [HL.out, HL'.out], fun j hj => hno.out j (by rw [HL.out] at hj; omega)⟩).symm, hG.out⟩
  · have t : ((n : Int) == (n' : Int)) = false := by simp; omega
    have t2 : ((n : Int) != (n' : Int)) = true := by simp; omega
    go_enter Try.func15, Try.ntmps15
    go_wp2_with fail
    go_ret
    exact ⟨ret_bool (cdec_false fun e => hnn (by rw [← HL.out, ← HL'.out, e.1])).symm, Fr.refl _ _⟩
end Go.Proofs.Ytmfbcebbklimoaa
