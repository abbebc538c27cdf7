/- Batches: which are the same. -/
import Derived.Test.YtckcdgmcoomngaaBatC
import Derived.Test.YtckcdgmcoomngaaCmds
set_option linter.unusedVariables false
set_option linter.unusedSimpArgs false
namespace Go.Proofs.Ytckcdgmcoomngaa
open Go.RowKit
open Go.Proofs.YtckcdgmcoomngaaW.PrintWords

set_option maxHeartbeats 1000000 in
theorem cmd_same (a b : Cmd) (w : World) (ha : CmdOk a) (hb : CmdOk b) : Calls Try.prog 52 #[cmdV a, cmdV b] w fun r w' => r = .returned (.bool (cdec (cmdS a b))) ∧ Fr (fun _ => False) w w' := by
  obtain ⟨a1, a2, a3⟩ := a
  obtain ⟨b1, b2, b3⟩ := b
  have hF := ((Fr.refl (fun _ => False) w).alloc (.cells #[.int .i64 a1, .string a2, .float .f64 a3] 36)).alloc (.cells #[.int .i64 b1, .string b2, .float .f64 b3] 36)
  have hse := beq_list (a := a2) (b := b2)
  have HA := Lib.hid ha
  have HB := Lib.hid hb
  clear ha hb
  by_cases h1 : a1 = b1
  · have t1 : (a1 == b1) = true := by simp [h1]
    by_cases h2 : a2 = b2
    · rw [cdec_true h2] at hse
      have hd : cdec (cmdS (a1, a2, a3) (b1, b2, b3)) = decide (key a3 = key b3) := by
        by_cases h3 : key a3 = key b3
        · rw [decide_eq_true h3]; exact cdec_true ⟨h1, h2, h3⟩
        · rw [decide_eq_false h3]; exact cdec_false fun h => h3 h.2.2
      rw [hd]
      have H1 := Lib.hid h1
      have H2 := Lib.hid h2
      clear h1 h2 hd
      go_enter Try.func52, Try.ntmps52
      go_wp2_with fail
      refine (real_same a3 b3 _ HA.out HB.out).mono ?_
      rintro r w1 ⟨rfl, rfl⟩
      go_wp2_with fail
      go_ret
      exact ⟨rfl, hF⟩
    · rw [cdec_false h2] at hse
      rw [cdec_false (show ¬ cmdS (a1, a2, a3) (b1, b2, b3) from fun h => h2 h.2.1)]
      clear h1 h2
      go_enter Try.func52, Try.ntmps52
      go_wp2_with fail
      go_ret
      exact ⟨rfl, hF⟩
  · have t1 : (a1 == b1) = false := by simp [h1]
    rw [cdec_false (show ¬ cmdS (a1, a2, a3) (b1, b2, b3) from fun h => h1 h.1)]
    clear h1
    go_enter Try.func52, Try.ntmps52
    go_wp2_with fail
    go_ret
    exact ⟨rfl, hF⟩
set_option maxRecDepth 100000 in
set_option maxHeartbeats 2000000 in
theorem cmds_equal (A A' : Option Addr) (n c n' c' : Nat) (L L' : List Cmd) (w : World) (h : cmdK.C w A n L) (h' : cmdK.C w A' n' L') (hn : n ≤ 9223372036854775807) (hn' : n' ≤ 9223372036854775807) (hL : ∀ x ∈ L, CmdOk x) (hL' : ∀ x ∈ L', CmdOk x) :
    Calls Try.prog 51 #[.slice A n c, .slice A' n' c', .func (.func 52) #[] #[]] w fun r w' => r = .returned (.bool (cdec (cmdsS L L'))) ∧ Fr (fun _ => False) w w' := by
  have HL := Lib.hid (show L.length = n from h.1)
  have HL' := Lib.hid (show L'.length = n' from h'.1)
  have HC := Lib.hid h
  have HC' := Lib.hid h'
  have HO := Lib.hid hL
  have HO' := Lib.hid hL'
  clear h h' hL hL'
  by_cases hnn : n = n'
  · subst hnn
    go_enter Try.func51, Try.ntmps51
    go_wp2_with fail
    go_loopw [17] (fun i wr => ∃ k : Nat, k ≤ n ∧ i = .int .i64 k ∧ (∀ j, j < k → cmdS (cmx L j) (cmx L' j)) ∧ Fr (fun _ => False) w wr) (fun i _ => n - (intOf i).toNat)
    case atStart => exact ⟨0, Nat.zero_le _, rfl, fun _ h => by omega, Fr.refl _ _⟩
    case round =>
      obtain ⟨k, hk, rfl, hno, hG⟩ := hrel
      replace hno := Lib.hid hno
      replace hG := Lib.hid hG
      rcases Nat.lt_or_ge k n with hlt | hge
      · obtain ⟨b, off, rfl, h0, h1, h2⟩ := cmds_at (Kd.C_below HC.out (hG.out.below (fun _ _ h => h))) hlt
        obtain ⟨b', off', rfl, h0', h1', h2'⟩ := cmds_at (Kd.C_below HC'.out (hG.out.below (fun _ _ h => h))) hlt
        have q1 := Lib.hid (HO.out _ (cmx_mem (i := k) (by rw [HL.out]; exact hlt)))
        have q2 := Lib.hid (HO'.out _ (cmx_mem (i := k) (by rw [HL'.out]; exact hlt)))
        have F1 := (Fr.refl (fun _ => False) wr).alloc (.cells #[.int .i64 (cmx L k).1, .string (cmx L k).2.1, .float .f64 (cmx L k).2.2] 36)
        replace h0' := F1.cell h0' (fun h => h)
        replace h1' := F1.cell h1' (fun h => h)
        replace h2' := F1.cell h2' (fun h => h)
        have HF := Lib.hid (F1.alloc (.cells #[.int .i64 (cmx L' k).1, .string (cmx L' k).2.1, .float .f64 (cmx L' k).2.2] 36))
        clear F1
        go_wp2_with fail
        refine (cmd_same (cmx L k) (cmx L' k) _ q1.out q2.out).mono ?_
        rintro r w2 ⟨rfl, hF2⟩
        clear h0 h1 h2 h0' h1' h2'
        by_cases hq : cmdS (cmx L k) (cmx L' k)
        · rw [cdec_true hq]
          go_wp2_with fail
          go_roundw
          case rel =>
            refine ⟨k + 1, by omega, by go_num, fun j hj => ?_, (hG.out.trans HF.out).trans hF2⟩
            rcases Nat.lt_or_ge j k with h | h
            · exact hno.out j h
            · obtain rfl : j = k := by omega
              exact hq
          case measure => simp [intOf]; omega
        · rw [cdec_false hq]
          go_wp2_with fail
          go_ret
          exact ⟨ret_bool (cdec_false fun h => hq (h.2 k (by rw [HL.out]; exact hlt))).symm, (hG.out.trans HF.out).trans hF2⟩
      · go_wp2_with fail
        go_ret
        exact ⟨ret_bool (cdec_true ⟨by rw [HL.out, HL'.out], fun i hi => hno.out i (by rw [HL.out] at hi; omega)⟩).symm, hG.out⟩
  · have t2 : ((n : Int) != (n' : Int)) = true := by simp; omega
    go_enter Try.func51, Try.ntmps51
    go_wp2_with fail
    go_ret
    exact ⟨ret_bool (cdec_false fun h => hnn (by rw [← HL.out, ← HL'.out]; exact h.1)).symm, Fr.refl _ _⟩
theorem bat_same (A A' : Option Addr) (n c n' c' : Nat) (L L' : List Cmd) (w : World) (h : cmdK.C w A n L) (h' : cmdK.C w A' n' L') (hn : n ≤ 9223372036854775807) (hn' : n' ≤ 9223372036854775807) (hL : ∀ x ∈ L, CmdOk x) (hL' : ∀ x ∈ L', CmdOk x) :
    Calls Try.prog 30 #[.slice A n c, .slice A' n' c'] w fun r w' => r = .returned (.bool (cdec (cmdsS L L'))) ∧ Fr (fun _ => False) w w' := by
  have HH := Lib.hid (cmds_equal A A' n c n' c' L L' w h h' hn hn' hL hL')
  clear h h' hL hL'
  go_enter Try.func30, Try.ntmps30
  go_wp2_with fail
  refine HH.out.mono ?_
  rintro r w2 ⟨rfl, hF2⟩
  go_wp2_with fail
  go_ret
  exact ⟨rfl, hF2⟩
end Go.Proofs.Ytckcdgmcoomngaa
