/- Batches: what is wrong with one, by the program and by the reference. -/
import Derived.Test.YtckcdgmcoomngaaCmdP
set_option linter.unusedVariables false
set_option linter.unusedSimpArgs false
namespace Go.Proofs.Ytckcdgmcoomngaa
open Go.RowKit
open Go.Proofs.YtckcdgmcoomngaaW.PrintWords

def CmdGood (a : Cmd) : Prop := a.2.1.size ≤ maxLen ∧ a.2.2 < 18446744073709551616
def batOk (L : List Cmd) : Prop := ∀ i, i < L.length → cmdOk (cmx L i)
noncomputable def errBat (L : List Cmd) : Int := if 8 < L.length then 5 else bif cdec (batOk L) then 0 else 12
theorem errBat_big {L : List Cmd} (h : 8 < L.length) : errBat L = 5 := if_pos h
theorem errBat_ok {L : List Cmd} (h : ¬ 8 < L.length) (h' : batOk L) : errBat L = 0 := by unfold errBat; rw [if_neg h, cdec_true h']; rfl
theorem errBat_no {L : List Cmd} (h : ¬ 8 < L.length) {i : Nat} (hi : i < L.length) (h' : ¬ cmdOk (cmx L i)) : errBat L = 12 := by unfold errBat; rw [if_neg h, cdec_false fun h => h' (h i hi)]; rfl
set_option maxRecDepth 100000 in
set_option maxHeartbeats 2000000 in
theorem bat_check (A : Option Addr) (n c : Nat) (L : List Cmd) (w : World) (h : cmdK.C w A n L) (hL : ∀ x ∈ L, CmdGood x) :
    Calls Try.prog 17 #[.slice A n c] w fun r w' => r = .returned (.int .i64 (errBat L)) ∧ Fr (fun _ => False) w w' := by
  have hmx : n ≤ 9223372036854775807 := h.2.1
  have HL := Lib.hid (show L.length = n from h.1)
  have HC := Lib.hid h
  have HO := Lib.hid hL
  clear h hL
  by_cases h8 : 8 < n
  · have t1 : decide ((8 : Int) < (n : Int)) = true := decide_eq_true (by omega)
    rw [errBat_big (by rw [HL.out]; exact h8)]
    clear h8
    go_enter Try.func17, Try.ntmps17
    go_wp2_with fail
    go_ret
    exact ⟨rfl, Fr.refl _ _⟩
  · have t1 : decide ((8 : Int) < (n : Int)) = false := decide_eq_false (by omega)
    go_enter Try.func17, Try.ntmps17
    go_wp2_with fail
    clear t1
    go_loopw [11] (fun i wr => ∃ k : Nat, k ≤ n ∧ i = .int .i64 k ∧ (∀ j, j < k → cmdOk (cmx L j)) ∧ Fr (fun _ => False) w wr) (fun i _ => n - (intOf i).toNat)
    case atStart => exact ⟨0, Nat.zero_le _, rfl, fun _ h => by omega, Fr.refl _ _⟩
    case round =>
      obtain ⟨k, hk, rfl, hno, hG⟩ := hrel
      replace hno := Lib.hid hno
      replace hG := Lib.hid hG
      rcases Nat.lt_or_ge k n with hlt | hge
      · obtain ⟨b, off, rfl, h0, h1, h2⟩ := cmds_at (Kd.C_below HC.out (hG.out.below (fun _ _ h => h))) hlt
        have q1 := Lib.hid (HO.out _ (cmx_mem (i := k) (by rw [HL.out]; exact hlt)))
        have HF := Lib.hid ((Fr.refl (fun _ => False) wr).alloc (.cells #[.int .i64 (cmx L k).1, .string (cmx L k).2.1, .float .f64 (cmx L k).2.2] 36))
        go_wp2_with fail
        refine (cmd_check (cmx L k).1 (cmx L k).2.1 (cmx L k).2.2 _ q1.out.1 q1.out.2).mono ?_
        rintro r w2 ⟨rfl, hF2⟩
        rw [show (((cmx L k).1, (cmx L k).2.1, (cmx L k).2.2) : Cmd) = cmx L k from rfl]
        clear h0 h1 h2
        by_cases hq : cmdOk (cmx L k)
        · rw [errCmd_ok hq]
          go_wp2_with fail
          go_roundw
          case rel =>
            refine ⟨k + 1, by omega, by go_num, fun j hj => ?_, (hG.out.trans HF.out).trans hF2⟩
            rcases Nat.lt_or_ge j k with h | h
            · exact hno.out j h
            · obtain rfl : j = k := by omega
              exact hq
          case measure => simp [intOf]; omega
        · rw [errCmd_no hq]
          have he := errBat_no (L := L) (by rw [HL.out]; exact h8) (i := k) (by rw [HL.out]; exact hlt) hq
          have HE := Lib.hid he
          clear he hq
          go_wp2_with fail
          go_ret
          refine ⟨?_, (hG.out.trans HF.out).trans hF2⟩
          rw [HE.out]
          rfl
      · have hall : batOk L := fun i hi => hno.out i (by rw [HL.out] at hi; omega)
        have he := errBat_ok (L := L) (by rw [HL.out]; exact h8) hall
        have HE := Lib.hid he
        obtain rfl : n = k := by omega
        have tnn : decide (n < n) = false := decide_eq_false (by omega)
        clear hall he
        go_wp2_with fail
        go_ret
        refine ⟨?_, hG.out⟩
        rw [HE.out]
        rfl
set_option maxRecDepth 100000 in
set_option maxHeartbeats 2000000 in
theorem ref_bat (A : Option Addr) (n c : Nat) (L : List Cmd) (w : World) (h : cmdK.C w A n L) (hL : ∀ x ∈ L, CmdGood x) :
    Calls Try.prog 18 #[.slice A n c] w fun r w' => r = .returned (.int .i64 (errBat L)) ∧ Fr (fun _ => False) w w' := by
  have hmx : n ≤ 9223372036854775807 := h.2.1
  have HL := Lib.hid (show L.length = n from h.1)
  have HC := Lib.hid h
  have HO := Lib.hid hL
  clear h hL
  by_cases h8 : 8 < n
  · have t1 : decide ((8 : Int) < (n : Int)) = true := decide_eq_true (by omega)
    rw [errBat_big (by rw [HL.out]; exact h8)]
    clear h8
    go_enter Try.func18, Try.ntmps18
    go_wp2_with fail
    go_ret
    exact ⟨rfl, Fr.refl _ _⟩
  · have t1 : decide ((8 : Int) < (n : Int)) = false := decide_eq_false (by omega)
    go_enter Try.func18, Try.ntmps18
    go_wp2_with fail
    clear t1
    go_loopw [3] (fun i wr => ∃ k : Nat, k ≤ n ∧ i = .int .i64 k ∧ (∀ j, j < k → cmdOk (cmx L j)) ∧ Fr (fun _ => False) w wr) (fun i _ => n - (intOf i).toNat)
    case atStart => exact ⟨0, Nat.zero_le _, rfl, fun _ h => by omega, Fr.refl _ _⟩
    case round =>
      obtain ⟨k, hk, rfl, hno, hG⟩ := hrel
      replace hno := Lib.hid hno
      replace hG := Lib.hid hG
      rcases Nat.lt_or_ge k n with hlt | hge
      · obtain ⟨b, off, rfl, h0, h1, h2⟩ := cmds_at (Kd.C_below HC.out (hG.out.below (fun _ _ h => h))) hlt
        have q1 := Lib.hid (HO.out _ (cmx_mem (i := k) (by rw [HL.out]; exact hlt)))
        go_wp2_with fail
        refine (ref_cmd_right (cmx L k).1 (cmx L k).2.1 (cmx L k).2.2 _ q1.out.1 q1.out.2).mono ?_
        rintro r w2 ⟨rfl, hF2⟩
        rw [show (((cmx L k).1, (cmx L k).2.1, (cmx L k).2.2) : Cmd) = cmx L k from rfl]
        clear h0 h1 h2
        by_cases hq : cmdOk (cmx L k)
        · rw [cdec_true hq]
          go_wp2_with fail
          go_roundw
          case rel =>
            refine ⟨k + 1, by omega, by go_num, fun j hj => ?_, hG.out.trans hF2⟩
            rcases Nat.lt_or_ge j k with h | h
            · exact hno.out j h
            · obtain rfl : j = k := by omega
              exact hq
          case measure => simp [intOf]; omega
        · rw [cdec_false hq]
          have he := errBat_no (L := L) (by rw [HL.out]; exact h8) (i := k) (by rw [HL.out]; exact hlt) hq
          have HE := Lib.hid he
          clear he hq
          go_wp2_with fail
          go_ret
          refine ⟨?_, hG.out.trans hF2⟩
          rw [HE.out]
          rfl
      · have hall : batOk L := fun i hi => hno.out i (by rw [HL.out] at hi; omega)
        have he := errBat_ok (L := L) (by rw [HL.out]; exact h8) hall
        have HE := Lib.hid he
        obtain rfl : n = k := by omega
        have tnn : decide (n < n) = false := decide_eq_false (by omega)
        clear hall he
        go_wp2_with fail
        go_ret
        refine ⟨?_, hG.out⟩
        rw [HE.out]
        rfl
end Go.Proofs.Ytckcdgmcoomngaa
