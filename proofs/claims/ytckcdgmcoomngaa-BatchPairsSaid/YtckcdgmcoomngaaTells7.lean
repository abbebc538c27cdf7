/- BatchTells' walk, its works given. -/
import Derived.Test.YtckcdgmcoomngaaBatY
import Derived.Test.YtckcdgmcoomngaaBatP
set_option linter.unusedVariables false
set_option linter.unusedSimpArgs false
namespace Go.Proofs.Ytckcdgmcoomngaa
open Go.RowKit
open Go.Proofs.YtckcdgmcoomngaaW.PrintWords

set_option maxRecDepth 100000 in
set_option maxHeartbeats 4000000 in
theorem lawTells7 (works : ∀ w, Calls Try.prog 16 #[] w fun r w' => r = .returned (.bool true) ∧ Fr (fun _ => False) w w')
    (A : Option Addr) (n c : Nat) (L : List Cmd) (key : ByteArray) (w : World) (hC : cmdK.C w A n L) (hL : ∀ x ∈ L, CmdGood x) :
    Calls Try.prog 5 #[.slice A n c, .string key] w fun r w' => r = .returned (.bool true) ∧ Fr (fun _ => False) w w' := by
  have hmx : n ≤ 9223372036854775807 := hC.2.1
  have HC := Lib.hid hC
  have HO := Lib.hid hL
  have HLn := Lib.hid (show L.length = n from hC.1)
  have HW := Lib.hid works
  clear hC hL works
  rcases Nat.lt_or_ge 100 n with hb | hb
  · have t1 : decide ((100 : Int) < (n : Int)) = true := decide_eq_true (by omega)
    go_enter Try.func5, Try.ntmps5
    go_wp2_with fail
    refine (HW.out _).mono ?_
    rintro e w1 ⟨rfl, hF1⟩
    go_wp2_with fail
    go_ret
    exact ⟨rfl, hF1⟩
  · have t1 : decide ((100 : Int) < (n : Int)) = false := decide_eq_false (by omega)
    have hn : n ≤ 100000 := by omega
    obtain ⟨z, hz⟩ : ∃ z, z = errBat L := ⟨_, rfl⟩
    have hzz : (z == z) = true := by simp
    go_enter Try.func5, Try.ntmps5
    go_wp2_with fail
    refine (bat_check A n c L w HC.out HO.out).mono ?_
    rintro r w1 ⟨rfl, hF1⟩
    rw [← hz]
    have F1 := Lib.hid hF1
    have HZ := Lib.hid hz
    clear hF1 hz
    go_wp2_with fail
    refine (ref_bat A n c L w1 (Kd.C_below HC.out (F1.out.below (fun _ _ h => h))) HO.out).mono ?_
    rintro r w2 ⟨rfl, hF2⟩
    rw [← HZ.out]
    have F2 := Lib.hid (F1.out.trans hF2)
    clear hF2
    go_wp2_with fail
    refine (bat_keys A n c L w2 (Kd.C_below HC.out (F2.out.below (fun _ _ h => h))) HO.out hn).mono ?_
    rintro r w3 ⟨v3, rfl, hR3, hF3⟩
    obtain ⟨A3, c3, rfl⟩ := Kd.R_slice hR3
    have C3 := Lib.hid (Kd.R_reads' hR3).2.2
    have F3 := Lib.hid (F2.out.trans hF3)
    clear hR3 hF3
    go_wp2_with fail
    refine (ref_keys7 A n c L w3 (Kd.C_below HC.out (F3.out.below (fun _ _ h => h))) hn).mono ?_
    rintro r w4 ⟨v4, rfl, hR4, hF4⟩
    obtain ⟨A4, c4, rfl⟩ := Kd.R_slice hR4
    have C4 := Lib.hid (Kd.R_reads' hR4).2.2
    have C34 := Lib.hid (Kd.C_below C3.out (hF4.below (fun _ _ h => h)))
    have F4 := Lib.hid (F3.out.trans hF4)
    clear hR4 hF4
    go_wp2_with fail
    refine (ref_sameTexts A3 A4 _ c3 _ c4 (keysR L) (keysR L) w4 C34.out C4.out C34.out.2.1 C4.out.2.1).mono ?_
    rintro r w5 ⟨rfl, hF5⟩
    rw [decide_eq_true rfl]
    have F5 := Lib.hid (F4.out.trans hF5)
    clear hF5
    go_wp2_with fail
    refine (bat_writes A n c L key w5 (Kd.C_below HC.out (F5.out.below (fun _ _ h => h))) HO.out hn).mono ?_
    rintro r w6 ⟨v6, rfl, hR6, hF6⟩
    obtain ⟨A6, c6, rfl⟩ := Kd.R_slice hR6
    have C6 := Lib.hid (Kd.R_reads' hR6).2.2
    have F6 := Lib.hid (F5.out.trans hF6)
    clear hR6 hF6
    go_wp2_with fail
    refine (ref_writes7 A n c L key w6 (Kd.C_below HC.out (F6.out.below (fun _ _ h => h))) HO.out hn).mono ?_
    rintro r w7 ⟨v7, rfl, hR7, hF7⟩
    obtain ⟨A7, c7, rfl⟩ := Kd.R_slice hR7
    have C7 := Lib.hid (Kd.R_reads' hR7).2.2
    have C67 := Lib.hid (Kd.C_below C6.out (hF7.below (fun _ _ h => h)))
    have F7 := Lib.hid (F6.out.trans hF7)
    clear hR7 hF7
    go_wp2_with fail
    refine (ref_sameInts A6 A7 _ c6 _ c7 (wrsB key L n) (wrsB key L n) w7 C67.out C7.out C67.out.2.1 C7.out.2.1).mono ?_
    rintro r w8 ⟨rfl, hF8⟩
    rw [decide_eq_true rfl]
    have F8 := Lib.hid (F7.out.trans hF8)
    clear hF8
    go_wp2_with fail
    obtain ⟨y, hy⟩ : ∃ y, y = cdec (∃ x ∈ L, x.2.1 = key) := ⟨_, rfl⟩
    have hyy : (y == y) = true := by cases y <;> rfl
    refine (bat_touches A n c L key w8 (Kd.C_below HC.out (F8.out.below (fun _ _ h => h)))).mono ?_
    rintro r w9 ⟨rfl, hF9⟩
    rw [← hy]
    have HY := Lib.hid hy
    have F9 := Lib.hid (F8.out.trans hF9)
    clear hF9 hy
    go_wp2_with fail
    refine (ref_keys7 A n c L w9 (Kd.C_below HC.out (F9.out.below (fun _ _ h => h))) hn).mono ?_
    rintro r w10 ⟨v10, rfl, hR10, hF10⟩
    obtain ⟨A10, c10, rfl⟩ := Kd.R_slice hR10
    have C10 := Lib.hid (Kd.R_reads' hR10).2.2
    have F10 := Lib.hid (F9.out.trans hF10)
    clear hR10 hF10
    go_wp2_with fail
    refine (ref_in7 A10 _ c10 (keysR L) key w10 C10.out C10.out.2.1).mono ?_
    rintro r w11 ⟨rfl, hF11⟩
    rw [show cdec (key ∈ keysR L) = y from by rw [HY.out, propext (keysR_mem L key)]]
    have F11 := Lib.hid (F10.out.trans hF11)
    clear hF11
    go_wp2_with fail
    refine (HW.out _).mono ?_
    rintro r w12 ⟨rfl, hF12⟩
    have F12 := Lib.hid (F11.out.trans hF12)
    clear hF12
    go_wp2_with fail
    go_ret
    exact ⟨rfl, F12.out⟩
end Go.Proofs.Ytckcdgmcoomngaa
