/- Texts of VaultApplies, merged (5 of 33): CmdP, BatC. -/
import Derived.Test.YtepfhcimmbkilaaGVaultApplies3
import Derived.Test.YtepfhcimmbkilaaGVaultApplies4
set_option linter.unusedVariables false
set_option linter.unusedSimpArgs false
/- Commands: which may be; by the program and by the reference. -/
namespace Go.Proofs.Ytepfhcimmbkilaa
open Go.RowKit
open Go.Proofs.YtepfhcimmbkilaaW.PrintWords

theorem key_nil (x : Nat) (hx : x < 18446744073709551616) : key x = key 0 ↔ x = 0 := by
  constructor
  · intro h
    have h0 : key 0 = 0 := by decide +kernel
    rw [h0] at h
    unfold key at h
    split at h
    · cases h
    · split at h
      · omega
      · rename_i h1 h2
        have hr : rung x = 0 := by omega
        rcases zero_cases hx (by unfold rank; rw [if_neg h2, hr]; rfl) with h3 | h3
        · exact h3
        · subst h3; exact absurd (by decide +kernel) h2
  · rintro rfl; rfl
theorem kind_nil (x : Nat) (hx : x < 18446744073709551616) : kindP x = 4 ↔ x = 0 := by
  constructor
  · intro h
    unfold kindP at h
    by_cases h1 : nanW x
    · rw [if_pos h1] at h; cases h
    · rw [if_neg h1] at h
      by_cases h2 : rank x < -9218868437227405311
      · rw [if_pos h2] at h; cases h
      · rw [if_neg h2] at h
        by_cases h3 : rank x < 0
        · rw [if_pos h3] at h; cases h
        · rw [if_neg h3] at h
          by_cases h4 : rank x = 0
          · rcases zero_cases hx h4 with h5 | h5
            · exact h5
            · subst h5; rw [if_pos h4, if_pos (by decide +kernel)] at h; cases h
          · rw [if_neg h4] at h
            split at h <;> cases h
  · rintro rfl; decide +kernel
def cmdOk (c : Cmd) : Prop := (c.1 = 1 ∨ c.1 = 2 ∨ c.1 = 3 ∨ c.1 = 4) ∧ keyOk c.2.1 ∧ (c.1 = 1 ∨ c.1 = 3 → c.2.2 = 0)
noncomputable def errCmd (c : Cmd) : Int := bif cdec (cmdOk c) then 0 else 12
theorem errCmd_ok {c : Cmd} (h : cmdOk c) : errCmd c = 0 := by unfold errCmd; rw [cdec_true h]; rfl
theorem errCmd_no {c : Cmd} (h : ¬ cmdOk c) : errCmd c = 12 := by unfold errCmd; rw [cdec_false h]; rfl
theorem cmd_plus (x : Nat) (hx : x < 18446744073709551616) (w : World) : Calls Try.prog 63 #[.float .f64 x] w fun r w' => r = .returned (.bool (decide (x = 0))) ∧ w = w' := by
  have e : decide (key x = key 0) = decide (x = 0) := decide_eq_decide.2 (key_nil x hx)
  have HE := Lib.hid e
  clear e
  go_enter Try.func63, Try.ntmps63
  go_wp2_with fail
  refine (real_same x 0 w hx (by omega)).mono ?_
  rintro r w1 ⟨rfl, rfl⟩
  rw [HE.out]
  go_wp2_with fail
  go_ret
  exact ⟨rfl, rfl⟩

theorem word1 (w : World) : Calls Try.prog 61 #[.int .i64 1] w fun r w' => r = .returned (.string ⟨#[103, 101, 116]⟩) ∧ Fr (fun _ => False) w w' := by
  go_enter Try.func61, Try.ntmps61
  go_wp2_with fail
  go_ret
  exact ⟨rfl, (Fr.refl _ _).alloc _⟩

theorem word2 (w : World) : Calls Try.prog 61 #[.int .i64 2] w fun r w' => r = .returned (.string ⟨#[112, 117, 116]⟩) ∧ Fr (fun _ => False) w w' := by
  go_enter Try.func61, Try.ntmps61
  go_wp2_with fail
  go_ret
  exact ⟨rfl, (Fr.refl _ _).alloc _⟩

theorem word3 (w : World) : Calls Try.prog 61 #[.int .i64 3] w fun r w' => r = .returned (.string ⟨#[100, 101, 108]⟩) ∧ Fr (fun _ => False) w w' := by
  go_enter Try.func61, Try.ntmps61
  go_wp2_with fail
  go_ret
  exact ⟨rfl, (Fr.refl _ _).alloc _⟩

theorem word4 (w : World) : Calls Try.prog 61 #[.int .i64 4] w fun r w' => r = .returned (.string ⟨#[97, 100, 100]⟩) ∧ Fr (fun _ => False) w w' := by
  go_enter Try.func61, Try.ntmps61
  go_wp2_with fail
  go_ret
  exact ⟨rfl, (Fr.refl _ _).alloc _⟩

theorem word_no (k : Int) (h : ¬ (k = 1 ∨ k = 2 ∨ k = 3 ∨ k = 4)) (w : World) : Calls Try.prog 61 #[.int .i64 k] w fun r w' => r = .returned (.string ⟨#[]⟩) ∧ Fr (fun _ => False) w w' := by
  by_cases h1 : k < 0
  · have t1 : decide (k < 0) = true := decide_eq_true h1
    clear h h1
    go_enter Try.func61, Try.ntmps61
    go_wp2_with fail
    go_ret
    exact ⟨rfl, (Fr.refl _ _).alloc _⟩
  · have t1 : decide (k < 0) = false := decide_eq_false h1
    by_cases h2 : 5 ≤ k
    · have t2 : decide (5 ≤ k) = true := decide_eq_true h2
      clear h h1 h2
      go_enter Try.func61, Try.ntmps61
      go_wp2_with fail
      go_ret
      exact ⟨rfl, (Fr.refl _ _).alloc _⟩
    · obtain rfl : k = 0 := by omega
      clear h h1 h2 t1
      go_enter Try.func61, Try.ntmps61
      go_wp2_with fail
      go_ret
      exact ⟨rfl, (Fr.refl _ _).alloc _⟩

set_option maxHeartbeats 4000000 in
theorem cmd_check (k : Int) (s : ByteArray) (x : Nat) (w : World) (hs : s.size ≤ maxLen) (hx : x < 18446744073709551616) :
    Calls Try.prog 44 #[.agg #[.int .i64 k, .string s, .float .f64 x]] w fun r w' => r = .returned (.int .i64 (errCmd (k, s, x))) ∧ Fr (fun _ => False) w w' := by
  have hF := (Fr.refl (fun _ => False) w).alloc (.cells #[.int .i64 k, .string s, .float .f64 x] 37)
  have hX := Blk.new w 37 #[.int .i64 k, .string s, .float .f64 x]
  by_cases hkind : k = 1 ∨ k = 2 ∨ k = 3 ∨ k = 4
  · by_cases hk : keyOk s
    · skip
      rcases hkind with rfl | rfl | rfl | rfl
      · by_cases hz : x = 0
        · rw [errCmd_ok (show cmdOk (1, s, x) from ⟨by simp, hk, fun _ => hz⟩)]
          have e := decide_eq_true hz
          have HE := Lib.hid e
          clear e hz
          go_enter Try.func44, Try.ntmps44
          go_wp2_with fail
          refine (word1 _).mono ?_
          rintro r w1 ⟨rfl, hF1⟩
          have x0 := (hX.fr hF1 (fun h => h)).cell 0
          have x1 := (hX.fr hF1 (fun h => h)).cell 1
          have x2 := (hX.fr hF1 (fun h => h)).cell 2
          simp only [List.getElem?_toArray, List.getElem?_cons_zero, List.getElem?_cons_succ] at x0 x1 x2
          go_wp2_with fail
          refine (cmd_key s _ hs).mono ?_
          rintro r w2 ⟨rfl, hF2⟩
          rw [cdec_true hk]
          have y0 := (hX.fr (hF1.trans hF2) (fun h => h)).cell 0
          have y2 := (hX.fr (hF1.trans hF2) (fun h => h)).cell 2
          simp only [List.getElem?_toArray, List.getElem?_cons_zero, List.getElem?_cons_succ] at y0 y2
          clear x0 x1 x2 hk
          go_wp2_with fail
          refine (cmd_plus x hx _).mono ?_
          rintro r w3 ⟨rfl, rfl⟩
          rw [HE.out]
          go_wp2_with fail
          go_ret
          exact ⟨rfl, (hF.trans hF1).trans hF2⟩
        · rw [errCmd_no (show ¬ cmdOk (1, s, x) from fun h => hz (h.2.2 (by simp)))]
          have e := decide_eq_false hz
          have HE := Lib.hid e
          clear e hz
          go_enter Try.func44, Try.ntmps44
          go_wp2_with fail
          refine (word1 _).mono ?_
          rintro r w1 ⟨rfl, hF1⟩
          have x0 := (hX.fr hF1 (fun h => h)).cell 0
          have x1 := (hX.fr hF1 (fun h => h)).cell 1
          have x2 := (hX.fr hF1 (fun h => h)).cell 2
          simp only [List.getElem?_toArray, List.getElem?_cons_zero, List.getElem?_cons_succ] at x0 x1 x2
          go_wp2_with fail
          refine (cmd_key s _ hs).mono ?_
          rintro r w2 ⟨rfl, hF2⟩
          rw [cdec_true hk]
          have y0 := (hX.fr (hF1.trans hF2) (fun h => h)).cell 0
          have y2 := (hX.fr (hF1.trans hF2) (fun h => h)).cell 2
          simp only [List.getElem?_toArray, List.getElem?_cons_zero, List.getElem?_cons_succ] at y0 y2
          clear x0 x1 x2 hk
          go_wp2_with fail
          refine (cmd_plus x hx _).mono ?_
          rintro r w3 ⟨rfl, rfl⟩
          rw [HE.out]
          go_wp2_with fail
          go_ret
          exact ⟨rfl, (hF.trans hF1).trans hF2⟩
      · rw [errCmd_ok (show cmdOk (2, s, x) from ⟨by simp, hk, fun h => by simp at h⟩)]
        go_enter Try.func44, Try.ntmps44
        go_wp2_with fail
        refine (word2 _).mono ?_
        rintro r w1 ⟨rfl, hF1⟩
        have x0 := (hX.fr hF1 (fun h => h)).cell 0
        have x1 := (hX.fr hF1 (fun h => h)).cell 1
        have x2 := (hX.fr hF1 (fun h => h)).cell 2
        simp only [List.getElem?_toArray, List.getElem?_cons_zero, List.getElem?_cons_succ] at x0 x1 x2
        go_wp2_with fail
        refine (cmd_key s _ hs).mono ?_
        rintro r w2 ⟨rfl, hF2⟩
        rw [cdec_true hk]
        have y0 := (hX.fr (hF1.trans hF2) (fun h => h)).cell 0
        have y2 := (hX.fr (hF1.trans hF2) (fun h => h)).cell 2
        simp only [List.getElem?_toArray, List.getElem?_cons_zero, List.getElem?_cons_succ] at y0 y2
        clear x0 x1 x2 hk
        go_wp2_with fail
        go_ret
        exact ⟨rfl, (hF.trans hF1).trans hF2⟩
      · by_cases hz : x = 0
        · rw [errCmd_ok (show cmdOk (3, s, x) from ⟨by simp, hk, fun _ => hz⟩)]
          have e := decide_eq_true hz
          have HE := Lib.hid e
          clear e hz
          go_enter Try.func44, Try.ntmps44
          go_wp2_with fail
          refine (word3 _).mono ?_
          rintro r w1 ⟨rfl, hF1⟩
          have x0 := (hX.fr hF1 (fun h => h)).cell 0
          have x1 := (hX.fr hF1 (fun h => h)).cell 1
          have x2 := (hX.fr hF1 (fun h => h)).cell 2
          simp only [List.getElem?_toArray, List.getElem?_cons_zero, List.getElem?_cons_succ] at x0 x1 x2
          go_wp2_with fail
          refine (cmd_key s _ hs).mono ?_
          rintro r w2 ⟨rfl, hF2⟩
          rw [cdec_true hk]
          have y0 := (hX.fr (hF1.trans hF2) (fun h => h)).cell 0
          have y2 := (hX.fr (hF1.trans hF2) (fun h => h)).cell 2
          simp only [List.getElem?_toArray, List.getElem?_cons_zero, List.getElem?_cons_succ] at y0 y2
          clear x0 x1 x2 hk
          go_wp2_with fail
          refine (cmd_plus x hx _).mono ?_
          rintro r w3 ⟨rfl, rfl⟩
          rw [HE.out]
          go_wp2_with fail
          go_ret
          exact ⟨rfl, (hF.trans hF1).trans hF2⟩
        · rw [errCmd_no (show ¬ cmdOk (3, s, x) from fun h => hz (h.2.2 (by simp)))]
          have e := decide_eq_false hz
          have HE := Lib.hid e
          clear e hz
          go_enter Try.func44, Try.ntmps44
          go_wp2_with fail
          refine (word3 _).mono ?_
          rintro r w1 ⟨rfl, hF1⟩
          have x0 := (hX.fr hF1 (fun h => h)).cell 0
          have x1 := (hX.fr hF1 (fun h => h)).cell 1
          have x2 := (hX.fr hF1 (fun h => h)).cell 2
          simp only [List.getElem?_toArray, List.getElem?_cons_zero, List.getElem?_cons_succ] at x0 x1 x2
          go_wp2_with fail
          refine (cmd_key s _ hs).mono ?_
          rintro r w2 ⟨rfl, hF2⟩
          rw [cdec_true hk]
          have y0 := (hX.fr (hF1.trans hF2) (fun h => h)).cell 0
          have y2 := (hX.fr (hF1.trans hF2) (fun h => h)).cell 2
          simp only [List.getElem?_toArray, List.getElem?_cons_zero, List.getElem?_cons_succ] at y0 y2
          clear x0 x1 x2 hk
          go_wp2_with fail
          refine (cmd_plus x hx _).mono ?_
          rintro r w3 ⟨rfl, rfl⟩
          rw [HE.out]
          go_wp2_with fail
          go_ret
          exact ⟨rfl, (hF.trans hF1).trans hF2⟩
      · rw [errCmd_ok (show cmdOk (4, s, x) from ⟨by simp, hk, fun h => by simp at h⟩)]
        go_enter Try.func44, Try.ntmps44
        go_wp2_with fail
        refine (word4 _).mono ?_
        rintro r w1 ⟨rfl, hF1⟩
        have x0 := (hX.fr hF1 (fun h => h)).cell 0
        have x1 := (hX.fr hF1 (fun h => h)).cell 1
        have x2 := (hX.fr hF1 (fun h => h)).cell 2
        simp only [List.getElem?_toArray, List.getElem?_cons_zero, List.getElem?_cons_succ] at x0 x1 x2
        go_wp2_with fail
        refine (cmd_key s _ hs).mono ?_
        rintro r w2 ⟨rfl, hF2⟩
        rw [cdec_true hk]
        have y0 := (hX.fr (hF1.trans hF2) (fun h => h)).cell 0
        have y2 := (hX.fr (hF1.trans hF2) (fun h => h)).cell 2
        simp only [List.getElem?_toArray, List.getElem?_cons_zero, List.getElem?_cons_succ] at y0 y2
        clear x0 x1 x2 hk
        go_wp2_with fail
        go_ret
        exact ⟨rfl, (hF.trans hF1).trans hF2⟩
    · skip
      rcases hkind with rfl | rfl | rfl | rfl
      · rw [errCmd_no (show ¬ cmdOk (1, s, x) from fun h => hk h.2.1)]
        go_enter Try.func44, Try.ntmps44
        go_wp2_with fail
        refine (word1 _).mono ?_
        rintro r w1 ⟨rfl, hF1⟩
        have x0 := (hX.fr hF1 (fun h => h)).cell 0
        have x1 := (hX.fr hF1 (fun h => h)).cell 1
        have x2 := (hX.fr hF1 (fun h => h)).cell 2
        simp only [List.getElem?_toArray, List.getElem?_cons_zero, List.getElem?_cons_succ] at x0 x1 x2
        go_wp2_with fail
        refine (cmd_key s _ hs).mono ?_
        rintro r w2 ⟨rfl, hF2⟩
        rw [cdec_false hk]
        have y0 := (hX.fr (hF1.trans hF2) (fun h => h)).cell 0
        have y2 := (hX.fr (hF1.trans hF2) (fun h => h)).cell 2
        simp only [List.getElem?_toArray, List.getElem?_cons_zero, List.getElem?_cons_succ] at y0 y2
        clear x0 x1 x2 hk
        go_wp2_with fail
        go_ret
        exact ⟨rfl, (hF.trans hF1).trans hF2⟩
      · rw [errCmd_no (show ¬ cmdOk (2, s, x) from fun h => hk h.2.1)]
        go_enter Try.func44, Try.ntmps44
        go_wp2_with fail
        refine (word2 _).mono ?_
        rintro r w1 ⟨rfl, hF1⟩
        have x0 := (hX.fr hF1 (fun h => h)).cell 0
        have x1 := (hX.fr hF1 (fun h => h)).cell 1
        have x2 := (hX.fr hF1 (fun h => h)).cell 2
        simp only [List.getElem?_toArray, List.getElem?_cons_zero, List.getElem?_cons_succ] at x0 x1 x2
        go_wp2_with fail
        refine (cmd_key s _ hs).mono ?_
        rintro r w2 ⟨rfl, hF2⟩
        rw [cdec_false hk]
        have y0 := (hX.fr (hF1.trans hF2) (fun h => h)).cell 0
        have y2 := (hX.fr (hF1.trans hF2) (fun h => h)).cell 2
        simp only [List.getElem?_toArray, List.getElem?_cons_zero, List.getElem?_cons_succ] at y0 y2
        clear x0 x1 x2 hk
        go_wp2_with fail
        go_ret
        exact ⟨rfl, (hF.trans hF1).trans hF2⟩
      · rw [errCmd_no (show ¬ cmdOk (3, s, x) from fun h => hk h.2.1)]
        go_enter Try.func44, Try.ntmps44
        go_wp2_with fail
        refine (word3 _).mono ?_
        rintro r w1 ⟨rfl, hF1⟩
        have x0 := (hX.fr hF1 (fun h => h)).cell 0
        have x1 := (hX.fr hF1 (fun h => h)).cell 1
        have x2 := (hX.fr hF1 (fun h => h)).cell 2
        simp only [List.getElem?_toArray, List.getElem?_cons_zero, List.getElem?_cons_succ] at x0 x1 x2
        go_wp2_with fail
        refine (cmd_key s _ hs).mono ?_
        rintro r w2 ⟨rfl, hF2⟩
        rw [cdec_false hk]
        have y0 := (hX.fr (hF1.trans hF2) (fun h => h)).cell 0
        have y2 := (hX.fr (hF1.trans hF2) (fun h => h)).cell 2
        simp only [List.getElem?_toArray, List.getElem?_cons_zero, List.getElem?_cons_succ] at y0 y2
        clear x0 x1 x2 hk
        go_wp2_with fail
        go_ret
        exact ⟨rfl, (hF.trans hF1).trans hF2⟩
      · rw [errCmd_no (show ¬ cmdOk (4, s, x) from fun h => hk h.2.1)]
        go_enter Try.func44, Try.ntmps44
        go_wp2_with fail
        refine (word4 _).mono ?_
        rintro r w1 ⟨rfl, hF1⟩
        have x0 := (hX.fr hF1 (fun h => h)).cell 0
        have x1 := (hX.fr hF1 (fun h => h)).cell 1
        have x2 := (hX.fr hF1 (fun h => h)).cell 2
        simp only [List.getElem?_toArray, List.getElem?_cons_zero, List.getElem?_cons_succ] at x0 x1 x2
        go_wp2_with fail
        refine (cmd_key s _ hs).mono ?_
        rintro r w2 ⟨rfl, hF2⟩
        rw [cdec_false hk]
        have y0 := (hX.fr (hF1.trans hF2) (fun h => h)).cell 0
        have y2 := (hX.fr (hF1.trans hF2) (fun h => h)).cell 2
        simp only [List.getElem?_toArray, List.getElem?_cons_zero, List.getElem?_cons_succ] at y0 y2
        clear x0 x1 x2 hk
        go_wp2_with fail
        go_ret
        exact ⟨rfl, (hF.trans hF1).trans hF2⟩
  · rw [errCmd_no (show ¬ cmdOk (k, s, x) from fun h => hkind h.1)]
    have HK := Lib.hid hkind
    clear hkind
    go_enter Try.func44, Try.ntmps44
    go_wp2_with fail
    refine (word_no k HK.out _).mono ?_
    rintro r w1 ⟨rfl, hF1⟩
    have x0 := (hX.fr hF1 (fun h => h)).cell 0
    have x1 := (hX.fr hF1 (fun h => h)).cell 1
    have x2 := (hX.fr hF1 (fun h => h)).cell 2
    simp only [List.getElem?_toArray, List.getElem?_cons_zero, List.getElem?_cons_succ] at x0 x1 x2
    go_wp2_with fail
    go_ret
    exact ⟨rfl, hF.trans hF1⟩
theorem i_eq0 (c : Cmd) : (errCmd c == 0) = cdec (cmdOk c) := by
  by_cases h : cmdOk c
  · rw [errCmd_ok h, cdec_true h]; rfl
  · rw [errCmd_no h, cdec_false h]; rfl
set_option maxHeartbeats 1000000 in
theorem cmd_writes (k : Int) (s : ByteArray) (x : Nat) (w : World) (hs : s.size ≤ maxLen) (hx : x < 18446744073709551616) :
    Calls Try.prog 23 #[.agg #[.int .i64 k, .string s, .float .f64 x]] w fun r w' => r = .returned (.bool (cdec (cmdOk (k, s, x) ∧ k ≠ 1))) ∧ Fr (fun _ => False) w w' := by
  have hF := (Fr.refl (fun _ => False) w).alloc (.cells #[.int .i64 k, .string s, .float .f64 x] 37)
  have hX := Blk.new w 37 #[.int .i64 k, .string s, .float .f64 x]
  by_cases h : cmdOk (k, s, x)
  · have e : cdec (cmdOk (k, s, x) ∧ k ≠ 1) = (k != 1) := by
      by_cases h1 : k = 1
      · subst h1; rw [cdec_false fun h => h.2 rfl]; rfl
      · rw [cdec_true ⟨h, h1⟩]; simp [h1]
    have e1 := i_eq0 (k, s, x)
    rw [cdec_true h] at e1
    rw [e]
    clear e h
    go_enter Try.func23, Try.ntmps23
    go_wp2_with fail
    refine (cmd_check k s x _ hs hx).mono ?_
    rintro r w1 ⟨rfl, hF1⟩
    have x0 := (hX.fr hF1 (fun h => h)).cell 0
    simp only [List.getElem?_toArray, List.getElem?_cons_zero, List.getElem?_cons_succ] at x0
    generalize errCmd (k, s, x) = z at *
    go_wp2_with fail
    go_ret
    exact ⟨rfl, hF.trans hF1⟩
  · have e1 := i_eq0 (k, s, x)
    rw [cdec_false h] at e1
    rw [cdec_false (show ¬ (cmdOk (k, s, x) ∧ k ≠ 1) from fun h' => h h'.1)]
    clear h
    go_enter Try.func23, Try.ntmps23
    go_wp2_with fail
    refine (cmd_check k s x _ hs hx).mono ?_
    rintro r w1 ⟨rfl, hF1⟩
    generalize errCmd (k, s, x) = z at *
    go_wp2_with fail
    go_ret
    exact ⟨rfl, hF.trans hF1⟩
set_option maxHeartbeats 4000000 in
theorem ref_cmd_right (k : Int) (s : ByteArray) (x : Nat) (w : World) (hs : s.size ≤ maxLen) (hx : x < 18446744073709551616) :
    Calls Try.prog 24 #[.agg #[.int .i64 k, .string s, .float .f64 x]] w fun r w' => r = .returned (.bool (cdec (cmdOk (k, s, x)))) ∧ Fr (fun _ => False) w w' := by
  have hF := (Fr.refl (fun _ => False) w).alloc (.cells #[.int .i64 k, .string s, .float .f64 x] 37)
  have hX := Blk.new w 37 #[.int .i64 k, .string s, .float .f64 x]
  by_cases hk : keyOk s
  · by_cases h1 : k = 1
    · subst h1
      by_cases hz : x = 0
      · rw [cdec_true (show cmdOk (1, s, x) from ⟨by simp, hk, fun _ => hz⟩)]
        have e : (kindP x == 4) = true := by rw [(kind_nil x hx).2 hz]; rfl
        clear hz
        go_enter Try.func24, Try.ntmps24
        go_wp2_with fail
        refine (ref_key s _ hs).mono ?_
        rintro r w1 ⟨rfl, rfl⟩
        rw [cdec_true hk]
        clear hk
        go_wp2_with fail
        refine (ref_kind x hx _).mono ?_
        rintro r w3 ⟨rfl, rfl⟩
        generalize kindP x = z at *
        go_wp2_with fail
        go_ret
        exact ⟨rfl, hF⟩
      · rw [cdec_false (show ¬ cmdOk (1, s, x) from fun h => hz (h.2.2 (by simp)))]
        have e : (kindP x == 4) = false := by simp only [beq_eq_false_iff_ne]; exact fun h => hz ((kind_nil x hx).1 h)
        clear hz
        go_enter Try.func24, Try.ntmps24
        go_wp2_with fail
        refine (ref_key s _ hs).mono ?_
        rintro r w1 ⟨rfl, rfl⟩
        rw [cdec_true hk]
        clear hk
        go_wp2_with fail
        refine (ref_kind x hx _).mono ?_
        rintro r w3 ⟨rfl, rfl⟩
        generalize kindP x = z at *
        go_wp2_with fail
        go_ret
        exact ⟨rfl, hF⟩
    · by_cases h2 : k = 2
      · subst h2
        rw [cdec_true (show cmdOk (2, s, x) from ⟨by simp, hk, fun h => by simp at h⟩)]
        go_enter Try.func24, Try.ntmps24
        go_wp2_with fail
        refine (ref_key s _ hs).mono ?_
        rintro r w1 ⟨rfl, rfl⟩
        rw [cdec_true hk]
        clear hk
        go_wp2_with fail
        go_ret
        exact ⟨rfl, hF⟩
      · by_cases h3 : k = 3
        · subst h3
          by_cases hz : x = 0
          · rw [cdec_true (show cmdOk (3, s, x) from ⟨by simp, hk, fun _ => hz⟩)]
            have e : (kindP x == 4) = true := by rw [(kind_nil x hx).2 hz]; rfl
            clear hz
            go_enter Try.func24, Try.ntmps24
            go_wp2_with fail
            refine (ref_key s _ hs).mono ?_
            rintro r w1 ⟨rfl, rfl⟩
            rw [cdec_true hk]
            clear hk
            go_wp2_with fail
            refine (ref_kind x hx _).mono ?_
            rintro r w3 ⟨rfl, rfl⟩
            generalize kindP x = z at *
            go_wp2_with fail
            go_ret
            exact ⟨rfl, hF⟩
          · rw [cdec_false (show ¬ cmdOk (3, s, x) from fun h => hz (h.2.2 (by simp)))]
            have e : (kindP x == 4) = false := by simp only [beq_eq_false_iff_ne]; exact fun h => hz ((kind_nil x hx).1 h)
            clear hz
            go_enter Try.func24, Try.ntmps24
            go_wp2_with fail
            refine (ref_key s _ hs).mono ?_
            rintro r w1 ⟨rfl, rfl⟩
            rw [cdec_true hk]
            clear hk
            go_wp2_with fail
            refine (ref_kind x hx _).mono ?_
            rintro r w3 ⟨rfl, rfl⟩
            generalize kindP x = z at *
            go_wp2_with fail
            go_ret
            exact ⟨rfl, hF⟩
        · by_cases h4 : k = 4
          · subst h4
            rw [cdec_true (show cmdOk (4, s, x) from ⟨by simp, hk, fun h => by simp at h⟩)]
            go_enter Try.func24, Try.ntmps24
            go_wp2_with fail
            refine (ref_key s _ hs).mono ?_
            rintro r w1 ⟨rfl, rfl⟩
            rw [cdec_true hk]
            clear hk
            go_wp2_with fail
            go_ret
            exact ⟨rfl, hF⟩
          · rw [cdec_false (show ¬ cmdOk (k, s, x) from fun h => by rcases h.1 with h | h | h | h <;> contradiction)]
            have e1 : (k == 1) = false := by simp [h1]
            have e2 : (k == 2) = false := by simp [h2]
            have e3 : (k == 3) = false := by simp [h3]
            have e4 : (k == 4) = false := by simp [h4]
            clear h1 h2 h3 h4
            go_enter Try.func24, Try.ntmps24
            go_wp2_with fail
            refine (ref_key s _ hs).mono ?_
            rintro r w1 ⟨rfl, rfl⟩
            rw [cdec_true hk]
            clear hk
            go_wp2_with fail
            go_ret
            exact ⟨rfl, hF⟩
  · rw [cdec_false (show ¬ cmdOk (k, s, x) from fun h => hk h.2.1)]
    go_enter Try.func24, Try.ntmps24
    go_wp2_with fail
    refine (ref_key s _ hs).mono ?_
    rintro r w1 ⟨rfl, rfl⟩
    rw [cdec_false hk]
    clear hk
    go_wp2_with fail
    go_ret
    exact ⟨rfl, hF⟩
end Go.Proofs.Ytepfhcimmbkilaa
/- Batches: what is wrong with one, by the program and by the reference. -/
namespace Go.Proofs.Ytepfhcimmbkilaa
open Go.RowKit
open Go.Proofs.YtepfhcimmbkilaaW.PrintWords

def CmdGood (a : Cmd) : Prop := a.2.1.size ≤ maxLen ∧ a.2.2 < 18446744073709551616
def batOk (L : List Cmd) : Prop := ∀ i, i < L.length → cmdOk (cmx L i)
noncomputable def errBat (L : List Cmd) : Int := if 8 < L.length then 5 else bif cdec (batOk L) then 0 else 12
theorem errBat_big {L : List Cmd} (h : 8 < L.length) : errBat L = 5 := if_pos h
theorem errBat_ok {L : List Cmd} (h : ¬ 8 < L.length) (h' : batOk L) : errBat L = 0 := by unfold errBat; rw [if_neg h, cdec_true h']; rfl
theorem errBat_no {L : List Cmd} (h : ¬ 8 < L.length) {i : Nat} (hi : i < L.length) (h' : ¬ cmdOk (cmx L i)) : errBat L = 12 := by unfold errBat; rw [if_neg h, cdec_false fun h => h' (h i hi)]; rfl
set_option maxRecDepth 100000 in
set_option maxHeartbeats 2000000 in
theorem bat_check (A : Option Addr) (n c : Nat) (L : List Cmd) (w : World) (h : cmdK.C w A n L) (hL : ∀ x ∈ L, CmdGood x) :
    Calls Try.prog 21 #[.slice A n c] w fun r w' => r = .returned (.int .i64 (errBat L)) ∧ Fr (fun _ => False) w w' := by
  have hmx : n ≤ 9223372036854775807 := h.2.1
  have HL := Lib.hid (show L.length = n from h.1)
  have HC := Lib.hid h
  have HO := Lib.hid hL
  clear h hL
  by_cases h8 : 8 < n
  · have t1 : decide ((8 : Int) < (n : Int)) = true := decide_eq_true (by omega)
    rw [errBat_big (by rw [HL.out]; exact h8)]
    clear h8
    go_enter Try.func21, Try.ntmps21
    go_wp2_with fail
    go_ret
    exact ⟨rfl, Fr.refl _ _⟩
  · have t1 : decide ((8 : Int) < (n : Int)) = false := decide_eq_false (by omega)
    go_enter Try.func21, Try.ntmps21
    go_wp2_with fail
    clear t1
    go_loopw [11] (fun i wr => ∃ k : Nat, k ≤ n ∧ i = .int .i64 k ∧ (∀ j, j < k → cmdOk (cmx L j)) ∧ Fr (fun _ => False) w wr) (fun i _ => n - (intOf i).toNat)
    case atStart => exact ⟨0, Nat.zero_le _, rfl, fun _ h => by omega, Fr.refl _ _⟩
    case round =>
      obtain ⟨k, hk, rfl, hno, hG⟩ := hrel
      replace hno := Lib.hid hno
      replace hG := Lib.hid hG
      rcases Nat.lt_or_ge k n with hlt | hge
      · obtain ⟨b, off, rfl, h0, h1, h2⟩ := cmds_at (Kd.C_below HC.out (hG.out.below (fun _ _ h => h))) hlt
        have q1 := Lib.hid (HO.out _ (cmx_mem (i := k) (by rw [HL.out]; exact hlt)))
        have HF := Lib.hid ((Fr.refl (fun _ => False) wr).alloc (.cells #[.int .i64 (cmx L k).1, .string (cmx L k).2.1, .float .f64 (cmx L k).2.2] 37))
        go_wp2_with fail
        refine (cmd_check (cmx L k).1 (cmx L k).2.1 (cmx L k).2.2 _ q1.out.1 q1.out.2).mono ?_
        rintro r w2 ⟨rfl, hF2⟩
        rw [show (((cmx L k).1, (cmx L k).2.1, (cmx L k).2.2) : Cmd) = cmx L k from rfl]
        clear h0 h1 h2
        by_cases hq : cmdOk (cmx L k)
        · rw [errCmd_ok hq]
          go_wp2_with fail
          go_roundw
          case rel =>
            refine ⟨k + 1, by omega, by go_num, fun j hj => ?_, (hG.out.trans HF.out).trans hF2⟩
            rcases Nat.lt_or_ge j k with h | h
            · exact hno.out j h
            · obtain rfl : j = k := by omega
              exact hq
          case measure => simp [intOf]; omega
        · rw [errCmd_no hq]
          have he := errBat_no (L := L) (by rw [HL.out]; exact h8) (i := k) (by rw [HL.out]; exact hlt) hq
          have HE := Lib.hid he
          clear he hq
          go_wp2_with fail
          go_ret
          refine ⟨?_, (hG.out.trans HF.out).trans hF2⟩
          rw [HE.out]
          rfl
      · have hall : batOk L := fun i hi => hno.out i (by rw [HL.out] at hi; omega)
        have he := errBat_ok (L := L) (by rw [HL.out]; exact h8) hall
        have HE := Lib.hid he
        obtain rfl : n = k := by omega
        have tnn : decide (n < n) = false := decide_eq_false (by omega)
        clear hall he
        go_wp2_with fail
        go_ret
        refine ⟨?_, hG.out⟩
        rw [HE.out]
        rfl
set_option maxRecDepth 100000 in
set_option maxHeartbeats 2000000 in
theorem ref_bat (A : Option Addr) (n c : Nat) (L : List Cmd) (w : World) (h : cmdK.C w A n L) (hL : ∀ x ∈ L, CmdGood x) :
    Calls Try.prog 9 #[.slice A n c] w fun r w' => r = .returned (.int .i64 (errBat L)) ∧ Fr (fun _ => False) w w' := by
  have hmx : n ≤ 9223372036854775807 := h.2.1
  have HL := Lib.hid (show L.length = n from h.1)
  have HC := Lib.hid h
  have HO := Lib.hid hL
  clear h hL
  by_cases h8 : 8 < n
  · have t1 : decide ((8 : Int) < (n : Int)) = true := decide_eq_true (by omega)
    rw [errBat_big (by rw [HL.out]; exact h8)]
    clear h8
    go_enter Try.func9, Try.ntmps9
    go_wp2_with fail
    go_ret
    exact ⟨rfl, Fr.refl _ _⟩
  · have t1 : decide ((8 : Int) < (n : Int)) = false := decide_eq_false (by omega)
    go_enter Try.func9, Try.ntmps9
    go_wp2_with fail
    clear t1
    go_loopw [3] (fun i wr => ∃ k : Nat, k ≤ n ∧ i = .int .i64 k ∧ (∀ j, j < k → cmdOk (cmx L j)) ∧ Fr (fun _ => False) w wr) (fun i _ => n - (intOf i).toNat)
    case atStart => exact ⟨0, Nat.zero_le _, rfl, fun _ h => by omega, Fr.refl _ _⟩
    case round =>
      obtain ⟨k, hk, rfl, hno, hG⟩ := hrel
      replace hno := Lib.hid hno
      replace hG := Lib.hid hG
      rcases Nat.lt_or_ge k n with hlt | hge
      · obtain ⟨b, off, rfl, h0, h1, h2⟩ := cmds_at (Kd.C_below HC.out (hG.out.below (fun _ _ h => h))) hlt
        have q1 := Lib.hid (HO.out _ (cmx_mem (i := k) (by rw [HL.out]; exact hlt)))
        go_wp2_with fail
        refine (ref_cmd_right (cmx L k).1 (cmx L k).2.1 (cmx L k).2.2 _ q1.out.1 q1.out.2).mono ?_
        rintro r w2 ⟨rfl, hF2⟩
        rw [show (((cmx L k).1, (cmx L k).2.1, (cmx L k).2.2) : Cmd) = cmx L k from rfl]
        clear h0 h1 h2
        by_cases hq : cmdOk (cmx L k)
        · rw [cdec_true hq]
          go_wp2_with fail
          go_roundw
          case rel =>
            refine ⟨k + 1, by omega, by go_num, fun j hj => ?_, hG.out.trans hF2⟩
            rcases Nat.lt_or_ge j k with h | h
            · exact hno.out j h
            · obtain rfl : j = k := by omega
              exact hq
          case measure => simp [intOf]; omega
        · rw [cdec_false hq]
          have he := errBat_no (L := L) (by rw [HL.out]; exact h8) (i := k) (by rw [HL.out]; exact hlt) hq
          have HE := Lib.hid he
          clear he hq
          go_wp2_with fail
          go_ret
          refine ⟨?_, hG.out.trans hF2⟩
          rw [HE.out]
          rfl
      · have hall : batOk L := fun i hi => hno.out i (by rw [HL.out] at hi; omega)
        have he := errBat_ok (L := L) (by rw [HL.out]; exact h8) hall
        have HE := Lib.hid he
        obtain rfl : n = k := by omega
        have tnn : decide (n < n) = false := decide_eq_false (by omega)
        clear hall he
        go_wp2_with fail
        go_ret
        refine ⟨?_, hG.out⟩
        rw [HE.out]
        rfl
end Go.Proofs.Ytepfhcimmbkilaa
