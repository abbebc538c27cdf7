/- Texts of VaultSwaps, merged (2 of 8): CmdP, BatC, FltA, Cell, CellR. -/
import Derived.Test.YtepfhcimmbkilaaGVaultSwaps1
import Derived.Laws.NewFold
set_option linter.unusedVariables false
set_option linter.unusedSimpArgs false
/- Commands: which may be; by the program and by the reference. -/
namespace Go.Proofs.Ytepfhcimmbkilaa
open Go.RowKit
open Go.Proofs.YtepfhcimmbkilaaW.PrintWords

theorem key_nil (x : Nat) (hx : x < 18446744073709551616) : key x = key 0 ↔ x = 0 := by
  constructor
  · intro h
    have h0 : key 0 = 0 := by decide +kernel
    rw [h0] at h
    unfold key at h
    split at h
    · cases h
    · split at h
      · omega
      · rename_i h1 h2
        have hr : rung x = 0 := by omega
        rcases zero_cases hx (by unfold rank; rw [if_neg h2, hr]; rfl) with h3 | h3
        · exact h3
        · subst h3; exact absurd (by decide +kernel) h2
  · rintro rfl; rfl
theorem kind_nil (x : Nat) (hx : x < 18446744073709551616) : kindP x = 4 ↔ x = 0 := by
  constructor
  · intro h
    unfold kindP at h
    by_cases h1 : nanW x
    · rw [if_pos h1] at h; cases h
    · rw [if_neg h1] at h
      by_cases h2 : rank x < -9218868437227405311
      · rw [if_pos h2] at h; cases h
      · rw [if_neg h2] at h
        by_cases h3 : rank x < 0
        · rw [if_pos h3] at h; cases h
        · rw [if_neg h3] at h
          by_cases h4 : rank x = 0
          · rcases zero_cases hx h4 with h5 | h5
            · exact h5
            · subst h5; rw [if_pos h4, if_pos (by decide +kernel)] at h; cases h
          · rw [if_neg h4] at h
            split at h <;> cases h
  · rintro rfl; decide +kernel
def cmdOk (c : Cmd) : Prop := (c.1 = 1 ∨ c.1 = 2 ∨ c.1 = 3 ∨ c.1 = 4) ∧ keyOk c.2.1 ∧ (c.1 = 1 ∨ c.1 = 3 → c.2.2 = 0)
noncomputable def errCmd (c : Cmd) : Int := bif cdec (cmdOk c) then 0 else 12
theorem errCmd_ok {c : Cmd} (h : cmdOk c) : errCmd c = 0 := by unfold errCmd; rw [cdec_true h]; rfl
theorem errCmd_no {c : Cmd} (h : ¬ cmdOk c) : errCmd c = 12 := by unfold errCmd; rw [cdec_false h]; rfl
theorem cmd_plus (x : Nat) (hx : x < 18446744073709551616) (w : World) : Calls Try.prog 63 #[.float .f64 x] w fun r w' => r = .returned (.bool (decide (x = 0))) ∧ w = w' := by
  have e : decide (key x = key 0) = decide (x = 0) := decide_eq_decide.2 (key_nil x hx)
  have HE := Lib.hid e
  clear e
  go_enter Try.func63, Try.ntmps63
  go_wp2_with fail
  refine (real_same x 0 w hx (by omega)).mono ?_
  rintro r w1 ⟨rfl, rfl⟩
  rw [HE.out]
  go_wp2_with fail
  go_ret
  exact ⟨rfl, rfl⟩

theorem word1 (w : World) : Calls Try.prog 61 #[.int .i64 1] w fun r w' => r = .returned (.string ⟨#[103, 101, 116]⟩) ∧ Fr (fun _ => False) w w' := by
  go_enter Try.func61, Try.ntmps61
  go_wp2_with fail
  go_ret
  exact ⟨rfl, (Fr.refl _ _).alloc _⟩

theorem word2 (w : World) : Calls Try.prog 61 #[.int .i64 2] w fun r w' => r = .returned (.string ⟨#[112, 117, 116]⟩) ∧ Fr (fun _ => False) w w' := by
  go_enter Try.func61, Try.ntmps61
  go_wp2_with fail
  go_ret
  exact ⟨rfl, (Fr.refl _ _).alloc _⟩

theorem word3 (w : World) : Calls Try.prog 61 #[.int .i64 3] w fun r w' => r = .returned (.string ⟨#[100, 101, 108]⟩) ∧ Fr (fun _ => False) w w' := by
  go_enter Try.func61, Try.ntmps61
  go_wp2_with fail
  go_ret
  exact ⟨rfl, (Fr.refl _ _).alloc _⟩

theorem word4 (w : World) : Calls Try.prog 61 #[.int .i64 4] w fun r w' => r = .returned (.string ⟨#[97, 100, 100]⟩) ∧ Fr (fun _ => False) w w' := by
  go_enter Try.func61, Try.ntmps61
  go_wp2_with fail
  go_ret
  exact ⟨rfl, (Fr.refl _ _).alloc _⟩

theorem word_no (k : Int) (h : ¬ (k = 1 ∨ k = 2 ∨ k = 3 ∨ k = 4)) (w : World) : Calls Try.prog 61 #[.int .i64 k] w fun r w' => r = .returned (.string ⟨#[]⟩) ∧ Fr (fun _ => False) w w' := by
  by_cases h1 : k < 0
  · have t1 : decide (k < 0) = true := decide_eq_true h1
    clear h h1
    go_enter Try.func61, Try.ntmps61
    go_wp2_with fail
    go_ret
    exact ⟨rfl, (Fr.refl _ _).alloc _⟩
  · have t1 : decide (k < 0) = false := decide_eq_false h1
    by_cases h2 : 5 ≤ k
    · have t2 : decide (5 ≤ k) = true := decide_eq_true h2
      clear h h1 h2
      go_enter Try.func61, Try.ntmps61
      go_wp2_with fail
      go_ret
      exact ⟨rfl, (Fr.refl _ _).alloc _⟩
    · obtain rfl : k = 0 := by omega
      clear h h1 h2 t1
      go_enter Try.func61, Try.ntmps61
      go_wp2_with fail
      go_ret
      exact ⟨rfl, (Fr.refl _ _).alloc _⟩

set_option maxHeartbeats 4000000 in
theorem cmd_check (k : Int) (s : ByteArray) (x : Nat) (w : World) (hs : s.size ≤ maxLen) (hx : x < 18446744073709551616) :
    Calls Try.prog 44 #[.agg #[.int .i64 k, .string s, .float .f64 x]] w fun r w' => r = .returned (.int .i64 (errCmd (k, s, x))) ∧ Fr (fun _ => False) w w' := by
  have hF := (Fr.refl (fun _ => False) w).alloc (.cells #[.int .i64 k, .string s, .float .f64 x] 37)
  have hX := Blk.new w 37 #[.int .i64 k, .string s, .float .f64 x]
  by_cases hkind : k = 1 ∨ k = 2 ∨ k = 3 ∨ k = 4
  · by_cases hk : keyOk s
    · skip
      rcases hkind with rfl | rfl | rfl | rfl
      · by_cases hz : x = 0
        · rw [errCmd_ok (show cmdOk (1, s, x) from ⟨by simp, hk, fun _ => hz⟩)]
          have e := decide_eq_true hz
          have HE := Lib.hid e
          clear e hz
          go_enter Try.func44, Try.ntmps44
          go_wp2_with fail
          refine (word1 _).mono ?_
          rintro r w1 ⟨rfl, hF1⟩
          have x0 := (hX.fr hF1 (fun h => h)).cell 0
          have x1 := (hX.fr hF1 (fun h => h)).cell 1
          have x2 := (hX.fr hF1 (fun h => h)).cell 2
          simp only [List.getElem?_toArray, List.getElem?_cons_zero, List.getElem?_cons_succ] at x0 x1 x2
          go_wp2_with fail
          refine (cmd_key s _ hs).mono ?_
          rintro r w2 ⟨rfl, hF2⟩
          rw [cdec_true hk]
          have y0 := (hX.fr (hF1.trans hF2) (fun h => h)).cell 0
          have y2 := (hX.fr (hF1.trans hF2) (fun h => h)).cell 2
          simp only [List.getElem?_toArray, List.getElem?_cons_zero, List.getElem?_cons_succ] at y0 y2
          clear x0 x1 x2 hk
          go_wp2_with fail
          refine (cmd_plus x hx _).mono ?_
          rintro r w3 ⟨rfl, rfl⟩
          rw [HE.out]
          go_wp2_with fail
          go_ret
          exact ⟨rfl, (hF.trans hF1).trans hF2⟩
        · rw [errCmd_no (show ¬ cmdOk (1, s, x) from fun h => hz (h.2.2 (by simp)))]
          have e := decide_eq_false hz
          have HE := Lib.hid e
          clear e hz
          go_enter Try.func44, Try.ntmps44
          go_wp2_with fail
          refine (word1 _).mono ?_
          rintro r w1 ⟨rfl, hF1⟩
          have x0 := (hX.fr hF1 (fun h => h)).cell 0
          have x1 := (hX.fr hF1 (fun h => h)).cell 1
          have x2 := (hX.fr hF1 (fun h => h)).cell 2
          simp only [List.getElem?_toArray, List.getElem?_cons_zero, List.getElem?_cons_succ] at x0 x1 x2
          go_wp2_with fail
          refine (cmd_key s _ hs).mono ?_
          rintro r w2 ⟨rfl, hF2⟩
          rw [cdec_true hk]
          have y0 := (hX.fr (hF1.trans hF2) (fun h => h)).cell 0
          have y2 := (hX.fr (hF1.trans hF2) (fun h => h)).cell 2
          simp only [List.getElem?_toArray, List.getElem?_cons_zero, List.getElem?_cons_succ] at y0 y2
          clear x0 x1 x2 hk
          go_wp2_with fail
          refine (cmd_plus x hx _).mono ?_
          rintro r w3 ⟨rfl, rfl⟩
          rw [HE.out]
          go_wp2_with fail
          go_ret
          exact ⟨rfl, (hF.trans hF1).trans hF2⟩
      · rw [errCmd_ok (show cmdOk (2, s, x) from ⟨by simp, hk, fun h => by simp at h⟩)]
        go_enter Try.func44, Try.ntmps44
        go_wp2_with fail
        refine (word2 _).mono ?_
        rintro r w1 ⟨rfl, hF1⟩
        have x0 := (hX.fr hF1 (fun h => h)).cell 0
        have x1 := (hX.fr hF1 (fun h => h)).cell 1
        have x2 := (hX.fr hF1 (fun h => h)).cell 2
        simp only [List.getElem?_toArray, List.getElem?_cons_zero, List.getElem?_cons_succ] at x0 x1 x2
        go_wp2_with fail
        refine (cmd_key s _ hs).mono ?_
        rintro r w2 ⟨rfl, hF2⟩
        rw [cdec_true hk]
        have y0 := (hX.fr (hF1.trans hF2) (fun h => h)).cell 0
        have y2 := (hX.fr (hF1.trans hF2) (fun h => h)).cell 2
        simp only [List.getElem?_toArray, List.getElem?_cons_zero, List.getElem?_cons_succ] at y0 y2
        clear x0 x1 x2 hk
        go_wp2_with fail
        go_ret
        exact ⟨rfl, (hF.trans hF1).trans hF2⟩
      · by_cases hz : x = 0
        · rw [errCmd_ok (show cmdOk (3, s, x) from ⟨by simp, hk, fun _ => hz⟩)]
          have e := decide_eq_true hz
          have HE := Lib.hid e
          clear e hz
          go_enter Try.func44, Try.ntmps44
          go_wp2_with fail
          refine (word3 _).mono ?_
          rintro r w1 ⟨rfl, hF1⟩
          have x0 := (hX.fr hF1 (fun h => h)).cell 0
          have x1 := (hX.fr hF1 (fun h => h)).cell 1
          have x2 := (hX.fr hF1 (fun h => h)).cell 2
          simp only [List.getElem?_toArray, List.getElem?_cons_zero, List.getElem?_cons_succ] at x0 x1 x2
          go_wp2_with fail
          refine (cmd_key s _ hs).mono ?_
          rintro r w2 ⟨rfl, hF2⟩
          rw [cdec_true hk]
          have y0 := (hX.fr (hF1.trans hF2) (fun h => h)).cell 0
          have y2 := (hX.fr (hF1.trans hF2) (fun h => h)).cell 2
          simp only [List.getElem?_toArray, List.getElem?_cons_zero, List.getElem?_cons_succ] at y0 y2
          clear x0 x1 x2 hk
          go_wp2_with fail
          refine (cmd_plus x hx _).mono ?_
          rintro r w3 ⟨rfl, rfl⟩
          rw [HE.out]
          go_wp2_with fail
          go_ret
          exact ⟨rfl, (hF.trans hF1).trans hF2⟩
        · rw [errCmd_no (show ¬ cmdOk (3, s, x) from fun h => hz (h.2.2 (by simp)))]
          have e := decide_eq_false hz
          have HE := Lib.hid e
          clear e hz
          go_enter Try.func44, Try.ntmps44
          go_wp2_with fail
          refine (word3 _).mono ?_
          rintro r w1 ⟨rfl, hF1⟩
          have x0 := (hX.fr hF1 (fun h => h)).cell 0
          have x1 := (hX.fr hF1 (fun h => h)).cell 1
          have x2 := (hX.fr hF1 (fun h => h)).cell 2
          simp only [List.getElem?_toArray, List.getElem?_cons_zero, List.getElem?_cons_succ] at x0 x1 x2
          go_wp2_with fail
          refine (cmd_key s _ hs).mono ?_
          rintro r w2 ⟨rfl, hF2⟩
          rw [cdec_true hk]
          have y0 := (hX.fr (hF1.trans hF2) (fun h => h)).cell 0
          have y2 := (hX.fr (hF1.trans hF2) (fun h => h)).cell 2
          simp only [List.getElem?_toArray, List.getElem?_cons_zero, List.getElem?_cons_succ] at y0 y2
          clear x0 x1 x2 hk
          go_wp2_with fail
          refine (cmd_plus x hx _).mono ?_
          rintro r w3 ⟨rfl, rfl⟩
          rw [HE.out]
          go_wp2_with fail
          go_ret
          exact ⟨rfl, (hF.trans hF1).trans hF2⟩
      · rw [errCmd_ok (show cmdOk (4, s, x) from ⟨by simp, hk, fun h => by simp at h⟩)]
        go_enter Try.func44, Try.ntmps44
        go_wp2_with fail
        refine (word4 _).mono ?_
        rintro r w1 ⟨rfl, hF1⟩
        have x0 := (hX.fr hF1 (fun h => h)).cell 0
        have x1 := (hX.fr hF1 (fun h => h)).cell 1
        have x2 := (hX.fr hF1 (fun h => h)).cell 2
        simp only [List.getElem?_toArray, List.getElem?_cons_zero, List.getElem?_cons_succ] at x0 x1 x2
        go_wp2_with fail
        refine (cmd_key s _ hs).mono ?_
        rintro r w2 ⟨rfl, hF2⟩
        rw [cdec_true hk]
        have y0 := (hX.fr (hF1.trans hF2) (fun h => h)).cell 0
        have y2 := (hX.fr (hF1.trans hF2) (fun h => h)).cell 2
        simp only [List.getElem?_toArray, List.getElem?_cons_zero, List.getElem?_cons_succ] at y0 y2
        clear x0 x1 x2 hk
        go_wp2_with fail
        go_ret
        exact ⟨rfl, (hF.trans hF1).trans hF2⟩
    · skip
      rcases hkind with rfl | rfl | rfl | rfl
      · rw [errCmd_no (show ¬ cmdOk (1, s, x) from fun h => hk h.2.1)]
        go_enter Try.func44, Try.ntmps44
        go_wp2_with fail
        refine (word1 _).mono ?_
        rintro r w1 ⟨rfl, hF1⟩
        have x0 := (hX.fr hF1 (fun h => h)).cell 0
        have x1 := (hX.fr hF1 (fun h => h)).cell 1
        have x2 := (hX.fr hF1 (fun h => h)).cell 2
        simp only [List.getElem?_toArray, List.getElem?_cons_zero, List.getElem?_cons_succ] at x0 x1 x2
        go_wp2_with fail
        refine (cmd_key s _ hs).mono ?_
        rintro r w2 ⟨rfl, hF2⟩
        rw [cdec_false hk]
        have y0 := (hX.fr (hF1.trans hF2) (fun h => h)).cell 0
        have y2 := (hX.fr (hF1.trans hF2) (fun h => h)).cell 2
        simp only [List.getElem?_toArray, List.getElem?_cons_zero, List.getElem?_cons_succ] at y0 y2
        clear x0 x1 x2 hk
        go_wp2_with fail
        go_ret
        exact ⟨rfl, (hF.trans hF1).trans hF2⟩
      · rw [errCmd_no (show ¬ cmdOk (2, s, x) from fun h => hk h.2.1)]
        go_enter Try.func44, Try.ntmps44
        go_wp2_with fail
        refine (word2 _).mono ?_
        rintro r w1 ⟨rfl, hF1⟩
        have x0 := (hX.fr hF1 (fun h => h)).cell 0
        have x1 := (hX.fr hF1 (fun h => h)).cell 1
        have x2 := (hX.fr hF1 (fun h => h)).cell 2
        simp only [List.getElem?_toArray, List.getElem?_cons_zero, List.getElem?_cons_succ] at x0 x1 x2
        go_wp2_with fail
        refine (cmd_key s _ hs).mono ?_
        rintro r w2 ⟨rfl, hF2⟩
        rw [cdec_false hk]
        have y0 := (hX.fr (hF1.trans hF2) (fun h => h)).cell 0
        have y2 := (hX.fr (hF1.trans hF2) (fun h => h)).cell 2
        simp only [List.getElem?_toArray, List.getElem?_cons_zero, List.getElem?_cons_succ] at y0 y2
        clear x0 x1 x2 hk
        go_wp2_with fail
        go_ret
        exact ⟨rfl, (hF.trans hF1).trans hF2⟩
      · rw [errCmd_no (show ¬ cmdOk (3, s, x) from fun h => hk h.2.1)]
        go_enter Try.func44, Try.ntmps44
        go_wp2_with fail
        refine (word3 _).mono ?_
        rintro r w1 ⟨rfl, hF1⟩
        have x0 := (hX.fr hF1 (fun h => h)).cell 0
        have x1 := (hX.fr hF1 (fun h => h)).cell 1
        have x2 := (hX.fr hF1 (fun h => h)).cell 2
        simp only [List.getElem?_toArray, List.getElem?_cons_zero, List.getElem?_cons_succ] at x0 x1 x2
        go_wp2_with fail
        refine (cmd_key s _ hs).mono ?_
        rintro r w2 ⟨rfl, hF2⟩
        rw [cdec_false hk]
        have y0 := (hX.fr (hF1.trans hF2) (fun h => h)).cell 0
        have y2 := (hX.fr (hF1.trans hF2) (fun h => h)).cell 2
        simp only [List.getElem?_toArray, List.getElem?_cons_zero, List.getElem?_cons_succ] at y0 y2
        clear x0 x1 x2 hk
        go_wp2_with fail
        go_ret
        exact ⟨rfl, (hF.trans hF1).trans hF2⟩
      · rw [errCmd_no (show ¬ cmdOk (4, s, x) from fun h => hk h.2.1)]
        go_enter Try.func44, Try.ntmps44
        go_wp2_with fail
        refine (word4 _).mono ?_
        rintro r w1 ⟨rfl, hF1⟩
        have x0 := (hX.fr hF1 (fun h => h)).cell 0
        have x1 := (hX.fr hF1 (fun h => h)).cell 1
        have x2 := (hX.fr hF1 (fun h => h)).cell 2
        simp only [List.getElem?_toArray, List.getElem?_cons_zero, List.getElem?_cons_succ] at x0 x1 x2
        go_wp2_with fail
        refine (cmd_key s _ hs).mono ?_
        rintro r w2 ⟨rfl, hF2⟩
        rw [cdec_false hk]
        have y0 := (hX.fr (hF1.trans hF2) (fun h => h)).cell 0
        have y2 := (hX.fr (hF1.trans hF2) (fun h => h)).cell 2
        simp only [List.getElem?_toArray, List.getElem?_cons_zero, List.getElem?_cons_succ] at y0 y2
        clear x0 x1 x2 hk
        go_wp2_with fail
        go_ret
        exact ⟨rfl, (hF.trans hF1).trans hF2⟩
  · rw [errCmd_no (show ¬ cmdOk (k, s, x) from fun h => hkind h.1)]
    have HK := Lib.hid hkind
    clear hkind
    go_enter Try.func44, Try.ntmps44
    go_wp2_with fail
    refine (word_no k HK.out _).mono ?_
    rintro r w1 ⟨rfl, hF1⟩
    have x0 := (hX.fr hF1 (fun h => h)).cell 0
    have x1 := (hX.fr hF1 (fun h => h)).cell 1
    have x2 := (hX.fr hF1 (fun h => h)).cell 2
    simp only [List.getElem?_toArray, List.getElem?_cons_zero, List.getElem?_cons_succ] at x0 x1 x2
    go_wp2_with fail
    go_ret
    exact ⟨rfl, hF.trans hF1⟩
theorem i_eq0 (c : Cmd) : (errCmd c == 0) = cdec (cmdOk c) := by
  by_cases h : cmdOk c
  · rw [errCmd_ok h, cdec_true h]; rfl
  · rw [errCmd_no h, cdec_false h]; rfl
set_option maxHeartbeats 1000000 in
theorem cmd_writes (k : Int) (s : ByteArray) (x : Nat) (w : World) (hs : s.size ≤ maxLen) (hx : x < 18446744073709551616) :
    Calls Try.prog 23 #[.agg #[.int .i64 k, .string s, .float .f64 x]] w fun r w' => r = .returned (.bool (cdec (cmdOk (k, s, x) ∧ k ≠ 1))) ∧ Fr (fun _ => False) w w' := by
  have hF := (Fr.refl (fun _ => False) w).alloc (.cells #[.int .i64 k, .string s, .float .f64 x] 37)
  have hX := Blk.new w 37 #[.int .i64 k, .string s, .float .f64 x]
  by_cases h : cmdOk (k, s, x)
  · have e : cdec (cmdOk (k, s, x) ∧ k ≠ 1) = (k != 1) := by
      by_cases h1 : k = 1
      · subst h1; rw [cdec_false fun h => h.2 rfl]; rfl
      · rw [cdec_true ⟨h, h1⟩]; simp [h1]
    have e1 := i_eq0 (k, s, x)
    rw [cdec_true h] at e1
    rw [e]
    clear e h
    go_enter Try.func23, Try.ntmps23
    go_wp2_with fail
    refine (cmd_check k s x _ hs hx).mono ?_
    rintro r w1 ⟨rfl, hF1⟩
    have x0 := (hX.fr hF1 (fun h => h)).cell 0
    simp only [List.getElem?_toArray, List.getElem?_cons_zero, List.getElem?_cons_succ] at x0
    generalize errCmd (k, s, x) = z at *
    go_wp2_with fail
    go_ret
    exact ⟨rfl, hF.trans hF1⟩
  · have e1 := i_eq0 (k, s, x)
    rw [cdec_false h] at e1
    rw [cdec_false (show ¬ (cmdOk (k, s, x) ∧ k ≠ 1) from fun h' => h h'.1)]
    clear h
    go_enter Try.func23, Try.ntmps23
    go_wp2_with fail
    refine (cmd_check k s x _ hs hx).mono ?_
    rintro r w1 ⟨rfl, hF1⟩
    generalize errCmd (k, s, x) = z at *
    go_wp2_with fail
    go_ret
    exact ⟨rfl, hF.trans hF1⟩
set_option maxHeartbeats 4000000 in
theorem ref_cmd_right (k : Int) (s : ByteArray) (x : Nat) (w : World) (hs : s.size ≤ maxLen) (hx : x < 18446744073709551616) :
    Calls Try.prog 24 #[.agg #[.int .i64 k, .string s, .float .f64 x]] w fun r w' => r = .returned (.bool (cdec (cmdOk (k, s, x)))) ∧ Fr (fun _ => False) w w' := by
  have hF := (Fr.refl (fun _ => False) w).alloc (.cells #[.int .i64 k, .string s, .float .f64 x] 37)
  have hX := Blk.new w 37 #[.int .i64 k, .string s, .float .f64 x]
  by_cases hk : keyOk s
  · by_cases h1 : k = 1
    · subst h1
      by_cases hz : x = 0
      · rw [cdec_true (show cmdOk (1, s, x) from ⟨by simp, hk, fun _ => hz⟩)]
        have e : (kindP x == 4) = true := by rw [(kind_nil x hx).2 hz]; rfl
        clear hz
        go_enter Try.func24, Try.ntmps24
        go_wp2_with fail
        refine (ref_key s _ hs).mono ?_
        rintro r w1 ⟨rfl, rfl⟩
        rw [cdec_true hk]
        clear hk
        go_wp2_with fail
        refine (ref_kind x hx _).mono ?_
        rintro r w3 ⟨rfl, rfl⟩
        generalize kindP x = z at *
        go_wp2_with fail
        go_ret
        exact ⟨rfl, hF⟩
      · rw [cdec_false (show ¬ cmdOk (1, s, x) from fun h => hz (h.2.2 (by simp)))]
        have e : (kindP x == 4) = false := by simp only [beq_eq_false_iff_ne]; exact fun h => hz ((kind_nil x hx).1 h)
        clear hz
        go_enter Try.func24, Try.ntmps24
        go_wp2_with fail
        refine (ref_key s _ hs).mono ?_
        rintro r w1 ⟨rfl, rfl⟩
        rw [cdec_true hk]
        clear hk
        go_wp2_with fail
        refine (ref_kind x hx _).mono ?_
        rintro r w3 ⟨rfl, rfl⟩
        generalize kindP x = z at *
        go_wp2_with fail
        go_ret
        exact ⟨rfl, hF⟩
    · by_cases h2 : k = 2
      · subst h2
        rw [cdec_true (show cmdOk (2, s, x) from ⟨by simp, hk, fun h => by simp at h⟩)]
        go_enter Try.func24, Try.ntmps24
        go_wp2_with fail
        refine (ref_key s _ hs).mono ?_
        rintro r w1 ⟨rfl, rfl⟩
        rw [cdec_true hk]
        clear hk
        go_wp2_with fail
        go_ret
        exact ⟨rfl, hF⟩
      · by_cases h3 : k = 3
        · subst h3
          by_cases hz : x = 0
          · rw [cdec_true (show cmdOk (3, s, x) from ⟨by simp, hk, fun _ => hz⟩)]
            have e : (kindP x == 4) = true := by rw [(kind_nil x hx).2 hz]; rfl
            clear hz
            go_enter Try.func24, Try.ntmps24
            go_wp2_with fail
            refine (ref_key s _ hs).mono ?_
            rintro r w1 ⟨rfl, rfl⟩
            rw [cdec_true hk]
            clear hk
            go_wp2_with fail
            refine (ref_kind x hx _).mono ?_
            rintro r w3 ⟨rfl, rfl⟩
            generalize kindP x = z at *
            go_wp2_with fail
            go_ret
            exact ⟨rfl, hF⟩
          · rw [cdec_false (show ¬ cmdOk (3, s, x) from fun h => hz (h.2.2 (by simp)))]
            have e : (kindP x == 4) = false := by simp only [beq_eq_false_iff_ne]; exact fun h => hz ((kind_nil x hx).1 h)
            clear hz
            go_enter Try.func24, Try.ntmps24
            go_wp2_with fail
            refine (ref_key s _ hs).mono ?_
            rintro r w1 ⟨rfl, rfl⟩
            rw [cdec_true hk]
            clear hk
            go_wp2_with fail
            refine (ref_kind x hx _).mono ?_
            rintro r w3 ⟨rfl, rfl⟩
            generalize kindP x = z at *
            go_wp2_with fail
            go_ret
            exact ⟨rfl, hF⟩
        · by_cases h4 : k = 4
          · subst h4
            rw [cdec_true (show cmdOk (4, s, x) from ⟨by simp, hk, fun h => by simp at h⟩)]
            go_enter Try.func24, Try.ntmps24
            go_wp2_with fail
            refine (ref_key s _ hs).mono ?_
            rintro r w1 ⟨rfl, rfl⟩
            rw [cdec_true hk]
            clear hk
            go_wp2_with fail
            go_ret
            exact ⟨rfl, hF⟩
          · rw [cdec_false (show ¬ cmdOk (k, s, x) from fun h => by rcases h.1 with h | h | h | h <;> contradiction)]
            have e1 : (k == 1) = false := by simp [h1]
            have e2 : (k == 2) = false := by simp [h2]
            have e3 : (k == 3) = false := by simp [h3]
            have e4 : (k == 4) = false := by simp [h4]
            clear h1 h2 h3 h4
            go_enter Try.func24, Try.ntmps24
            go_wp2_with fail
            refine (ref_key s _ hs).mono ?_
            rintro r w1 ⟨rfl, rfl⟩
            rw [cdec_true hk]
            clear hk
            go_wp2_with fail
            go_ret
            exact ⟨rfl, hF⟩
  · rw [cdec_false (show ¬ cmdOk (k, s, x) from fun h => hk h.2.1)]
    go_enter Try.func24, Try.ntmps24
    go_wp2_with fail
    refine (ref_key s _ hs).mono ?_
    rintro r w1 ⟨rfl, rfl⟩
    rw [cdec_false hk]
    clear hk
    go_wp2_with fail
    go_ret
    exact ⟨rfl, hF⟩
end Go.Proofs.Ytepfhcimmbkilaa
/- Batches: what is wrong with one, by the program and by the reference. -/
namespace Go.Proofs.Ytepfhcimmbkilaa
open Go.RowKit
open Go.Proofs.YtepfhcimmbkilaaW.PrintWords

def CmdGood (a : Cmd) : Prop := a.2.1.size ≤ maxLen ∧ a.2.2 < 18446744073709551616
def batOk (L : List Cmd) : Prop := ∀ i, i < L.length → cmdOk (cmx L i)
noncomputable def errBat (L : List Cmd) : Int := if 8 < L.length then 5 else bif cdec (batOk L) then 0 else 12
theorem errBat_big {L : List Cmd} (h : 8 < L.length) : errBat L = 5 := if_pos h
theorem errBat_ok {L : List Cmd} (h : ¬ 8 < L.length) (h' : batOk L) : errBat L = 0 := by unfold errBat; rw [if_neg h, cdec_true h']; rfl
theorem errBat_no {L : List Cmd} (h : ¬ 8 < L.length) {i : Nat} (hi : i < L.length) (h' : ¬ cmdOk (cmx L i)) : errBat L = 12 := by unfold errBat; rw [if_neg h, cdec_false fun h => h' (h i hi)]; rfl
set_option maxRecDepth 100000 in
set_option maxHeartbeats 2000000 in
theorem bat_check (A : Option Addr) (n c : Nat) (L : List Cmd) (w : World) (h : cmdK.C w A n L) (hL : ∀ x ∈ L, CmdGood x) :
    Calls Try.prog 21 #[.slice A n c] w fun r w' => r = .returned (.int .i64 (errBat L)) ∧ Fr (fun _ => False) w w' := by
  have hmx : n ≤ 9223372036854775807 := h.2.1
  have HL := Lib.hid (show L.length = n from h.1)
  have HC := Lib.hid h
  have HO := Lib.hid hL
  clear h hL
  by_cases h8 : 8 < n
  · have t1 : decide ((8 : Int) < (n : Int)) = true := decide_eq_true (by omega)
    rw [errBat_big (by rw [HL.out]; exact h8)]
    clear h8
    go_enter Try.func21, Try.ntmps21
    go_wp2_with fail
    go_ret
    exact ⟨rfl, Fr.refl _ _⟩
  · have t1 : decide ((8 : Int) < (n : Int)) = false := decide_eq_false (by omega)
    go_enter Try.func21, Try.ntmps21
    go_wp2_with fail
    clear t1
    go_loopw [11] (fun i wr => ∃ k : Nat, k ≤ n ∧ i = .int .i64 k ∧ (∀ j, j < k → cmdOk (cmx L j)) ∧ Fr (fun _ => False) w wr) (fun i _ => n - (intOf i).toNat)
    case atStart => exact ⟨0, Nat.zero_le _, rfl, fun _ h => by omega, Fr.refl _ _⟩
    case round =>
      obtain ⟨k, hk, rfl, hno, hG⟩ := hrel
      replace hno := Lib.hid hno
      replace hG := Lib.hid hG
      rcases Nat.lt_or_ge k n with hlt | hge
      · obtain ⟨b, off, rfl, h0, h1, h2⟩ := cmds_at (Kd.C_below HC.out (hG.out.below (fun _ _ h => h))) hlt
        have q1 := Lib.hid (HO.out _ (cmx_mem (i := k) (by rw [HL.out]; exact hlt)))
        have HF := Lib.hid ((Fr.refl (fun _ => False) wr).alloc (.cells #[.int .i64 (cmx L k).1, .string (cmx L k).2.1, .float .f64 (cmx L k).2.2] 37))
        go_wp2_with fail
        refine (cmd_check (cmx L k).1 (cmx L k).2.1 (cmx L k).2.2 _ q1.out.1 q1.out.2).mono ?_
        rintro r w2 ⟨rfl, hF2⟩
        rw [show (((cmx L k).1, (cmx L k).2.1, (cmx L k).2.2) : Cmd) = cmx L k from rfl]
        clear h0 h1 h2
        by_cases hq : cmdOk (cmx L k)
        · rw [errCmd_ok hq]
          go_wp2_with fail
          go_roundw
          case rel =>
            refine ⟨k + 1, by omega, by go_num, fun j hj => ?_, (hG.out.trans HF.out).trans hF2⟩
            rcases Nat.lt_or_ge j k with h | h
            · exact hno.out j h
            · obtain rfl : j = k := by omega
              exact hq
          case measure => simp [intOf]; omega
        · rw [errCmd_no hq]
          have he := errBat_no (L := L) (by rw [HL.out]; exact h8) (i := k) (by rw [HL.out]; exact hlt) hq
          have HE := Lib.hid he
          clear he hq
          go_wp2_with fail
          go_ret
          refine ⟨?_, (hG.out.trans HF.out).trans hF2⟩
          rw [HE.out]
          rfl
      · have hall : batOk L := fun i hi => hno.out i (by rw [HL.out] at hi; omega)
        have he := errBat_ok (L := L) (by rw [HL.out]; exact h8) hall
        have HE := Lib.hid he
        obtain rfl : n = k := by omega
        have tnn : decide (n < n) = false := decide_eq_false (by omega)
        clear hall he
        go_wp2_with fail
        go_ret
        refine ⟨?_, hG.out⟩
        rw [HE.out]
        rfl
set_option maxRecDepth 100000 in
set_option maxHeartbeats 2000000 in
theorem ref_bat (A : Option Addr) (n c : Nat) (L : List Cmd) (w : World) (h : cmdK.C w A n L) (hL : ∀ x ∈ L, CmdGood x) :
    Calls Try.prog 9 #[.slice A n c] w fun r w' => r = .returned (.int .i64 (errBat L)) ∧ Fr (fun _ => False) w w' := by
  have hmx : n ≤ 9223372036854775807 := h.2.1
  have HL := Lib.hid (show L.length = n from h.1)
  have HC := Lib.hid h
  have HO := Lib.hid hL
  clear h hL
  by_cases h8 : 8 < n
  · have t1 : decide ((8 : Int) < (n : Int)) = true := decide_eq_true (by omega)
    rw [errBat_big (by rw [HL.out]; exact h8)]
    clear h8
    go_enter Try.func9, Try.ntmps9
    go_wp2_with fail
    go_ret
    exact ⟨rfl, Fr.refl _ _⟩
  · have t1 : decide ((8 : Int) < (n : Int)) = false := decide_eq_false (by omega)
    go_enter Try.func9, Try.ntmps9
    go_wp2_with fail
    clear t1
    go_loopw [3] (fun i wr => ∃ k : Nat, k ≤ n ∧ i = .int .i64 k ∧ (∀ j, j < k → cmdOk (cmx L j)) ∧ Fr (fun _ => False) w wr) (fun i _ => n - (intOf i).toNat)
    case atStart => exact ⟨0, Nat.zero_le _, rfl, fun _ h => by omega, Fr.refl _ _⟩
    case round =>
      obtain ⟨k, hk, rfl, hno, hG⟩ := hrel
      replace hno := Lib.hid hno
      replace hG := Lib.hid hG
      rcases Nat.lt_or_ge k n with hlt | hge
      · obtain ⟨b, off, rfl, h0, h1, h2⟩ := cmds_at (Kd.C_below HC.out (hG.out.below (fun _ _ h => h))) hlt
        have q1 := Lib.hid (HO.out _ (cmx_mem (i := k) (by rw [HL.out]; exact hlt)))
        go_wp2_with fail
        refine (ref_cmd_right (cmx L k).1 (cmx L k).2.1 (cmx L k).2.2 _ q1.out.1 q1.out.2).mono ?_
        rintro r w2 ⟨rfl, hF2⟩
        rw [show (((cmx L k).1, (cmx L k).2.1, (cmx L k).2.2) : Cmd) = cmx L k from rfl]
        clear h0 h1 h2
        by_cases hq : cmdOk (cmx L k)
        · rw [cdec_true hq]
          go_wp2_with fail
          go_roundw
          case rel =>
            refine ⟨k + 1, by omega, by go_num, fun j hj => ?_, hG.out.trans hF2⟩
            rcases Nat.lt_or_ge j k with h | h
            · exact hno.out j h
            · obtain rfl : j = k := by omega
              exact hq
          case measure => simp [intOf]; omega
        · rw [cdec_false hq]
          have he := errBat_no (L := L) (by rw [HL.out]; exact h8) (i := k) (by rw [HL.out]; exact hlt) hq
          have HE := Lib.hid he
          clear he hq
          go_wp2_with fail
          go_ret
          refine ⟨?_, hG.out.trans hF2⟩
          rw [HE.out]
          rfl
      · have hall : batOk L := fun i hi => hno.out i (by rw [HL.out] at hi; omega)
        have he := errBat_ok (L := L) (by rw [HL.out]; exact h8) hall
        have HE := Lib.hid he
        obtain rfl : n = k := by omega
        have tnn : decide (n < n) = false := decide_eq_false (by omega)
        clear hall he
        go_wp2_with fail
        go_ret
        refine ⟨?_, hG.out⟩
        rw [HE.out]
        rfl
end Go.Proofs.Ytepfhcimmbkilaa
/- Sums of doubles: what the sum is, as its one word; canonical cells. -/
namespace Go.Proofs.Ytepfhcimmbkilaa
open Go.RowKit

theorem add_nan {x y : Nat} (h : nanW x ∨ nanW y) : Ieee.double.add x y = none := by
  unfold Ieee.Format.add
  rcases h with h | h
  · obtain ⟨t, e⟩ := read_nan x h
    rw [e]; rfl
  · obtain ⟨t, e⟩ := read_nan y h
    rw [e]
    cases Ieee.double.read x <;> rfl
theorem nan_cut (x y t : Nat) : nanW (Question.cut (.nanBits .f64 x y) t) ∧ Question.cut (.nanBits .f64 x y) t < 18446744073709551616 := by
  have e : Question.cut (.nanBits .f64 x y) t = (t % 2) * 9223372036854775808 + 9218868437227405312 + 1 + (t / 2) % 4503599627370495 := rfl
  rw [e]
  unfold nanW rung
  have h1 : t % 2 = 0 ∨ t % 2 = 1 := by omega
  have h2 : t / 2 % 4503599627370495 < 4503599627370495 := Nat.mod_lt _ (by omega)
  generalize t / 2 % 4503599627370495 = b at h2
  rcases h1 with h | h <;> rw [h] <;> omega
theorem nan_add {x y : Nat} (h : Ieee.double.add x y = none) (w : World) : ∃ r, nanW r ∧ r < 18446744073709551616 ∧ (binOp .add 35 (.float .f64 x) (.float .f64 y)).run Try.prog w = .ok (.float .f64 r) w.drew := by
  have h' : FloatKind.f64.format.add x y = none := h
  refine ⟨_, (nan_cut x y (w.tape w.drawn (.nanBits .f64 x y))).1, (nan_cut x y (w.tape w.drawn (.nanBits .f64 x y))).2, ?_⟩
  simp [binOp, Op.floatArith, h', Question.forced]
/-- The sum of two: what it is, as the one word of its kind; the world may have drawn. -/
theorem add_any (x y : Nat) (hx : x < 18446744073709551616) (hy : y < 18446744073709551616) (w : World) :
    ∃ r w1, r < 18446744073709551616 ∧ (binOp .add 35 (.float .f64 x) (.float .f64 y)).run Try.prog w = .ok (.float .f64 r) w1 ∧ Fr (fun _ => False) w w1 ∧
      ((Ieee.double.add x y = none ∧ nanW r) ∨ Ieee.double.add x y = some r) := by
  cases h : Ieee.double.add x y with
  | none =>
    obtain ⟨r, h1, h2, h3⟩ := nan_add h w
    exact ⟨r, w.drew, h2, h3, (Fr.refl _ _).drew, .inl ⟨rfl, h1⟩⟩
  | some r => exact ⟨r, w, Ieee.Format.add_lt _ h, addF h w, Fr.refl _ _, .inr rfl⟩
theorem real_add (x y : Nat) (hx : x < 18446744073709551616) (hy : y < 18446744073709551616) (w : World) :
    Calls Try.prog 47 #[.float .f64 x, .float .f64 y] w fun r w' => ∃ s, r = .returned (.float .f64 (canonP s)) ∧ s < 18446744073709551616 ∧ Fr (fun _ => False) w w' ∧ ((Ieee.double.add x y = none ∧ nanW s) ∨ Ieee.double.add x y = some s) := by
  obtain ⟨s, w1, hs, hrun, hF, hor⟩ := add_any x y hx hy w
  go_enter Try.func47, Try.ntmps47
  go_wp2_with fail
  refine (real_canon s w1).mono ?_
  rintro r w2 ⟨rfl, rfl⟩
  go_wp2_with fail
  go_ret
  exact ⟨s, rfl, hs, hF, hor⟩
theorem canon_lt {x : Nat} (hx : x < 18446744073709551616) : canonP x < 18446744073709551616 := by unfold canonP; split; omega; exact hx
theorem canon_canon (x : Nat) : canonP (canonP x) = canonP x := by
  have hn : nanW 9221120237041090561 := by decide +kernel
  unfold canonP
  by_cases h : nanW x
  · rw [if_pos h, if_pos hn]
  · rw [if_neg h, if_neg h]
/-- Two sums of the same two have one key. -/
theorem keys_sum {x y s t : Nat} (hs : s < 18446744073709551616) (ht : t < 18446744073709551616) (h1 : (Ieee.double.add x y = none ∧ nanW s) ∨ Ieee.double.add x y = some s) (h2 : (Ieee.double.add x y = none ∧ nanW t) ∨ Ieee.double.add x y = some t) : key s = key t := by
  rcases h1 with ⟨e1, n1⟩ | e1 <;> rcases h2 with ⟨e2, n2⟩ | e2
  · unfold key; rw [if_pos n1, if_pos n2]
  · rw [e1] at e2; cases e2
  · rw [e1] at e2; cases e2
  · rw [e1] at e2; injection e2 with e; rw [e]
theorem key_canonP {x : Nat} (hx : x < 18446744073709551616) : key (canonP x) = key x := (key_canon (canon_lt hx) hx).1 (canon_canon x)

/-- The one word of a sum. -/
def sumC (x y : Nat) : Nat := match Ieee.double.add x y with | some r => canonP r | none => 9221120237041090561
theorem canon_nan {x : Nat} (h : nanW x) : canonP x = 9221120237041090561 := if_pos h
theorem nan_canon {x : Nat} (h : nanW x) : nanW (canonP x) := by rw [canon_nan h]; decide +kernel
theorem canon_not {x : Nat} (h : ¬ nanW x) : canonP x = x := if_neg h
theorem sumC_of {x y s : Nat} (h : (Ieee.double.add x y = none ∧ nanW s) ∨ Ieee.double.add x y = some s) : canonP s = sumC x y := by
  unfold sumC
  rcases h with ⟨h1, h2⟩ | h
  · rw [h1]; exact canon_nan h2
  · rw [h]
theorem sumC_l (x y : Nat) : sumC (canonP x) y = sumC x y := by
  by_cases h : nanW x
  · unfold sumC; rw [add_nan (.inl h), add_nan (.inl (nan_canon h))]
  · rw [canon_not h]
theorem sumC_r (x y : Nat) : sumC x (canonP y) = sumC x y := by
  by_cases h : nanW y
  · unfold sumC; rw [add_nan (.inr h), add_nan (.inr (nan_canon h))]
  · rw [canon_not h]
theorem sumC_lt (x y : Nat) : sumC x y < 18446744073709551616 := by
  unfold sumC
  cases h : Ieee.double.add x y with
  | none => decide
  | some r => exact canon_lt (Ieee.Format.add_lt _ h)
theorem canon_sumC (x y : Nat) : canonP (sumC x y) = sumC x y := by
  unfold sumC
  cases h : Ieee.double.add x y with
  | none => decide +kernel
  | some r => exact canon_canon r
theorem real_sum (x y : Nat) (hx : x < 18446744073709551616) (hy : y < 18446744073709551616) (w : World) :
    Calls Try.prog 47 #[.float .f64 x, .float .f64 y] w fun r w' => r = .returned (.float .f64 (sumC x y)) ∧ Fr (fun _ => False) w w' :=
  (real_add x y hx hy w).mono fun r w' ⟨s, h1, _, h3, h4⟩ => ⟨by rw [h1, sumC_of h4], h3⟩
end Go.Proofs.Ytepfhcimmbkilaa
/- Cells: what a command makes of one, by the program and by the reference. -/
namespace Go.Proofs.Ytepfhcimmbkilaa
open Go.RowKit
open Go.Proofs.YtepfhcimmbkilaaW.PrintWords

abbrev CellD := Bool × Nat
abbrev cellV (c : CellD) : Value := .agg #[.bool c.1, .float .f64 c.2]
def CellOk (c : CellD) : Prop := c.2 < 18446744073709551616
def absC (c : CellD) : CellD := if c.1 = true then (true, canonP c.2) else (false, 0)
theorem absC_yes (x : Nat) : absC (true, x) = (true, canonP x) := rfl
theorem absC_no (x : Nat) : absC (false, x) = (false, 0) := rfl
theorem absC_ok {c : CellD} (h : CellOk c) : CellOk (absC c) := by
  unfold absC CellOk
  split
  · exact canon_lt h
  · exact Nat.zero_lt_of_lt (by decide : 0 < 18446744073709551616)
theorem absC_absC (c : CellD) : absC (absC c) = absC c := by
  obtain ⟨f, x⟩ := c
  cases f
  · rfl
  · rw [absC_yes, absC_yes, canon_canon]
/-- What a command makes of a cell, and what it tells. -/
noncomputable def doC (c : CellD) (x : Cmd) : CellD × CellD :=
  bif cdec (cmdOk x) then (if x.1 = 2 then ((true, canonP x.2.2), c) else if x.1 = 3 then ((false, 0), c) else if x.1 = 4 then ((true, sumC c.2 x.2.2), (true, sumC c.2 x.2.2)) else (c, c)) else (c, (false, 0))
theorem doC_bad {c : CellD} {x : Cmd} (h : ¬ cmdOk x) : doC c x = (c, (false, 0)) := by unfold doC; rw [cdec_false h]; rfl
theorem doC_put {c : CellD} {x : Cmd} (h : cmdOk x) (hk : x.1 = 2) : doC c x = ((true, canonP x.2.2), c) := by unfold doC; rw [cdec_true h, cond_true, if_pos hk]
theorem doC_del {c : CellD} {x : Cmd} (h : cmdOk x) (hk : x.1 = 3) : doC c x = ((false, 0), c) := by unfold doC; rw [cdec_true h, cond_true, if_neg (by omega), if_pos hk]
theorem doC_add {c : CellD} {x : Cmd} (h : cmdOk x) (hk : x.1 = 4) : doC c x = ((true, sumC c.2 x.2.2), (true, sumC c.2 x.2.2)) := by unfold doC; rw [cdec_true h, cond_true, if_neg (by omega), if_neg (by omega), if_pos hk]
theorem doC_get {c : CellD} {x : Cmd} (h : cmdOk x) (hk : x.1 = 1) : doC c x = (c, c) := by unfold doC; rw [cdec_true h, cond_true, if_neg (by omega), if_neg (by omega), if_neg (by omega)]

theorem cell_some (x : Nat) (w : World) : Calls Try.prog 46 #[.float .f64 x] w fun r w' => r = .returned (cellV (true, canonP x)) ∧ Fr (fun _ => False) w w' := by
  have hF := (Fr.refl (fun _ => False) w).alloc (.cells #[.bool false, .float .f64 0] 53)
  have hB := Blk.new w 53 #[.bool false, .float .f64 0]
  go_enter Try.func46, Try.ntmps46
  go_wp2_with fail
  refine (real_canon x _).mono ?_
  rintro r w2 ⟨rfl, rfl⟩
  go_wp2_with fail
  exact bodyPost_ret (results_cell_row Try.results46 _ _ w.heap.size _ _ _ _ rfl (Blk.new w 53 #[.bool true, .float .f64 (canonP x)]) Try.underlying53 rfl (by kernel_rfl)) rfl ⟨rfl, (Fr.refl (fun _ => False) w).alloc _⟩
theorem Fr.set2 {S : Nat → Prop} {a w : World} {g : Nat} (h : Fr S a w) (hg : S g ∨ a.heap.size ≤ g) (u v : Value) : Fr S a ((w.setCell ⟨g, 0, none⟩ u).setCell ⟨g, 1, none⟩ v) :=
  (h.setCell (p := ⟨g, 0, none⟩) hg u).setCell (p := ⟨g, 1, none⟩) hg v
theorem Blk.set2 {w : World} {g : Nat} {t : TypeId} {a b u v : Value} (h : Blk w g t #[a, b]) : Blk ((w.setCell ⟨g, 0, none⟩ u).setCell ⟨g, 1, none⟩ v) g t #[u, v] := (h.set_ 0 u).set_ 1 v
theorem Blk.far2 {w : World} {g k : Nat} {t : TypeId} {cs : Array Value} (h : Blk w g t cs) (hne : g ≠ k) (u v : Value) : Blk ((w.setCell ⟨k, 0, none⟩ u).setCell ⟨k, 1, none⟩ v) g t cs := (h.far (p := ⟨k, 0, none⟩) hne u).far (p := ⟨k, 1, none⟩) hne v
theorem cell_plain (c : CellD) (w : World) : Calls Try.prog 45 #[cellV c] w fun r w' => r = .returned (cellV (absC c)) ∧ Fr (fun _ => False) w w' := by
  obtain ⟨f, x⟩ := c
  cases f
  · have hF := ((Fr.refl (fun _ => False) w).alloc (.cells #[.bool false, .float .f64 x] 53)).alloc (.cells #[.bool false, .float .f64 0] 53)
    have hB := Blk.new (w.alloc (.cells #[.bool false, .float .f64 x] 53)) 53 #[.bool false, .float .f64 0]
    rw [World.size_alloc] at hB
    go_enter Try.func45, Try.ntmps45
    go_wp2_with fail
    exact bodyPost_ret (results_cell_row Try.results45 _ _ (w.heap.size + 1) _ _ _ _ rfl hB Try.underlying53 rfl (by kernel_rfl)) rfl ⟨rfl, hF⟩
  · have hF := ((Fr.refl (fun _ => False) w).alloc (.cells #[.bool true, .float .f64 x] 53)).alloc (.cells #[.bool false, .float .f64 0] 53)
    have hB := Blk.new (w.alloc (.cells #[.bool true, .float .f64 x] 53)) 53 #[.bool false, .float .f64 0]
    rw [World.size_alloc] at hB
    go_enter Try.func45, Try.ntmps45
    go_wp2_with fail
    refine (cell_some x _).mono ?_
    rintro r w2 ⟨rfl, hF2⟩
    replace hB := hB.fr hF2 (fun h => h)
    replace hF := hF.trans hF2
    have b0 := hB.cell 0
    have b1 := hB.cell 1
    have bf := hB.frozen
    simp only [List.getElem?_toArray, List.getElem?_cons_zero, List.getElem?_cons_succ] at b0 b1
    clear hF2
    go_wp2_with fail
    exact bodyPost_ret (results_cell_row Try.results45 _ _ (w.heap.size + 1) _ _ _ _ rfl hB.set2 Try.underlying53 rfl (by kernel_rfl)) rfl ⟨rfl, hF.set2 (.inr (Nat.le_succ _)) _ _⟩
set_option maxHeartbeats 2000000 in
theorem cell_do (c : CellD) (x : Cmd) (w : World) (hc : CellOk c) (hx : CmdGood x) :
    Calls Try.prog 22 #[cellV c, cmdV x] w fun r w' => r = .returned (.tuple #[cellV (doC (absC c) x).1, cellV (doC (absC c) x).2]) ∧ Fr (fun _ => False) w w' := by
  obtain ⟨k, s, v⟩ := x
  obtain ⟨hs, hv⟩ := hx
  simp only at hs hv
  have ha := absC_ok hc
  obtain ⟨d, hd⟩ : ∃ d, d = absC c := ⟨_, rfl⟩
  have hpl := fun w => cell_plain c w
  rw [← hd] at ha hpl ⊢
  obtain ⟨f, y⟩ := c
  obtain ⟨df, dy⟩ := d
  have HD := Lib.hid hd
  clear hd
  have hF : Fr (fun _ => False) w _ := ((((Fr.refl (fun _ => False) w).alloc (.cells #[.bool f, .float .f64 y] 53)).alloc (.cells #[.int .i64 k, .string s, .float .f64 v] 37)).alloc (.cells #[.bool false, .float .f64 0] 53)).alloc (.cells #[.bool false, .float .f64 0] 53)
  have hC := (((Blk.new w 53 #[.bool f, .float .f64 y]).alloc (.cells #[.int .i64 k, .string s, .float .f64 v] 37)).alloc (.cells #[.bool false, .float .f64 0] 53)).alloc (.cells #[.bool false, .float .f64 0] 53)
  have hX := ((Blk.new (w.alloc (.cells #[.bool f, .float .f64 y] 53)) 37 #[.int .i64 k, .string s, .float .f64 v]).alloc (.cells #[.bool false, .float .f64 0] 53)).alloc (.cells #[.bool false, .float .f64 0] 53)
  have hR := (Blk.new ((w.alloc (.cells #[.bool f, .float .f64 y] 53)).alloc (.cells #[.int .i64 k, .string s, .float .f64 v] 37)) 53 #[.bool false, .float .f64 0]).alloc (.cells #[.bool false, .float .f64 0] 53)
  have hT := Blk.new (((w.alloc (.cells #[.bool f, .float .f64 y] 53)).alloc (.cells #[.int .i64 k, .string s, .float .f64 v] 37)).alloc (.cells #[.bool false, .float .f64 0] 53)) 53 #[.bool false, .float .f64 0]
  rw [World.size_alloc] at hX
  rw [World.size_alloc, World.size_alloc] at hR
  rw [World.size_alloc, World.size_alloc, World.size_alloc] at hT
  go_enter Try.func22, Try.ntmps22
  go_wp2_with fail
  refine (hpl _).mono ?_
  rintro r w2 ⟨rfl, hF2⟩
  replace hF := hF.trans hF2
  replace hC := hC.fr hF2 (fun h => h)
  replace hX := hX.fr hF2 (fun h => h)
  replace hR := hR.fr hF2 (fun h => h)
  replace hT := hT.fr hF2 (fun h => h)
  have c0 := hC.cell 0
  have c1 := hC.cell 1
  have cf := hC.frozen
  have x0 := hX.cell 0
  have x1 := hX.cell 1
  have x2 := hX.cell 2
  simp only [List.getElem?_toArray, List.getElem?_cons_zero, List.getElem?_cons_succ] at c0 c1 x0 x1 x2
  clear hF2
  go_wp2_with fail
  have hcx := fun w => cmd_check k s v w hs hv
  refine (hcx _).mono ?_
  rintro r w4 ⟨rfl, hF4⟩
  have ne1 : w.heap.size + 1 ≠ w.heap.size := by omega
  have ne2 : w.heap.size + 1 + 1 ≠ w.heap.size := by omega
  have ne3 : w.heap.size + 1 + 1 + 1 ≠ w.heap.size := by omega
  replace hF := (hF.set2 (.inr (Nat.le_refl _)) (.bool df) (.float .f64 dy)).trans hF4
  replace hC := (Blk.set2 hC (u := .bool df) (v := .float .f64 dy)).fr hF4 (fun h => h)
  replace hX := (hX.far2 ne1 (.bool df) (.float .f64 dy)).fr hF4 (fun h => h)
  replace hR := (hR.far2 ne2 (.bool df) (.float .f64 dy)).fr hF4 (fun h => h)
  replace hT := (hT.far2 ne3 (.bool df) (.float .f64 dy)).fr hF4 (fun h => h)
  clear c0 c1 cf x0 x1 x2 hF4
  have c0 := hC.cell 0
  have c1 := hC.cell 1
  have x0 := hX.cell 0
  have x1 := hX.cell 1
  have x2 := hX.cell 2
  have r0 := hR.cell 0
  have r1 := hR.cell 1
  have rf := hR.frozen
  have t0 := hT.cell 0
  have t1 := hT.cell 1
  have tf := hT.frozen
  simp only [List.getElem?_toArray, List.getElem?_cons_zero, List.getElem?_cons_succ] at c0 c1 x0 x1 x2 r0 r1 t0 t1
  by_cases hq : cmdOk (k, s, v)
  · rw [errCmd_ok hq]
    have HQ := Lib.hid hq
    have hk := hq.1
    simp only at hk
    clear hq r0 r1 rf t0 t1 tf
    have hl5 := hT.lt
    have hN5 := Blk.new w4 53 #[.bool df, .float .f64 dy]
    replace hC := hC.alloc (.cells #[.bool df, .float .f64 dy] 53)
    replace hX := hX.alloc (.cells #[.bool df, .float .f64 dy] 53)
    replace hR := hR.alloc (.cells #[.bool df, .float .f64 dy] 53)
    replace hT := hT.alloc (.cells #[.bool df, .float .f64 dy] 53)
    replace hF := hF.alloc (.cells #[.bool df, .float .f64 dy] 53)
    obtain ⟨W5, hW5⟩ : ∃ W, w4.alloc (.cells #[.bool df, .float .f64 dy] 53) = W := ⟨_, rfl⟩
    obtain ⟨n5, hn5⟩ : ∃ n, w4.heap.size = n := ⟨_, rfl⟩
    rw [hW5] at hN5 hC hX hR hT hF
    rw [hn5] at hN5 hl5
    have c0' := hC.cell 0
    have c1' := hC.cell 1
    have x0' := hX.cell 0
    have x1' := hX.cell 1
    have x2' := hX.cell 2
    have r0' := hR.cell 0
    have r1' := hR.cell 1
    have rf' := hR.frozen
    have t0' := hT.cell 0
    have t1' := hT.cell 1
    have tf' := hT.frozen
    have n0' := hN5.cell 0
    have n1' := hN5.cell 1
    have nf' := hN5.frozen
    simp only [List.getElem?_toArray, List.getElem?_cons_zero, List.getElem?_cons_succ] at c0' c1' x0' x1' x2' r0' r1' t0' t1' n0' n1'

    clear ne1 ne2 ne3
    rcases hk with hk | hk | hk | hk
    · subst hk
      go_wp2_with fail
      obtain ⟨St, hSt⟩ : ∃ St : World → Prop, St = Fr (fun b => b = w.heap.size + 1 + 1) W5 := ⟨_, rfl⟩
      have HT := Lib.hid (show ∀ w', Fr (fun b => b = w.heap.size + 1 + 1) W5 w' → At St w' from fun w' h => by unfold At; rw [hSt]; exact h)
      have lift : ∀ (q : Addr) (u : Value), q.block ≠ w.heap.size + 1 + 1 → W5.cell? q = some u → ∀ w', At St w' → w'.cell? q = some u := fun q u hb hq w' h => by replace h := h.out; rw [hSt] at h; exact h.cell hq hb
      have l0 := lift ⟨n5, 0, none⟩ _ (by simp only []; omega) n0'
      have l1 := lift ⟨n5, 1, none⟩ _ (by simp only []; omega) n1'
      have l2 := lift ⟨w.heap.size, 0, none⟩ _ (by simp only []; omega) c0'
      have l3 := lift ⟨w.heap.size, 1, none⟩ _ (by simp only []; omega) c1'
      have hT0 := HT.out W5.drew (Fr.refl _ _).drew
      have hT1 := HT.out _ ((Fr.refl (fun b => b = w.heap.size + 1 + 1) W5).drew.set2 (.inl rfl) (.bool df) (.float .f64 dy))
      clear hSt lift
      refine rt_start [3] (At St) 4 (by kernel_rfl) rfl ?_
      refine rt_take 0 (v := ?_) rfl (by kernel_rfl) (by kernel_rfl) (by kernel_rfl) (by kernel_rfl) (fun _ _ _ h => h) (by rfl) (by first | assumption | exact HS0 _ rfl | exact HT.out _ (by repeat (first | exact Fr.refl _ _ | apply Fr.drew | refine Fr.alloc ?_ _))) ?_ ?_
      rotate_left 1
      · intro w hSw; go_simp <;> with_reducible rfl
      try simp only [Act.put, List.setIfInBounds_toArray, List.set_cons_zero, List.set_cons_succ]
      refine rt_take 1 (v := ?_) rfl (by kernel_rfl) (by kernel_rfl) (by kernel_rfl) (by kernel_rfl) (fun _ _ _ h => h) (by rfl) (by first | assumption | exact HS0 _ rfl | exact HT.out _ (by repeat (first | exact Fr.refl _ _ | apply Fr.drew | refine Fr.alloc ?_ _))) ?_ ?_
      rotate_left 1
      · intro w hSw; go_simp <;> with_reducible rfl
      try simp only [Act.put, List.setIfInBounds_toArray, List.set_cons_zero, List.set_cons_succ]
      refine rt_one 2 rfl (by kernel_rfl) (fun K hK => ?_)
      go_simp
      refine hK.out (At St) _ _ (fun _ h => h) (fun _ => by (assumption)) ?_
      clear hK K
      try simp only [Act.put, List.setIfInBounds_toArray, List.set_cons_zero, List.set_cons_succ]
      refine rt_one 3 rfl (by kernel_rfl) (fun K hK => ?_)
      go_simp
      refine hK.out (At St) _ _ (fun _ h => h) (late_abs (by kernel_rfl)) ?_
      clear hK K
      try simp only [Act.put, List.setIfInBounds_toArray, List.set_cons_zero, List.set_cons_succ]
      refine rt_done (by kernel_rfl) ?_
      go_wp2_with fail
      exact bodyPost_ret (results_cc Try.results22 _ _ (w.heap.size + 1 + 1) (w.heap.size + 1 + 1 + 1) _ _ _ _ _ _ _ _ rfl (Blk.far2 (Blk.set2 hR.drew) (by omega) _ _) Try.underlying53 rfl (by kernel_rfl) rfl (Blk.set2 (Blk.far2 hT.drew (by omega) _ _)) Try.underlying53 rfl (by kernel_rfl)) rfl ⟨by rw [doC_get HQ.out rfl], (hF.drew.set2 (.inr (by omega)) _ _).set2 (.inr (by omega)) _ _⟩
    · subst hk
      have hNq := hN5
      go_wp2_with fail
      refine (cell_some v _).mono ?_
      rintro r w6 ⟨rfl, hF6⟩
      replace hN5 := (hN5.fr hF6 (fun h => h)).set2 (u := .bool true) (v := .float .f64 (canonP v))
      replace hC := (hC.fr hF6 (fun h => h)).far2 (k := n5) (by omega) (.bool true) (.float .f64 (canonP v))
      replace hR := (hR.fr hF6 (fun h => h)).far2 (k := n5) (by omega) (.bool true) (.float .f64 (canonP v))
      replace hT := (hT.fr hF6 (fun h => h)).far2 (k := n5) (by omega) (.bool true) (.float .f64 (canonP v))
      have n6 := (hNq.fr hF6 (fun h => h)).cell 0
      have n7 := (hNq.fr hF6 (fun h => h)).cell 1
      have n8 := (hNq.fr hF6 (fun h => h)).frozen
      simp only [List.getElem?_toArray, List.getElem?_cons_zero, List.getElem?_cons_succ] at n6 n7
      replace hF := (hF.trans hF6).set2 (g := n5) (.inr (by omega)) (.bool true) (.float .f64 (canonP v))
      obtain ⟨W7, hW7⟩ : ∃ W, (w6.setCell ⟨n5, 0, none⟩ (.bool true)).setCell ⟨n5, 1, none⟩ (.float .f64 (canonP v)) = W := ⟨_, rfl⟩
      rw [hW7] at hN5 hC hR hT hF
      clear n0' n1' nf' c0' c1' r0' r1' rf' t0' t1' tf' hF6
      have n0' := hN5.cell 0
      have n1' := hN5.cell 1
      have c0' := hC.cell 0
      have c1' := hC.cell 1
      have r0' := hR.cell 0
      have r1' := hR.cell 1
      have rf' := hR.frozen
      have t0' := hT.cell 0
      have t1' := hT.cell 1
      have tf' := hT.frozen
      simp only [List.getElem?_toArray, List.getElem?_cons_zero, List.getElem?_cons_succ] at n0' n1' c0' c1' r0' r1' t0' t1'
      go_wp2_with fail
      obtain ⟨St, hSt⟩ : ∃ St : World → Prop, St = Fr (fun b => b = w.heap.size + 1 + 1) W7 := ⟨_, rfl⟩
      have HT := Lib.hid (show ∀ w', Fr (fun b => b = w.heap.size + 1 + 1) W7 w' → At St w' from fun w' h => by unfold At; rw [hSt]; exact h)
      have lift : ∀ (q : Addr) (u : Value), q.block ≠ w.heap.size + 1 + 1 → W7.cell? q = some u → ∀ w', At St w' → w'.cell? q = some u := fun q u hb hq w' h => by replace h := h.out; rw [hSt] at h; exact h.cell hq hb
      have l0 := lift ⟨n5, 0, none⟩ _ (by simp only []; omega) n0'
      have l1 := lift ⟨n5, 1, none⟩ _ (by simp only []; omega) n1'
      have l2 := lift ⟨w.heap.size, 0, none⟩ _ (by simp only []; omega) c0'
      have l3 := lift ⟨w.heap.size, 1, none⟩ _ (by simp only []; omega) c1'
      have hT0 := HT.out W7.drew (Fr.refl _ _).drew
      have hT1 := HT.out _ ((Fr.refl (fun b => b = w.heap.size + 1 + 1) W7).drew.set2 (.inl rfl) (.bool true) (.float .f64 (canonP v)))
      clear hSt lift
      refine rt_start [3] (At St) 4 (by kernel_rfl) rfl ?_
      refine rt_take 0 (v := ?_) rfl (by kernel_rfl) (by kernel_rfl) (by kernel_rfl) (by kernel_rfl) (fun _ _ _ h => h) (by rfl) (by first | assumption | exact HS0 _ rfl | exact HT.out _ (by repeat (first | exact Fr.refl _ _ | apply Fr.drew | refine Fr.alloc ?_ _))) ?_ ?_
      rotate_left 1
      · intro w hSw; go_simp <;> with_reducible rfl
      try simp only [Act.put, List.setIfInBounds_toArray, List.set_cons_zero, List.set_cons_succ]
      refine rt_take 1 (v := ?_) rfl (by kernel_rfl) (by kernel_rfl) (by kernel_rfl) (by kernel_rfl) (fun _ _ _ h => h) (by rfl) (by first | assumption | exact HS0 _ rfl | exact HT.out _ (by repeat (first | exact Fr.refl _ _ | apply Fr.drew | refine Fr.alloc ?_ _))) ?_ ?_
      rotate_left 1
      · intro w hSw; go_simp <;> with_reducible rfl
      try simp only [Act.put, List.setIfInBounds_toArray, List.set_cons_zero, List.set_cons_succ]
      refine rt_one 2 rfl (by kernel_rfl) (fun K hK => ?_)
      go_simp
      refine hK.out (At St) _ _ (fun _ h => h) (fun _ => by (assumption)) ?_
      clear hK K
      try simp only [Act.put, List.setIfInBounds_toArray, List.set_cons_zero, List.set_cons_succ]
      refine rt_one 3 rfl (by kernel_rfl) (fun K hK => ?_)
      go_simp
      refine hK.out (At St) _ _ (fun _ h => h) (late_abs (by kernel_rfl)) ?_
      clear hK K
      try simp only [Act.put, List.setIfInBounds_toArray, List.set_cons_zero, List.set_cons_succ]
      refine rt_done (by kernel_rfl) ?_
      go_wp2_with fail
      exact bodyPost_ret (results_cc Try.results22 _ _ (w.heap.size + 1 + 1) (w.heap.size + 1 + 1 + 1) _ _ _ _ _ _ _ _ rfl (Blk.far2 (Blk.set2 hR.drew) (by omega) _ _) Try.underlying53 rfl (by kernel_rfl) rfl (Blk.set2 (Blk.far2 hT.drew (by omega) _ _)) Try.underlying53 rfl (by kernel_rfl)) rfl ⟨by rw [doC_put HQ.out rfl], (hF.drew.set2 (.inr (by omega)) _ _).set2 (.inr (by omega)) _ _⟩
    · subst hk
      go_wp2_with fail
      obtain ⟨St, hSt⟩ : ∃ St : World → Prop, St = Fr (fun b => b = w.heap.size + 1 + 1) W5 := ⟨_, rfl⟩
      have HT := Lib.hid (show ∀ w', Fr (fun b => b = w.heap.size + 1 + 1) W5 w' → At St w' from fun w' h => by unfold At; rw [hSt]; exact h)
      have lift : ∀ (q : Addr) (u : Value), q.block ≠ w.heap.size + 1 + 1 → W5.cell? q = some u → ∀ w', At St w' → w'.cell? q = some u := fun q u hb hq w' h => by replace h := h.out; rw [hSt] at h; exact h.cell hq hb
      have l0 := lift ⟨w.heap.size, 0, none⟩ _ (by simp only []; omega) c0'
      have l1 := lift ⟨w.heap.size, 1, none⟩ _ (by simp only []; omega) c1'
      have hT0 := HT.out W5.drew (Fr.refl _ _).drew
      have hT1 := HT.out _ ((Fr.refl (fun b => b = w.heap.size + 1 + 1) W5).drew.set2 (.inl rfl) (.bool false) (.float .f64 0))
      clear hSt lift
      refine rt_start [3] (At St) 4 (by kernel_rfl) rfl ?_
      refine rt_free 0 (v := ?_) rfl (by kernel_rfl) (by kernel_rfl) (by kernel_rfl) (by kernel_rfl) (fun _ _ _ h => h) (by rfl) (fun _ => by first | assumption | exact HS0 _ rfl | exact HT.out _ (by repeat (first | exact Fr.refl _ _ | apply Fr.drew | refine Fr.alloc ?_ _))) ?_ ?_
      rotate_left 1
      · intro w; go_simp <;> with_reducible rfl
      try simp only [Act.put, List.setIfInBounds_toArray, List.set_cons_zero, List.set_cons_succ]
      refine rt_take 1 (v := ?_) rfl (by kernel_rfl) (by kernel_rfl) (by kernel_rfl) (by kernel_rfl) (fun _ _ _ h => h) (by rfl) (by first | assumption | exact HS0 _ rfl | exact HT.out _ (by repeat (first | exact Fr.refl _ _ | apply Fr.drew | refine Fr.alloc ?_ _))) ?_ ?_
      rotate_left 1
      · intro w hSw; go_simp <;> with_reducible rfl
      try simp only [Act.put, List.setIfInBounds_toArray, List.set_cons_zero, List.set_cons_succ]
      refine rt_one 2 rfl (by kernel_rfl) (fun K hK => ?_)
      go_simp
      refine hK.out (At St) _ _ (fun _ h => h) (fun _ => by (assumption)) ?_
      clear hK K
      try simp only [Act.put, List.setIfInBounds_toArray, List.set_cons_zero, List.set_cons_succ]
      refine rt_one 3 rfl (by kernel_rfl) (fun K hK => ?_)
      go_simp
      refine hK.out (At St) _ _ (fun _ h => h) (late_abs (by kernel_rfl)) ?_
      clear hK K
      try simp only [Act.put, List.setIfInBounds_toArray, List.set_cons_zero, List.set_cons_succ]
      refine rt_done (by kernel_rfl) ?_
      go_wp2_with fail
      exact bodyPost_ret (results_cc Try.results22 _ _ (w.heap.size + 1 + 1) (w.heap.size + 1 + 1 + 1) _ _ _ _ _ _ _ _ rfl (Blk.far2 (Blk.set2 hR.drew) (by omega) _ _) Try.underlying53 rfl (by kernel_rfl) rfl (Blk.set2 (Blk.far2 hT.drew (by omega) _ _)) Try.underlying53 rfl (by kernel_rfl)) rfl ⟨by rw [doC_del HQ.out rfl], (hF.drew.set2 (.inr (by omega)) _ _).set2 (.inr (by omega)) _ _⟩
    · subst hk
      go_wp2_with fail
      refine (real_sum dy v ha hv _).mono ?_
      rintro r wS ⟨rfl, hFS⟩
      replace hN5 := hN5.fr hFS (fun h => h)
      replace hC := hC.fr hFS (fun h => h)
      replace hR := hR.fr hFS (fun h => h)
      replace hT := hT.fr hFS (fun h => h)
      replace hF := hF.trans hFS
      have hNq := hN5
      go_wp2_with fail
      refine (cell_some (sumC dy v) _).mono ?_
      rw [canon_sumC]
      rintro r w6 ⟨rfl, hF6⟩
      replace hN5 := (hN5.fr hF6 (fun h => h)).set2 (u := .bool true) (v := .float .f64 (sumC dy v))
      replace hC := (hC.fr hF6 (fun h => h)).far2 (k := n5) (by omega) (.bool true) (.float .f64 (sumC dy v))
      replace hR := (hR.fr hF6 (fun h => h)).far2 (k := n5) (by omega) (.bool true) (.float .f64 (sumC dy v))
      replace hT := (hT.fr hF6 (fun h => h)).far2 (k := n5) (by omega) (.bool true) (.float .f64 (sumC dy v))
      have n6 := (hNq.fr hF6 (fun h => h)).cell 0
      have n7 := (hNq.fr hF6 (fun h => h)).cell 1
      have n8 := (hNq.fr hF6 (fun h => h)).frozen
      simp only [List.getElem?_toArray, List.getElem?_cons_zero, List.getElem?_cons_succ] at n6 n7
      replace hF := (hF.trans hF6).set2 (g := n5) (.inr (by omega)) (.bool true) (.float .f64 (sumC dy v))
      obtain ⟨W7, hW7⟩ : ∃ W, (w6.setCell ⟨n5, 0, none⟩ (.bool true)).setCell ⟨n5, 1, none⟩ (.float .f64 (sumC dy v)) = W := ⟨_, rfl⟩
      rw [hW7] at hN5 hC hR hT hF
      clear n0' n1' nf' c0' c1' r0' r1' rf' t0' t1' tf' hF6
      have n0' := hN5.cell 0
      have n1' := hN5.cell 1
      have c0' := hC.cell 0
      have c1' := hC.cell 1
      have r0' := hR.cell 0
      have r1' := hR.cell 1
      have rf' := hR.frozen
      have t0' := hT.cell 0
      have t1' := hT.cell 1
      have tf' := hT.frozen
      simp only [List.getElem?_toArray, List.getElem?_cons_zero, List.getElem?_cons_succ] at n0' n1' c0' c1' r0' r1' t0' t1'
      go_wp2_with fail
      obtain ⟨St, hSt⟩ : ∃ St : World → Prop, St = Fr (fun b => b = w.heap.size + 1 + 1) W7 := ⟨_, rfl⟩
      have HT := Lib.hid (show ∀ w', Fr (fun b => b = w.heap.size + 1 + 1) W7 w' → At St w' from fun w' h => by unfold At; rw [hSt]; exact h)
      have lift : ∀ (q : Addr) (u : Value), q.block ≠ w.heap.size + 1 + 1 → W7.cell? q = some u → ∀ w', At St w' → w'.cell? q = some u := fun q u hb hq w' h => by replace h := h.out; rw [hSt] at h; exact h.cell hq hb
      have l0 := lift ⟨n5, 0, none⟩ _ (by simp only []; omega) n0'
      have l1 := lift ⟨n5, 1, none⟩ _ (by simp only []; omega) n1'
      have hT0 := HT.out W7.drew (Fr.refl _ _).drew
      have hT1 := HT.out _ ((Fr.refl (fun b => b = w.heap.size + 1 + 1) W7).drew.set2 (.inl rfl) (.bool true) (.float .f64 (sumC dy v)))
      clear hSt lift
      refine rt_start [3] (At St) 4 (by kernel_rfl) rfl ?_
      refine rt_take 0 (v := ?_) rfl (by kernel_rfl) (by kernel_rfl) (by kernel_rfl) (by kernel_rfl) (fun _ _ _ h => h) (by rfl) (by first | assumption | exact HS0 _ rfl | exact HT.out _ (by repeat (first | exact Fr.refl _ _ | apply Fr.drew | refine Fr.alloc ?_ _))) ?_ ?_
      rotate_left 1
      · intro w hSw; go_simp <;> with_reducible rfl
      try simp only [Act.put, List.setIfInBounds_toArray, List.set_cons_zero, List.set_cons_succ]
      refine rt_take 1 (v := ?_) rfl (by kernel_rfl) (by kernel_rfl) (by kernel_rfl) (by kernel_rfl) (fun _ _ _ h => h) (by rfl) (by first | assumption | exact HS0 _ rfl | exact HT.out _ (by repeat (first | exact Fr.refl _ _ | apply Fr.drew | refine Fr.alloc ?_ _))) ?_ ?_
      rotate_left 1
      · intro w hSw; go_simp <;> with_reducible rfl
      try simp only [Act.put, List.setIfInBounds_toArray, List.set_cons_zero, List.set_cons_succ]
      refine rt_one 2 rfl (by kernel_rfl) (fun K hK => ?_)
      go_simp
      refine hK.out (At St) _ _ (fun _ h => h) (fun _ => by (assumption)) ?_
      clear hK K
      try simp only [Act.put, List.setIfInBounds_toArray, List.set_cons_zero, List.set_cons_succ]
      refine rt_one 3 rfl (by kernel_rfl) (fun K hK => ?_)
      go_simp
      refine hK.out (At St) _ _ (fun _ h => h) (late_abs (by kernel_rfl)) ?_
      clear hK K
      try simp only [Act.put, List.setIfInBounds_toArray, List.set_cons_zero, List.set_cons_succ]
      refine rt_done (by kernel_rfl) ?_
      go_wp2_with fail
      exact bodyPost_ret (results_cc Try.results22 _ _ (w.heap.size + 1 + 1) (w.heap.size + 1 + 1 + 1) _ _ _ _ _ _ _ _ rfl (Blk.far2 (Blk.set2 hR.drew) (by omega) _ _) Try.underlying53 rfl (by kernel_rfl) rfl (Blk.set2 (Blk.far2 hT.drew (by omega) _ _)) Try.underlying53 rfl (by kernel_rfl)) rfl ⟨by rw [doC_add HQ.out rfl], (hF.drew.set2 (.inr (by omega)) _ _).set2 (.inr (by omega)) _ _⟩
  · rw [errCmd_no hq]
    have HQ := Lib.hid hq
    clear hq
    go_wp2_with fail
    exact bodyPost_ret (results_cc Try.results22 _ _ (w.heap.size + 1 + 1) (w.heap.size + 1 + 1 + 1) _ _ _ _ _ _ _ _ rfl (Blk.far2 (Blk.set2 hR) (by omega) _ _) Try.underlying53 rfl (by kernel_rfl) rfl (Blk.set2 (Blk.far2 hT (by omega) _ _)) Try.underlying53 rfl (by kernel_rfl)) rfl ⟨by rw [doC_bad HQ.out], (hF.set2 (.inr (by omega)) _ _).set2 (.inr (by omega)) _ _⟩
end Go.Proofs.Ytepfhcimmbkilaa
/- Cells: what a command makes of one by the reference; which are the same, by the program and by the reference. -/
namespace Go.Proofs.Ytepfhcimmbkilaa
open Go.RowKit
open Go.Proofs.YtepfhcimmbkilaaW.PrintWords

theorem cell0_ok : CellOk (false, 0) := Nat.zero_lt_of_lt (by decide : 0 < 18446744073709551616)
set_option maxHeartbeats 2000000 in
theorem ref_do (c : CellD) (x : Cmd) (w : World) (hc : CellOk c) (hx : CmdGood x) :
    Calls Try.prog 25 #[cellV c, cmdV x] w fun r w' => ∃ u t, r = .returned (.tuple #[cellV u, cellV t]) ∧ absC u = (doC (absC c) x).1 ∧ absC t = (doC (absC c) x).2 ∧ CellOk u ∧ CellOk t ∧ Fr (fun _ => False) w w' := by
  obtain ⟨k, s, v⟩ := x
  obtain ⟨hs, hv⟩ := hx
  simp only at hs hv
  obtain ⟨f, y⟩ := c
  have hy0 : (0 : Nat) < 18446744073709551616 := by decide
  cases f
  · have hF : Fr (fun _ => False) w _ := ((((Fr.refl (fun _ => False) w).alloc (.cells #[.bool false, .float .f64 0] 53)).alloc (.cells #[.int .i64 k, .string s, .float .f64 v] 37)).alloc (.cells #[.bool false, .float .f64 0] 53)).alloc (.cells #[.bool false, .float .f64 0] 53)
    have hC := (((Blk.new w 53 #[.bool false, .float .f64 0]).alloc (.cells #[.int .i64 k, .string s, .float .f64 v] 37)).alloc (.cells #[.bool false, .float .f64 0] 53)).alloc (.cells #[.bool false, .float .f64 0] 53)
    have hX := ((Blk.new (w.alloc (.cells #[.bool false, .float .f64 0] 53)) 37 #[.int .i64 k, .string s, .float .f64 v]).alloc (.cells #[.bool false, .float .f64 0] 53)).alloc (.cells #[.bool false, .float .f64 0] 53)
    have hR := (Blk.new ((w.alloc (.cells #[.bool false, .float .f64 0] 53)).alloc (.cells #[.int .i64 k, .string s, .float .f64 v] 37)) 53 #[.bool false, .float .f64 0]).alloc (.cells #[.bool false, .float .f64 0] 53)
    have hT := Blk.new (((w.alloc (.cells #[.bool false, .float .f64 0] 53)).alloc (.cells #[.int .i64 k, .string s, .float .f64 v] 37)).alloc (.cells #[.bool false, .float .f64 0] 53)) 53 #[.bool false, .float .f64 0]
    rw [World.size_alloc] at hX
    rw [World.size_alloc, World.size_alloc] at hR
    rw [World.size_alloc, World.size_alloc, World.size_alloc] at hT
    go_enter Try.func25, Try.ntmps25
    go_wp2_with fail
    have hcx := fun w => ref_cmd_right k s v w hs hv
    refine (hcx _).mono ?_
    rintro r w4 ⟨rfl, hF4⟩
    replace hF := hF.trans hF4
    replace hC := hC.fr hF4 (fun h => h)
    replace hX := hX.fr hF4 (fun h => h)
    replace hR := hR.fr hF4 (fun h => h)
    replace hT := hT.fr hF4 (fun h => h)
    clear hF4
    have c0 := hC.cell 0
    have c1 := hC.cell 1
    have x0 := hX.cell 0
    have x1 := hX.cell 1
    have x2 := hX.cell 2
    have r0 := hR.cell 0
    have r1 := hR.cell 1
    have rf := hR.frozen
    have t0 := hT.cell 0
    have t1 := hT.cell 1
    have tf := hT.frozen
    simp only [List.getElem?_toArray, List.getElem?_cons_zero, List.getElem?_cons_succ] at c0 c1 x0 x1 x2 r0 r1 t0 t1
    have hl4 := Lib.hid hT.lt
    by_cases hq : cmdOk (k, s, v)
    · rw [cdec_true hq]
      have HQ := Lib.hid hq
      have hk := hq.1
      simp only at hk
      clear hq
      rcases hk with hk | hk | hk | hk
      · subst hk
        go_wp2_with fail
        obtain ⟨St, hSt⟩ : ∃ St : World → Prop, St = Fr (fun b => b = w.heap.size + 1 + 1) w4 := ⟨_, rfl⟩
        have HT := Lib.hid (show ∀ w', Fr (fun b => b = w.heap.size + 1 + 1) w4 w' → At St w' from fun w' h => by unfold At; rw [hSt]; exact h)
        have lift : ∀ (q : Addr) (u : Value), q.block ≠ w.heap.size + 1 + 1 → w4.cell? q = some u → ∀ w', At St w' → w'.cell? q = some u := fun q u hb hq w' h => by replace h := h.out; rw [hSt] at h; exact h.cell hq hb
        have l0 := lift ⟨w.heap.size, 0, none⟩ _ (by simp only []; omega) c0
        have l1 := lift ⟨w.heap.size, 1, none⟩ _ (by simp only []; omega) c1
        have hT0 := HT.out w4.drew (Fr.refl _ _).drew
        have hT1 := HT.out _ ((Fr.refl (fun b => b = w.heap.size + 1 + 1) w4).drew.set2 (.inl rfl) (.bool false) (.float .f64 0))
        clear hSt lift
        refine rt_start [3] (At St) 4 (by kernel_rfl) rfl ?_
        refine rt_take 0 (v := ?_) rfl (by kernel_rfl) (by kernel_rfl) (by kernel_rfl) (by kernel_rfl) (fun _ _ _ h => h) (by rfl) (by first | assumption | exact HS0 _ rfl | exact HT.out _ (by repeat (first | exact Fr.refl _ _ | apply Fr.drew | refine Fr.alloc ?_ _))) ?_ ?_
        rotate_left 1
        · intro w hSw; go_simp <;> with_reducible rfl
        try simp only [Act.put, List.setIfInBounds_toArray, List.set_cons_zero, List.set_cons_succ]
        refine rt_take 1 (v := ?_) rfl (by kernel_rfl) (by kernel_rfl) (by kernel_rfl) (by kernel_rfl) (fun _ _ _ h => h) (by rfl) (by first | assumption | exact HS0 _ rfl | exact HT.out _ (by repeat (first | exact Fr.refl _ _ | apply Fr.drew | refine Fr.alloc ?_ _))) ?_ ?_
        rotate_left 1
        · intro w hSw; go_simp <;> with_reducible rfl
        try simp only [Act.put, List.setIfInBounds_toArray, List.set_cons_zero, List.set_cons_succ]
        refine rt_one 2 rfl (by kernel_rfl) (fun K hK => ?_)
        go_simp
        refine hK.out (At St) _ _ (fun _ h => h) (fun _ => by (assumption)) ?_
        clear hK K
        try simp only [Act.put, List.setIfInBounds_toArray, List.set_cons_zero, List.set_cons_succ]
        refine rt_one 3 rfl (by kernel_rfl) (fun K hK => ?_)
        go_simp
        refine hK.out (At St) _ _ (fun _ h => h) (late_abs (by kernel_rfl)) ?_
        clear hK K
        try simp only [Act.put, List.setIfInBounds_toArray, List.set_cons_zero, List.set_cons_succ]
        refine rt_done (by kernel_rfl) ?_
        go_wp2_with fail
        exact bodyPost_ret (results_cc Try.results25 _ _ (w.heap.size + 1 + 1) (w.heap.size + 1 + 1 + 1) _ _ _ _ _ _ _ _ rfl (Blk.far2 (Blk.set2 hR.drew) (by omega) _ _) Try.underlying53 rfl (by kernel_rfl) rfl (Blk.set2 (Blk.far2 hT.drew (by omega) _ _)) Try.underlying53 rfl (by kernel_rfl)) rfl ⟨(false, 0), (false, 0), rfl, (by rw [doC_get HQ.out rfl] <;> rfl), (by rw [doC_get HQ.out rfl] <;> rfl), cell0_ok, cell0_ok, (hF.drew.set2 (.inr (by omega)) _ _).set2 (.inr (by omega)) _ _⟩

      · subst hk
        go_wp2_with fail
        obtain ⟨St, hSt⟩ : ∃ St : World → Prop, St = Fr (fun b => b = w.heap.size + 1 + 1) w4 := ⟨_, rfl⟩
        have HT := Lib.hid (show ∀ w', Fr (fun b => b = w.heap.size + 1 + 1) w4 w' → At St w' from fun w' h => by unfold At; rw [hSt]; exact h)
        have lift : ∀ (q : Addr) (u : Value), q.block ≠ w.heap.size + 1 + 1 → w4.cell? q = some u → ∀ w', At St w' → w'.cell? q = some u := fun q u hb hq w' h => by replace h := h.out; rw [hSt] at h; exact h.cell hq hb
        have l0 := lift ⟨w.heap.size, 0, none⟩ _ (by simp only []; omega) c0
        have l1 := lift ⟨w.heap.size, 1, none⟩ _ (by simp only []; omega) c1
        have l2 := lift ⟨w.heap.size + 1, 2, none⟩ _ (by simp only []; omega) x2
        have hT0 := HT.out w4.drew (Fr.refl _ _).drew
        have hT1 := HT.out _ ((Fr.refl (fun b => b = w.heap.size + 1 + 1) w4).drew.set2 (.inl rfl) (.bool true) (.float .f64 v))
        clear hSt lift
        refine rt_start [5] (At St) 6 (by kernel_rfl) rfl ?_
        refine rt_free 0 (v := ?_) rfl (by kernel_rfl) (by kernel_rfl) (by kernel_rfl) (by kernel_rfl) (fun _ _ _ h => h) (by rfl) (fun _ => by first | assumption | exact HS0 _ rfl | exact HT.out _ (by repeat (first | exact Fr.refl _ _ | apply Fr.drew | refine Fr.alloc ?_ _))) ?_ ?_
        rotate_left 1
        · intro w; go_simp <;> with_reducible rfl
        try simp only [Act.put, List.setIfInBounds_toArray, List.set_cons_zero, List.set_cons_succ]
        refine rt_take 1 (v := ?_) rfl (by kernel_rfl) (by kernel_rfl) (by kernel_rfl) (by kernel_rfl) (fun _ _ _ h => h) (by rfl) (by first | assumption | exact HS0 _ rfl | exact HT.out _ (by repeat (first | exact Fr.refl _ _ | apply Fr.drew | refine Fr.alloc ?_ _))) ?_ ?_
        rotate_left 1
        · intro w hSw; go_simp <;> with_reducible rfl
        try simp only [Act.put, List.setIfInBounds_toArray, List.set_cons_zero, List.set_cons_succ]
        refine rt_free 2 (v := ?_) rfl (by kernel_rfl) (by kernel_rfl) (by kernel_rfl) (by kernel_rfl) (fun _ _ _ h => h) (by rfl) (fun _ => by first | assumption | exact HS0 _ rfl | exact HT.out _ (by repeat (first | exact Fr.refl _ _ | apply Fr.drew | refine Fr.alloc ?_ _))) ?_ ?_
        rotate_left 1
        · intro w; go_simp <;> with_reducible rfl
        try simp only [Act.put, List.setIfInBounds_toArray, List.set_cons_zero, List.set_cons_succ]
        refine rt_take 3 (v := ?_) rfl (by kernel_rfl) (by kernel_rfl) (by kernel_rfl) (by kernel_rfl) (fun _ _ _ h => h) (by rfl) (by first | assumption | exact HS0 _ rfl | exact HT.out _ (by repeat (first | exact Fr.refl _ _ | apply Fr.drew | refine Fr.alloc ?_ _))) ?_ ?_
        rotate_left 1
        · intro w hSw; go_simp <;> with_reducible rfl
        try simp only [Act.put, List.setIfInBounds_toArray, List.set_cons_zero, List.set_cons_succ]
        refine rt_one 4 rfl (by kernel_rfl) (fun K hK => ?_)
        go_simp
        refine hK.out (At St) _ _ (fun _ h => h) (fun _ => by (assumption)) ?_
        clear hK K
        try simp only [Act.put, List.setIfInBounds_toArray, List.set_cons_zero, List.set_cons_succ]
        refine rt_one 5 rfl (by kernel_rfl) (fun K hK => ?_)
        go_simp
        refine hK.out (At St) _ _ (fun _ h => h) (late_abs (by kernel_rfl)) ?_
        clear hK K
        try simp only [Act.put, List.setIfInBounds_toArray, List.set_cons_zero, List.set_cons_succ]
        refine rt_done (by kernel_rfl) ?_
        go_wp2_with fail
        exact bodyPost_ret (results_cc Try.results25 _ _ (w.heap.size + 1 + 1) (w.heap.size + 1 + 1 + 1) _ _ _ _ _ _ _ _ rfl (Blk.far2 (Blk.set2 hR.drew) (by omega) _ _) Try.underlying53 rfl (by kernel_rfl) rfl (Blk.set2 (Blk.far2 hT.drew (by omega) _ _)) Try.underlying53 rfl (by kernel_rfl)) rfl ⟨(true, v), (false, 0), rfl, (by rw [doC_put HQ.out rfl] <;> rfl), (by rw [doC_put HQ.out rfl] <;> rfl), hv, cell0_ok, (hF.drew.set2 (.inr (by omega)) _ _).set2 (.inr (by omega)) _ _⟩

      · subst hk
        go_wp2_with fail
        obtain ⟨St, hSt⟩ : ∃ St : World → Prop, St = Fr (fun b => b = w.heap.size + 1 + 1) w4 := ⟨_, rfl⟩
        have HT := Lib.hid (show ∀ w', Fr (fun b => b = w.heap.size + 1 + 1) w4 w' → At St w' from fun w' h => by unfold At; rw [hSt]; exact h)
        have lift : ∀ (q : Addr) (u : Value), q.block ≠ w.heap.size + 1 + 1 → w4.cell? q = some u → ∀ w', At St w' → w'.cell? q = some u := fun q u hb hq w' h => by replace h := h.out; rw [hSt] at h; exact h.cell hq hb
        have l0 := lift ⟨w.heap.size, 0, none⟩ _ (by simp only []; omega) c0
        have l1 := lift ⟨w.heap.size, 1, none⟩ _ (by simp only []; omega) c1
        have hT0 := HT.out w4.drew (Fr.refl _ _).drew
        have hT1 := HT.out _ ((Fr.refl (fun b => b = w.heap.size + 1 + 1) w4).drew.set2 (.inl rfl) (.bool false) (.float .f64 0))
        clear hSt lift
        refine rt_start [3] (At St) 4 (by kernel_rfl) rfl ?_
        refine rt_free 0 (v := ?_) rfl (by kernel_rfl) (by kernel_rfl) (by kernel_rfl) (by kernel_rfl) (fun _ _ _ h => h) (by rfl) (fun _ => by first | assumption | exact HS0 _ rfl | exact HT.out _ (by repeat (first | exact Fr.refl _ _ | apply Fr.drew | refine Fr.alloc ?_ _))) ?_ ?_
        rotate_left 1
        · intro w; go_simp <;> with_reducible rfl
        try simp only [Act.put, List.setIfInBounds_toArray, List.set_cons_zero, List.set_cons_succ]
        refine rt_take 1 (v := ?_) rfl (by kernel_rfl) (by kernel_rfl) (by kernel_rfl) (by kernel_rfl) (fun _ _ _ h => h) (by rfl) (by first | assumption | exact HS0 _ rfl | exact HT.out _ (by repeat (first | exact Fr.refl _ _ | apply Fr.drew | refine Fr.alloc ?_ _))) ?_ ?_
        rotate_left 1
        · intro w hSw; go_simp <;> with_reducible rfl
        try simp only [Act.put, List.setIfInBounds_toArray, List.set_cons_zero, List.set_cons_succ]
        refine rt_one 2 rfl (by kernel_rfl) (fun K hK => ?_)
        go_simp
        refine hK.out (At St) _ _ (fun _ h => h) (fun _ => by (assumption)) ?_
        clear hK K
        try simp only [Act.put, List.setIfInBounds_toArray, List.set_cons_zero, List.set_cons_succ]
        refine rt_one 3 rfl (by kernel_rfl) (fun K hK => ?_)
        go_simp
        refine hK.out (At St) _ _ (fun _ h => h) (late_abs (by kernel_rfl)) ?_
        clear hK K
        try simp only [Act.put, List.setIfInBounds_toArray, List.set_cons_zero, List.set_cons_succ]
        refine rt_done (by kernel_rfl) ?_
        go_wp2_with fail
        exact bodyPost_ret (results_cc Try.results25 _ _ (w.heap.size + 1 + 1) (w.heap.size + 1 + 1 + 1) _ _ _ _ _ _ _ _ rfl (Blk.far2 (Blk.set2 hR.drew) (by omega) _ _) Try.underlying53 rfl (by kernel_rfl) rfl (Blk.set2 (Blk.far2 hT.drew (by omega) _ _)) Try.underlying53 rfl (by kernel_rfl)) rfl ⟨(false, 0), (false, 0), rfl, (by rw [doC_del HQ.out rfl] <;> rfl), (by rw [doC_del HQ.out rfl] <;> rfl), cell0_ok, cell0_ok, (hF.drew.set2 (.inr (by omega)) _ _).set2 (.inr (by omega)) _ _⟩

      · subst hk
        obtain ⟨u, wS, hu, hrun, hFS, hor⟩ := add_any 0 v hy0 hv w4
        replace hC := (hC.fr hFS (fun h => h)).alloc (.cells #[.bool true, .float .f64 u] 53)
        replace hR := (hR.fr hFS (fun h => h)).alloc (.cells #[.bool true, .float .f64 u] 53)
        replace hT := (hT.fr hFS (fun h => h)).alloc (.cells #[.bool true, .float .f64 u] 53)
        replace hF := (hF.trans hFS).alloc (.cells #[.bool true, .float .f64 u] 53)
        have hlS := hFS.size
        have hlt := hT.lt
        rw [World.size_alloc] at hlt
        have hN5 := Blk.new wS 53 #[.bool true, .float .f64 u]
        obtain ⟨W5, hW5⟩ : ∃ W, wS.alloc (.cells #[.bool true, .float .f64 u] 53) = W := ⟨_, rfl⟩
        obtain ⟨n5, hn5⟩ : ∃ n, wS.heap.size = n := ⟨_, rfl⟩
        rw [hW5] at hN5 hC hR hT hF
        rw [hn5] at hN5 hlt
        have n0 := hN5.cell 0
        have n1 := hN5.cell 1
        have r0' := hR.cell 0
        have r1' := hR.cell 1
        have rf' := hR.frozen
        have t0' := hT.cell 0
        have t1' := hT.cell 1
        have tf' := hT.frozen
        simp only [List.getElem?_toArray, List.getElem?_cons_zero, List.getElem?_cons_succ] at n0 n1 r0' r1' t0' t1'
        have HOR := Lib.hid hor
        have q5 : w.heap.size + 1 + 1 + 1 < n5 := by have := hl4.out; omega
        have HU := Lib.hid hu
        clear hor hFS hu hlS hlt
        go_wp2_with fail
        obtain ⟨St, hSt⟩ : ∃ St : World → Prop, St = Fr (fun b => b = w.heap.size + 1 + 1) W5 := ⟨_, rfl⟩
        have HT := Lib.hid (show ∀ w', Fr (fun b => b = w.heap.size + 1 + 1) W5 w' → At St w' from fun w' h => by unfold At; rw [hSt]; exact h)
        have lift : ∀ (q : Addr) (u : Value), q.block ≠ w.heap.size + 1 + 1 → W5.cell? q = some u → ∀ w', At St w' → w'.cell? q = some u := fun q u hb hq w' h => by replace h := h.out; rw [hSt] at h; exact h.cell hq hb
        have l0 := lift ⟨n5, 0, none⟩ _ (by simp only []; omega) n0
        have l1 := lift ⟨n5, 1, none⟩ _ (by simp only []; omega) n1
        have hT0 := HT.out W5.drew (Fr.refl _ _).drew
        have hT1 := HT.out _ ((Fr.refl (fun b => b = w.heap.size + 1 + 1) W5).drew.set2 (.inl rfl) (.bool true) (.float .f64 u))
        clear hSt lift
        refine rt_start [3] (At St) 4 (by kernel_rfl) rfl ?_
        refine rt_take 0 (v := ?_) rfl (by kernel_rfl) (by kernel_rfl) (by kernel_rfl) (by kernel_rfl) (fun _ _ _ h => h) (by rfl) (by first | assumption | exact HS0 _ rfl | exact HT.out _ (by repeat (first | exact Fr.refl _ _ | apply Fr.drew | refine Fr.alloc ?_ _))) ?_ ?_
        rotate_left 1
        · intro w hSw; go_simp <;> with_reducible rfl
        try simp only [Act.put, List.setIfInBounds_toArray, List.set_cons_zero, List.set_cons_succ]
        refine rt_take 1 (v := ?_) rfl (by kernel_rfl) (by kernel_rfl) (by kernel_rfl) (by kernel_rfl) (fun _ _ _ h => h) (by rfl) (by first | assumption | exact HS0 _ rfl | exact HT.out _ (by repeat (first | exact Fr.refl _ _ | apply Fr.drew | refine Fr.alloc ?_ _))) ?_ ?_
        rotate_left 1
        · intro w hSw; go_simp <;> with_reducible rfl
        try simp only [Act.put, List.setIfInBounds_toArray, List.set_cons_zero, List.set_cons_succ]
        refine rt_one 2 rfl (by kernel_rfl) (fun K hK => ?_)
        go_simp
        refine hK.out (At St) _ _ (fun _ h => h) (fun _ => by (assumption)) ?_
        clear hK K
        try simp only [Act.put, List.setIfInBounds_toArray, List.set_cons_zero, List.set_cons_succ]
        refine rt_one 3 rfl (by kernel_rfl) (fun K hK => ?_)
        go_simp
        refine hK.out (At St) _ _ (fun _ h => h) (late_abs (by kernel_rfl)) ?_
        clear hK K
        try simp only [Act.put, List.setIfInBounds_toArray, List.set_cons_zero, List.set_cons_succ]
        refine rt_done (by kernel_rfl) ?_
        go_wp2_with fail
        exact bodyPost_ret (results_cc Try.results25 _ _ (w.heap.size + 1 + 1) (w.heap.size + 1 + 1 + 1) _ _ _ _ _ _ _ _ rfl (Blk.far2 (Blk.set2 hR.drew) (by omega) _ _) Try.underlying53 rfl (by kernel_rfl) rfl (Blk.set2 (Blk.far2 hT.drew (by omega) _ _)) Try.underlying53 rfl (by kernel_rfl)) rfl ⟨(true, u), (true, u), rfl, (by rw [doC_add HQ.out rfl]; exact (congrArg (Prod.mk true) ((sumC_of HOR.out).trans (rfl)))), (by rw [doC_add HQ.out rfl]; exact (congrArg (Prod.mk true) ((sumC_of HOR.out).trans (rfl)))), HU.out, HU.out, (hF.drew.set2 (.inr (by omega)) _ _).set2 (.inr (by omega)) _ _⟩

    · rw [cdec_false hq]
      have HQ := Lib.hid hq
      clear hq
      go_wp2_with fail
      exact bodyPost_ret (results_cc Try.results25 _ _ (w.heap.size + 1 + 1) (w.heap.size + 1 + 1 + 1) _ _ _ _ _ _ _ _ rfl (Blk.far2 (Blk.set2 hR) (by omega) _ _) Try.underlying53 rfl (by kernel_rfl) rfl (Blk.set2 (Blk.far2 hT (by omega) _ _)) Try.underlying53 rfl (by kernel_rfl)) rfl ⟨(false, 0), (false, 0), rfl, (by rw [doC_bad HQ.out] <;> rfl), (by rw [doC_bad HQ.out] <;> rfl), cell0_ok, cell0_ok, (hF.set2 (.inr (by omega)) _ _).set2 (.inr (by omega)) _ _⟩

  · have hF : Fr (fun _ => False) w _ := ((((Fr.refl (fun _ => False) w).alloc (.cells #[.bool true, .float .f64 y] 53)).alloc (.cells #[.int .i64 k, .string s, .float .f64 v] 37)).alloc (.cells #[.bool false, .float .f64 0] 53)).alloc (.cells #[.bool false, .float .f64 0] 53)
    have hC := (((Blk.new w 53 #[.bool true, .float .f64 y]).alloc (.cells #[.int .i64 k, .string s, .float .f64 v] 37)).alloc (.cells #[.bool false, .float .f64 0] 53)).alloc (.cells #[.bool false, .float .f64 0] 53)
    have hX := ((Blk.new (w.alloc (.cells #[.bool true, .float .f64 y] 53)) 37 #[.int .i64 k, .string s, .float .f64 v]).alloc (.cells #[.bool false, .float .f64 0] 53)).alloc (.cells #[.bool false, .float .f64 0] 53)
    have hR := (Blk.new ((w.alloc (.cells #[.bool true, .float .f64 y] 53)).alloc (.cells #[.int .i64 k, .string s, .float .f64 v] 37)) 53 #[.bool false, .float .f64 0]).alloc (.cells #[.bool false, .float .f64 0] 53)
    have hT := Blk.new (((w.alloc (.cells #[.bool true, .float .f64 y] 53)).alloc (.cells #[.int .i64 k, .string s, .float .f64 v] 37)).alloc (.cells #[.bool false, .float .f64 0] 53)) 53 #[.bool false, .float .f64 0]
    rw [World.size_alloc] at hX
    rw [World.size_alloc, World.size_alloc] at hR
    rw [World.size_alloc, World.size_alloc, World.size_alloc] at hT
    go_enter Try.func25, Try.ntmps25
    go_wp2_with fail
    have hcx := fun w => ref_cmd_right k s v w hs hv
    refine (hcx _).mono ?_
    rintro r w4 ⟨rfl, hF4⟩
    replace hF := hF.trans hF4
    replace hC := hC.fr hF4 (fun h => h)
    replace hX := hX.fr hF4 (fun h => h)
    replace hR := hR.fr hF4 (fun h => h)
    replace hT := hT.fr hF4 (fun h => h)
    clear hF4
    have c0 := hC.cell 0
    have c1 := hC.cell 1
    have x0 := hX.cell 0
    have x1 := hX.cell 1
    have x2 := hX.cell 2
    have r0 := hR.cell 0
    have r1 := hR.cell 1
    have rf := hR.frozen
    have t0 := hT.cell 0
    have t1 := hT.cell 1
    have tf := hT.frozen
    simp only [List.getElem?_toArray, List.getElem?_cons_zero, List.getElem?_cons_succ] at c0 c1 x0 x1 x2 r0 r1 t0 t1
    have hl4 := Lib.hid hT.lt
    by_cases hq : cmdOk (k, s, v)
    · rw [cdec_true hq]
      have HQ := Lib.hid hq
      have hk := hq.1
      simp only at hk
      clear hq
      rcases hk with hk | hk | hk | hk
      · subst hk
        go_wp2_with fail
        obtain ⟨St, hSt⟩ : ∃ St : World → Prop, St = Fr (fun b => b = w.heap.size + 1 + 1) w4 := ⟨_, rfl⟩
        have HT := Lib.hid (show ∀ w', Fr (fun b => b = w.heap.size + 1 + 1) w4 w' → At St w' from fun w' h => by unfold At; rw [hSt]; exact h)
        have lift : ∀ (q : Addr) (u : Value), q.block ≠ w.heap.size + 1 + 1 → w4.cell? q = some u → ∀ w', At St w' → w'.cell? q = some u := fun q u hb hq w' h => by replace h := h.out; rw [hSt] at h; exact h.cell hq hb
        have l0 := lift ⟨w.heap.size, 0, none⟩ _ (by simp only []; omega) c0
        have l1 := lift ⟨w.heap.size, 1, none⟩ _ (by simp only []; omega) c1
        have hT0 := HT.out w4.drew (Fr.refl _ _).drew
        have hT1 := HT.out _ ((Fr.refl (fun b => b = w.heap.size + 1 + 1) w4).drew.set2 (.inl rfl) (.bool true) (.float .f64 y))
        clear hSt lift
        refine rt_start [3] (At St) 4 (by kernel_rfl) rfl ?_
        refine rt_take 0 (v := ?_) rfl (by kernel_rfl) (by kernel_rfl) (by kernel_rfl) (by kernel_rfl) (fun _ _ _ h => h) (by rfl) (by first | assumption | exact HS0 _ rfl | exact HT.out _ (by repeat (first | exact Fr.refl _ _ | apply Fr.drew | refine Fr.alloc ?_ _))) ?_ ?_
        rotate_left 1
        · intro w hSw; go_simp <;> with_reducible rfl
        try simp only [Act.put, List.setIfInBounds_toArray, List.set_cons_zero, List.set_cons_succ]
        refine rt_take 1 (v := ?_) rfl (by kernel_rfl) (by kernel_rfl) (by kernel_rfl) (by kernel_rfl) (fun _ _ _ h => h) (by rfl) (by first | assumption | exact HS0 _ rfl | exact HT.out _ (by repeat (first | exact Fr.refl _ _ | apply Fr.drew | refine Fr.alloc ?_ _))) ?_ ?_
        rotate_left 1
        · intro w hSw; go_simp <;> with_reducible rfl
        try simp only [Act.put, List.setIfInBounds_toArray, List.set_cons_zero, List.set_cons_succ]
        refine rt_one 2 rfl (by kernel_rfl) (fun K hK => ?_)
        go_simp
        refine hK.out (At St) _ _ (fun _ h => h) (fun _ => by (assumption)) ?_
        clear hK K
        try simp only [Act.put, List.setIfInBounds_toArray, List.set_cons_zero, List.set_cons_succ]
        refine rt_one 3 rfl (by kernel_rfl) (fun K hK => ?_)
        go_simp
        refine hK.out (At St) _ _ (fun _ h => h) (late_abs (by kernel_rfl)) ?_
        clear hK K
        try simp only [Act.put, List.setIfInBounds_toArray, List.set_cons_zero, List.set_cons_succ]
        refine rt_done (by kernel_rfl) ?_
        go_wp2_with fail
        exact bodyPost_ret (results_cc Try.results25 _ _ (w.heap.size + 1 + 1) (w.heap.size + 1 + 1 + 1) _ _ _ _ _ _ _ _ rfl (Blk.far2 (Blk.set2 hR.drew) (by omega) _ _) Try.underlying53 rfl (by kernel_rfl) rfl (Blk.set2 (Blk.far2 hT.drew (by omega) _ _)) Try.underlying53 rfl (by kernel_rfl)) rfl ⟨(true, y), (true, y), rfl, (by rw [doC_get HQ.out rfl] <;> rfl), (by rw [doC_get HQ.out rfl] <;> rfl), hc, hc, (hF.drew.set2 (.inr (by omega)) _ _).set2 (.inr (by omega)) _ _⟩

      · subst hk
        go_wp2_with fail
        obtain ⟨St, hSt⟩ : ∃ St : World → Prop, St = Fr (fun b => b = w.heap.size + 1 + 1) w4 := ⟨_, rfl⟩
        have HT := Lib.hid (show ∀ w', Fr (fun b => b = w.heap.size + 1 + 1) w4 w' → At St w' from fun w' h => by unfold At; rw [hSt]; exact h)
        have lift : ∀ (q : Addr) (u : Value), q.block ≠ w.heap.size + 1 + 1 → w4.cell? q = some u → ∀ w', At St w' → w'.cell? q = some u := fun q u hb hq w' h => by replace h := h.out; rw [hSt] at h; exact h.cell hq hb
        have l0 := lift ⟨w.heap.size, 0, none⟩ _ (by simp only []; omega) c0
        have l1 := lift ⟨w.heap.size, 1, none⟩ _ (by simp only []; omega) c1
        have l2 := lift ⟨w.heap.size + 1, 2, none⟩ _ (by simp only []; omega) x2
        have hT0 := HT.out w4.drew (Fr.refl _ _).drew
        have hT1 := HT.out _ ((Fr.refl (fun b => b = w.heap.size + 1 + 1) w4).drew.set2 (.inl rfl) (.bool true) (.float .f64 v))
        clear hSt lift
        refine rt_start [5] (At St) 6 (by kernel_rfl) rfl ?_
        refine rt_free 0 (v := ?_) rfl (by kernel_rfl) (by kernel_rfl) (by kernel_rfl) (by kernel_rfl) (fun _ _ _ h => h) (by rfl) (fun _ => by first | assumption | exact HS0 _ rfl | exact HT.out _ (by repeat (first | exact Fr.refl _ _ | apply Fr.drew | refine Fr.alloc ?_ _))) ?_ ?_
        rotate_left 1
        · intro w; go_simp <;> with_reducible rfl
        try simp only [Act.put, List.setIfInBounds_toArray, List.set_cons_zero, List.set_cons_succ]
        refine rt_take 1 (v := ?_) rfl (by kernel_rfl) (by kernel_rfl) (by kernel_rfl) (by kernel_rfl) (fun _ _ _ h => h) (by rfl) (by first | assumption | exact HS0 _ rfl | exact HT.out _ (by repeat (first | exact Fr.refl _ _ | apply Fr.drew | refine Fr.alloc ?_ _))) ?_ ?_
        rotate_left 1
        · intro w hSw; go_simp <;> with_reducible rfl
        try simp only [Act.put, List.setIfInBounds_toArray, List.set_cons_zero, List.set_cons_succ]
        refine rt_free 2 (v := ?_) rfl (by kernel_rfl) (by kernel_rfl) (by kernel_rfl) (by kernel_rfl) (fun _ _ _ h => h) (by rfl) (fun _ => by first | assumption | exact HS0 _ rfl | exact HT.out _ (by repeat (first | exact Fr.refl _ _ | apply Fr.drew | refine Fr.alloc ?_ _))) ?_ ?_
        rotate_left 1
        · intro w; go_simp <;> with_reducible rfl
        try simp only [Act.put, List.setIfInBounds_toArray, List.set_cons_zero, List.set_cons_succ]
        refine rt_take 3 (v := ?_) rfl (by kernel_rfl) (by kernel_rfl) (by kernel_rfl) (by kernel_rfl) (fun _ _ _ h => h) (by rfl) (by first | assumption | exact HS0 _ rfl | exact HT.out _ (by repeat (first | exact Fr.refl _ _ | apply Fr.drew | refine Fr.alloc ?_ _))) ?_ ?_
        rotate_left 1
        · intro w hSw; go_simp <;> with_reducible rfl
        try simp only [Act.put, List.setIfInBounds_toArray, List.set_cons_zero, List.set_cons_succ]
        refine rt_one 4 rfl (by kernel_rfl) (fun K hK => ?_)
        go_simp
        refine hK.out (At St) _ _ (fun _ h => h) (fun _ => by (assumption)) ?_
        clear hK K
        try simp only [Act.put, List.setIfInBounds_toArray, List.set_cons_zero, List.set_cons_succ]
        refine rt_one 5 rfl (by kernel_rfl) (fun K hK => ?_)
        go_simp
        refine hK.out (At St) _ _ (fun _ h => h) (late_abs (by kernel_rfl)) ?_
        clear hK K
        try simp only [Act.put, List.setIfInBounds_toArray, List.set_cons_zero, List.set_cons_succ]
        refine rt_done (by kernel_rfl) ?_
        go_wp2_with fail
        exact bodyPost_ret (results_cc Try.results25 _ _ (w.heap.size + 1 + 1) (w.heap.size + 1 + 1 + 1) _ _ _ _ _ _ _ _ rfl (Blk.far2 (Blk.set2 hR.drew) (by omega) _ _) Try.underlying53 rfl (by kernel_rfl) rfl (Blk.set2 (Blk.far2 hT.drew (by omega) _ _)) Try.underlying53 rfl (by kernel_rfl)) rfl ⟨(true, v), (true, y), rfl, (by rw [doC_put HQ.out rfl] <;> rfl), (by rw [doC_put HQ.out rfl] <;> rfl), hv, hc, (hF.drew.set2 (.inr (by omega)) _ _).set2 (.inr (by omega)) _ _⟩

      · subst hk
        go_wp2_with fail
        obtain ⟨St, hSt⟩ : ∃ St : World → Prop, St = Fr (fun b => b = w.heap.size + 1 + 1) w4 := ⟨_, rfl⟩
        have HT := Lib.hid (show ∀ w', Fr (fun b => b = w.heap.size + 1 + 1) w4 w' → At St w' from fun w' h => by unfold At; rw [hSt]; exact h)
        have lift : ∀ (q : Addr) (u : Value), q.block ≠ w.heap.size + 1 + 1 → w4.cell? q = some u → ∀ w', At St w' → w'.cell? q = some u := fun q u hb hq w' h => by replace h := h.out; rw [hSt] at h; exact h.cell hq hb
        have l0 := lift ⟨w.heap.size, 0, none⟩ _ (by simp only []; omega) c0
        have l1 := lift ⟨w.heap.size, 1, none⟩ _ (by simp only []; omega) c1
        have hT0 := HT.out w4.drew (Fr.refl _ _).drew
        have hT1 := HT.out _ ((Fr.refl (fun b => b = w.heap.size + 1 + 1) w4).drew.set2 (.inl rfl) (.bool false) (.float .f64 0))
        clear hSt lift
        refine rt_start [3] (At St) 4 (by kernel_rfl) rfl ?_
        refine rt_free 0 (v := ?_) rfl (by kernel_rfl) (by kernel_rfl) (by kernel_rfl) (by kernel_rfl) (fun _ _ _ h => h) (by rfl) (fun _ => by first | assumption | exact HS0 _ rfl | exact HT.out _ (by repeat (first | exact Fr.refl _ _ | apply Fr.drew | refine Fr.alloc ?_ _))) ?_ ?_
        rotate_left 1
        · intro w; go_simp <;> with_reducible rfl
        try simp only [Act.put, List.setIfInBounds_toArray, List.set_cons_zero, List.set_cons_succ]
        refine rt_take 1 (v := ?_) rfl (by kernel_rfl) (by kernel_rfl) (by kernel_rfl) (by kernel_rfl) (fun _ _ _ h => h) (by rfl) (by first | assumption | exact HS0 _ rfl | exact HT.out _ (by repeat (first | exact Fr.refl _ _ | apply Fr.drew | refine Fr.alloc ?_ _))) ?_ ?_
        rotate_left 1
        · intro w hSw; go_simp <;> with_reducible rfl
        try simp only [Act.put, List.setIfInBounds_toArray, List.set_cons_zero, List.set_cons_succ]
        refine rt_one 2 rfl (by kernel_rfl) (fun K hK => ?_)
        go_simp
        refine hK.out (At St) _ _ (fun _ h => h) (fun _ => by (assumption)) ?_
        clear hK K
        try simp only [Act.put, List.setIfInBounds_toArray, List.set_cons_zero, List.set_cons_succ]
        refine rt_one 3 rfl (by kernel_rfl) (fun K hK => ?_)
        go_simp
        refine hK.out (At St) _ _ (fun _ h => h) (late_abs (by kernel_rfl)) ?_
        clear hK K
        try simp only [Act.put, List.setIfInBounds_toArray, List.set_cons_zero, List.set_cons_succ]
        refine rt_done (by kernel_rfl) ?_
        go_wp2_with fail
        exact bodyPost_ret (results_cc Try.results25 _ _ (w.heap.size + 1 + 1) (w.heap.size + 1 + 1 + 1) _ _ _ _ _ _ _ _ rfl (Blk.far2 (Blk.set2 hR.drew) (by omega) _ _) Try.underlying53 rfl (by kernel_rfl) rfl (Blk.set2 (Blk.far2 hT.drew (by omega) _ _)) Try.underlying53 rfl (by kernel_rfl)) rfl ⟨(false, 0), (true, y), rfl, (by rw [doC_del HQ.out rfl] <;> rfl), (by rw [doC_del HQ.out rfl] <;> rfl), cell0_ok, hc, (hF.drew.set2 (.inr (by omega)) _ _).set2 (.inr (by omega)) _ _⟩

      · subst hk
        obtain ⟨u, wS, hu, hrun, hFS, hor⟩ := add_any y v hc hv w4
        replace hC := (hC.fr hFS (fun h => h)).alloc (.cells #[.bool true, .float .f64 u] 53)
        replace hR := (hR.fr hFS (fun h => h)).alloc (.cells #[.bool true, .float .f64 u] 53)
        replace hT := (hT.fr hFS (fun h => h)).alloc (.cells #[.bool true, .float .f64 u] 53)
        replace hF := (hF.trans hFS).alloc (.cells #[.bool true, .float .f64 u] 53)
        have hlS := hFS.size
        have hlt := hT.lt
        rw [World.size_alloc] at hlt
        have hN5 := Blk.new wS 53 #[.bool true, .float .f64 u]
        obtain ⟨W5, hW5⟩ : ∃ W, wS.alloc (.cells #[.bool true, .float .f64 u] 53) = W := ⟨_, rfl⟩
        obtain ⟨n5, hn5⟩ : ∃ n, wS.heap.size = n := ⟨_, rfl⟩
        rw [hW5] at hN5 hC hR hT hF
        rw [hn5] at hN5 hlt
        have n0 := hN5.cell 0
        have n1 := hN5.cell 1
        have r0' := hR.cell 0
        have r1' := hR.cell 1
        have rf' := hR.frozen
        have t0' := hT.cell 0
        have t1' := hT.cell 1
        have tf' := hT.frozen
        simp only [List.getElem?_toArray, List.getElem?_cons_zero, List.getElem?_cons_succ] at n0 n1 r0' r1' t0' t1'
        have HOR := Lib.hid hor
        have q5 : w.heap.size + 1 + 1 + 1 < n5 := by have := hl4.out; omega
        have HU := Lib.hid hu
        clear hor hFS hu hlS hlt
        go_wp2_with fail
        obtain ⟨St, hSt⟩ : ∃ St : World → Prop, St = Fr (fun b => b = w.heap.size + 1 + 1) W5 := ⟨_, rfl⟩
        have HT := Lib.hid (show ∀ w', Fr (fun b => b = w.heap.size + 1 + 1) W5 w' → At St w' from fun w' h => by unfold At; rw [hSt]; exact h)
        have lift : ∀ (q : Addr) (u : Value), q.block ≠ w.heap.size + 1 + 1 → W5.cell? q = some u → ∀ w', At St w' → w'.cell? q = some u := fun q u hb hq w' h => by replace h := h.out; rw [hSt] at h; exact h.cell hq hb
        have l0 := lift ⟨n5, 0, none⟩ _ (by simp only []; omega) n0
        have l1 := lift ⟨n5, 1, none⟩ _ (by simp only []; omega) n1
        have hT0 := HT.out W5.drew (Fr.refl _ _).drew
        have hT1 := HT.out _ ((Fr.refl (fun b => b = w.heap.size + 1 + 1) W5).drew.set2 (.inl rfl) (.bool true) (.float .f64 u))
        clear hSt lift
        refine rt_start [3] (At St) 4 (by kernel_rfl) rfl ?_
        refine rt_take 0 (v := ?_) rfl (by kernel_rfl) (by kernel_rfl) (by kernel_rfl) (by kernel_rfl) (fun _ _ _ h => h) (by rfl) (by first | assumption | exact HS0 _ rfl | exact HT.out _ (by repeat (first | exact Fr.refl _ _ | apply Fr.drew | refine Fr.alloc ?_ _))) ?_ ?_
        rotate_left 1
        · intro w hSw; go_simp <;> with_reducible rfl
        try simp only [Act.put, List.setIfInBounds_toArray, List.set_cons_zero, List.set_cons_succ]
        refine rt_take 1 (v := ?_) rfl (by kernel_rfl) (by kernel_rfl) (by kernel_rfl) (by kernel_rfl) (fun _ _ _ h => h) (by rfl) (by first | assumption | exact HS0 _ rfl | exact HT.out _ (by repeat (first | exact Fr.refl _ _ | apply Fr.drew | refine Fr.alloc ?_ _))) ?_ ?_
        rotate_left 1
        · intro w hSw; go_simp <;> with_reducible rfl
        try simp only [Act.put, List.setIfInBounds_toArray, List.set_cons_zero, List.set_cons_succ]
        refine rt_one 2 rfl (by kernel_rfl) (fun K hK => ?_)
        go_simp
        refine hK.out (At St) _ _ (fun _ h => h) (fun _ => by (assumption)) ?_
        clear hK K
        try simp only [Act.put, List.setIfInBounds_toArray, List.set_cons_zero, List.set_cons_succ]
        refine rt_one 3 rfl (by kernel_rfl) (fun K hK => ?_)
        go_simp
        refine hK.out (At St) _ _ (fun _ h => h) (late_abs (by kernel_rfl)) ?_
        clear hK K
        try simp only [Act.put, List.setIfInBounds_toArray, List.set_cons_zero, List.set_cons_succ]
        refine rt_done (by kernel_rfl) ?_
        go_wp2_with fail
        exact bodyPost_ret (results_cc Try.results25 _ _ (w.heap.size + 1 + 1) (w.heap.size + 1 + 1 + 1) _ _ _ _ _ _ _ _ rfl (Blk.far2 (Blk.set2 hR.drew) (by omega) _ _) Try.underlying53 rfl (by kernel_rfl) rfl (Blk.set2 (Blk.far2 hT.drew (by omega) _ _)) Try.underlying53 rfl (by kernel_rfl)) rfl ⟨(true, u), (true, u), rfl, (by rw [doC_add HQ.out rfl]; exact (congrArg (Prod.mk true) ((sumC_of HOR.out).trans ((sumC_l y v).symm)))), (by rw [doC_add HQ.out rfl]; exact (congrArg (Prod.mk true) ((sumC_of HOR.out).trans ((sumC_l y v).symm)))), HU.out, HU.out, (hF.drew.set2 (.inr (by omega)) _ _).set2 (.inr (by omega)) _ _⟩

    · rw [cdec_false hq]
      have HQ := Lib.hid hq
      clear hq
      go_wp2_with fail
      exact bodyPost_ret (results_cc Try.results25 _ _ (w.heap.size + 1 + 1) (w.heap.size + 1 + 1 + 1) _ _ _ _ _ _ _ _ rfl (Blk.far2 (Blk.set2 hR) (by omega) _ _) Try.underlying53 rfl (by kernel_rfl) rfl (Blk.set2 (Blk.far2 hT (by omega) _ _)) Try.underlying53 rfl (by kernel_rfl)) rfl ⟨(true, y), (false, 0), rfl, (by rw [doC_bad HQ.out] <;> rfl), (by rw [doC_bad HQ.out] <;> rfl), hc, cell0_ok, (hF.set2 (.inr (by omega)) _ _).set2 (.inr (by omega)) _ _⟩

set_option maxHeartbeats 1000000 in
theorem cell_same (a b : CellD) (w : World) (ha : CellOk a) (hb : CellOk b) : Calls Try.prog 35 #[cellV a, cellV b] w fun r w' => r = .returned (.bool (decide (absC a = absC b))) ∧ Fr (fun _ => False) w w' := by
  obtain ⟨f, x⟩ := a
  obtain ⟨g, y⟩ := b
  have hF := ((Fr.refl (fun _ => False) w).alloc (.cells #[.bool f, .float .f64 x] 53)).alloc (.cells #[.bool g, .float .f64 y] 53)
  cases f <;> cases g
  · go_enter Try.func35, Try.ntmps35
    go_wp2_with fail
    go_ret
    exact ⟨rfl, hF⟩
  · rw [decide_eq_false (show ¬ absC (false, x) = absC (true, y) from fun h => by rw [absC_no, absC_yes] at h; cases h)]
    go_enter Try.func35, Try.ntmps35
    go_wp2_with fail
    go_ret
    exact ⟨rfl, hF⟩
  · rw [decide_eq_false (show ¬ absC (true, x) = absC (false, y) from fun h => by rw [absC_no, absC_yes] at h; cases h)]
    go_enter Try.func35, Try.ntmps35
    go_wp2_with fail
    go_ret
    exact ⟨rfl, hF⟩
  · have hd : decide (absC (true, x) = absC (true, y)) = decide (key x = key y) := by
      rw [absC_yes, absC_yes]
      by_cases h : canonP x = canonP y
      · rw [decide_eq_true ((key_canon ha hb).1 h), h]; simp
      · rw [decide_eq_false fun e => h ((key_canon ha hb).2 e), decide_eq_false fun e => h (Prod.mk.inj e).2]
    rw [hd]
    clear hd
    go_enter Try.func35, Try.ntmps35
    go_wp2_with fail
    refine (real_same x y _ ha hb).mono ?_
    rintro r w2 ⟨rfl, rfl⟩
    go_wp2_with fail
    go_ret
    exact ⟨rfl, hF⟩
set_option maxHeartbeats 1000000 in
theorem ref_cell_same (a b : CellD) (w : World) (ha : CellOk a) (hb : CellOk b) : Calls Try.prog 27 #[cellV a, cellV b] w fun r w' => r = .returned (.bool (decide (absC a = absC b))) ∧ Fr (fun _ => False) w w' := by
  obtain ⟨f, x⟩ := a
  obtain ⟨g, y⟩ := b
  have hF := ((Fr.refl (fun _ => False) w).alloc (.cells #[.bool f, .float .f64 x] 53)).alloc (.cells #[.bool g, .float .f64 y] 53)
  cases f <;> cases g
  · go_enter Try.func27, Try.ntmps27
    go_wp2_with fail
    go_ret
    exact ⟨rfl, hF⟩
  · rw [decide_eq_false (show ¬ absC (false, x) = absC (true, y) from fun h => by rw [absC_no, absC_yes] at h; cases h)]
    go_enter Try.func27, Try.ntmps27
    go_wp2_with fail
    go_ret
    exact ⟨rfl, hF⟩
  · rw [decide_eq_false (show ¬ absC (true, x) = absC (false, y) from fun h => by rw [absC_no, absC_yes] at h; cases h)]
    go_enter Try.func27, Try.ntmps27
    go_wp2_with fail
    go_ret
    exact ⟨rfl, hF⟩
  · have hd : decide (absC (true, x) = absC (true, y)) = decide (key x = key y) := by
      rw [absC_yes, absC_yes]
      by_cases h : canonP x = canonP y
      · rw [decide_eq_true ((key_canon ha hb).1 h), h]; simp
      · rw [decide_eq_false fun e => h ((key_canon ha hb).2 e), decide_eq_false fun e => h (Prod.mk.inj e).2]
    rw [hd]
    clear hd
    go_enter Try.func27, Try.ntmps27
    go_wp2_with fail
    refine (ref_same x y _ ha hb).mono ?_
    rintro r w2 ⟨rfl, rfl⟩
    go_wp2_with fail
    go_ret
    exact ⟨rfl, hF⟩
end Go.Proofs.Ytepfhcimmbkilaa
