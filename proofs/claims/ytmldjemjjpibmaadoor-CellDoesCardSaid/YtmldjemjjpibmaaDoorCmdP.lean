/- Commands: which may be; by the program and by the reference. -/
import Derived.Test.YtmldjemjjpibmaaDoorKey
import Derived.Test.YtmldjemjjpibmaaDoorFltK
set_option linter.unusedVariables false
set_option linter.unusedSimpArgs false
namespace Go.Proofs.YtmldjemjjpibmaaDoor
open Go.RowKit
open Go.Proofs.YtmldjemjjpibmaaDoorW.PrintWords

theorem key_nil (x : Nat) (hx : x < 18446744073709551616) : key x = key 0 ↔ x = 0 := by
  constructor
  · intro h
    have h0 : key 0 = 0 := by decide +kernel
    rw [h0] at h
    unfold key at h
    split at h
    · cases h
    · split at h
      · omega
      · rename_i h1 h2
        have hr : rung x = 0 := by omega
        rcases zero_cases hx (by unfold rank; rw [if_neg h2, hr]; rfl) with h3 | h3
        · exact h3
        · subst h3; exact absurd (by decide +kernel) h2
  · rintro rfl; rfl
theorem kind_nil (x : Nat) (hx : x < 18446744073709551616) : kindP x = 4 ↔ x = 0 := by
  constructor
  · intro h
    unfold kindP at h
    by_cases h1 : nanW x
    · rw [if_pos h1] at h; cases h
    · rw [if_neg h1] at h
      by_cases h2 : rank x < -9218868437227405311
      · rw [if_pos h2] at h; cases h
      · rw [if_neg h2] at h
        by_cases h3 : rank x < 0
        · rw [if_pos h3] at h; cases h
        · rw [if_neg h3] at h
          by_cases h4 : rank x = 0
          · rcases zero_cases hx h4 with h5 | h5
            · exact h5
            · subst h5; rw [if_pos h4, if_pos (by decide +kernel)] at h; cases h
          · rw [if_neg h4] at h
            split at h <;> cases h
  · rintro rfl; decide +kernel
def cmdOk (c : Cmd) : Prop := (c.1 = 1 ∨ c.1 = 2 ∨ c.1 = 3 ∨ c.1 = 4) ∧ keyOk c.2.1 ∧ (c.1 = 1 ∨ c.1 = 3 → c.2.2 = 0)
noncomputable def errCmd (c : Cmd) : Int := bif cdec (cmdOk c) then 0 else 12
theorem errCmd_ok {c : Cmd} (h : cmdOk c) : errCmd c = 0 := by unfold errCmd; rw [cdec_true h]; rfl
theorem errCmd_no {c : Cmd} (h : ¬ cmdOk c) : errCmd c = 12 := by unfold errCmd; rw [cdec_false h]; rfl
theorem cmd_plus (x : Nat) (hx : x < 18446744073709551616) (w : World) : Calls Tryd.prog 28 #[.float .f64 x] w fun r w' => r = .returned (.bool (decide (x = 0))) ∧ w = w' := by
  have e : decide (key x = key 0) = decide (x = 0) := decide_eq_decide.2 (key_nil x hx)
  have HE := Lib.hid e
  clear e
  go_enter Tryd.func28, Tryd.ntmps28
  go_wp2_with fail
  refine (real_same x 0 w hx (by omega)).mono ?_
  rintro r w1 ⟨rfl, rfl⟩
  rw [HE.out]
  go_wp2_with fail
  go_ret
  exact ⟨rfl, rfl⟩

theorem word1 (w : World) : Calls Tryd.prog 26 #[.int .i64 1] w fun r w' => r = .returned (.string ⟨#[103, 101, 116]⟩) ∧ Fr (fun _ => False) w w' := by
  go_enter Tryd.func26, Tryd.ntmps26
  go_wp2_with fail
  go_ret
  exact ⟨rfl, (Fr.refl _ _).alloc _⟩

theorem word2 (w : World) : Calls Tryd.prog 26 #[.int .i64 2] w fun r w' => r = .returned (.string ⟨#[112, 117, 116]⟩) ∧ Fr (fun _ => False) w w' := by
  go_enter Tryd.func26, Tryd.ntmps26
  go_wp2_with fail
  go_ret
  exact ⟨rfl, (Fr.refl _ _).alloc _⟩

theorem word3 (w : World) : Calls Tryd.prog 26 #[.int .i64 3] w fun r w' => r = .returned (.string ⟨#[100, 101, 108]⟩) ∧ Fr (fun _ => False) w w' := by
  go_enter Tryd.func26, Tryd.ntmps26
  go_wp2_with fail
  go_ret
  exact ⟨rfl, (Fr.refl _ _).alloc _⟩

theorem word4 (w : World) : Calls Tryd.prog 26 #[.int .i64 4] w fun r w' => r = .returned (.string ⟨#[97, 100, 100]⟩) ∧ Fr (fun _ => False) w w' := by
  go_enter Tryd.func26, Tryd.ntmps26
  go_wp2_with fail
  go_ret
  exact ⟨rfl, (Fr.refl _ _).alloc _⟩

theorem word_no (k : Int) (h : ¬ (k = 1 ∨ k = 2 ∨ k = 3 ∨ k = 4)) (w : World) : Calls Tryd.prog 26 #[.int .i64 k] w fun r w' => r = .returned (.string ⟨#[]⟩) ∧ Fr (fun _ => False) w w' := by
  by_cases h1 : k < 0
  · have t1 : decide (k < 0) = true := decide_eq_true h1
    clear h h1
    go_enter Tryd.func26, Tryd.ntmps26
    go_wp2_with fail
    go_ret
    exact ⟨rfl, (Fr.refl _ _).alloc _⟩
  · have t1 : decide (k < 0) = false := decide_eq_false h1
    by_cases h2 : 5 ≤ k
    · have t2 : decide (5 ≤ k) = true := decide_eq_true h2
      clear h h1 h2
      go_enter Tryd.func26, Tryd.ntmps26
      go_wp2_with fail
      go_ret
      exact ⟨rfl, (Fr.refl _ _).alloc _⟩
    · obtain rfl : k = 0 := by omega
      clear h h1 h2 t1
      go_enter Tryd.func26, Tryd.ntmps26
      go_wp2_with fail
      go_ret
      exact ⟨rfl, (Fr.refl _ _).alloc _⟩

set_option maxHeartbeats 4000000 in
theorem cmd_check (k : Int) (s : ByteArray) (x : Nat) (w : World) (hs : s.size ≤ maxLen) (hx : x < 18446744073709551616) :
    Calls Tryd.prog 17 #[.agg #[.int .i64 k, .string s, .float .f64 x]] w fun r w' => r = .returned (.int .i64 (errCmd (k, s, x))) ∧ Fr (fun _ => False) w w' := by
  have hF := (Fr.refl (fun _ => False) w).alloc (.cells #[.int .i64 k, .string s, .float .f64 x] 26)
  have hX := Blk.new w 26 #[.int .i64 k, .string s, .float .f64 x]
  by_cases hkind : k = 1 ∨ k = 2 ∨ k = 3 ∨ k = 4
  · by_cases hk : keyOk s
    · skip
      rcases hkind with rfl | rfl | rfl | rfl
      · by_cases hz : x = 0
        · rw [errCmd_ok (show cmdOk (1, s, x) from ⟨by simp, hk, fun _ => hz⟩)]
          have e := decide_eq_true hz
          have HE := Lib.hid e
          clear e hz
          go_enter Tryd.func17, Tryd.ntmps17
          go_wp2_with fail
          refine (word1 _).mono ?_
          rintro r w1 ⟨rfl, hF1⟩
          have x0 := (hX.fr hF1 (fun h => h)).cell 0
          have x1 := (hX.fr hF1 (fun h => h)).cell 1
          have x2 := (hX.fr hF1 (fun h => h)).cell 2
          simp only [List.getElem?_toArray, List.getElem?_cons_zero, List.getElem?_cons_succ] at x0 x1 x2
          go_wp2_with fail
          refine (cmd_key s _ hs).mono ?_
          rintro r w2 ⟨rfl, hF2⟩
          rw [cdec_true hk]
          have y0 := (hX.fr (hF1.trans hF2) (fun h => h)).cell 0
          have y2 := (hX.fr (hF1.trans hF2) (fun h => h)).cell 2
          simp only [List.getElem?_toArray, List.getElem?_cons_zero, List.getElem?_cons_succ] at y0 y2
          clear x0 x1 x2 hk
          go_wp2_with fail
          refine (cmd_plus x hx _).mono ?_
          rintro r w3 ⟨rfl, rfl⟩
          rw [HE.out]
          go_wp2_with fail
          go_ret
          exact ⟨rfl, (hF.trans hF1).trans hF2⟩
        · rw [errCmd_no (show ¬ cmdOk (1, s, x) from fun h => hz (h.2.2 (by simp)))]
          have e := decide_eq_false hz
          have HE := Lib.hid e
          clear e hz
          go_enter Tryd.func17, Tryd.ntmps17
          go_wp2_with fail
          refine (word1 _).mono ?_
          rintro r w1 ⟨rfl, hF1⟩
          have x0 := (hX.fr hF1 (fun h => h)).cell 0
          have x1 := (hX.fr hF1 (fun h => h)).cell 1
          have x2 := (hX.fr hF1 (fun h => h)).cell 2
          simp only [List.getElem?_toArray, List.getElem?_cons_zero, List.getElem?_cons_succ] at x0 x1 x2
          go_wp2_with fail
          refine (cmd_key s _ hs).mono ?_
          rintro r w2 ⟨rfl, hF2⟩
          rw [cdec_true hk]
          have y0 := (hX.fr (hF1.trans hF2) (fun h => h)).cell 0
          have y2 := (hX.fr (hF1.trans hF2) (fun h => h)).cell 2
          simp only [List.getElem?_toArray, List.getElem?_cons_zero, List.getElem?_cons_succ] at y0 y2
          clear x0 x1 x2 hk
          go_wp2_with fail
          refine (cmd_plus x hx _).mono ?_
          rintro r w3 ⟨rfl, rfl⟩
          rw [HE.out]
          go_wp2_with fail
          go_ret
          exact ⟨rfl, (hF.trans hF1).trans hF2⟩
      · rw [errCmd_ok (show cmdOk (2, s, x) from ⟨by simp, hk, fun h => by simp at h⟩)]
        go_enter Tryd.func17, Tryd.ntmps17
        go_wp2_with fail
        refine (word2 _).mono ?_
        rintro r w1 ⟨rfl, hF1⟩
        have x0 := (hX.fr hF1 (fun h => h)).cell 0
        have x1 := (hX.fr hF1 (fun h => h)).cell 1
        have x2 := (hX.fr hF1 (fun h => h)).cell 2
        simp only [List.getElem?_toArray, List.getElem?_cons_zero, List.getElem?_cons_succ] at x0 x1 x2
        go_wp2_with fail
        refine (cmd_key s _ hs).mono ?_
        rintro r w2 ⟨rfl, hF2⟩
        rw [cdec_true hk]
        have y0 := (hX.fr (hF1.trans hF2) (fun h => h)).cell 0
        have y2 := (hX.fr (hF1.trans hF2) (fun h => h)).cell 2
        simp only [List.getElem?_toArray, List.getElem?_cons_zero, List.getElem?_cons_succ] at y0 y2
        clear x0 x1 x2 hk
        go_wp2_with fail
        go_ret
        exact ⟨rfl, (hF.trans hF1).trans hF2⟩
      · by_cases hz : x = 0
        · rw [errCmd_ok (show cmdOk (3, s, x) from ⟨by simp, hk, fun _ => hz⟩)]
          have e := decide_eq_true hz
          have HE := Lib.hid e
          clear e hz
          go_enter Tryd.func17, Tryd.ntmps17
          go_wp2_with fail
          refine (word3 _).mono ?_
          rintro r w1 ⟨rfl, hF1⟩
          have x0 := (hX.fr hF1 (fun h => h)).cell 0
          have x1 := (hX.fr hF1 (fun h => h)).cell 1
          have x2 := (hX.fr hF1 (fun h => h)).cell 2
          simp only [List.getElem?_toArray, List.getElem?_cons_zero, List.getElem?_cons_succ] at x0 x1 x2
          go_wp2_with fail
          refine (cmd_key s _ hs).mono ?_
          rintro r w2 ⟨rfl, hF2⟩
          rw [cdec_true hk]
          have y0 := (hX.fr (hF1.trans hF2) (fun h => h)).cell 0
          have y2 := (hX.fr (hF1.trans hF2) (fun h => h)).cell 2
          simp only [List.getElem?_toArray, List.getElem?_cons_zero, List.getElem?_cons_succ] at y0 y2
          clear x0 x1 x2 hk
          go_wp2_with fail
          refine (cmd_plus x hx _).mono ?_
          rintro r w3 ⟨rfl, rfl⟩
          rw [HE.out]
          go_wp2_with fail
          go_ret
          exact ⟨rfl, (hF.trans hF1).trans hF2⟩
        · rw [errCmd_no (show ¬ cmdOk (3, s, x) from fun h => hz (h.2.2 (by simp)))]
          have e := decide_eq_false hz
          have HE := Lib.hid e
          clear e hz
          go_enter Tryd.func17, Tryd.ntmps17
          go_wp2_with fail
          refine (word3 _).mono ?_
          rintro r w1 ⟨rfl, hF1⟩
          have x0 := (hX.fr hF1 (fun h => h)).cell 0
          have x1 := (hX.fr hF1 (fun h => h)).cell 1
          have x2 := (hX.fr hF1 (fun h => h)).cell 2
          simp only [List.getElem?_toArray, List.getElem?_cons_zero, List.getElem?_cons_succ] at x0 x1 x2
          go_wp2_with fail
          refine (cmd_key s _ hs).mono ?_
          rintro r w2 ⟨rfl, hF2⟩
          rw [cdec_true hk]
          have y0 := (hX.fr (hF1.trans hF2) (fun h => h)).cell 0
          have y2 := (hX.fr (hF1.trans hF2) (fun h => h)).cell 2
          simp only [List.getElem?_toArray, List.getElem?_cons_zero, List.getElem?_cons_succ] at y0 y2
          clear x0 x1 x2 hk
          go_wp2_with fail
          refine (cmd_plus x hx _).mono ?_
          rintro r w3 ⟨rfl, rfl⟩
          rw [HE.out]
          go_wp2_with fail
          go_ret
          exact ⟨rfl, (hF.trans hF1).trans hF2⟩
      · rw [errCmd_ok (show cmdOk (4, s, x) from ⟨by simp, hk, fun h => by simp at h⟩)]
        go_enter Tryd.func17, Tryd.ntmps17
        go_wp2_with fail
        refine (word4 _).mono ?_
        rintro r w1 ⟨rfl, hF1⟩
        have x0 := (hX.fr hF1 (fun h => h)).cell 0
        have x1 := (hX.fr hF1 (fun h => h)).cell 1
        have x2 := (hX.fr hF1 (fun h => h)).cell 2
        simp only [List.getElem?_toArray, List.getElem?_cons_zero, List.getElem?_cons_succ] at x0 x1 x2
        go_wp2_with fail
        refine (cmd_key s _ hs).mono ?_
        rintro r w2 ⟨rfl, hF2⟩
        rw [cdec_true hk]
        have y0 := (hX.fr (hF1.trans hF2) (fun h => h)).cell 0
        have y2 := (hX.fr (hF1.trans hF2) (fun h => h)).cell 2
        simp only [List.getElem?_toArray, List.getElem?_cons_zero, List.getElem?_cons_succ] at y0 y2
        clear x0 x1 x2 hk
        go_wp2_with fail
        go_ret
        exact ⟨rfl, (hF.trans hF1).trans hF2⟩
    · skip
      rcases hkind with rfl | rfl | rfl | rfl
      · rw [errCmd_no (show ¬ cmdOk (1, s, x) from fun h => hk h.2.1)]
        go_enter Tryd.func17, Tryd.ntmps17
        go_wp2_with fail
        refine (word1 _).mono ?_
        rintro r w1 ⟨rfl, hF1⟩
        have x0 := (hX.fr hF1 (fun h => h)).cell 0
        have x1 := (hX.fr hF1 (fun h => h)).cell 1
        have x2 := (hX.fr hF1 (fun h => h)).cell 2
        simp only [List.getElem?_toArray, List.getElem?_cons_zero, List.getElem?_cons_succ] at x0 x1 x2
        go_wp2_with fail
        refine (cmd_key s _ hs).mono ?_
        rintro r w2 ⟨rfl, hF2⟩
        rw [cdec_false hk]
        have y0 := (hX.fr (hF1.trans hF2) (fun h => h)).cell 0
        have y2 := (hX.fr (hF1.trans hF2) (fun h => h)).cell 2
        simp only [List.getElem?_toArray, List.getElem?_cons_zero, List.getElem?_cons_succ] at y0 y2
        clear x0 x1 x2 hk
        go_wp2_with fail
        go_ret
        exact ⟨rfl, (hF.trans hF1).trans hF2⟩
      · rw [errCmd_no (show ¬ cmdOk (2, s, x) from fun h => hk h.2.1)]
        go_enter Tryd.func17, Tryd.ntmps17
        go_wp2_with fail
        refine (word2 _).mono ?_
        rintro r w1 ⟨rfl, hF1⟩
        have x0 := (hX.fr hF1 (fun h => h)).cell 0
        have x1 := (hX.fr hF1 (fun h => h)).cell 1
        have x2 := (hX.fr hF1 (fun h => h)).cell 2
        simp only [List.getElem?_toArray, List.getElem?_cons_zero, List.getElem?_cons_succ] at x0 x1 x2
        go_wp2_with fail
        refine (cmd_key s _ hs).mono ?_
        rintro r w2 ⟨rfl, hF2⟩
        rw [cdec_false hk]
        have y0 := (hX.fr (hF1.trans hF2) (fun h => h)).cell 0
        have y2 := (hX.fr (hF1.trans hF2) (fun h => h)).cell 2
        simp only [List.getElem?_toArray, List.getElem?_cons_zero, List.getElem?_cons_succ] at y0 y2
        clear x0 x1 x2 hk
        go_wp2_with fail
        go_ret
        exact ⟨rfl, (hF.trans hF1).trans hF2⟩
      · rw [errCmd_no (show ¬ cmdOk (3, s, x) from fun h => hk h.2.1)]
        go_enter Tryd.func17, Tryd.ntmps17
        go_wp2_with fail
        refine (word3 _).mono ?_
        rintro r w1 ⟨rfl, hF1⟩
        have x0 := (hX.fr hF1 (fun h => h)).cell 0
        have x1 := (hX.fr hF1 (fun h => h)).cell 1
        have x2 := (hX.fr hF1 (fun h => h)).cell 2
        simp only [List.getElem?_toArray, List.getElem?_cons_zero, List.getElem?_cons_succ] at x0 x1 x2
        go_wp2_with fail
        refine (cmd_key s _ hs).mono ?_
        rintro r w2 ⟨rfl, hF2⟩
        rw [cdec_false hk]
        have y0 := (hX.fr (hF1.trans hF2) (fun h => h)).cell 0
        have y2 := (hX.fr (hF1.trans hF2) (fun h => h)).cell 2
        simp only [List.getElem?_toArray, List.getElem?_cons_zero, List.getElem?_cons_succ] at y0 y2
        clear x0 x1 x2 hk
        go_wp2_with fail
        go_ret
        exact ⟨rfl, (hF.trans hF1).trans hF2⟩
      · rw [errCmd_no (show ¬ cmdOk (4, s, x) from fun h => hk h.2.1)]
        go_enter Tryd.func17, Tryd.ntmps17
        go_wp2_with fail
        refine (word4 _).mono ?_
        rintro r w1 ⟨rfl, hF1⟩
        have x0 := (hX.fr hF1 (fun h => h)).cell 0
        have x1 := (hX.fr hF1 (fun h => h)).cell 1
        have x2 := (hX.fr hF1 (fun h => h)).cell 2
        simp only [List.getElem?_toArray, List.getElem?_cons_zero, List.getElem?_cons_succ] at x0 x1 x2
        go_wp2_with fail
        refine (cmd_key s _ hs).mono ?_
        rintro r w2 ⟨rfl, hF2⟩
        rw [cdec_false hk]
        have y0 := (hX.fr (hF1.trans hF2) (fun h => h)).cell 0
        have y2 := (hX.fr (hF1.trans hF2) (fun h => h)).cell 2
        simp only [List.getElem?_toArray, List.getElem?_cons_zero, List.getElem?_cons_succ] at y0 y2
        clear x0 x1 x2 hk
        go_wp2_with fail
        go_ret
        exact ⟨rfl, (hF.trans hF1).trans hF2⟩
  · rw [errCmd_no (show ¬ cmdOk (k, s, x) from fun h => hkind h.1)]
    have HK := Lib.hid hkind
    clear hkind
    go_enter Tryd.func17, Tryd.ntmps17
    go_wp2_with fail
    refine (word_no k HK.out _).mono ?_
    rintro r w1 ⟨rfl, hF1⟩
    have x0 := (hX.fr hF1 (fun h => h)).cell 0
    have x1 := (hX.fr hF1 (fun h => h)).cell 1
    have x2 := (hX.fr hF1 (fun h => h)).cell 2
    simp only [List.getElem?_toArray, List.getElem?_cons_zero, List.getElem?_cons_succ] at x0 x1 x2
    go_wp2_with fail
    go_ret
    exact ⟨rfl, hF.trans hF1⟩
theorem i_eq0 (c : Cmd) : (errCmd c == 0) = cdec (cmdOk c) := by
  by_cases h : cmdOk c
  · rw [errCmd_ok h, cdec_true h]; rfl
  · rw [errCmd_no h, cdec_false h]; rfl
set_option maxHeartbeats 4000000 in
theorem ref_cmd_right (k : Int) (s : ByteArray) (x : Nat) (w : World) (hs : s.size ≤ maxLen) (hx : x < 18446744073709551616) :
    Calls Tryd.prog 20 #[.agg #[.int .i64 k, .string s, .float .f64 x]] w fun r w' => r = .returned (.bool (cdec (cmdOk (k, s, x)))) ∧ Fr (fun _ => False) w w' := by
  have hF := (Fr.refl (fun _ => False) w).alloc (.cells #[.int .i64 k, .string s, .float .f64 x] 26)
  have hX := Blk.new w 26 #[.int .i64 k, .string s, .float .f64 x]
  by_cases hk : keyOk s
  · by_cases h1 : k = 1
    · subst h1
      by_cases hz : x = 0
      · rw [cdec_true (show cmdOk (1, s, x) from ⟨by simp, hk, fun _ => hz⟩)]
        have e : (kindP x == 4) = true := by rw [(kind_nil x hx).2 hz]; rfl
        clear hz
        go_enter Tryd.func20, Tryd.ntmps20
        go_wp2_with fail
        refine (ref_key s _ hs).mono ?_
        rintro r w1 ⟨rfl, rfl⟩
        rw [cdec_true hk]
        clear hk
        go_wp2_with fail
        refine (ref_kind x hx _).mono ?_
        rintro r w3 ⟨rfl, rfl⟩
        generalize kindP x = z at *
        go_wp2_with fail
        go_ret
        exact ⟨rfl, hF⟩
      · rw [cdec_false (show ¬ cmdOk (1, s, x) from fun h => hz (h.2.2 (by simp)))]
        have e : (kindP x == 4) = false := by simp only [beq_eq_false_iff_ne]; exact fun h => hz ((kind_nil x hx).1 h)
        clear hz
        go_enter Tryd.func20, Tryd.ntmps20
        go_wp2_with fail
        refine (ref_key s _ hs).mono ?_
        rintro r w1 ⟨rfl, rfl⟩
        rw [cdec_true hk]
        clear hk
        go_wp2_with fail
        refine (ref_kind x hx _).mono ?_
        rintro r w3 ⟨rfl, rfl⟩
        generalize kindP x = z at *
        go_wp2_with fail
        go_ret
        exact ⟨rfl, hF⟩
    · by_cases h2 : k = 2
      · subst h2
        rw [cdec_true (show cmdOk (2, s, x) from ⟨by simp, hk, fun h => by simp at h⟩)]
        go_enter Tryd.func20, Tryd.ntmps20
        go_wp2_with fail
        refine (ref_key s _ hs).mono ?_
        rintro r w1 ⟨rfl, rfl⟩
        rw [cdec_true hk]
        clear hk
        go_wp2_with fail
        go_ret
        exact ⟨rfl, hF⟩
      · by_cases h3 : k = 3
        · subst h3
          by_cases hz : x = 0
          · rw [cdec_true (show cmdOk (3, s, x) from ⟨by simp, hk, fun _ => hz⟩)]
            have e : (kindP x == 4) = true := by rw [(kind_nil x hx).2 hz]; rfl
            clear hz
            go_enter Tryd.func20, Tryd.ntmps20
            go_wp2_with fail
            refine (ref_key s _ hs).mono ?_
            rintro r w1 ⟨rfl, rfl⟩
            rw [cdec_true hk]
            clear hk
            go_wp2_with fail
            refine (ref_kind x hx _).mono ?_
            rintro r w3 ⟨rfl, rfl⟩
            generalize kindP x = z at *
            go_wp2_with fail
            go_ret
            exact ⟨rfl, hF⟩
          · rw [cdec_false (show ¬ cmdOk (3, s, x) from fun h => hz (h.2.2 (by simp)))]
            have e : (kindP x == 4) = false := by simp only [beq_eq_false_iff_ne]; exact fun h => hz ((kind_nil x hx).1 h)
            clear hz
            go_enter Tryd.func20, Tryd.ntmps20
            go_wp2_with fail
            refine (ref_key s _ hs).mono ?_
            rintro r w1 ⟨rfl, rfl⟩
            rw [cdec_true hk]
            clear hk
            go_wp2_with fail
            refine (ref_kind x hx _).mono ?_
            rintro r w3 ⟨rfl, rfl⟩
            generalize kindP x = z at *
            go_wp2_with fail
            go_ret
            exact ⟨rfl, hF⟩
        · by_cases h4 : k = 4
          · subst h4
            rw [cdec_true (show cmdOk (4, s, x) from ⟨by simp, hk, fun h => by simp at h⟩)]
            go_enter Tryd.func20, Tryd.ntmps20
            go_wp2_with fail
            refine (ref_key s _ hs).mono ?_
            rintro r w1 ⟨rfl, rfl⟩
            rw [cdec_true hk]
            clear hk
            go_wp2_with fail
            go_ret
            exact ⟨rfl, hF⟩
          · rw [cdec_false (show ¬ cmdOk (k, s, x) from fun h => by rcases h.1 with h | h | h | h <;> contradiction)]
            have e1 : (k == 1) = false := by simp [h1]
            have e2 : (k == 2) = false := by simp [h2]
            have e3 : (k == 3) = false := by simp [h3]
            have e4 : (k == 4) = false := by simp [h4]
            clear h1 h2 h3 h4
            go_enter Tryd.func20, Tryd.ntmps20
            go_wp2_with fail
            refine (ref_key s _ hs).mono ?_
            rintro r w1 ⟨rfl, rfl⟩
            rw [cdec_true hk]
            clear hk
            go_wp2_with fail
            go_ret
            exact ⟨rfl, hF⟩
  · rw [cdec_false (show ¬ cmdOk (k, s, x) from fun h => hk h.2.1)]
    go_enter Tryd.func20, Tryd.ntmps20
    go_wp2_with fail
    refine (ref_key s _ hs).mono ?_
    rintro r w1 ⟨rfl, rfl⟩
    rw [cdec_false hk]
    clear hk
    go_wp2_with fail
    go_ret
    exact ⟨rfl, hF⟩
end Go.Proofs.YtmldjemjjpibmaaDoor
