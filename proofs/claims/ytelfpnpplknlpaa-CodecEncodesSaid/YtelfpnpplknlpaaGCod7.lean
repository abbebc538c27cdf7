/- Texts of Cod, merged (7 of 27): FltK, CmdP, BatC, BatP. -/
import Derived.Test.YtelfpnpplknlpaaGCod6
import Derived.Test.YtelfpnpplknlpaaGCod4
set_option linter.unusedVariables false
set_option linter.unusedSimpArgs false
/- Floats: the reference's kind. -/
namespace Go.Proofs.Ytelfpnpplknlpaa
open Go.RowKit

theorem un_neg (b : Nat) : Op.unary .neg (.float .f64 b) = pure (.float .f64 (Op.negFloat .f64 b)) := rfl
theorem rank_max : rank 9218868437227405311 = 9218868437227405311 := by decide +kernel
theorem nan_max : ¬ nanW 9218868437227405311 := by decide +kernel
theorem rung_neg (x : Nat) : rung (Op.negFloat .f64 x) = rung x := by
  show (x ^^^ 2 ^ 63) % 2 ^ 63 = x % 2 ^ 63
  rw [Nat.xor_mod_two_pow, Nat.mod_self, Nat.xor_zero]
theorem negW_neg (x : Nat) (hx : x < 18446744073709551616) : negW (Op.negFloat .f64 x) = !negW x := by
  show ((x ^^^ 2 ^ 63) / 2 ^ 63 % 2 == 1) = !(x / 2 ^ 63 % 2 == 1)
  rw [Nat.xor_div_two_pow, show 2 ^ 63 / 2 ^ 63 = 1 from by decide +kernel]
  have : x / 2 ^ 63 = 0 ∨ x / 2 ^ 63 = 1 := by omega
  rcases this with h | h <;> rw [h] <;> rfl
theorem rank_neg (x : Nat) (hx : x < 18446744073709551616) : rank (Op.negFloat .f64 x) = -rank x := by
  unfold rank
  rw [negW_neg x hx, rung_neg]
  cases negW x <;> simp
theorem nan_neg (x : Nat) : nanW (Op.negFloat .f64 x) ↔ nanW x := by unfold nanW; rw [rung_neg]
/-- A number's kind. -/
def kindP (x : Nat) : Int :=
  if nanW x then 0 else if rank x < -9218868437227405311 then 1 else if rank x < 0 then 2 else if rank x = 0 then (if negW x then 3 else 4) else if 9218868437227405311 < rank x then 6 else 5
theorem big_step : ∀ k, k < 1023 → Ieee.double.mul 4611686018427387904 (4607182418800017408 + k * 4503599627370496) = some (4607182418800017408 + (k + 1) * 4503599627370496) := by decide +kernel
theorem mulF {a b r : Nat} (h : Ieee.double.mul a b = some r) (w : World) : (binOp .mul 56 (.float .f64 a) (.float .f64 b)).run Try.prog w = .ok (.float .f64 r) w :=
  run_float_arith w .mul 56 .f64 a b r h
theorem subF {a b r : Nat} (h : Ieee.double.sub a b = some r) (w : World) : (binOp .sub 56 (.float .f64 a) (.float .f64 b)).run Try.prog w = .ok (.float .f64 r) w :=
  run_float_arith w .sub 56 .f64 a b r h
theorem addF {a b r : Nat} (h : Ieee.double.add a b = some r) (w : World) : (binOp .add 56 (.float .f64 a) (.float .f64 b)).run Try.prog w = .ok (.float .f64 r) w :=
  run_float_arith w .add 56 .f64 a b r h
set_option maxRecDepth 100000 in
theorem ref_big1 (w : World) : Calls Try.prog 68 #[] w fun r w' => r = .returned (.float .f64 9218868437227405311) ∧ w = w' := by
  go_enter Try.func68, Try.ntmps68
  go_wp2_with fail
  go_loop [1, 2] (fun v i => ∃ k : Nat, k ≤ 1023 ∧ i = .int .i64 k ∧ v = .float .f64 (4607182418800017408 + k * 4503599627370496)) (fun _ i => 1023 - (intOf i).toNat)
  case atStart => exact ⟨0, by omega, rfl, rfl⟩
  case round =>
    obtain ⟨k, hk, rfl, rfl⟩ := hrel
    rcases Nat.lt_or_ge k 1023 with hlt | hge
    · have hm := mulF (big_step k hlt)
      go_wp2_with fail
      exact ⟨⟨k + 1, by omega, by simp, rfl⟩, by simp [intOf]; omega⟩
    · obtain rfl : k = 1023 := by omega
      have h1 := quoF (a := 9214364837600034816) (b := 4841369599423283200) (r := 8980177656976769024) (by decide +kernel)
      have h2 := subF (a := 9214364837600034816) (b := 8980177656976769024) (r := 9214364837600034814) (by decide +kernel)
      have h3 := addF (a := 9214364837600034816) (b := 9214364837600034814) (r := 9218868437227405311) (by decide +kernel)
      go_wp2_with fail
      go_ret
      exact ⟨rfl, rfl⟩
theorem nan_negmax : ¬ nanW (Op.negFloat .f64 9218868437227405311) := fun h => nan_max ((nan_neg _).1 h)
theorem rank_negmax : rank (Op.negFloat .f64 9218868437227405311) = -9218868437227405311 := by rw [rank_neg _ (by omega), rank_max]
set_option maxRecDepth 100000 in
theorem ref_kind (x : Nat) (hx : x < 18446744073709551616) (w : World) : Calls Try.prog 55 #[.float .f64 x] w fun r w' => r = .returned (.int .i64 (kindP x)) ∧ w = w' := by
  have hu := un_neg 9218868437227405311
  by_cases hn : nanW x
  · have h1 : (ford x x != some .eq) = true := by rw [ford_nan (x := x) (y := x) (.inl hn)]; rfl
    have hk : kindP x = 0 := by unfold kindP; rw [if_pos hn]
    rw [hk]
    clear hn hk
    go_enter Try.func55, Try.ntmps55
    go_wp2_with fail
    refine (ref_nan _ w).mono ?_
    rintro r w1 ⟨rfl, rfl⟩
    rw [h1]
    go_wp2_with fail
    go_ret
    exact ⟨rfl, rfl⟩
  · have h1 : (ford x x != some .eq) = false := by rw [ford_self hn]; rfl
    have hN : True := trivial
    have hRN : True := trivial
    by_cases a3 : rank x = 0
    · have h3 := ford_eq hn nan_nil (by rw [rank_nil]; exact a3)
      rcases zero_cases hx a3 with rfl | rfl
      · have hk : kindP 0 = 4 := by decide +kernel
        rw [hk]
        have hq := quoF (a := 4607182418800017408) (b := 0) (r := 9218868437227405312) (by decide +kernel)
        have h5 : ford 9218868437227405312 0 = some .gt := by decide +kernel
        clear hn hk hN hRN a3
        go_enter Try.func55, Try.ntmps55
        go_wp2_with fail
        refine (ref_nan _ w).mono ?_
        rintro r w1 ⟨rfl, rfl⟩
        rw [h1]
        go_wp2_with fail
        go_ret
        exact ⟨rfl, rfl⟩
      · have hk : kindP 9223372036854775808 = 3 := by decide +kernel
        rw [hk]
        have hq := quoF (a := 4607182418800017408) (b := 9223372036854775808) (r := 18442240474082181120) (by decide +kernel)
        have h5 : ford 18442240474082181120 0 = some .lt := by decide +kernel
        clear hn hk hN hRN a3
        go_enter Try.func55, Try.ntmps55
        go_wp2_with fail
        refine (ref_nan _ w).mono ?_
        rintro r w1 ⟨rfl, rfl⟩
        rw [h1]
        go_wp2_with fail
        go_ret
        exact ⟨rfl, rfl⟩
    rcases Int.lt_or_le (rank x) 0 with a2 | a2
    · have h3 := ford_lt hn nan_nil (by rw [rank_nil]; exact a2)
      rcases Int.lt_or_le (rank x) (-9218868437227405311) with a1 | a1
      · have h4 := ford_lt hn nan_negmax (by rw [rank_negmax]; exact a1)
        have hk : kindP x = 1 := by unfold kindP; rw [if_neg hn, if_pos a1]
        rw [hk]
        clear hn hk hN hRN
        go_enter Try.func55, Try.ntmps55
        go_wp2_with fail
        refine (ref_nan _ w).mono ?_
        rintro r w1 ⟨rfl, rfl⟩
        rw [h1]
        go_wp2_with fail
        refine (ref_big1 w).mono ?_
        rintro r w1 ⟨rfl, rfl⟩
        go_wp2_with fail
        go_ret
        exact ⟨rfl, rfl⟩
      · have h4 : (ford x (Op.negFloat .f64 9218868437227405311) == some .lt) = false := by
          rcases Int.lt_or_le (-9218868437227405311) (rank x) with a | a
          · rw [ford_gt hn nan_negmax (by rw [rank_negmax]; exact a)]; rfl
          · rw [ford_eq hn nan_negmax (by rw [rank_negmax]; omega)]; rfl
        have hk : kindP x = 2 := by unfold kindP; rw [if_neg hn, if_neg (by omega), if_pos a2]
        rw [hk]
        clear hn hk hN hRN
        go_enter Try.func55, Try.ntmps55
        go_wp2_with fail
        refine (ref_nan _ w).mono ?_
        rintro r w1 ⟨rfl, rfl⟩
        rw [h1]
        go_wp2_with fail
        refine (ref_big1 w).mono ?_
        rintro r w1 ⟨rfl, rfl⟩
        go_wp2_with fail
        go_ret
        exact ⟨rfl, rfl⟩
    have h3 := ford_gt hn nan_nil (by rw [rank_nil]; omega)
    rcases Int.lt_or_le 9218868437227405311 (rank x) with a4 | a4
    · have h4 := ford_gt hn nan_max (by rw [rank_max]; exact a4)
      have hk : kindP x = 6 := by unfold kindP; rw [if_neg hn, if_neg (by omega), if_neg (by omega), if_neg a3, if_pos a4]
      rw [hk]
      clear hn hk hN hRN
      go_enter Try.func55, Try.ntmps55
      go_wp2_with fail
      refine (ref_nan _ w).mono ?_
      rintro r w1 ⟨rfl, rfl⟩
      rw [h1]
      go_wp2_with fail
      refine (ref_big1 w).mono ?_
      rintro r w1 ⟨rfl, rfl⟩
      go_wp2_with fail
      go_ret
      exact ⟨rfl, rfl⟩
    · have h4 : (ford x 9218868437227405311 == some .gt) = false := by
        rcases Int.lt_or_le (rank x) 9218868437227405311 with a | a
        · rw [ford_lt hn nan_max (by rw [rank_max]; omega)]; rfl
        · rw [ford_eq hn nan_max (by rw [rank_max]; omega)]; rfl
      have hk : kindP x = 5 := by unfold kindP; rw [if_neg hn, if_neg (by omega), if_neg (by omega), if_neg a3, if_neg (by omega)]
      rw [hk]
      clear hn hk hN hRN
      go_enter Try.func55, Try.ntmps55
      go_wp2_with fail
      refine (ref_nan _ w).mono ?_
      rintro r w1 ⟨rfl, rfl⟩
      rw [h1]
      go_wp2_with fail
      refine (ref_big1 w).mono ?_
      rintro r w1 ⟨rfl, rfl⟩
      go_wp2_with fail
      go_ret
      exact ⟨rfl, rfl⟩
end Go.Proofs.Ytelfpnpplknlpaa
/- Commands: which may be; by the program and by the reference. -/
namespace Go.Proofs.Ytelfpnpplknlpaa
open Go.RowKit
open Go.Proofs.YtelfpnpplknlpaaW.PrintWords

theorem key_nil (x : Nat) (hx : x < 18446744073709551616) : key x = key 0 ↔ x = 0 := by
  constructor
  · intro h
    have h0 : key 0 = 0 := by decide +kernel
    rw [h0] at h
    unfold key at h
    split at h
    · cases h
    · split at h
      · omega
      · rename_i h1 h2
        have hr : rung x = 0 := by omega
        rcases zero_cases hx (by unfold rank; rw [if_neg h2, hr]; rfl) with h3 | h3
        · exact h3
        · subst h3; exact absurd (by decide +kernel) h2
  · rintro rfl; rfl
theorem kind_nil (x : Nat) (hx : x < 18446744073709551616) : kindP x = 4 ↔ x = 0 := by
  constructor
  · intro h
    unfold kindP at h
    by_cases h1 : nanW x
    · rw [if_pos h1] at h; cases h
    · rw [if_neg h1] at h
      by_cases h2 : rank x < -9218868437227405311
      · rw [if_pos h2] at h; cases h
      · rw [if_neg h2] at h
        by_cases h3 : rank x < 0
        · rw [if_pos h3] at h; cases h
        · rw [if_neg h3] at h
          by_cases h4 : rank x = 0
          · rcases zero_cases hx h4 with h5 | h5
            · exact h5
            · subst h5; rw [if_pos h4, if_pos (by decide +kernel)] at h; cases h
          · rw [if_neg h4] at h
            split at h <;> cases h
  · rintro rfl; decide +kernel
def cmdOk (c : Cmd) : Prop := (c.1 = 1 ∨ c.1 = 2 ∨ c.1 = 3 ∨ c.1 = 4) ∧ keyOk c.2.1 ∧ (c.1 = 1 ∨ c.1 = 3 → c.2.2 = 0)
noncomputable def errCmd (c : Cmd) : Int := bif cdec (cmdOk c) then 0 else 12
theorem errCmd_ok {c : Cmd} (h : cmdOk c) : errCmd c = 0 := by unfold errCmd; rw [cdec_true h]; rfl
theorem errCmd_no {c : Cmd} (h : ¬ cmdOk c) : errCmd c = 12 := by unfold errCmd; rw [cdec_false h]; rfl
theorem cmd_plus (x : Nat) (hx : x < 18446744073709551616) (w : World) : Calls Try.prog 76 #[.float .f64 x] w fun r w' => r = .returned (.bool (decide (x = 0))) ∧ w = w' := by
  have e : decide (key x = key 0) = decide (x = 0) := decide_eq_decide.2 (key_nil x hx)
  have HE := Lib.hid e
  clear e
  go_enter Try.func76, Try.ntmps76
  go_wp2_with fail
  refine (real_same x 0 w hx (by omega)).mono ?_
  rintro r w1 ⟨rfl, rfl⟩
  rw [HE.out]
  go_wp2_with fail
  go_ret
  exact ⟨rfl, rfl⟩

theorem word1 (w : World) : Calls Try.prog 74 #[.int .i64 1] w fun r w' => r = .returned (.string ⟨#[103, 101, 116]⟩) ∧ Fr (fun _ => False) w w' := by
  go_enter Try.func74, Try.ntmps74
  go_wp2_with fail
  go_ret
  exact ⟨rfl, (Fr.refl _ _).alloc _⟩

theorem word2 (w : World) : Calls Try.prog 74 #[.int .i64 2] w fun r w' => r = .returned (.string ⟨#[112, 117, 116]⟩) ∧ Fr (fun _ => False) w w' := by
  go_enter Try.func74, Try.ntmps74
  go_wp2_with fail
  go_ret
  exact ⟨rfl, (Fr.refl _ _).alloc _⟩

theorem word3 (w : World) : Calls Try.prog 74 #[.int .i64 3] w fun r w' => r = .returned (.string ⟨#[100, 101, 108]⟩) ∧ Fr (fun _ => False) w w' := by
  go_enter Try.func74, Try.ntmps74
  go_wp2_with fail
  go_ret
  exact ⟨rfl, (Fr.refl _ _).alloc _⟩

theorem word4 (w : World) : Calls Try.prog 74 #[.int .i64 4] w fun r w' => r = .returned (.string ⟨#[97, 100, 100]⟩) ∧ Fr (fun _ => False) w w' := by
  go_enter Try.func74, Try.ntmps74
  go_wp2_with fail
  go_ret
  exact ⟨rfl, (Fr.refl _ _).alloc _⟩

theorem word_no (k : Int) (h : ¬ (k = 1 ∨ k = 2 ∨ k = 3 ∨ k = 4)) (w : World) : Calls Try.prog 74 #[.int .i64 k] w fun r w' => r = .returned (.string ⟨#[]⟩) ∧ Fr (fun _ => False) w w' := by
  by_cases h1 : k < 0
  · have t1 : decide (k < 0) = true := decide_eq_true h1
    clear h h1
    go_enter Try.func74, Try.ntmps74
    go_wp2_with fail
    go_ret
    exact ⟨rfl, (Fr.refl _ _).alloc _⟩
  · have t1 : decide (k < 0) = false := decide_eq_false h1
    by_cases h2 : 5 ≤ k
    · have t2 : decide (5 ≤ k) = true := decide_eq_true h2
      clear h h1 h2
      go_enter Try.func74, Try.ntmps74
      go_wp2_with fail
      go_ret
      exact ⟨rfl, (Fr.refl _ _).alloc _⟩
    · obtain rfl : k = 0 := by omega
      clear h h1 h2 t1
      go_enter Try.func74, Try.ntmps74
      go_wp2_with fail
      go_ret
      exact ⟨rfl, (Fr.refl _ _).alloc _⟩

set_option maxHeartbeats 4000000 in
theorem cmd_check (k : Int) (s : ByteArray) (x : Nat) (w : World) (hs : s.size ≤ maxLen) (hx : x < 18446744073709551616) :
    Calls Try.prog 72 #[.agg #[.int .i64 k, .string s, .float .f64 x]] w fun r w' => r = .returned (.int .i64 (errCmd (k, s, x))) ∧ Fr (fun _ => False) w w' := by
  have hF := (Fr.refl (fun _ => False) w).alloc (.cells #[.int .i64 k, .string s, .float .f64 x] 58)
  have hX := Blk.new w 58 #[.int .i64 k, .string s, .float .f64 x]
  by_cases hkind : k = 1 ∨ k = 2 ∨ k = 3 ∨ k = 4
  · by_cases hk : keyOk s
    · skip
      rcases hkind with rfl | rfl | rfl | rfl
      · by_cases hz : x = 0
        · rw [errCmd_ok (show cmdOk (1, s, x) from ⟨by simp, hk, fun _ => hz⟩)]
          have e := decide_eq_true hz
          have HE := Lib.hid e
          clear e hz
          go_enter Try.func72, Try.ntmps72
          go_wp2_with fail
          refine (word1 _).mono ?_
          rintro r w1 ⟨rfl, hF1⟩
          have x0 := (hX.fr hF1 (fun h => h)).cell 0
          have x1 := (hX.fr hF1 (fun h => h)).cell 1
          have x2 := (hX.fr hF1 (fun h => h)).cell 2
          simp only [List.getElem?_toArray, List.getElem?_cons_zero, List.getElem?_cons_succ] at x0 x1 x2
          go_wp2_with fail
          refine (cmd_key s _ hs).mono ?_
          rintro r w2 ⟨rfl, hF2⟩
          rw [cdec_true hk]
          have y0 := (hX.fr (hF1.trans hF2) (fun h => h)).cell 0
          have y2 := (hX.fr (hF1.trans hF2) (fun h => h)).cell 2
          simp only [List.getElem?_toArray, List.getElem?_cons_zero, List.getElem?_cons_succ] at y0 y2
          clear x0 x1 x2 hk
          go_wp2_with fail
          refine (cmd_plus x hx _).mono ?_
          rintro r w3 ⟨rfl, rfl⟩
          rw [HE.out]
          go_wp2_with fail
          go_ret
          exact ⟨rfl, (hF.trans hF1).trans hF2⟩
        · rw [errCmd_no (show ¬ cmdOk (1, s, x) from fun h => hz (h.2.2 (by simp)))]
          have e := decide_eq_false hz
          have HE := Lib.hid e
          clear e hz
          go_enter Try.func72, Try.ntmps72
          go_wp2_with fail
          refine (word1 _).mono ?_
          rintro r w1 ⟨rfl, hF1⟩
          have x0 := (hX.fr hF1 (fun h => h)).cell 0
          have x1 := (hX.fr hF1 (fun h => h)).cell 1
          have x2 := (hX.fr hF1 (fun h => h)).cell 2
          simp only [List.getElem?_toArray, List.getElem?_cons_zero, List.getElem?_cons_succ] at x0 x1 x2
          go_wp2_with fail
          refine (cmd_key s _ hs).mono ?_
          rintro r w2 ⟨rfl, hF2⟩
          rw [cdec_true hk]
          have y0 := (hX.fr (hF1.trans hF2) (fun h => h)).cell 0
          have y2 := (hX.fr (hF1.trans hF2) (fun h => h)).cell 2
          simp only [List.getElem?_toArray, List.getElem?_cons_zero, List.getElem?_cons_succ] at y0 y2
          clear x0 x1 x2 hk
          go_wp2_with fail
          refine (cmd_plus x hx _).mono ?_
          rintro r w3 ⟨rfl, rfl⟩
          rw [HE.out]
          go_wp2_with fail
          go_ret
          exact ⟨rfl, (hF.trans hF1).trans hF2⟩
      · rw [errCmd_ok (show cmdOk (2, s, x) from ⟨by simp, hk, fun h => by simp at h⟩)]
        go_enter Try.func72, Try.ntmps72
        go_wp2_with fail
        refine (word2 _).mono ?_
        rintro r w1 ⟨rfl, hF1⟩
        have x0 := (hX.fr hF1 (fun h => h)).cell 0
        have x1 := (hX.fr hF1 (fun h => h)).cell 1
        have x2 := (hX.fr hF1 (fun h => h)).cell 2
        simp only [List.getElem?_toArray, List.getElem?_cons_zero, List.getElem?_cons_succ] at x0 x1 x2
        go_wp2_with fail
        refine (cmd_key s _ hs).mono ?_
        rintro r w2 ⟨rfl, hF2⟩
        rw [cdec_true hk]
        have y0 := (hX.fr (hF1.trans hF2) (fun h => h)).cell 0
        have y2 := (hX.fr (hF1.trans hF2) (fun h => h)).cell 2
        simp only [List.getElem?_toArray, List.getElem?_cons_zero, List.getElem?_cons_succ] at y0 y2
        clear x0 x1 x2 hk
        go_wp2_with fail
        go_ret
        exact ⟨rfl, (hF.trans hF1).trans hF2⟩
      · by_cases hz : x = 0
        · rw [errCmd_ok (show cmdOk (3, s, x) from ⟨by simp, hk, fun _ => hz⟩)]
          have e := decide_eq_true hz
          have HE := Lib.hid e
          clear e hz
          go_enter Try.func72, Try.ntmps72
          go_wp2_with fail
          refine (word3 _).mono ?_
          rintro r w1 ⟨rfl, hF1⟩
          have x0 := (hX.fr hF1 (fun h => h)).cell 0
          have x1 := (hX.fr hF1 (fun h => h)).cell 1
          have x2 := (hX.fr hF1 (fun h => h)).cell 2
          simp only [List.getElem?_toArray, List.getElem?_cons_zero, List.getElem?_cons_succ] at x0 x1 x2
          go_wp2_with fail
          refine (cmd_key s _ hs).mono ?_
          rintro r w2 ⟨rfl, hF2⟩
          rw [cdec_true hk]
          have y0 := (hX.fr (hF1.trans hF2) (fun h => h)).cell 0
          have y2 := (hX.fr (hF1.trans hF2) (fun h => h)).cell 2
          simp only [List.getElem?_toArray, List.getElem?_cons_zero, List.getElem?_cons_succ] at y0 y2
          clear x0 x1 x2 hk
          go_wp2_with fail
          refine (cmd_plus x hx _).mono ?_
          rintro r w3 ⟨rfl, rfl⟩
          rw [HE.out]
          go_wp2_with fail
          go_ret
          exact ⟨rfl, (hF.trans hF1).trans hF2⟩
        · rw [errCmd_no (show ¬ cmdOk (3, s, x) from fun h => hz (h.2.2 (by simp)))]
          have e := decide_eq_false hz
          have HE := Lib.hid e
          clear e hz
          go_enter Try.func72, Try.ntmps72
          go_wp2_with fail
          refine (word3 _).mono ?_
          rintro r w1 ⟨rfl, hF1⟩
          have x0 := (hX.fr hF1 (fun h => h)).cell 0
          have x1 := (hX.fr hF1 (fun h => h)).cell 1
          have x2 := (hX.fr hF1 (fun h => h)).cell 2
          simp only [List.getElem?_toArray, List.getElem?_cons_zero, List.getElem?_cons_succ] at x0 x1 x2
          go_wp2_with fail
          refine (cmd_key s _ hs).mono ?_
          rintro r w2 ⟨rfl, hF2⟩
          rw [cdec_true hk]
          have y0 := (hX.fr (hF1.trans hF2) (fun h => h)).cell 0
          have y2 := (hX.fr (hF1.trans hF2) (fun h => h)).cell 2
          simp only [List.getElem?_toArray, List.getElem?_cons_zero, List.getElem?_cons_succ] at y0 y2
          clear x0 x1 x2 hk
          go_wp2_with fail
          refine (cmd_plus x hx _).mono ?_
          rintro r w3 ⟨rfl, rfl⟩
          rw [HE.out]
          go_wp2_with fail
          go_ret
          exact ⟨rfl, (hF.trans hF1).trans hF2⟩
      · rw [errCmd_ok (show cmdOk (4, s, x) from ⟨by simp, hk, fun h => by simp at h⟩)]
        go_enter Try.func72, Try.ntmps72
        go_wp2_with fail
        refine (word4 _).mono ?_
        rintro r w1 ⟨rfl, hF1⟩
        have x0 := (hX.fr hF1 (fun h => h)).cell 0
        have x1 := (hX.fr hF1 (fun h => h)).cell 1
        have x2 := (hX.fr hF1 (fun h => h)).cell 2
        simp only [List.getElem?_toArray, List.getElem?_cons_zero, List.getElem?_cons_succ] at x0 x1 x2
        go_wp2_with fail
        refine (cmd_key s _ hs).mono ?_
        rintro r w2 ⟨rfl, hF2⟩
        rw [cdec_true hk]
        have y0 := (hX.fr (hF1.trans hF2) (fun h => h)).cell 0
        have y2 := (hX.fr (hF1.trans hF2) (fun h => h)).cell 2
        simp only [List.getElem?_toArray, List.getElem?_cons_zero, List.getElem?_cons_succ] at y0 y2
        clear x0 x1 x2 hk
        go_wp2_with fail
        go_ret
        exact ⟨rfl, (hF.trans hF1).trans hF2⟩
    · skip
      rcases hkind with rfl | rfl | rfl | rfl
      · rw [errCmd_no (show ¬ cmdOk (1, s, x) from fun h => hk h.2.1)]
        go_enter Try.func72, Try.ntmps72
        go_wp2_with fail
        refine (word1 _).mono ?_
        rintro r w1 ⟨rfl, hF1⟩
        have x0 := (hX.fr hF1 (fun h => h)).cell 0
        have x1 := (hX.fr hF1 (fun h => h)).cell 1
        have x2 := (hX.fr hF1 (fun h => h)).cell 2
        simp only [List.getElem?_toArray, List.getElem?_cons_zero, List.getElem?_cons_succ] at x0 x1 x2
        go_wp2_with fail
        refine (cmd_key s _ hs).mono ?_
        rintro r w2 ⟨rfl, hF2⟩
        rw [cdec_false hk]
        have y0 := (hX.fr (hF1.trans hF2) (fun h => h)).cell 0
        have y2 := (hX.fr (hF1.trans hF2) (fun h => h)).cell 2
        simp only [List.getElem?_toArray, List.getElem?_cons_zero, List.getElem?_cons_succ] at y0 y2
        clear x0 x1 x2 hk
        go_wp2_with fail
        go_ret
        exact ⟨rfl, (hF.trans hF1).trans hF2⟩
      · rw [errCmd_no (show ¬ cmdOk (2, s, x) from fun h => hk h.2.1)]
        go_enter Try.func72, Try.ntmps72
        go_wp2_with fail
        refine (word2 _).mono ?_
        rintro r w1 ⟨rfl, hF1⟩
        have x0 := (hX.fr hF1 (fun h => h)).cell 0
        have x1 := (hX.fr hF1 (fun h => h)).cell 1
        have x2 := (hX.fr hF1 (fun h => h)).cell 2
        simp only [List.getElem?_toArray, List.getElem?_cons_zero, List.getElem?_cons_succ] at x0 x1 x2
        go_wp2_with fail
        refine (cmd_key s _ hs).mono ?_
        rintro r w2 ⟨rfl, hF2⟩
        rw [cdec_false hk]
        have y0 := (hX.fr (hF1.trans hF2) (fun h => h)).cell 0
        have y2 := (hX.fr (hF1.trans hF2) (fun h => h)).cell 2
        simp only [List.getElem?_toArray, List.getElem?_cons_zero, List.getElem?_cons_succ] at y0 y2
        clear x0 x1 x2 hk
        go_wp2_with fail
        go_ret
        exact ⟨rfl, (hF.trans hF1).trans hF2⟩
      · rw [errCmd_no (show ¬ cmdOk (3, s, x) from fun h => hk h.2.1)]
        go_enter Try.func72, Try.ntmps72
        go_wp2_with fail
        refine (word3 _).mono ?_
        rintro r w1 ⟨rfl, hF1⟩
        have x0 := (hX.fr hF1 (fun h => h)).cell 0
        have x1 := (hX.fr hF1 (fun h => h)).cell 1
        have x2 := (hX.fr hF1 (fun h => h)).cell 2
        simp only [List.getElem?_toArray, List.getElem?_cons_zero, List.getElem?_cons_succ] at x0 x1 x2
        go_wp2_with fail
        refine (cmd_key s _ hs).mono ?_
        rintro r w2 ⟨rfl, hF2⟩
        rw [cdec_false hk]
        have y0 := (hX.fr (hF1.trans hF2) (fun h => h)).cell 0
        have y2 := (hX.fr (hF1.trans hF2) (fun h => h)).cell 2
        simp only [List.getElem?_toArray, List.getElem?_cons_zero, List.getElem?_cons_succ] at y0 y2
        clear x0 x1 x2 hk
        go_wp2_with fail
        go_ret
        exact ⟨rfl, (hF.trans hF1).trans hF2⟩
      · rw [errCmd_no (show ¬ cmdOk (4, s, x) from fun h => hk h.2.1)]
        go_enter Try.func72, Try.ntmps72
        go_wp2_with fail
        refine (word4 _).mono ?_
        rintro r w1 ⟨rfl, hF1⟩
        have x0 := (hX.fr hF1 (fun h => h)).cell 0
        have x1 := (hX.fr hF1 (fun h => h)).cell 1
        have x2 := (hX.fr hF1 (fun h => h)).cell 2
        simp only [List.getElem?_toArray, List.getElem?_cons_zero, List.getElem?_cons_succ] at x0 x1 x2
        go_wp2_with fail
        refine (cmd_key s _ hs).mono ?_
        rintro r w2 ⟨rfl, hF2⟩
        rw [cdec_false hk]
        have y0 := (hX.fr (hF1.trans hF2) (fun h => h)).cell 0
        have y2 := (hX.fr (hF1.trans hF2) (fun h => h)).cell 2
        simp only [List.getElem?_toArray, List.getElem?_cons_zero, List.getElem?_cons_succ] at y0 y2
        clear x0 x1 x2 hk
        go_wp2_with fail
        go_ret
        exact ⟨rfl, (hF.trans hF1).trans hF2⟩
  · rw [errCmd_no (show ¬ cmdOk (k, s, x) from fun h => hkind h.1)]
    have HK := Lib.hid hkind
    clear hkind
    go_enter Try.func72, Try.ntmps72
    go_wp2_with fail
    refine (word_no k HK.out _).mono ?_
    rintro r w1 ⟨rfl, hF1⟩
    have x0 := (hX.fr hF1 (fun h => h)).cell 0
    have x1 := (hX.fr hF1 (fun h => h)).cell 1
    have x2 := (hX.fr hF1 (fun h => h)).cell 2
    simp only [List.getElem?_toArray, List.getElem?_cons_zero, List.getElem?_cons_succ] at x0 x1 x2
    go_wp2_with fail
    go_ret
    exact ⟨rfl, hF.trans hF1⟩
theorem i_eq0 (c : Cmd) : (errCmd c == 0) = cdec (cmdOk c) := by
  by_cases h : cmdOk c
  · rw [errCmd_ok h, cdec_true h]; rfl
  · rw [errCmd_no h, cdec_false h]; rfl
set_option maxHeartbeats 4000000 in
theorem ref_cmd_right (k : Int) (s : ByteArray) (x : Nat) (w : World) (hs : s.size ≤ maxLen) (hx : x < 18446744073709551616) :
    Calls Try.prog 54 #[.agg #[.int .i64 k, .string s, .float .f64 x]] w fun r w' => r = .returned (.bool (cdec (cmdOk (k, s, x)))) ∧ Fr (fun _ => False) w w' := by
  have hF := (Fr.refl (fun _ => False) w).alloc (.cells #[.int .i64 k, .string s, .float .f64 x] 58)
  have hX := Blk.new w 58 #[.int .i64 k, .string s, .float .f64 x]
  by_cases hk : keyOk s
  · by_cases h1 : k = 1
    · subst h1
      by_cases hz : x = 0
      · rw [cdec_true (show cmdOk (1, s, x) from ⟨by simp, hk, fun _ => hz⟩)]
        have e : (kindP x == 4) = true := by rw [(kind_nil x hx).2 hz]; rfl
        clear hz
        go_enter Try.func54, Try.ntmps54
        go_wp2_with fail
        refine (ref_key s _ hs).mono ?_
        rintro r w1 ⟨rfl, rfl⟩
        rw [cdec_true hk]
        clear hk
        go_wp2_with fail
        refine (ref_kind x hx _).mono ?_
        rintro r w3 ⟨rfl, rfl⟩
        generalize kindP x = z at *
        go_wp2_with fail
        go_ret
        exact ⟨rfl, hF⟩
      · rw [cdec_false (show ¬ cmdOk (1, s, x) from fun h => hz (h.2.2 (by simp)))]
        have e : (kindP x == 4) = false := by simp only [beq_eq_false_iff_ne]; exact fun h => hz ((kind_nil x hx).1 h)
        clear hz
        go_enter Try.func54, Try.ntmps54
        go_wp2_with fail
        refine (ref_key s _ hs).mono ?_
        rintro r w1 ⟨rfl, rfl⟩
        rw [cdec_true hk]
        clear hk
        go_wp2_with fail
        refine (ref_kind x hx _).mono ?_
        rintro r w3 ⟨rfl, rfl⟩
        generalize kindP x = z at *
        go_wp2_with fail
        go_ret
        exact ⟨rfl, hF⟩
    · by_cases h2 : k = 2
      · subst h2
        rw [cdec_true (show cmdOk (2, s, x) from ⟨by simp, hk, fun h => by simp at h⟩)]
        go_enter Try.func54, Try.ntmps54
        go_wp2_with fail
        refine (ref_key s _ hs).mono ?_
        rintro r w1 ⟨rfl, rfl⟩
        rw [cdec_true hk]
        clear hk
        go_wp2_with fail
        go_ret
        exact ⟨rfl, hF⟩
      · by_cases h3 : k = 3
        · subst h3
          by_cases hz : x = 0
          · rw [cdec_true (show cmdOk (3, s, x) from ⟨by simp, hk, fun _ => hz⟩)]
            have e : (kindP x == 4) = true := by rw [(kind_nil x hx).2 hz]; rfl
            clear hz
            go_enter Try.func54, Try.ntmps54
            go_wp2_with fail
            refine (ref_key s _ hs).mono ?_
            rintro r w1 ⟨rfl, rfl⟩
            rw [cdec_true hk]
            clear hk
            go_wp2_with fail
            refine (ref_kind x hx _).mono ?_
            rintro r w3 ⟨rfl, rfl⟩
            generalize kindP x = z at *
            go_wp2_with fail
            go_ret
            exact ⟨rfl, hF⟩
          · rw [cdec_false (show ¬ cmdOk (3, s, x) from fun h => hz (h.2.2 (by simp)))]
            have e : (kindP x == 4) = false := by simp only [beq_eq_false_iff_ne]; exact fun h => hz ((kind_nil x hx).1 h)
            clear hz
            go_enter Try.func54, Try.ntmps54
            go_wp2_with fail
            refine (ref_key s _ hs).mono ?_
            rintro r w1 ⟨rfl, rfl⟩
            rw [cdec_true hk]
            clear hk
            go_wp2_with fail
            refine (ref_kind x hx _).mono ?_
            rintro r w3 ⟨rfl, rfl⟩
            generalize kindP x = z at *
            go_wp2_with fail
            go_ret
            exact ⟨rfl, hF⟩
        · by_cases h4 : k = 4
          · subst h4
            rw [cdec_true (show cmdOk (4, s, x) from ⟨by simp, hk, fun h => by simp at h⟩)]
            go_enter Try.func54, Try.ntmps54
            go_wp2_with fail
            refine (ref_key s _ hs).mono ?_
            rintro r w1 ⟨rfl, rfl⟩
            rw [cdec_true hk]
            clear hk
            go_wp2_with fail
            go_ret
            exact ⟨rfl, hF⟩
          · rw [cdec_false (show ¬ cmdOk (k, s, x) from fun h => by rcases h.1 with h | h | h | h <;> contradiction)]
            have e1 : (k == 1) = false := by simp [h1]
            have e2 : (k == 2) = false := by simp [h2]
            have e3 : (k == 3) = false := by simp [h3]
            have e4 : (k == 4) = false := by simp [h4]
            clear h1 h2 h3 h4
            go_enter Try.func54, Try.ntmps54
            go_wp2_with fail
            refine (ref_key s _ hs).mono ?_
            rintro r w1 ⟨rfl, rfl⟩
            rw [cdec_true hk]
            clear hk
            go_wp2_with fail
            go_ret
            exact ⟨rfl, hF⟩
  · rw [cdec_false (show ¬ cmdOk (k, s, x) from fun h => hk h.2.1)]
    go_enter Try.func54, Try.ntmps54
    go_wp2_with fail
    refine (ref_key s _ hs).mono ?_
    rintro r w1 ⟨rfl, rfl⟩
    rw [cdec_false hk]
    clear hk
    go_wp2_with fail
    go_ret
    exact ⟨rfl, hF⟩
end Go.Proofs.Ytelfpnpplknlpaa
/- Batches: what is wrong with one, by the program and by the reference. -/
namespace Go.Proofs.Ytelfpnpplknlpaa
open Go.RowKit
open Go.Proofs.YtelfpnpplknlpaaW.PrintWords

def CmdGood (a : Cmd) : Prop := a.2.1.size ≤ maxLen ∧ a.2.2 < 18446744073709551616
def batOk (L : List Cmd) : Prop := ∀ i, i < L.length → cmdOk (cmx L i)
noncomputable def errBat (L : List Cmd) : Int := if 8 < L.length then 5 else bif cdec (batOk L) then 0 else 12
theorem errBat_big {L : List Cmd} (h : 8 < L.length) : errBat L = 5 := if_pos h
theorem errBat_ok {L : List Cmd} (h : ¬ 8 < L.length) (h' : batOk L) : errBat L = 0 := by unfold errBat; rw [if_neg h, cdec_true h']; rfl
theorem errBat_no {L : List Cmd} (h : ¬ 8 < L.length) {i : Nat} (hi : i < L.length) (h' : ¬ cmdOk (cmx L i)) : errBat L = 12 := by unfold errBat; rw [if_neg h, cdec_false fun h => h' (h i hi)]; rfl
set_option maxRecDepth 100000 in
set_option maxHeartbeats 2000000 in
theorem bat_check (A : Option Addr) (n c : Nat) (L : List Cmd) (w : World) (h : cmdK.C w A n L) (hL : ∀ x ∈ L, CmdGood x) :
    Calls Try.prog 64 #[.slice A n c] w fun r w' => r = .returned (.int .i64 (errBat L)) ∧ Fr (fun _ => False) w w' := by
  have hmx : n ≤ 9223372036854775807 := h.2.1
  have HL := Lib.hid (show L.length = n from h.1)
  have HC := Lib.hid h
  have HO := Lib.hid hL
  clear h hL
  by_cases h8 : 8 < n
  · have t1 : decide ((8 : Int) < (n : Int)) = true := decide_eq_true (by omega)
    rw [errBat_big (by rw [HL.out]; exact h8)]
    clear h8
    go_enter Try.func64, Try.ntmps64
    go_wp2_with fail
    go_ret
    exact ⟨rfl, Fr.refl _ _⟩
  · have t1 : decide ((8 : Int) < (n : Int)) = false := decide_eq_false (by omega)
    go_enter Try.func64, Try.ntmps64
    go_wp2_with fail
    clear t1
    go_loopw [11] (fun i wr => ∃ k : Nat, k ≤ n ∧ i = .int .i64 k ∧ (∀ j, j < k → cmdOk (cmx L j)) ∧ Fr (fun _ => False) w wr) (fun i _ => n - (intOf i).toNat)
    case atStart => exact ⟨0, Nat.zero_le _, rfl, fun _ h => by omega, Fr.refl _ _⟩
    case round =>
      obtain ⟨k, hk, rfl, hno, hG⟩ := hrel
      replace hno := Lib.hid hno
      replace hG := Lib.hid hG
      rcases Nat.lt_or_ge k n with hlt | hge
      · obtain ⟨b, off, rfl, h0, h1, h2⟩ := cmds_at (Kd.C_below HC.out (hG.out.below (fun _ _ h => h))) hlt
        have q1 := Lib.hid (HO.out _ (cmx_mem (i := k) (by rw [HL.out]; exact hlt)))
        have HF := Lib.hid ((Fr.refl (fun _ => False) wr).alloc (.cells #[.int .i64 (cmx L k).1, .string (cmx L k).2.1, .float .f64 (cmx L k).2.2] 58))
        go_wp2_with fail
        refine (cmd_check (cmx L k).1 (cmx L k).2.1 (cmx L k).2.2 _ q1.out.1 q1.out.2).mono ?_
        rintro r w2 ⟨rfl, hF2⟩
        rw [show (((cmx L k).1, (cmx L k).2.1, (cmx L k).2.2) : Cmd) = cmx L k from rfl]
        clear h0 h1 h2
        by_cases hq : cmdOk (cmx L k)
        · rw [errCmd_ok hq]
          go_wp2_with fail
          go_roundw
          case rel =>
            refine ⟨k + 1, by omega, by go_num, fun j hj => ?_, (hG.out.trans HF.out).trans hF2⟩
            rcases Nat.lt_or_ge j k with h | h
            · exact hno.out j h
            · obtain rfl : j = k := by omega
              exact hq
          case measure => simp [intOf]; omega
        · rw [errCmd_no hq]
          have he := errBat_no (L := L) (by rw [HL.out]; exact h8) (i := k) (by rw [HL.out]; exact hlt) hq
          have HE := Lib.hid he
          clear he hq
          go_wp2_with fail
          go_ret
          refine ⟨?_, (hG.out.trans HF.out).trans hF2⟩
          rw [HE.out]
          rfl
      · have hall : batOk L := fun i hi => hno.out i (by rw [HL.out] at hi; omega)
        have he := errBat_ok (L := L) (by rw [HL.out]; exact h8) hall
        have HE := Lib.hid he
        obtain rfl : n = k := by omega
        have tnn : decide (n < n) = false := decide_eq_false (by omega)
        clear hall he
        go_wp2_with fail
        go_ret
        refine ⟨?_, hG.out⟩
        rw [HE.out]
        rfl
set_option maxRecDepth 100000 in
set_option maxHeartbeats 2000000 in
theorem ref_bat (A : Option Addr) (n c : Nat) (L : List Cmd) (w : World) (h : cmdK.C w A n L) (hL : ∀ x ∈ L, CmdGood x) :
    Calls Try.prog 33 #[.slice A n c] w fun r w' => r = .returned (.int .i64 (errBat L)) ∧ Fr (fun _ => False) w w' := by
  have hmx : n ≤ 9223372036854775807 := h.2.1
  have HL := Lib.hid (show L.length = n from h.1)
  have HC := Lib.hid h
  have HO := Lib.hid hL
  clear h hL
  by_cases h8 : 8 < n
  · have t1 : decide ((8 : Int) < (n : Int)) = true := decide_eq_true (by omega)
    rw [errBat_big (by rw [HL.out]; exact h8)]
    clear h8
    go_enter Try.func33, Try.ntmps33
    go_wp2_with fail
    go_ret
    exact ⟨rfl, Fr.refl _ _⟩
  · have t1 : decide ((8 : Int) < (n : Int)) = false := decide_eq_false (by omega)
    go_enter Try.func33, Try.ntmps33
    go_wp2_with fail
    clear t1
    go_loopw [3] (fun i wr => ∃ k : Nat, k ≤ n ∧ i = .int .i64 k ∧ (∀ j, j < k → cmdOk (cmx L j)) ∧ Fr (fun _ => False) w wr) (fun i _ => n - (intOf i).toNat)
    case atStart => exact ⟨0, Nat.zero_le _, rfl, fun _ h => by omega, Fr.refl _ _⟩
    case round =>
      obtain ⟨k, hk, rfl, hno, hG⟩ := hrel
      replace hno := Lib.hid hno
      replace hG := Lib.hid hG
      rcases Nat.lt_or_ge k n with hlt | hge
      · obtain ⟨b, off, rfl, h0, h1, h2⟩ := cmds_at (Kd.C_below HC.out (hG.out.below (fun _ _ h => h))) hlt
        have q1 := Lib.hid (HO.out _ (cmx_mem (i := k) (by rw [HL.out]; exact hlt)))
        go_wp2_with fail
        refine (ref_cmd_right (cmx L k).1 (cmx L k).2.1 (cmx L k).2.2 _ q1.out.1 q1.out.2).mono ?_
        rintro r w2 ⟨rfl, hF2⟩
        rw [show (((cmx L k).1, (cmx L k).2.1, (cmx L k).2.2) : Cmd) = cmx L k from rfl]
        clear h0 h1 h2
        by_cases hq : cmdOk (cmx L k)
        · rw [cdec_true hq]
          go_wp2_with fail
          go_roundw
          case rel =>
            refine ⟨k + 1, by omega, by go_num, fun j hj => ?_, hG.out.trans hF2⟩
            rcases Nat.lt_or_ge j k with h | h
            · exact hno.out j h
            · obtain rfl : j = k := by omega
              exact hq
          case measure => simp [intOf]; omega
        · rw [cdec_false hq]
          have he := errBat_no (L := L) (by rw [HL.out]; exact h8) (i := k) (by rw [HL.out]; exact hlt) hq
          have HE := Lib.hid he
          clear he hq
          go_wp2_with fail
          go_ret
          refine ⟨?_, hG.out.trans hF2⟩
          rw [HE.out]
          rfl
      · have hall : batOk L := fun i hi => hno.out i (by rw [HL.out] at hi; omega)
        have he := errBat_ok (L := L) (by rw [HL.out]; exact h8) hall
        have HE := Lib.hid he
        obtain rfl : n = k := by omega
        have tnn : decide (n < n) = false := decide_eq_false (by omega)
        clear hall he
        go_wp2_with fail
        go_ret
        refine ⟨?_, hG.out⟩
        rw [HE.out]
        rfl
end Go.Proofs.Ytelfpnpplknlpaa
/- Batches: which are the same. -/
namespace Go.Proofs.Ytelfpnpplknlpaa
open Go.RowKit
open Go.Proofs.YtelfpnpplknlpaaW.PrintWords

end Go.Proofs.Ytelfpnpplknlpaa
