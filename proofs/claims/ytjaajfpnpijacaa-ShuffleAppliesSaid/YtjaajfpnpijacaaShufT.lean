/- The laws ShufflePerms and ShuffleRanks, walked. -/
import Derived.Test.YtjaajfpnpijacaaUnr
set_option linter.unusedVariables false
set_option linter.unusedSimpArgs false
namespace Go.Proofs.Ytjaajfpnpijacaa
open Go.RowKit
open Go.Proofs.YtjaajfpnpijacaaW.PrintWords

/-- Unrank of none: the one order of nothing. -/
theorem shuf_unrank0 (k : Nat) (w : World) (hk : k < 18446744073709551616) : Calls Try.prog 11 #[.int .i64 0, .int .u64 k] w (UnrTells w 0 k) := by
  rcases Nat.eq_zero_or_pos k with h0 | hpos
  · subst h0
    have hmk : ∀ W : World, (Instr.makeSlice 24 (.int .i64 0) (.int .i64 0)).run Try.prog W = .ok (.slice (some ⟨W.heap.size, 0, none⟩) 0 0) (W.alloc (.cells (madeCells #[.int .i64 0] 0) 3)) := print_make (P := Try.prog) 24 3 .i64 8 Try.underlying24 info_int (by omega) 0 (by omega)
    go_enter Try.func11, Try.ntmps11
    go_wp2
    go_step3
    go_wp2
    go_step3
    go_wp2_with fail
    refine wp_loop_rounds 1 ?_
    rw [rounds_succ]
    go_wp2_with fail
    refine wp_loop_rounds 1 ?_
    rw [rounds_succ]
    go_wp2_with fail
    rw [Exit.noGoto_ret]
    go_ret2
    exact .inl ⟨by decide, some ⟨w.heap.size + 1, 0, none⟩, 0, rfl, Nat.le_refl _, ⟨rfl, by simp, fun h => absurd h (Nat.lt_irrefl 0)⟩, ((Fr.refl _ _).alloc _).alloc _⟩
  · have t1 : decide (0 < k) = true := decide_eq_true hpos
    go_enter Try.func11, Try.ntmps11
    go_wp2
    go_step3
    go_wp2
    go_step3
    go_wp2_with fail
    rw [Exit.noGoto_ret]
    go_ret2
    exact .inr ⟨hpos, rfl, Fr.refl _ _⟩
theorem shuf_unr (n k : Nat) (w : World) (hn : n ≤ 20) (hk : k < 18446744073709551616) : Calls Try.prog 11 #[.int .i64 n, .int .u64 k] w (UnrTells w n k) := by
  rcases Nat.eq_zero_or_pos n with h | h
  · subst h; exact shuf_unrank0 k w hk
  · exact shuf_unrank n k w hn hk h
theorem lit_ints (w : World) (a b c : Int) : IntsAt (w.alloc (.cells #[.int .i64 a, .int .i64 b, .int .i64 c] 3)) w.heap.size [a, b, c] := Blk.new w 3 #[.int .i64 a, .int .i64 b, .int .i64 c]
theorem right201 : RightR [2, 0, 1] := by decide
theorem rank201 : rankR [2, 0, 1] = 4 := by decide
theorem unr34 : unrL 3 (upto 3) 4 = [2, 0, 1] := by decide
theorem permGo_right : ∀ (q st : Nat) (s : List Int), q ≤ s.length → RightR s → RightR (permGo q st s) ∧ (permGo q st s).length = s.length
  | 0, _, s, _, h => ⟨h, rfl⟩
  | 1, _, s, _, h => ⟨h, rfl⟩
  | q + 2, st, s, hl, h => by
    rw [permGo_step]
    have hk := takeP_lt (nextP st) (q + 2) (by omega)
    have h2 := swapR_right h (i := q + 1) (k := takeP (nextP st) (q + 2)) (by omega) (by omega)
    have := permGo_right (q + 1) (nextP st) _ (by rw [swapR_len]; omega) h2
    rwa [swapR_len] at this
theorem permR_right (seed n : Nat) : RightR (permR seed n) := (permGo_right n seed (upto n) (by rw [upto_len]; exact Nat.le_refl _) (upto_right n)).1
theorem permR_len (seed n : Nat) : (permR seed n).length = n := by rw [permR, (permGo_right n seed (upto n) (by rw [upto_len]; exact Nat.le_refl _) (upto_right n)).2, upto_len]
set_option maxRecDepth 100000 in
set_option maxHeartbeats 2000000 in
theorem works33 (w : World) : Calls Try.prog 6 #[] w fun r w' => r = .returned (.bool true) ∧ Fr (fun _ => False) w w' := by
  go_enter Try.func6, Try.ntmps6
  go_wp2_with fail
  have hB := (lit_ints w 2 0 1).reads (by decide)
  have hF := (Fr.refl (fun _ => False) w).alloc (.cells #[.int .i64 2, .int .i64 0, .int .i64 1] 3)
  refine (shuf_rank _ 3 3 [2, 0, 1] _ hB (by omega) (by omega) (shuf_right _ 3 3 [2, 0, 1] _ hB (by omega))).mono ?_
  rintro r w1 ⟨rfl, hF1⟩
  rw [if_pos ⟨right201, by omega⟩, if_pos right201, if_pos (by omega), rank201]
  have HF := Lib.hid (hF.trans hF1)
  clear hB hF hF1
  go_wp2_with fail
  refine (shuf_unr 3 4 _ (by omega) (by omega)).mono ?_
  rintro r w2 (⟨_, A, c, rfl, hc, hC, hF1⟩ | ⟨h, _⟩)
  · rw [unr34] at hC
    replace HF := Lib.hid (HF.out.trans hF1)
    have HC := Lib.hid hC
    clear hF1 hC
    go_wp2_with fail
    refine (ints_same A _ 3 c 3 3 [2, 0, 1] [2, 0, 1] _ (Kd.C_alloc HC.out (.cells #[.int .i64 2, .int .i64 0, .int .i64 1] 3)) ((lit_ints w2 2 0 1).reads (by decide)) (by omega) (by omega)).mono ?_
    rintro r w3 ⟨rfl, hF1⟩
    rw [decide_eq_true rfl]
    replace HF := Lib.hid ((HF.out.alloc (.cells #[.int .i64 2, .int .i64 0, .int .i64 1] 3)).trans hF1)
    clear hF1 HC
    go_wp2_with fail
    refine (shuf_perm 7 5 _ (by omega) (by omega)).mono ?_
    rintro r w4 ⟨g, c4, rfl, hc4, hg4, hC4, hF1⟩
    replace HF := Lib.hid (HF.out.trans hF1)
    have HC := Lib.hid hC4
    have HR := Lib.hid (permR_right 7 5)
    have HL := Lib.hid (permR_len 7 5)
    clear hF1 hC4
    generalize permR 7 5 = p5 at *
    go_wp2_with fail
    refine (ref_right _ _ c4 p5 _ HC.out (by have := HL.out; omega)).mono ?_
    rintro r w5 ⟨rfl, hF1⟩
    rw [decide_eq_true HR.out]
    replace HF := Lib.hid (HF.out.trans hF1)
    clear hF1
    go_wp2_with fail
    refine (shuf_perm 7 5 _ (by omega) (by omega)).mono ?_
    rintro r w6 ⟨g6, c6, rfl, hc6, hg6, hC6, hF1⟩
    replace HF := Lib.hid (HF.out.trans hF1)
    have hL := permR_len 7 5
    rw [hL]
    clear hF1 hC6 hL
    go_wp2_with fail
    go_ret
    exact ⟨rfl, HF.out⟩
  · exact absurd h (by decide)
set_option maxRecDepth 100000 in
set_option maxHeartbeats 2000000 in
theorem lawPerms (seed : Nat) (n : Int) (w : World) (hs : seed < 18446744073709551616) : Calls Try.prog 3 #[.int .u64 seed, .int .i64 n] w fun r w' => r = .returned (.bool true) ∧ Fr (fun _ => False) w w' := by
  rcases Int.lt_or_le 300 n with hbig | hle
  · have t1 : decide (300 < n) = true := decide_eq_true hbig
    go_enter Try.func3, Try.ntmps3
    go_wp2_with fail
    refine (works33 _).mono ?_
    rintro r w1 ⟨rfl, hF⟩
    go_wp2_with fail
    go_ret
    exact ⟨rfl, hF⟩
  · have t1 : decide (300 < n) = false := decide_eq_false (by omega)
    rcases Int.lt_or_le n 0 with hneg | hpos
    · have t2 : decide (n < 0) = true := decide_eq_true hneg
      go_enter Try.func3, Try.ntmps3
      go_wp2_with fail
      refine (shuf_perm_no seed n _ hneg).mono ?_
      rintro r w1 ⟨rfl, rfl⟩
      go_wp2_with fail
      refine (works33 _).mono ?_
      rintro r w1 ⟨rfl, hF⟩
      go_wp2_with fail
      go_ret
      exact ⟨rfl, hF⟩
    · obtain ⟨m, rfl⟩ := Int.eq_ofNat_of_zero_le hpos
      have t2 : decide ((m : Int) < 0) = false := decide_eq_false (by omega)
      have hm : m ≤ 300 := by omega
      clear hle hpos
      go_enter Try.func3, Try.ntmps3
      go_wp2_with fail
      refine (shuf_perm seed m _ hs (by omega)).mono ?_
      rintro r w1 ⟨g, c, rfl, hc, hg, hC, hF⟩
      have HF := Lib.hid hF
      have HC := Lib.hid hC
      have HR := Lib.hid (permR_right seed m)
      have hL := permR_len seed m
      have HP := Lib.hid (rfl : permR seed m = permR seed m)
      obtain ⟨p, hp⟩ : ∃ p, p = permR seed m := ⟨_, rfl⟩
      rw [← hp] at HC HR hL hc ⊢
      have hpl : (p.length == m) = true := by simp [hL]
      have hpl2 : ((p.length : Int) == (m : Int)) = true := by simp [hL]
      have HPE := Lib.hid hp
      have HL := Lib.hid hL
      clear hF hC hp hL HP
      go_wp2_with fail
      refine (ref_right _ _ c p _ HC.out (by have := HL.out; omega)).mono ?_
      rintro r w2 ⟨rfl, hF1⟩
      rw [decide_eq_true HR.out]
      have HC2 := Lib.hid (Kd.C_below HC.out (hF1.below (fun _ _ h => h)))
      replace HF := Lib.hid (HF.out.trans hF1)
      clear hF1 HC
      go_wp2_with fail
      refine (shuf_perm seed m _ hs (by omega)).mono ?_
      rintro r w3 ⟨g3, c3, rfl, hc3, hg3, hC3, hF1⟩
      rw [← HPE.out] at hC3 hc3 ⊢
      have HC3 := Lib.hid hC3
      have HC4 := Lib.hid (Kd.C_below HC2.out (hF1.below (fun _ _ h => h)))
      replace HF := Lib.hid (HF.out.trans hF1)
      clear hF1 HC2 hC3
      go_wp2_with fail
      refine (ints_same _ _ _ c _ c3 p p _ HC4.out HC3.out (by have := HL.out; omega) (by have := HL.out; omega)).mono ?_
      rintro r w4 ⟨rfl, hF1⟩
      rw [decide_eq_true rfl]
      replace HF := Lib.hid (HF.out.trans hF1)
      clear hF1
      go_wp2_with fail
      refine (works33 _).mono ?_
      rintro r w5 ⟨rfl, hF1⟩
      replace HF := Lib.hid (HF.out.trans hF1)
      clear hF1
      go_wp2_with fail
      go_ret
      exact ⟨rfl, HF.out⟩
end Go.Proofs.Ytjaajfpnpijacaa
