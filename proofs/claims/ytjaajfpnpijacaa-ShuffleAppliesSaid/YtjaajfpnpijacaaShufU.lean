/- The law ShuffleRanks, walked. -/
import Derived.Test.YtjaajfpnpijacaaShufT
import Derived.Test.YtjaajfpnpijacaaBi
set_option linter.unusedVariables false
set_option linter.unusedSimpArgs false
namespace Go.Proofs.Ytjaajfpnpijacaa
open Go.RowKit
open Go.Proofs.YtjaajfpnpijacaaW.PrintWords

theorem intK_K {w : World} {a : Int} {c : List Value} (h : intK.K w a c) : c = [.int .i64 a] := h
theorem rows_ints (w : World) (A : Option Addr) (n c : Nat) (L : List Int) (h : intK.C w A n L) (hn : n ≤ 1000000) (ty : TypeId) :
    ∃ A1 c1 w1, (Builtin.append_ #[24, 24] ty #[.slice (some ⟨w.heap.size, 0, none⟩) 0 0, .slice A n c]).run Try.prog (w.alloc (.cells #[] 3)) = .ok (.slice A1 n c1) w1 ∧ n ≤ c1 ∧ intK.C w1 A1 n L ∧ Fr (fun _ => False) w w1 := by
  have hl : L.length = n := h.1
  obtain ⟨v1, w3, hr, hR3, hg3, _⟩ := R_rows_run (P := Try.prog) intK w.heap.size 24 ty 3 _ 8 Try.underlying24 info_int rfl (by decide) (by decide) (.slice (some ⟨w.heap.size, 0, none⟩) 0 0) [] L A n c (fun b => w.heap.size ≤ b) (fun _ => False) (R_empty intK 3 w) (Kd.C_alloc h _) (fun x cs h => h) (fun _ h => h.elim) (fun b hb => by simp at hb; omega) (by simp) (by simp; omega)
  obtain ⟨A3, c3, rfl⟩ := Kd.R_slice hR3
  rw [List.nil_append] at hR3
  rw [List.nil_append, hl] at hr
  obtain ⟨e1, e2, e3⟩ := Kd.R_reads' hR3
  rw [hl] at e3
  refine ⟨A3, c3, w3, hr, by omega, e3, ?_⟩
  exact (((Fr.refl (fun b => some b = (Value.slice (some (⟨w.heap.size, 0, none⟩ : Addr)) 0 0).ownBlock) w).alloc (.cells #[] 3)).trans' (Fr.of_grown ⟨hg3.os, hg3.tape, hg3.output, hg3.size, hg3.block⟩) (fun _ _ h => h)).below (fun i hi h => by simp [Value.ownBlock] at h; omega) |> Fr.of_below
set_option maxRecDepth 100000 in
set_option maxHeartbeats 8000000 in
theorem lawRanks_arg (A : Option Addr) (len cap : Nat) (p : List Int) (n : Int) (k : Nat) (w : World) (h : intK.C w A len p) (hlen : len ≤ 100) (hn : n < 0 ∨ 20 < n) :
    Calls Try.prog 4 #[.slice A len cap, .int .i64 n, .int .u64 k] w fun r w' => r = .returned (.bool true) ∧ Fr (fun _ => False) w w' := by
  have HL := Lib.hid (show p.length = len from h.1)
  have HC := Lib.hid h
  clear h
  obtain ⟨A1, c1, w1, hr, hc1, hC1, hF1⟩ := rows_ints w A len cap p HC.out (by omega) 24
  have HR1 := Lib.hid hr
  have HC1 := Lib.hid hC1
  have HF := Lib.hid hF1
  clear hr hC1 hF1
  have tl : decide ((100 : Int) < (len : Int)) = false := decide_eq_false (by omega)
  have tn : (decide (n < 0) || decide (20 < n)) = true := by simp; omega
  have HN := Lib.hid hn
  go_enter Try.func4, Try.ntmps4
  go_wp2_with (at_builtin; refine wpl_builtin2 rfl rfl rfl rfl (bi_append HR1.out) ?_)
  refine (shuf_rank A1 len c1 p _ HC1.out (by omega) hc1 (shuf_right A1 len c1 p _ HC1.out (by omega))).mono ?_
  rintro r w2 ⟨rfl, hF1⟩
  replace HF := Lib.hid (HF.out.trans hF1)
  clear hF1
  by_cases hr : RightR p
  · rcases Nat.lt_or_ge 20 len with hbig | hsm
    · rw [if_pos hr, if_neg (show ¬ len ≤ 20 by omega), if_neg (show ¬ (RightR p ∧ len ≤ 20) by omega)]
      have HRT := Lib.hid hr
      clear hr
      go_wp2_with fail
      refine (shuf_unrank_arg n k _ hn).mono ?_
      rintro r w3 ⟨rfl, rfl⟩
      go_wp2_with fail
      refine (ref_right A len cap p _ (Kd.C_below HC.out (HF.out.below (fun _ _ h => h))) (by omega)).mono ?_
      rintro r w4 ⟨rfl, hF1⟩
      rw [decide_eq_true HRT.out]
      replace HF := Lib.hid (HF.out.trans hF1)
      clear hF1
      go_wp2_with fail
      all_goals
        refine (works33 _).mono ?_
        rintro r wz ⟨rfl, hF1⟩
        replace HF := Lib.hid (HF.out.trans hF1)
        clear hF1
        go_wp2_with fail
        go_ret
        exact ⟨rfl, HF.out⟩
    · rw [if_pos hr, if_pos hsm, if_pos ⟨hr, hsm⟩]
      have HRT := Lib.hid hr
      have HRK : Hid (rankR p < 18446744073709551616) := Lib.hid (by have h1 := rankR_lt p; have h2 := facR_20 (n := p.length) (by rw [HL.out]; exact hsm); omega)
      clear hr
      go_wp2_with fail
      refine (shuf_unrank_arg n k _ hn).mono ?_
      rintro r w3 ⟨rfl, rfl⟩
      go_wp2_with fail
      refine (ref_right A len cap p _ (Kd.C_below HC.out (HF.out.below (fun _ _ h => h))) (by omega)).mono ?_
      rintro r w4 ⟨rfl, hF1⟩
      rw [decide_eq_true HRT.out]
      replace HF := Lib.hid (HF.out.trans hF1)
      clear hF1
      go_wp2_with fail
      refine (shuf_unr len (rankR p) _ (by omega) HRK.out).mono ?_
      rintro r w5 (⟨h0, Ab, cb, rfl, hcb, hCb, hF1⟩ | ⟨h0, _⟩)
      rotate_left 1
      · exact absurd h0 (by have h1 := rankR_lt p; rw [HL.out] at h1; omega)
      have hbk := rank_back HRT.out
      rw [HL.out] at hbk
      rw [hbk] at hCb
      have HB := Lib.hid hCb
      replace HF := Lib.hid (HF.out.trans hF1)
      clear hF1 h0 hCb hbk
      go_wp2_with fail
      refine (ref_rank A len cap p _ (Kd.C_below HC.out (HF.out.below (fun _ _ h => h))) (by omega)).mono ?_
      rintro r w6 ⟨rfl, hF1⟩
      replace HB := Lib.hid (Kd.C_below HB.out (hF1.below (fun _ _ h => h)))
      replace HF := Lib.hid (HF.out.trans hF1)
      clear hF1
      go_wp2_with fail
      refine (ints_same Ab A len cb len cap p p _ HB.out (Kd.C_below HC.out (HF.out.below (fun _ _ h => h))) (by omega) (by omega)).mono ?_
      rintro r w7 ⟨rfl, hF1⟩
      rw [decide_eq_true rfl]
      replace HF := Lib.hid (HF.out.trans hF1)
      clear hF1 HB
      go_wp2_with fail
      all_goals
        refine (works33 _).mono ?_
        rintro r wz ⟨rfl, hF1⟩
        replace HF := Lib.hid (HF.out.trans hF1)
        clear hF1
        go_wp2_with fail
        go_ret
        exact ⟨rfl, HF.out⟩
  · rw [if_neg hr, if_neg (show ¬ (RightR p ∧ len ≤ 20) from fun h => hr h.1)]
    have HRT := Lib.hid hr
    clear hr
    go_wp2_with fail
    refine (shuf_unrank_arg n k _ hn).mono ?_
    rintro r w3 ⟨rfl, rfl⟩
    go_wp2_with fail
    refine (ref_right A len cap p _ (Kd.C_below HC.out (HF.out.below (fun _ _ h => h))) (by omega)).mono ?_
    rintro r w4 ⟨rfl, hF1⟩
    rw [decide_eq_false HRT.out]
    replace HF := Lib.hid (HF.out.trans hF1)
    clear hF1
    go_wp2_with fail
    all_goals
      refine (works33 _).mono ?_
      rintro r wz ⟨rfl, hF1⟩
      replace HF := Lib.hid (HF.out.trans hF1)
      clear hF1
      go_wp2_with fail
      go_ret
      exact ⟨rfl, HF.out⟩
set_option maxRecDepth 100000 in
set_option maxHeartbeats 8000000 in
theorem lawRanks_range (A : Option Addr) (len cap : Nat) (p : List Int) (m k : Nat) (w : World) (h : intK.C w A len p) (hlen : len ≤ 100) (hm : m ≤ 20) (hk : k < 18446744073709551616) (hkf : facR m ≤ k) :
    Calls Try.prog 4 #[.slice A len cap, .int .i64 m, .int .u64 k] w fun r w' => r = .returned (.bool true) ∧ Fr (fun _ => False) w w' := by
  have HL := Lib.hid (show p.length = len from h.1)
  have HC := Lib.hid h
  clear h
  obtain ⟨A1, c1, w1, hr, hc1, hC1, hF1⟩ := rows_ints w A len cap p HC.out (by omega) 24
  have HR1 := Lib.hid hr
  have HC1 := Lib.hid hC1
  have HF := Lib.hid hF1
  clear hr hC1 hF1
  have tl : decide ((100 : Int) < (len : Int)) = false := decide_eq_false (by omega)
  have HKF := Lib.hid hkf
  have tn : (decide ((m : Int) < 0) || decide ((20 : Int) < (m : Int))) = false := by simp; omega
  have tk : decide (facR m ≤ k) = true := decide_eq_true hkf
  clear hkf
  go_enter Try.func4, Try.ntmps4
  go_wp2_with (at_builtin; refine wpl_builtin2 rfl rfl rfl rfl (bi_append HR1.out) ?_)
  refine (shuf_rank A1 len c1 p _ HC1.out (by omega) hc1 (shuf_right A1 len c1 p _ HC1.out (by omega))).mono ?_
  rintro r w2 ⟨rfl, hF1⟩
  replace HF := Lib.hid (HF.out.trans hF1)
  clear hF1
  by_cases hr : RightR p
  · rcases Nat.lt_or_ge 20 len with hbig | hsm
    · rw [if_pos hr, if_neg (show ¬ len ≤ 20 by omega), if_neg (show ¬ (RightR p ∧ len ≤ 20) by omega)]
      have HRT := Lib.hid hr
      clear hr
      go_wp2_with fail
      refine (shuf_unr m k _ hm hk).mono ?_
      rintro r w3 (⟨h0, _⟩ | ⟨h0, rfl, hF1⟩)
      · exact absurd h0 (by have := HKF.out; omega)
      replace HF := Lib.hid (HF.out.trans hF1)
      clear hF1 h0
      go_wp2_with fail
      refine (ref_right A len cap p _ (Kd.C_below HC.out (HF.out.below (fun _ _ h => h))) (by omega)).mono ?_
      rintro r w4 ⟨rfl, hF1⟩
      rw [decide_eq_true HRT.out]
      replace HF := Lib.hid (HF.out.trans hF1)
      clear hF1
      go_wp2_with fail
      refine (ref_many m hm _).mono ?_
      rintro r w8 ⟨rfl, rfl⟩
      go_wp2_with fail
      all_goals
        refine (works33 _).mono ?_
        rintro r wz ⟨rfl, hF1⟩
        replace HF := Lib.hid (HF.out.trans hF1)
        clear hF1
        go_wp2_with fail
        go_ret
        exact ⟨rfl, HF.out⟩
    · rw [if_pos hr, if_pos hsm, if_pos ⟨hr, hsm⟩]
      have HRT := Lib.hid hr
      have HRK : Hid (rankR p < 18446744073709551616) := Lib.hid (by have h1 := rankR_lt p; have h2 := facR_20 (n := p.length) (by rw [HL.out]; exact hsm); omega)
      clear hr
      go_wp2_with fail
      refine (shuf_unr m k _ hm hk).mono ?_
      rintro r w3 (⟨h0, _⟩ | ⟨h0, rfl, hF1⟩)
      · exact absurd h0 (by have := HKF.out; omega)
      replace HF := Lib.hid (HF.out.trans hF1)
      clear hF1 h0
      go_wp2_with fail
      refine (ref_right A len cap p _ (Kd.C_below HC.out (HF.out.below (fun _ _ h => h))) (by omega)).mono ?_
      rintro r w4 ⟨rfl, hF1⟩
      rw [decide_eq_true HRT.out]
      replace HF := Lib.hid (HF.out.trans hF1)
      clear hF1
      go_wp2_with fail
      refine (shuf_unr len (rankR p) _ (by omega) HRK.out).mono ?_
      rintro r w5 (⟨h0, Ab, cb, rfl, hcb, hCb, hF1⟩ | ⟨h0, _⟩)
      rotate_left 1
      · exact absurd h0 (by have h1 := rankR_lt p; rw [HL.out] at h1; omega)
      have hbk := rank_back HRT.out
      rw [HL.out] at hbk
      rw [hbk] at hCb
      have HB := Lib.hid hCb
      replace HF := Lib.hid (HF.out.trans hF1)
      clear hF1 h0 hCb hbk
      go_wp2_with fail
      refine (ref_rank A len cap p _ (Kd.C_below HC.out (HF.out.below (fun _ _ h => h))) (by omega)).mono ?_
      rintro r w6 ⟨rfl, hF1⟩
      replace HB := Lib.hid (Kd.C_below HB.out (hF1.below (fun _ _ h => h)))
      replace HF := Lib.hid (HF.out.trans hF1)
      clear hF1
      go_wp2_with fail
      refine (ints_same Ab A len cb len cap p p _ HB.out (Kd.C_below HC.out (HF.out.below (fun _ _ h => h))) (by omega) (by omega)).mono ?_
      rintro r w7 ⟨rfl, hF1⟩
      rw [decide_eq_true rfl]
      replace HF := Lib.hid (HF.out.trans hF1)
      clear hF1 HB
      go_wp2_with fail
      refine (ref_many m hm _).mono ?_
      rintro r w8 ⟨rfl, rfl⟩
      go_wp2_with fail
      all_goals
        refine (works33 _).mono ?_
        rintro r wz ⟨rfl, hF1⟩
        replace HF := Lib.hid (HF.out.trans hF1)
        clear hF1
        go_wp2_with fail
        go_ret
        exact ⟨rfl, HF.out⟩
  · rw [if_neg hr, if_neg (show ¬ (RightR p ∧ len ≤ 20) from fun h => hr h.1)]
    have HRT := Lib.hid hr
    clear hr
    go_wp2_with fail
    refine (shuf_unr m k _ hm hk).mono ?_
    rintro r w3 (⟨h0, _⟩ | ⟨h0, rfl, hF1⟩)
    · exact absurd h0 (by have := HKF.out; omega)
    replace HF := Lib.hid (HF.out.trans hF1)
    clear hF1 h0
    go_wp2_with fail
    refine (ref_right A len cap p _ (Kd.C_below HC.out (HF.out.below (fun _ _ h => h))) (by omega)).mono ?_
    rintro r w4 ⟨rfl, hF1⟩
    rw [decide_eq_false HRT.out]
    replace HF := Lib.hid (HF.out.trans hF1)
    clear hF1
    go_wp2_with fail
    refine (ref_many m hm _).mono ?_
    rintro r w8 ⟨rfl, rfl⟩
    go_wp2_with fail
    all_goals
      refine (works33 _).mono ?_
      rintro r wz ⟨rfl, hF1⟩
      replace HF := Lib.hid (HF.out.trans hF1)
      clear hF1
      go_wp2_with fail
      go_ret
      exact ⟨rfl, HF.out⟩
set_option maxRecDepth 100000 in
set_option maxHeartbeats 8000000 in
theorem lawRanks_ok (A : Option Addr) (len cap : Nat) (p : List Int) (m k : Nat) (w : World) (h : intK.C w A len p) (hlen : len ≤ 100) (hm : m ≤ 20) (hk : k < 18446744073709551616) (hkf : k < facR m) :
    Calls Try.prog 4 #[.slice A len cap, .int .i64 m, .int .u64 k] w fun r w' => r = .returned (.bool true) ∧ Fr (fun _ => False) w w' := by
  have HL := Lib.hid (show p.length = len from h.1)
  have HC := Lib.hid h
  clear h
  obtain ⟨A1, c1, w1, hr, hc1, hC1, hF1⟩ := rows_ints w A len cap p HC.out (by omega) 24
  have HR1 := Lib.hid hr
  have HC1 := Lib.hid hC1
  have HF := Lib.hid hF1
  clear hr hC1 hF1
  have tl : decide ((100 : Int) < (len : Int)) = false := decide_eq_false (by omega)
  have HKF := Lib.hid hkf
  have tn : (decide ((m : Int) < 0) || decide ((20 : Int) < (m : Int))) = false := by simp; omega
  have tk : decide (facR m ≤ k) = false := decide_eq_false (by omega)
  clear hkf
  go_enter Try.func4, Try.ntmps4
  go_wp2_with (at_builtin; refine wpl_builtin2 rfl rfl rfl rfl (bi_append HR1.out) ?_)
  refine (shuf_rank A1 len c1 p _ HC1.out (by omega) hc1 (shuf_right A1 len c1 p _ HC1.out (by omega))).mono ?_
  rintro r w2 ⟨rfl, hF1⟩
  replace HF := Lib.hid (HF.out.trans hF1)
  clear hF1
  by_cases hr : RightR p
  · rcases Nat.lt_or_ge 20 len with hbig | hsm
    · rw [if_pos hr, if_neg (show ¬ len ≤ 20 by omega), if_neg (show ¬ (RightR p ∧ len ≤ 20) by omega)]
      have HRT := Lib.hid hr
      clear hr
      go_wp2_with fail
      refine (shuf_unr m k _ hm hk).mono ?_
      rintro r w3 (⟨h0, Aq, cq, rfl, hcq, hCq, hF1⟩ | ⟨h0, _⟩)
      rotate_left 1
      · exact absurd h0 (by have := HKF.out; omega)
      have HQ := Lib.hid hCq
      replace HF := Lib.hid (HF.out.trans hF1)
      clear hF1 h0 hCq
      go_wp2_with fail
      refine (ref_right A len cap p _ (Kd.C_below HC.out (HF.out.below (fun _ _ h => h))) (by omega)).mono ?_
      rintro r w4 ⟨rfl, hF1⟩
      rw [decide_eq_true HRT.out]
      replace HQ := Lib.hid (Kd.C_below HQ.out (hF1.below (fun _ _ h => h)))
      replace HF := Lib.hid (HF.out.trans hF1)
      clear hF1
      go_wp2_with fail
      refine (ref_many m hm _).mono ?_
      rintro r w8 ⟨rfl, rfl⟩
      go_wp2_with fail
      refine (ref_right Aq m cq (unrL m (upto m) k) _ HQ.out (by omega)).mono ?_
      rintro r w9 ⟨rfl, hF1⟩
      rw [decide_eq_true (unr_right m k)]
      replace HQ := Lib.hid (Kd.C_below HQ.out (hF1.below (fun _ _ h => h)))
      replace HF := Lib.hid (HF.out.trans hF1)
      clear hF1
      go_wp2_with fail
      refine (ref_rank Aq m cq (unrL m (upto m) k) _ HQ.out hm).mono ?_
      rintro r wa ⟨rfl, hF1⟩
      rw [unr_number m k HKF.out]
      replace HF := Lib.hid (HF.out.trans hF1)
      clear hF1
      go_wp2_with fail
      all_goals
        refine (works33 _).mono ?_
        rintro r wz ⟨rfl, hF1⟩
        replace HF := Lib.hid (HF.out.trans hF1)
        clear hF1
        go_wp2_with fail
        go_ret
        exact ⟨rfl, HF.out⟩
    · rw [if_pos hr, if_pos hsm, if_pos ⟨hr, hsm⟩]
      have HRT := Lib.hid hr
      have HRK : Hid (rankR p < 18446744073709551616) := Lib.hid (by have h1 := rankR_lt p; have h2 := facR_20 (n := p.length) (by rw [HL.out]; exact hsm); omega)
      clear hr
      go_wp2_with fail
      refine (shuf_unr m k _ hm hk).mono ?_
      rintro r w3 (⟨h0, Aq, cq, rfl, hcq, hCq, hF1⟩ | ⟨h0, _⟩)
      rotate_left 1
      · exact absurd h0 (by have := HKF.out; omega)
      have HQ := Lib.hid hCq
      replace HF := Lib.hid (HF.out.trans hF1)
      clear hF1 h0 hCq
      go_wp2_with fail
      refine (ref_right A len cap p _ (Kd.C_below HC.out (HF.out.below (fun _ _ h => h))) (by omega)).mono ?_
      rintro r w4 ⟨rfl, hF1⟩
      rw [decide_eq_true HRT.out]
      replace HQ := Lib.hid (Kd.C_below HQ.out (hF1.below (fun _ _ h => h)))
      replace HF := Lib.hid (HF.out.trans hF1)
      clear hF1
      go_wp2_with fail
      refine (shuf_unr len (rankR p) _ (by omega) HRK.out).mono ?_
      rintro r w5 (⟨h0, Ab, cb, rfl, hcb, hCb, hF1⟩ | ⟨h0, _⟩)
      rotate_left 1
      · exact absurd h0 (by have h1 := rankR_lt p; rw [HL.out] at h1; omega)
      have hbk := rank_back HRT.out
      rw [HL.out] at hbk
      rw [hbk] at hCb
      have HB := Lib.hid hCb
      replace HQ := Lib.hid (Kd.C_below HQ.out (hF1.below (fun _ _ h => h)))
      replace HF := Lib.hid (HF.out.trans hF1)
      clear hF1 h0 hCb hbk
      go_wp2_with fail
      refine (ref_rank A len cap p _ (Kd.C_below HC.out (HF.out.below (fun _ _ h => h))) (by omega)).mono ?_
      rintro r w6 ⟨rfl, hF1⟩
      replace HB := Lib.hid (Kd.C_below HB.out (hF1.below (fun _ _ h => h)))
      replace HQ := Lib.hid (Kd.C_below HQ.out (hF1.below (fun _ _ h => h)))
      replace HF := Lib.hid (HF.out.trans hF1)
      clear hF1
      go_wp2_with fail
      refine (ints_same Ab A len cb len cap p p _ HB.out (Kd.C_below HC.out (HF.out.below (fun _ _ h => h))) (by omega) (by omega)).mono ?_
      rintro r w7 ⟨rfl, hF1⟩
      rw [decide_eq_true rfl]
      replace HQ := Lib.hid (Kd.C_below HQ.out (hF1.below (fun _ _ h => h)))
      replace HF := Lib.hid (HF.out.trans hF1)
      clear hF1 HB
      go_wp2_with fail
      refine (ref_many m hm _).mono ?_
      rintro r w8 ⟨rfl, rfl⟩
      go_wp2_with fail
      refine (ref_right Aq m cq (unrL m (upto m) k) _ HQ.out (by omega)).mono ?_
      rintro r w9 ⟨rfl, hF1⟩
      rw [decide_eq_true (unr_right m k)]
      replace HQ := Lib.hid (Kd.C_below HQ.out (hF1.below (fun _ _ h => h)))
      replace HF := Lib.hid (HF.out.trans hF1)
      clear hF1
      go_wp2_with fail
      refine (ref_rank Aq m cq (unrL m (upto m) k) _ HQ.out hm).mono ?_
      rintro r wa ⟨rfl, hF1⟩
      rw [unr_number m k HKF.out]
      replace HF := Lib.hid (HF.out.trans hF1)
      clear hF1
      go_wp2_with fail
      all_goals
        refine (works33 _).mono ?_
        rintro r wz ⟨rfl, hF1⟩
        replace HF := Lib.hid (HF.out.trans hF1)
        clear hF1
        go_wp2_with fail
        go_ret
        exact ⟨rfl, HF.out⟩
  · rw [if_neg hr, if_neg (show ¬ (RightR p ∧ len ≤ 20) from fun h => hr h.1)]
    have HRT := Lib.hid hr
    clear hr
    go_wp2_with fail
    refine (shuf_unr m k _ hm hk).mono ?_
    rintro r w3 (⟨h0, Aq, cq, rfl, hcq, hCq, hF1⟩ | ⟨h0, _⟩)
    rotate_left 1
    · exact absurd h0 (by have := HKF.out; omega)
    have HQ := Lib.hid hCq
    replace HF := Lib.hid (HF.out.trans hF1)
    clear hF1 h0 hCq
    go_wp2_with fail
    refine (ref_right A len cap p _ (Kd.C_below HC.out (HF.out.below (fun _ _ h => h))) (by omega)).mono ?_
    rintro r w4 ⟨rfl, hF1⟩
    rw [decide_eq_false HRT.out]
    replace HQ := Lib.hid (Kd.C_below HQ.out (hF1.below (fun _ _ h => h)))
    replace HF := Lib.hid (HF.out.trans hF1)
    clear hF1
    go_wp2_with fail
    refine (ref_many m hm _).mono ?_
    rintro r w8 ⟨rfl, rfl⟩
    go_wp2_with fail
    refine (ref_right Aq m cq (unrL m (upto m) k) _ HQ.out (by omega)).mono ?_
    rintro r w9 ⟨rfl, hF1⟩
    rw [decide_eq_true (unr_right m k)]
    replace HQ := Lib.hid (Kd.C_below HQ.out (hF1.below (fun _ _ h => h)))
    replace HF := Lib.hid (HF.out.trans hF1)
    clear hF1
    go_wp2_with fail
    refine (ref_rank Aq m cq (unrL m (upto m) k) _ HQ.out hm).mono ?_
    rintro r wa ⟨rfl, hF1⟩
    rw [unr_number m k HKF.out]
    replace HF := Lib.hid (HF.out.trans hF1)
    clear hF1
    go_wp2_with fail
    all_goals
      refine (works33 _).mono ?_
      rintro r wz ⟨rfl, hF1⟩
      replace HF := Lib.hid (HF.out.trans hF1)
      clear hF1
      go_wp2_with fail
      go_ret
      exact ⟨rfl, HF.out⟩
theorem lawRanks (A : Option Addr) (len cap : Nat) (p : List Int) (n : Int) (k : Nat) (w : World) (h : intK.C w A len p) (hk : k < 18446744073709551616) :
    Calls Try.prog 4 #[.slice A len cap, .int .i64 n, .int .u64 k] w fun r w' => r = .returned (.bool true) ∧ Fr (fun _ => False) w w' := by
  have hmx : len ≤ 9223372036854775807 := h.2.1
  rcases Nat.lt_or_ge 100 len with hbig | hlen
  · have tl : decide ((100 : Int) < (len : Int)) = true := decide_eq_true (by omega)
    clear h
    go_enter Try.func4, Try.ntmps4
    go_wp2_with fail
    refine (works33 _).mono ?_
    rintro r w1 ⟨rfl, hF⟩
    go_wp2_with fail
    go_ret
    exact ⟨rfl, hF⟩
  · by_cases hn : n < 0 ∨ 20 < n
    · exact lawRanks_arg A len cap p n k w h hlen hn
    · obtain ⟨m, rfl⟩ := Int.eq_ofNat_of_zero_le (show 0 ≤ n by omega)
      rcases Nat.lt_or_ge k (facR m) with hkf | hkf
      · exact lawRanks_ok A len cap p m k w h hlen (by omega) hk hkf
      · exact lawRanks_range A len cap p m k w h hlen (by omega) hk hkf
end Go.Proofs.Ytjaajfpnpijacaa
