/- The laws of the tally (layer 25). -/
import Derived.Test.YtlpigldogglmcaaTallyW
set_option linter.unusedVariables false
set_option linter.unusedSimpArgs false
namespace Go.Proofs.Ytlpigldogglmcaa
open Go.RowKit
set_option maxHeartbeats 800000 in
theorem works25 (w : World) : Calls Try.prog 31 #[] w fun r w' => r = .returned (.bool true) ∧ Fr (fun _ => False) w w' := by
  have heq := fun w => eqCounts 1 0 2 1 2 1 1 1 0 2 1 2 1 1 w
  simp only [and_self, decide_true] at heq
  go_enter Try.func31, Try.ntmps31
  go_wp2_with fail
  refine (tally_new _).mono ?_
  rintro r w0 ⟨rfl, rfl⟩
  have H0 := Blk.new w 112 #[.int .i64 0, .int .i64 0, .int .i64 0, .int .i64 0, .int .i64 0, .int .i64 0, .int .i64 0]
  have G0 : Fr (fun _ => False) w (w.alloc (.cells #[.int .i64 0, .int .i64 0, .int .i64 0, .int .i64 0, .int .i64 0, .int .i64 0, .int .i64 0] 112)) := (Fr.refl _ _).alloc _
  generalize hw0 : w.alloc (.cells #[.int .i64 0, .int .i64 0, .int .i64 0, .int .i64 0, .int .i64 0, .int .i64 0, .int .i64 0] 112) = w0 at H0 G0 ⊢
  clear hw0
  go_wp2_with fail
  refine (tally_accept _ _ _ _ _ _ _ _ 1 _ H0).mono ?_
  rintro r w1 ⟨rfl, H1, F1⟩
  replace H1 : Blk w1 w.heap.size 112 #[.int .i64 0, .int .i64 0, .int .i64 0, .int .i64 0, .int .i64 1, .int .i64 1, .int .i64 0] := by simpa [wrap64, Int.max_def] using H1
  have G1 := G0.trans' F1 (fun i hi he => by omega)
  clear F1 H0 G0
  go_wp2_with fail
  refine (tally_accept _ _ _ _ _ _ _ _ 0 _ H1).mono ?_
  rintro r w2 ⟨rfl, H2, F2⟩
  replace H2 : Blk w2 w.heap.size 112 #[.int .i64 0, .int .i64 0, .int .i64 0, .int .i64 0, .int .i64 2, .int .i64 1, .int .i64 0] := by simpa [wrap64, Int.max_def] using H2
  have G2 := G1.trans' F2 (fun i hi he => by omega)
  clear F2 H1 G1
  go_wp2_with fail
  refine (tally_call _ _ _ _ _ _ _ _ _ H2).mono ?_
  rintro r w3 ⟨rfl, H3, F3⟩
  replace H3 : Blk w3 w.heap.size 112 #[.int .i64 0, .int .i64 0, .int .i64 0, .int .i64 0, .int .i64 2, .int .i64 1, .int .i64 1] := by simpa [wrap64, Int.max_def] using H3
  have G3 := G2.trans' F3 (fun i hi he => by omega)
  clear F3 H2 G2
  go_wp2_with fail
  refine (tally_visit _ _ _ _ _ _ _ _ _ H3).mono ?_
  rintro r w4 ⟨rfl, H4, F4⟩
  replace H4 : Blk w4 w.heap.size 112 #[.int .i64 1, .int .i64 0, .int .i64 0, .int .i64 0, .int .i64 2, .int .i64 1, .int .i64 1] := by simpa [wrap64, Int.max_def] using H4
  have G4 := G3.trans' F4 (fun i hi he => by omega)
  clear F4 H3 G3
  go_wp2_with fail
  refine (tally_wake _ _ _ _ _ _ _ _ 2 _ (by decide) H4).mono ?_
  rintro r w5 ⟨rfl, H5, F5⟩
  replace H5 : Blk w5 w.heap.size 112 #[.int .i64 1, .int .i64 0, .int .i64 2, .int .i64 1, .int .i64 2, .int .i64 1, .int .i64 1] := by simpa [wrap64, Int.max_def] using H5
  have G5 := G4.trans' F5 (fun i hi he => by omega)
  clear F5 H4 G4
  go_wp2_with fail
  refine (tally_counts _ _ _ _ _ _ _ _ _ H5).mono ?_
  rintro r w6 ⟨rfl, F6⟩
  have G6 := G5.trans F6
  clear G5 F6 H5
  go_wp2_with fail
  have e10 : tbound 1 0 2 1 2 1 1 = 10 := by decide
  have e11 : twithin 1 0 2 1 2 1 1 = true := by simp [twithin, e10, wrap64]
  have HB := Blk.new w6 51 #[.int .i64 1, .int .i64 0, .int .i64 2, .int .i64 1, .int .i64 2, .int .i64 1, .int .i64 1]
  refine (bound_any 1 0 2 1 2 1 1 _).mono ?_
  rintro r w7 ⟨rfl, F7⟩
  rw [e10]
  have G7 := (G6.alloc _).trans F7
  replace HB := HB.fr F7 (fun h => h)
  have c0 := HB.cell 0
  have c1 := HB.cell 1
  have c2 := HB.cell 2
  have c3 := HB.cell 3
  have c4 := HB.cell 4
  have c5 := HB.cell 5
  have c6 := HB.cell 6
  simp only [List.getElem?_toArray, List.getElem?_cons_zero, List.getElem?_cons_succ] at c0 c1 c2 c3 c4 c5 c6
  clear G6 F7 HB e10
  go_wp2_with fail
  refine (within_any 1 0 2 1 2 1 1 _).mono ?_
  rintro r w8 ⟨rfl, F8⟩
  rw [e11]
  clear e11
  have G8 := G7.trans F8
  clear G7 F8
  go_wp2_with fail
  go_ret
  exact ⟨rfl, G8⟩

def mayUp (e f d g : Int) : Nat → Bool
  | 0 => true
  | 1 => decide (0 ≤ e ∧ e ≤ 1048576)
  | 2 => decide (0 ≤ e ∧ e ≤ 1048576) && decide (0 ≤ f ∧ f ≤ 1048576)
  | 3 => decide (0 ≤ e ∧ e ≤ 1048576) && decide (0 ≤ f ∧ f ≤ 1048576) && decide (0 ≤ d ∧ d ≤ 1048576)
  | _ => decide (0 ≤ e ∧ e ≤ 1048576) && decide (0 ≤ f ∧ f ≤ 1048576) && decide (0 ≤ d ∧ d ≤ 1048576) && decide (0 ≤ g ∧ g ≤ 1048576)
theorem mayUp4 (e f d g : Int) : mayUp e f d g 4 = may e f d g := by
  unfold mayUp may
  rw [Bool.eq_iff_iff]
  simp only [Bool.and_eq_true, decide_eq_true_eq]
  omega

theorem mayUp_false (e f d g : Int) {k : Nat} (h : mayUp e f d g k = false) : mayUp e f d g (k + 1) = false := by
  match k, h with
  | 0, h => cases h
  | 1, h => simp only [mayUp] at h ⊢; rw [h]; rfl
  | 2, h => simp only [mayUp] at h ⊢; rw [h]; rfl
  | 3, h => simp only [mayUp] at h ⊢; rw [h]; rfl
  | k + 4, h => simp only [mayUp] at h ⊢; exact h
theorem mayUp_step0 (e f d g : Int) (h : mayUp e f d g 0 = true) : mayUp e f d g 1 = decide (0 ≤ e ∧ e ≤ 1048576) := rfl
theorem mayUp_step1 (e f d g : Int) (h : mayUp e f d g 1 = true) : mayUp e f d g 2 = decide (0 ≤ f ∧ f ≤ 1048576) := by
  simp only [mayUp] at h ⊢; rw [h, Bool.true_and]
theorem mayUp_step2 (e f d g : Int) (h : mayUp e f d g 2 = true) : mayUp e f d g 3 = decide (0 ≤ d ∧ d ≤ 1048576) := by
  simp only [mayUp] at h ⊢; rw [h, Bool.true_and]
theorem mayUp_step3 (e f d g : Int) (h : mayUp e f d g 3 = true) : mayUp e f d g 4 = decide (0 ≤ g ∧ g ≤ 1048576) := by
  simp only [mayUp] at h ⊢; rw [h, Bool.true_and]

theorem tbound_may {a b c d e f g : Int} (h : may e f d g = true) : tbound a b c d e f g = (e + f) * (d + 2) + g := by
  unfold tbound
  by_cases hz : a = 0 ∧ b = 0 ∧ c = 0 ∧ d = 0 ∧ e = 0 ∧ f = 0 ∧ g = 0
  · rw [if_pos hz]
    obtain ⟨rfl, rfl, rfl, rfl, rfl, rfl, rfl⟩ := hz
    rfl
  · rw [if_neg hz, if_pos h]
theorem tbound_not {a b c d e f g : Int} (h : may e f d g = false) : tbound a b c d e f g = -1 := by
  unfold tbound
  have hb := of_decide_eq_false h
  rw [if_neg (by omega), if_neg (by rw [h]; simp)]
theorem twithin_not {a b c d e f g : Int} (h : may e f d g = false) : twithin a b c d e f g = false := by
  unfold twithin
  rw [tbound_not h]
  simp

set_option maxHeartbeats 2000000 in
theorem lawBounds (v s e f d g : Int) (w : World) :
    Calls Try.prog 5 #[.int .i64 v, .int .i64 s, .agg #[.int .i64 e, .int .i64 f, .int .i64 d, .int .i64 g]] w fun r w' => r = .returned (.bool true) ∧ Fr (fun _ => False) w w' := by
  go_enter Try.func5, Try.ntmps5
  go_wp2_with fail
  go_loop [8, 9] (fun m i => ∃ k : Nat, k ≤ 4 ∧ i = .int .i64 k ∧ m = .bool (mayUp e f d g k)) (fun _ i => 4 - (intOf i).toNat)
  case atStart => exact ⟨0, by omega, rfl, rfl⟩
  case round =>
    obtain ⟨k, hk, rfl, rfl⟩ := hrel
    rcases Nat.lt_or_ge k 4 with hlt | hge
    · cases hm : mayUp e f d g k with
      | false =>
        have HM := Lib.hid hm
        clear hm
        go_wp2
        go_round
        case rel => exact ⟨k + 1, by omega, by go_num, congrArg Value.bool (mayUp_false e f d g HM.out).symm⟩
        case measure => simp [intOf]; omega
      | true =>
        have HM := Lib.hid hm
        clear hm
        match k, hlt, HM with
        | 0, hlt, HM =>
          have HS := Lib.hid (mayUp_step0 e f d g HM.out)
          clear HM
          go_wp2
          all_goals go_round
          all_goals first | exact ⟨1, by omega, by go_num, congrArg Value.bool (by rw [HS.out]; simp; omega)⟩ | (simp [intOf]; done)
        | 1, hlt, HM =>
          have HS := Lib.hid (mayUp_step1 e f d g HM.out)
          clear HM
          go_wp2
          all_goals go_round
          all_goals first | exact ⟨2, by omega, by go_num, congrArg Value.bool (by rw [HS.out]; simp; omega)⟩ | (simp [intOf]; done)
        | 2, hlt, HM =>
          have HS := Lib.hid (mayUp_step2 e f d g HM.out)
          clear HM
          go_wp2
          all_goals go_round
          all_goals first | exact ⟨3, by omega, by go_num, congrArg Value.bool (by rw [HS.out]; simp; omega)⟩ | (simp [intOf]; done)
        | 3, hlt, HM =>
          have HS := Lib.hid (mayUp_step3 e f d g HM.out)
          clear HM
          go_wp2
          all_goals go_round
          all_goals first | exact ⟨4, by omega, by go_num, congrArg Value.bool (by rw [HS.out]; simp; omega)⟩ | (simp [intOf]; done)
    · obtain rfl : k = 4 := by omega
      rw [mayUp4]
      have HB := Blk.new (w.alloc (.cells #[.int .i64 e, .int .i64 f, .int .i64 d, .int .i64 g] 49)) 51 #[.int .i64 v, .int .i64 s, .int .i64 0, .int .i64 d, .int .i64 e, .int .i64 f, .int .i64 g]
      have HA := (Blk.new w 49 #[.int .i64 e, .int .i64 f, .int .i64 d, .int .i64 g]).alloc (.cells #[.int .i64 v, .int .i64 s, .int .i64 0, .int .i64 d, .int .i64 e, .int .i64 f, .int .i64 g] 51)
      have G0 : Fr (fun _ => False) w ((w.alloc (.cells #[.int .i64 e, .int .i64 f, .int .i64 d, .int .i64 g] 49)).alloc (.cells #[.int .i64 v, .int .i64 s, .int .i64 0, .int .i64 d, .int .i64 e, .int .i64 f, .int .i64 g] 51)) := ((Fr.refl _ _).alloc _).alloc _
      rw [World.size_alloc] at HB
      generalize (w.alloc (.cells #[.int .i64 e, .int .i64 f, .int .i64 d, .int .i64 g] 49)).alloc (.cells #[.int .i64 v, .int .i64 s, .int .i64 0, .int .i64 d, .int .i64 e, .int .i64 f, .int .i64 g] 51) = W at HA HB G0 ⊢
      have a0 := HA.cell 0
      have a1 := HA.cell 1
      have a2 := HA.cell 2
      have a3 := HA.cell 3
      have c0 := HB.cell 0
      have c1 := HB.cell 1
      have c2 := HB.cell 2
      have c3 := HB.cell 3
      have c4 := HB.cell 4
      have c5 := HB.cell 5
      have c6 := HB.cell 6
      simp only [List.getElem?_toArray, List.getElem?_cons_zero, List.getElem?_cons_succ] at a0 a1 a2 a3 c0 c1 c2 c3 c4 c5 c6
      cases hm : may e f d g with
      | false =>
        have eB : tbound v s 0 d e f g = -1 := tbound_not hm
        have eW : twithin v s 0 d e f g = false := twithin_not hm
        clear hm HA
        go_wp2_with fail
        refine (bound_any v s 0 d e f g _).mono ?_
        rintro r w1 ⟨rfl, F1⟩
        rw [eB]
        replace HB := HB.fr F1 (fun h => h)
        replace G0 := G0.trans F1
        clear F1 c0 c1 c2 c3 c4 c5 c6 a0 a1 a2 a3 eB
        have c0 := HB.cell 0
        have c1 := HB.cell 1
        have c2 := HB.cell 2
        have c3 := HB.cell 3
        have c4 := HB.cell 4
        have c5 := HB.cell 5
        have c6 := HB.cell 6
        simp only [List.getElem?_toArray, List.getElem?_cons_zero, List.getElem?_cons_succ] at c0 c1 c2 c3 c4 c5 c6
        go_wp2_with fail
        refine (within_any v s 0 d e f g _).mono ?_
        rintro r w2 ⟨rfl, F2⟩
        rw [eW]
        replace G0 := G0.trans F2
        clear F2 c0 c1 c2 c3 c4 c5 c6 eW HB
        go_wp2_with fail
        refine (works25 _).mono ?_
        rintro r w3 ⟨rfl, F3⟩
        replace G0 := G0.trans F3
        clear F3
        go_wp2_with fail
        go_ret
        exact ⟨rfl, G0⟩
      | true =>
        have eB : tbound v s 0 d e f g = (e + f) * (d + 2) + g := tbound_may hm
        have eW : twithin v s 0 d e f g = (decide (0 ≤ (e + f) * (d + 2) + g) && decide (wrap64 (v + s) ≤ (e + f) * (d + 2) + g)) := by unfold twithin; rw [eB]
        obtain ⟨he0, he1, hf0, hf1, hd0, hd1, hg0, hg1⟩ := of_decide_eq_true hm
        clear hm HA
        obtain ⟨hp0, hp1⟩ := prod_le (z := 0) (x := e + f) (y := d + 2) (by omega) (by omega) (by omega) (by omega)
        have hB : decide (0 ≤ (e + f) * (d + 2) + g) = true := decide_eq_true (by omega)
        rw [hB, Bool.true_and] at eW
        clear hB
        have EW := Lib.hid eW
        have EB := Lib.hid eB
        clear eB eW
        go_wp2_with fail
        refine (bound_any v s 0 d e f g _).mono ?_
        rintro r w1 ⟨rfl, F1⟩
        rw [EB.out]
        replace HB := HB.fr F1 (fun h => h)
        replace G0 := G0.trans F1
        clear F1 c0 c1 c2 c3 c4 c5 c6 a0 a1 a2 a3 EB
        have c0 := HB.cell 0
        have c1 := HB.cell 1
        have c2 := HB.cell 2
        have c3 := HB.cell 3
        have c4 := HB.cell 4
        have c5 := HB.cell 5
        have c6 := HB.cell 6
        simp only [List.getElem?_toArray, List.getElem?_cons_zero, List.getElem?_cons_succ] at c0 c1 c2 c3 c4 c5 c6
        by_cases hr : -1152921504606846976 ≤ v ∧ v ≤ 1152921504606846976 ∧ -1152921504606846976 ≤ s ∧ s ≤ 1152921504606846976
        · obtain ⟨hv0, hv1, hs0, hs1⟩ := hr
          go_wp2_with fail
          refine (within_any v s 0 d e f g _).mono ?_
          rintro r w2 ⟨rfl, F2⟩
          rw [EW.out]
          replace G0 := G0.trans F2
          clear F2 c0 c1 c2 c3 c4 c5 c6 EW HB
          have hvs : wrap64 (v + s) = v + s := by unfold wrap64; omega
          rw [hvs]
          clear hvs
          go_wp2_with fail
          refine (works25 _).mono ?_
          rintro r w3 ⟨rfl, F3⟩
          replace G0 := G0.trans F3
          clear F3
          go_wp2_with fail
          go_ret
          exact ⟨rfl, G0⟩
        · clear EW HB c0 c1 c2 c3 c4 c5 c6
          go_wp2_with fail
          all_goals
            refine (works25 _).mono ?_
            rintro r w3 ⟨rfl, F3⟩
            go_wp2_with fail
            go_ret
            exact ⟨rfl, G0.trans F3⟩
end Go.Proofs.Ytlpigldogglmcaa
