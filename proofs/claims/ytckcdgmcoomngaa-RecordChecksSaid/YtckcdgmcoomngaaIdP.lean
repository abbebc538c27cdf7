/- Ids: what is wrong with one, how two stand; by the program and by the reference. -/
import Derived.Test.YtckcdgmcoomngaaIdS
import Derived.Test.YtckcdgmcoomngaaReg3
set_option linter.unusedVariables false
set_option linter.unusedSimpArgs false
namespace Go.Proofs.Ytckcdgmcoomngaa
open Go.RowKit
open Go.Proofs.YtckcdgmcoomngaaW.PrintWords

def errId (a : Int × Int) : Int := if a.1 < 0 ∨ 8 ≤ a.1 then 7 else if a.2 < 1 ∨ 1048576 < a.2 then 8 else 0
/-- Three numbers that are not alike: where the test goes. -/
theorem id_check (i j : Int) (w : World) : Calls Try.prog 54 #[.agg #[.int .i64 i, .int .i64 j]] w fun r w' => r = .returned (.int .i64 (errId (i, j))) ∧ Fr (fun _ => False) w w' := by
  have hF := (Fr.refl (fun _ => False) w).alloc (.cells #[.int .i64 i, .int .i64 j] 23)
  by_cases h1 : i < 0
  · have t1 : decide (i < 0) = true := decide_eq_true h1
    rw [show errId (i, j) = 7 from if_pos (.inl h1)]
    go_enter Try.func54, Try.ntmps54
    go_wp2_with fail
    go_ret
    exact ⟨rfl, hF⟩
  · have t1 : decide (i < 0) = false := decide_eq_false h1
    by_cases h2 : 8 ≤ i
    · have t2 : decide (8 ≤ i) = true := decide_eq_true h2
      rw [show errId (i, j) = 7 from if_pos (.inr h2)]
      go_enter Try.func54, Try.ntmps54
      go_wp2_with fail
      go_ret
      exact ⟨rfl, hF⟩
    · have t2 : decide (8 ≤ i) = false := decide_eq_false h2
      have e0 : errId (i, j) = if j < 1 ∨ 1048576 < j then 8 else 0 := if_neg (fun h => h.elim h1 h2)
      by_cases h3 : j < 1
      · have t3 : decide (j < 1) = true := decide_eq_true h3
        rw [e0, if_pos (.inl h3)]
        go_enter Try.func54, Try.ntmps54
        go_wp2_with fail
        go_ret
        exact ⟨rfl, hF⟩
      · have t3 : decide (j < 1) = false := decide_eq_false h3
        by_cases h4 : 1048576 < j
        · have t4 : decide (1048576 < j) = true := decide_eq_true h4
          rw [e0, if_pos (.inr h4)]
          go_enter Try.func54, Try.ntmps54
          go_wp2_with fail
          go_ret
          exact ⟨rfl, hF⟩
        · have t4 : decide (1048576 < j) = false := decide_eq_false h4
          rw [e0, if_neg (fun h => h.elim h3 h4)]
          go_enter Try.func54, Try.ntmps54
          go_wp2_with fail
          go_ret
          exact ⟨rfl, hF⟩
def rightId (a : Int × Int) : Bool := decide (errId a = 0)
theorem ref_id_right (i j : Int) (w : World) : Calls Try.prog 55 #[.agg #[.int .i64 i, .int .i64 j]] w fun r w' => r = .returned (.bool (rightId (i, j))) ∧ Fr (fun _ => False) w w' := by
  have hF := (Fr.refl (fun _ => False) w).alloc (.cells #[.int .i64 i, .int .i64 j] 23)
  unfold rightId
  by_cases h1 : 0 ≤ i
  · have t1 : decide (0 ≤ i) = true := decide_eq_true h1
    by_cases h2 : i < 8
    · have t2 : decide (i < 8) = true := decide_eq_true h2
      have e0 : errId (i, j) = if j < 1 ∨ 1048576 < j then 8 else 0 := if_neg (by simp only; omega)
      by_cases h3 : 1 ≤ j
      · have t3 : decide (1 ≤ j) = true := decide_eq_true h3
        by_cases h4 : j ≤ 1048576
        · have t4 : decide (j ≤ 1048576) = true := decide_eq_true h4
          rw [e0, if_neg (by omega), decide_eq_true (show (0 : Int) = 0 from rfl)]
          go_enter Try.func55, Try.ntmps55
          go_wp2_with fail
          go_ret
          exact ⟨rfl, hF⟩
        · have t4 : decide (j ≤ 1048576) = false := decide_eq_false h4
          rw [e0, if_pos (by omega), decide_eq_false (show ¬ (8 : Int) = 0 by decide)]
          go_enter Try.func55, Try.ntmps55
          go_wp2_with fail
          go_ret
          exact ⟨rfl, hF⟩
      · have t3 : decide (1 ≤ j) = false := decide_eq_false h3
        rw [e0, if_pos (by omega), decide_eq_false (show ¬ (8 : Int) = 0 by decide)]
        go_enter Try.func55, Try.ntmps55
        go_wp2_with fail
        go_ret
        exact ⟨rfl, hF⟩
    · have t2 : decide (i < 8) = false := decide_eq_false h2
      rw [show errId (i, j) = 7 from if_pos (.inr (by simp only; omega)), decide_eq_false (show ¬ (7 : Int) = 0 by decide)]
      go_enter Try.func55, Try.ntmps55
      go_wp2_with fail
      go_ret
      exact ⟨rfl, hF⟩
  · have t1 : decide (0 ≤ i) = false := decide_eq_false h1
    rw [show errId (i, j) = 7 from if_pos (.inl (by simp only; omega)), decide_eq_false (show ¬ (7 : Int) = 0 by decide)]
    go_enter Try.func55, Try.ntmps55
    go_wp2_with fail
    go_ret
    exact ⟨rfl, hF⟩
theorem ref_id (i j : Int) (w : World) : Calls Try.prog 36 #[.agg #[.int .i64 i, .int .i64 j]] w fun r w' => r = .returned (.int .i64 (errId (i, j))) ∧ Fr (fun _ => False) w w' := by
  have hF := (Fr.refl (fun _ => False) w).alloc (.cells #[.int .i64 i, .int .i64 j] 23)
  by_cases h1 : i < 0
  · have t1 : decide (i < 0) = true := decide_eq_true h1
    rw [show errId (i, j) = 7 from if_pos (.inl h1)]
    go_enter Try.func36, Try.ntmps36
    go_wp2_with fail
    go_ret
    exact ⟨rfl, hF⟩
  · have t1 : decide (i < 0) = false := decide_eq_false h1
    by_cases h2 : 7 < i
    · have t2 : decide (7 < i) = true := decide_eq_true h2
      rw [show errId (i, j) = 7 from if_pos (.inr (by simp only; omega))]
      go_enter Try.func36, Try.ntmps36
      go_wp2_with fail
      go_ret
      exact ⟨rfl, hF⟩
    · have t2 : decide (7 < i) = false := decide_eq_false h2
      have e0 : errId (i, j) = if j < 1 ∨ 1048576 < j then 8 else 0 := if_neg (by simp only; omega)
      clear h1 h2
      by_cases h3 : j < 1 ∨ 1048576 < j
      · rw [if_pos h3] at e0
        have er : rightId (i, j) = false := by unfold rightId; rw [e0]; rfl
        rw [e0]
        clear e0 h3
        go_enter Try.func36, Try.ntmps36
        go_wp2_with fail
        refine (ref_id_right i j _).mono ?_
        rintro r w1 ⟨rfl, hF1⟩
        rw [er]
        go_wp2_with fail
        go_ret
        exact ⟨rfl, hF.trans hF1⟩
      · rw [if_neg h3] at e0
        have er : rightId (i, j) = true := by unfold rightId; rw [e0]; rfl
        rw [e0]
        clear e0 h3
        go_enter Try.func36, Try.ntmps36
        go_wp2_with fail
        refine (ref_id_right i j _).mono ?_
        rintro r w1 ⟨rfl, hF1⟩
        rw [er]
        go_wp2_with fail
        go_ret
        exact ⟨rfl, hF.trans hF1⟩
def idLess (a b : Int × Int) : Bool := if a.1 = b.1 then decide (a.2 < b.2) else decide (a.1 < b.1)
theorem ref_id_less (i j k l : Int) (w : World) : Calls Try.prog 37 #[.agg #[.int .i64 i, .int .i64 j], .agg #[.int .i64 k, .int .i64 l]] w fun r w' => r = .returned (.bool (idLess (i, j) (k, l))) ∧ Fr (fun _ => False) w w' := by
  have hF := ((Fr.refl (fun _ => False) w).alloc (.cells #[.int .i64 i, .int .i64 j] 23)).alloc (.cells #[.int .i64 k, .int .i64 l] 23)
  by_cases h1 : i = k
  · have t1 : (i != k) = false := by simp [h1]
    rw [show idLess (i, j) (k, l) = decide (j < l) from if_pos h1]
    clear h1
    go_enter Try.func37, Try.ntmps37
    go_wp2_with fail
    go_ret
    exact ⟨rfl, hF⟩
  · have t1 : (i != k) = true := by simp [h1]
    rw [show idLess (i, j) (k, l) = decide (i < k) from if_neg h1]
    clear h1
    go_enter Try.func37, Try.ntmps37
    go_wp2_with fail
    go_ret
    exact ⟨rfl, hF⟩
def icmp (a b : Int) : Int := if a < b then -1 else if b < a then 1 else 0
theorem cmp_nan (a : Int) (w : World) : Calls Try.prog 68 #[.int .i64 a] w fun r w' => r = .returned (.bool false) ∧ w = w' := by
  have t1 : (a != a) = false := by simp
  go_enter Try.func68, Try.ntmps68
  go_wp2_with fail
  go_ret
  exact ⟨rfl, rfl⟩
theorem cmp_int (a b : Int) (w : World) : Calls Try.prog 57 #[.int .i64 a, .int .i64 b] w fun r w' => r = .returned (.int .i64 (icmp a b)) ∧ w = w' := by
  by_cases h1 : a < b
  · have t1 : decide (a < b) = true := decide_eq_true h1
    rw [show icmp a b = -1 from if_pos h1]
    go_enter Try.func57, Try.ntmps57
    go_wp2_with fail
    refine (cmp_nan a w).mono ?_
    rintro r w1 ⟨rfl, rfl⟩
    go_wp2_with fail
    refine (cmp_nan b w).mono ?_
    rintro r w1 ⟨rfl, rfl⟩
    go_wp2_with fail
    go_ret
    exact ⟨rfl, rfl⟩
  · have t1 : decide (a < b) = false := decide_eq_false h1
    have e0 : icmp a b = if b < a then 1 else 0 := if_neg h1
    by_cases h2 : b < a
    · have t2 : decide (b < a) = true := decide_eq_true h2
      rw [e0, if_pos h2]
      go_enter Try.func57, Try.ntmps57
      go_wp2_with fail
      refine (cmp_nan a w).mono ?_
      rintro r w1 ⟨rfl, rfl⟩
      go_wp2_with fail
      refine (cmp_nan b w).mono ?_
      rintro r w1 ⟨rfl, rfl⟩
      go_wp2_with fail
      go_ret
      exact ⟨rfl, rfl⟩
    · have t2 : decide (b < a) = false := decide_eq_false h2
      rw [e0, if_neg h2]
      go_enter Try.func57, Try.ntmps57
      go_wp2_with fail
      refine (cmp_nan a w).mono ?_
      rintro r w1 ⟨rfl, rfl⟩
      go_wp2_with fail
      refine (cmp_nan b w).mono ?_
      rintro r w1 ⟨rfl, rfl⟩
      go_wp2_with fail
      go_ret
      exact ⟨rfl, rfl⟩
theorem cmp_or (a b : Int) (g : Nat) (w : World) (h0 : w.cell? ⟨g, 0, none⟩ = some (.int .i64 a)) (h1 : w.cell? ⟨g, 1, none⟩ = some (.int .i64 b)) :
    Calls Try.prog 56 #[.slice (some ⟨g, 0, none⟩) 2 2] w fun r w' => r = .returned (.int .i64 (if a = 0 then b else a)) ∧ w = w' := by
  by_cases ha : a = 0
  · have t1 : (a != 0) = false := by simp [ha]
    rw [if_pos ha]
    clear ha
    by_cases hb : b = 0
    · subst hb
      go_enter Try.func56, Try.ntmps56
      go_wp2_with fail
      refine wp_loop_rounds 3 ?_
      iterate 3 (rw [rounds_succ]; go_wp2_with fail)
      go_ret
      exact ⟨rfl, rfl⟩
    · have t2 : (b != 0) = true := by simp [hb]
      clear hb
      go_enter Try.func56, Try.ntmps56
      go_wp2_with fail
      refine wp_loop_rounds 2 ?_
      iterate 2 (rw [rounds_succ]; go_wp2_with fail)
      go_ret
      exact ⟨rfl, rfl⟩
  · have t1 : (a != 0) = true := by simp [ha]
    rw [if_neg ha]
    clear ha
    go_enter Try.func56, Try.ntmps56
    go_wp2_with fail
    refine wp_loop_rounds 1 ?_
    iterate 1 (rw [rounds_succ]; go_wp2_with fail)
    go_ret
    exact ⟨rfl, rfl⟩
def idCmp (a b : Int × Int) : Int := if a = b then 0 else if idLess a b then -1 else 1
theorem idCmp_or (a b : Int × Int) (h : a ≠ b) : (if icmp a.1 b.1 = 0 then icmp a.2 b.2 else icmp a.1 b.1) = idCmp a b := by
  obtain ⟨i, j⟩ := a
  obtain ⟨k, l⟩ := b
  simp only [icmp, idCmp, idLess, if_neg h]
  by_cases h1 : i = k
  · subst h1
    have h2 : j ≠ l := fun e => h (by rw [e])
    simp only [Int.lt_irrefl, if_false, if_true, decide_eq_true_eq]
    by_cases h3 : j < l
    · simp only [if_pos h3]
    · simp only [if_neg h3, if_pos (show l < j by omega)]
  · simp only [if_neg h1, decide_eq_true_eq]
    by_cases h3 : i < k
    · simp only [if_pos h3]; rfl
    · simp only [if_neg h3, if_pos (show k < i by omega)]; rfl
set_option maxRecDepth 100000 in
set_option maxHeartbeats 2000000 in
theorem id_cmp (i j k l : Int) (w : World) : Calls Try.prog 39 #[.agg #[.int .i64 i, .int .i64 j], .agg #[.int .i64 k, .int .i64 l]] w fun r w' => r = .returned (.int .i64 (idCmp (i, j) (k, l))) ∧ Fr (fun _ => False) w w' := by
  have hF := ((Fr.refl (fun _ => False) w).alloc (.cells #[.int .i64 i, .int .i64 j] 23)).alloc (.cells #[.int .i64 k, .int .i64 l] 23)
  have he := fun w => eqId i j k l w
  by_cases h : ((i, j) : Int × Int) = (k, l)
  · simp only [decide_eq_true h] at he
    rw [show idCmp (i, j) (k, l) = 0 from if_pos h]
    clear h
    go_enter Try.func39, Try.ntmps39
    go_wp2_with fail
    go_ret
    exact ⟨rfl, hF⟩
  · simp only [decide_eq_false h] at he
    have HZ := Lib.hid (idCmp_or (i, j) (k, l) h)
    have hX := (Blk.new w 23 #[.int .i64 i, .int .i64 j]).alloc (.cells #[.int .i64 k, .int .i64 l] 23)
    have hY := Blk.new (w.alloc (.cells #[.int .i64 i, .int .i64 j] 23)) 23 #[.int .i64 k, .int .i64 l]
    rw [World.size_alloc] at hY
    clear h
    go_enter Try.func39, Try.ntmps39
    go_wp2_with fail
    clear he
    generalize ((w.alloc (.cells #[.int .i64 i, .int .i64 j] 23)).alloc (.cells #[.int .i64 k, .int .i64 l] 23)) = w1 at hX hF hY ⊢
    obtain ⟨x, hx⟩ : ∃ x, x = w.heap.size := ⟨_, rfl⟩
    rw [← hx] at hX hY ⊢
    clear hx
    obtain ⟨St, hSt⟩ : ∃ St : World → Prop, St = Fr (fun _ => False) w1 := ⟨_, rfl⟩
    have HT := Lib.hid (show ∀ w', Fr (fun _ => False) w1 w' → At St w' from fun w' h => by unfold At; rw [hSt]; exact h)
    have lift : ∀ (q : Addr) (v : Value), w1.cell? q = some v → ∀ w', At St w' → w'.cell? q = some v := fun q v hq w' h => by replace h := h.out; rw [hSt] at h; exact h.cell hq (fun h => h)
    have e0 := lift ⟨x, 0, none⟩ (.int .i64 i) (hX.cell 0)
    have e1 := lift ⟨x, 1, none⟩ (.int .i64 j) (hX.cell 1)
    have e2 := lift ⟨x + 1, 0, none⟩ (.int .i64 k) (hY.cell 0)
    have e3 := lift ⟨x + 1, 1, none⟩ (.int .i64 l) (hY.cell 1)
    have hT0 := HT.out w1.drew (Fr.refl _ _).drew
    have HF := Lib.hid hF
    clear hSt lift hX hY hF
    refine rt_start [] (At St) 13 (by kernel_rfl) rfl ?_
    refine rt_free 0 (v := ?_) rfl (by kernel_rfl) (by kernel_rfl) (by kernel_rfl) (by kernel_rfl) (fun _ _ _ h => h) (by rfl) (fun _ => by first | assumption | exact HS0 _ rfl | exact HT.out _ (by repeat (first | exact Fr.refl _ _ | apply Fr.drew | refine Fr.alloc ?_ _))) ?_ ?_
    rotate_left 1
    · intro w; go_simp <;> with_reducible rfl
    try simp only [Act.put, List.setIfInBounds_toArray, List.set_cons_zero, List.set_cons_succ]
    refine rt_take 1 (v := ?_) rfl (by kernel_rfl) (by kernel_rfl) (by kernel_rfl) (by kernel_rfl) (fun _ _ _ h => h) (by rfl) (by first | assumption | exact HS0 _ rfl | exact HT.out _ (by repeat (first | exact Fr.refl _ _ | apply Fr.drew | refine Fr.alloc ?_ _))) ?_ ?_
    rotate_left 1
    · intro w hSw; go_simp <;> with_reducible rfl
    try simp only [Act.put, List.setIfInBounds_toArray, List.set_cons_zero, List.set_cons_succ]
    refine rt_free 2 (v := ?_) rfl (by kernel_rfl) (by kernel_rfl) (by kernel_rfl) (by kernel_rfl) (fun _ _ _ h => h) (by rfl) (fun _ => by first | assumption | exact HS0 _ rfl | exact HT.out _ (by repeat (first | exact Fr.refl _ _ | apply Fr.drew | refine Fr.alloc ?_ _))) ?_ ?_
    rotate_left 1
    · intro w; go_simp <;> with_reducible rfl
    try simp only [Act.put, List.setIfInBounds_toArray, List.set_cons_zero, List.set_cons_succ]
    refine rt_take 3 (v := ?_) rfl (by kernel_rfl) (by kernel_rfl) (by kernel_rfl) (by kernel_rfl) (fun _ _ _ h => h) (by rfl) (by first | assumption | exact HS0 _ rfl | exact HT.out _ (by repeat (first | exact Fr.refl _ _ | apply Fr.drew | refine Fr.alloc ?_ _))) ?_ ?_
    rotate_left 1
    · intro w hSw; go_simp <;> with_reducible rfl
    try simp only [Act.put, List.setIfInBounds_toArray, List.set_cons_zero, List.set_cons_succ]
    refine rt_free 5 (v := ?_) rfl (by kernel_rfl) (by kernel_rfl) (by kernel_rfl) (by kernel_rfl) (fun _ _ _ h => h) (by rfl) (fun _ => by first | assumption | exact HS0 _ rfl | exact HT.out _ (by repeat (first | exact Fr.refl _ _ | apply Fr.drew | refine Fr.alloc ?_ _))) ?_ ?_
    rotate_left 1
    · intro w; go_simp <;> with_reducible rfl
    try simp only [Act.put, List.setIfInBounds_toArray, List.set_cons_zero, List.set_cons_succ]
    refine rt_take 6 (v := ?_) rfl (by kernel_rfl) (by kernel_rfl) (by kernel_rfl) (by kernel_rfl) (fun _ _ _ h => h) (by rfl) (by first | assumption | exact HS0 _ rfl | exact HT.out _ (by repeat (first | exact Fr.refl _ _ | apply Fr.drew | refine Fr.alloc ?_ _))) ?_ ?_
    rotate_left 1
    · intro w hSw; go_simp <;> with_reducible rfl
    try simp only [Act.put, List.setIfInBounds_toArray, List.set_cons_zero, List.set_cons_succ]
    refine rt_free 7 (v := ?_) rfl (by kernel_rfl) (by kernel_rfl) (by kernel_rfl) (by kernel_rfl) (fun _ _ _ h => h) (by rfl) (fun _ => by first | assumption | exact HS0 _ rfl | exact HT.out _ (by repeat (first | exact Fr.refl _ _ | apply Fr.drew | refine Fr.alloc ?_ _))) ?_ ?_
    rotate_left 1
    · intro w; go_simp <;> with_reducible rfl
    try simp only [Act.put, List.setIfInBounds_toArray, List.set_cons_zero, List.set_cons_succ]
    refine rt_take 8 (v := ?_) rfl (by kernel_rfl) (by kernel_rfl) (by kernel_rfl) (by kernel_rfl) (fun _ _ _ h => h) (by rfl) (by first | assumption | exact HS0 _ rfl | exact HT.out _ (by repeat (first | exact Fr.refl _ _ | apply Fr.drew | refine Fr.alloc ?_ _))) ?_ ?_
    rotate_left 1
    · intro w hSw; go_simp <;> with_reducible rfl
    try simp only [Act.put, List.setIfInBounds_toArray, List.set_cons_zero, List.set_cons_succ]
    refine rt_one 4 rfl (by kernel_rfl) (fun K hK => ?_)
    go_simp
    refine (cmp_int i k _).mono ?_
    rintro r w2 ⟨rfl, rfl⟩
    go_wp2_with fail
    refine hK.out (At St) _ _ (fun _ h => h) (fun _ => by (assumption)) ?_
    clear hK K
    try simp only [Act.put, List.setIfInBounds_toArray, List.set_cons_zero, List.set_cons_succ]
    refine rt_one 9 rfl (by kernel_rfl) (fun K hK => ?_)
    go_simp
    refine (cmp_int j l _).mono ?_
    rintro r w2 ⟨rfl, rfl⟩
    go_wp2_with fail
    refine hK.out (At St) _ _ (fun _ h => h) (fun _ => by (assumption)) ?_
    clear hK K
    try simp only [Act.put, List.setIfInBounds_toArray, List.set_cons_zero, List.set_cons_succ]
    refine rt_one 10 rfl (by kernel_rfl) (fun K hK => ?_)
    go_simp
    refine hK.out (At St) _ _ (fun _ h => h) (fun _ => by (exact HT.out _ ((Fr.refl _ _).drew.alloc _))) ?_
    clear hK K
    try simp only [Act.put, List.setIfInBounds_toArray, List.set_cons_zero, List.set_cons_succ]
    refine rt_one 11 rfl (by kernel_rfl) (fun K hK => ?_)
    go_simp
    refine (cmp_or (icmp i k) (icmp j l) w1.heap.size _ ((Blk.new w1.drew 3 #[.int .i64 (icmp i k), .int .i64 (icmp j l)]).cell 0) ((Blk.new w1.drew 3 #[.int .i64 (icmp i k), .int .i64 (icmp j l)]).cell 1)).mono ?_
    rintro r w2 ⟨rfl, rfl⟩
    rw [show (if icmp i k = 0 then icmp j l else icmp i k) = idCmp (i, j) (k, l) from HZ.out]
    go_wp2_with fail
    refine hK.out (At St) _ _ (fun _ h => h) (fun _ => by (exact HT.out _ ((Fr.refl _ _).drew.alloc _))) ?_
    clear hK K
    try simp only [Act.put, List.setIfInBounds_toArray, List.set_cons_zero, List.set_cons_succ]
    refine rt_free 12 (v := ?_) rfl (by kernel_rfl) (by kernel_rfl) (by kernel_rfl) (by kernel_rfl) (fun _ _ _ h => h) (by rfl) (fun _ => by first | assumption | exact HS0 _ rfl | exact HT.out _ (by repeat (first | exact Fr.refl _ _ | apply Fr.drew | refine Fr.alloc ?_ _))) ?_ ?_
    rotate_left 1
    · intro w; go_simp <;> with_reducible rfl
    try simp only [Act.put, List.setIfInBounds_toArray, List.set_cons_zero, List.set_cons_succ]
    refine rt_done (by kernel_rfl) ?_
    go_wp2_with fail
    go_ret
    exact ⟨rfl, HF.out.trans ((Fr.refl _ _).drew.alloc _)⟩
end Go.Proofs.Ytckcdgmcoomngaa
