/- Texts of Cod, merged (6 of 27): IdP, Key, FltR. -/
import Derived.Test.YtelfpnpplknlpaaGCod3
import Derived.Test.YtelfpnpplknlpaaGCod4
set_option linter.unusedVariables false
set_option linter.unusedSimpArgs false
/- Ids: what is wrong with one, how two stand; by the program and by the reference. -/
namespace Go.Proofs.Ytelfpnpplknlpaa
open Go.RowKit
open Go.Proofs.YtelfpnpplknlpaaW.PrintWords

def errId (a : Int × Int) : Int := if a.1 < 0 ∨ 8 ≤ a.1 then 7 else if a.2 < 1 ∨ 1048576 < a.2 then 8 else 0
/-- Three numbers that are not alike: where the test goes. -/
theorem id_check (i j : Int) (w : World) : Calls Try.prog 62 #[.agg #[.int .i64 i, .int .i64 j]] w fun r w' => r = .returned (.int .i64 (errId (i, j))) ∧ Fr (fun _ => False) w w' := by
  have hF := (Fr.refl (fun _ => False) w).alloc (.cells #[.int .i64 i, .int .i64 j] 28)
  by_cases h1 : i < 0
  · have t1 : decide (i < 0) = true := decide_eq_true h1
    rw [show errId (i, j) = 7 from if_pos (.inl h1)]
    go_enter Try.func62, Try.ntmps62
    go_wp2_with fail
    go_ret
    exact ⟨rfl, hF⟩
  · have t1 : decide (i < 0) = false := decide_eq_false h1
    by_cases h2 : 8 ≤ i
    · have t2 : decide (8 ≤ i) = true := decide_eq_true h2
      rw [show errId (i, j) = 7 from if_pos (.inr h2)]
      go_enter Try.func62, Try.ntmps62
      go_wp2_with fail
      go_ret
      exact ⟨rfl, hF⟩
    · have t2 : decide (8 ≤ i) = false := decide_eq_false h2
      have e0 : errId (i, j) = if j < 1 ∨ 1048576 < j then 8 else 0 := if_neg (fun h => h.elim h1 h2)
      by_cases h3 : j < 1
      · have t3 : decide (j < 1) = true := decide_eq_true h3
        rw [e0, if_pos (.inl h3)]
        go_enter Try.func62, Try.ntmps62
        go_wp2_with fail
        go_ret
        exact ⟨rfl, hF⟩
      · have t3 : decide (j < 1) = false := decide_eq_false h3
        by_cases h4 : 1048576 < j
        · have t4 : decide (1048576 < j) = true := decide_eq_true h4
          rw [e0, if_pos (.inr h4)]
          go_enter Try.func62, Try.ntmps62
          go_wp2_with fail
          go_ret
          exact ⟨rfl, hF⟩
        · have t4 : decide (1048576 < j) = false := decide_eq_false h4
          rw [e0, if_neg (fun h => h.elim h3 h4)]
          go_enter Try.func62, Try.ntmps62
          go_wp2_with fail
          go_ret
          exact ⟨rfl, hF⟩
def rightId (a : Int × Int) : Bool := decide (errId a = 0)
theorem ref_id_right (i j : Int) (w : World) : Calls Try.prog 53 #[.agg #[.int .i64 i, .int .i64 j]] w fun r w' => r = .returned (.bool (rightId (i, j))) ∧ Fr (fun _ => False) w w' := by
  have hF := (Fr.refl (fun _ => False) w).alloc (.cells #[.int .i64 i, .int .i64 j] 28)
  unfold rightId
  by_cases h1 : 0 ≤ i
  · have t1 : decide (0 ≤ i) = true := decide_eq_true h1
    by_cases h2 : i < 8
    · have t2 : decide (i < 8) = true := decide_eq_true h2
      have e0 : errId (i, j) = if j < 1 ∨ 1048576 < j then 8 else 0 := if_neg (by simp only; omega)
      by_cases h3 : 1 ≤ j
      · have t3 : decide (1 ≤ j) = true := decide_eq_true h3
        by_cases h4 : j ≤ 1048576
        · have t4 : decide (j ≤ 1048576) = true := decide_eq_true h4
          rw [e0, if_neg (by omega), decide_eq_true (show (0 : Int) = 0 from rfl)]
          go_enter Try.func53, Try.ntmps53
          go_wp2_with fail
          go_ret
          exact ⟨rfl, hF⟩
        · have t4 : decide (j ≤ 1048576) = false := decide_eq_false h4
          rw [e0, if_pos (by omega), decide_eq_false (show ¬ (8 : Int) = 0 by decide)]
          go_enter Try.func53, Try.ntmps53
          go_wp2_with fail
          go_ret
          exact ⟨rfl, hF⟩
      · have t3 : decide (1 ≤ j) = false := decide_eq_false h3
        rw [e0, if_pos (by omega), decide_eq_false (show ¬ (8 : Int) = 0 by decide)]
        go_enter Try.func53, Try.ntmps53
        go_wp2_with fail
        go_ret
        exact ⟨rfl, hF⟩
    · have t2 : decide (i < 8) = false := decide_eq_false h2
      rw [show errId (i, j) = 7 from if_pos (.inr (by simp only; omega)), decide_eq_false (show ¬ (7 : Int) = 0 by decide)]
      go_enter Try.func53, Try.ntmps53
      go_wp2_with fail
      go_ret
      exact ⟨rfl, hF⟩
  · have t1 : decide (0 ≤ i) = false := decide_eq_false h1
    rw [show errId (i, j) = 7 from if_pos (.inl (by simp only; omega)), decide_eq_false (show ¬ (7 : Int) = 0 by decide)]
    go_enter Try.func53, Try.ntmps53
    go_wp2_with fail
    go_ret
    exact ⟨rfl, hF⟩
theorem ref_id (i j : Int) (w : World) : Calls Try.prog 31 #[.agg #[.int .i64 i, .int .i64 j]] w fun r w' => r = .returned (.int .i64 (errId (i, j))) ∧ Fr (fun _ => False) w w' := by
  have hF := (Fr.refl (fun _ => False) w).alloc (.cells #[.int .i64 i, .int .i64 j] 28)
  by_cases h1 : i < 0
  · have t1 : decide (i < 0) = true := decide_eq_true h1
    rw [show errId (i, j) = 7 from if_pos (.inl h1)]
    go_enter Try.func31, Try.ntmps31
    go_wp2_with fail
    go_ret
    exact ⟨rfl, hF⟩
  · have t1 : decide (i < 0) = false := decide_eq_false h1
    by_cases h2 : 7 < i
    · have t2 : decide (7 < i) = true := decide_eq_true h2
      rw [show errId (i, j) = 7 from if_pos (.inr (by simp only; omega))]
      go_enter Try.func31, Try.ntmps31
      go_wp2_with fail
      go_ret
      exact ⟨rfl, hF⟩
    · have t2 : decide (7 < i) = false := decide_eq_false h2
      have e0 : errId (i, j) = if j < 1 ∨ 1048576 < j then 8 else 0 := if_neg (by simp only; omega)
      clear h1 h2
      by_cases h3 : j < 1 ∨ 1048576 < j
      · rw [if_pos h3] at e0
        have er : rightId (i, j) = false := by unfold rightId; rw [e0]; rfl
        rw [e0]
        clear e0 h3
        go_enter Try.func31, Try.ntmps31
        go_wp2_with fail
        refine (ref_id_right i j _).mono ?_
        rintro r w1 ⟨rfl, hF1⟩
        rw [er]
        go_wp2_with fail
        go_ret
        exact ⟨rfl, hF.trans hF1⟩
      · rw [if_neg h3] at e0
        have er : rightId (i, j) = true := by unfold rightId; rw [e0]; rfl
        rw [e0]
        clear e0 h3
        go_enter Try.func31, Try.ntmps31
        go_wp2_with fail
        refine (ref_id_right i j _).mono ?_
        rintro r w1 ⟨rfl, hF1⟩
        rw [er]
        go_wp2_with fail
        go_ret
        exact ⟨rfl, hF.trans hF1⟩
def idLess (a b : Int × Int) : Bool := if a.1 = b.1 then decide (a.2 < b.2) else decide (a.1 < b.1)
theorem ref_id_less (i j k l : Int) (w : World) : Calls Try.prog 32 #[.agg #[.int .i64 i, .int .i64 j], .agg #[.int .i64 k, .int .i64 l]] w fun r w' => r = .returned (.bool (idLess (i, j) (k, l))) ∧ Fr (fun _ => False) w w' := by
  have hF := ((Fr.refl (fun _ => False) w).alloc (.cells #[.int .i64 i, .int .i64 j] 28)).alloc (.cells #[.int .i64 k, .int .i64 l] 28)
  by_cases h1 : i = k
  · have t1 : (i != k) = false := by simp [h1]
    rw [show idLess (i, j) (k, l) = decide (j < l) from if_pos h1]
    clear h1
    go_enter Try.func32, Try.ntmps32
    go_wp2_with fail
    go_ret
    exact ⟨rfl, hF⟩
  · have t1 : (i != k) = true := by simp [h1]
    rw [show idLess (i, j) (k, l) = decide (i < k) from if_neg h1]
    clear h1
    go_enter Try.func32, Try.ntmps32
    go_wp2_with fail
    go_ret
    exact ⟨rfl, hF⟩
def icmp (a b : Int) : Int := if a < b then -1 else if b < a then 1 else 0
theorem cmp_nan (a : Int) (w : World) : Calls Try.prog 73 #[.int .i64 a] w fun r w' => r = .returned (.bool false) ∧ w = w' := by
  have t1 : (a != a) = false := by simp
  go_enter Try.func73, Try.ntmps73
  go_wp2_with fail
  go_ret
  exact ⟨rfl, rfl⟩
theorem cmp_int (a b : Int) (w : World) : Calls Try.prog 71 #[.int .i64 a, .int .i64 b] w fun r w' => r = .returned (.int .i64 (icmp a b)) ∧ w = w' := by
  by_cases h1 : a < b
  · have t1 : decide (a < b) = true := decide_eq_true h1
    rw [show icmp a b = -1 from if_pos h1]
    go_enter Try.func71, Try.ntmps71
    go_wp2_with fail
    refine (cmp_nan a w).mono ?_
    rintro r w1 ⟨rfl, rfl⟩
    go_wp2_with fail
    refine (cmp_nan b w).mono ?_
    rintro r w1 ⟨rfl, rfl⟩
    go_wp2_with fail
    go_ret
    exact ⟨rfl, rfl⟩
  · have t1 : decide (a < b) = false := decide_eq_false h1
    have e0 : icmp a b = if b < a then 1 else 0 := if_neg h1
    by_cases h2 : b < a
    · have t2 : decide (b < a) = true := decide_eq_true h2
      rw [e0, if_pos h2]
      go_enter Try.func71, Try.ntmps71
      go_wp2_with fail
      refine (cmp_nan a w).mono ?_
      rintro r w1 ⟨rfl, rfl⟩
      go_wp2_with fail
      refine (cmp_nan b w).mono ?_
      rintro r w1 ⟨rfl, rfl⟩
      go_wp2_with fail
      go_ret
      exact ⟨rfl, rfl⟩
    · have t2 : decide (b < a) = false := decide_eq_false h2
      rw [e0, if_neg h2]
      go_enter Try.func71, Try.ntmps71
      go_wp2_with fail
      refine (cmp_nan a w).mono ?_
      rintro r w1 ⟨rfl, rfl⟩
      go_wp2_with fail
      refine (cmp_nan b w).mono ?_
      rintro r w1 ⟨rfl, rfl⟩
      go_wp2_with fail
      go_ret
      exact ⟨rfl, rfl⟩
theorem cmp_or (a b : Int) (g : Nat) (w : World) (h0 : w.cell? ⟨g, 0, none⟩ = some (.int .i64 a)) (h1 : w.cell? ⟨g, 1, none⟩ = some (.int .i64 b)) :
    Calls Try.prog 70 #[.slice (some ⟨g, 0, none⟩) 2 2] w fun r w' => r = .returned (.int .i64 (if a = 0 then b else a)) ∧ w = w' := by
  by_cases ha : a = 0
  · have t1 : (a != 0) = false := by simp [ha]
    rw [if_pos ha]
    clear ha
    by_cases hb : b = 0
    · subst hb
      go_enter Try.func70, Try.ntmps70
      go_wp2_with fail
      refine wp_loop_rounds 3 ?_
      iterate 3 (rw [rounds_succ]; go_wp2_with fail)
      go_ret
      exact ⟨rfl, rfl⟩
    · have t2 : (b != 0) = true := by simp [hb]
      clear hb
      go_enter Try.func70, Try.ntmps70
      go_wp2_with fail
      refine wp_loop_rounds 2 ?_
      iterate 2 (rw [rounds_succ]; go_wp2_with fail)
      go_ret
      exact ⟨rfl, rfl⟩
  · have t1 : (a != 0) = true := by simp [ha]
    rw [if_neg ha]
    clear ha
    go_enter Try.func70, Try.ntmps70
    go_wp2_with fail
    refine wp_loop_rounds 1 ?_
    iterate 1 (rw [rounds_succ]; go_wp2_with fail)
    go_ret
    exact ⟨rfl, rfl⟩
def idCmp (a b : Int × Int) : Int := if a = b then 0 else if idLess a b then -1 else 1
theorem idCmp_or (a b : Int × Int) (h : a ≠ b) : (if icmp a.1 b.1 = 0 then icmp a.2 b.2 else icmp a.1 b.1) = idCmp a b := by
  obtain ⟨i, j⟩ := a
  obtain ⟨k, l⟩ := b
  simp only [icmp, idCmp, idLess, if_neg h]
  by_cases h1 : i = k
  · subst h1
    have h2 : j ≠ l := fun e => h (by rw [e])
    simp only [Int.lt_irrefl, if_false, if_true, decide_eq_true_eq]
    by_cases h3 : j < l
    · simp only [if_pos h3]
    · simp only [if_neg h3, if_pos (show l < j by omega)]
  · simp only [if_neg h1, decide_eq_true_eq]
    by_cases h3 : i < k
    · simp only [if_pos h3]; rfl
    · simp only [if_neg h3, if_pos (show k < i by omega)]; rfl
set_option maxRecDepth 100000 in
set_option maxHeartbeats 2000000 in
theorem id_cmp (i j k l : Int) (w : World) : Calls Try.prog 63 #[.agg #[.int .i64 i, .int .i64 j], .agg #[.int .i64 k, .int .i64 l]] w fun r w' => r = .returned (.int .i64 (idCmp (i, j) (k, l))) ∧ Fr (fun _ => False) w w' := by
  have hF := ((Fr.refl (fun _ => False) w).alloc (.cells #[.int .i64 i, .int .i64 j] 28)).alloc (.cells #[.int .i64 k, .int .i64 l] 28)
  have he := fun w => eqId i j k l w
  by_cases h : ((i, j) : Int × Int) = (k, l)
  · simp only [decide_eq_true h] at he
    rw [show idCmp (i, j) (k, l) = 0 from if_pos h]
    clear h
    go_enter Try.func63, Try.ntmps63
    go_wp2_with fail
    go_ret
    exact ⟨rfl, hF⟩
  · simp only [decide_eq_false h] at he
    have HZ := Lib.hid (idCmp_or (i, j) (k, l) h)
    have hX := (Blk.new w 28 #[.int .i64 i, .int .i64 j]).alloc (.cells #[.int .i64 k, .int .i64 l] 28)
    have hY := Blk.new (w.alloc (.cells #[.int .i64 i, .int .i64 j] 28)) 28 #[.int .i64 k, .int .i64 l]
    rw [World.size_alloc] at hY
    clear h
    go_enter Try.func63, Try.ntmps63
    go_wp2_with fail
    clear he
    generalize ((w.alloc (.cells #[.int .i64 i, .int .i64 j] 28)).alloc (.cells #[.int .i64 k, .int .i64 l] 28)) = w1 at hX hF hY ⊢
    obtain ⟨x, hx⟩ : ∃ x, x = w.heap.size := ⟨_, rfl⟩
    rw [← hx] at hX hY ⊢
    clear hx
    obtain ⟨St, hSt⟩ : ∃ St : World → Prop, St = Fr (fun _ => False) w1 := ⟨_, rfl⟩
    have HT := Lib.hid (show ∀ w', Fr (fun _ => False) w1 w' → At St w' from fun w' h => by unfold At; rw [hSt]; exact h)
    have lift : ∀ (q : Addr) (v : Value), w1.cell? q = some v → ∀ w', At St w' → w'.cell? q = some v := fun q v hq w' h => by replace h := h.out; rw [hSt] at h; exact h.cell hq (fun h => h)
    have e0 := lift ⟨x, 0, none⟩ (.int .i64 i) (hX.cell 0)
    have e1 := lift ⟨x, 1, none⟩ (.int .i64 j) (hX.cell 1)
    have e2 := lift ⟨x + 1, 0, none⟩ (.int .i64 k) (hY.cell 0)
    have e3 := lift ⟨x + 1, 1, none⟩ (.int .i64 l) (hY.cell 1)
    have hT0 := HT.out w1.drew (Fr.refl _ _).drew
    have HF := Lib.hid hF
    clear hSt lift hX hY hF
    refine rt_start [] (At St) 13 (by kernel_rfl) rfl ?_
    refine rt_free 0 (v := ?_) rfl (by kernel_rfl) (by kernel_rfl) (by kernel_rfl) (by kernel_rfl) (fun _ _ _ h => h) (by rfl) (fun _ => by first | assumption | exact HS0 _ rfl | exact HT.out _ (by repeat (first | exact Fr.refl _ _ | apply Fr.drew | refine Fr.alloc ?_ _))) ?_ ?_
    rotate_left 1
    · intro w; go_simp <;> with_reducible rfl
    try simp only [Act.put, List.setIfInBounds_toArray, List.set_cons_zero, List.set_cons_succ]
    refine rt_take 1 (v := ?_) rfl (by kernel_rfl) (by kernel_rfl) (by kernel_rfl) (by kernel_rfl) (fun _ _ _ h => h) (by rfl) (by first | assumption | exact HS0 _ rfl | exact HT.out _ (by repeat (first | exact Fr.refl _ _ | apply Fr.drew | refine Fr.alloc ?_ _))) ?_ ?_
    rotate_left 1
    · intro w hSw; go_simp <;> with_reducible rfl
    try simp only [Act.put, List.setIfInBounds_toArray, List.set_cons_zero, List.set_cons_succ]
    refine rt_free 2 (v := ?_) rfl (by kernel_rfl) (by kernel_rfl) (by kernel_rfl) (by kernel_rfl) (fun _ _ _ h => h) (by rfl) (fun _ => by first | assumption | exact HS0 _ rfl | exact HT.out _ (by repeat (first | exact Fr.refl _ _ | apply Fr.drew | refine Fr.alloc ?_ _))) ?_ ?_
    rotate_left 1
    · intro w; go_simp <;> with_reducible rfl
    try simp only [Act.put, List.setIfInBounds_toArray, List.set_cons_zero, List.set_cons_succ]
    refine rt_take 3 (v := ?_) rfl (by kernel_rfl) (by kernel_rfl) (by kernel_rfl) (by kernel_rfl) (fun _ _ _ h => h) (by rfl) (by first | assumption | exact HS0 _ rfl | exact HT.out _ (by repeat (first | exact Fr.refl _ _ | apply Fr.drew | refine Fr.alloc ?_ _))) ?_ ?_
    rotate_left 1
    · intro w hSw; go_simp <;> with_reducible rfl
    try simp only [Act.put, List.setIfInBounds_toArray, List.set_cons_zero, List.set_cons_succ]
    refine rt_free 5 (v := ?_) rfl (by kernel_rfl) (by kernel_rfl) (by kernel_rfl) (by kernel_rfl) (fun _ _ _ h => h) (by rfl) (fun _ => by first | assumption | exact HS0 _ rfl | exact HT.out _ (by repeat (first | exact Fr.refl _ _ | apply Fr.drew | refine Fr.alloc ?_ _))) ?_ ?_
    rotate_left 1
    · intro w; go_simp <;> with_reducible rfl
    try simp only [Act.put, List.setIfInBounds_toArray, List.set_cons_zero, List.set_cons_succ]
    refine rt_take 6 (v := ?_) rfl (by kernel_rfl) (by kernel_rfl) (by kernel_rfl) (by kernel_rfl) (fun _ _ _ h => h) (by rfl) (by first | assumption | exact HS0 _ rfl | exact HT.out _ (by repeat (first | exact Fr.refl _ _ | apply Fr.drew | refine Fr.alloc ?_ _))) ?_ ?_
    rotate_left 1
    · intro w hSw; go_simp <;> with_reducible rfl
    try simp only [Act.put, List.setIfInBounds_toArray, List.set_cons_zero, List.set_cons_succ]
    refine rt_free 7 (v := ?_) rfl (by kernel_rfl) (by kernel_rfl) (by kernel_rfl) (by kernel_rfl) (fun _ _ _ h => h) (by rfl) (fun _ => by first | assumption | exact HS0 _ rfl | exact HT.out _ (by repeat (first | exact Fr.refl _ _ | apply Fr.drew | refine Fr.alloc ?_ _))) ?_ ?_
    rotate_left 1
    · intro w; go_simp <;> with_reducible rfl
    try simp only [Act.put, List.setIfInBounds_toArray, List.set_cons_zero, List.set_cons_succ]
    refine rt_take 8 (v := ?_) rfl (by kernel_rfl) (by kernel_rfl) (by kernel_rfl) (by kernel_rfl) (fun _ _ _ h => h) (by rfl) (by first | assumption | exact HS0 _ rfl | exact HT.out _ (by repeat (first | exact Fr.refl _ _ | apply Fr.drew | refine Fr.alloc ?_ _))) ?_ ?_
    rotate_left 1
    · intro w hSw; go_simp <;> with_reducible rfl
    try simp only [Act.put, List.setIfInBounds_toArray, List.set_cons_zero, List.set_cons_succ]
    refine rt_one 4 rfl (by kernel_rfl) (fun K hK => ?_)
    go_simp
    refine (cmp_int i k _).mono ?_
    rintro r w2 ⟨rfl, rfl⟩
    go_wp2_with fail
    refine hK.out (At St) _ _ (fun _ h => h) (fun _ => by (assumption)) ?_
    clear hK K
    try simp only [Act.put, List.setIfInBounds_toArray, List.set_cons_zero, List.set_cons_succ]
    refine rt_one 9 rfl (by kernel_rfl) (fun K hK => ?_)
    go_simp
    refine (cmp_int j l _).mono ?_
    rintro r w2 ⟨rfl, rfl⟩
    go_wp2_with fail
    refine hK.out (At St) _ _ (fun _ h => h) (fun _ => by (assumption)) ?_
    clear hK K
    try simp only [Act.put, List.setIfInBounds_toArray, List.set_cons_zero, List.set_cons_succ]
    refine rt_one 10 rfl (by kernel_rfl) (fun K hK => ?_)
    go_simp
    refine hK.out (At St) _ _ (fun _ h => h) (fun _ => by (exact HT.out _ ((Fr.refl _ _).drew.alloc _))) ?_
    clear hK K
    try simp only [Act.put, List.setIfInBounds_toArray, List.set_cons_zero, List.set_cons_succ]
    refine rt_one 11 rfl (by kernel_rfl) (fun K hK => ?_)
    go_simp
    refine (cmp_or (icmp i k) (icmp j l) w1.heap.size _ ((Blk.new w1.drew 3 #[.int .i64 (icmp i k), .int .i64 (icmp j l)]).cell 0) ((Blk.new w1.drew 3 #[.int .i64 (icmp i k), .int .i64 (icmp j l)]).cell 1)).mono ?_
    rintro r w2 ⟨rfl, rfl⟩
    rw [show (if icmp i k = 0 then icmp j l else icmp i k) = idCmp (i, j) (k, l) from HZ.out]
    go_wp2_with fail
    refine hK.out (At St) _ _ (fun _ h => h) (fun _ => by (exact HT.out _ ((Fr.refl _ _).drew.alloc _))) ?_
    clear hK K
    try simp only [Act.put, List.setIfInBounds_toArray, List.set_cons_zero, List.set_cons_succ]
    refine rt_free 12 (v := ?_) rfl (by kernel_rfl) (by kernel_rfl) (by kernel_rfl) (by kernel_rfl) (fun _ _ _ h => h) (by rfl) (fun _ => by first | assumption | exact HS0 _ rfl | exact HT.out _ (by repeat (first | exact Fr.refl _ _ | apply Fr.drew | refine Fr.alloc ?_ _))) ?_ ?_
    rotate_left 1
    · intro w; go_simp <;> with_reducible rfl
    try simp only [Act.put, List.setIfInBounds_toArray, List.set_cons_zero, List.set_cons_succ]
    refine rt_done (by kernel_rfl) ?_
    go_wp2_with fail
    go_ret
    exact ⟨rfl, HF.out.trans ((Fr.refl _ _).drew.alloc _)⟩
end Go.Proofs.Ytelfpnpplknlpaa
/- Keys: which texts are. -/
namespace Go.Proofs.Ytelfpnpplknlpaa
open Go.RowKit
open Go.Proofs.YtelfpnpplknlpaaW.PrintWords

@[go_sem] theorem run_store_float {P : Program} {w : World} {a : Addr} {m : Mode} (k : FloatKind) (b : Nat) : (store a (.float k b) m).run P w = stored P w a (.float k b) m := run_store P w a _ m rfl
def charK (c : Nat) : Prop := (97 ≤ c ∧ c ≤ 122) ∨ (48 ≤ c ∧ c ≤ 57)
def keyOk (s : ByteArray) : Prop := (∀ i (h : i < s.size), charK s[i].toNat) ∧ 1 ≤ s.size ∧ s.size ≤ 12
/-- What the four tests of one character tell. -/
theorem char_cases (c : Nat) : (decide ((97 : Int) ≤ (c : Int)) = true ∧ decide ((c : Int) ≤ 122) = true ∧ charK c) ∨
    (decide ((97 : Int) ≤ (c : Int)) = true ∧ decide ((c : Int) ≤ 122) = false ∧ decide ((48 : Int) ≤ (c : Int)) = true ∧ decide ((c : Int) ≤ 57) = false ∧ ¬ charK c) ∨
    (decide ((97 : Int) ≤ (c : Int)) = false ∧ decide ((48 : Int) ≤ (c : Int)) = true ∧ decide ((c : Int) ≤ 57) = true ∧ charK c) ∨
    (decide ((97 : Int) ≤ (c : Int)) = false ∧ decide ((48 : Int) ≤ (c : Int)) = true ∧ decide ((c : Int) ≤ 57) = false ∧ ¬ charK c) ∨
    (decide ((97 : Int) ≤ (c : Int)) = false ∧ decide ((48 : Int) ≤ (c : Int)) = false ∧ ¬ charK c) := by
  simp only [decide_eq_true_eq, decide_eq_false_iff_not, charK]
  omega
theorem key_end (s : ByteArray) (hall : ∀ i (h : i < s.size), charK s[i].toNat) : cdec (keyOk s) = (decide ((1 : Int) ≤ (s.size : Int)) && decide ((s.size : Int) ≤ 12)) := by
  by_cases h : 1 ≤ s.size ∧ s.size ≤ 12
  · rw [cdec_true ⟨hall, h⟩, decide_eq_true (by omega), decide_eq_true (by omega)]; rfl
  · rw [cdec_false fun h' => h h'.2]
    by_cases h1 : 1 ≤ s.size
    · rw [decide_eq_false (p := (s.size : Int) ≤ 12) (by omega), Bool.and_false]
    · rw [decide_eq_false (p := (1 : Int) ≤ (s.size : Int)) (by omega), Bool.false_and]
set_option maxHeartbeats 1000000 in
theorem ref_key (s : ByteArray) (w : World) (hs : s.size ≤ maxLen) :
    Calls Try.prog 66 #[.string s] w fun r w' => r = .returned (.bool (cdec (keyOk s))) ∧ w = w' := by
  unfold maxLen at hs
  go_enter Try.func66, Try.ntmps66
  go_wp2_with fail
  go_loop [3] (fun i => ∃ k : Nat, k ≤ s.size ∧ i = .int .i64 k ∧ ∀ j (h : j < s.size), j < k → charK s[j].toNat) (fun i => s.size - (intOf i).toNat)
  case atStart => exact ⟨0, Nat.zero_le _, rfl, fun _ _ h => absurd h (Nat.not_lt_zero _)⟩
  case round =>
    obtain ⟨k, hk, rfl, hA⟩ := hrel
    have HA := Lib.hid hA
    clear hA
    by_cases hlt : k < s.size
    · have next : charK s[k].toNat → ∀ j (h : j < s.size), j < k + 1 → charK s[j].toNat := fun hc j h hj => by
        rcases Nat.lt_or_ge j k with h1 | h1
        · exact HA.out j h h1
        · obtain rfl : j = k := by omega
          exact hc
      have stop : ¬ charK s[k].toNat → cdec (keyOk s) = false := fun hc => cdec_false fun h => hc (h.1 k hlt)
      have HN := Lib.hid next
      have HS := Lib.hid stop
      clear next stop
      rcases char_cases s[k].toNat with ⟨t1, t2, hc⟩ | ⟨t1, t2, t3, t4, hc⟩ | ⟨t1, t2, t3, hc⟩ | ⟨t1, t2, t3, hc⟩ | ⟨t1, t2, hc⟩ <;> (have HC := Lib.hid hc; clear hc)
      · go_wp2_with fail
        go_round
        case rel => exact ⟨k + 1, by omega, by go_num, HN.out HC.out⟩
        case measure => simp [intOf]; omega
      · go_wp2_with fail
        go_ret
        exact ⟨ret_bool (HS.out HC.out).symm, rfl⟩
      · go_wp2_with fail
        go_round
        case rel => exact ⟨k + 1, by omega, by go_num, HN.out HC.out⟩
        case measure => simp [intOf]; omega
      · go_wp2_with fail
        go_ret
        exact ⟨ret_bool (HS.out HC.out).symm, rfl⟩
      · go_wp2_with fail
        go_ret
        exact ⟨ret_bool (HS.out HC.out).symm, rfl⟩
    · have hk' : k = s.size := by omega
      have hall : (∀ i (h : i < s.size), charK s[i].toNat) := fun j h => HA.out j h (by omega)
      have e : cdec (keyOk s) = (decide ((1 : Int) ≤ (s.size : Int)) && decide ((s.size : Int) ≤ 12)) := by
        by_cases h : 1 ≤ s.size ∧ s.size ≤ 12
        · rw [cdec_true ⟨hall, h⟩, decide_eq_true (by omega), decide_eq_true (by omega)]; rfl
        · rw [cdec_false fun h' => h h'.2]
          by_cases h1 : 1 ≤ s.size
          · rw [decide_eq_false (p := (s.size : Int) ≤ 12) (by omega), Bool.and_false]
          · rw [decide_eq_false (p := (1 : Int) ≤ (s.size : Int)) (by omega), Bool.false_and]
      have HE := Lib.hid e
      clear e hall HA
      by_cases h1 : 1 ≤ s.size
      · have t1 : decide ((1 : Int) ≤ (s.size : Int)) = true := decide_eq_true (by omega)
        rw [t1, Bool.true_and] at HE
        clear h1
        go_wp2_with fail
        go_ret
        exact ⟨ret_bool HE.out.symm, rfl⟩
      · have t1 : decide ((1 : Int) ≤ (s.size : Int)) = false := decide_eq_false (by omega)
        rw [t1, Bool.false_and] at HE
        clear h1
        go_wp2_with fail
        go_ret
        exact ⟨ret_bool HE.out.symm, rfl⟩
theorem bytes_cell (W : World) (e : TypeId) (s : ByteArray) {j : Nat} (hj : j < s.size) : (Lib.bytesWorld W e s).cell? ⟨W.heap.size, j, none⟩ = some (.int .u8 (s[j].toNat : Int)) := by
  rw [Lib.bytesWorld_cell W e s j hj]
  have h' : j < s.data.toList.length := by rw [data_length]; exact hj
  simp [List.getD_eq_getElem?_getD, List.getElem?_eq_getElem h']
  rfl
set_option maxHeartbeats 1000000 in
theorem cmd_key (s : ByteArray) (w : World) (hs : s.size ≤ maxLen) :
    Calls Try.prog 75 #[.string s] w fun r w' => r = .returned (.bool (cdec (keyOk s))) ∧ Fr (fun _ => False) w w' := by
  unfold maxLen at hs
  have kb := fun W => print_bytes (P := Try.prog) 9 22 5 Try.underlying9 Try.underlying22 Try.underlying5 s W
  have hcell : ∀ j (h : j < s.size), (Lib.bytesWorld w 5 s).cell? ⟨w.heap.size, j, none⟩ = some (.int .u8 (s[j].toNat : Int)) := fun j h => bytes_cell w 5 s h
  have HCELL := Lib.hid hcell
  have HF := Lib.hid (Fr.of_below (S := fun _ => False) (bytes_below (Below.refl w.heap.size w) (Nat.le_refl _) 5 s))
  clear hcell
  go_enter Try.func75, Try.ntmps75
  go_wp2_with fail
  clear kb
  generalize Lib.bytesWorld w 5 s = wb at *
  go_loop [8] (fun i => ∃ k : Nat, k ≤ s.size ∧ i = .int .i64 k ∧ ∀ j (h : j < s.size), j < k → charK s[j].toNat) (fun i => s.size - (intOf i).toNat)
  case atStart => exact ⟨0, Nat.zero_le _, rfl, fun _ _ h => absurd h (Nat.not_lt_zero _)⟩
  case round =>
    obtain ⟨k, hk, rfl, hA⟩ := hrel
    have HA := Lib.hid hA
    clear hA
    by_cases hlt : k < s.size
    · have next : charK s[k].toNat → ∀ j (h : j < s.size), j < k + 1 → charK s[j].toNat := fun hc j h hj => by
        rcases Nat.lt_or_ge j k with h1 | h1
        · exact HA.out j h h1
        · obtain rfl : j = k := by omega
          exact hc
      have stop : ¬ charK s[k].toNat → cdec (keyOk s) = false := fun hc => cdec_false fun h => hc (h.1 k hlt)
      have HN := Lib.hid next
      have HS := Lib.hid stop
      have x0 := HCELL.out k hlt
      clear next stop
      rcases char_cases s[k].toNat with ⟨t1, t2, hc⟩ | ⟨t1, t2, t3, t4, hc⟩ | ⟨t1, t2, t3, hc⟩ | ⟨t1, t2, t3, hc⟩ | ⟨t1, t2, hc⟩ <;> (have HC := Lib.hid hc; clear hc)
      · go_wp2_with fail
        go_round
        case rel => exact ⟨k + 1, by omega, by go_num, HN.out HC.out⟩
        case measure => simp [intOf]; omega
      · go_wp2_with fail
        go_ret
        exact ⟨ret_bool (HS.out HC.out).symm, HF.out⟩
      · go_wp2_with fail
        go_round
        case rel => exact ⟨k + 1, by omega, by go_num, HN.out HC.out⟩
        case measure => simp [intOf]; omega
      · go_wp2_with fail
        go_ret
        exact ⟨ret_bool (HS.out HC.out).symm, HF.out⟩
      · go_wp2_with fail
        go_ret
        exact ⟨ret_bool (HS.out HC.out).symm, HF.out⟩
    · have hk' : k = s.size := by omega
      have hall : (∀ i (h : i < s.size), charK s[i].toNat) := fun j h => HA.out j h (by omega)
      have HE := Lib.hid (key_end s hall)
      clear hall HA
      by_cases h1 : 1 ≤ s.size
      · have t1 : decide ((1 : Int) ≤ (s.size : Int)) = true := decide_eq_true (by omega)
        rw [t1, Bool.true_and] at HE
        clear h1
        go_wp2_with fail
        go_ret
        exact ⟨ret_bool HE.out.symm, HF.out⟩
      · have t1 : decide ((1 : Int) ≤ (s.size : Int)) = false := decide_eq_false (by omega)
        rw [t1, Bool.false_and] at HE
        clear h1
        go_wp2_with fail
        go_ret
        exact ⟨ret_bool HE.out.symm, HF.out⟩
end Go.Proofs.Ytelfpnpplknlpaa
/- Floats told by the program: bits, the one NaN, the same. -/
namespace Go.Proofs.Ytelfpnpplknlpaa
open Go.RowKit

theorem ex_bits (b : Nat) (w : World) : (callFunc 51 #[.float .f64 b]).run Try.prog w = .ok (.value (.int .u64 b)) w := by
  rw [run_callFunc_extern Try.func51 (by kernel_rfl) (by kernel_rfl) (by kernel_rfl) (e := Extern.MathFloatBits.float64bits) (by kernel_rfl)]
  rfl
theorem ex_from (b : Nat) (w : World) : (callFunc 65 #[.int .u64 b]).run Try.prog w = .ok (.value (.float .f64 b)) w := by
  rw [run_callFunc_extern Try.func65 (by kernel_rfl) (by kernel_rfl) (by kernel_rfl) (e := Extern.MathFloatBits.float64frombits) (by kernel_rfl)]
  rfl

open Go.RowKit

def canonP (x : Nat) : Nat := if nanW x then 9221120237041090561 else x
theorem real_canon (x : Nat) (w : World) : Calls Try.prog 52 #[.float .f64 x] w fun r w' => r = .returned (.float .f64 (canonP x)) ∧ w = w' := by
  have hf : ∀ w : World, (callFunc 65 #[.int .u64 9221120237041090561]).run Try.prog w = .ok (.value (.float .f64 9221120237041090561)) w := ex_from 9221120237041090561
  by_cases hn : nanW x
  · have h1 := ford_nan (x := x) (y := x) (.inl hn)
    have hk : canonP x = 9221120237041090561 := by unfold canonP; rw [if_pos hn]
    rw [hk]
    clear hn hk
    go_enter Try.func52, Try.ntmps52
    go_wp2_with fail
    go_ret
    exact ⟨rfl, rfl⟩
  · have h1 := ford_self hn
    have hk : canonP x = x := by unfold canonP; rw [if_neg hn]
    rw [hk]
    clear hn hk
    go_enter Try.func52, Try.ntmps52
    go_wp2_with fail
    go_ret
    exact ⟨rfl, rfl⟩
theorem real_bits (x : Nat) (w : World) : Calls Try.prog 29 #[.float .f64 x] w fun r w' => r = .returned (.int .u64 (canonP x)) ∧ w = w' := by
  have hf := ex_bits (canonP x)
  go_enter Try.func29, Try.ntmps29
  go_wp2_with fail
  refine (real_canon x w).mono ?_
  rintro r w1 ⟨rfl, rfl⟩
  go_wp2_with fail
  go_ret
  exact ⟨rfl, rfl⟩
theorem key_canon {x y : Nat} (hx : x < 18446744073709551616) (hy : y < 18446744073709551616) : canonP x = canonP y ↔ key x = key y := by
  have hc : nanW 9221120237041090561 := by decide +kernel
  have e : ∀ x : Nat, x < 18446744073709551616 → x = if negW x then 9223372036854775808 + rung x else rung x := by
    intro x hx
    unfold negW rung
    have : x / 9223372036854775808 = 0 ∨ x / 9223372036854775808 = 1 := by omega
    rcases this with h | h <;> rw [h] <;> simp <;> omega
  have ex := e x hx
  have ey := e y hy
  have bx : rung x < 9223372036854775808 := Nat.mod_lt _ (by omega)
  have bY : rung y < 9223372036854775808 := Nat.mod_lt _ (by omega)
  unfold canonP key
  by_cases h1 : nanW x <;> by_cases h2 : nanW y
  · rw [if_pos h1, if_pos h2, if_pos h1, if_pos h2]; simp
  · rw [if_pos h1, if_neg h2, if_pos h1, if_neg h2]
    refine ⟨fun h => absurd (h ▸ hc) h2, fun h => ?_⟩
    exfalso
    split at h <;> omega
  · rw [if_neg h1, if_pos h2, if_neg h1, if_pos h2]
    refine ⟨fun h => absurd (h ▸ hc) h1, fun h => ?_⟩
    exfalso
    split at h <;> omega
  · rw [if_neg h1, if_neg h2, if_neg h1, if_neg h2]
    refine ⟨fun h => by rw [h], fun h => ?_⟩
    rw [ex, ey]
    cases hA : negW x <;> cases hB : negW y <;> rw [hA, hB] at h <;> simp only [if_true, if_false, Bool.false_eq_true] at h ⊢ <;> omega
theorem real_same (x y : Nat) (w : World) (hx : x < 18446744073709551616) (hy : y < 18446744073709551616) : Calls Try.prog 77 #[.float .f64 x, .float .f64 y] w fun r w' => r = .returned (.bool (decide (key x = key y))) ∧ w = w' := by
  have hc : decide (key x = key y) = ((canonP x : Int) == (canonP y : Int)) := by
    rw [Bool.eq_iff_iff, decide_eq_true_iff, beq_iff_eq, ← key_canon hx hy]
    omega
  rw [hc]
  clear hc
  go_enter Try.func77, Try.ntmps77
  go_wp2_with fail
  refine (real_bits x w).mono ?_
  rintro r w1 ⟨rfl, rfl⟩
  go_wp2_with fail
  refine (real_bits y w).mono ?_
  rintro r w1 ⟨rfl, rfl⟩
  go_wp2_with fail
  go_ret
  exact ⟨rfl, rfl⟩
end Go.Proofs.Ytelfpnpplknlpaa
