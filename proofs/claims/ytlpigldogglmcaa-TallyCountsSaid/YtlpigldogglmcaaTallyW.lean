/- The tally's functions (layer 25) come to what they must: walks. -/
import Derived.Test.YtlpigldogglmcaaBase
import Derived.Lib.Hide
set_option linter.unusedVariables false
set_option linter.unusedSimpArgs false
namespace Go.Proofs.Ytlpigldogglmcaa
open Go.RowKit

theorem tally_new (w : World) : Calls Try.prog 32 #[] w fun r w' => r = .returned (.pointer (some ⟨w.heap.size, 0, none⟩)) ∧ w' = w.alloc (.cells #[.int .i64 0, .int .i64 0, .int .i64 0, .int .i64 0, .int .i64 0, .int .i64 0, .int .i64 0] 112) := by
  go_enter Try.func32, Try.ntmps32
  go_wp2
  go_ret
  exact ⟨rfl, rfl⟩
theorem tally_visit (g : Nat) (a b c d e f h : Int) (w : World) (H : Blk w g 112 #[.int .i64 a, .int .i64 b, .int .i64 c, .int .i64 d, .int .i64 e, .int .i64 f, .int .i64 h]) :
    Calls Try.prog 33 #[.pointer (some ⟨g, 0, none⟩)] w fun r w' => r = .returned (.tuple #[]) ∧ Blk w' g 112 #[.int .i64 (wrap64 (a + 1)), .int .i64 b, .int .i64 c, .int .i64 d, .int .i64 e, .int .i64 f, .int .i64 h] ∧ Fr (· = g) w w' := by
  have hc : w.cell? ⟨g, 0, none⟩ = some (.int .i64 a) := H.cell 0
  have hf := H.frozen 0
  go_enter Try.func33, Try.ntmps33
  go_wp2
  go_end0
  go_wp2
  go_end0
  go_wp2
  go_end0
  exact ⟨rfl, H.set_ 0 _, (Fr.refl _ _).set1 _ _⟩
theorem tally_visit_nil (w : World) : Calls Try.prog 33 #[.pointer none] w fun r w' => r = .returned (.tuple #[]) ∧ w' = w := by
  go_enter Try.func33, Try.ntmps33
  go_wp2
  go_end0
  go_wp2
  go_end0
  exact ⟨rfl, rfl⟩
theorem tally_scan (g : Nat) (a b c d e f h : Int) (w : World) (H : Blk w g 112 #[.int .i64 a, .int .i64 b, .int .i64 c, .int .i64 d, .int .i64 e, .int .i64 f, .int .i64 h]) :
    Calls Try.prog 34 #[.pointer (some ⟨g, 0, none⟩)] w fun r w' => r = .returned (.tuple #[]) ∧ Blk w' g 112 #[.int .i64 a, .int .i64 (wrap64 (b + 1)), .int .i64 c, .int .i64 d, .int .i64 e, .int .i64 f, .int .i64 h] ∧ Fr (· = g) w w' := by
  have hc : w.cell? ⟨g, 1, none⟩ = some (.int .i64 b) := H.cell 1
  have hf := H.frozen 1
  go_enter Try.func34, Try.ntmps34
  go_wp2
  go_end0
  go_wp2
  go_end0
  go_wp2
  go_end0
  exact ⟨rfl, H.set_ 1 _, (Fr.refl _ _).set1 _ _⟩
theorem tally_call (g : Nat) (a b c d e f h : Int) (w : World) (H : Blk w g 112 #[.int .i64 a, .int .i64 b, .int .i64 c, .int .i64 d, .int .i64 e, .int .i64 f, .int .i64 h]) :
    Calls Try.prog 37 #[.pointer (some ⟨g, 0, none⟩)] w fun r w' => r = .returned (.tuple #[]) ∧ Blk w' g 112 #[.int .i64 a, .int .i64 b, .int .i64 c, .int .i64 d, .int .i64 e, .int .i64 f, .int .i64 (wrap64 (h + 1))] ∧ Fr (· = g) w w' := by
  have hc : w.cell? ⟨g, 6, none⟩ = some (.int .i64 h) := H.cell 6
  have hf := H.frozen 6
  go_enter Try.func37, Try.ntmps37
  go_wp2
  go_end0
  go_wp2
  go_end0
  exact ⟨rfl, H.set_ 6 _, (Fr.refl _ _).set1 _ _⟩
set_option maxHeartbeats 400000 in
theorem tally_wake_no (g : Nat) (n : Int) (w : World) (hn : n ≤ 0) :
    Calls Try.prog 35 #[.pointer (some ⟨g, 0, none⟩), .int .i64 n] w fun r w' => r = .returned (.tuple #[]) ∧ w' = w.alloc (.cells #[.int .i64 n] 3) := by
  go_enter Try.func35, Try.ntmps35
  go_wp2
  go_end0
  go_wp2
  go_end0
  go_wp2
  go_end0
  exact ⟨rfl, rfl⟩
theorem tally_wake_nil (n : Int) (w : World) :
    Calls Try.prog 35 #[.pointer none, .int .i64 n] w fun r w' => r = .returned (.tuple #[]) ∧ w' = w.alloc (.cells #[.int .i64 n] 3) := by
  go_enter Try.func35, Try.ntmps35
  go_wp2
  go_end0
  go_wp2
  go_end0
  exact ⟨rfl, rfl⟩
set_option maxHeartbeats 400000 in
theorem tally_wake (g : Nat) (a b c d e f h n : Int) (w : World) (hn : 0 < n) (H : Blk w g 112 #[.int .i64 a, .int .i64 b, .int .i64 c, .int .i64 d, .int .i64 e, .int .i64 f, .int .i64 h]) :
    Calls Try.prog 35 #[.pointer (some ⟨g, 0, none⟩), .int .i64 n] w fun r w' => r = .returned (.tuple #[]) ∧ Blk w' g 112 #[.int .i64 a, .int .i64 b, .int .i64 (wrap64 (c + n)), .int .i64 (wrap64 (d + 1)), .int .i64 e, .int .i64 f, .int .i64 h] ∧ Fr (· = g) w w' := by
  have hlt := H.lt
  have hc : w.cell? ⟨g, 3, none⟩ = some (.int .i64 d) := H.cell 3
  have hf := H.frozen 3
  have hc2 : w.cell? ⟨g, 2, none⟩ = some (.int .i64 c) := H.cell 2
  have hf2 := H.frozen 2
  go_enter Try.func35, Try.ntmps35
  go_wp2
  go_region
  all_goals (go_wp2; go_end0; go_wp2; go_end0; go_wp2; go_end0)
  all_goals exact ⟨rfl, (((H.set_ 3 _).set_ 2 _).alloc _).drew, ((((Fr.refl _ _).set1 3 _).set1 2 _).alloc _).drew⟩
theorem tally_accept (g : Nat) (a b c d e f h n : Int) (w : World) (H : Blk w g 112 #[.int .i64 a, .int .i64 b, .int .i64 c, .int .i64 d, .int .i64 e, .int .i64 f, .int .i64 h]) :
    Calls Try.prog 36 #[.pointer (some ⟨g, 0, none⟩), .int .i64 n] w fun r w' => r = .returned (.tuple #[]) ∧ Blk w' g 112 #[.int .i64 a, .int .i64 b, .int .i64 c, .int .i64 d, .int .i64 (wrap64 (e + 1)), .int .i64 (wrap64 (f + max n 0)), .int .i64 h] ∧ Fr (· = g) w w' := by
  have hlt := H.lt
  have hc : w.cell? ⟨g, 4, none⟩ = some (.int .i64 e) := H.cell 4
  have hf := H.frozen 4
  have hc2 : w.cell? ⟨g, 5, none⟩ = some (.int .i64 f) := H.cell 5
  have hf2 := H.frozen 5
  rcases Int.lt_or_le n 0 with hn | hn
  · have hm : max n 0 = 0 := by omega
    rw [hm]
    clear hm
    go_enter Try.func36, Try.ntmps36
    go_wp2
    go_region
    all_goals (go_wp2; go_end0; go_wp2; go_end0; go_wp2; go_end0)
    all_goals exact ⟨rfl, by rw [Int.add_zero]; exact (((H.set_ 4 _).set_ 5 _).alloc _).drew, ((((Fr.refl _ _).set1 4 _).set1 5 _).alloc _).drew⟩
  · have hm : max n 0 = n := by omega
    rw [hm]
    clear hm
    go_enter Try.func36, Try.ntmps36
    go_wp2
    go_region
    all_goals (go_wp2; go_end0; go_wp2; go_end0; go_wp2; go_end0)
    all_goals exact ⟨rfl, (((H.set_ 4 _).set_ 5 _).alloc _).drew, ((((Fr.refl _ _).set1 4 _).set1 5 _).alloc _).drew⟩
theorem tally_counts (g : Nat) (a b c d e f h : Int) (w : World) (H : Blk w g 112 #[.int .i64 a, .int .i64 b, .int .i64 c, .int .i64 d, .int .i64 e, .int .i64 f, .int .i64 h]) :
    Calls Try.prog 38 #[.pointer (some ⟨g, 0, none⟩)] w fun r w' => r = .returned (.agg #[.int .i64 a, .int .i64 b, .int .i64 c, .int .i64 d, .int .i64 e, .int .i64 f, .int .i64 h]) ∧ Fr (fun _ => False) w w' := by
  have hlt := H.lt
  have hc0 : w.cell? ⟨g, 0, none⟩ = some (.int .i64 a) := H.cell 0
  have hc1 : w.cell? ⟨g, 1, none⟩ = some (.int .i64 b) := H.cell 1
  have hc2 : w.cell? ⟨g, 2, none⟩ = some (.int .i64 c) := H.cell 2
  have hc3 : w.cell? ⟨g, 3, none⟩ = some (.int .i64 d) := H.cell 3
  have hc4 : w.cell? ⟨g, 4, none⟩ = some (.int .i64 e) := H.cell 4
  have hc5 : w.cell? ⟨g, 5, none⟩ = some (.int .i64 f) := H.cell 5
  have hc6 : w.cell? ⟨g, 6, none⟩ = some (.int .i64 h) := H.cell 6
  go_enter Try.func38, Try.ntmps38
  go_wp2
  exact bodyPost_ret (v := .agg #[.int .i64 a, .int .i64 b, .int .i64 c, .int .i64 d, .int .i64 e, .int .i64 f, .int .i64 h]) (by simp [results, Try.results38, go_sem]) rfl ⟨rfl, (Fr.refl _ _).alloc _⟩
theorem tally_counts_nil (w : World) :
    Calls Try.prog 38 #[.pointer none] w fun r w' => r = .returned (.agg #[.int .i64 0, .int .i64 0, .int .i64 0, .int .i64 0, .int .i64 0, .int .i64 0, .int .i64 0]) ∧ Fr (fun _ => False) w w' := by
  go_enter Try.func38, Try.ntmps38
  go_wp2
  exact bodyPost_ret (v := .agg #[.int .i64 0, .int .i64 0, .int .i64 0, .int .i64 0, .int .i64 0, .int .i64 0, .int .i64 0]) (by simp [results, Try.results38, go_sem]) rfl ⟨rfl, (Fr.refl _ _).alloc _⟩

theorem ix0 (e f d g : Int) (w : World) : (Instr.index 49 (.agg #[.int .i64 e, .int .i64 f, .int .i64 d, .int .i64 g]) (.int .i64 0)).run Try.prog w = .ok (.int .i64 e) w := by kernel_rfl
theorem ix1 (e f d g : Int) (w : World) : (Instr.index 49 (.agg #[.int .i64 e, .int .i64 f, .int .i64 d, .int .i64 g]) (.int .i64 1)).run Try.prog w = .ok (.int .i64 f) w := by kernel_rfl
theorem ix2 (e f d g : Int) (w : World) : (Instr.index 49 (.agg #[.int .i64 e, .int .i64 f, .int .i64 d, .int .i64 g]) (.int .i64 2)).run Try.prog w = .ok (.int .i64 d) w := by kernel_rfl
theorem ix3 (e f d g : Int) (w : World) : (Instr.index 49 (.agg #[.int .i64 e, .int .i64 f, .int .i64 d, .int .i64 g]) (.int .i64 3)).run Try.prog w = .ok (.int .i64 g) w := by kernel_rfl

theorem eqCounts (a b c d e f g a' b' c' d' e' f' g' : Int) (w : World) : (binOp .eql 51 (.agg #[.int .i64 a, .int .i64 b, .int .i64 c, .int .i64 d, .int .i64 e, .int .i64 f, .int .i64 g])
    (.agg #[.int .i64 a', .int .i64 b', .int .i64 c', .int .i64 d', .int .i64 e', .int .i64 f', .int .i64 g'])).run Try.prog w = .ok (.bool (decide (a = a' ∧ b = b' ∧ c = c' ∧ d = d' ∧ e = e' ∧ f = f' ∧ g = g'))) w := by
  go_simp
  by_cases h1 : a = a' <;> by_cases h2 : b = b' <;> by_cases h3 : c = c' <;> by_cases h4 : d = d' <;> by_cases h5 : e = e' <;> by_cases h6 : f = f' <;> by_cases h7 : g = g' <;> simp [h1, h2, h3, h4, h5, h6, h7]
theorem neqCounts (a b c d e f g a' b' c' d' e' f' g' : Int) (w : World) : (binOp .neq 51 (.agg #[.int .i64 a, .int .i64 b, .int .i64 c, .int .i64 d, .int .i64 e, .int .i64 f, .int .i64 g])
    (.agg #[.int .i64 a', .int .i64 b', .int .i64 c', .int .i64 d', .int .i64 e', .int .i64 f', .int .i64 g'])).run Try.prog w = .ok (.bool (!decide (a = a' ∧ b = b' ∧ c = c' ∧ d = d' ∧ e = e' ∧ f = f' ∧ g = g'))) w := by
  go_simp
  by_cases h1 : a = a' <;> by_cases h2 : b = b' <;> by_cases h3 : c = c' <;> by_cases h4 : d = d' <;> by_cases h5 : e = e' <;> by_cases h6 : f = f' <;> by_cases h7 : g = g' <;> simp [h1, h2, h3, h4, h5, h6, h7]

def may (e f d g : Int) : Bool := decide (0 ≤ e ∧ e ≤ 1048576 ∧ 0 ≤ f ∧ f ≤ 1048576 ∧ 0 ≤ d ∧ d ≤ 1048576 ∧ 0 ≤ g ∧ g ≤ 1048576)
def tbound (a b c d e f g : Int) : Int :=
  if a = 0 ∧ b = 0 ∧ c = 0 ∧ d = 0 ∧ e = 0 ∧ f = 0 ∧ g = 0 then 0 else if may e f d g then (e + f) * (d + 2) + g else -1
theorem bound_zero (w : World) :
    Calls Try.prog 29 #[.agg #[.int .i64 0, .int .i64 0, .int .i64 0, .int .i64 0, .int .i64 0, .int .i64 0, .int .i64 0]] w fun r w' => r = .returned (.int .i64 0) ∧ Fr (fun _ => False) w w' := by
  have heq := fun w => eqCounts 0 0 0 0 0 0 0 0 0 0 0 0 0 0 w
  simp only [and_self, decide_true] at heq
  go_enter Try.func29, Try.ntmps29
  go_wp2
  go_ret
  exact ⟨rfl, (Fr.refl _ _).alloc _⟩
theorem prod_le {x y z : Int} (hx0 : 0 ≤ x) (hx : x ≤ 2097152) (hy0 : 0 ≤ y) (hy : y ≤ 1048578) : 0 ≤ x * y ∧ x * y ≤ 2199027449856 := by
  constructor
  · exact Int.mul_nonneg hx0 hy0
  · have h1 := Int.mul_le_mul hx hy hy0 (by omega : (0:Int) ≤ 2097152)
    omega
set_option maxHeartbeats 800000 in
theorem bound_may (a b c d e f g : Int) (w : World) (hz : ¬ (a = 0 ∧ b = 0 ∧ c = 0 ∧ d = 0 ∧ e = 0 ∧ f = 0 ∧ g = 0)) (hm : may e f d g = true) :
    Calls Try.prog 29 #[.agg #[.int .i64 a, .int .i64 b, .int .i64 c, .int .i64 d, .int .i64 e, .int .i64 f, .int .i64 g]] w fun r w' => r = .returned (.int .i64 ((e + f) * (d + 2) + g)) ∧ Fr (fun _ => False) w w' := by
  obtain ⟨he0, he1, hf0, hf1, hd0, hd1, hg0, hg1⟩ := of_decide_eq_true hm
  clear hm
  obtain ⟨hp0, hp1⟩ := prod_le (z := 0) (x := e + f) (y := d + 2) (by omega) (by omega) (by omega) (by omega)
  have k0 := ix0
  have k1 := ix1
  have k2 := ix2
  have k3 := ix3
  have heq := fun w => eqCounts a b c d e f g 0 0 0 0 0 0 0 w
  have hz' : decide (a = 0 ∧ b = 0 ∧ c = 0 ∧ d = 0 ∧ e = 0 ∧ f = 0 ∧ g = 0) = false := decide_eq_false hz
  clear hz
  simp only [hz'] at heq
  clear hz'
  go_enter Try.func29, Try.ntmps29
  go_wp2
  refine wp_loop_rounds 5 ?_
  iterate 5 (rw [rounds_succ]; go_wp2)
  go_ret
  exact ⟨rfl, (Fr.refl _ _).alloc _⟩
set_option maxHeartbeats 800000 in
theorem bound_not (a b c d e f g : Int) (w : World) (hm : may e f d g = false) :
    Calls Try.prog 29 #[.agg #[.int .i64 a, .int .i64 b, .int .i64 c, .int .i64 d, .int .i64 e, .int .i64 f, .int .i64 g]] w fun r w' => r = .returned (.int .i64 (-1)) ∧ Fr (fun _ => False) w w' := by
  have hb := of_decide_eq_false hm
  clear hm
  have k0 := ix0
  have k1 := ix1
  have k2 := ix2
  have k3 := ix3
  have heq := fun w => eqCounts a b c d e f g 0 0 0 0 0 0 0 w
  have hz' : decide (a = 0 ∧ b = 0 ∧ c = 0 ∧ d = 0 ∧ e = 0 ∧ f = 0 ∧ g = 0) = false := decide_eq_false (by omega)
  simp only [hz'] at heq
  clear hz'
  go_enter Try.func29, Try.ntmps29
  go_wp2
  refine wp_loop_rounds 5 ?_
  iterate 5 (all_goals (try (rw [rounds_succ]; go_wp2)))
  all_goals (go_ret; exact ⟨rfl, (Fr.refl _ _).alloc _⟩)
theorem bound_any (a b c d e f g : Int) (w : World) :
    Calls Try.prog 29 #[.agg #[.int .i64 a, .int .i64 b, .int .i64 c, .int .i64 d, .int .i64 e, .int .i64 f, .int .i64 g]] w fun r w' => r = .returned (.int .i64 (tbound a b c d e f g)) ∧ Fr (fun _ => False) w w' := by
  unfold tbound
  by_cases hz : a = 0 ∧ b = 0 ∧ c = 0 ∧ d = 0 ∧ e = 0 ∧ f = 0 ∧ g = 0
  · rw [if_pos hz]
    obtain ⟨rfl, rfl, rfl, rfl, rfl, rfl, rfl⟩ := hz
    exact bound_zero w
  · rw [if_neg hz]
    cases hm : may e f d g with
    | true => exact bound_may a b c d e f g w hz hm
    | false => exact bound_not a b c d e f g w hm

/-- Visits and scans are within the bound (64 bits). -/
def twithin (a b c d e f g : Int) : Bool := decide (0 ≤ tbound a b c d e f g) && decide (wrap64 (a + b) ≤ tbound a b c d e f g)
set_option maxHeartbeats 800000 in
theorem within_any (a b c d e f g : Int) (w : World) :
    Calls Try.prog 30 #[.agg #[.int .i64 a, .int .i64 b, .int .i64 c, .int .i64 d, .int .i64 e, .int .i64 f, .int .i64 g]] w fun r w' => r = .returned (.bool (twithin a b c d e f g)) ∧ Fr (fun _ => False) w w' := by
  have ht : twithin a b c d e f g = twithin a b c d e f g := rfl
  unfold twithin
  generalize hB : tbound a b c d e f g = B
  have HB := Lib.hid hB
  clear hB ht
  go_enter Try.func30, Try.ntmps30
  go_wp2_with fail
  refine (bound_any a b c d e f g _).mono ?_
  rintro r w1 ⟨rfl, hw⟩
  rw [HB.out]
  obtain ⟨h0, h1⟩ : w1.cell? ⟨w.heap.size, 0, none⟩ = some (.int .i64 a) ∧ w1.cell? ⟨w.heap.size, 1, none⟩ = some (.int .i64 b) := by
    have HH := (Blk.new w 51 #[.int .i64 a, .int .i64 b, .int .i64 c, .int .i64 d, .int .i64 e, .int .i64 f, .int .i64 g]).fr hw (fun h => h)
    exact ⟨HH.cell 0, HH.cell 1⟩
  go_wp2
  all_goals go_ret
  · have h2 : 0 ≤ B := by assumption
    exact ⟨ret_bool (by simp [h2]), ((Fr.refl _ _).alloc _).trans hw⟩
  · have h2 : B < 0 := by assumption
    exact ⟨ret_bool (by simp; omega), ((Fr.refl _ _).alloc _).trans hw⟩
end Go.Proofs.Ytlpigldogglmcaa
