/- Texts of Cod, merged (3 of 27): Flt, Open, IdD, Reg2. -/
import Derived.Test.YtelfpnpplknlpaaGCod2
import Derived.Laws.Externs
import Derived.Laws.FloatArith
import Derived.Test.YtelfpnpplknlpaaGCod1
import Derived.Test.YtelfpnpplknlpaaWWords
import Derived.ProofKit
import Derived.OpenShut
import Derived.Deep.QuietTactic
import Derived.BigQuiet
import Derived.Deep.RegionHeld
set_option linter.unusedVariables false
set_option linter.unusedSimpArgs false
/- Floats told by the reference: which two are the same (one NaN, two zeros). -/
namespace Go.Proofs.Ytelfpnpplknlpaa
open Go.RowKit

abbrev ford (x y : Nat) : Option Ordering := FloatKind.f64.format.order x y
theorem ref_nan (x : Nat) (w : World) : Calls Try.prog 67 #[.float .f64 x] w fun r w' => r = .returned (.bool (ford x x != some .eq)) ∧ w = w' := by
  go_enter Try.func67, Try.ntmps67
  go_wp2_with fail
  go_ret
  exact ⟨rfl, rfl⟩
theorem cmp_lt {a b : Int} (h : a < b) : compare a b = .lt := by show compareOfLessAndEq a b = _; unfold compareOfLessAndEq; rw [if_pos h]
theorem cmp_gt {a b : Int} (h : b < a) : compare a b = .gt := by show compareOfLessAndEq a b = _; unfold compareOfLessAndEq; rw [if_neg (by omega), if_neg (by omega)]
theorem cmp_eq {a b : Int} (h : a = b) : compare a b = .eq := by show compareOfLessAndEq a b = _; unfold compareOfLessAndEq; rw [if_neg (by omega), if_pos h]
theorem ford_nan {x y : Nat} (h : nanW x ∨ nanW y) : ford x y = none := order_nan x y h
theorem ford_lt {x y : Nat} (hx : ¬ nanW x) (hy : ¬ nanW y) (h : rank x < rank y) : ford x y = some .lt := (order_rank x y hx hy).trans (by rw [cmp_lt h])
theorem ford_gt {x y : Nat} (hx : ¬ nanW x) (hy : ¬ nanW y) (h : rank y < rank x) : ford x y = some .gt := (order_rank x y hx hy).trans (by rw [cmp_gt h])
theorem ford_eq {x y : Nat} (hx : ¬ nanW x) (hy : ¬ nanW y) (h : rank x = rank y) : ford x y = some .eq := (order_rank x y hx hy).trans (by rw [cmp_eq h])
theorem rank_nil : rank 0 = 0 := by decide +kernel
theorem nan_nil : ¬ nanW 0 := by decide +kernel
theorem zero_cases {x : Nat} (hx : x < 18446744073709551616) (h : rank x = 0) : x = 0 ∨ x = 9223372036854775808 := by
  unfold rank rung at h
  cases hn : negW x <;> rw [hn] at h <;> simp only [if_true, if_false, Bool.false_eq_true] at h <;> omega
theorem ford_self {x : Nat} (h : ¬ nanW x) : ford x x = some .eq := ford_eq h h rfl
/-- How a number stands: the NaNs first, then the rest, -0 ahead of +0. -/
def key (x : Nat) : Int := if nanW x then -18446744073709551616 else if negW x then -(rung x : Int) - 1 else rung x
theorem quoF {a b r : Nat} (h : Ieee.double.div a b = some r) (w : World) : (binOp .quo 56 (.float .f64 a) (.float .f64 b)).run Try.prog w = .ok (.float .f64 r) w :=
  run_float_arith w .quo 56 .f64 a b r h
theorem key_rank {x y : Nat} (n1 : ¬ nanW x) (n2 : ¬ nanW y) (h : rank x ≠ 0 ∨ rank y ≠ 0) : key x = key y ↔ rank x = rank y := by
  unfold key
  rw [if_neg n1, if_neg n2]
  unfold rank at h ⊢
  cases hA : negW x <;> cases hB : negW y <;> rw [hA, hB] at h <;> simp only [if_true, if_false, Bool.false_eq_true] at h ⊢ <;> omega
theorem key_nan {x y : Nat} (n1 : nanW x) (n2 : ¬ nanW y) : key x ≠ key y := by
  have : rung y < 9223372036854775808 := Nat.mod_lt _ (by omega)
  unfold key
  rw [if_pos n1, if_neg n2]
  split <;> omega
theorem ford_ne0 {x : Nat} (n : ¬ nanW x) (h : rank x ≠ 0) : (ford x 0 == some .eq) = false := by
  rcases Int.lt_trichotomy (rank x) 0 with a | a | a
  · rw [ford_lt n nan_nil (by rw [rank_nil]; exact a)]; rfl
  · exact absurd a h
  · rw [ford_gt n nan_nil (by rw [rank_nil]; exact a)]; rfl
theorem ford_same {x y : Nat} (n1 : ¬ nanW x) (n2 : ¬ nanW y) : (ford x y == some .eq) = decide (rank x = rank y) := by
  rcases Int.lt_trichotomy (rank x) (rank y) with a | a | a
  · rw [ford_lt n1 n2 a, decide_eq_false (by omega)]; rfl
  · rw [ford_eq n1 n2 a, decide_eq_true a]; rfl
  · rw [ford_gt n1 n2 a, decide_eq_false (by omega)]; rfl
set_option maxRecDepth 100000 in
theorem ref_same (x y : Nat) (w : World) (hx : x < 18446744073709551616) (hy : y < 18446744073709551616) : Calls Try.prog 61 #[.float .f64 x, .float .f64 y] w fun r w' => r = .returned (.bool (decide (key x = key y))) ∧ w = w' := by
  by_cases n1 : nanW x
  · have h1 : (ford x x != some .eq) = true := by rw [ford_nan (x := x) (y := x) (.inl n1)]; rfl
    by_cases n2 : nanW y
    · have h2 : (ford y y != some .eq) = true := by rw [ford_nan (x := y) (y := y) (.inl n2)]; rfl
      have hk : decide (key x = key y) = true := by rw [decide_eq_true_iff]; unfold key; rw [if_pos n1, if_pos n2]
      rw [hk]
      clear n1 n2 hk
      go_enter Try.func61, Try.ntmps61
      go_wp2_with fail
      refine (ref_nan _ w).mono ?_
      rintro r w1 ⟨rfl, rfl⟩
      rw [h1]
      go_wp2_with fail
      refine (ref_nan _ w).mono ?_
      rintro r w1 ⟨rfl, rfl⟩
      rw [h1]
      go_wp2_with fail
      refine (ref_nan _ w).mono ?_
      rintro r w1 ⟨rfl, rfl⟩
      rw [h2]
      go_wp2_with fail
      go_ret
      exact ⟨rfl, rfl⟩
    · have h2 : (ford y y != some .eq) = false := by rw [ford_self n2]; rfl
      have hk : decide (key x = key y) = false := by rw [decide_eq_false_iff_not]; exact key_nan n1 n2
      rw [hk]
      clear n1 n2 hk
      go_enter Try.func61, Try.ntmps61
      go_wp2_with fail
      refine (ref_nan _ w).mono ?_
      rintro r w1 ⟨rfl, rfl⟩
      rw [h1]
      go_wp2_with fail
      refine (ref_nan _ w).mono ?_
      rintro r w1 ⟨rfl, rfl⟩
      rw [h1]
      go_wp2_with fail
      refine (ref_nan _ w).mono ?_
      rintro r w1 ⟨rfl, rfl⟩
      rw [h2]
      go_wp2_with fail
      go_ret
      exact ⟨rfl, rfl⟩
  · have h1 : (ford x x != some .eq) = false := by rw [ford_self n1]; rfl
    by_cases n2 : nanW y
    · have h2 : (ford y y != some .eq) = true := by rw [ford_nan (x := y) (y := y) (.inl n2)]; rfl
      have hk : decide (key x = key y) = false := by rw [decide_eq_false_iff_not]; exact fun h => key_nan n2 n1 h.symm
      rw [hk]
      clear n1 n2 hk
      go_enter Try.func61, Try.ntmps61
      go_wp2_with fail
      refine (ref_nan _ w).mono ?_
      rintro r w1 ⟨rfl, rfl⟩
      rw [h1]
      go_wp2_with fail
      refine (ref_nan _ w).mono ?_
      rintro r w1 ⟨rfl, rfl⟩
      rw [h2]
      go_wp2_with fail
      refine (ref_nan _ w).mono ?_
      rintro r w1 ⟨rfl, rfl⟩
      rw [h1]
      go_wp2_with fail
      go_ret
      exact ⟨rfl, rfl⟩
    · have h2 : (ford y y != some .eq) = false := by rw [ford_self n2]; rfl
      by_cases a : rank x = 0
      · have h3 : (ford x 0 == some .eq) = true := by rw [ford_eq n1 nan_nil (by rw [rank_nil]; exact a)]; rfl
        by_cases b : rank y = 0
        · have h4 : (ford y 0 == some .eq) = true := by rw [ford_eq n2 nan_nil (by rw [rank_nil]; exact b)]; rfl
          have q0 := quoF (a := 4607182418800017408) (b := 0) (r := 9218868437227405312) (by decide +kernel)
          have q1 := quoF (a := 4607182418800017408) (b := 9223372036854775808) (r := 18442240474082181120) (by decide +kernel)
          rcases zero_cases hx a with rfl | rfl <;> rcases zero_cases hy b with rfl | rfl
          · have hk : decide (key 0 = key 0) = true := by decide +kernel
            have h5 : (ford 9218868437227405312 9218868437227405312 == some .eq) = true := by decide +kernel
            rw [hk]
            clear n1 n2 hk a b
            go_enter Try.func61, Try.ntmps61
            go_wp2_with fail
            refine (ref_nan _ w).mono ?_
            rintro r w1 ⟨rfl, rfl⟩
            rw [h1]
            go_wp2_with fail
            refine (ref_nan _ w).mono ?_
            rintro r w1 ⟨rfl, rfl⟩
            rw [h2]
            go_wp2_with fail
            go_ret
            exact ⟨rfl, rfl⟩
          · have hk : decide (key 0 = key 9223372036854775808) = false := by decide +kernel
            have h5 : (ford 9218868437227405312 18442240474082181120 == some .eq) = false := by decide +kernel
            rw [hk]
            clear n1 n2 hk a b
            go_enter Try.func61, Try.ntmps61
            go_wp2_with fail
            refine (ref_nan _ w).mono ?_
            rintro r w1 ⟨rfl, rfl⟩
            rw [h1]
            go_wp2_with fail
            refine (ref_nan _ w).mono ?_
            rintro r w1 ⟨rfl, rfl⟩
            rw [h2]
            go_wp2_with fail
            go_ret
            exact ⟨rfl, rfl⟩
          · have hk : decide (key 9223372036854775808 = key 0) = false := by decide +kernel
            have h5 : (ford 18442240474082181120 9218868437227405312 == some .eq) = false := by decide +kernel
            rw [hk]
            clear n1 n2 hk a b
            go_enter Try.func61, Try.ntmps61
            go_wp2_with fail
            refine (ref_nan _ w).mono ?_
            rintro r w1 ⟨rfl, rfl⟩
            rw [h1]
            go_wp2_with fail
            refine (ref_nan _ w).mono ?_
            rintro r w1 ⟨rfl, rfl⟩
            rw [h2]
            go_wp2_with fail
            go_ret
            exact ⟨rfl, rfl⟩
          · have hk : decide (key 9223372036854775808 = key 9223372036854775808) = true := by decide +kernel
            have h5 : (ford 18442240474082181120 18442240474082181120 == some .eq) = true := by decide +kernel
            rw [hk]
            clear n1 n2 hk a b
            go_enter Try.func61, Try.ntmps61
            go_wp2_with fail
            refine (ref_nan _ w).mono ?_
            rintro r w1 ⟨rfl, rfl⟩
            rw [h1]
            go_wp2_with fail
            refine (ref_nan _ w).mono ?_
            rintro r w1 ⟨rfl, rfl⟩
            rw [h2]
            go_wp2_with fail
            go_ret
            exact ⟨rfl, rfl⟩
        · have h4 := ford_ne0 n2 b
          have h5 := ford_same n1 n2
          have hk : decide (key x = key y) = decide (rank x = rank y) := by rw [Bool.eq_iff_iff, decide_eq_true_iff, decide_eq_true_iff]; exact key_rank n1 n2 (.inr b)
          rw [hk, ← h5]
          clear n1 n2 hk a b h5
          go_enter Try.func61, Try.ntmps61
          go_wp2_with fail
          refine (ref_nan _ w).mono ?_
          rintro r w1 ⟨rfl, rfl⟩
          rw [h1]
          go_wp2_with fail
          refine (ref_nan _ w).mono ?_
          rintro r w1 ⟨rfl, rfl⟩
          rw [h2]
          go_wp2_with fail
          go_ret
          exact ⟨rfl, rfl⟩
      · have h3 := ford_ne0 n1 a
        have h5 := ford_same n1 n2
        have hk : decide (key x = key y) = decide (rank x = rank y) := by rw [Bool.eq_iff_iff, decide_eq_true_iff, decide_eq_true_iff]; exact key_rank n1 n2 (.inl a)
        rw [hk, ← h5]
        clear n1 n2 hk a h5
        go_enter Try.func61, Try.ntmps61
        go_wp2_with fail
        refine (ref_nan _ w).mono ?_
        rintro r w1 ⟨rfl, rfl⟩
        rw [h1]
        go_wp2_with fail
        refine (ref_nan _ w).mono ?_
        rintro r w1 ⟨rfl, rfl⟩
        rw [h2]
        go_wp2_with fail
        go_ret
        exact ⟨rfl, rfl⟩
end Go.Proofs.Ytelfpnpplknlpaa
/- What came in as an argument reads by its kind (Kd of the printed words): from the row's reading to the kinds. -/
namespace Go.Proofs.Ytelfpnpplknlpaa
open Go.ChangeShapes Go.WideShapes Go.ChangeAt Go.RowKit
open Go.Proofs.YtelfpnpplknlpaaW.PrintWords

/-- Whatever reads at type t as data is of kind d, and fits (W). -/
def Opens (P : Program) (t : TypeId) {α : Type} (d : Kd α) (W : α → Prop) : Prop :=
  ∀ {H : Type} {enc : TypeId × Value → H} {w : World} {fuel : Nat} {cs : List Value} {x : DataW H × List MemPlace},
    DataW.trod enc P w 0 (fun _ => true) true fuel t cs = some x → ∃ y : α, d.K w y cs ∧ W y

theorem spot_none {w : World} {a : Addr} {v : Value} (h : w.cell? a = some v) : a.spot = none := by
  unfold World.cell? at h
  split at h
  · split at h
    · cases h
    · rename_i hs; simpa using hs
  · cases h
theorem cells_at {w : World} {a : Addr} {n : Nat} {cs : List Value} (h : w.cells? 0 a n = some cs) : cs.length = n ∧ ∀ j u, cs[j]? = some u → w.cell? (a.add j) = some u := by
  unfold World.cells? at h
  rw [if_pos (Nat.zero_le _)] at h
  have hl : cs.length = n := by simpa using mapM_some_length h
  refine ⟨hl, fun j u hj => ?_⟩
  have hlt : j < n := by have := (List.getElem?_eq_some_iff.1 hj).1; omega
  have := mapM_some_get h j j (by simp [hlt])
  rw [this, hj]

theorem opens_int {P : Program} {t : TypeId} {k : IntKind} (ht : P.underlying t = some (.int k)) : Opens P t (Kd.int k) (fun n => (Lit.int k n).wf = true) := by
  intro H enc w fuel cs x h
  obtain ⟨n, rfl, _, hw⟩ := DataW.trod_int ht h
  exact ⟨n, rfl, hw⟩
theorem opens_bool {P : Program} {t : TypeId} (ht : P.underlying t = some .bool) : Opens P t Kd.bool (fun _ => True) := by
  intro H enc w fuel cs x h
  obtain ⟨n, rfl, _⟩ := DataW.trod_bool ht h
  exact ⟨n, rfl, trivial⟩
theorem opens_string {P : Program} {t : TypeId} (ht : P.underlying t = some .string) : Opens P t Kd.string (fun s => s.size ≤ maxLen) := by
  intro H enc w fuel cs x h
  obtain ⟨n, rfl, _, hw⟩ := DataW.trod_string ht h
  exact ⟨n, rfl, hw⟩
def kfloat : Kd Nat := Kd.scalar (Value.float .f64) (fun _ => rfl)
theorem opens_float {P : Program} {t : TypeId} (ht : P.underlying t = some (.float .f64)) : Opens P t kfloat (fun b => b < 2 ^ 64) := by
  intro H enc w fuel cs x h
  cases fuel with
  | zero => simp [DataW.trod] at h
  | succ n =>
    unfold DataW.trod at h
    rw [ht] at h
    split at h <;> simp_all
    rename_i k k' b hk
    obtain ⟨⟨_, hw⟩, _⟩ := h
    subst hk
    exact ⟨b, rfl, by simpa [Lit.wf] using hw⟩

theorem opens_iso {P : Program} {t : TypeId} {α β : Type} {d : Kd α} {W : α → Prop} (h : Opens P t d W) (f : β → α) (g : α → β) (hfg : ∀ x, f (g x) = x) : Opens P t (Kd.iso d f) (fun y => W (f y)) := by
  intro H enc w fuel cs x hx
  obtain ⟨y, hk, hw⟩ := h hx
  exact ⟨g y, by show d.K w (f (g y)) cs; rw [hfg]; exact hk, by show W (f (g y)); rw [hfg]; exact hw⟩

theorem opens_struct2 {P : Program} {t : TypeId} {f0 f1 : Field} {α β : Type} {a : Kd α} {b : Kd β} {Wa : α → Prop} {Wb : β → Prop} (ht : P.underlying t = some (.struct #[f0, f1]))
    (h0 : Opens P f0.type a Wa) (h1 : Opens P f1.type b Wb) (c0 : P.cellsOf f0.type = a.sz) (c1 : P.cellsOf f1.type = b.sz) (o0 : f0.offset = 0) (o1 : f1.offset = a.sz) (ct : P.cellsOf t = a.sz + b.sz) :
    Opens P t (Kd.pair a b) (fun x => Wa x.1 ∧ Wb x.2) := by
  intro H enc w fuel cs x hx
  obtain ⟨xs, n, _, _, hl, hlen, hf⟩ := DataW.trod_struct ht hx
  have g0 := hf 0 f0 rfl
  have g1 := hf 1 f1 rfl
  have hlen' : xs.length = 2 := hlen
  rw [List.getElem?_eq_getElem (by omega)] at g0 g1
  obtain ⟨y0, k0, w0⟩ := h0 g0
  obtain ⟨y1, k1, w1⟩ := h1 g1
  rw [o0, c0, List.drop_zero] at k0
  rw [o1, c1] at k1
  refine ⟨(y0, y1), ⟨_, _, ?_, k0, k1⟩, w0, w1⟩
  rw [List.take_of_length_le (l := cs.drop a.sz) (by rw [List.length_drop]; omega), List.take_append_drop]

theorem opens_array2 {P : Program} {t e : TypeId} {α : Type} {a : Kd α} {Wa : α → Prop} (ht : P.underlying t = some (.array 2 e))
    (h0 : Opens P e a Wa) (c0 : P.cellsOf e = a.sz) (ct : P.cellsOf t = a.sz + a.sz) : Opens P t (Kd.pair a a) (fun x => Wa x.1 ∧ Wa x.2) := by
  intro H enc w fuel cs x hx
  obtain ⟨xs, n, _, _, hl, hlen, hf⟩ := DataW.trod_array ht hx
  have g0 := hf 0 (by omega)
  have g1 := hf 1 (by omega)
  rw [List.getElem?_eq_getElem (by omega)] at g0 g1
  obtain ⟨y0, k0, w0⟩ := h0 g0
  obtain ⟨y1, k1, w1⟩ := h0 g1
  rw [c0, Nat.zero_mul, List.drop_zero] at k0
  rw [c0, Nat.one_mul] at k1
  refine ⟨(y0, y1), ⟨_, _, ?_, k0, k1⟩, w0, w1⟩
  rw [List.take_of_length_le (l := cs.drop a.sz) (by rw [List.length_drop]; omega), List.take_append_drop]

/-- The nested tail of a struct: fields from the i-th on, their cells from offset o on. -/
theorem opens_slice {P : Program} {t e : TypeId} {α : Type} {d : Kd α} {W : α → Prop} (ht : P.underlying t = some (.slice e)) (h : Opens P e d W) (hc : P.cellsOf e = d.sz) :
    Opens P t (Kd.slice e d) (fun l => ∀ y ∈ l, W y) := by
  intro H enc w fuel cs x hx
  rcases DataW.trod_slice ht hx with ⟨rfl, _⟩ | ⟨a, len, cap, elems, rest, n, _, rfl, _, _, hlc, hcm, hel, hall, hrest⟩
  · exact ⟨[], ⟨none, 0, rfl, Nat.le_refl _, Kd.C_nil d w⟩, fun y hy => by cases hy⟩
  · have key : ∀ i, i < len → ∃ y c, c.length = d.sz ∧ d.K w y c ∧ W y ∧ ∀ j u, c[j]? = some u → w.cell? (a.add (i * d.sz + j)) = some u := by
      intro i hi
      have h1 := hall i hi
      rw [List.getElem?_eq_getElem (by omega), Option.bind_eq_some_iff] at h1
      obtain ⟨c, hc1, hc2⟩ := h1
      rw [hc] at hc1
      obtain ⟨y, hk, hw⟩ := h hc2
      obtain ⟨hl, hcell⟩ := cells_at hc1
      exact ⟨y, c, hl, hk, hw, fun j u hj => by have := hcell j u hj; rwa [add_add] at this⟩
    have : ∃ l : List α, l.length = len ∧ ∀ (i : Nat) (y : α), l[i]? = some y → W y ∧ ∃ c, c.length = d.sz ∧ d.K w y c ∧ ∀ j u, c[j]? = some u → w.cell? (a.add (i * d.sz + j)) = some u := by
      clear hall hel hlc hcm hx hrest
      induction len with
      | zero => exact ⟨[], rfl, fun i y hy => by simp at hy⟩
      | succ m ih =>
        obtain ⟨l, hl, hp⟩ := ih (fun i hi => key i (by omega))
        obtain ⟨y, c, h1, h2, h3, h4⟩ := key m (by omega)
        refine ⟨l ++ [y], by simp [hl], fun i z hz => ?_⟩
        rcases Nat.lt_or_ge i l.length with hi | hi
        · rw [List.getElem?_append_left hi] at hz
          exact hp i z hz
        · rw [List.getElem?_append_right hi] at hz
          have hi2 : i = m := by
            have := (List.getElem?_eq_some_iff.1 hz).1
            simp at this
            omega
          subst hi2
          rw [hl, Nat.sub_self] at hz
          have : y = z := by simpa using hz
          subst this
          exact ⟨h3, c, h1, h2, h4⟩
    obtain ⟨l, hl, hp⟩ := this
    refine ⟨l, ⟨some a, cap, by rw [hl], by omega, rfl, ?_, fun _ => ⟨a, rfl, fun j p hj => (hp j p hj).2⟩⟩, fun y hy => ?_⟩
    · simp only [maxLen] at hcm; omega
    · obtain ⟨i, hi, rfl⟩ := List.getElem_of_mem hy
      exact (hp i _ (List.getElem?_eq_getElem hi)).1

/-- An element of a slice that reads: its cells at plain addresses. -/
theorem C_at {α : Type} {d : Kd α} {w : World} {A : Option Addr} {n : Nat} {xs : List α} (h : d.C w A n xs) (hs : 0 < d.sz) {i : Nat} (hi : i < n) :
    ∃ b off c, ∃ hi' : i < xs.length, A = some ⟨b, off, none⟩ ∧ c.length = d.sz ∧ d.K w xs[i] c ∧ ∀ j u, c[j]? = some u → w.cell? ⟨b, off + i * d.sz + j, none⟩ = some u := by
  obtain ⟨ad, rfl, hc⟩ := h.2.2 (by omega)
  have hl : i < xs.length := by have := h.1; omega
  obtain ⟨c, h1, h2, h3⟩ := hc i _ (List.getElem?_eq_getElem hl)
  have hsp : ad.spot = none := by
    obtain ⟨c0, q1, q2, q3⟩ := hc 0 _ (List.getElem?_eq_getElem (by omega))
    have := spot_none (q3 0 c0[0] (List.getElem?_eq_getElem (by omega)))
    simpa [Addr.add] using this
  obtain ⟨b, off, sp⟩ := ad
  simp only at hsp
  subst hsp
  refine ⟨b, off, c, hl, rfl, h1, h2, fun j u hj => ?_⟩
  have := h3 j u hj
  rw [add_at] at this
  rw [Nat.add_assoc]
  exact this
/-- An argument that is a slice. -/
theorem open_arg_slice {P : Program} {t e : TypeId} {α : Type} {d : Kd α} {W : α → Prop} (ht : P.underlying t = some (.slice e)) (h : Opens P e d W) (hc : P.cellsOf e = d.sz)
    {H : Type} {enc : TypeId × Value → H} {w : World} {r : Reach} {b0 : Nat} {v : Value} {x : DataW H} {ps : List MemPlace}
    (hv : Value.okWide P w r b0 t v) (hx : DataW.Trod enc P w 0 (fun _ => true) true t v x ps) :
    ∃ A c l, v = .slice A (List.length l) c ∧ l.length ≤ c ∧ d.C w A l.length l ∧ ∀ y ∈ l, W y := by
  obtain ⟨a0, len, cap, rfl⟩ := okWide_slice ht hv
  obtain ⟨fuel, hf⟩ := hx
  obtain ⟨l, ⟨A, c, he, hl, hC⟩, hW⟩ := opens_slice ht h hc hf
  have he' : Value.slice a0 len cap = .slice A l.length c := by simpa [Value.cells] using he
  exact ⟨A, c, l, he', hl, hC, hW⟩
end Go.Proofs.Ytelfpnpplknlpaa
/- Lists of ids: what an element's cells are, equality. -/
namespace Go.Proofs.Ytelfpnpplknlpaa
open Go.RowKit
open Go.Proofs.YtelfpnpplknlpaaW.PrintWords

abbrev idV (a : Int × Int) : Value := .agg #[.int .i64 a.1, .int .i64 a.2]
def IdOk (a : Int × Int) : Prop := (Lit.int .i64 a.1).wf = true ∧ (Lit.int .i64 a.2).wf = true
def idK : Kd (Int × Int) := Kd.pair (Kd.int .i64) (Kd.int .i64)
theorem info_id : (Try.prog.info? 28).map (fun i => (i.zero, i.size, i.bytes)) = some (some (.agg #[.int .i64 0, .int .i64 0]), idK.sz, 16) := by kernel_rfl
theorem idK_M (w : World) (base : Nat) (ok : Nat → Prop) (a : Int × Int) : idK.M w base ok a [.int .i64 a.1, .int .i64 a.2] := ⟨[.int .i64 a.1], [.int .i64 a.2], rfl, rfl, rfl⟩
theorem idK_K {w : World} {a : Int × Int} {c : List Value} (h : idK.K w a c) : c = [.int .i64 a.1, .int .i64 a.2] := by
  obtain ⟨c0, c1, rfl, h0, h1⟩ := h
  rw [show c0 = [.int .i64 a.1] from h0, show c1 = [.int .i64 a.2] from h1]
  rfl
def ida (L : List (Int × Int)) (i : Nat) : Int × Int := L.getD i (0, 0)
theorem ida_eq {L : List (Int × Int)} {i : Nat} (h : i < L.length) : ida L i = L[i] := by unfold ida; rw [List.getD_eq_getElem?_getD, List.getElem?_eq_getElem h]; rfl
theorem ida_get {L : List (Int × Int)} {i : Nat} (h : i < L.length) : L[i]? = some (ida L i) := by rw [ida_eq h, List.getElem?_eq_getElem h]
theorem ids_at {w : World} {A : Option Addr} {n : Nat} {L : List (Int × Int)} (h : idK.C w A n L) {i : Nat} (hi : i < n) :
    ∃ b off, A = some ⟨b, off, none⟩ ∧ w.cell? ⟨b, off + i * 2, none⟩ = some (.int .i64 (ida L i).1) ∧ w.cell? ⟨b, off + i * 2 + 1, none⟩ = some (.int .i64 (ida L i).2) := by
  obtain ⟨b, off, c, hi', hA, hc, hk, hcell⟩ := C_at h (by decide) hi
  rw [← ida_eq hi'] at hk
  have hk := idK_K hk
  subst hk
  have hs : idK.sz = 2 := rfl
  rw [hs] at hcell
  exact ⟨b, off, hA, hcell 0 _ rfl, hcell 1 _ rfl⟩
theorem eqId (a b c d : Int) (w : World) : (binOp .eql 28 (.agg #[.int .i64 a, .int .i64 b]) (.agg #[.int .i64 c, .int .i64 d])).run Try.prog w = .ok (.bool (decide ((a, b) = (c, d)))) w := by
  go_simp
  by_cases h1 : a = c <;> by_cases h2 : b = d <;> simp [h1, h2]
theorem neqId (a b c d : Int) (w : World) : (binOp .neq 28 (.agg #[.int .i64 a, .int .i64 b]) (.agg #[.int .i64 c, .int .i64 d])).run Try.prog w = .ok (.bool (!decide ((a, b) = (c, d)))) w := by
  go_simp
  by_cases h1 : a = c <;> by_cases h2 : b = d <;> simp [h1, h2]

end Go.Proofs.Ytelfpnpplknlpaa
/- A drawing region, step by step: an operation that yields in every world that meets S is taken first; S is kept behind every operation but the last one, number s, which waits for all others. No program in sight. -/
namespace Go.Proofs.Ytelfpnpplknlpaa

/-- A predicate of the context, in a form that a walk takes for a fact. -/
def At (S : World → Prop) (w : World) : Prop := S w
theorem At.mk {S : World → Prop} {w : World} (h : S w) : At S w := h
theorem At.out {S : World → Prop} {w : World} (h : At S w) : S w := h

section
variable {P : Program} {ops : Array Oper} {Q : Exit → Act → World → Prop} {md : Region.Mode} {S : World → Prop} {s : Nat}

def wpAnyS (P : Program) (md : Region.Mode) (ops : Array Oper) (Q : Exit → Act → World → Prop) (s : Nat) (S : World → Prop) : Nat → Array Bool → Act → World → Prop
  | 0, listed, a, w => Region.ready md ops listed = [] ∧ Q .normal a w
  | fuel + 1, listed, a, w =>
    (Region.ready md ops listed = [] → Q .normal a w) ∧
    ∀ i ∈ Region.ready md ops listed, wpOp P ops Q i (fun a' w' => (i ≠ s → S w') ∧ wpAnyS P md ops Q s S fuel (listed.setIfInBounds i true) a' w') a w

theorem wpAny_of_S : ∀ (fuel : Nat) (listed : Array Bool) (a : Act) (w : World), wpAnyS P md ops Q s S fuel listed a w → wpAny P md ops Q fuel listed a w
  | 0, _, _, _, h => h
  | fuel + 1, _, _, _, h => ⟨h.1, fun i hi => wpOp_mono (fun a' w' h' => wpAny_of_S fuel _ a' w' h'.2) (h.2 i hi)⟩

theorem wpAnyS_mono {S' : World → Prop} (hSS : ∀ w, S' w → S w) :
    ∀ (fuel : Nat) (listed : Array Bool) (a : Act) (w : World), wpAnyS P md ops Q s S' fuel listed a w → wpAnyS P md ops Q s S fuel listed a w
  | 0, _, _, _, h => h
  | fuel + 1, _, _, _, h => ⟨h.1, fun i hi => wpOp_mono (fun a' w' h' => ⟨fun hn => hSS _ (h'.1 hn), wpAnyS_mono hSS fuel _ a' w' h'.2⟩) (h.2 i hi)⟩

/-- Number s waits for number i. -/
def waitsFor (md : Region.Mode) (ops : Array Oper) (s i : Nat) : Bool :=
  match ops[s]? with
  | some o => o.after.any fun e => Region.binds md e && e.on == i
  | none => true

theorem wpAnyS_first {i : Nat} {oi : Oper} {v : Value} (hi : ops[i]? = some oi) (hsel : ∀ (j : Nat) (o : Oper) cs b, ops[j]? = some o → o.op ≠ .select cs b)
    (hQ : ∀ c a w, Q (.panic c) (a.put oi.dst v) w → Q (.panic c) a w) (hwait : waitsFor md ops s i = true) :
    ∀ (fuel : Nat) (listed : Array Bool) (a : Act) (w : World),
      (∀ j oj, ops[j]? = some oj → j ≠ i → listed.getD j true = false → (∀ e ∈ oj.after, Region.binds md e = true → e.on ≠ i) → oi.apart ops oj = true) →
      i ∈ Region.ready md ops listed → YieldsIf P ops S oi v a → S w →
      wpAnyS P md ops Q s S fuel (listed.setIfInBounds i true) (a.put oi.dst v) w → wpAnyS P md ops Q s S (fuel + 1) listed a w := by
  intro fuel
  induction fuel with
  | zero =>
    intro listed a w _ hr hy hS H
    refine ⟨fun h => (by rw [h] at hr; cases hr), fun j hj => ?_⟩
    by_cases hji : j = i
    · subst hji; exact hy.wpOp hi hS ⟨fun _ => hS, H⟩
    · have := ready_mono hj hji
      rw [H.1] at this
      cases this
  | succ fuel ih =>
    intro listed a w hfree hr hy hS H
    refine ⟨fun h => (by rw [h] at hr; cases hr), fun j hj => ?_⟩
    by_cases hji : j = i
    · subst hji; exact hy.wpOp hi hS ⟨fun _ => hS, H⟩
    · have h1 := H.2 j (ready_mono hj hji)
      obtain ⟨hjun, oj, hoj, hall⟩ := mem_ready.1 hj
      have hnot : ∀ e ∈ oj.after, Region.binds md e = true → e.on ≠ i := fun e he hb heq => by
        have h1 := hall e he hb
        have h0 := (mem_ready.1 hr).1
        rw [heq] at h1
        rcases Nat.lt_or_ge i listed.size with h' | h'
        · simp [h'] at h0 h1; rw [h0] at h1; cases h1
        · simp [Array.getElem?_eq_none h'] at h1
      have hjs : j ≠ s := by
        rintro rfl
        unfold waitsFor at hwait
        rw [hoj] at hwait
        simp only [Array.any_eq_true, Bool.and_eq_true, beq_iff_eq] at hwait
        obtain ⟨n, hn, hb, he⟩ := hwait
        exact hnot _ (Array.getElem_mem hn) hb he
      have h2 := wpOp_putIf hoj (hfree j oj hoj hji hjun hnot) (fun cs b => hsel i oi cs b hi) (fun cs b => hsel j oj cs b hoj) hQ hy h1
      have hfree' : ∀ k ok, ops[k]? = some ok → k ≠ i → (listed.setIfInBounds j true).getD k true = false →
          (∀ e ∈ ok.after, Region.binds md e = true → e.on ≠ i) → oi.apart ops ok = true := fun k ok hk hki hun hno => by
        refine hfree k ok hk hki ?_ hno
        by_cases hjk : j = k
        · subst hjk; exact hjun
        · rw [getD_set_ne true hjk] at hun; exact hun
      refine wpOp_mono (fun a' w' h3 => ⟨h3.2.1, ih (listed.setIfInBounds j true) a' w' hfree' (ready_mono hr (Ne.symm hji)) h3.1 (h3.2.1 hjs) ?_⟩) h2
      rw [Array.setIfInBounds_comm _ _ hji]
      exact h3.2.2
end

section
variable {P : Program} {Q : Exit → Act → World → Prop} {md : Region.Mode} {S : World → Prop} {s : Nat}

theorem rs_start (s : Nat) (S : World → Prop) (n : Nat) {id : Nat} {l : List Oper} {a : Act} {w : World} (hm : P.follows .mixedOrders = true) (hn : l.length = n)
    (h : wpAnyS P .any l.toArray Q s S n (Array.replicate n false) a w.drew) : (Code.region id l.toArray true).wp P Q a w := by
  subst hn
  exact wp_region_any hm (wpAny_of_S _ _ _ _ h)

theorem rs_take (i : Nat) {l : List Oper} {oi : Oper} {v : Value} {fuel : Nat} {listed : Array Bool} {a : Act} {w : World} (hi : l[i]? = some oi)
    (hs : Region.noSelect l.toArray = true) (hf : Region.free md l.toArray listed i = true) (hr : (Region.ready md l.toArray listed).contains i = true) (hwait : waitsFor md l.toArray s i = true)
    (hQ : ∀ c a w, Q (.panic c) (a.put oi.dst v) w → Q (.panic c) a w) (hw : Region.wanted oi (yielded l.toArray a.tmps) = true) (hS : S w)
    (hy : ∀ w', S w' → (execOp a.eval oi).run P w' = .ok (.value v) w')
    (h : wpAnyS P md l.toArray Q s S fuel (listed.setIfInBounds i true) (a.put oi.dst v) w) : wpAnyS P md l.toArray Q s S (fuel + 1) listed a w :=
  wpAnyS_first (by rw [List.getElem?_toArray]; exact hi) (Region.noSelect_spec hs) hQ hwait fuel listed a w (Region.free_spec (by rw [List.getElem?_toArray]; exact hi) hf) (by simpa using hr) (.inl ⟨hw, hy⟩) hS h

theorem rs_skip (i : Nat) {l : List Oper} {oi : Oper} {fuel : Nat} {listed : Array Bool} {a : Act} {w : World} (hi : l[i]? = some oi)
    (hs : Region.noSelect l.toArray = true) (hf : Region.free md l.toArray listed i = true) (hr : (Region.ready md l.toArray listed).contains i = true) (hwait : waitsFor md l.toArray s i = true)
    (hQ : ∀ c a w, Q (.panic c) (a.put oi.dst undef) w → Q (.panic c) a w) (hw : Region.wanted oi (yielded l.toArray a.tmps) = false) (hS : S w)
    (h : wpAnyS P md l.toArray Q s S fuel (listed.setIfInBounds i true) (a.put oi.dst undef) w) : wpAnyS P md l.toArray Q s S (fuel + 1) listed a w :=
  wpAnyS_first (by rw [List.getElem?_toArray]; exact hi) (Region.noSelect_spec hs) hQ hwait fuel listed a w (Region.free_spec (by rw [List.getElem?_toArray]; exact hi) hf) (by simpa using hr) (.inr ⟨hw, rfl⟩) hS h

def AllNexts (P : Program) (md : Region.Mode) (l : List Oper) (Q : Exit → Act → World → Prop) (s : Nat) (S : World → Prop) (fuel : Nat) (listed : Array Bool) (a : Act) (w : World) (rs : List Nat) : Prop :=
  ∀ i ∈ rs, wpOp P l.toArray Q i (fun a' w' => ∃ S', (∀ x, S' x → S x) ∧ (i ≠ s → S' w') ∧ wpAnyS P md l.toArray Q s S' fuel (listed.setIfInBounds i true) a' w') a w

theorem AllNexts.nil {l : List Oper} {fuel : Nat} {listed : Array Bool} {a : Act} {w : World} : AllNexts P md l Q s S fuel listed a w [] := fun _ h => by cases h

theorem AllNexts.cons {l : List Oper} {fuel : Nat} {listed : Array Bool} {a : Act} {w : World} {i : Nat} {o : Oper} {rs : List Nat} (ho : l[i]? = some o)
    (h : ∀ K' : Act → World → Prop, Shut (∀ (S' : World → Prop) a w', (∀ x, S' x → S x) → (i ≠ s → S' w') → wpAnyS P md l.toArray Q s S' fuel (listed.setIfInBounds i true) a w' → K' a w') → if Region.wanted o (yielded l.toArray a.tmps) = true then Oper.wp P o a w K' Q else K' (a.put o.dst undef) w)
    (hs : AllNexts P md l Q s S fuel listed a w rs) : AllNexts P md l Q s S fuel listed a w (i :: rs) := fun j hj => by
  rcases List.mem_cons.1 hj with rfl | hj
  · exact wpOp_step (by rw [List.getElem?_toArray]; exact ho) (fun K' hK => h K' (fun S' a w h1 h2 hW => hK a w ⟨S', h1, h2, hW⟩))
  · exact hs j hj

theorem rs_ready (rs : List Nat) {l : List Oper} {fuel : Nat} {listed : Array Bool} {a : Act} {w : World} (hr : Region.ready md l.toArray listed = rs) (hne : rs ≠ [])
    (h : AllNexts P md l Q s S fuel listed a w rs) : wpAnyS P md l.toArray Q s S (fuel + 1) listed a w :=
  ⟨fun h0 => absurd (hr ▸ h0) hne, hr ▸ fun i hi => wpOp_mono (fun a' w' ⟨S', h1, h2, h3⟩ => ⟨fun hn => h1 _ (h2 hn), wpAnyS_mono h1 _ _ _ _ h3⟩) (h i hi)⟩

/-- One operation alone may come up. -/
theorem rs_one (i : Nat) {l : List Oper} {o : Oper} {fuel : Nat} {listed : Array Bool} {a : Act} {w : World} (ho : l[i]? = some o) (hr : Region.ready md l.toArray listed = [i])
    (h : ∀ K' : Act → World → Prop, Shut (∀ (S' : World → Prop) a w', (∀ x, S' x → S x) → (i ≠ s → S' w') → wpAnyS P md l.toArray Q s S' fuel (listed.setIfInBounds i true) a w' → K' a w') → if Region.wanted o (yielded l.toArray a.tmps) = true then Oper.wp P o a w K' Q else K' (a.put o.dst undef) w) :
    wpAnyS P md l.toArray Q s S (fuel + 1) listed a w :=
  rs_ready [i] hr (by simp) (AllNexts.cons ho h AllNexts.nil)

theorem rs_done {l : List Oper} {listed : Array Bool} {a : Act} {w : World} {fuel : Nat} (hr : Region.ready md l.toArray listed = []) (h : Q .normal a w) : wpAnyS P md l.toArray Q s S fuel listed a w :=
  match fuel with
  | 0 => ⟨hr, h⟩
  | _ + 1 => ⟨fun _ => h, by rw [hr]; simp⟩
end
end Go.Proofs.Ytelfpnpplknlpaa
