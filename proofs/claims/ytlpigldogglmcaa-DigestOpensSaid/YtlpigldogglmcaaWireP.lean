/- The bytes of numbers: plain lists. -/
import Derived.Test.YtlpigldogglmcaaBase
import Derived.Test.YtlpigldogglmcaaWWords
set_option linter.unusedVariables false
set_option linter.unusedSimpArgs false
namespace Go.Proofs.Ytlpigldogglmcaa

/-- A number's bytes, seven bits each, the low ones first. -/
def digs (m : Nat) : List Int := if m < 128 then [(m : Int)] else ((m % 128 + 128 : Nat) : Int) :: digs (m / 128)
termination_by m
decreasing_by omega
theorem digs_small {m : Nat} (h : m < 128) : digs m = [(m : Int)] := by rw [digs, if_pos h]
theorem digs_big {m : Nat} (h : 128 ≤ m) : digs m = ((m % 128 + 128 : Nat) : Int) :: digs (m / 128) := by rw [digs, if_neg (by omega)]
theorem digs_len (k : Nat) : ∀ m, m < 128 ^ (k + 1) → (digs m).length ≤ k + 1 := by
  induction k with
  | zero => intro m h; rw [digs_small (by simpa using h)]; simp
  | succ k ih =>
    intro m h
    rcases Nat.lt_or_ge m 128 with h1 | h1
    · rw [digs_small h1]; simp
    · rw [digs_big h1, List.length_cons]
      have := ih (m / 128) (by rw [Nat.div_lt_iff_lt_mul (by omega)]; rw [Nat.pow_succ] at h; exact h)
      omega
theorem digs_len10 {m : Nat} (h : m < 18446744073709551616) : (digs m).length ≤ 10 := digs_len 9 m (by omega)
theorem digs_pos (m : Nat) : 0 < (digs m).length := by
  rcases Nat.lt_or_ge m 128 with h | h
  · rw [digs_small h]; simp
  · rw [digs_big h]; simp

/-- What bytes begin with: number, bytes taken, error; the i-th byte stands next, n is what was read. -/
def getR : List Int → Nat → Nat → Nat × Nat × Int
  | [], _, _ => (0, 0, 4)
  | c :: r, i, n =>
    if i = 9 ∧ 1 < c then (0, 0, 3)
    else if 128 ≤ c then getR r (i + 1) (n + (c.toNat % 128) * 2 ^ (7 * i))
    else if c = 0 ∧ 0 < i then (0, 0, 3)
    else (n + (c.toNat % 128) * 2 ^ (7 * i), i + 1, 0)
theorem drop_rd {xs : List Int} {k : Nat} (h : k < xs.length) : xs.drop k = Go.Proofs.YtlpigldogglmcaaW.PrintWords.rd xs k :: xs.drop (k + 1) := by
  rw [List.drop_eq_getElem_cons h]
  simp [Go.Proofs.YtlpigldogglmcaaW.PrintWords.rd, List.getD_eq_getElem?_getD, List.getElem?_eq_getElem h]
theorem rd_mem {xs : List Int} {k : Nat} (h : k < xs.length) : Go.Proofs.YtlpigldogglmcaaW.PrintWords.rd xs k ∈ xs := by
  simp [Go.Proofs.YtlpigldogglmcaaW.PrintWords.rd, List.getD_eq_getElem?_getD, List.getElem?_eq_getElem h]
theorem step_lt0 {n c i : Nat} (hn : n < 2 ^ (7 * i)) (hc : c < 128) : n + c * 2 ^ (7 * i) < 2 ^ (7 * (i + 1)) := by
  have h1 : c * 2 ^ (7 * i) ≤ 127 * 2 ^ (7 * i) := Nat.mul_le_mul_right _ (by omega)
  have h2 : 2 ^ (7 * (i + 1)) = 128 * 2 ^ (7 * i) := by rw [Nat.mul_add, Nat.pow_add, Nat.mul_comm]
  omega
theorem getR_ok : ∀ (l : List Int) (i n m k : Nat), getR l i n = (m, k, 0) → i < k ∧ k ≤ i + l.length
  | [], i, n, m, k, h => by simp [getR] at h
  | c :: r, i, n, m, k, h => by
    simp only [getR] at h
    split at h
    · simp at h
    · split at h
      · have := getR_ok r _ _ _ _ h
        simp only [List.length_cons]
        omega
      · split at h
        · simp at h
        · simp only [Prod.mk.injEq] at h
          simp only [List.length_cons]
          omega
theorem getR_err : ∀ (l : List Int) (i n : Nat), (getR l i n).2.2 ≠ 0 → (getR l i n).1 = 0 ∧ (getR l i n).2.1 = 0
  | [], i, n, h => by simp [getR]
  | c :: r, i, n, h => by
    simp only [getR] at h ⊢
    split
    · simp
    · rename_i h1
      rw [if_neg h1] at h
      split
      · rename_i h2
        rw [if_pos h2] at h
        exact getR_err r _ _ h
      · rename_i h2
        rw [if_neg h2] at h
        split
        · simp
        · rename_i h3
          rw [if_neg h3] at h
          exact absurd rfl h
theorem getR_lt : ∀ (l : List Int) (i n : Nat), i ≤ 9 → n < 2 ^ (7 * i) → (∀ x ∈ l, 0 ≤ x ∧ x ≤ 255) → (getR l i n).1 < 18446744073709551616
  | [], i, n, _, _, _ => by simp [getR]
  | c :: r, i, n, hi, hn, hb => by
    obtain ⟨h0, h1⟩ := hb c (List.mem_cons_self)
    simp only [getR]
    split
    · simp
    · rename_i h2
      have hlt : n + c.toNat % 128 * 2 ^ (7 * i) < 18446744073709551616 := by
        rcases Nat.lt_or_ge i 9 with h9 | h9
        · have h1 := step_lt0 hn (c := c.toNat % 128) (by omega)
          have h2 : 2 ^ (7 * (i + 1)) ≤ 2 ^ 63 := Nat.pow_le_pow_right (by omega) (by omega)
          omega
        · obtain rfl : i = 9 := by omega
          have h1 : c.toNat % 128 * 2 ^ (7 * 9) ≤ 1 * 2 ^ (7 * 9) := Nat.mul_le_mul_right _ (by omega)
          omega
      split
      · rename_i h3
        exact getR_lt r _ _ (by omega) (step_lt0 hn (by omega)) (fun x hx => hb x (List.mem_cons_of_mem _ hx))
      · split
        · simp
        · exact hlt
/-- One more seven bits: no carry. -/
theorem step_lt {n c i : Nat} (hn : n < 2 ^ (7 * i)) (hc : c < 128) : n + c * 2 ^ (7 * i) < 2 ^ (7 * (i + 1)) := by
  have h1 : c * 2 ^ (7 * i) ≤ 127 * 2 ^ (7 * i) := Nat.mul_le_mul_right _ (by omega)
  have h2 : 2 ^ (7 * (i + 1)) = 128 * 2 ^ (7 * i) := by rw [Nat.mul_add, Nat.pow_add, Nat.mul_comm]
  omega
theorem step_or {n c i : Nat} (hn : n < 2 ^ (7 * i)) : n ||| (c * 2 ^ (7 * i)) = n + c * 2 ^ (7 * i) := by
  rw [Nat.mul_comm, Nat.or_comm, Nat.add_comm, ← Nat.two_pow_add_eq_or_of_lt hn]

/-- The number of bytes, the high ones first. -/
def beVal (l : List Int) : Nat := l.foldl (fun n c => n * 256 + c.toNat) 0
theorem beVal_snoc (l : List Int) (c : Int) : beVal (l ++ [c]) = beVal l * 256 + c.toNat := by simp [beVal]
theorem beVal_lt : ∀ (l : List Int), (∀ x ∈ l, 0 ≤ x ∧ x ≤ 255) → beVal l < 256 ^ l.length := by
  have key : ∀ (l : List Int) (n k : Nat), n < 256 ^ k → (∀ x ∈ l, 0 ≤ x ∧ x ≤ 255) → l.foldl (fun n c => n * 256 + c.toNat) n < 256 ^ (k + l.length) := by
    intro l
    induction l with
    | nil => intro n k h _; simpa using h
    | cons c l ih =>
      intro n k h hb
      obtain ⟨h0, h1⟩ := hb c List.mem_cons_self
      have := ih (n * 256 + c.toNat) (k + 1) (by rw [Nat.pow_succ]; omega) (fun x hx => hb x (List.mem_cons_of_mem _ hx))
      simpa [Nat.add_assoc, Nat.add_comm 1] using this
  intro l hb
  have := key l 0 0 (by simp) hb
  simpa [beVal] using this
theorem take_rd {xs : List Int} {k : Nat} (h : k < xs.length) : xs.take (k + 1) = xs.take k ++ [Go.Proofs.YtlpigldogglmcaaW.PrintWords.rd xs k] := by
  rw [List.take_succ_eq_append_getElem h]
  simp [Go.Proofs.YtlpigldogglmcaaW.PrintWords.rd, List.getD_eq_getElem?_getD, List.getElem?_eq_getElem h]
/-- The text that bytes begin with. -/
def textR (xs : List Int) (most : Int) : List Int × Nat × Int :=
  if (getR xs 0 0).2.2 ≠ 0 then ([], 0, (getR xs 0 0).2.2)
  else if most < 0 ∨ most < (getR xs 0 0).1 then ([], 0, 18)
  else if xs.length - (getR xs 0 0).2.1 < (getR xs 0 0).1 then ([], 0, 4)
  else ((xs.take ((getR xs 0 0).2.1 + (getR xs 0 0).1)).drop (getR xs 0 0).2.1, (getR xs 0 0).2.1 + (getR xs 0 0).1, 0)
end Go.Proofs.Ytlpigldogglmcaa
