/- What is put is got: plain lists. -/
import Derived.Test.YtlpigldogglmcaaWireR
set_option linter.unusedVariables false
set_option linter.unusedSimpArgs false
namespace Go.Proofs.Ytlpigldogglmcaa
open Go.Proofs.YtlpigldogglmcaaW.PrintWords

theorem getR_digs (r : List Int) : ∀ (k m i n : Nat), m < 128 ^ (k + 1) → i ≤ 9 → m * 2 ^ (7 * i) < 18446744073709551616 → (i = 0 ∨ 0 < m) →
    getR (digs m ++ r) i n = (n + m * 2 ^ (7 * i), i + (digs m).length, 0) := by
  intro k
  induction k with
  | zero =>
    intro m i n hk hi hm h0
    have hs : m < 128 := by simpa using hk
    rw [digs_small hs]
    simp only [List.cons_append, List.nil_append, getR, List.length_singleton]
    rw [if_neg, if_neg (by omega), if_neg (by omega)]
    · simp only [Int.toNat_natCast, Nat.mod_eq_of_lt hs]
    · rintro ⟨rfl, h1⟩
      omega
  | succ k ih =>
    intro m i n hk hi hm h0
    rcases Nat.lt_or_ge m 128 with hs | hs
    · rw [digs_small hs]
      simp only [List.cons_append, List.nil_append, getR, List.length_singleton]
      rw [if_neg, if_neg (by omega), if_neg (by omega)]
      · simp only [Int.toNat_natCast, Nat.mod_eq_of_lt hs]
      · rintro ⟨rfl, h1⟩
        omega
    · have hi8 : i ≤ 8 := by
        rcases Nat.lt_or_ge i 9 with h | h
        · omega
        · obtain rfl : i = 9 := by omega
          omega
      rw [digs_big hs]
      simp only [List.cons_append, getR, List.length_cons]
      rw [if_neg (by omega), if_pos (by omega)]
      have e1 : 2 ^ (7 * (i + 1)) = 128 * 2 ^ (7 * i) := by rw [Nat.mul_add, Nat.pow_add, Nat.mul_comm]
      have e2 : m / 128 * 2 ^ (7 * (i + 1)) = (m / 128 * 128) * 2 ^ (7 * i) := by rw [e1, Nat.mul_assoc]
      have e3 : m * 2 ^ (7 * i) = (m / 128 * 128) * 2 ^ (7 * i) + (m % 128) * 2 ^ (7 * i) := by rw [← Nat.add_mul]; congr 1; omega
      rw [ih (m / 128) (i + 1) _ (by rw [Nat.div_lt_iff_lt_mul (by omega)]; rw [Nat.pow_succ] at hk; exact hk) (by omega) (by omega) (.inr (by omega))]
      rw [e2, e3]
      have e4 : (((m % 128 + 128 : Nat) : Int)).toNat % 128 = m % 128 := by omega
      rw [e4]
      simp only [Prod.mk.injEq, and_true]
      omega
theorem get_digs {m : Nat} (r : List Int) (h : m < 18446744073709551616) : getR (digs m ++ r) 0 0 = (m, (digs m).length, 0) := by
  have := getR_digs r 9 m 0 0 (by omega) (by omega) (by simpa using h) (.inl rfl)
  simpa using this
theorem bytes_str (s : ByteArray) : strOfNums (bytesOf s) = s := by
  obtain ⟨⟨l⟩⟩ := s
  simp only [strOfNums, bytesOf, List.map_map]
  congr 2
  have : ∀ l : List UInt8, l.map ((fun n : Int => UInt8.ofNat n.toNat) ∘ fun b : UInt8 => (b.toNat : Int)) = l := by
    intro l
    induction l with
    | nil => rfl
    | cons x r ih => simp only [List.map_cons, ih, Function.comp]; simp
  exact this l
theorem bytes_byt (s : ByteArray) : Byt (bytesOf s) := by
  intro x hx
  simp only [bytesOf, List.mem_map] at hx
  obtain ⟨b, _, rfl⟩ := hx
  have := b.toNat_lt
  omega
theorem digs_byt (k : Nat) : ∀ m, m < 128 ^ (k + 1) → Byt (digs m) := by
  induction k with
  | zero => intro m h x hx; rw [digs_small (by simpa using h)] at hx; simp at hx; simp at h; omega
  | succ k ih =>
    intro m h
    rcases Nat.lt_or_ge m 128 with hs | hs
    · intro x hx; rw [digs_small hs] at hx; simp at hx; omega
    · intro x hx
      rw [digs_big hs, List.mem_cons] at hx
      rcases hx with rfl | hx
      · omega
      · exact ih (m / 128) (by rw [Nat.div_lt_iff_lt_mul (by omega)]; rw [Nat.pow_succ] at h; exact h) x hx
theorem digs_byt10 {m : Nat} (h : m < 18446744073709551616) : Byt (digs m) := digs_byt 9 m (by omega)
theorem Byt.append {a b : List Int} (ha : Byt a) (hb : Byt b) : Byt (a ++ b) := fun x hx => by
  rcases List.mem_append.1 hx with h | h
  · exact ha x h
  · exact hb x h
theorem text_digs (s : ByteArray) (r : List Int) (most : Int) (h : (s.size : Int) ≤ most) (hm : s.size < 18446744073709551616) :
    textR (digs s.size ++ bytesOf s ++ r) most = (bytesOf s, (digs s.size).length + s.size, 0) := by
  have hg : getR (digs s.size ++ bytesOf s ++ r) 0 0 = (s.size, (digs s.size).length, 0) := by
    rw [List.append_assoc]
    exact get_digs _ hm
  have hb := bytesOf_length s
  unfold textR
  rw [hg]
  simp only
  rw [if_neg (by simp), if_neg (by omega), if_neg (by simp only [List.length_append]; omega)]
  congr 1
  rw [List.take_append_of_le_length (by simp only [List.length_append]; omega), List.take_of_length_le (by simp only [List.length_append]; omega), List.drop_left]
theorem beTo_len (m : Nat) : ∀ k, (beTo m k).length = k
  | 0 => rfl
  | k + 1 => by rw [beTo, List.length_cons, beTo_len m k]
theorem beTo_byt (m : Nat) : ∀ k, Byt (beTo m k)
  | 0 => fun x hx => by cases hx
  | k + 1 => fun x hx => by
    rw [beTo, List.mem_cons] at hx
    rcases hx with rfl | hx
    · omega
    · exact beTo_byt m k x hx
theorem beVal_cons (c : Int) (l : List Int) : beVal (c :: l) = c.toNat * 256 ^ l.length + beVal l := by
  have key : ∀ (l : List Int) (n : Nat), l.foldl (fun n c => n * 256 + c.toNat) n = n * 256 ^ l.length + l.foldl (fun n c => n * 256 + c.toNat) 0 := by
    intro l
    induction l with
    | nil => intro n; simp
    | cons d l ih =>
      intro n
      rw [List.foldl_cons, List.foldl_cons, ih, ih (0 * 256 + d.toNat), List.length_cons, Nat.pow_succ]
      rw [Nat.add_mul, Nat.zero_mul, Nat.zero_add, Nat.mul_assoc, Nat.mul_comm 256]
      omega
  unfold beVal
  rw [List.foldl_cons, key, Nat.zero_mul, Nat.zero_add]
theorem beVal_beTo (m : Nat) : ∀ k, beVal (beTo m k) = m % 256 ^ k
  | 0 => by simp [beTo, beVal, Nat.mod_one]
  | k + 1 => by
    rw [beTo, beVal_cons, beVal_beTo m k, beTo_len, Int.toNat_natCast, Nat.pow_succ, Nat.mod_mul, Nat.add_comm, Nat.mul_comm]
theorem beVal_be8 {m : Nat} (h : m < 18446744073709551616) : beVal (be8 m) = m := by
  unfold be8
  rw [beVal_beTo]
  exact Nat.mod_eq_of_lt (by omega)
end Go.Proofs.Ytlpigldogglmcaa
