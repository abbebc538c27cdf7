/- Orders and their numbers: plain lists of whole numbers. No program in sight. -/
import Derived.Test.YtjaajfpnpijacaaBase
set_option linter.unusedVariables false
set_option linter.unusedSimpArgs false
namespace Go.Proofs.Ytjaajfpnpijacaa

def facR : Nat → Nat
  | 0 => 1
  | n + 1 => (n + 1) * facR n
theorem facR_pos : ∀ n, 0 < facR n
  | 0 => by decide
  | n + 1 => Nat.mul_pos (Nat.succ_pos n) (facR_pos n)
theorem facR_mono {a b : Nat} (h : a ≤ b) : facR a ≤ facR b := by
  induction h with
  | refl => exact Nat.le_refl _
  | step h ih => exact Nat.le_trans ih (by rw [facR]; exact Nat.le_mul_of_pos_left _ (Nat.succ_pos _))
theorem facR_20 {n : Nat} (h : n ≤ 20) : facR n ≤ 2432902008176640000 := Nat.le_trans (facR_mono h) (by decide)
/-- How many of a list are less. -/
def lessIn (x : Int) (l : List Int) : Nat := (l.filter fun y => decide (y < x)).length
theorem lessIn_le (x : Int) (l : List Int) : lessIn x l ≤ l.length := List.length_filter_le _ _
theorem lessIn_perm {x : Int} {l l' : List Int} (h : l.Perm l') : lessIn x l = lessIn x l' := (h.filter _).length_eq
theorem lessIn_append (x : Int) (l l' : List Int) : lessIn x (l ++ l') = lessIn x l + lessIn x l' := by simp [lessIn]
theorem lessIn_one (x y : Int) : lessIn x [y] = if y < x then 1 else 0 := by
  unfold lessIn
  by_cases h : y < x <;> simp [List.filter_cons, h]
theorem lessIn_cons (x y : Int) (l : List Int) : lessIn x (y :: l) = (if y < x then 1 else 0) + lessIn x l := by
  rw [← lessIn_one]
  exact lessIn_append x [y] l
def rankR : List Int → Nat
  | [] => 0
  | x :: l => lessIn x l * facR l.length + rankR l
theorem rankR_lt : ∀ l, rankR l < facR l.length
  | [] => by decide
  | x :: l => by
    have h := rankR_lt l
    have h2 := Nat.mul_le_mul_right (facR l.length) (lessIn_le x l)
    rw [rankR, List.length_cons, facR, Nat.add_mul, Nat.one_mul]
    omega
/-- Horner's way. -/
def horR (k : Nat) : List Int → Nat
  | [] => k
  | x :: l => horR (k * (l.length + 1) + lessIn x l) l
theorem horR_eq : ∀ (l : List Int) (k : Nat), horR k l = k * facR l.length + rankR l
  | [], k => by simp [horR, rankR, facR]
  | x :: l, k => by
    rw [horR, horR_eq l, rankR, List.length_cons, facR, Nat.add_mul, Nat.mul_assoc]
    omega
theorem horR_bound {l : List Int} {k : Nat} (h : horR k l < 18446744073709551616) : k < 18446744073709551616 := by
  rw [horR_eq] at h
  have := Nat.le_mul_of_pos_right k (facR_pos l.length)
  omega
/-- The order of number k of what is left. -/
def unrL : (n : Nat) → List Int → Nat → List Int
  | 0, _, _ => []
  | n + 1, left, k => left.getD ((k / facR n) % (n + 1)) 0 :: unrL n (left.eraseIdx ((k / facR n) % (n + 1))) k
theorem unrL_len : ∀ n left k, (unrL n left k).length = n
  | 0, _, _ => rfl
  | n + 1, left, k => by rw [unrL, List.length_cons, unrL_len n]
theorem perm_eraseIdx : ∀ (l : List Int) (i : Nat) (h : i < l.length), l.Perm (l[i] :: l.eraseIdx i)
  | x :: l, 0, _ => List.Perm.refl _
  | x :: l, i + 1, h => by
    have := perm_eraseIdx l i (by simpa using h)
    exact (List.Perm.cons x this).trans (List.Perm.swap _ _ _)
theorem unrL_perm : ∀ n left k, left.length = n → (unrL n left k).Perm left
  | 0, left, k, h => by rw [List.eq_nil_of_length_eq_zero h]; exact List.Perm.refl _
  | n + 1, left, k, h => by
    have hd : (k / facR n) % (n + 1) < left.length := by rw [h]; exact Nat.mod_lt _ (Nat.succ_pos n)
    rw [unrL, List.getD_eq_getElem?_getD, List.getElem?_eq_getElem hd, Option.getD_some]
    exact (List.Perm.cons _ (unrL_perm n _ k (by rw [List.length_eraseIdx, if_pos hd]; omega))).trans (perm_eraseIdx left _ hd).symm
theorem lessIn_at : ∀ (l : List Int) (i : Nat) (h : i < l.length), l.Pairwise (· < ·) → lessIn l[i] (l.eraseIdx i) = i
  | x :: l, 0, _, hp => by
    have h1 := (List.pairwise_cons.1 hp).1
    simp only [List.getElem_cons_zero, List.eraseIdx_cons_zero]
    unfold lessIn
    rw [List.length_eq_zero_iff, List.filter_eq_nil_iff]
    intro y hy
    have := h1 y hy
    simp
    omega
  | x :: l, i + 1, h, hp => by
    have hp' := List.pairwise_cons.1 hp
    have hi : i < l.length := by simpa using h
    have h1 := hp'.1 l[i] (List.getElem_mem hi)
    have h2 := lessIn_at l i hi hp'.2
    simp only [List.getElem_cons_succ, List.eraseIdx_cons_succ]
    rw [lessIn_cons, if_pos h1, h2]
    omega
theorem rank_unr : ∀ n left k, left.length = n → left.Pairwise (· < ·) → rankR (unrL n left k) = k % facR n
  | 0, left, k, h, _ => by simp [unrL, rankR, facR, Nat.mod_one]
  | n + 1, left, k, h, hp => by
    have hd : (k / facR n) % (n + 1) < left.length := by rw [h]; exact Nat.mod_lt _ (Nat.succ_pos n)
    have hl : (left.eraseIdx ((k / facR n) % (n + 1))).length = n := by rw [List.length_eraseIdx, if_pos hd]; omega
    have ih := rank_unr n _ k hl (hp.sublist (List.eraseIdx_sublist _ _))
    have hpm := unrL_perm n _ k hl
    rw [unrL, List.getD_eq_getElem?_getD, List.getElem?_eq_getElem hd, Option.getD_some, rankR, lessIn_perm hpm, lessIn_at left _ hd hp, unrL_len, ih, facR, Nat.mul_comm (n + 1) (facR n), Nat.mod_mul]
    rw [Nat.mul_comm]
    omega
theorem perm_of_sub : ∀ (p left : List Int), p.Nodup → (∀ x ∈ p, x ∈ left) → p.length = left.length → p.Perm left
  | [], left, _, _, h => by rw [List.eq_nil_of_length_eq_zero h.symm]
  | x :: l, left, hn, hs, hl => by
    have hx := hs x (List.mem_cons_self)
    have hn' := List.nodup_cons.1 hn
    have h1 := List.perm_cons_erase hx
    have h2 : l.Perm (left.erase x) := perm_of_sub l _ hn'.2 (fun y hy => (List.mem_erase_of_ne (fun e => hn'.1 (by rw [← e]; exact hy))).2 (hs y (List.mem_cons_of_mem _ hy))) (by
      have := h1.length_eq
      simp only [List.length_cons] at this hl
      omega)
    exact (List.Perm.cons x h2).trans h1.symm
theorem unr_rank : ∀ (p : List Int) (left : List Int) (K : Nat), p.Perm left → left.Pairwise (· < ·) → K % facR p.length = rankR p → unrL p.length left K = p
  | [], left, K, _, _, _ => rfl
  | x :: l, left, K, hpm, hp, hK => by
    have hx : x ∈ left := hpm.mem_iff.1 List.mem_cons_self
    obtain ⟨i, hi, hxi⟩ := List.mem_iff_getElem.1 hx
    have h1 := perm_eraseIdx left i hi
    rw [hxi] at h1
    have hlp : l.Perm (left.eraseIdx i) := (List.Perm.cons_inv (hpm.trans h1))
    have hli : lessIn x l = i := by rw [lessIn_perm hlp, ← hxi]; exact lessIn_at left i hi hp
    have hlt := rankR_lt l
    rw [List.length_cons, facR, rankR, hli, Nat.mul_comm (l.length + 1), Nat.mod_mul] at hK
    have hq : (K / facR l.length) % (l.length + 1) = i := by
      have a1 : K % facR l.length < facR l.length := Nat.mod_lt _ (facR_pos _)
      generalize (K / facR l.length) % (l.length + 1) = q at hK
      generalize facR l.length = F at *
      generalize K % F = r at *
      have h3 : (r + F * q) / F = q := by
        rw [Nat.add_mul_div_left _ _ (by omega), Nat.div_eq_of_lt a1, Nat.zero_add]
      have h4 : (i * F + rankR l) / F = i := by
        rw [Nat.add_comm, Nat.add_mul_div_right _ _ (by omega), Nat.div_eq_of_lt hlt, Nat.zero_add]
      rw [← h3, hK, h4]
    have hr : K % facR l.length = rankR l := by
      rw [hq, Nat.mul_comm i] at hK
      omega
    rw [List.length_cons, unrL, hq, unr_rank l (left.eraseIdx i) K hlp (hp.sublist (List.eraseIdx_sublist _ _)) hr]
    rw [List.getD_eq_getElem?_getD, List.getElem?_eq_getElem hi, Option.getD_some, hxi]
/-- 0, 1, .., n - 1. -/
def upto (n : Nat) : List Int := (List.range n).map fun (i : Nat) => (i : Int)
theorem upto_len (n : Nat) : (upto n).length = n := by simp [upto]
theorem upto_pair (n : Nat) : (upto n).Pairwise (· < ·) := by
  unfold upto
  rw [List.pairwise_map]
  exact List.pairwise_lt_range.imp (fun h => by omega)
theorem mem_upto {n : Nat} {x : Int} : x ∈ upto n ↔ 0 ≤ x ∧ x < n := by
  simp only [upto, List.mem_map, List.mem_range]
  constructor
  · rintro ⟨i, h, rfl⟩; omega
  · intro h; exact ⟨x.toNat, by omega, by omega⟩
/-- A list is an order. -/
def RightR (p : List Int) : Prop := p.Nodup ∧ ∀ x ∈ p, 0 ≤ x ∧ x < p.length
theorem right_perm {p : List Int} (h : RightR p) : p.Perm (upto p.length) := perm_of_sub p _ h.1 (fun x hx => mem_upto.2 (h.2 x hx)) (by rw [upto_len])
theorem perm_right {p : List Int} {n : Nat} (h : p.Perm (upto n)) : RightR p := by
  have hl : p.length = n := by rw [h.length_eq, upto_len]
  refine ⟨h.nodup_iff.2 ((upto_pair n).imp (fun h => by omega)), fun x hx => ?_⟩
  rw [hl]
  exact mem_upto.1 (h.mem_iff.1 hx)
theorem rank_back {p : List Int} (h : RightR p) : unrL p.length (upto p.length) (rankR p) = p := unr_rank p _ _ (right_perm h) (upto_pair _) (Nat.mod_eq_of_lt (rankR_lt p))
theorem unr_right (n k : Nat) : RightR (unrL n (upto n) k) := perm_right (unrL_perm n _ k (upto_len n))
theorem unr_number (n k : Nat) (hk : k < facR n) : rankR (unrL n (upto n) k) = k := by rw [rank_unr n _ k (upto_len n) (upto_pair n), Nat.mod_eq_of_lt hk]
/-- Two places swapped. -/
def swapR (p : List Int) (i k : Nat) : List Int := (p.set i (p.getD k 0)).set k (p.getD i 0)
theorem swapR_len (p : List Int) (i k : Nat) : (swapR p i k).length = p.length := by simp [swapR]
theorem swapR_get (p : List Int) (i k : Nat) (hi : i < p.length) (hk : k < p.length) (j : Nat) : (swapR p i k)[j]? = if j = k then p[i]? else if j = i then p[k]? else p[j]? := by
  unfold swapR
  rw [List.getElem?_set, List.getElem?_set]
  simp only [List.length_set]
  by_cases h1 : k = j
  · subst h1
    simp [hk, List.getD_eq_getElem?_getD, List.getElem?_eq_getElem hi]
  · have h1' : ¬ j = k := fun h => h1 h.symm
    by_cases h2 : i = j
    · subst h2
      simp [h1, h1', hi, List.getD_eq_getElem?_getD, List.getElem?_eq_getElem hk]
    · have h2' : ¬ j = i := fun h => h2 h.symm
      simp [h1, h1', h2, h2']
theorem right_iff (p : List Int) : RightR p ↔ (∀ i j : Nat, i < p.length → p[i]? = p[j]? → i = j) ∧ ∀ x ∈ p, 0 ≤ x ∧ x < p.length := by
  unfold RightR
  refine and_congr_left fun _ => ?_
  constructor
  · intro h i j hi he
    have hj : j < p.length := by
      rcases Nat.lt_or_ge j p.length with h | h
      · exact h
      · rw [List.getElem?_eq_getElem hi, List.getElem?_eq_none h] at he; cases he
    rw [List.getElem?_eq_getElem hi, List.getElem?_eq_getElem hj] at he
    injection he with he
    have hp := List.pairwise_iff_getElem.1 h
    rcases Nat.lt_trichotomy i j with hlt | heq | hlt
    · exact absurd he (hp i j hi hj hlt)
    · exact heq
    · exact absurd he.symm (hp j i hj hi hlt)
  · intro h
    rw [List.Nodup, List.pairwise_iff_getElem]
    intro i j hi hj hij he
    have := h i j hi (by rw [List.getElem?_eq_getElem hi, List.getElem?_eq_getElem hj, he])
    omega
theorem swapR_right {p : List Int} (h : RightR p) {i k : Nat} (hi : i < p.length) (hk : k < p.length) : RightR (swapR p i k) := by
  rw [right_iff] at h ⊢
  refine ⟨fun a b ha he => ?_, fun x hx => ?_⟩
  · rw [swapR_len] at ha
    rw [swapR_get p i k hi hk, swapR_get p i k hi hk] at he
    split at he <;> split at he <;> (try split at he) <;> (try split at he)
    all_goals first
      | (have := h.1 _ _ hi he; omega)
      | (have := h.1 _ _ hk he; omega)
      | (have := h.1 _ _ ha he; omega)
      | omega
  · obtain ⟨j, hj⟩ := List.getElem?_of_mem hx
    rw [swapR_get p i k hi hk] at hj
    rw [swapR_len]
    split at hj
    · exact h.2 x (List.mem_of_getElem? hj)
    · split at hj
      · exact h.2 x (List.mem_of_getElem? hj)
      · exact h.2 x (List.mem_of_getElem? hj)
theorem upto_right (n : Nat) : RightR (upto n) := perm_right (List.Perm.refl _)
end Go.Proofs.Ytjaajfpnpijacaa
