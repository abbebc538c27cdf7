/- Digests, plain: one byte changed changes the digest; what was sealed and changed in one byte is not opened. No program in sight. -/
import Derived.Test.YtlpigldogglmcaaDigW
import Derived.Test.YtlpigldogglmcaaWireL
set_option linter.unusedVariables false
set_option linter.unusedSimpArgs false
namespace Go.Proofs.Ytlpigldogglmcaa
open Go.RowKit
open Go.Proofs.YtlpigldogglmcaaW.PrintWords

theorem xor_back (a x : Nat) : (a ^^^ x) ^^^ x = a := by rw [Nat.xor_assoc, Nat.xor_self, Nat.xor_zero]
theorem mulP_inj {a b : Nat} (ha : a < 18446744073709551616) (hb : b < 18446744073709551616) (h : a * 1099511628211 % 18446744073709551616 = b * 1099511628211 % 18446744073709551616) : a = b := by
  have key : ∀ a : Nat, a < 18446744073709551616 → (a * 1099511628211 % 18446744073709551616) * 14886173955864302971 % 18446744073709551616 = a := by
    intro a ha
    rw [Nat.mod_mul_mod, Nat.mul_assoc, show 1099511628211 * 14886173955864302971 = 18446744073709551616 * 887285111055 + 1 from by decide, Nat.mul_add, Nat.mul_one, ← Nat.mul_assoc, Nat.mul_comm a 18446744073709551616, Nat.mul_assoc, Nat.mul_add_mod, Nat.mod_eq_of_lt ha]
  rw [← key a ha, ← key b hb, h]
theorem fnv1_inj_h {h h' x : Nat} (hh : h < 18446744073709551616) (hh' : h' < 18446744073709551616) (hx : x < 256) (e : fnv1 h x = fnv1 h' x) : h = h' := by
  have := mulP_inj (Nat.xor_lt_two_pow (n := 64) (by omega) (by omega)) (Nat.xor_lt_two_pow (n := 64) (by omega) (by omega)) e
  rw [← xor_back h x, ← xor_back h' x, this]
theorem fnv1_inj_x {h x x' : Nat} (hh : h < 18446744073709551616) (hx : x < 256) (hx' : x' < 256) (e : fnv1 h x = fnv1 h x') : x = x' := by
  have := mulP_inj (Nat.xor_lt_two_pow (n := 64) (by omega) (by omega)) (Nat.xor_lt_two_pow (n := 64) (by omega) (by omega)) e
  rw [← xor_back x h, ← xor_back x' h, Nat.xor_comm x h, Nat.xor_comm x' h, this]
theorem fnv_inj_h : ∀ (xs : List Int) (h h' : Nat), h < 18446744073709551616 → h' < 18446744073709551616 → Byt xs → fnv h xs = fnv h' xs → h = h'
  | [], h, h', _, _, _, e => e
  | x :: xs, h, h', hh, hh', hb, e => by
    have h1 := hb x (List.mem_cons_self ..)
    exact fnv1_inj_h hh hh' (by omega) (fnv_inj_h xs _ _ (fnv1_lt _ _) (fnv1_lt _ _) (fun y hy => hb y (List.mem_cons_of_mem _ hy)) e)
theorem fnv_set_ne : ∀ (xs : List Int) (k : Nat) (y : Int) (h : Nat), h < 18446744073709551616 → Byt xs → 0 ≤ y → y ≤ 255 → k < xs.length → xs.getD k 0 ≠ y → fnv h (xs.set k y) ≠ fnv h xs
  | [], k, y, h, _, _, _, _, hk, _ => by simp at hk
  | x :: xs, 0, y, h, hh, hb, h0, h1, _, hne => by
    intro e
    have hx := hb x (List.mem_cons_self ..)
    have e1 := fnv_inj_h xs _ _ (fnv1_lt _ _) (fnv1_lt _ _) (fun y hy => hb y (List.mem_cons_of_mem _ hy)) e
    have e2 := fnv1_inj_x hh (by omega) (by omega) e1
    simp at hne
    omega
  | x :: xs, k + 1, y, h, hh, hb, h0, h1, hk, hne => by
    intro e
    simp at hk hne
    exact fnv_set_ne xs k y _ (fnv1_lt _ _) (fun y hy => hb y (List.mem_cons_of_mem _ hy)) h0 h1 hk (by simpa using hne) e

/-- Sealed, and one byte changed: not opened. -/
theorem seal_changed {xs : List Int} (hx : Byt xs) (k : Nat) (y : Int) (h0 : 0 ≤ y) (h1 : y ≤ 255) (hk : k < (xs ++ be8 (dOf xs)).length) (hne : (xs ++ be8 (dOf xs)).getD k 0 ≠ y) :
    dOf (((xs ++ be8 (dOf xs)).set k y).take xs.length) ≠ beVal (((xs ++ be8 (dOf xs)).set k y).drop xs.length) := by
  rcases Nat.lt_or_ge k xs.length with hlt | hge
  · rw [List.set_append_left _ _ hlt, List.take_left' (by simp), List.drop_left' (by simp), beVal_be8 (dOf_lt xs)]
    refine fnv_set_ne xs k y _ (by omega) hx h0 h1 hlt ?_
    rw [List.getD_eq_getElem?_getD, List.getElem?_append_left hlt, ← List.getD_eq_getElem?_getD] at hne
    exact hne
  · rw [List.set_append_right _ _ hge, List.take_left' rfl, List.drop_left' rfl]
    intro e
    rw [List.getD_eq_getElem?_getD, List.getElem?_append_right hge, ← List.getD_eq_getElem?_getD] at hne
    have hl : k - xs.length < 8 := by rw [List.length_append, show (be8 (dOf xs)).length = 8 from rfl] at hk; omega
    have hb : Byt ((be8 (dOf xs)).set (k - xs.length) y) := by
      intro z hz
      rcases List.mem_or_eq_of_mem_set hz with h | h
      · exact beTo_byt _ 8 z h
      · subst h; exact ⟨h0, h1⟩
    have h2 := be8_val (l := (be8 (dOf xs)).set (k - xs.length) y) (by simp; rfl) hb
    rw [← e] at h2
    have h3 : ((be8 (dOf xs)).set (k - xs.length) y).getD (k - xs.length) 0 = y := by
      rw [List.getD_eq_getElem?_getD, List.getElem?_set_self (by show k - xs.length < 8; exact hl)]; rfl
    rw [← h2] at h3
    exact hne h3
theorem set_same {xs : List Int} {k : Nat} (hk : k < xs.length) : xs.set k (xs.getD k 0) = xs := by
  apply List.ext_getElem
  · simp
  · intro i h1 h2
    rw [List.getElem_set]
    split
    · subst_vars; rw [List.getD_eq_getElem?_getD, List.getElem?_eq_getElem hk]; rfl
    · rfl
theorem set_byt {xs : List Int} {k : Nat} {y : Int} (h : Byt xs) (h0 : 0 ≤ y) (h1 : y ≤ 255) : Byt (xs.set k y) := by
  intro z hz
  rcases List.mem_or_eq_of_mem_set hz with h' | h'
  · exact h z h'
  · subst h'; exact ⟨h0, h1⟩
/-- The digest stands behind just when the bytes behind are its bytes. -/
theorem sum_iff {l : List Int} {d : Nat} (hl : l.length = 8) (hb : Byt l) (hd : d < 18446744073709551616) : d = beVal l ↔ l = be8 d := by
  constructor
  · intro h; rw [h, be8_val hl hb]
  · intro h; rw [h, beVal_be8 hd]
/-- Strings of bytes are alike just when the bytes are. -/
theorem str_inj {a b : List Int} (ha : Byt a) (hb : Byt b) (h : strOfNums a = strOfNums b) : a = b := by
  have h1 : a.map (fun n : Int => UInt8.ofNat n.toNat) = b.map (fun n : Int => UInt8.ofNat n.toNat) := by
    simpa [strOfNums] using h
  have h2 := congrArg (List.map fun u : UInt8 => (u.toNat : Int)) h1
  rw [List.map_map, List.map_map] at h2
  have key : ∀ l : List Int, Byt l → l.map ((fun u : UInt8 => (u.toNat : Int)) ∘ fun n : Int => UInt8.ofNat n.toNat) = l := by
    intro l
    induction l with
    | nil => intro _; rfl
    | cons x l ih =>
      intro hb
      have h := hb x (List.mem_cons_self ..)
      rw [List.map_cons, ih (fun y hy => hb y (List.mem_cons_of_mem _ hy))]
      congr 1
      show ((UInt8.ofNat x.toNat).toNat : Int) = x
      rw [UInt8.toNat_ofNat_of_lt' (by show x.toNat < 256; omega)]
      omega
  rw [key a ha, key b hb] at h2
  exact h2
theorem str_ne {a b : List Int} (ha : Byt a) (hb : Byt b) (h : a ≠ b) : ((strOfNums a).toList == (strOfNums b).toList) = false := by
  rw [beq_eq_false_iff_ne]
  intro e
  apply h
  apply str_inj ha hb
  rw [ByteArray.toList_eq, ByteArray.toList_eq] at e
  exact Go.WideShapes.bytes_inj e
end Go.Proofs.Ytlpigldogglmcaa
