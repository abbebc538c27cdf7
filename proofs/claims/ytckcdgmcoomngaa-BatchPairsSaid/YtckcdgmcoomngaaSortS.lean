/- slices.Sort of a row of texts. -/
import Derived.Test.YtckcdgmcoomngaaKeysU
import Derived.Test.YtckcdgmcoomngaaShelfS
import Derived.Sort.OwnSorted
set_option linter.unusedVariables false
set_option linter.unusedSimpArgs false
namespace Go.Proofs.Ytckcdgmcoomngaa
open Go.RowKit Go.Sort
open Go.Proofs.YtckcdgmcoomngaaW.PrintWords

theorem enc_tl (x : ByteArray) : encStr x.toList = .string x := by
  show Value.string ⟨x.toList.toArray⟩ = _
  rw [Lib.toList_data]
theorem tl_map (xs : List ByteArray) : (xs.map ByteArray.toList).map encStr = xs.flatMap strCells := by
  induction xs with
  | nil => rfl
  | cons x xs ih => rw [List.map_cons, List.map_cons, ih, enc_tl]; rfl
def bl (l : List UInt8) : ByteArray := ⟨l.toArray⟩
theorem bl_map (ts : List (List UInt8)) : ts.map encStr = (ts.map bl).flatMap strCells := by
  induction ts with
  | nil => rfl
  | cons x xs ih => rw [List.map_cons, List.map_cons, ih]; rfl
theorem bl_tl (l : List UInt8) : (bl l).toList = l := by rw [Lib.toList_data]; simp [bl]
theorem tl_bl (x : ByteArray) : bl x.toList = x := toList_inj (bl_tl _)
def sortB (xs : List ByteArray) : List ByteArray := ((xs.map ByteArray.toList).mergeSort fun x y => decide (x ≤ y)).map bl
theorem sortB_mem (xs : List ByteArray) (s : ByteArray) : s ∈ sortB xs ↔ s ∈ xs := by
  unfold sortB
  simp only [List.mem_map, List.mem_mergeSort]
  constructor
  · rintro ⟨l, ⟨x, hx, rfl⟩, rfl⟩
    rw [tl_bl]; exact hx
  · intro h
    exact ⟨s.toList, ⟨s, h, rfl⟩, tl_bl s⟩
theorem sortB_len (xs : List ByteArray) : (sortB xs).length = xs.length := by unfold sortB; simp
theorem sortB_rising {xs : List ByteArray} (h : xs.Nodup) : Rising (sortB xs) := by
  unfold sortB Rising
  rw [List.pairwise_map]
  have h1 : ((xs.map ByteArray.toList).mergeSort fun x y => decide (x ≤ y)).Pairwise (fun a b => decide (a ≤ b) = true) :=
    List.pairwise_mergeSort (fun a b c hab hbc => by simp only [decide_eq_true_eq] at *; exact List.le_trans hab hbc) (fun a b => by
      rcases List.le_total a b with h | h <;> simp [h]) _
  have h2 : ((xs.map ByteArray.toList).mergeSort fun x y => decide (x ≤ y)).Nodup :=
    (List.mergeSort_perm _ _).nodup_iff.2 (List.Pairwise.map _ (fun a b hab e => hab (toList_inj e)) h)
  refine (h1.and h2).imp ?_
  rintro a b ⟨hab, hne⟩
  rw [bl_tl, bl_tl]
  rcases List.le_iff_lt_or_eq.1 (of_decide_eq_true hab) with h | h
  · exact h
  · exact absurd h hne
theorem sort_strs {w : World} {base : Nat} {ok : Nat → Prop} {v : Value} {xs : List ByteArray} (hR : strK.R 9 w base ok v xs) (hsz : xs.length < 4611686018427387904) :
    Calls Try.prog 41 #[v] w fun r w' => r = .returned (.tuple #[]) ∧ strK.R 9 w' base ok v (sortB xs) ∧ Fr (fun b => some b = v.ownBlock) w w' := by
  obtain ⟨hok, inner, hown, hr⟩ := hR
  have hi : inner = xs.flatMap strCells := strFlat.of_reps xs inner (hr.imp_ (fun x c h => strFlat.K (strK.K_of_M h)))
  subst hi
  rcases hown.2 with ⟨hnil, h0⟩ | ⟨g, cap, cur, rfl, hbase, hb, h1, h2, h3, h4⟩
  · subst hnil
    have hx : xs = [] := by
      cases xs with
      | nil => rfl
      | cons x xs => simp at h0
    subst hx
    refine (Try.slices_Sort_string_none none 0 w).mono ?_
    rintro r w' ⟨rfl, rfl⟩
    exact ⟨rfl, by rw [show sortB [] = [] from by simp [sortB]]; exact ⟨hok, _, hown, hr⟩, Fr.refl _ _⟩
  · have hl : (xs.map ByteArray.toList).length = xs.length := List.length_map _
    have hH : Holds encStr w g 0 (xs.map ByteArray.toList).toArray := holds_of_block hb (by rw [hl, tl_map]; rw [show xs.length = xs.length * strK.sz from (Nat.mul_one _).symm]; exact h4)
    have hc := Try.slices_Sort_string g 0 cap (xs.map ByteArray.toList) w hH (Array.getElem?_eq_some_iff.1 hb).1 (by rw [hl]; exact hsz)
    rw [hl] at hc
    refine hc.mono ?_
    rintro r w' ⟨rfl, n, os, rfl⟩
    have ho := ownsRow_sorted (w := w) (base := base) (g := g) (cap := cap) (n := n) (e := 9) (os := os) (cur := cur) (ss := xs.map ByteArray.toList) (ts := (xs.map ByteArray.toList).mergeSort fun x y => decide (x ≤ y)) (by simp) hbase hb (by rw [hl]; exact h1) h2 h3
    rw [hl, bl_map] at ho
    refine ⟨rfl, ⟨hok, _, ?_, strFlat.reps (fun x => strFlat.M _ _ _ x) (sortB xs)⟩, ?_⟩
    · rw [sortB_len]; exact ho
    · exact Fr.of_grown (by
        have := grownBy_sorted (w := w) (g := g) (n := n) (os := os) ((xs.map ByteArray.toList).mergeSort fun x y => decide (x ≤ y)).toArray
        simpa [Value.ownBlock] using this)
end Go.Proofs.Ytckcdgmcoomngaa
